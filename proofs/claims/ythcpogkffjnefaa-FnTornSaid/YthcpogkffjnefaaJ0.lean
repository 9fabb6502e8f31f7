/- What the contracts of this claim stand on: the forms of the values. Conditions: those that a theorem names. -/
import Derived.Test.YthcpogkffjnefaaProg
import Derived.Below
import Derived.Deep.Draws
import Derived.Deep.AppendLies
import Derived.Maps.AppendAt
import Derived.OwnWalk
import Derived.Laws.BytesArg
import Derived.Laws.MakeOwn
import Derived.Laws.OwnMore
import Derived.Deep.OwnRows
import Derived.Tactics
import Derived.Lib.ConvBytes
import Derived.Laws.Slices
import Derived.WalkKit
import Derived.KernelRfl
import Derived.RowKit3
import Derived.Deep.LoopGhost
import Derived.Deep.QuietTactic
import Derived.BigQuiet
import Derived.WideLaws
import Derived.Deep.DeepCutAuto
import Derived.Deep.CutBlock
import Derived.Deep.RegionHeld3
import Derived.Laws.Rows
import Derived.Lib.AppendStr
import Derived.ArgAppend
import Derived.Laws.IdiomCopy
import Derived.OrdersHeld
import Derived.Laws.BitsLemmas
import Derived.RowKit
import Derived.Test.YthcpogkffjnefaaWWords
import Derived.Test.YthcpogkffjnefaaWLast
import Derived.Test.YthcpogkffjnefaaWTab
import Derived.Test.YthcpogkffjnefaaWFour
import Derived.Test.YthcpogkffjnefaaWQPut
import Derived.Test.YthcpogkffjnefaaWApart
import Derived.Test.YthcpogkffjnefaaWArr
import Derived.Test.YthcpogkffjnefaaWZeros
import Derived.Test.YthcpogkffjnefaaWFoot
import Derived.Test.YthcpogkffjnefaaWKept
import Derived.Test.YthcpogkffjnefaaWShare
import Derived.Test.YthcpogkffjnefaaWN
import Derived.Test.YthcpogkffjnefaaWFootNe
import Derived.Test.YthcpogkffjnefaaWAt
import Derived.Test.YthcpogkffjnefaaWEqStruct
import Derived.Test.YthcpogkffjnefaaWRepsOne
import Derived.Test.YthcpogkffjnefaaWInv
import Derived.Test.YthcpogkffjnefaaWInvWords
import Derived.Test.YthcpogkffjnefaaWGuard
import Derived.Test.YthcpogkffjnefaaWNEv
import Derived.Test.YthcpogkffjnefaaWMore
namespace Go.Proofs.Ythcpogkffjnefaa.J
open Go.RowKit Go.Proofs.YthcpogkffjnefaaW.PrintWords Go.Proofs.YthcpogkffjnefaaW.PrintLast Go.Proofs.YthcpogkffjnefaaW.PrintMore
attribute [local go_sem] max2_int min2_int max_two min_two max_three min_three max_four min_four   -- for this text's walks alone
set_option linter.unusedVariables false
set_option linter.unusedSimpArgs false



def errW : Option Int → Value
  | none => .nilIface
  | some c => .iface 0 (.int .i64 c)
theorem errW_none : errW none = .nilIface := rfl
theorem errW_some (c : Int) : errW (some c) = .iface 0 (.int .i64 c) := rfl

theorem info3 : (Try.prog.info? 3).map (fun i => (i.zero, i.size, i.bytes)) = some (some (.int .i64 0), 1, 8) := by kernel_rfl
theorem info4 : (Try.prog.info? 4).map (fun i => (i.zero, i.size, i.bytes)) = some (some (.bool false), 1, 1) := by kernel_rfl
theorem info5 : (Try.prog.info? 5).map (fun i => (i.zero, i.size, i.bytes)) = some (some (.int .u8 0), 1, 1) := by kernel_rfl
theorem info9 : (Try.prog.info? 9).map (fun i => (i.zero, i.size, i.bytes)) = some (some (.string ⟨#[]⟩), 1, 16) := by kernel_rfl
-- the values' own types

end Go.Proofs.Ythcpogkffjnefaa.J
