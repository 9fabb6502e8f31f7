/-
  No cell of these rows narrows 'for every input' (looked for: loops, veiled, ifaces, maps, wideKeys, modest, calm, conditions, laid).
  DERIVED. THE GIVEN ROWS OF THIS SEAT. 17 by the template 'for every input the law returns true; each argument reads behind the call as it read before'; 0 by the template 'total and deterministic' (their statements: YtlgjogfcpgfbnaaTotals.lean).
  GIVEN WITH THE SEED: the statements are not yours to turn. If you find one false, say at which input.
  Laid BY PROGRAM, IN A SANDBOX (cutbox-rows.mjs): the forced cells as the released guide's own fill.sh prints them over the translation 2c1e751060925300… (all of the seat's roots in one cut). By AI agents, Wed Nov 11 2026. No macro, syntax, notation, axiom, sorry.
-/
import Derived.Test.YtlgjogfcpgfbnaaChecked
import GoSem.Claim
import GoSem.ClaimJoined
import GoSem.ClaimMapViews
import Derived.JoinedTies
import Derived.KernelRfl
namespace Go.Proofs.Ytlgjogfcpgfbnaa
/- THE CELL 'sum', in the pinned program and in every row, IS THE sha256 OF THE DUMP (.gsa) THAT YtlgjogfcpgfbnaaProg.lean LOADS. Nothing in Lean hashes anything: it is a label: what it is worth is what the hold of that sum in a sandbox is worth. -/
noncomputable def Try.pinned : Pinned := { name := "ytlgjogfcpgfbnaa", sum := "2c1e751060925300b4f724957327eb1fde2f33554931d3e3a070838124c440d2", checked := Try.checked }
namespace Rows
def none {H : Type} : Left H := { results := [], args := [] }

/-- 'laws.FnExactReadKey': WHATEVER THE INPUT: true; the input reads as it did. -/
def fnExactReadKeySpec : ChangeSpec := { name := "fnExactReadKey", fn := fun _ => fun
  | [d] => { results := [.lit (.bool true)], args := [d] }
  | _ => none }
def fnExactReadKeyRow : OpenClaim := { program := "ytlgjogfcpgfbnaa", sum := "2c1e751060925300b4f724957327eb1fde2f33554931d3e3a070838124c440d2", func := "loop.example/g00116/laws.FnExactReadKey", spec := "fnExactReadKey", inPlace := ["internal/bytealg.IndexByteString", "internal/bytealg.IndexString"], named := ["internal/bytealg.MaxLen"], apart := false }
def FnExactReadKeySaid : Prop := fnExactReadKeyRow.holds Try.pinned (OpenSpec.ofChange fnExactReadKeySpec)

/-- ITS FALSE NEIGHBOUR: 'it returns false'. Refute it at one input. -/
def fnExactReadKeyWrong : ChangeSpec := { name := "fnExactReadKey", fn := fun _ => fun
  | [d] => { results := [.lit (.bool false)], args := [d] }
  | _ => none }
def FnExactReadKeyWrongFalsely : Prop := fnExactReadKeyRow.holds Try.pinned (OpenSpec.ofChange fnExactReadKeyWrong)

/-- 'laws.FnExactLevel': WHATEVER THE INPUT: true; the input reads as it did. -/
def fnExactLevelSpec : ChangeSpec := { name := "fnExactLevel", fn := fun _ => fun
  | [d] => { results := [.lit (.bool true)], args := [d] }
  | _ => none }
def fnExactLevelRow : OpenClaim := { program := "ytlgjogfcpgfbnaa", sum := "2c1e751060925300b4f724957327eb1fde2f33554931d3e3a070838124c440d2", func := "loop.example/g00116/laws.FnExactLevel", spec := "fnExactLevel", apart := false }
def FnExactLevelSaid : Prop := fnExactLevelRow.holds Try.pinned (OpenSpec.ofChange fnExactLevelSpec)

/-- ITS FALSE NEIGHBOUR: 'it returns false'. Refute it at one input. -/
def fnExactLevelWrong : ChangeSpec := { name := "fnExactLevel", fn := fun _ => fun
  | [d] => { results := [.lit (.bool false)], args := [d] }
  | _ => none }
def FnExactLevelWrongFalsely : Prop := fnExactLevelRow.holds Try.pinned (OpenSpec.ofChange fnExactLevelWrong)

/-- 'laws.FnExactDeny': WHATEVER THE INPUT: true; the input reads as it did. -/
def fnExactDenySpec : ChangeSpec := { name := "fnExactDeny", fn := fun _ => fun
  | [d] => { results := [.lit (.bool true)], args := [d] }
  | _ => none }
def fnExactDenyRow : OpenClaim := { program := "ytlgjogfcpgfbnaa", sum := "2c1e751060925300b4f724957327eb1fde2f33554931d3e3a070838124c440d2", func := "loop.example/g00116/laws.FnExactDeny", spec := "fnExactDeny", apart := false }
def FnExactDenySaid : Prop := fnExactDenyRow.holds Try.pinned (OpenSpec.ofChange fnExactDenySpec)

/-- ITS FALSE NEIGHBOUR: 'it returns false'. Refute it at one input. -/
def fnExactDenyWrong : ChangeSpec := { name := "fnExactDeny", fn := fun _ => fun
  | [d] => { results := [.lit (.bool false)], args := [d] }
  | _ => none }
def FnExactDenyWrongFalsely : Prop := fnExactDenyRow.holds Try.pinned (OpenSpec.ofChange fnExactDenyWrong)

/-- 'laws.FnExactQuantify': WHATEVER THE INPUT: true; the input reads as it did. -/
def fnExactQuantifySpec : ChangeSpec := { name := "fnExactQuantify", fn := fun _ => fun
  | [d1, d2, d3, d4] => { results := [.lit (.bool true)], args := [d1, d2, d3, d4] }
  | _ => none }
def fnExactQuantifyRow : OpenClaim := { program := "ytlgjogfcpgfbnaa", sum := "2c1e751060925300b4f724957327eb1fde2f33554931d3e3a070838124c440d2", func := "loop.example/g00116/laws.FnExactQuantify", spec := "fnExactQuantify", apart := false }
def FnExactQuantifySaid : Prop := fnExactQuantifyRow.holds Try.pinned (OpenSpec.ofChange fnExactQuantifySpec)

/-- ITS FALSE NEIGHBOUR: 'it returns false'. Refute it at one input. -/
def fnExactQuantifyWrong : ChangeSpec := { name := "fnExactQuantify", fn := fun _ => fun
  | [d1, d2, d3, d4] => { results := [.lit (.bool false)], args := [d1, d2, d3, d4] }
  | _ => none }
def FnExactQuantifyWrongFalsely : Prop := fnExactQuantifyRow.holds Try.pinned (OpenSpec.ofChange fnExactQuantifyWrong)

/-- 'laws.FnExactCountOp': WHATEVER THE INPUT: true; the input reads as it did. -/
def fnExactCountOpSpec : ChangeSpec := { name := "fnExactCountOp", fn := fun _ => fun
  | [d1, d2] => { results := [.lit (.bool true)], args := [d1, d2] }
  | _ => none }
def fnExactCountOpRow : OpenClaim := { program := "ytlgjogfcpgfbnaa", sum := "2c1e751060925300b4f724957327eb1fde2f33554931d3e3a070838124c440d2", func := "loop.example/g00116/laws.FnExactCountOp", spec := "fnExactCountOp", unfollowed := true, recurses := true, apart := false }
def FnExactCountOpSaid : Prop := fnExactCountOpRow.holds Try.pinned (OpenSpec.ofChange fnExactCountOpSpec)

/-- ITS FALSE NEIGHBOUR: 'it returns false'. Refute it at one input. -/
def fnExactCountOpWrong : ChangeSpec := { name := "fnExactCountOp", fn := fun _ => fun
  | [d1, d2] => { results := [.lit (.bool false)], args := [d1, d2] }
  | _ => none }
def FnExactCountOpWrongFalsely : Prop := fnExactCountOpRow.holds Try.pinned (OpenSpec.ofChange fnExactCountOpWrong)

/-- 'laws.FnExactRename': WHATEVER THE INPUT: true; the input reads as it did. -/
def fnExactRenameSpec : ChangeSpec := { name := "fnExactRename", fn := fun _ => fun
  | [d1, d2, d3] => { results := [.lit (.bool true)], args := [d1, d2, d3] }
  | _ => none }
def fnExactRenameRow : OpenClaim := { program := "ytlgjogfcpgfbnaa", sum := "2c1e751060925300b4f724957327eb1fde2f33554931d3e3a070838124c440d2", func := "loop.example/g00116/laws.FnExactRename", spec := "fnExactRename", apart := false }
def FnExactRenameSaid : Prop := fnExactRenameRow.holds Try.pinned (OpenSpec.ofChange fnExactRenameSpec)

/-- ITS FALSE NEIGHBOUR: 'it returns false'. Refute it at one input. -/
def fnExactRenameWrong : ChangeSpec := { name := "fnExactRename", fn := fun _ => fun
  | [d1, d2, d3] => { results := [.lit (.bool false)], args := [d1, d2, d3] }
  | _ => none }
def FnExactRenameWrongFalsely : Prop := fnExactRenameRow.holds Try.pinned (OpenSpec.ofChange fnExactRenameWrong)

/-- 'laws.FnExactJobOk': WHATEVER THE INPUT: true; the input reads as it did. -/
def fnExactJobOkSpec : ChangeSpec := { name := "fnExactJobOk", fn := fun _ => fun
  | [d] => { results := [.lit (.bool true)], args := [d] }
  | _ => none }
def fnExactJobOkRow : OpenClaim := { program := "ytlgjogfcpgfbnaa", sum := "2c1e751060925300b4f724957327eb1fde2f33554931d3e3a070838124c440d2", func := "loop.example/g00116/laws.FnExactJobOk", spec := "fnExactJobOk", apart := false }
def FnExactJobOkSaid : Prop := fnExactJobOkRow.holds Try.pinned (OpenSpec.ofChange fnExactJobOkSpec)

/-- ITS FALSE NEIGHBOUR: 'it returns false'. Refute it at one input. -/
def fnExactJobOkWrong : ChangeSpec := { name := "fnExactJobOk", fn := fun _ => fun
  | [d] => { results := [.lit (.bool false)], args := [d] }
  | _ => none }
def FnExactJobOkWrongFalsely : Prop := fnExactJobOkRow.holds Try.pinned (OpenSpec.ofChange fnExactJobOkWrong)

/-- 'laws.FnExactVars': WHATEVER THE INPUT: true; the input reads as it did. -/
def fnExactVarsSpec : ChangeSpec := { name := "fnExactVars", fn := fun _ => fun
  | [d] => { results := [.lit (.bool true)], args := [d] }
  | _ => none }
def fnExactVarsRow : OpenClaim := { program := "ytlgjogfcpgfbnaa", sum := "2c1e751060925300b4f724957327eb1fde2f33554931d3e3a070838124c440d2", func := "loop.example/g00116/laws.FnExactVars", spec := "fnExactVars", unfollowed := true, recurses := true, apart := false }
def FnExactVarsSaid : Prop := fnExactVarsRow.holds Try.pinned (OpenSpec.ofChange fnExactVarsSpec)

/-- ITS FALSE NEIGHBOUR: 'it returns false'. Refute it at one input. -/
def fnExactVarsWrong : ChangeSpec := { name := "fnExactVars", fn := fun _ => fun
  | [d] => { results := [.lit (.bool false)], args := [d] }
  | _ => none }
def FnExactVarsWrongFalsely : Prop := fnExactVarsRow.holds Try.pinned (OpenSpec.ofChange fnExactVarsWrong)

/-- 'laws.FnExactJobVerdict': WHATEVER THE INPUT: true; the input reads as it did. -/
def fnExactJobVerdictSpec : ChangeSpec := { name := "fnExactJobVerdict", fn := fun _ => fun
  | [d] => { results := [.lit (.bool true)], args := [d] }
  | _ => none }
def fnExactJobVerdictRow : OpenClaim := { program := "ytlgjogfcpgfbnaa", sum := "2c1e751060925300b4f724957327eb1fde2f33554931d3e3a070838124c440d2", func := "loop.example/g00116/laws.FnExactJobVerdict", spec := "fnExactJobVerdict", apart := false }
def FnExactJobVerdictSaid : Prop := fnExactJobVerdictRow.holds Try.pinned (OpenSpec.ofChange fnExactJobVerdictSpec)

/-- ITS FALSE NEIGHBOUR: 'it returns false'. Refute it at one input. -/
def fnExactJobVerdictWrong : ChangeSpec := { name := "fnExactJobVerdict", fn := fun _ => fun
  | [d] => { results := [.lit (.bool false)], args := [d] }
  | _ => none }
def FnExactJobVerdictWrongFalsely : Prop := fnExactJobVerdictRow.holds Try.pinned (OpenSpec.ofChange fnExactJobVerdictWrong)

/-- 'laws.FnExactCloseAll': WHATEVER THE INPUT: true; the input reads as it did. -/
def fnExactCloseAllSpec : ChangeSpec := { name := "fnExactCloseAll", fn := fun _ => fun
  | [d] => { results := [.lit (.bool true)], args := [d] }
  | _ => none }
def fnExactCloseAllRow : OpenClaim := { program := "ytlgjogfcpgfbnaa", sum := "2c1e751060925300b4f724957327eb1fde2f33554931d3e3a070838124c440d2", func := "loop.example/g00116/laws.FnExactCloseAll", spec := "fnExactCloseAll", unfollowed := true, recurses := true, apart := false }
def FnExactCloseAllSaid : Prop := fnExactCloseAllRow.holds Try.pinned (OpenSpec.ofChange fnExactCloseAllSpec)

/-- ITS FALSE NEIGHBOUR: 'it returns false'. Refute it at one input. -/
def fnExactCloseAllWrong : ChangeSpec := { name := "fnExactCloseAll", fn := fun _ => fun
  | [d] => { results := [.lit (.bool false)], args := [d] }
  | _ => none }
def FnExactCloseAllWrongFalsely : Prop := fnExactCloseAllRow.holds Try.pinned (OpenSpec.ofChange fnExactCloseAllWrong)

/-- 'laws.FnExactSaveMachine': WHATEVER THE INPUT: true; the input reads as it did. -/
def fnExactSaveMachineSpec : ChangeSpec := { name := "fnExactSaveMachine", fn := fun _ => fun
  | [d] => { results := [.lit (.bool true)], args := [d] }
  | _ => none }
def fnExactSaveMachineRow : OpenClaim := { program := "ytlgjogfcpgfbnaa", sum := "2c1e751060925300b4f724957327eb1fde2f33554931d3e3a070838124c440d2", func := "loop.example/g00116/laws.FnExactSaveMachine", spec := "fnExactSaveMachine", inPlace := ["internal/abi.NoEscape", "internal/bytealg.MakeNoZero"], apart := false }
def FnExactSaveMachineSaid : Prop := fnExactSaveMachineRow.holds Try.pinned (OpenSpec.ofChange fnExactSaveMachineSpec)

/-- ITS FALSE NEIGHBOUR: 'it returns false'. Refute it at one input. -/
def fnExactSaveMachineWrong : ChangeSpec := { name := "fnExactSaveMachine", fn := fun _ => fun
  | [d] => { results := [.lit (.bool false)], args := [d] }
  | _ => none }
def FnExactSaveMachineWrongFalsely : Prop := fnExactSaveMachineRow.holds Try.pinned (OpenSpec.ofChange fnExactSaveMachineWrong)

/-- 'laws.FnCounts': WHATEVER THE INPUT: true; the input reads as it did. -/
def fnCountsSpec : ChangeSpec := { name := "fnCounts", fn := fun _ => fun
  | [d] => { results := [.lit (.bool true)], args := [d] }
  | _ => none }
def fnCountsRow : OpenClaim := { program := "ytlgjogfcpgfbnaa", sum := "2c1e751060925300b4f724957327eb1fde2f33554931d3e3a070838124c440d2", func := "loop.example/g00116/laws.FnCounts", spec := "fnCounts", unfollowed := true, recurses := true, apart := false }
def FnCountsSaid : Prop := fnCountsRow.holds Try.pinned (OpenSpec.ofChange fnCountsSpec)

/-- ITS FALSE NEIGHBOUR: 'it returns false'. Refute it at one input. -/
def fnCountsWrong : ChangeSpec := { name := "fnCounts", fn := fun _ => fun
  | [d] => { results := [.lit (.bool false)], args := [d] }
  | _ => none }
def FnCountsWrongFalsely : Prop := fnCountsRow.holds Try.pinned (OpenSpec.ofChange fnCountsWrong)

/-- 'laws.FnExactBoth': WHATEVER THE INPUT: true; the input reads as it did. -/
def fnExactBothSpec : ChangeSpec := { name := "fnExactBoth", fn := fun _ => fun
  | [d1, d2] => { results := [.lit (.bool true)], args := [d1, d2] }
  | _ => none }
def fnExactBothRow : OpenClaim := { program := "ytlgjogfcpgfbnaa", sum := "2c1e751060925300b4f724957327eb1fde2f33554931d3e3a070838124c440d2", func := "loop.example/g00116/laws.FnExactBoth", spec := "fnExactBoth", unfollowed := true, recurses := true, apart := false }
def FnExactBothSaid : Prop := fnExactBothRow.holds Try.pinned (OpenSpec.ofChange fnExactBothSpec)

/-- ITS FALSE NEIGHBOUR: 'it returns false'. Refute it at one input. -/
def fnExactBothWrong : ChangeSpec := { name := "fnExactBoth", fn := fun _ => fun
  | [d1, d2] => { results := [.lit (.bool false)], args := [d1, d2] }
  | _ => none }
def FnExactBothWrongFalsely : Prop := fnExactBothRow.holds Try.pinned (OpenSpec.ofChange fnExactBothWrong)

/-- 'laws.FnExactFold': WHATEVER THE INPUT: true; the input reads as it did. -/
def fnExactFoldSpec : ChangeSpec := { name := "fnExactFold", fn := fun _ => fun
  | [d] => { results := [.lit (.bool true)], args := [d] }
  | _ => none }
def fnExactFoldRow : OpenClaim := { program := "ytlgjogfcpgfbnaa", sum := "2c1e751060925300b4f724957327eb1fde2f33554931d3e3a070838124c440d2", func := "loop.example/g00116/laws.FnExactFold", spec := "fnExactFold", unfollowed := true, recurses := true, apart := false }
def FnExactFoldSaid : Prop := fnExactFoldRow.holds Try.pinned (OpenSpec.ofChange fnExactFoldSpec)

/-- ITS FALSE NEIGHBOUR: 'it returns false'. Refute it at one input. -/
def fnExactFoldWrong : ChangeSpec := { name := "fnExactFold", fn := fun _ => fun
  | [d] => { results := [.lit (.bool false)], args := [d] }
  | _ => none }
def FnExactFoldWrongFalsely : Prop := fnExactFoldRow.holds Try.pinned (OpenSpec.ofChange fnExactFoldWrong)

/-- 'laws.FnSteps': WHATEVER THE INPUT: true; the input reads as it did. -/
def fnStepsSpec : ChangeSpec := { name := "fnSteps", fn := fun _ => fun
  | [d] => { results := [.lit (.bool true)], args := [d] }
  | _ => none }
def fnStepsRow : OpenClaim := { program := "ytlgjogfcpgfbnaa", sum := "2c1e751060925300b4f724957327eb1fde2f33554931d3e3a070838124c440d2", func := "loop.example/g00116/laws.FnSteps", spec := "fnSteps", inPlace := ["internal/bytealg.IndexByteString", "internal/bytealg.IndexString", "internal/abi.NoEscape", "internal/bytealg.MakeNoZero"], unfollowed := true, recurses := true, named := ["internal/bytealg.MaxLen"], apart := false }
def FnStepsSaid : Prop := fnStepsRow.holds Try.pinned (OpenSpec.ofChange fnStepsSpec)

/-- ITS FALSE NEIGHBOUR: 'it returns false'. Refute it at one input. -/
def fnStepsWrong : ChangeSpec := { name := "fnSteps", fn := fun _ => fun
  | [d] => { results := [.lit (.bool false)], args := [d] }
  | _ => none }
def FnStepsWrongFalsely : Prop := fnStepsRow.holds Try.pinned (OpenSpec.ofChange fnStepsWrong)

/-- 'laws.FnFold': WHATEVER THE INPUT: true; the input reads as it did. -/
def fnFoldSpec : ChangeSpec := { name := "fnFold", fn := fun _ => fun
  | [d] => { results := [.lit (.bool true)], args := [d] }
  | _ => none }
def fnFoldRow : OpenClaim := { program := "ytlgjogfcpgfbnaa", sum := "2c1e751060925300b4f724957327eb1fde2f33554931d3e3a070838124c440d2", func := "loop.example/g00116/laws.FnFold", spec := "fnFold", unfollowed := true, recurses := true, apart := false }
def FnFoldSaid : Prop := fnFoldRow.holds Try.pinned (OpenSpec.ofChange fnFoldSpec)

/-- ITS FALSE NEIGHBOUR: 'it returns false'. Refute it at one input. -/
def fnFoldWrong : ChangeSpec := { name := "fnFold", fn := fun _ => fun
  | [d] => { results := [.lit (.bool false)], args := [d] }
  | _ => none }
def FnFoldWrongFalsely : Prop := fnFoldRow.holds Try.pinned (OpenSpec.ofChange fnFoldWrong)

/-- 'laws.FnExactValid': WHATEVER THE INPUT: true; the input reads as it did. -/
def fnExactValidSpec : ChangeSpec := { name := "fnExactValid", fn := fun _ => fun
  | [d] => { results := [.lit (.bool true)], args := [d] }
  | _ => none }
def fnExactValidRow : OpenClaim := { program := "ytlgjogfcpgfbnaa", sum := "2c1e751060925300b4f724957327eb1fde2f33554931d3e3a070838124c440d2", func := "loop.example/g00116/laws.FnExactValid", spec := "fnExactValid", unfollowed := true, recurses := true, apart := false }
def FnExactValidSaid : Prop := fnExactValidRow.holds Try.pinned (OpenSpec.ofChange fnExactValidSpec)

/-- ITS FALSE NEIGHBOUR: 'it returns false'. Refute it at one input. -/
def fnExactValidWrong : ChangeSpec := { name := "fnExactValid", fn := fun _ => fun
  | [d] => { results := [.lit (.bool false)], args := [d] }
  | _ => none }
def FnExactValidWrongFalsely : Prop := fnExactValidRow.holds Try.pinned (OpenSpec.ofChange fnExactValidWrong)

/- THE SECOND FORM. 'bulk': how many values and letters a reading holds, each counted each time it is reached (what is shared counts as often as it is met; a slice's spare places count too). A statement '..UptoSaid' is the law's where the arguments, and the package variables that the reading takes, are together of bulk at most 1048576: NARROWER than '..Said'. Prove '..Said' where nothing that the law and all that it calls make is longer than what came in: it says more and counts as full. Else prove '..UptoSaid'. A law counts once. -/
mutual
def uptoBulk {H : Type} : DataW H → Nat
  | .lit (.string bytes) => bytes.length + 1
  | .lit _ => 1
  | .nil => 1
  | .ptr d => uptoBulk d + 1
  | .slice elems spare => uptoBulkAll elems + uptoBulkAll spare + 1
  | .agg parts => uptoBulkAll parts + 1
  | .iface _ d => uptoBulk d + 1
  | .map entries => uptoBulkEntries entries + 1
  | .held _ => 1
def uptoBulkAll {H : Type} : List (DataW H) → Nat
  | [] => 0
  | d :: r => uptoBulk d + uptoBulkAll r
def uptoBulkEntries {H : Type} : List (Lit × DataW H) → Nat
  | [] => 0
  | x :: r => uptoBulkEntry x + uptoBulkEntries r
def uptoBulkEntry {H : Type} : Lit × DataW H → Nat
  | (.string bytes, d) => bytes.length + uptoBulk d + 1
  | (_, d) => uptoBulk d + 1
 end
def uptoSmall : (H : Type) → List (DataW H) → Bool := fun _ ds => decide (uptoBulkAll ds ≤ 1048576)
def OpenSpec.upto (s : _root_.Go.ChangeSpec) : _root_.Go.OpenSpec := { _root_.Go.OpenSpec.ofChange s with cond := some uptoSmall }

/-- 'laws.FnExactReadKey', WHERE WHAT IT READS IS OF BULK AT MOST 1048576: true; the input reads as it did. -/
def fnExactReadKeyUptoRow : OpenClaim := { program := "ytlgjogfcpgfbnaa", sum := "2c1e751060925300b4f724957327eb1fde2f33554931d3e3a070838124c440d2", func := "loop.example/g00116/laws.FnExactReadKey", spec := "fnExactReadKey", inPlace := ["internal/bytealg.IndexByteString", "internal/bytealg.IndexString"], named := ["internal/bytealg.MaxLen"], apart := false, narrowed := true }
def FnExactReadKeyUptoSaid : Prop := fnExactReadKeyUptoRow.holds Try.pinned (OpenSpec.upto fnExactReadKeySpec)

/-- 'laws.FnExactLevel', WHERE WHAT IT READS IS OF BULK AT MOST 1048576: true; the input reads as it did. -/
def fnExactLevelUptoRow : OpenClaim := { program := "ytlgjogfcpgfbnaa", sum := "2c1e751060925300b4f724957327eb1fde2f33554931d3e3a070838124c440d2", func := "loop.example/g00116/laws.FnExactLevel", spec := "fnExactLevel", apart := false, narrowed := true }
def FnExactLevelUptoSaid : Prop := fnExactLevelUptoRow.holds Try.pinned (OpenSpec.upto fnExactLevelSpec)

/-- 'laws.FnExactDeny', WHERE WHAT IT READS IS OF BULK AT MOST 1048576: true; the input reads as it did. -/
def fnExactDenyUptoRow : OpenClaim := { program := "ytlgjogfcpgfbnaa", sum := "2c1e751060925300b4f724957327eb1fde2f33554931d3e3a070838124c440d2", func := "loop.example/g00116/laws.FnExactDeny", spec := "fnExactDeny", apart := false, narrowed := true }
def FnExactDenyUptoSaid : Prop := fnExactDenyUptoRow.holds Try.pinned (OpenSpec.upto fnExactDenySpec)

/-- 'laws.FnExactQuantify', WHERE WHAT IT READS IS OF BULK AT MOST 1048576: true; the input reads as it did. -/
def fnExactQuantifyUptoRow : OpenClaim := { program := "ytlgjogfcpgfbnaa", sum := "2c1e751060925300b4f724957327eb1fde2f33554931d3e3a070838124c440d2", func := "loop.example/g00116/laws.FnExactQuantify", spec := "fnExactQuantify", apart := false, narrowed := true }
def FnExactQuantifyUptoSaid : Prop := fnExactQuantifyUptoRow.holds Try.pinned (OpenSpec.upto fnExactQuantifySpec)

/-- 'laws.FnExactCountOp', WHERE WHAT IT READS IS OF BULK AT MOST 1048576: true; the input reads as it did. -/
def fnExactCountOpUptoRow : OpenClaim := { program := "ytlgjogfcpgfbnaa", sum := "2c1e751060925300b4f724957327eb1fde2f33554931d3e3a070838124c440d2", func := "loop.example/g00116/laws.FnExactCountOp", spec := "fnExactCountOp", unfollowed := true, recurses := true, apart := false, narrowed := true }
def FnExactCountOpUptoSaid : Prop := fnExactCountOpUptoRow.holds Try.pinned (OpenSpec.upto fnExactCountOpSpec)

/-- 'laws.FnExactRename', WHERE WHAT IT READS IS OF BULK AT MOST 1048576: true; the input reads as it did. -/
def fnExactRenameUptoRow : OpenClaim := { program := "ytlgjogfcpgfbnaa", sum := "2c1e751060925300b4f724957327eb1fde2f33554931d3e3a070838124c440d2", func := "loop.example/g00116/laws.FnExactRename", spec := "fnExactRename", apart := false, narrowed := true }
def FnExactRenameUptoSaid : Prop := fnExactRenameUptoRow.holds Try.pinned (OpenSpec.upto fnExactRenameSpec)

/-- 'laws.FnExactJobOk', WHERE WHAT IT READS IS OF BULK AT MOST 1048576: true; the input reads as it did. -/
def fnExactJobOkUptoRow : OpenClaim := { program := "ytlgjogfcpgfbnaa", sum := "2c1e751060925300b4f724957327eb1fde2f33554931d3e3a070838124c440d2", func := "loop.example/g00116/laws.FnExactJobOk", spec := "fnExactJobOk", apart := false, narrowed := true }
def FnExactJobOkUptoSaid : Prop := fnExactJobOkUptoRow.holds Try.pinned (OpenSpec.upto fnExactJobOkSpec)

/-- 'laws.FnExactVars', WHERE WHAT IT READS IS OF BULK AT MOST 1048576: true; the input reads as it did. -/
def fnExactVarsUptoRow : OpenClaim := { program := "ytlgjogfcpgfbnaa", sum := "2c1e751060925300b4f724957327eb1fde2f33554931d3e3a070838124c440d2", func := "loop.example/g00116/laws.FnExactVars", spec := "fnExactVars", unfollowed := true, recurses := true, apart := false, narrowed := true }
def FnExactVarsUptoSaid : Prop := fnExactVarsUptoRow.holds Try.pinned (OpenSpec.upto fnExactVarsSpec)

/-- 'laws.FnExactJobVerdict', WHERE WHAT IT READS IS OF BULK AT MOST 1048576: true; the input reads as it did. -/
def fnExactJobVerdictUptoRow : OpenClaim := { program := "ytlgjogfcpgfbnaa", sum := "2c1e751060925300b4f724957327eb1fde2f33554931d3e3a070838124c440d2", func := "loop.example/g00116/laws.FnExactJobVerdict", spec := "fnExactJobVerdict", apart := false, narrowed := true }
def FnExactJobVerdictUptoSaid : Prop := fnExactJobVerdictUptoRow.holds Try.pinned (OpenSpec.upto fnExactJobVerdictSpec)

/-- 'laws.FnExactCloseAll', WHERE WHAT IT READS IS OF BULK AT MOST 1048576: true; the input reads as it did. -/
def fnExactCloseAllUptoRow : OpenClaim := { program := "ytlgjogfcpgfbnaa", sum := "2c1e751060925300b4f724957327eb1fde2f33554931d3e3a070838124c440d2", func := "loop.example/g00116/laws.FnExactCloseAll", spec := "fnExactCloseAll", unfollowed := true, recurses := true, apart := false, narrowed := true }
def FnExactCloseAllUptoSaid : Prop := fnExactCloseAllUptoRow.holds Try.pinned (OpenSpec.upto fnExactCloseAllSpec)

/-- 'laws.FnExactSaveMachine', WHERE WHAT IT READS IS OF BULK AT MOST 1048576: true; the input reads as it did. -/
def fnExactSaveMachineUptoRow : OpenClaim := { program := "ytlgjogfcpgfbnaa", sum := "2c1e751060925300b4f724957327eb1fde2f33554931d3e3a070838124c440d2", func := "loop.example/g00116/laws.FnExactSaveMachine", spec := "fnExactSaveMachine", inPlace := ["internal/abi.NoEscape", "internal/bytealg.MakeNoZero"], apart := false, narrowed := true }
def FnExactSaveMachineUptoSaid : Prop := fnExactSaveMachineUptoRow.holds Try.pinned (OpenSpec.upto fnExactSaveMachineSpec)

/-- 'laws.FnCounts', WHERE WHAT IT READS IS OF BULK AT MOST 1048576: true; the input reads as it did. -/
def fnCountsUptoRow : OpenClaim := { program := "ytlgjogfcpgfbnaa", sum := "2c1e751060925300b4f724957327eb1fde2f33554931d3e3a070838124c440d2", func := "loop.example/g00116/laws.FnCounts", spec := "fnCounts", unfollowed := true, recurses := true, apart := false, narrowed := true }
def FnCountsUptoSaid : Prop := fnCountsUptoRow.holds Try.pinned (OpenSpec.upto fnCountsSpec)

/-- 'laws.FnExactBoth', WHERE WHAT IT READS IS OF BULK AT MOST 1048576: true; the input reads as it did. -/
def fnExactBothUptoRow : OpenClaim := { program := "ytlgjogfcpgfbnaa", sum := "2c1e751060925300b4f724957327eb1fde2f33554931d3e3a070838124c440d2", func := "loop.example/g00116/laws.FnExactBoth", spec := "fnExactBoth", unfollowed := true, recurses := true, apart := false, narrowed := true }
def FnExactBothUptoSaid : Prop := fnExactBothUptoRow.holds Try.pinned (OpenSpec.upto fnExactBothSpec)

/-- 'laws.FnExactFold', WHERE WHAT IT READS IS OF BULK AT MOST 1048576: true; the input reads as it did. -/
def fnExactFoldUptoRow : OpenClaim := { program := "ytlgjogfcpgfbnaa", sum := "2c1e751060925300b4f724957327eb1fde2f33554931d3e3a070838124c440d2", func := "loop.example/g00116/laws.FnExactFold", spec := "fnExactFold", unfollowed := true, recurses := true, apart := false, narrowed := true }
def FnExactFoldUptoSaid : Prop := fnExactFoldUptoRow.holds Try.pinned (OpenSpec.upto fnExactFoldSpec)

/-- 'laws.FnSteps', WHERE WHAT IT READS IS OF BULK AT MOST 1048576: true; the input reads as it did. -/
def fnStepsUptoRow : OpenClaim := { program := "ytlgjogfcpgfbnaa", sum := "2c1e751060925300b4f724957327eb1fde2f33554931d3e3a070838124c440d2", func := "loop.example/g00116/laws.FnSteps", spec := "fnSteps", inPlace := ["internal/bytealg.IndexByteString", "internal/bytealg.IndexString", "internal/abi.NoEscape", "internal/bytealg.MakeNoZero"], unfollowed := true, recurses := true, named := ["internal/bytealg.MaxLen"], apart := false, narrowed := true }
def FnStepsUptoSaid : Prop := fnStepsUptoRow.holds Try.pinned (OpenSpec.upto fnStepsSpec)

/-- 'laws.FnFold', WHERE WHAT IT READS IS OF BULK AT MOST 1048576: true; the input reads as it did. -/
def fnFoldUptoRow : OpenClaim := { program := "ytlgjogfcpgfbnaa", sum := "2c1e751060925300b4f724957327eb1fde2f33554931d3e3a070838124c440d2", func := "loop.example/g00116/laws.FnFold", spec := "fnFold", unfollowed := true, recurses := true, apart := false, narrowed := true }
def FnFoldUptoSaid : Prop := fnFoldUptoRow.holds Try.pinned (OpenSpec.upto fnFoldSpec)

/-- 'laws.FnExactValid', WHERE WHAT IT READS IS OF BULK AT MOST 1048576: true; the input reads as it did. -/
def fnExactValidUptoRow : OpenClaim := { program := "ytlgjogfcpgfbnaa", sum := "2c1e751060925300b4f724957327eb1fde2f33554931d3e3a070838124c440d2", func := "loop.example/g00116/laws.FnExactValid", spec := "fnExactValid", unfollowed := true, recurses := true, apart := false, narrowed := true }
def FnExactValidUptoSaid : Prop := fnExactValidUptoRow.holds Try.pinned (OpenSpec.upto fnExactValidSpec)

end Rows
end Go.Proofs.Ytlgjogfcpgfbnaa
