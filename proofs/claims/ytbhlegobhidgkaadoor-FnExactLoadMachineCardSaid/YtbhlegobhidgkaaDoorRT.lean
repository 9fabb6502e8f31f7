/- The types and functions of this seat's program, as the abstract memory reads them. Conditions: none. -/
import Derived.Test.YtbhlegobhidgkaaDoorProg
import Derived.Test.YtbhlegobhidgkaaDoorRN
import Derived.KernelRfl
set_option linter.unusedVariables false
namespace Go.Proofs.YtbhlegobhidgkaaDoor.RE
open Go
def tyT : TypeId → Option TyI
  | 3 => some ⟨.int .i64, 1, 8, [.sc (.int .i64 0)]⟩
  | 4 => some ⟨.bool, 1, 1, [.sc (.bool false)]⟩
  | 5 => some ⟨.int .u8, 1, 1, [.sc (.int .u8 0)]⟩
  | 9 => some ⟨.str, 1, 16, [.sc (.string ⟨#[]⟩)]⟩
  | 21 => some ⟨.int .i32, 1, 4, [.sc (.int .i32 0)]⟩
  | 22 => some ⟨.sl 5, 1, 24, [.nils]⟩
  | 24 => some ⟨.sl 4, 1, 24, [.nils]⟩
  | 26 => some ⟨.st [(3, 0), (9, 1)], 2, 24, [.sc (.int .i64 0), .sc (.string ⟨#[]⟩)]⟩
  | 27 => some ⟨.sl 3, 1, 24, [.nils]⟩
  | 28 => some ⟨.sl 56, 1, 24, [.nils]⟩
  | 30 => some ⟨.st [(24, 0), (26, 1), (3, 3), (27, 4), (3, 5), (4, 6), (3, 7), (3, 8), (3, 9), (28, 10)], 11, 144, [.nils, .sc (.int .i64 0), .sc (.string ⟨#[]⟩), .sc (.int .i64 0), .nils, .sc (.int .i64 0), .sc (.bool false), .sc (.int .i64 0), .sc (.int .i64 0), .sc (.int .i64 0), .nils]⟩
  | 54 => some ⟨.sl 9, 1, 24, [.nils]⟩
  | 56 => some ⟨.st [(9, 0), (3, 1)], 2, 24, [.sc (.string ⟨#[]⟩), .sc (.int .i64 0)]⟩
  | 69 => some ⟨.sl 54, 1, 24, [.nils]⟩
  | 81 => some ⟨.other, 1, 8, [.sc (.map none)]⟩
  | 84 => some ⟨.st [(22, 0), (3, 1), (3, 2)], 3, 40, [.nils, .sc (.int .i64 0), .sc (.int .i64 0)]⟩
  | 91 => some ⟨.int .u64, 1, 8, [.sc (.int .u64 0)]⟩
  | 93 => some ⟨.other, 1, 8, [.sc (.pointer none)]⟩
  | 111 => some ⟨.int .u64, 1, 8, [.sc (.int .u64 0)]⟩
  | 112 => some ⟨.other, 1, 8, [.sc (.pointer none)]⟩
  | 130 => some ⟨.arr 256 5, 256, 256, [.sc (.int .u8 0), .sc (.int .u8 0), .sc (.int .u8 0), .sc (.int .u8 0), .sc (.int .u8 0), .sc (.int .u8 0), .sc (.int .u8 0), .sc (.int .u8 0), .sc (.int .u8 0), .sc (.int .u8 0), .sc (.int .u8 0), .sc (.int .u8 0), .sc (.int .u8 0), .sc (.int .u8 0), .sc (.int .u8 0), .sc (.int .u8 0), .sc (.int .u8 0), .sc (.int .u8 0), .sc (.int .u8 0), .sc (.int .u8 0), .sc (.int .u8 0), .sc (.int .u8 0), .sc (.int .u8 0), .sc (.int .u8 0), .sc (.int .u8 0), .sc (.int .u8 0), .sc (.int .u8 0), .sc (.int .u8 0), .sc (.int .u8 0), .sc (.int .u8 0), .sc (.int .u8 0), .sc (.int .u8 0), .sc (.int .u8 0), .sc (.int .u8 0), .sc (.int .u8 0), .sc (.int .u8 0), .sc (.int .u8 0), .sc (.int .u8 0), .sc (.int .u8 0), .sc (.int .u8 0), .sc (.int .u8 0), .sc (.int .u8 0), .sc (.int .u8 0), .sc (.int .u8 0), .sc (.int .u8 0), .sc (.int .u8 0), .sc (.int .u8 0), .sc (.int .u8 0), .sc (.int .u8 0), .sc (.int .u8 0), .sc (.int .u8 0), .sc (.int .u8 0), .sc (.int .u8 0), .sc (.int .u8 0), .sc (.int .u8 0), .sc (.int .u8 0), .sc (.int .u8 0), .sc (.int .u8 0), .sc (.int .u8 0), .sc (.int .u8 0), .sc (.int .u8 0), .sc (.int .u8 0), .sc (.int .u8 0), .sc (.int .u8 0), .sc (.int .u8 0), .sc (.int .u8 0), .sc (.int .u8 0), .sc (.int .u8 0), .sc (.int .u8 0), .sc (.int .u8 0), .sc (.int .u8 0), .sc (.int .u8 0), .sc (.int .u8 0), .sc (.int .u8 0), .sc (.int .u8 0), .sc (.int .u8 0), .sc (.int .u8 0), .sc (.int .u8 0), .sc (.int .u8 0), .sc (.int .u8 0), .sc (.int .u8 0), .sc (.int .u8 0), .sc (.int .u8 0), .sc (.int .u8 0), .sc (.int .u8 0), .sc (.int .u8 0), .sc (.int .u8 0), .sc (.int .u8 0), .sc (.int .u8 0), .sc (.int .u8 0), .sc (.int .u8 0), .sc (.int .u8 0), .sc (.int .u8 0), .sc (.int .u8 0), .sc (.int .u8 0), .sc (.int .u8 0), .sc (.int .u8 0), .sc (.int .u8 0), .sc (.int .u8 0), .sc (.int .u8 0), .sc (.int .u8 0), .sc (.int .u8 0), .sc (.int .u8 0), .sc (.int .u8 0), .sc (.int .u8 0), .sc (.int .u8 0), .sc (.int .u8 0), .sc (.int .u8 0), .sc (.int .u8 0), .sc (.int .u8 0), .sc (.int .u8 0), .sc (.int .u8 0), .sc (.int .u8 0), .sc (.int .u8 0), .sc (.int .u8 0), .sc (.int .u8 0), .sc (.int .u8 0), .sc (.int .u8 0), .sc (.int .u8 0), .sc (.int .u8 0), .sc (.int .u8 0), .sc (.int .u8 0), .sc (.int .u8 0), .sc (.int .u8 0), .sc (.int .u8 0), .sc (.int .u8 0), .sc (.int .u8 0), .sc (.int .u8 0), .sc (.int .u8 0), .sc (.int .u8 0), .sc (.int .u8 0), .sc (.int .u8 0), .sc (.int .u8 0), .sc (.int .u8 0), .sc (.int .u8 0), .sc (.int .u8 0), .sc (.int .u8 0), .sc (.int .u8 0), .sc (.int .u8 0), .sc (.int .u8 0), .sc (.int .u8 0), .sc (.int .u8 0), .sc (.int .u8 0), .sc (.int .u8 0), .sc (.int .u8 0), .sc (.int .u8 0), .sc (.int .u8 0), .sc (.int .u8 0), .sc (.int .u8 0), .sc (.int .u8 0), .sc (.int .u8 0), .sc (.int .u8 0), .sc (.int .u8 0), .sc (.int .u8 0), .sc (.int .u8 0), .sc (.int .u8 0), .sc (.int .u8 0), .sc (.int .u8 0), .sc (.int .u8 0), .sc (.int .u8 0), .sc (.int .u8 0), .sc (.int .u8 0), .sc (.int .u8 0), .sc (.int .u8 0), .sc (.int .u8 0), .sc (.int .u8 0), .sc (.int .u8 0), .sc (.int .u8 0), .sc (.int .u8 0), .sc (.int .u8 0), .sc (.int .u8 0), .sc (.int .u8 0), .sc (.int .u8 0), .sc (.int .u8 0), .sc (.int .u8 0), .sc (.int .u8 0), .sc (.int .u8 0), .sc (.int .u8 0), .sc (.int .u8 0), .sc (.int .u8 0), .sc (.int .u8 0), .sc (.int .u8 0), .sc (.int .u8 0), .sc (.int .u8 0), .sc (.int .u8 0), .sc (.int .u8 0), .sc (.int .u8 0), .sc (.int .u8 0), .sc (.int .u8 0), .sc (.int .u8 0), .sc (.int .u8 0), .sc (.int .u8 0), .sc (.int .u8 0), .sc (.int .u8 0), .sc (.int .u8 0), .sc (.int .u8 0), .sc (.int .u8 0), .sc (.int .u8 0), .sc (.int .u8 0), .sc (.int .u8 0), .sc (.int .u8 0), .sc (.int .u8 0), .sc (.int .u8 0), .sc (.int .u8 0), .sc (.int .u8 0), .sc (.int .u8 0), .sc (.int .u8 0), .sc (.int .u8 0), .sc (.int .u8 0), .sc (.int .u8 0), .sc (.int .u8 0), .sc (.int .u8 0), .sc (.int .u8 0), .sc (.int .u8 0), .sc (.int .u8 0), .sc (.int .u8 0), .sc (.int .u8 0), .sc (.int .u8 0), .sc (.int .u8 0), .sc (.int .u8 0), .sc (.int .u8 0), .sc (.int .u8 0), .sc (.int .u8 0), .sc (.int .u8 0), .sc (.int .u8 0), .sc (.int .u8 0), .sc (.int .u8 0), .sc (.int .u8 0), .sc (.int .u8 0), .sc (.int .u8 0), .sc (.int .u8 0), .sc (.int .u8 0), .sc (.int .u8 0), .sc (.int .u8 0), .sc (.int .u8 0), .sc (.int .u8 0), .sc (.int .u8 0), .sc (.int .u8 0), .sc (.int .u8 0), .sc (.int .u8 0), .sc (.int .u8 0), .sc (.int .u8 0), .sc (.int .u8 0), .sc (.int .u8 0), .sc (.int .u8 0), .sc (.int .u8 0), .sc (.int .u8 0), .sc (.int .u8 0), .sc (.int .u8 0), .sc (.int .u8 0), .sc (.int .u8 0), .sc (.int .u8 0), .sc (.int .u8 0), .sc (.int .u8 0), .sc (.int .u8 0), .sc (.int .u8 0)]⟩
  | 133 => some ⟨.arr 16 132, 32, 32, [.sc (.int .u8 0), .sc (.int .u8 0), .sc (.int .u8 0), .sc (.int .u8 0), .sc (.int .u8 0), .sc (.int .u8 0), .sc (.int .u8 0), .sc (.int .u8 0), .sc (.int .u8 0), .sc (.int .u8 0), .sc (.int .u8 0), .sc (.int .u8 0), .sc (.int .u8 0), .sc (.int .u8 0), .sc (.int .u8 0), .sc (.int .u8 0), .sc (.int .u8 0), .sc (.int .u8 0), .sc (.int .u8 0), .sc (.int .u8 0), .sc (.int .u8 0), .sc (.int .u8 0), .sc (.int .u8 0), .sc (.int .u8 0), .sc (.int .u8 0), .sc (.int .u8 0), .sc (.int .u8 0), .sc (.int .u8 0), .sc (.int .u8 0), .sc (.int .u8 0), .sc (.int .u8 0), .sc (.int .u8 0)]⟩
  | 134 => some ⟨.int .u32, 1, 4, [.sc (.int .u32 0)]⟩
  | _ => none
def goL : List FuncId := [3, 4, 5, 6, 7, 8, 9, 10, 11, 12, 13, 14, 15, 16, 17, 18, 19, 20, 21, 22, 23, 24, 25, 26, 27, 28, 29, 30, 31, 32, 33, 34, 35, 36, 37, 38, 39, 40, 41, 42, 43, 44, 45, 46, 47, 48, 49, 50, 51, 52, 53, 54, 55, 56, 57, 58, 59, 60, 61, 62, 63, 64, 65, 66, 67, 68, 69, 70, 71, 72, 73, 74, 75, 76, 77, 78, 79, 80, 81, 82, 83, 84, 85, 86, 87, 88, 89, 90, 91, 92, 93, 94, 95, 96, 97, 98, 99, 100, 101, 102, 103, 104, 105, 106, 107, 108, 114, 115, 116, 117, 118, 120, 122, 123, 125]
def eqL : List TypeId := [26]
theorem tyT_ok : ∀ t y, tyT t = some y → tyChk Tryd.prog t y = true := by
  intro t y h
  unfold tyT at h
  split at h <;> first | (cases h; kernel_rfl) | cases h
theorem goL_ok : goL.all (goB Tryd.prog) = true := by kernel_rfl
theorem eqL_ok : eqL.all (eqChk Tryd.prog) = true := by kernel_rfl
noncomputable def E : Env where
  P := Tryd.prog
  T := tyT
  go f := goL.contains f
  ok := tyT_ok
  gok f h := List.all_eq_true.1 goL_ok f (by simpa using h)
  mix := by kernel_rfl
  eqo t := eqL.contains t
  eqok t h := List.all_eq_true.1 eqL_ok t (by simpa using h)
attribute [go_sem] tyT
theorem E_P : E.P = Tryd.prog := rfl
@[go_sem] theorem E_T : E.T = tyT := rfl
theorem E_go (f : FuncId) : E.go f = goL.contains f := rfl
theorem E_eqo (t : TypeId) : E.eqo t = eqL.contains t := rfl
end Go.Proofs.YtbhlegobhidgkaaDoor.RE
