/- The types and functions of this seat's program, as the abstract memory reads them. Conditions: none. -/
import Derived.Test.YtkdkbnacelnljaaGreatProg
import Derived.Test.YtkdkbnacelnljaaGreatNRR
import Derived.KernelRfl
set_option linter.unusedVariables false
namespace Go.Proofs.YtkdkbnacelnljaaGreat.RE
open Go
def tyT : TypeId → Option TyI
  | 3 => some ⟨.int .i64, 1, 8, [.sc (.int .i64 0)]⟩
  | 4 => some ⟨.bool, 1, 1, [.sc (.bool false)]⟩
  | 5 => some ⟨.int .u8, 1, 1, [.sc (.int .u8 0)]⟩
  | 9 => some ⟨.str, 1, 16, [.sc (.string ⟨#[]⟩)]⟩
  | 22 => some ⟨.sl 48, 1, 24, [.nils]⟩
  | 26 => some ⟨.sl 46, 1, 24, [.nils]⟩
  | 30 => some ⟨.sl 5, 1, 24, [.nils]⟩
  | 37 => some ⟨.sl 3, 1, 24, [.nils]⟩
  | 46 => some ⟨.st [(3, 0), (3, 1), (3, 2), (3, 3), (3, 4), (3, 5)], 6, 48, [.sc (.int .i64 0), .sc (.int .i64 0), .sc (.int .i64 0), .sc (.int .i64 0), .sc (.int .i64 0), .sc (.int .i64 0)]⟩
  | 48 => some ⟨.st [(3, 0), (3, 1), (3, 2), (3, 3), (3, 4), (3, 5)], 6, 48, [.sc (.int .i64 0), .sc (.int .i64 0), .sc (.int .i64 0), .sc (.int .i64 0), .sc (.int .i64 0), .sc (.int .i64 0)]⟩
  | 57 => some ⟨.sl 4, 1, 24, [.nils]⟩
  | 61 => some ⟨.arr 8 4, 8, 8, [.sc (.bool false), .sc (.bool false), .sc (.bool false), .sc (.bool false), .sc (.bool false), .sc (.bool false), .sc (.bool false), .sc (.bool false)]⟩
  | 70 => some ⟨.arr 8 3, 8, 64, [.sc (.int .i64 0), .sc (.int .i64 0), .sc (.int .i64 0), .sc (.int .i64 0), .sc (.int .i64 0), .sc (.int .i64 0), .sc (.int .i64 0), .sc (.int .i64 0)]⟩
  | 72 => some ⟨.st [(26, 0), (70, 1)], 9, 88, [.nils, .sc (.int .i64 0), .sc (.int .i64 0), .sc (.int .i64 0), .sc (.int .i64 0), .sc (.int .i64 0), .sc (.int .i64 0), .sc (.int .i64 0), .sc (.int .i64 0)]⟩
  | 79 => some ⟨.st [(30, 0), (3, 1), (3, 2)], 3, 40, [.nils, .sc (.int .i64 0), .sc (.int .i64 0)]⟩
  | 96 => some ⟨.arr 3 3, 3, 24, [.sc (.int .i64 0), .sc (.int .i64 0), .sc (.int .i64 0)]⟩
  | 102 => some ⟨.sl 37, 1, 24, [.nils]⟩
  | 104 => some ⟨.int .u64, 1, 8, [.sc (.int .u64 0)]⟩
  | 109 => some ⟨.sl 9, 1, 24, [.nils]⟩
  | 113 => some ⟨.st [(9, 0), (3, 1), (26, 2), (3, 3), (3, 4)], 5, 64, [.sc (.string ⟨#[]⟩), .sc (.int .i64 0), .nils, .sc (.int .i64 0), .sc (.int .i64 0)]⟩
  | 117 => some ⟨.sl 57, 1, 24, [.nils]⟩
  | _ => none
def goL : List FuncId := [3, 4, 5, 6, 7, 8, 9, 10, 11, 12, 13, 14, 15, 16, 17, 18, 19, 20, 21, 22, 23, 24, 25, 26, 27, 28, 29, 30, 31, 32, 33, 34, 35, 36, 37, 38, 39, 40, 41, 42, 43, 44, 45, 46, 47, 48, 49, 50, 51, 52, 53, 54, 55, 56, 57, 58, 59, 60, 61, 62, 63, 64, 65, 66, 67, 68, 69, 70, 71, 72, 73, 74, 75, 76, 77, 78, 79, 80, 81, 82, 83, 84, 85, 86, 87, 88, 89, 90, 91, 92, 93, 94, 95, 96, 97, 98, 99, 100, 101, 102, 103, 104, 105, 106, 107, 108, 109, 110, 111, 112, 113, 114, 115, 116, 117, 118, 119, 120, 121, 122, 123, 124, 125, 126, 127, 128, 129, 130, 131, 132, 133, 134, 135, 136, 137, 138, 139, 140, 141, 142, 143, 144, 145, 146, 147, 148, 149, 150, 151]
def eqL : List TypeId := [46, 48]
theorem tyT_ok : ∀ t y, tyT t = some y → tyChk Tryz.prog t y = true := by
  intro t y h
  unfold tyT at h
  split at h <;> first | (cases h; kernel_rfl) | cases h
theorem goL_ok : goL.all (goB Tryz.prog) = true := by kernel_rfl
theorem eqL_ok : eqL.all (eqChk Tryz.prog) = true := by kernel_rfl
noncomputable def E : Env where
  P := Tryz.prog
  T := tyT
  go f := goL.contains f
  ok := tyT_ok
  gok f h := List.all_eq_true.1 goL_ok f (by simpa using h)
  mix := by kernel_rfl
  eqo t := eqL.contains t
  eqok t h := List.all_eq_true.1 eqL_ok t (by simpa using h)
attribute [go_sem] tyT
@[go_sem] theorem E_T : E.T = tyT := rfl
theorem E_go (f : FuncId) : E.go f = goL.contains f := rfl
end Go.Proofs.YtkdkbnacelnljaaGreat.RE
