/- The types and functions of this seat's program, as the abstract memory reads them. Conditions: none. -/
import Derived.Test.YtkdkbnacelnljaaProg
import Derived.Test.YtkdkbnacelnljaaQRR
import Derived.KernelRfl
set_option linter.unusedVariables false
namespace Go.Proofs.Ytkdkbnacelnljaa.RE
open Go
def tyT : TypeId → Option TyI
  | 3 => some ⟨.int .i64, 1, 8, [.sc (.int .i64 0)]⟩
  | 4 => some ⟨.bool, 1, 1, [.sc (.bool false)]⟩
  | 5 => some ⟨.int .u8, 1, 1, [.sc (.int .u8 0)]⟩
  | 22 => some ⟨.sl 5, 1, 24, [.nils]⟩
  | 24 => some ⟨.sl 39, 1, 24, [.nils]⟩
  | 29 => some ⟨.sl 3, 1, 24, [.nils]⟩
  | 39 => some ⟨.st [(3, 0), (3, 1), (3, 2), (3, 3), (3, 4), (3, 5)], 6, 48, [.sc (.int .i64 0), .sc (.int .i64 0), .sc (.int .i64 0), .sc (.int .i64 0), .sc (.int .i64 0), .sc (.int .i64 0)]⟩
  | 48 => some ⟨.arr 8 3, 8, 64, [.sc (.int .i64 0), .sc (.int .i64 0), .sc (.int .i64 0), .sc (.int .i64 0), .sc (.int .i64 0), .sc (.int .i64 0), .sc (.int .i64 0), .sc (.int .i64 0)]⟩
  | 50 => some ⟨.st [(24, 0), (48, 1)], 9, 88, [.nils, .sc (.int .i64 0), .sc (.int .i64 0), .sc (.int .i64 0), .sc (.int .i64 0), .sc (.int .i64 0), .sc (.int .i64 0), .sc (.int .i64 0), .sc (.int .i64 0)]⟩
  | 57 => some ⟨.st [(22, 0), (3, 1), (3, 2)], 3, 40, [.nils, .sc (.int .i64 0), .sc (.int .i64 0)]⟩
  | 61 => some ⟨.arr 3 3, 3, 24, [.sc (.int .i64 0), .sc (.int .i64 0), .sc (.int .i64 0)]⟩
  | 63 => some ⟨.sl 4, 1, 24, [.nils]⟩
  | 65 => some ⟨.other, 1, 8, [.sc .nilFunc]⟩
  | 76 => some ⟨.int .u64, 1, 8, [.sc (.int .u64 0)]⟩
  | 86 => some ⟨.sl 63, 1, 24, [.nils]⟩
  | _ => none
def goL : List FuncId := [3, 4, 5, 6, 7, 8, 9, 10, 11, 12, 13, 14, 15, 16, 17, 18, 19, 20, 21, 22, 23, 24, 25, 26, 27, 28, 29, 30, 31, 32, 33, 34, 35, 36, 37, 38, 39, 40, 41, 42, 43, 44, 45, 46, 47, 48, 49, 50, 51, 52, 53, 54, 55, 56, 57, 58, 59, 60, 61, 62, 63, 64, 65, 66, 67, 68, 69, 70, 71, 72, 73, 74, 75, 76, 77, 78, 79, 80, 81, 82, 83, 84, 85, 86, 87, 88, 89, 90, 91, 92, 93, 94, 95, 96, 97]
def eqL : List TypeId := [39]
theorem tyT_ok : ∀ t y, tyT t = some y → tyChk Try.prog t y = true := by
  intro t y h
  unfold tyT at h
  split at h <;> first | (cases h; kernel_rfl) | cases h
theorem goL_ok : goL.all (goB Try.prog) = true := by kernel_rfl
theorem eqL_ok : eqL.all (eqChk Try.prog) = true := by kernel_rfl
noncomputable def E : Env where
  P := Try.prog
  T := tyT
  go f := goL.contains f
  ok := tyT_ok
  gok f h := List.all_eq_true.1 goL_ok f (by simpa using h)
  mix := by kernel_rfl
  eqo t := eqL.contains t
  eqok t h := List.all_eq_true.1 eqL_ok t (by simpa using h)
attribute [go_sem] tyT
@[go_sem] theorem E_T : E.T = tyT := rfl
theorem E_go (f : FuncId) : E.go f = goL.contains f := rfl
end Go.Proofs.Ytkdkbnacelnljaa.RE
