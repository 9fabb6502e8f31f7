/- The types and functions of this seat's program, as the abstract memory reads them. Conditions: none. -/
import Derived.Test.YtlgjogfcpgfbnaaProg
import Derived.Test.YtlgjogfcpgfbnaaRN
import Derived.KernelRfl
set_option linter.unusedVariables false
namespace Go.Proofs.Ytlgjogfcpgfbnaa.RE
open Go
def tyT : TypeId → Option TyI
  | 3 => some ⟨.int .i64, 1, 8, [.sc (.int .i64 0)]⟩
  | 4 => some ⟨.bool, 1, 1, [.sc (.bool false)]⟩
  | 5 => some ⟨.int .u8, 1, 1, [.sc (.int .u8 0)]⟩
  | 9 => some ⟨.str, 1, 16, [.sc (.string ⟨#[]⟩)]⟩
  | 23 => some ⟨.st [(3, 0), (9, 1)], 2, 24, [.sc (.int .i64 0), .sc (.string ⟨#[]⟩)]⟩
  | 28 => some ⟨.sl 101, 1, 24, [.nils]⟩
  | 31 => some ⟨.sl 99, 1, 24, [.nils]⟩
  | 43 => some ⟨.sl 4, 1, 24, [.nils]⟩
  | 44 => some ⟨.st [(3, 0), (9, 1)], 2, 24, [.sc (.int .i64 0), .sc (.string ⟨#[]⟩)]⟩
  | 45 => some ⟨.sl 3, 1, 24, [.nils]⟩
  | 46 => some ⟨.sl 160, 1, 24, [.nils]⟩
  | 48 => some ⟨.st [(43, 0), (44, 1), (3, 3), (45, 4), (3, 5), (4, 6), (3, 7), (3, 8), (3, 9), (46, 10)], 11, 144, [.nils, .sc (.int .i64 0), .sc (.string ⟨#[]⟩), .sc (.int .i64 0), .nils, .sc (.int .i64 0), .sc (.bool false), .sc (.int .i64 0), .sc (.int .i64 0), .sc (.int .i64 0), .nils]⟩
  | 50 => some ⟨.st [(3, 0), (48, 1), (9, 12), (3, 13)], 14, 176, [.sc (.int .i64 0), .nils, .sc (.int .i64 0), .sc (.string ⟨#[]⟩), .sc (.int .i64 0), .nils, .sc (.int .i64 0), .sc (.bool false), .sc (.int .i64 0), .sc (.int .i64 0), .sc (.int .i64 0), .nils, .sc (.string ⟨#[]⟩), .sc (.int .i64 0)]⟩
  | 53 => some ⟨.sl 83, 1, 24, [.nils]⟩
  | 55 => some ⟨.st [(43, 0), (23, 1), (3, 3), (45, 4), (3, 5), (4, 6), (3, 7), (3, 8), (3, 9), (53, 10)], 11, 144, [.nils, .sc (.int .i64 0), .sc (.string ⟨#[]⟩), .sc (.int .i64 0), .nils, .sc (.int .i64 0), .sc (.bool false), .sc (.int .i64 0), .sc (.int .i64 0), .sc (.int .i64 0), .nils]⟩
  | 57 => some ⟨.st [(3, 0), (55, 1), (9, 12), (3, 13)], 14, 176, [.sc (.int .i64 0), .nils, .sc (.int .i64 0), .sc (.string ⟨#[]⟩), .sc (.int .i64 0), .nils, .sc (.int .i64 0), .sc (.bool false), .sc (.int .i64 0), .sc (.int .i64 0), .sc (.int .i64 0), .nils, .sc (.string ⟨#[]⟩), .sc (.int .i64 0)]⟩
  | 72 => some ⟨.sl 5, 1, 24, [.nils]⟩
  | 83 => some ⟨.st [(9, 0), (3, 1)], 2, 24, [.sc (.string ⟨#[]⟩), .sc (.int .i64 0)]⟩
  | 99 => some ⟨.st [(3, 0), (3, 1), (3, 2), (3, 3), (3, 4), (3, 5)], 6, 48, [.sc (.int .i64 0), .sc (.int .i64 0), .sc (.int .i64 0), .sc (.int .i64 0), .sc (.int .i64 0), .sc (.int .i64 0)]⟩
  | 101 => some ⟨.st [(3, 0), (3, 1), (3, 2), (3, 3), (3, 4), (3, 5)], 6, 48, [.sc (.int .i64 0), .sc (.int .i64 0), .sc (.int .i64 0), .sc (.int .i64 0), .sc (.int .i64 0), .sc (.int .i64 0)]⟩
  | 110 => some ⟨.arr 8 4, 8, 8, [.sc (.bool false), .sc (.bool false), .sc (.bool false), .sc (.bool false), .sc (.bool false), .sc (.bool false), .sc (.bool false), .sc (.bool false)]⟩
  | 125 => some ⟨.sl 9, 1, 24, [.nils]⟩
  | 134 => some ⟨.arr 8 3, 8, 64, [.sc (.int .i64 0), .sc (.int .i64 0), .sc (.int .i64 0), .sc (.int .i64 0), .sc (.int .i64 0), .sc (.int .i64 0), .sc (.int .i64 0), .sc (.int .i64 0)]⟩
  | 144 => some ⟨.other, 1, 8, [.sc (.map none)]⟩
  | 150 => some ⟨.st [(31, 0), (134, 1)], 9, 88, [.nils, .sc (.int .i64 0), .sc (.int .i64 0), .sc (.int .i64 0), .sc (.int .i64 0), .sc (.int .i64 0), .sc (.int .i64 0), .sc (.int .i64 0), .sc (.int .i64 0)]⟩
  | 153 => some ⟨.other, 1, 8, [.sc .nilFunc]⟩
  | 160 => some ⟨.st [(9, 0), (3, 1)], 2, 24, [.sc (.string ⟨#[]⟩), .sc (.int .i64 0)]⟩
  | 163 => some ⟨.int .u64, 1, 8, [.sc (.int .u64 0)]⟩
  | 165 => some ⟨.other, 1, 8, [.sc (.pointer none)]⟩
  | 175 => some ⟨.st [(72, 0), (3, 1), (3, 2)], 3, 40, [.nils, .sc (.int .i64 0), .sc (.int .i64 0)]⟩
  | 183 => some ⟨.arr 3 3, 3, 24, [.sc (.int .i64 0), .sc (.int .i64 0), .sc (.int .i64 0)]⟩
  | 193 => some ⟨.int .u64, 1, 8, [.sc (.int .u64 0)]⟩
  | 197 => some ⟨.sl 43, 1, 24, [.nils]⟩
  | 198 => some ⟨.other, 1, 8, [.sc (.pointer none)]⟩
  | 214 => some ⟨.sl 45, 1, 24, [.nils]⟩
  | 216 => some ⟨.int .u32, 1, 4, [.sc (.int .u32 0)]⟩
  | _ => none
def goL : List FuncId := [3, 4, 5, 6, 7, 8, 9, 10, 11, 12, 13, 14, 15, 16, 17, 18, 19, 20, 21, 22, 23, 24, 25, 26, 27, 28, 29, 30, 31, 32, 33, 34, 35, 36, 37, 38, 39, 40, 41, 42, 43, 44, 45, 46, 47, 48, 49, 50, 51, 52, 53, 54, 55, 56, 57, 58, 59, 60, 61, 62, 63, 64, 65, 66, 67, 68, 69, 70, 71, 72, 73, 74, 75, 76, 77, 78, 79, 80, 81, 82, 83, 84, 85, 86, 87, 88, 89, 90, 91, 92, 93, 94, 95, 96, 97, 98, 99, 100, 101, 102, 103, 104, 105, 106, 107, 108, 109, 110, 111, 112, 113, 114, 115, 116, 117, 118, 119, 120, 121, 122, 123, 124, 125, 126, 127, 128, 129, 130, 131, 132, 133, 134, 135, 136, 137, 138, 139, 140, 141, 142, 143, 144, 145, 146, 147, 148, 149, 150, 151, 152, 153, 154, 155, 156, 157, 158, 159, 160, 161, 162, 163, 164, 165, 166, 167, 168, 169, 170, 171, 172, 173, 174, 175, 176, 177, 178, 179, 180, 181, 182, 183, 184, 185, 186, 187, 188, 189, 190, 191, 192, 193, 194, 195, 196, 197, 198, 199, 200, 201, 202, 203, 204, 205, 206, 207, 208, 209, 210, 211, 212, 213, 214, 215, 216, 217, 218, 219, 220, 221, 222, 223, 224, 225, 226, 227, 228, 229, 230, 231, 232, 233, 234, 235, 236, 237, 238, 239, 240, 241, 242, 243, 244, 245, 246, 247, 248, 249, 251, 252, 255, 256, 257, 258, 259, 260, 261, 262, 263, 264, 265, 266, 267, 268, 269, 270, 272, 273, 274]
def eqL : List TypeId := [99, 101, 23, 44]
theorem tyT_ok : ∀ t y, tyT t = some y → tyChk Try.prog t y = true := by
  intro t y h
  unfold tyT at h
  split at h <;> first | (cases h; kernel_rfl) | cases h
theorem goL_ok : goL.all (goB Try.prog) = true := by kernel_rfl
theorem eqL_ok : eqL.all (eqChk Try.prog) = true := by kernel_rfl
noncomputable def E : Env where
  P := Try.prog
  T := tyT
  go f := goL.contains f
  ok := tyT_ok
  gok f h := List.all_eq_true.1 goL_ok f (by simpa using h)
  mix := by kernel_rfl
  eqo t := eqL.contains t
  eqok t h := List.all_eq_true.1 eqL_ok t (by simpa using h)
attribute [go_sem] tyT
theorem E_P : E.P = Try.prog := rfl
@[go_sem] theorem E_T : E.T = tyT := rfl
theorem E_go (f : FuncId) : E.go f = goL.contains f := rfl
theorem E_eqo (t : TypeId) : E.eqo t = eqL.contains t := rfl
end Go.Proofs.Ytlgjogfcpgfbnaa.RE
