/- The types and functions of this seat's program, as the abstract memory reads them. Conditions: none. -/
import Derived.Test.YtonacngeaknlcaaGreatDoorProg
import Derived.Test.YtonacngeaknlcaaGreatDoorRN
import Derived.KernelRfl
set_option linter.unusedVariables false
namespace Go.Proofs.YtonacngeaknlcaaGreatDoor.RE
open Go
def tyT : TypeId → Option TyI
  | 3 => some ⟨.int .i64, 1, 8, [.sc (.int .i64 0)]⟩
  | 4 => some ⟨.bool, 1, 1, [.sc (.bool false)]⟩
  | 5 => some ⟨.int .u8, 1, 1, [.sc (.int .u8 0)]⟩
  | 9 => some ⟨.str, 1, 16, [.sc (.string ⟨#[]⟩)]⟩
  | 21 => some ⟨.int .i32, 1, 4, [.sc (.int .i32 0)]⟩
  | 22 => some ⟨.sl 4, 1, 24, [.nils]⟩
  | 24 => some ⟨.st [(3, 0), (9, 1)], 2, 24, [.sc (.int .i64 0), .sc (.string ⟨#[]⟩)]⟩
  | 25 => some ⟨.sl 3, 1, 24, [.nils]⟩
  | 26 => some ⟨.sl 75, 1, 24, [.nils]⟩
  | 28 => some ⟨.st [(22, 0), (24, 1), (3, 3), (25, 4), (3, 5), (4, 6), (3, 7), (3, 8), (3, 9), (26, 10)], 11, 144, [.nils, .sc (.int .i64 0), .sc (.string ⟨#[]⟩), .sc (.int .i64 0), .nils, .sc (.int .i64 0), .sc (.bool false), .sc (.int .i64 0), .sc (.int .i64 0), .sc (.int .i64 0), .nils]⟩
  | 30 => some ⟨.st [(3, 0), (28, 1), (9, 12), (3, 13)], 14, 176, [.sc (.int .i64 0), .nils, .sc (.int .i64 0), .sc (.string ⟨#[]⟩), .sc (.int .i64 0), .nils, .sc (.int .i64 0), .sc (.bool false), .sc (.int .i64 0), .sc (.int .i64 0), .sc (.int .i64 0), .nils, .sc (.string ⟨#[]⟩), .sc (.int .i64 0)]⟩
  | 32 => some ⟨.st [(3, 0), (9, 1)], 2, 24, [.sc (.int .i64 0), .sc (.string ⟨#[]⟩)]⟩
  | 33 => some ⟨.sl 96, 1, 24, [.nils]⟩
  | 35 => some ⟨.st [(22, 0), (32, 1), (3, 3), (25, 4), (3, 5), (4, 6), (3, 7), (3, 8), (3, 9), (33, 10)], 11, 144, [.nils, .sc (.int .i64 0), .sc (.string ⟨#[]⟩), .sc (.int .i64 0), .nils, .sc (.int .i64 0), .sc (.bool false), .sc (.int .i64 0), .sc (.int .i64 0), .sc (.int .i64 0), .nils]⟩
  | 37 => some ⟨.st [(3, 0), (35, 1), (9, 12), (3, 13)], 14, 176, [.sc (.int .i64 0), .nils, .sc (.int .i64 0), .sc (.string ⟨#[]⟩), .sc (.int .i64 0), .nils, .sc (.int .i64 0), .sc (.bool false), .sc (.int .i64 0), .sc (.int .i64 0), .sc (.int .i64 0), .nils, .sc (.string ⟨#[]⟩), .sc (.int .i64 0)]⟩
  | 47 => some ⟨.st [(3, 0), (3, 1), (9, 2)], 3, 32, [.sc (.int .i64 0), .sc (.int .i64 0), .sc (.string ⟨#[]⟩)]⟩
  | 75 => some ⟨.st [(9, 0), (3, 1)], 2, 24, [.sc (.string ⟨#[]⟩), .sc (.int .i64 0)]⟩
  | 78 => some ⟨.sl 115, 1, 24, [.nils]⟩
  | 81 => some ⟨.sl 124, 1, 24, [.nils]⟩
  | 96 => some ⟨.st [(9, 0), (3, 1)], 2, 24, [.sc (.string ⟨#[]⟩), .sc (.int .i64 0)]⟩
  | 102 => some ⟨.other, 1, 8, [.sc .nilFunc]⟩
  | 108 => some ⟨.st [(9, 0), (3, 1), (78, 2), (3, 3), (3, 4)], 5, 64, [.sc (.string ⟨#[]⟩), .sc (.int .i64 0), .nils, .sc (.int .i64 0), .sc (.int .i64 0)]⟩
  | 115 => some ⟨.st [(3, 0), (3, 1), (3, 2), (3, 3), (3, 4), (3, 5)], 6, 48, [.sc (.int .i64 0), .sc (.int .i64 0), .sc (.int .i64 0), .sc (.int .i64 0), .sc (.int .i64 0), .sc (.int .i64 0)]⟩
  | 121 => some ⟨.sl 5, 1, 24, [.nils]⟩
  | 124 => some ⟨.st [(4, 0), (3, 1), (3, 2)], 3, 24, [.sc (.bool false), .sc (.int .i64 0), .sc (.int .i64 0)]⟩
  | 131 => some ⟨.sl 9, 1, 24, [.nils]⟩
  | 135 => some ⟨.sl 131, 1, 24, [.nils]⟩
  | 142 => some ⟨.other, 1, 8, [.sc (.map none)]⟩
  | 161 => some ⟨.st [(3, 0), (3, 1)], 2, 16, [.sc (.int .i64 0), .sc (.int .i64 0)]⟩
  | 163 => some ⟨.st [(9, 0), (3, 1), (78, 2), (161, 3)], 5, 64, [.sc (.string ⟨#[]⟩), .sc (.int .i64 0), .nils, .sc (.int .i64 0), .sc (.int .i64 0)]⟩
  | 169 => some ⟨.st [(78, 0), (81, 1)], 2, 48, [.nils, .nils]⟩
  | 174 => some ⟨.arr 8 3, 8, 64, [.sc (.int .i64 0), .sc (.int .i64 0), .sc (.int .i64 0), .sc (.int .i64 0), .sc (.int .i64 0), .sc (.int .i64 0), .sc (.int .i64 0), .sc (.int .i64 0)]⟩
  | 176 => some ⟨.st [(78, 0), (174, 1)], 9, 88, [.nils, .sc (.int .i64 0), .sc (.int .i64 0), .sc (.int .i64 0), .sc (.int .i64 0), .sc (.int .i64 0), .sc (.int .i64 0), .sc (.int .i64 0), .sc (.int .i64 0)]⟩
  | 177 => some ⟨.int .u64, 1, 8, [.sc (.int .u64 0)]⟩
  | 200 => some ⟨.arr 3 3, 3, 24, [.sc (.int .i64 0), .sc (.int .i64 0), .sc (.int .i64 0)]⟩
  | 205 => some ⟨.int .u64, 1, 8, [.sc (.int .u64 0)]⟩
  | 206 => some ⟨.other, 1, 8, [.sc (.pointer none)]⟩
  | 222 => some ⟨.sl 22, 1, 24, [.nils]⟩
  | 227 => some ⟨.other, 1, 8, [.sc (.pointer none)]⟩
  | 239 => some ⟨.arr 256 5, 256, 256, [.sc (.int .u8 0), .sc (.int .u8 0), .sc (.int .u8 0), .sc (.int .u8 0), .sc (.int .u8 0), .sc (.int .u8 0), .sc (.int .u8 0), .sc (.int .u8 0), .sc (.int .u8 0), .sc (.int .u8 0), .sc (.int .u8 0), .sc (.int .u8 0), .sc (.int .u8 0), .sc (.int .u8 0), .sc (.int .u8 0), .sc (.int .u8 0), .sc (.int .u8 0), .sc (.int .u8 0), .sc (.int .u8 0), .sc (.int .u8 0), .sc (.int .u8 0), .sc (.int .u8 0), .sc (.int .u8 0), .sc (.int .u8 0), .sc (.int .u8 0), .sc (.int .u8 0), .sc (.int .u8 0), .sc (.int .u8 0), .sc (.int .u8 0), .sc (.int .u8 0), .sc (.int .u8 0), .sc (.int .u8 0), .sc (.int .u8 0), .sc (.int .u8 0), .sc (.int .u8 0), .sc (.int .u8 0), .sc (.int .u8 0), .sc (.int .u8 0), .sc (.int .u8 0), .sc (.int .u8 0), .sc (.int .u8 0), .sc (.int .u8 0), .sc (.int .u8 0), .sc (.int .u8 0), .sc (.int .u8 0), .sc (.int .u8 0), .sc (.int .u8 0), .sc (.int .u8 0), .sc (.int .u8 0), .sc (.int .u8 0), .sc (.int .u8 0), .sc (.int .u8 0), .sc (.int .u8 0), .sc (.int .u8 0), .sc (.int .u8 0), .sc (.int .u8 0), .sc (.int .u8 0), .sc (.int .u8 0), .sc (.int .u8 0), .sc (.int .u8 0), .sc (.int .u8 0), .sc (.int .u8 0), .sc (.int .u8 0), .sc (.int .u8 0), .sc (.int .u8 0), .sc (.int .u8 0), .sc (.int .u8 0), .sc (.int .u8 0), .sc (.int .u8 0), .sc (.int .u8 0), .sc (.int .u8 0), .sc (.int .u8 0), .sc (.int .u8 0), .sc (.int .u8 0), .sc (.int .u8 0), .sc (.int .u8 0), .sc (.int .u8 0), .sc (.int .u8 0), .sc (.int .u8 0), .sc (.int .u8 0), .sc (.int .u8 0), .sc (.int .u8 0), .sc (.int .u8 0), .sc (.int .u8 0), .sc (.int .u8 0), .sc (.int .u8 0), .sc (.int .u8 0), .sc (.int .u8 0), .sc (.int .u8 0), .sc (.int .u8 0), .sc (.int .u8 0), .sc (.int .u8 0), .sc (.int .u8 0), .sc (.int .u8 0), .sc (.int .u8 0), .sc (.int .u8 0), .sc (.int .u8 0), .sc (.int .u8 0), .sc (.int .u8 0), .sc (.int .u8 0), .sc (.int .u8 0), .sc (.int .u8 0), .sc (.int .u8 0), .sc (.int .u8 0), .sc (.int .u8 0), .sc (.int .u8 0), .sc (.int .u8 0), .sc (.int .u8 0), .sc (.int .u8 0), .sc (.int .u8 0), .sc (.int .u8 0), .sc (.int .u8 0), .sc (.int .u8 0), .sc (.int .u8 0), .sc (.int .u8 0), .sc (.int .u8 0), .sc (.int .u8 0), .sc (.int .u8 0), .sc (.int .u8 0), .sc (.int .u8 0), .sc (.int .u8 0), .sc (.int .u8 0), .sc (.int .u8 0), .sc (.int .u8 0), .sc (.int .u8 0), .sc (.int .u8 0), .sc (.int .u8 0), .sc (.int .u8 0), .sc (.int .u8 0), .sc (.int .u8 0), .sc (.int .u8 0), .sc (.int .u8 0), .sc (.int .u8 0), .sc (.int .u8 0), .sc (.int .u8 0), .sc (.int .u8 0), .sc (.int .u8 0), .sc (.int .u8 0), .sc (.int .u8 0), .sc (.int .u8 0), .sc (.int .u8 0), .sc (.int .u8 0), .sc (.int .u8 0), .sc (.int .u8 0), .sc (.int .u8 0), .sc (.int .u8 0), .sc (.int .u8 0), .sc (.int .u8 0), .sc (.int .u8 0), .sc (.int .u8 0), .sc (.int .u8 0), .sc (.int .u8 0), .sc (.int .u8 0), .sc (.int .u8 0), .sc (.int .u8 0), .sc (.int .u8 0), .sc (.int .u8 0), .sc (.int .u8 0), .sc (.int .u8 0), .sc (.int .u8 0), .sc (.int .u8 0), .sc (.int .u8 0), .sc (.int .u8 0), .sc (.int .u8 0), .sc (.int .u8 0), .sc (.int .u8 0), .sc (.int .u8 0), .sc (.int .u8 0), .sc (.int .u8 0), .sc (.int .u8 0), .sc (.int .u8 0), .sc (.int .u8 0), .sc (.int .u8 0), .sc (.int .u8 0), .sc (.int .u8 0), .sc (.int .u8 0), .sc (.int .u8 0), .sc (.int .u8 0), .sc (.int .u8 0), .sc (.int .u8 0), .sc (.int .u8 0), .sc (.int .u8 0), .sc (.int .u8 0), .sc (.int .u8 0), .sc (.int .u8 0), .sc (.int .u8 0), .sc (.int .u8 0), .sc (.int .u8 0), .sc (.int .u8 0), .sc (.int .u8 0), .sc (.int .u8 0), .sc (.int .u8 0), .sc (.int .u8 0), .sc (.int .u8 0), .sc (.int .u8 0), .sc (.int .u8 0), .sc (.int .u8 0), .sc (.int .u8 0), .sc (.int .u8 0), .sc (.int .u8 0), .sc (.int .u8 0), .sc (.int .u8 0), .sc (.int .u8 0), .sc (.int .u8 0), .sc (.int .u8 0), .sc (.int .u8 0), .sc (.int .u8 0), .sc (.int .u8 0), .sc (.int .u8 0), .sc (.int .u8 0), .sc (.int .u8 0), .sc (.int .u8 0), .sc (.int .u8 0), .sc (.int .u8 0), .sc (.int .u8 0), .sc (.int .u8 0), .sc (.int .u8 0), .sc (.int .u8 0), .sc (.int .u8 0), .sc (.int .u8 0), .sc (.int .u8 0), .sc (.int .u8 0), .sc (.int .u8 0), .sc (.int .u8 0), .sc (.int .u8 0), .sc (.int .u8 0), .sc (.int .u8 0), .sc (.int .u8 0), .sc (.int .u8 0), .sc (.int .u8 0), .sc (.int .u8 0), .sc (.int .u8 0), .sc (.int .u8 0), .sc (.int .u8 0), .sc (.int .u8 0), .sc (.int .u8 0), .sc (.int .u8 0), .sc (.int .u8 0), .sc (.int .u8 0), .sc (.int .u8 0), .sc (.int .u8 0), .sc (.int .u8 0), .sc (.int .u8 0), .sc (.int .u8 0), .sc (.int .u8 0), .sc (.int .u8 0), .sc (.int .u8 0), .sc (.int .u8 0), .sc (.int .u8 0), .sc (.int .u8 0), .sc (.int .u8 0), .sc (.int .u8 0), .sc (.int .u8 0), .sc (.int .u8 0), .sc (.int .u8 0), .sc (.int .u8 0)]⟩
  | 242 => some ⟨.arr 16 241, 32, 32, [.sc (.int .u8 0), .sc (.int .u8 0), .sc (.int .u8 0), .sc (.int .u8 0), .sc (.int .u8 0), .sc (.int .u8 0), .sc (.int .u8 0), .sc (.int .u8 0), .sc (.int .u8 0), .sc (.int .u8 0), .sc (.int .u8 0), .sc (.int .u8 0), .sc (.int .u8 0), .sc (.int .u8 0), .sc (.int .u8 0), .sc (.int .u8 0), .sc (.int .u8 0), .sc (.int .u8 0), .sc (.int .u8 0), .sc (.int .u8 0), .sc (.int .u8 0), .sc (.int .u8 0), .sc (.int .u8 0), .sc (.int .u8 0), .sc (.int .u8 0), .sc (.int .u8 0), .sc (.int .u8 0), .sc (.int .u8 0), .sc (.int .u8 0), .sc (.int .u8 0), .sc (.int .u8 0), .sc (.int .u8 0)]⟩
  | 243 => some ⟨.int .u32, 1, 4, [.sc (.int .u32 0)]⟩
  | _ => none
def goL : List FuncId := [3, 4, 5, 6, 7, 8, 9, 10, 11, 12, 13, 14, 15, 16, 17, 18, 19, 20, 21, 22, 23, 24, 25, 26, 27, 28, 29, 30, 31, 32, 33, 34, 35, 36, 37, 38, 39, 40, 41, 42, 43, 44, 45, 46, 47, 48, 49, 50, 51, 52, 53, 54, 55, 56, 57, 58, 59, 60, 61, 62, 63, 64, 65, 66, 67, 68, 69, 70, 71, 72, 73, 74, 75, 76, 77, 78, 79, 80, 81, 82, 83, 84, 85, 86, 87, 88, 89, 90, 91, 92, 93, 94, 95, 96, 97, 98, 99, 100, 101, 102, 103, 104, 105, 106, 107, 108, 109, 110, 111, 112, 113, 114, 115, 116, 117, 118, 119, 120, 121, 122, 123, 124, 125, 126, 127, 128, 129, 130, 131, 132, 133, 134, 135, 136, 137, 138, 139, 140, 141, 142, 143, 144, 145, 146, 147, 148, 149, 150, 151, 152, 153, 154, 155, 156, 157, 158, 159, 160, 161, 162, 163, 164, 165, 166, 167, 168, 169, 170, 171, 172, 173, 174, 175, 176, 177, 178, 179, 180, 181, 182, 183, 184, 185, 186, 187, 188, 189, 190, 191, 192, 193, 194, 195, 196, 197, 198, 199, 200, 201, 202, 203, 204, 205, 206, 207, 208, 209, 210, 211, 212, 213, 214, 215, 216, 217, 218, 219, 220, 221, 222, 223, 224, 225, 226, 227, 228, 229, 230, 231, 232, 233, 234, 235, 236, 237, 238, 239, 240, 241, 242, 243, 244, 245, 246, 247, 248, 249, 250, 251, 252, 253, 254, 255, 256, 257, 258, 259, 265, 267, 269, 270, 272]
def eqL : List TypeId := [115, 32, 24, 124]
theorem tyT_ok : ∀ t y, tyT t = some y → tyChk Tryz.prog t y = true := by
  intro t y h
  unfold tyT at h
  split at h <;> first | (cases h; kernel_rfl) | cases h
theorem goL_ok : goL.all (goB Tryz.prog) = true := by kernel_rfl
theorem eqL_ok : eqL.all (eqChk Tryz.prog) = true := by kernel_rfl
noncomputable def E : Env where
  P := Tryz.prog
  T := tyT
  go f := goL.contains f
  ok := tyT_ok
  gok f h := List.all_eq_true.1 goL_ok f (by simpa using h)
  mix := by kernel_rfl
  eqo t := eqL.contains t
  eqok t h := List.all_eq_true.1 eqL_ok t (by simpa using h)
attribute [go_sem] tyT
theorem E_P : E.P = Tryz.prog := rfl
@[go_sem] theorem E_T : E.T = tyT := rfl
theorem E_go (f : FuncId) : E.go f = goL.contains f := rfl
theorem E_eqo (t : TypeId) : E.eqo t = eqL.contains t := rfl
end Go.Proofs.YtonacngeaknlcaaGreatDoor.RE
