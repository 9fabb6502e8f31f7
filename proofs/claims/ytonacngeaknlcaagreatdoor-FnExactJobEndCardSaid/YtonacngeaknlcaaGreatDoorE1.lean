/- Decimal texts. Conditions: those that a theorem names. -/
import Derived.Test.YtonacngeaknlcaaGreatDoorD9
import Derived.WalkKit
import Derived.Lib.Strings
import Derived.Lib.Slices
import Derived.Lib.Walk
import Derived.Lib.Bytealg
set_option linter.unusedVariables false
set_option linter.unusedSimpArgs false
namespace Go.Proofs.YtonacngeaknlcaaGreatDoor.RE
open Go Go.RowKit
set_option maxRecDepth 100000
set_option maxHeartbeats 8000000

theorem bapp (a b : ByteArray) : (a ++ b).data.toList = a.data.toList ++ b.data.toList := by
  rw [ByteArray.data_append]
  exact Array.toList_append
def mkB (l : List UInt8) : ByteArray := ⟨l.toArray⟩
theorem mkB_list (l : List UInt8) : (mkB l).data.toList = l := rfl
theorem mkB_size (l : List UInt8) : (mkB l).size = l.length := List.size_toArray
theorem mkB_of (b : ByteArray) : mkB b.data.toList = b := rfl
theorem mkB_app (l m : List UInt8) : mkB l ++ mkB m = mkB (l ++ m) := by
  rw [← mkB_of (mkB l ++ mkB m), bapp, mkB_list, mkB_list]
theorem size_list (b : ByteArray) : b.size = b.data.toList.length := rfl
def dig (n : Nat) : UInt8 := UInt8.ofNat (48 + n)
def decL (n : Nat) : List UInt8 := if n < 10 then [dig n] else decL (n / 10) ++ [dig (n % 10)]
theorem decL_len : ∀ (k n : Nat), n < 10 ^ (k + 1) → (decL n).length ≤ k + 1
  | 0, n, h => by
    rw [decL, if_pos (show n < 10 from h)]
    exact Nat.le_refl _
  | k + 1, n, h => by
    rw [decL]
    split
    · simp
    · have := decL_len k (n / 10) (by rw [Nat.pow_succ] at h; omega)
      simp; omega
theorem decL_pos (n : Nat) : 1 ≤ (decL n).length := by
  rw [decL]; split <;> simp
/-- What is still to come, and what stands. -/
def rest (n : Nat) (out : List UInt8) : List UInt8 := if out = [] then decL n else if n = 0 then out else decL n ++ out
theorem rest_step {n : Nat} {out : List UInt8} (h : out = [] ∨ 0 < n) : rest (n / 10) (dig (n % 10) :: out) = rest n out := by
  have e : decL n = if n < 10 then [dig n] else decL (n / 10) ++ [dig (n % 10)] := by rw [decL]
  unfold rest
  rw [if_neg (by simp)]
  by_cases ho : out = []
  · subst ho
    rw [if_pos rfl, e]
    by_cases hn : n < 10
    · rw [if_pos hn, if_pos (by omega), Nat.mod_eq_of_lt hn]
    · rw [if_neg hn, if_neg (by omega)]
  · have hn0 : 0 < n := h.resolve_left ho
    rw [if_neg ho, if_neg (show ¬ n = 0 by omega), e]
    by_cases hn : n < 10
    · rw [if_pos hn, if_pos (by omega), Nat.mod_eq_of_lt hn]; rfl
    · rw [if_neg hn, if_neg (by omega)]; simp
theorem rest_len {n : Nat} {out : List UInt8} : out.length ≤ (rest n out).length := by
  unfold rest
  by_cases ho : out = []
  · subst ho; simp
  · rw [if_neg ho]; split <;> simp
theorem mkB_dig (n : Nat) : mkB [dig n] = ⟨#[dig n]⟩ := rfl
theorem dig_slice {d : Nat} (h : d < 10) : ByteArray.extract ⟨#[48, 49, 50, 51, 52, 53, 54, 55, 56, 57]⟩ d (d + 1) = mkB [dig d] := by
  have : d = 0 ∨ d = 1 ∨ d = 2 ∨ d = 3 ∨ d = 4 ∨ d = 5 ∨ d = 6 ∨ d = 7 ∨ d = 8 ∨ d = 9 := by omega
  rcases this with h | h | h | h | h | h | h | h | h | h <;> subst h <;> rfl
def tb (n : Int) (o : ByteArray) : List LV := [.sc (.int .i64 n), .sc (.string o)]
def bitB (b : UInt8) : Bool := decide (b.toNat = 48 ∨ b.toNat = 49)
def tokA (n : Int) (o : ByteArray) : Bool := decide (0 ≤ n ∧ n ≤ 12 ∧ (o.size : Int) = 2 ^ n.toNat)
def tableOk (n : Int) (o : ByteArray) : Bool := tokA n o && o.data.toList.all bitB
attribute [go_sem] tb
def keyB (n : Int) (o : ByteArray) : ByteArray := mkB (decL n.toNat) ++ ⟨#[58]⟩ ++ o
/-! ### internal/stringslite.IndexByte: the shelf's walk at this program's numbers -/
theorem idx_calls (s : ByteArray) (c : Int) (w : World) : Calls Tryz.prog 267 #[.string s, .int .u8 c] w fun e w' => e = .returned (.int .i64 (Lib.indexByte s.data.toList c.toNat.toUInt8)) ∧ w' = w := by
  go_enter Tryz.func267, Tryz.ntmps267
  go_wp2
  rw [run_callFunc_extern Tryz.func271 (by kernel_rfl) (by kernel_rfl) (by kernel_rfl) (e := Extern.BytealgIndexByte.indexByte) (by kernel_rfl), Lib.run_indexByteString]
  simp only [Result.andThen]
  rw [Oper.upon_value]
  go_wp2
  go_ret
  exact ⟨rfl, rfl⟩
theorem idx_c (s : ByteArray) (c : Int) : Val E.P 267 [S s, .l (.sc (.int .u8 c))] (I (Lib.indexByte s.data.toList c.toNat.toUInt8)) := by
  intro w cx vs hM hv
  cases hv with
  | cons h1 h2 =>
    cases h2 with
    | cons h3 h4 =>
      cases h4
      cases h1
      cases h3
      refine (idx_calls s c w).mono ?_
      rintro e w' ⟨rfl, rfl⟩
      exact ⟨_, _, [], cx, rfl, ⟨rfl, rfl⟩, Ext.refl _ _ _, hM, rfl⟩
end Go.Proofs.YtonacngeaknlcaaGreatDoor.RE
