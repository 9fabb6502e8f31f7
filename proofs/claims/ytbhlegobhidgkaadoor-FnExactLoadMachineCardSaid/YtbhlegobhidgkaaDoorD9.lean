/- Operators on words. Conditions: those that a theorem names. -/
import Derived.Test.YtbhlegobhidgkaaDoorCB
import Derived.Test.YtbhlegobhidgkaaDoorRS
set_option linter.unusedVariables false
set_option linter.unusedSimpArgs false
namespace Go.Proofs.YtbhlegobhidgkaaDoor.RE
open Go Go.RowKit
set_option maxRecDepth 100000
set_option maxHeartbeats 8000000

theorem wrU {x : Int} (h1 : 0 ≤ x) (h2 : x ≤ 9223372036854775807) : IntKind.u64.wrap x = x := by
  simp only [IntKind.wrap, IntKind.bits, IntKind.signed]
  simp
  omega
theorem bits64 : IntKind.i64.bits = 64 := rfl
theorem min64 {n : Nat} (h : n ≤ 64) : min n 64 = n := Nat.min_eq_left h
attribute [go_sem] wrU bits64 min64 Int.one_mul
def two (w a b : Int) : Bool := wordOk w a && wordOk w b
theorem wordOk_t {w a : Int} (h : wordOk w a = true) : 1 ≤ w ∧ w ≤ 8 ∧ 0 ≤ a ∧ a < 2 ^ w.toNat := of_decide_eq_true h
theorem two_t {w a b : Int} (h : two w a b = true) : 1 ≤ w ∧ w ≤ 8 ∧ 0 ≤ a ∧ a < 2 ^ w.toNat ∧ 0 ≤ b ∧ b < 2 ^ w.toNat := by
  simp only [two, Bool.and_eq_true] at h
  have h1 := wordOk_t h.1
  have h2 := wordOk_t h.2
  exact ⟨h1.1, h1.2.1, h1.2.2.1, h1.2.2.2, h2.2.2.1, h2.2.2.2⟩
theorem eight {w : Int} (h1 : 0 ≤ w) (h2 : w ≤ 8) : w = 0 ∨ w = 1 ∨ w = 2 ∨ w = 3 ∨ w = 4 ∨ w = 5 ∨ w = 6 ∨ w = 7 ∨ w = 8 := by omega
theorem pw {w : Int} (h1 : 0 ≤ w) (h2 : w ≤ 8) : 1 ≤ (2 : Int) ^ w.toNat ∧ (2 : Int) ^ w.toNat ≤ 256 := by
  rcases eight h1 h2 with h | h | h | h | h | h | h | h | h <;> subst h <;> decide
theorem and_cut {a w : Int} (h1 : 0 ≤ w) (h2 : w ≤ 8) : ((BitVec.ofInt 64 a &&& BitVec.ofInt 64 (2 ^ w.toNat - 1)).toNat : Int) = a % 2 ^ w.toNat := by
  have key : ∀ k : Nat, k ≤ 8 → (BitVec.ofInt 64 a &&& BitVec.ofInt 64 ((2 : Int) ^ k - 1)).toNat = (a % 18446744073709551616).toNat % 2 ^ k := by
    intro k hk
    rw [BitVec.toNat_and, BitVec.toNat_ofInt, BitVec.toNat_ofInt]
    have e : (((2 : Int) ^ k - 1) % ((2 ^ 64 : Nat) : Int)).toNat = 2 ^ k - 1 := by
      have : k = 0 ∨ k = 1 ∨ k = 2 ∨ k = 3 ∨ k = 4 ∨ k = 5 ∨ k = 6 ∨ k = 7 ∨ k = 8 := by omega
      rcases this with h | h | h | h | h | h | h | h | h <;> subst h <;> decide
    rw [e, Nat.and_two_pow_sub_one_eq_mod]
    rfl
  rw [key w.toNat (by omega)]
  rcases eight h1 h2 with h | h | h | h | h | h | h | h | h <;> subst h <;> simp <;> omega
theorem mod_pw {a w : Int} (h1 : 0 ≤ w) (h2 : w ≤ 8) : 0 ≤ a % 2 ^ w.toNat ∧ a % 2 ^ w.toNat < 2 ^ w.toNat := by
  have := pw h1 h2
  exact ⟨Int.emod_nonneg _ (by omega), Int.emod_lt_of_pos _ (by omega)⟩
theorem mul_b {a b : Int} (h1 : 0 ≤ a) (h2 : a ≤ 256) (h3 : 0 ≤ b) (h4 : b ≤ 256) : 0 ≤ a * b ∧ a * b ≤ 65536 :=
  ⟨Int.mul_nonneg h1 h3, by have := Int.mul_le_mul h2 h4 h3 (by decide); simpa using this⟩
def cutT (w a : Int) : Int := a % 2 ^ w.toNat
def addT' (w a b : Int) : Int := if two w a b = true then cutT w (a + b) else 0
def subT (w a b : Int) : Int := if two w a b = true then cutT w (a - b) else 0
def mulT (w a b : Int) : Int := if two w a b = true then cutT w (a * b) else 0
theorem cut_b {w a : Int} (h1 : 0 ≤ w) (h2 : w ≤ 8) : 0 ≤ cutT w a ∧ cutT w a < 2 ^ w.toNat := mod_pw h1 h2
theorem tmod_cut {w a : Int} (ha : 0 ≤ a) : a.tmod (2 ^ w.toNat) = cutT w a := Int.tmod_eq_emod_of_nonneg ha
theorem cut_add {w a : Int} : cutT w (a + 2 ^ w.toNat) = cutT w a := by unfold cutT; simp
def divT (w a b : Int) : Int := if two w a b = true then (if b = 0 then 2 ^ w.toNat - 1 else IntKind.i64.wrap (a.tdiv b)) else 0
def remT (w a b : Int) : Int := if two w a b = true then (if b = 0 then a else a.tmod b) else 0
def shlT (w a b : Int) : Int := if (two w a b && decide (b < w)) = true then cutT w (a * 2 ^ b.toNat) else 0
def shrT (w a b : Int) : Int := if (two w a b && decide (b < w)) = true then a / 2 ^ b.toNat else 0
def flipT (w a : Int) : Int := if wordOk w a = true then 2 ^ w.toNat - 1 - a else 0
def sgnT (w a : Int) : Int := if wordOk w a = true then (if 2 ^ (w - 1).toNat ≤ a then a - 2 ^ w.toNat else a) else 0
def bitT (b : Bool) : Int := if b = true then 1 else 0
def lessT (w a b : Int) : Int := bitT (two w a b && decide (a < b))
def lessST (w a b : Int) : Int := bitT (two w a b && decide (sgnT w a < sgnT w b))
def sliceOk (w a low n : Int) : Bool := wordOk w a && decide (1 ≤ n ∧ 0 ≤ low ∧ low + n ≤ w)
def sliceT (w a low n : Int) : Int := if sliceOk w a low n = true then cutT n (a / 2 ^ low.toNat) else 0
theorem fdiv_pw {a b : Int} (ha : 0 ≤ a) : a.fdiv (2 ^ b.toNat) = a / 2 ^ b.toNat := Int.fdiv_eq_ediv_of_nonneg _ (Int.le_of_lt (Int.pow_pos (by decide)))
theorem tdiv_pw {a b : Int} (ha : 0 ≤ a) : a.tdiv (2 ^ b.toNat) = a / 2 ^ b.toNat := Int.tdiv_eq_ediv_of_nonneg ha
theorem div_b {a b : Int} (ha : 0 ≤ a) : 0 ≤ a / 2 ^ b.toNat ∧ a / 2 ^ b.toNat ≤ a :=
  ⟨Int.ediv_nonneg ha (Int.le_of_lt (Int.pow_pos (by decide))), Int.ediv_le_self _ ha⟩
theorem sgn_b {w a : Int} (h : wordOk w a = true) : -256 ≤ sgnT w a ∧ sgnT w a ≤ 256 := by
  have hd := wordOk_t h
  have hp := pw (show 0 ≤ w by omega) hd.2.1
  unfold sgnT
  rw [if_pos h]
  split <;> omega
theorem sh_no {w a b : Int} {D : Int → Int → Int → Int} {x : Int} (h : two w a b = false ∨ w ≤ b) : (two w a b && decide (b < w)) = false := by
  rcases h with h | h
  · rw [h]; rfl
  · rw [decide_eq_false (by omega), Bool.and_false]
theorem sh_yes {w a b : Int} (h : two w a b = true ∧ b < w) : (two w a b && decide (b < w)) = true := by
  rw [h.1, decide_eq_true h.2]; rfl
theorem iBit_c (b : Bool) : Val E.P 28 [T b] (I (bitT b)) := by
  refine CallsA.body (E := E) (fn := Tryd.f28) Tryd.func28 rfl fun B hB => ?_
  simp only [Tryd.ntmps28, go_sem, nl, Nat.reduceSub, Nat.reduceAdd, List.reduceReplicate]
  refine Wp.seqK fun K1 hK1 => ?_
  refine rg ?_
  refine hK1 _ ?_
  clear hK1 K1
  refine Wp.seqK fun K2 hK2 => ?_
  refine Wp.seqK fun K3 hK3 => ?_
  refine rg ?_
  refine hK3 _ ?_
  clear hK3 K3
  refine Wp.condS (fun h3 => ?_) (fun h3 => ?_)
  · refine Wp.seqK fun K4 hK4 => ?_
    refine rg ?_
    refine hK4 _ ?_
    clear hK4 K4
    refine Wp.ret (retV ?_)
    simp only [List.getD_cons_zero, List.getD_cons_succ]
    unfold bitT; rw [if_pos h3]
  · refine Wp.skip ?_
    refine hK2 _ ?_
    clear hK2 K2
    refine Wp.seqK fun K5 hK5 => ?_
    refine rg ?_
    refine hK5 _ ?_
    clear hK5 K5
    refine Wp.ret (retV ?_)
    simp only [List.getD_cons_zero, List.getD_cons_succ]
    unfold bitT; rw [if_neg (by rw [h3]; decide)]
theorem sBit_c (b : Bool) : Val E.P 42 [T b] (I (bitT b)) := by
  refine CallsA.body (E := E) (fn := Tryd.f42) Tryd.func42 rfl fun B hB => ?_
  simp only [Tryd.ntmps42, go_sem, nl, Nat.reduceSub, Nat.reduceAdd, List.reduceReplicate]
  refine Wp.seqK fun K1 hK1 => ?_
  refine rg ?_
  refine hK1 _ ?_
  clear hK1 K1
  refine Wp.seqK fun K2 hK2 => ?_
  refine Wp.seqK fun K3 hK3 => ?_
  refine rg ?_
  refine hK3 _ ?_
  clear hK3 K3
  refine Wp.condS (fun h3 => ?_) (fun h3 => ?_)
  · refine Wp.seqK fun K4 hK4 => ?_
    refine rg ?_
    refine hK4 _ ?_
    clear hK4 K4
    refine Wp.ret (retV ?_)
    simp only [List.getD_cons_zero, List.getD_cons_succ]
    unfold bitT; rw [if_pos h3]
  · refine Wp.skip ?_
    refine hK2 _ ?_
    clear hK2 K2
    refine Wp.seqK fun K5 hK5 => ?_
    refine rg ?_
    refine hK5 _ ?_
    clear hK5 K5
    refine Wp.ret (retV ?_)
    simp only [List.getD_cons_zero, List.getD_cons_succ]
    unfold bitT; rw [if_neg (by rw [h3]; decide)]
end Go.Proofs.YtbhlegobhidgkaaDoor.RE
