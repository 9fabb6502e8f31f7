/- Operators on words. Conditions: those that a theorem names. -/
import Derived.Test.YtkdkbnacelnljaaGreatNCB
import Derived.Test.YtkdkbnacelnljaaGreatNRS
set_option linter.unusedVariables false
set_option linter.unusedSimpArgs false
namespace Go.Proofs.YtkdkbnacelnljaaGreat.RE
open Go Go.RowKit
set_option maxRecDepth 100000
set_option maxHeartbeats 8000000

theorem wrU {x : Int} (h1 : 0 ≤ x) (h2 : x ≤ 9223372036854775807) : IntKind.u64.wrap x = x := by
  simp only [IntKind.wrap, IntKind.bits, IntKind.signed]
  simp
  omega
theorem bits64 : IntKind.i64.bits = 64 := rfl
theorem min64 {n : Nat} (h : n ≤ 64) : min n 64 = n := Nat.min_eq_left h
attribute [go_sem] wrU bits64 min64 Int.one_mul
def two (w a b : Int) : Bool := wordOk w a && wordOk w b
theorem wordOk_t {w a : Int} (h : wordOk w a = true) : 1 ≤ w ∧ w ≤ 8 ∧ 0 ≤ a ∧ a < 2 ^ w.toNat := of_decide_eq_true h
theorem two_t {w a b : Int} (h : two w a b = true) : 1 ≤ w ∧ w ≤ 8 ∧ 0 ≤ a ∧ a < 2 ^ w.toNat ∧ 0 ≤ b ∧ b < 2 ^ w.toNat := by
  simp only [two, Bool.and_eq_true] at h
  have h1 := wordOk_t h.1
  have h2 := wordOk_t h.2
  exact ⟨h1.1, h1.2.1, h1.2.2.1, h1.2.2.2, h2.2.2.1, h2.2.2.2⟩
theorem eight {w : Int} (h1 : 0 ≤ w) (h2 : w ≤ 8) : w = 0 ∨ w = 1 ∨ w = 2 ∨ w = 3 ∨ w = 4 ∨ w = 5 ∨ w = 6 ∨ w = 7 ∨ w = 8 := by omega
theorem pw {w : Int} (h1 : 0 ≤ w) (h2 : w ≤ 8) : 1 ≤ (2 : Int) ^ w.toNat ∧ (2 : Int) ^ w.toNat ≤ 256 := by
  rcases eight h1 h2 with h | h | h | h | h | h | h | h | h <;> subst h <;> decide
theorem and_cut {a w : Int} (h1 : 0 ≤ w) (h2 : w ≤ 8) : ((BitVec.ofInt 64 a &&& BitVec.ofInt 64 (2 ^ w.toNat - 1)).toNat : Int) = a % 2 ^ w.toNat := by
  have key : ∀ k : Nat, k ≤ 8 → (BitVec.ofInt 64 a &&& BitVec.ofInt 64 ((2 : Int) ^ k - 1)).toNat = (a % 18446744073709551616).toNat % 2 ^ k := by
    intro k hk
    rw [BitVec.toNat_and, BitVec.toNat_ofInt, BitVec.toNat_ofInt]
    have e : (((2 : Int) ^ k - 1) % ((2 ^ 64 : Nat) : Int)).toNat = 2 ^ k - 1 := by
      have : k = 0 ∨ k = 1 ∨ k = 2 ∨ k = 3 ∨ k = 4 ∨ k = 5 ∨ k = 6 ∨ k = 7 ∨ k = 8 := by omega
      rcases this with h | h | h | h | h | h | h | h | h <;> subst h <;> decide
    rw [e, Nat.and_two_pow_sub_one_eq_mod]
    rfl
  rw [key w.toNat (by omega)]
  rcases eight h1 h2 with h | h | h | h | h | h | h | h | h <;> subst h <;> simp <;> omega
theorem mod_pw {a w : Int} (h1 : 0 ≤ w) (h2 : w ≤ 8) : 0 ≤ a % 2 ^ w.toNat ∧ a % 2 ^ w.toNat < 2 ^ w.toNat := by
  have := pw h1 h2
  exact ⟨Int.emod_nonneg _ (by omega), Int.emod_lt_of_pos _ (by omega)⟩
theorem mul_b {a b : Int} (h1 : 0 ≤ a) (h2 : a ≤ 256) (h3 : 0 ≤ b) (h4 : b ≤ 256) : 0 ≤ a * b ∧ a * b ≤ 65536 :=
  ⟨Int.mul_nonneg h1 h3, by have := Int.mul_le_mul h2 h4 h3 (by decide); simpa using this⟩
def cutT (w a : Int) : Int := a % 2 ^ w.toNat
theorem cut_c (w a : Int) (hw1 : 0 ≤ w) (hw2 : w ≤ 8) : Val E.P 148 [I w, I a] (I (cutT w a)) := by
  refine CallsA.body (E := E) (fn := Tryz.f148) Tryz.func148 rfl fun B hB => ?_
  simp only [Tryz.ntmps148, go_sem, nl, Nat.reduceSub, Nat.reduceAdd, List.reduceReplicate]
  have hp := pw (show 0 ≤ w by omega) hw2
  refine Wp.seqK fun K1 hK1 => ?_
  refine rg ?_
  refine hK1 _ ?_
  clear hK1 K1
  refine Wp.seqK fun K2 hK2 => ?_
  refine rg ?_
  refine hK2 _ ?_
  clear hK2 K2
  refine Wp.ret (retV ?_)
  simp only [List.getD_cons_zero, List.getD_cons_succ]
  change AV.l (.sc (.int .i64 (IntKind.i64.wrap ((BitVec.ofInt 64 a &&& BitVec.ofInt 64 (2 ^ w.toNat - 1)).toNat : Int)))) = _
  rw [and_cut (by omega) hw2, wr (by have := mod_pw (a := a) (w := w) (by omega) hw2; omega) (by have := mod_pw (a := a) (w := w) (by omega) hw2; omega)]
  rfl
theorem iTwo_c (w a b : Int) : Val E.P 146 [I w, I a, I b] (T (two w a b)) := by
  refine CallsA.body (E := E) (fn := Tryz.f146) Tryz.func146 rfl fun B hB => ?_
  simp only [Tryz.ntmps146, go_sem, nl, Nat.reduceSub, Nat.reduceAdd, List.reduceReplicate]
  refine Wp.seqK fun K1 hK1 => ?_
  refine rg ?_
  refine hK1 _ ?_
  clear hK1 K1
  refine Wp.seqU0 [.d5, .d, .v (T (two w a b)), .d5, .d, .d, .d] (fun K2 hK2 => ?_) ?_
  · refine rg ?_
    refine ⟨rfl, CallK.valA (h := iWordOk_c _ _) (k := ?_)⟩
    refine evd ?_
    refine grdA_split rfl (fun g1_4 => ?_) (fun g1_4 => ?_)
    · try simp only [decide_eq_true_eq, decide_eq_false_iff_not] at g1_4
      refine evd ?_
      refine ⟨rfl, CallK.valA (h := iWordOk_c _ _) (k := ?_)⟩
      refine evd ?_
      exact hK2 _ (anyS (h := by first | rfl | (simp only [g1_4, two, Bool.true_or, Bool.or_true, Bool.false_or, Bool.or_false, Bool.true_and, Bool.and_true, Bool.false_and, Bool.and_false, Bool.not_true, Bool.not_false, decide_true, decide_false, eq_self, Int.reduceEq] <;> rfl)))
    · try simp only [decide_eq_true_eq, decide_eq_false_iff_not] at g1_4
      refine evd ?_
      exact hK2 _ (anyS (h := by first | rfl | (simp only [g1_4, two, Bool.true_or, Bool.or_true, Bool.false_or, Bool.or_false, Bool.true_and, Bool.and_true, Bool.false_and, Bool.and_false, Bool.not_true, Bool.not_false, decide_true, decide_false, eq_self, Int.reduceEq] <;> rfl)))
  rintro f2
  simp only [updT_k, updT_d, updT_d5, updT_v, updT_nil, Nat.reduceAdd]
  refine Wp.ret (retV ?_)
  simp only [List.getD_cons_zero, List.getD_cons_succ]
theorem sTwo_c (w a b : Int) : Val E.P 131 [I w, I a, I b] (T (two w a b)) := by
  refine CallsA.body (E := E) (fn := Tryz.f131) Tryz.func131 rfl fun B hB => ?_
  simp only [Tryz.ntmps131, go_sem, nl, Nat.reduceSub, Nat.reduceAdd, List.reduceReplicate]
  refine Wp.seqK fun K1 hK1 => ?_
  refine rg ?_
  refine hK1 _ ?_
  clear hK1 K1
  refine Wp.seqU0 [.d5, .d, .v (T (two w a b)), .d5, .d, .d, .d] (fun K2 hK2 => ?_) ?_
  · refine rg ?_
    refine ⟨rfl, CallK.valA (h := sWordOk_c _ _) (k := ?_)⟩
    refine evd ?_
    refine grdA_split rfl (fun g1_4 => ?_) (fun g1_4 => ?_)
    · try simp only [decide_eq_true_eq, decide_eq_false_iff_not] at g1_4
      refine evd ?_
      refine ⟨rfl, CallK.valA (h := sWordOk_c _ _) (k := ?_)⟩
      refine evd ?_
      exact hK2 _ (anyS (h := by first | rfl | (simp only [g1_4, two, Bool.true_or, Bool.or_true, Bool.false_or, Bool.or_false, Bool.true_and, Bool.and_true, Bool.false_and, Bool.and_false, Bool.not_true, Bool.not_false, decide_true, decide_false, eq_self, Int.reduceEq] <;> rfl)))
    · try simp only [decide_eq_true_eq, decide_eq_false_iff_not] at g1_4
      refine evd ?_
      exact hK2 _ (anyS (h := by first | rfl | (simp only [g1_4, two, Bool.true_or, Bool.or_true, Bool.false_or, Bool.or_false, Bool.true_and, Bool.and_true, Bool.false_and, Bool.and_false, Bool.not_true, Bool.not_false, decide_true, decide_false, eq_self, Int.reduceEq] <;> rfl)))
  rintro f2
  simp only [updT_k, updT_d, updT_d5, updT_v, updT_nil, Nat.reduceAdd]
  refine Wp.ret (retV ?_)
  simp only [List.getD_cons_zero, List.getD_cons_succ]
def addT' (w a b : Int) : Int := if two w a b = true then cutT w (a + b) else 0
def subT (w a b : Int) : Int := if two w a b = true then cutT w (a - b) else 0
def mulT (w a b : Int) : Int := if two w a b = true then cutT w (a * b) else 0
theorem tmod_cut {w a : Int} (ha : 0 ≤ a) : a.tmod (2 ^ w.toNat) = cutT w a := Int.tmod_eq_emod_of_nonneg ha
theorem cut_add {w a : Int} : cutT w (a + 2 ^ w.toNat) = cutT w a := by unfold cutT; simp
theorem iAdd_c (w a b : Int) : Val E.P 139 [I w, I a, I b] (I (addT' w a b)) := by
  refine CallsA.body (E := E) (fn := Tryz.f139) Tryz.func139 rfl fun B hB => ?_
  simp only [Tryz.ntmps139, go_sem, nl, Nat.reduceSub, Nat.reduceAdd, List.reduceReplicate]
  refine Wp.seqK fun K1 hK1 => ?_
  refine rg ?_
  refine hK1 _ ?_
  clear hK1 K1
  refine Wp.seqK fun K2 hK2 => ?_
  refine Wp.seqK fun K3 hK3 => ?_
  refine rg ?_
  refine ⟨rfl, CallK.valA (h := iTwo_c _ _ _) (k := ?_)⟩
  refine evd ?_
  refine hK3 _ ?_
  clear hK3 K3
  refine Wp.condS (fun h11 => ?_) (fun h11 => ?_)
  · refine Wp.seqK fun K4 hK4 => ?_
    refine rg ?_
    refine hK4 _ ?_
    clear hK4 K4
    refine Wp.ret (retV ?_)
    simp only [List.getD_cons_zero, List.getD_cons_succ]
    unfold addT'; rw [if_neg (by rw [h11]; decide)]
  · have hd := two_t h11
    have hp := pw (show 0 ≤ w by omega) hd.2.1
    refine Wp.skip ?_
    refine hK2 _ ?_
    clear hK2 K2
    refine Wp.seqK fun K5 hK5 => ?_
    refine rg ?_
    refine ⟨rfl, CallK.valA (h := cut_c _ _ (by omega) (by omega)) (k := ?_)⟩
    refine evd ?_
    refine hK5 _ ?_
    clear hK5 K5
    refine Wp.ret (retV ?_)
    simp only [List.getD_cons_zero, List.getD_cons_succ]
    unfold addT'; rw [if_pos h11]
theorem sAdd_c (w a b : Int) : Val E.P 106 [I w, I a, I b] (I (addT' w a b)) := by
  refine CallsA.body (E := E) (fn := Tryz.f106) Tryz.func106 rfl fun B hB => ?_
  simp only [Tryz.ntmps106, go_sem, nl, Nat.reduceSub, Nat.reduceAdd, List.reduceReplicate]
  refine Wp.seqK fun K1 hK1 => ?_
  refine rg ?_
  refine hK1 _ ?_
  clear hK1 K1
  refine Wp.seqK fun K2 hK2 => ?_
  refine Wp.seqK fun K3 hK3 => ?_
  refine rg ?_
  refine ⟨rfl, CallK.valA (h := sTwo_c _ _ _) (k := ?_)⟩
  refine evd ?_
  refine hK3 _ ?_
  clear hK3 K3
  refine Wp.condS (fun h11 => ?_) (fun h11 => ?_)
  · refine Wp.seqK fun K4 hK4 => ?_
    refine rg ?_
    refine hK4 _ ?_
    clear hK4 K4
    refine Wp.ret (retV ?_)
    simp only [List.getD_cons_zero, List.getD_cons_succ]
    unfold addT'; rw [if_neg (by rw [h11]; decide)]
  · have hd := two_t h11
    have hp := pw (show 0 ≤ w by omega) hd.2.1
    refine Wp.skip ?_
    refine hK2 _ ?_
    clear hK2 K2
    refine Wp.seqK fun K5 hK5 => ?_
    refine rg ?_
    refine ⟨rfl, CallK.valA (h := l01Pow2_c _ (by omega) (by omega)) (k := ?_)⟩
    refine evd ?_
    refine hK5 _ ?_
    clear hK5 K5
    refine Wp.ret (retV ?_)
    simp only [List.getD_cons_zero, List.getD_cons_succ]
    unfold addT'; rw [if_pos h11]
    rw [tmod_cut (by omega)]
theorem iSub_c (w a b : Int) : Val E.P 140 [I w, I a, I b] (I (subT w a b)) := by
  refine CallsA.body (E := E) (fn := Tryz.f140) Tryz.func140 rfl fun B hB => ?_
  simp only [Tryz.ntmps140, go_sem, nl, Nat.reduceSub, Nat.reduceAdd, List.reduceReplicate]
  refine Wp.seqK fun K1 hK1 => ?_
  refine rg ?_
  refine hK1 _ ?_
  clear hK1 K1
  refine Wp.seqK fun K2 hK2 => ?_
  refine Wp.seqK fun K3 hK3 => ?_
  refine rg ?_
  refine ⟨rfl, CallK.valA (h := iTwo_c _ _ _) (k := ?_)⟩
  refine evd ?_
  refine hK3 _ ?_
  clear hK3 K3
  refine Wp.condS (fun h11 => ?_) (fun h11 => ?_)
  · refine Wp.seqK fun K4 hK4 => ?_
    refine rg ?_
    refine hK4 _ ?_
    clear hK4 K4
    refine Wp.ret (retV ?_)
    simp only [List.getD_cons_zero, List.getD_cons_succ]
    unfold subT; rw [if_neg (by rw [h11]; decide)]
  · have hd := two_t h11
    have hp := pw (show 0 ≤ w by omega) hd.2.1
    refine Wp.skip ?_
    refine hK2 _ ?_
    clear hK2 K2
    refine Wp.seqK fun K5 hK5 => ?_
    refine rg ?_
    refine ⟨rfl, CallK.valA (h := cut_c _ _ (by omega) (by omega)) (k := ?_)⟩
    refine evd ?_
    refine hK5 _ ?_
    clear hK5 K5
    refine Wp.ret (retV ?_)
    simp only [List.getD_cons_zero, List.getD_cons_succ]
    unfold subT; rw [if_pos h11]
theorem sSub_c (w a b : Int) : Val E.P 107 [I w, I a, I b] (I (subT w a b)) := by
  refine CallsA.body (E := E) (fn := Tryz.f107) Tryz.func107 rfl fun B hB => ?_
  simp only [Tryz.ntmps107, go_sem, nl, Nat.reduceSub, Nat.reduceAdd, List.reduceReplicate]
  refine Wp.seqK fun K1 hK1 => ?_
  refine rg ?_
  refine hK1 _ ?_
  clear hK1 K1
  refine Wp.seqK fun K2 hK2 => ?_
  refine Wp.seqK fun K3 hK3 => ?_
  refine rg ?_
  refine ⟨rfl, CallK.valA (h := sTwo_c _ _ _) (k := ?_)⟩
  refine evd ?_
  refine hK3 _ ?_
  clear hK3 K3
  refine Wp.condS (fun h11 => ?_) (fun h11 => ?_)
  · refine Wp.seqK fun K4 hK4 => ?_
    refine rg ?_
    refine hK4 _ ?_
    clear hK4 K4
    refine Wp.ret (retV ?_)
    simp only [List.getD_cons_zero, List.getD_cons_succ]
    unfold subT; rw [if_neg (by rw [h11]; decide)]
  · have hd := two_t h11
    have hp := pw (show 0 ≤ w by omega) hd.2.1
    refine Wp.skip ?_
    refine hK2 _ ?_
    clear hK2 K2
    refine Wp.seqK fun K5 hK5 => ?_
    refine rg ?_
    refine ⟨rfl, CallK.valA (h := l01Pow2_c _ (by omega) (by omega)) (k := ?_)⟩
    refine evd ?_
    refine ⟨rfl, CallK.valA (h := l01Pow2_c _ (by omega) (by omega)) (k := ?_)⟩
    refine evd ?_
    refine hK5 _ ?_
    clear hK5 K5
    refine Wp.ret (retV ?_)
    simp only [List.getD_cons_zero, List.getD_cons_succ]
    unfold subT; rw [if_pos h11]
    rw [tmod_cut (by omega), show a + 2 ^ w.toNat - b = a - b + 2 ^ w.toNat by omega, cut_add]
theorem iMul_c (w a b : Int) : Val E.P 141 [I w, I a, I b] (I (mulT w a b)) := by
  refine CallsA.body (E := E) (fn := Tryz.f141) Tryz.func141 rfl fun B hB => ?_
  simp only [Tryz.ntmps141, go_sem, nl, Nat.reduceSub, Nat.reduceAdd, List.reduceReplicate]
  refine Wp.seqK fun K1 hK1 => ?_
  refine rg ?_
  refine hK1 _ ?_
  clear hK1 K1
  refine Wp.seqK fun K2 hK2 => ?_
  refine Wp.seqK fun K3 hK3 => ?_
  refine rg ?_
  refine ⟨rfl, CallK.valA (h := iTwo_c _ _ _) (k := ?_)⟩
  refine evd ?_
  refine hK3 _ ?_
  clear hK3 K3
  refine Wp.condS (fun h11 => ?_) (fun h11 => ?_)
  · refine Wp.seqK fun K4 hK4 => ?_
    refine rg ?_
    refine hK4 _ ?_
    clear hK4 K4
    refine Wp.ret (retV ?_)
    simp only [List.getD_cons_zero, List.getD_cons_succ]
    unfold mulT; rw [if_neg (by rw [h11]; decide)]
  · have hd := two_t h11
    have hp := pw (show 0 ≤ w by omega) hd.2.1
    have hm := mul_b (a := a) (b := b) (by omega) (by omega) (by omega) (by omega)
    refine Wp.skip ?_
    refine hK2 _ ?_
    clear hK2 K2
    refine Wp.seqK fun K5 hK5 => ?_
    refine rg ?_
    refine ⟨rfl, CallK.valA (h := cut_c _ _ (by omega) (by omega)) (k := ?_)⟩
    refine evd ?_
    refine hK5 _ ?_
    clear hK5 K5
    refine Wp.ret (retV ?_)
    simp only [List.getD_cons_zero, List.getD_cons_succ]
    unfold mulT; rw [if_pos h11]
theorem sMul_c (w a b : Int) : Val E.P 108 [I w, I a, I b] (I (mulT w a b)) := by
  refine CallsA.body (E := E) (fn := Tryz.f108) Tryz.func108 rfl fun B hB => ?_
  simp only [Tryz.ntmps108, go_sem, nl, Nat.reduceSub, Nat.reduceAdd, List.reduceReplicate]
  refine Wp.seqK fun K1 hK1 => ?_
  refine rg ?_
  refine hK1 _ ?_
  clear hK1 K1
  refine Wp.seqK fun K2 hK2 => ?_
  refine Wp.seqK fun K3 hK3 => ?_
  refine rg ?_
  refine ⟨rfl, CallK.valA (h := sTwo_c _ _ _) (k := ?_)⟩
  refine evd ?_
  refine hK3 _ ?_
  clear hK3 K3
  refine Wp.condS (fun h11 => ?_) (fun h11 => ?_)
  · refine Wp.seqK fun K4 hK4 => ?_
    refine rg ?_
    refine hK4 _ ?_
    clear hK4 K4
    refine Wp.ret (retV ?_)
    simp only [List.getD_cons_zero, List.getD_cons_succ]
    unfold mulT; rw [if_neg (by rw [h11]; decide)]
  · have hd := two_t h11
    have hp := pw (show 0 ≤ w by omega) hd.2.1
    have hm := mul_b (a := a) (b := b) (by omega) (by omega) (by omega) (by omega)
    refine Wp.skip ?_
    refine hK2 _ ?_
    clear hK2 K2
    refine Wp.seqK fun K5 hK5 => ?_
    refine rg ?_
    refine ⟨rfl, CallK.valA (h := l01Pow2_c _ (by omega) (by omega)) (k := ?_)⟩
    refine evd ?_
    refine hK5 _ ?_
    clear hK5 K5
    refine Wp.ret (retV ?_)
    simp only [List.getD_cons_zero, List.getD_cons_succ]
    unfold mulT; rw [if_pos h11]
    rw [tmod_cut (by omega)]
def divT (w a b : Int) : Int := if two w a b = true then (if b = 0 then 2 ^ w.toNat - 1 else IntKind.i64.wrap (a.tdiv b)) else 0
def remT (w a b : Int) : Int := if two w a b = true then (if b = 0 then a else a.tmod b) else 0
def shlT (w a b : Int) : Int := if (two w a b && decide (b < w)) = true then cutT w (a * 2 ^ b.toNat) else 0
def shrT (w a b : Int) : Int := if (two w a b && decide (b < w)) = true then a / 2 ^ b.toNat else 0
def flipT (w a : Int) : Int := if wordOk w a = true then 2 ^ w.toNat - 1 - a else 0
def sgnT (w a : Int) : Int := if wordOk w a = true then (if 2 ^ (w - 1).toNat ≤ a then a - 2 ^ w.toNat else a) else 0
def bitT (b : Bool) : Int := if b = true then 1 else 0
def lessT (w a b : Int) : Int := bitT (two w a b && decide (a < b))
def lessST (w a b : Int) : Int := bitT (two w a b && decide (sgnT w a < sgnT w b))
def sliceOk (w a low n : Int) : Bool := wordOk w a && decide (1 ≤ n ∧ 0 ≤ low ∧ low + n ≤ w)
def sliceT (w a low n : Int) : Int := if sliceOk w a low n = true then cutT n (a / 2 ^ low.toNat) else 0
theorem fdiv_pw {a b : Int} (ha : 0 ≤ a) : a.fdiv (2 ^ b.toNat) = a / 2 ^ b.toNat := Int.fdiv_eq_ediv_of_nonneg _ (Int.le_of_lt (Int.pow_pos (by decide)))
theorem tdiv_pw {a b : Int} (ha : 0 ≤ a) : a.tdiv (2 ^ b.toNat) = a / 2 ^ b.toNat := Int.tdiv_eq_ediv_of_nonneg ha
theorem div_b {a b : Int} (ha : 0 ≤ a) : 0 ≤ a / 2 ^ b.toNat ∧ a / 2 ^ b.toNat ≤ a :=
  ⟨Int.ediv_nonneg ha (Int.le_of_lt (Int.pow_pos (by decide))), Int.ediv_le_self _ ha⟩
theorem sh_no {w a b : Int} {D : Int → Int → Int → Int} {x : Int} (h : two w a b = false ∨ w ≤ b) : (two w a b && decide (b < w)) = false := by
  rcases h with h | h
  · rw [h]; rfl
  · rw [decide_eq_false (by omega), Bool.and_false]
theorem sh_yes {w a b : Int} (h : two w a b = true ∧ b < w) : (two w a b && decide (b < w)) = true := by
  rw [h.1, decide_eq_true h.2]; rfl
theorem iDiv_c (w a b : Int) : Val E.P 142 [I w, I a, I b] (I (divT w a b)) := by
  refine CallsA.body (E := E) (fn := Tryz.f142) Tryz.func142 rfl fun B hB => ?_
  simp only [Tryz.ntmps142, go_sem, nl, Nat.reduceSub, Nat.reduceAdd, List.reduceReplicate]
  refine Wp.seqK fun K1 hK1 => ?_
  refine rg ?_
  refine hK1 _ ?_
  clear hK1 K1
  refine Wp.seqK fun K2 hK2 => ?_
  refine Wp.block ?_
  refine Wp.seqK fun K3 hK3 => ?_
  refine rg ?_
  refine ⟨rfl, CallK.valA (h := iTwo_c _ _ _) (k := ?_)⟩
  refine evd ?_
  refine hK3 _ ?_
  clear hK3 K3
  refine Wp.condS (fun h7 => ?_) (fun h7 => ?_)
  · refine Wp.seqK fun K4 hK4 => ?_
    refine rg ?_
    refine hK4 _ ?_
    clear hK4 K4
    refine Wp.ret (retV ?_)
    simp only [List.getD_cons_zero, List.getD_cons_succ]
    unfold divT; rw [if_neg (by rw [h7]; decide)]
  · have hd := two_t h7
    have hp := pw (show 0 ≤ w by omega) hd.2.1
    refine Wp.seqK fun K5 hK5 => ?_
    refine rg ?_
    refine hK5 _ ?_
    clear hK5 K5
    refine Wp.condS (fun h13 => ?_) (fun h13 => ?_)
    · refine Wp.seqK fun K6 hK6 => ?_
      refine rg ?_
      refine hK6 _ ?_
      clear hK6 K6
      refine Wp.ret (retV ?_)
      simp only [List.getD_cons_zero, List.getD_cons_succ]
      unfold divT; rw [if_pos h7, if_pos h13]
    · refine Wp.skip ?_
      try simp only [thn, inB, if_true, reduceIte]
      refine hK2 _ ?_
      clear hK2 K2
      refine Wp.seqK fun K7 hK7 => ?_
      refine rg ?_
      refine hK7 _ ?_
      clear hK7 K7
      refine Wp.ret (retV ?_)
      simp only [List.getD_cons_zero, List.getD_cons_succ]
      unfold divT; rw [if_pos h7, if_neg h13]
theorem iRem_c (w a b : Int) : Val E.P 143 [I w, I a, I b] (I (remT w a b)) := by
  refine CallsA.body (E := E) (fn := Tryz.f143) Tryz.func143 rfl fun B hB => ?_
  simp only [Tryz.ntmps143, go_sem, nl, Nat.reduceSub, Nat.reduceAdd, List.reduceReplicate]
  refine Wp.seqK fun K1 hK1 => ?_
  refine rg ?_
  refine hK1 _ ?_
  clear hK1 K1
  refine Wp.seqK fun K2 hK2 => ?_
  refine Wp.block ?_
  refine Wp.seqK fun K3 hK3 => ?_
  refine rg ?_
  refine ⟨rfl, CallK.valA (h := iTwo_c _ _ _) (k := ?_)⟩
  refine evd ?_
  refine hK3 _ ?_
  clear hK3 K3
  refine Wp.condS (fun h7 => ?_) (fun h7 => ?_)
  · refine Wp.seqK fun K4 hK4 => ?_
    refine rg ?_
    refine hK4 _ ?_
    clear hK4 K4
    refine Wp.ret (retV ?_)
    simp only [List.getD_cons_zero, List.getD_cons_succ]
    unfold remT; rw [if_neg (by rw [h7]; decide)]
  · have hd := two_t h7
    have hp := pw (show 0 ≤ w by omega) hd.2.1
    refine Wp.seqK fun K5 hK5 => ?_
    refine rg ?_
    refine hK5 _ ?_
    clear hK5 K5
    refine Wp.condS (fun h13 => ?_) (fun h13 => ?_)
    · refine Wp.seqK fun K6 hK6 => ?_
      refine rg ?_
      refine hK6 _ ?_
      clear hK6 K6
      refine Wp.ret (retV ?_)
      simp only [List.getD_cons_zero, List.getD_cons_succ]
      unfold remT; rw [if_pos h7, if_pos h13]
    · refine Wp.skip ?_
      try simp only [thn, inB, if_true, reduceIte]
      refine hK2 _ ?_
      clear hK2 K2
      refine Wp.seqK fun K7 hK7 => ?_
      refine rg ?_
      refine hK7 _ ?_
      clear hK7 K7
      refine Wp.ret (retV ?_)
      simp only [List.getD_cons_zero, List.getD_cons_succ]
      unfold remT; rw [if_pos h7, if_neg h13]
theorem iShl_c (w a b : Int) : Val E.P 144 [I w, I a, I b] (I (shlT w a b)) := by
  refine CallsA.body (E := E) (fn := Tryz.f144) Tryz.func144 rfl fun B hB => ?_
  simp only [Tryz.ntmps144, go_sem, nl, Nat.reduceSub, Nat.reduceAdd, List.reduceReplicate]
  refine Wp.seqK fun K1 hK1 => ?_
  refine rg ?_
  refine hK1 _ ?_
  clear hK1 K1
  refine Wp.seqK fun K2 hK2 => ?_
  refine Wp.seqU0 [.k, .k, .k, .d5, .d5, .d, .d, .d, .v (T (!two w a b || decide (w ≤ b))), .d5, .d] (fun K3 hK3 => ?_) ?_
  · refine rg ?_
    refine ⟨rfl, CallK.valA (h := iTwo_c _ _ _) (k := ?_)⟩
    refine evd ?_
    refine grdA_split rfl (fun g1_6 => ?_) (fun g1_6 => ?_)
    · try simp only [decide_eq_true_eq, decide_eq_false_iff_not] at g1_6
      refine evd ?_
      exact hK3 _ (anyS (h := by first | rfl | (simp only [g1_6, Bool.true_or, Bool.or_true, Bool.false_or, Bool.or_false, Bool.true_and, Bool.and_true, Bool.false_and, Bool.and_false, Bool.not_true, Bool.not_false, decide_true, decide_false, eq_self, Int.reduceEq] <;> rfl)))
    · try simp only [decide_eq_true_eq, decide_eq_false_iff_not] at g1_6
      refine evd ?_
      exact hK3 _ (anyS (h := by first | rfl | (simp only [g1_6, Bool.true_or, Bool.or_true, Bool.false_or, Bool.or_false, Bool.true_and, Bool.and_true, Bool.false_and, Bool.and_false, Bool.not_true, Bool.not_false, decide_true, decide_false, eq_self, Int.reduceEq] <;> rfl)))
  rintro f3
  simp only [updT_k, updT_d, updT_d5, updT_v, updT_nil, Nat.reduceAdd]
  refine Wp.condS (fun h16 => ?_) (fun h16 => ?_)
  · refine Wp.seqK fun K4 hK4 => ?_
    refine rg ?_
    refine hK4 _ ?_
    clear hK4 K4
    refine Wp.ret (retV ?_)
    simp only [List.getD_cons_zero, List.getD_cons_succ]
    unfold shlT; rw [if_neg (by rw [sh_no (D := shlT) (x := 0) h16]; decide)]
  · have hd := two_t h16.1
    have hp := pw (show 0 ≤ w by omega) hd.2.1
    have hpb := pw (w := b) (show 0 ≤ b by omega) (by omega)
    have hm := mul_b (a := a) (b := 2 ^ b.toNat) (by omega) (by omega) (by omega) (by omega)
    have hdv := div_b (a := a) (b := b) (by omega)
    refine Wp.skip ?_
    refine hK2 _ ?_
    clear hK2 K2
    refine Wp.seqK fun K5 hK5 => ?_
    refine rg ?_
    refine ⟨rfl, CallK.valA (h := cut_c _ _ (by omega) (by omega)) (k := ?_)⟩
    refine evd ?_
    refine hK5 _ ?_
    clear hK5 K5
    refine Wp.ret (retV ?_)
    simp only [List.getD_cons_zero, List.getD_cons_succ]
    unfold shlT; rw [if_pos (sh_yes h16)]
theorem iShr_c (w a b : Int) : Val E.P 145 [I w, I a, I b] (I (shrT w a b)) := by
  refine CallsA.body (E := E) (fn := Tryz.f145) Tryz.func145 rfl fun B hB => ?_
  simp only [Tryz.ntmps145, go_sem, nl, Nat.reduceSub, Nat.reduceAdd, List.reduceReplicate]
  refine Wp.seqK fun K1 hK1 => ?_
  refine rg ?_
  refine hK1 _ ?_
  clear hK1 K1
  refine Wp.seqK fun K2 hK2 => ?_
  refine Wp.seqU0 [.d, .k, .k, .d5, .d5, .d, .d, .d, .v (T (!two w a b || decide (w ≤ b))), .d, .d, .d, .d] (fun K3 hK3 => ?_) ?_
  · refine rg ?_
    refine ⟨rfl, CallK.valA (h := iTwo_c _ _ _) (k := ?_)⟩
    refine evd ?_
    refine grdA_split rfl (fun g1_6 => ?_) (fun g1_6 => ?_)
    · try simp only [decide_eq_true_eq, decide_eq_false_iff_not] at g1_6
      refine evd ?_
      exact hK3 _ (anyS (h := by first | rfl | (simp only [g1_6, Bool.true_or, Bool.or_true, Bool.false_or, Bool.or_false, Bool.true_and, Bool.and_true, Bool.false_and, Bool.and_false, Bool.not_true, Bool.not_false, decide_true, decide_false, eq_self, Int.reduceEq] <;> rfl)))
    · try simp only [decide_eq_true_eq, decide_eq_false_iff_not] at g1_6
      refine evd ?_
      exact hK3 _ (anyS (h := by first | rfl | (simp only [g1_6, Bool.true_or, Bool.or_true, Bool.false_or, Bool.or_false, Bool.true_and, Bool.and_true, Bool.false_and, Bool.and_false, Bool.not_true, Bool.not_false, decide_true, decide_false, eq_self, Int.reduceEq] <;> rfl)))
  rintro f3
  simp only [updT_k, updT_d, updT_d5, updT_v, updT_nil, Nat.reduceAdd]
  refine Wp.condS (fun h16 => ?_) (fun h16 => ?_)
  · refine Wp.seqK fun K4 hK4 => ?_
    refine rg ?_
    refine hK4 _ ?_
    clear hK4 K4
    refine Wp.ret (retV ?_)
    simp only [List.getD_cons_zero, List.getD_cons_succ]
    unfold shrT; rw [if_neg (by rw [sh_no (D := shrT) (x := 0) h16]; decide)]
  · have hd := two_t h16.1
    have hp := pw (show 0 ≤ w by omega) hd.2.1
    have hpb := pw (w := b) (show 0 ≤ b by omega) (by omega)
    have hm := mul_b (a := a) (b := 2 ^ b.toNat) (by omega) (by omega) (by omega) (by omega)
    have hdv := div_b (a := a) (b := b) (by omega)
    refine Wp.skip ?_
    refine hK2 _ ?_
    clear hK2 K2
    refine Wp.seqK fun K5 hK5 => ?_
    refine rg ?_
    refine hK5 _ ?_
    clear hK5 K5
    refine Wp.ret (retV ?_)
    simp only [List.getD_cons_zero, List.getD_cons_succ]
    unfold shrT; rw [if_pos (sh_yes h16)]
    rw [fdiv_pw (by omega)]
theorem iFlip_c (w a : Int) : Val E.P 123 [I w, I a] (I (flipT w a)) := by
  refine CallsA.body (E := E) (fn := Tryz.f123) Tryz.func123 rfl fun B hB => ?_
  simp only [Tryz.ntmps123, go_sem, nl, Nat.reduceSub, Nat.reduceAdd, List.reduceReplicate]
  refine Wp.seqK fun K1 hK1 => ?_
  refine rg ?_
  refine hK1 _ ?_
  clear hK1 K1
  refine Wp.seqK fun K2 hK2 => ?_
  refine Wp.seqK fun K3 hK3 => ?_
  refine rg ?_
  refine ⟨rfl, CallK.valA (h := iWordOk_c _ _) (k := ?_)⟩
  refine evd ?_
  refine hK3 _ ?_
  clear hK3 K3
  refine Wp.condS (fun h8 => ?_) (fun h8 => ?_)
  · refine Wp.seqK fun K4 hK4 => ?_
    refine rg ?_
    refine hK4 _ ?_
    clear hK4 K4
    refine Wp.ret (retV ?_)
    simp only [List.getD_cons_zero, List.getD_cons_succ]
    unfold flipT; rw [if_neg (by rw [h8]; decide)]
  · have hd := wordOk_t h8
    have hp := pw (show 0 ≤ w by omega) hd.2.1
    refine Wp.skip ?_
    refine hK2 _ ?_
    clear hK2 K2
    refine Wp.seqK fun K5 hK5 => ?_
    refine rg ?_
    refine hK5 _ ?_
    clear hK5 K5
    refine Wp.ret (retV ?_)
    simp only [List.getD_cons_zero, List.getD_cons_succ]
    unfold flipT; rw [if_pos h8]
theorem iSigned_c (w a : Int) : Val E.P 147 [I w, I a] (I (sgnT w a)) := by
  refine CallsA.body (E := E) (fn := Tryz.f147) Tryz.func147 rfl fun B hB => ?_
  simp only [Tryz.ntmps147, go_sem, nl, Nat.reduceSub, Nat.reduceAdd, List.reduceReplicate]
  refine Wp.seqK fun K1 hK1 => ?_
  refine rg ?_
  refine hK1 _ ?_
  clear hK1 K1
  refine Wp.seqK fun K2 hK2 => ?_
  refine Wp.block ?_
  refine Wp.seqK fun K3 hK3 => ?_
  refine rg ?_
  refine ⟨rfl, CallK.valA (h := iWordOk_c _ _) (k := ?_)⟩
  refine evd ?_
  refine hK3 _ ?_
  clear hK3 K3
  refine Wp.condS (fun h5 => ?_) (fun h5 => ?_)
  · refine Wp.seqK fun K4 hK4 => ?_
    refine rg ?_
    refine hK4 _ ?_
    clear hK4 K4
    refine Wp.ret (retV ?_)
    simp only [List.getD_cons_zero, List.getD_cons_succ]
    unfold sgnT; rw [if_neg (by rw [h5]; decide)]
  · have hd := wordOk_t h5
    have hp := pw (show 0 ≤ w by omega) hd.2.1
    have hp1 := pw (w := w - 1) (show 0 ≤ w - 1 by omega) (by omega)
    refine Wp.seqK fun K5 hK5 => ?_
    refine rg ?_
    refine hK5 _ ?_
    clear hK5 K5
    refine Wp.condS (fun h10 => ?_) (fun h10 => ?_)
    · refine Wp.seqK fun K6 hK6 => ?_
      refine rg ?_
      refine hK6 _ ?_
      clear hK6 K6
      refine Wp.ret (retV ?_)
      simp only [List.getD_cons_zero, List.getD_cons_succ]
      unfold sgnT; rw [if_pos h5, if_pos h10]
    · refine Wp.skip ?_
      try simp only [thn, inB, if_true, reduceIte]
      refine hK2 _ ?_
      clear hK2 K2
      refine Wp.seqK fun K7 hK7 => ?_
      refine rg ?_
      refine hK7 _ ?_
      clear hK7 K7
      refine Wp.ret (retV ?_)
      simp only [List.getD_cons_zero, List.getD_cons_succ]
      unfold sgnT; rw [if_pos h5, if_neg (by omega)]
theorem iBit_c (b : Bool) : Val E.P 121 [T b] (I (bitT b)) := by
  refine CallsA.body (E := E) (fn := Tryz.f121) Tryz.func121 rfl fun B hB => ?_
  simp only [Tryz.ntmps121, go_sem, nl, Nat.reduceSub, Nat.reduceAdd, List.reduceReplicate]
  refine Wp.seqK fun K1 hK1 => ?_
  refine rg ?_
  refine hK1 _ ?_
  clear hK1 K1
  refine Wp.seqK fun K2 hK2 => ?_
  refine Wp.seqK fun K3 hK3 => ?_
  refine rg ?_
  refine hK3 _ ?_
  clear hK3 K3
  refine Wp.condS (fun h3 => ?_) (fun h3 => ?_)
  · refine Wp.seqK fun K4 hK4 => ?_
    refine rg ?_
    refine hK4 _ ?_
    clear hK4 K4
    refine Wp.ret (retV ?_)
    simp only [List.getD_cons_zero, List.getD_cons_succ]
    unfold bitT; rw [if_pos h3]
  · refine Wp.skip ?_
    refine hK2 _ ?_
    clear hK2 K2
    refine Wp.seqK fun K5 hK5 => ?_
    refine rg ?_
    refine hK5 _ ?_
    clear hK5 K5
    refine Wp.ret (retV ?_)
    simp only [List.getD_cons_zero, List.getD_cons_succ]
    unfold bitT; rw [if_neg (by rw [h3]; decide)]
theorem iLess_c (w a b : Int) : Val E.P 125 [I w, I a, I b] (I (lessT w a b)) := by
  refine CallsA.body (E := E) (fn := Tryz.f125) Tryz.func125 rfl fun B hB => ?_
  simp only [Tryz.ntmps125, go_sem, nl, Nat.reduceSub, Nat.reduceAdd, List.reduceReplicate]
  refine Wp.seqK fun K1 hK1 => ?_
  refine rg ?_
  refine hK1 _ ?_
  clear hK1 K1
  refine Wp.seqK fun K2 hK2 => ?_
  refine rg ?_
  refine ⟨rfl, CallK.valA (h := iTwo_c _ _ _) (k := ?_)⟩
  refine evd ?_
  refine grdA_split rfl (fun g1_5 => ?_) (fun g1_5 => ?_)
  · try simp only [decide_eq_true_eq, decide_eq_false_iff_not] at g1_5
    refine evd ?_
    refine ⟨rfl, CallK.valA (h := iBit_c _) (k := ?_)⟩
    refine evd ?_
    refine hK2 _ ?_
    clear hK2 K2
    refine Wp.ret (retV ?_)
    simp only [List.getD_cons_zero, List.getD_cons_succ]
    unfold lessT; rw [g1_5, Bool.true_and]
  · try simp only [decide_eq_true_eq, decide_eq_false_iff_not] at g1_5
    refine evd ?_
    refine ⟨rfl, CallK.valA (h := iBit_c _) (k := ?_)⟩
    refine evd ?_
    refine hK2 _ ?_
    clear hK2 K2
    refine Wp.ret (retV ?_)
    simp only [List.getD_cons_zero, List.getD_cons_succ]
    unfold lessT; rw [g1_5]; rfl
theorem iLessSigned_c (w a b : Int) : Val E.P 126 [I w, I a, I b] (I (lessST w a b)) := by
  refine CallsA.body (E := E) (fn := Tryz.f126) Tryz.func126 rfl fun B hB => ?_
  simp only [Tryz.ntmps126, go_sem, nl, Nat.reduceSub, Nat.reduceAdd, List.reduceReplicate]
  refine Wp.seqK fun K1 hK1 => ?_
  refine rg ?_
  refine hK1 _ ?_
  clear hK1 K1
  refine Wp.seqK fun K2 hK2 => ?_
  refine rg ?_
  refine ⟨rfl, CallK.valA (h := iTwo_c _ _ _) (k := ?_)⟩
  refine evd ?_
  refine grdA_split rfl (fun g1_5 => ?_) (fun g1_5 => ?_)
  · try simp only [decide_eq_true_eq, decide_eq_false_iff_not] at g1_5
    refine evd ?_
    refine ⟨rfl, CallK.valA (h := iSigned_c _ _) (k := ?_)⟩
    refine evd ?_
    refine ⟨rfl, CallK.valA (h := iSigned_c _ _) (k := ?_)⟩
    refine evd ?_
    refine ⟨rfl, CallK.valA (h := iBit_c _) (k := ?_)⟩
    refine evd ?_
    refine hK2 _ ?_
    clear hK2 K2
    refine Wp.ret (retV ?_)
    simp only [List.getD_cons_zero, List.getD_cons_succ]
    unfold lessST; rw [g1_5, Bool.true_and]
  · try simp only [decide_eq_true_eq, decide_eq_false_iff_not] at g1_5
    refine evd ?_
    refine ⟨rfl, CallK.valA (h := iBit_c _) (k := ?_)⟩
    refine evd ?_
    refine hK2 _ ?_
    clear hK2 K2
    refine Wp.ret (retV ?_)
    simp only [List.getD_cons_zero, List.getD_cons_succ]
    unfold lessST; rw [g1_5]; rfl
theorem iSlice_c (w a low n : Int) (hk1 : -1000 ≤ low) (hk2 : low ≤ 1000) : Val E.P 127 [I w, I a, I low, I n] (I (sliceT w a low n)) := by
  refine CallsA.body (E := E) (fn := Tryz.f127) Tryz.func127 rfl fun B hB => ?_
  simp only [Tryz.ntmps127, go_sem, nl, Nat.reduceSub, Nat.reduceAdd, List.reduceReplicate]
  refine Wp.seqK fun K1 hK1 => ?_
  refine rg ?_
  refine hK1 _ ?_
  clear hK1 K1
  refine Wp.seqK fun K2 hK2 => ?_
  refine Wp.seqU0 [.d, .k, .k, .k, .d5, .d5, .d5, .d5, .d, .d, .v (T (!sliceOk w a low n)), .d5, .d] (fun K3 hK3 => ?_) ?_
  · refine rg ?_
    refine ⟨rfl, CallK.valA (h := iWordOk_c _ _) (k := ?_)⟩
    refine evd ?_
    refine grdA_split rfl (fun g1_5 => ?_) (fun g1_5 => ?_)
    · try simp only [decide_eq_true_eq, decide_eq_false_iff_not] at g1_5
      simp only [Bool.not_eq_true', Bool.not_eq_false'] at g1_5
      have hs : sliceOk w a low n = false := by
        unfold sliceOk
        rw [g1_5]; rfl
      refine evd ?_
      exact hK3 _ (anyS (h := by rw [hs] <;> rfl))
    · try simp only [decide_eq_true_eq, decide_eq_false_iff_not] at g1_5
      simp only [Bool.not_eq_true', Bool.not_eq_false'] at g1_5
      have hw := wordOk_t g1_5
      refine evd ?_
      refine ⟨rfl, CallK.valA (h := within_c _ _ _) (k := ?_)⟩
      refine evd ?_
      refine grdA_split rfl (fun g1_11 => ?_) (fun g1_11 => ?_)
      · try simp only [decide_eq_true_eq, decide_eq_false_iff_not] at g1_11
        have hs : sliceOk w a low n = false := by
          unfold sliceOk
          rw [decide_eq_false (by simp only [Bool.not_eq_true', Bool.and_eq_false_iff, decide_eq_false_iff_not] at g1_11; omega), Bool.and_false]
        refine evd ?_
        exact hK3 _ (anyS (h := by rw [hs] <;> rfl))
      · try simp only [decide_eq_true_eq, decide_eq_false_iff_not] at g1_11
        simp only [Bool.not_eq_false', Bool.and_eq_true, decide_eq_true_eq] at g1_11
        have hs : sliceOk w a low n = (decide (0 ≤ low) && decide (low ≤ w - n)) := by
          unfold sliceOk
          rw [g1_5, Bool.true_and, ← Bool.decide_and]
          exact decide_eq_decide.2 (by omega)
        refine evd ?_
        refine ⟨rfl, CallK.valA (h := within_c _ _ _) (k := ?_)⟩
        refine evd ?_
        exact hK3 _ (anyS (h := by rw [hs] <;> rfl))
  rintro f3
  simp only [updT_k, updT_d, updT_d5, updT_v, updT_nil, Nat.reduceAdd]
  refine Wp.condS (fun h26 => ?_) (fun h26 => ?_)
  · refine Wp.seqK fun K4 hK4 => ?_
    refine rg ?_
    refine hK4 _ ?_
    clear hK4 K4
    refine Wp.ret (retV ?_)
    simp only [List.getD_cons_zero, List.getD_cons_succ]
    unfold sliceT; rw [if_neg (by rw [h26]; decide)]
  · have hs : sliceOk w a low n = true := h26
    simp only [sliceOk, Bool.and_eq_true, decide_eq_true_eq] at h26
    have hw := wordOk_t h26.1
    have hp := pw (show 0 ≤ w by omega) hw.2.1
    have hpn := pw (w := n) (by omega) (by omega)
    have hpl := pw (w := low) (by omega) (by omega)
    have hdv := div_b (a := a) (b := low) (by omega)
    refine Wp.skip ?_
    refine hK2 _ ?_
    clear hK2 K2
    refine Wp.seqK fun K5 hK5 => ?_
    refine rg ?_
    refine ⟨rfl, CallK.valA (h := cut_c _ _ (by omega) (by omega)) (k := ?_)⟩
    refine evd ?_
    refine hK5 _ ?_
    clear hK5 K5
    refine Wp.ret (retV ?_)
    simp only [List.getD_cons_zero, List.getD_cons_succ]
    unfold sliceT; rw [if_pos hs, fdiv_pw (by omega)]
theorem sDiv_c (w a b : Int) : Val E.P 109 [I w, I a, I b] (I (divT w a b)) := by
  refine CallsA.body (E := E) (fn := Tryz.f109) Tryz.func109 rfl fun B hB => ?_
  simp only [Tryz.ntmps109, go_sem, nl, Nat.reduceSub, Nat.reduceAdd, List.reduceReplicate]
  refine Wp.seqK fun K1 hK1 => ?_
  refine rg ?_
  refine hK1 _ ?_
  clear hK1 K1
  refine Wp.seqK fun K2 hK2 => ?_
  refine Wp.seqK fun K3 hK3 => ?_
  refine rg ?_
  refine ⟨rfl, CallK.valA (h := sTwo_c _ _ _) (k := ?_)⟩
  refine evd ?_
  refine hK3 _ ?_
  clear hK3 K3
  refine Wp.condS (fun h11 => ?_) (fun h11 => ?_)
  · refine Wp.seqK fun K4 hK4 => ?_
    refine rg ?_
    refine hK4 _ ?_
    clear hK4 K4
    refine Wp.ret (retV ?_)
    simp only [List.getD_cons_zero, List.getD_cons_succ]
    unfold divT; rw [if_neg (by rw [h11]; decide)]
  · have hd := two_t h11
    have hp := pw (show 0 ≤ w by omega) hd.2.1
    refine Wp.skip ?_
    refine hK2 _ ?_
    clear hK2 K2
    refine Wp.seqK fun K5 hK5 => ?_
    refine Wp.seqK fun K6 hK6 => ?_
    refine rg ?_
    refine hK6 _ ?_
    clear hK6 K6
    refine Wp.condS (fun h13 => ?_) (fun h13 => ?_)
    · refine Wp.seqK fun K7 hK7 => ?_
      refine rg ?_
      refine ⟨rfl, CallK.valA (h := l01Pow2_c _ (by omega) (by omega)) (k := ?_)⟩
      refine evd ?_
      refine hK7 _ ?_
      clear hK7 K7
      refine Wp.ret (retV ?_)
      simp only [List.getD_cons_zero, List.getD_cons_succ]
      unfold divT; rw [if_pos h11, if_pos h13]
    · refine Wp.skip ?_
      refine hK5 _ ?_
      clear hK5 K5
      refine Wp.seqK fun K8 hK8 => ?_
      refine rg ?_
      refine hK8 _ ?_
      clear hK8 K8
      refine Wp.ret (retV ?_)
      simp only [List.getD_cons_zero, List.getD_cons_succ]
      unfold divT; rw [if_pos h11, if_neg h13]
theorem sRem_c (w a b : Int) : Val E.P 110 [I w, I a, I b] (I (remT w a b)) := by
  refine CallsA.body (E := E) (fn := Tryz.f110) Tryz.func110 rfl fun B hB => ?_
  simp only [Tryz.ntmps110, go_sem, nl, Nat.reduceSub, Nat.reduceAdd, List.reduceReplicate]
  refine Wp.seqK fun K1 hK1 => ?_
  refine rg ?_
  refine hK1 _ ?_
  clear hK1 K1
  refine Wp.seqK fun K2 hK2 => ?_
  refine Wp.seqK fun K3 hK3 => ?_
  refine rg ?_
  refine ⟨rfl, CallK.valA (h := sTwo_c _ _ _) (k := ?_)⟩
  refine evd ?_
  refine hK3 _ ?_
  clear hK3 K3
  refine Wp.condS (fun h11 => ?_) (fun h11 => ?_)
  · refine Wp.seqK fun K4 hK4 => ?_
    refine rg ?_
    refine hK4 _ ?_
    clear hK4 K4
    refine Wp.ret (retV ?_)
    simp only [List.getD_cons_zero, List.getD_cons_succ]
    unfold remT; rw [if_neg (by rw [h11]; decide)]
  · have hd := two_t h11
    have hp := pw (show 0 ≤ w by omega) hd.2.1
    refine Wp.skip ?_
    refine hK2 _ ?_
    clear hK2 K2
    refine Wp.seqK fun K5 hK5 => ?_
    refine Wp.seqK fun K6 hK6 => ?_
    refine rg ?_
    refine hK6 _ ?_
    clear hK6 K6
    refine Wp.condS (fun h13 => ?_) (fun h13 => ?_)
    · refine Wp.seqK fun K7 hK7 => ?_
      refine rg ?_
      refine hK7 _ ?_
      clear hK7 K7
      refine Wp.ret (retV ?_)
      simp only [List.getD_cons_zero, List.getD_cons_succ]
      unfold remT; rw [if_pos h11, if_pos h13]
    · refine Wp.skip ?_
      refine hK5 _ ?_
      clear hK5 K5
      refine Wp.seqK fun K8 hK8 => ?_
      refine rg ?_
      refine hK8 _ ?_
      clear hK8 K8
      refine Wp.ret (retV ?_)
      simp only [List.getD_cons_zero, List.getD_cons_succ]
      unfold remT; rw [if_pos h11, if_neg h13]
theorem sShl_c (w a b : Int) : Val E.P 111 [I w, I a, I b] (I (shlT w a b)) := by
  refine CallsA.body (E := E) (fn := Tryz.f111) Tryz.func111 rfl fun B hB => ?_
  simp only [Tryz.ntmps111, go_sem, nl, Nat.reduceSub, Nat.reduceAdd, List.reduceReplicate]
  refine Wp.seqK fun K1 hK1 => ?_
  refine rg ?_
  refine hK1 _ ?_
  clear hK1 K1
  refine Wp.seqK fun K2 hK2 => ?_
  refine Wp.seqU0 [.k, .k, .k, .d5, .d5, .d, .d, .d, .v (T (!two w a b || decide (w ≤ b))), .d5, .d, .d] (fun K3 hK3 => ?_) ?_
  · refine rg ?_
    refine ⟨rfl, CallK.valA (h := sTwo_c _ _ _) (k := ?_)⟩
    refine evd ?_
    refine grdA_split rfl (fun g1_6 => ?_) (fun g1_6 => ?_)
    · try simp only [decide_eq_true_eq, decide_eq_false_iff_not] at g1_6
      refine evd ?_
      exact hK3 _ (anyS (h := by first | rfl | (simp only [g1_6, Bool.true_or, Bool.or_true, Bool.false_or, Bool.or_false, Bool.true_and, Bool.and_true, Bool.false_and, Bool.and_false, Bool.not_true, Bool.not_false, decide_true, decide_false, eq_self, Int.reduceEq] <;> rfl)))
    · try simp only [decide_eq_true_eq, decide_eq_false_iff_not] at g1_6
      refine evd ?_
      exact hK3 _ (anyS (h := by first | rfl | (simp only [g1_6, Bool.true_or, Bool.or_true, Bool.false_or, Bool.or_false, Bool.true_and, Bool.and_true, Bool.false_and, Bool.and_false, Bool.not_true, Bool.not_false, decide_true, decide_false, eq_self, Int.reduceEq] <;> rfl)))
  rintro f3
  simp only [updT_k, updT_d, updT_d5, updT_v, updT_nil, Nat.reduceAdd]
  refine Wp.condS (fun h16 => ?_) (fun h16 => ?_)
  · refine Wp.seqK fun K4 hK4 => ?_
    refine rg ?_
    refine hK4 _ ?_
    clear hK4 K4
    refine Wp.ret (retV ?_)
    simp only [List.getD_cons_zero, List.getD_cons_succ]
    unfold shlT; rw [if_neg (by rw [sh_no (D := shlT) (x := 0) h16]; decide)]
  · have hd := two_t h16.1
    have hp := pw (show 0 ≤ w by omega) hd.2.1
    have hpb := pw (w := b) (show 0 ≤ b by omega) (by omega)
    have hm := mul_b (a := a) (b := 2 ^ b.toNat) (by omega) (by omega) (by omega) (by omega)
    have hdv := div_b (a := a) (b := b) (by omega)
    refine Wp.skip ?_
    refine hK2 _ ?_
    clear hK2 K2
    refine Wp.seqK fun K5 hK5 => ?_
    refine rg ?_
    refine ⟨rfl, CallK.valA (h := l01Pow2_c _ (by omega) (by omega)) (k := ?_)⟩
    refine evd ?_
    refine ⟨rfl, CallK.valA (h := l01Pow2_c _ (by omega) (by omega)) (k := ?_)⟩
    refine evd ?_
    refine hK5 _ ?_
    clear hK5 K5
    refine Wp.ret (retV ?_)
    simp only [List.getD_cons_zero, List.getD_cons_succ]
    unfold shlT; rw [if_pos (sh_yes h16)]
    rw [tmod_cut (by omega)]
theorem sShr_c (w a b : Int) : Val E.P 112 [I w, I a, I b] (I (shrT w a b)) := by
  refine CallsA.body (E := E) (fn := Tryz.f112) Tryz.func112 rfl fun B hB => ?_
  simp only [Tryz.ntmps112, go_sem, nl, Nat.reduceSub, Nat.reduceAdd, List.reduceReplicate]
  refine Wp.seqK fun K1 hK1 => ?_
  refine rg ?_
  refine hK1 _ ?_
  clear hK1 K1
  refine Wp.seqK fun K2 hK2 => ?_
  refine Wp.seqU0 [.d, .k, .k, .d5, .d5, .d, .d, .d, .v (T (!two w a b || decide (w ≤ b))), .d, .d, .d, .d] (fun K3 hK3 => ?_) ?_
  · refine rg ?_
    refine ⟨rfl, CallK.valA (h := sTwo_c _ _ _) (k := ?_)⟩
    refine evd ?_
    refine grdA_split rfl (fun g1_6 => ?_) (fun g1_6 => ?_)
    · try simp only [decide_eq_true_eq, decide_eq_false_iff_not] at g1_6
      refine evd ?_
      exact hK3 _ (anyS (h := by first | rfl | (simp only [g1_6, Bool.true_or, Bool.or_true, Bool.false_or, Bool.or_false, Bool.true_and, Bool.and_true, Bool.false_and, Bool.and_false, Bool.not_true, Bool.not_false, decide_true, decide_false, eq_self, Int.reduceEq] <;> rfl)))
    · try simp only [decide_eq_true_eq, decide_eq_false_iff_not] at g1_6
      refine evd ?_
      exact hK3 _ (anyS (h := by first | rfl | (simp only [g1_6, Bool.true_or, Bool.or_true, Bool.false_or, Bool.or_false, Bool.true_and, Bool.and_true, Bool.false_and, Bool.and_false, Bool.not_true, Bool.not_false, decide_true, decide_false, eq_self, Int.reduceEq] <;> rfl)))
  rintro f3
  simp only [updT_k, updT_d, updT_d5, updT_v, updT_nil, Nat.reduceAdd]
  refine Wp.condS (fun h16 => ?_) (fun h16 => ?_)
  · refine Wp.seqK fun K4 hK4 => ?_
    refine rg ?_
    refine hK4 _ ?_
    clear hK4 K4
    refine Wp.ret (retV ?_)
    simp only [List.getD_cons_zero, List.getD_cons_succ]
    unfold shrT; rw [if_neg (by rw [sh_no (D := shrT) (x := 0) h16]; decide)]
  · have hd := two_t h16.1
    have hp := pw (show 0 ≤ w by omega) hd.2.1
    have hpb := pw (w := b) (show 0 ≤ b by omega) (by omega)
    have hm := mul_b (a := a) (b := 2 ^ b.toNat) (by omega) (by omega) (by omega) (by omega)
    have hdv := div_b (a := a) (b := b) (by omega)
    refine Wp.skip ?_
    refine hK2 _ ?_
    clear hK2 K2
    refine Wp.seqK fun K5 hK5 => ?_
    refine rg ?_
    refine ⟨rfl, CallK.valA (h := l01Pow2_c _ (by omega) (by omega)) (k := ?_)⟩
    refine evd ?_
    refine hK5 _ ?_
    clear hK5 K5
    refine Wp.ret (retV ?_)
    simp only [List.getD_cons_zero, List.getD_cons_succ]
    unfold shrT; rw [if_pos (sh_yes h16)]
    rw [tdiv_pw (by omega), wr (by omega) (by omega)]
theorem sFlip_c (w a : Int) : Val E.P 105 [I w, I a] (I (flipT w a)) := by
  refine CallsA.body (E := E) (fn := Tryz.f105) Tryz.func105 rfl fun B hB => ?_
  simp only [Tryz.ntmps105, go_sem, nl, Nat.reduceSub, Nat.reduceAdd, List.reduceReplicate]
  refine Wp.seqK fun K1 hK1 => ?_
  refine rg ?_
  refine hK1 _ ?_
  clear hK1 K1
  refine Wp.seqK fun K2 hK2 => ?_
  refine Wp.seqK fun K3 hK3 => ?_
  refine rg ?_
  refine ⟨rfl, CallK.valA (h := sWordOk_c _ _) (k := ?_)⟩
  refine evd ?_
  refine hK3 _ ?_
  clear hK3 K3
  refine Wp.condS (fun h8 => ?_) (fun h8 => ?_)
  · refine Wp.seqK fun K4 hK4 => ?_
    refine rg ?_
    refine hK4 _ ?_
    clear hK4 K4
    refine Wp.ret (retV ?_)
    simp only [List.getD_cons_zero, List.getD_cons_succ]
    unfold flipT; rw [if_neg (by rw [h8]; decide)]
  · have hd := wordOk_t h8
    have hp := pw (show 0 ≤ w by omega) hd.2.1
    refine Wp.skip ?_
    refine hK2 _ ?_
    clear hK2 K2
    refine Wp.seqK fun K5 hK5 => ?_
    refine rg ?_
    refine ⟨rfl, CallK.valA (h := l01Pow2_c _ (by omega) (by omega)) (k := ?_)⟩
    refine evd ?_
    refine hK5 _ ?_
    clear hK5 K5
    refine Wp.ret (retV ?_)
    simp only [List.getD_cons_zero, List.getD_cons_succ]
    unfold flipT; rw [if_pos h8]
theorem sSigned_c (w a : Int) : Val E.P 132 [I w, I a] (I (sgnT w a)) := by
  refine CallsA.body (E := E) (fn := Tryz.f132) Tryz.func132 rfl fun B hB => ?_
  simp only [Tryz.ntmps132, go_sem, nl, Nat.reduceSub, Nat.reduceAdd, List.reduceReplicate]
  refine Wp.seqK fun K1 hK1 => ?_
  refine rg ?_
  refine hK1 _ ?_
  clear hK1 K1
  refine Wp.seqK fun K2 hK2 => ?_
  refine Wp.seqK fun K3 hK3 => ?_
  refine rg ?_
  refine ⟨rfl, CallK.valA (h := sWordOk_c _ _) (k := ?_)⟩
  refine evd ?_
  refine hK3 _ ?_
  clear hK3 K3
  refine Wp.condS (fun h8 => ?_) (fun h8 => ?_)
  · refine Wp.seqK fun K4 hK4 => ?_
    refine rg ?_
    refine hK4 _ ?_
    clear hK4 K4
    refine Wp.ret (retV ?_)
    simp only [List.getD_cons_zero, List.getD_cons_succ]
    unfold sgnT; rw [if_neg (by rw [h8]; decide)]
  · have hd := wordOk_t h8
    have hp := pw (show 0 ≤ w by omega) hd.2.1
    have hp1 := pw (w := w - 1) (show 0 ≤ w - 1 by omega) (by omega)
    refine Wp.skip ?_
    refine hK2 _ ?_
    clear hK2 K2
    refine Wp.seqK fun K5 hK5 => ?_
    refine Wp.seqK fun K6 hK6 => ?_
    refine rg ?_
    refine ⟨rfl, CallK.valA (h := l01Pow2_c _ (by omega) (by omega)) (k := ?_)⟩
    refine evd ?_
    refine hK6 _ ?_
    clear hK6 K6
    refine Wp.condS (fun h13 => ?_) (fun h13 => ?_)
    · refine Wp.seqK fun K7 hK7 => ?_
      refine rg ?_
      refine ⟨rfl, CallK.valA (h := l01Pow2_c _ (by omega) (by omega)) (k := ?_)⟩
      refine evd ?_
      refine hK7 _ ?_
      clear hK7 K7
      refine Wp.ret (retV ?_)
      simp only [List.getD_cons_zero, List.getD_cons_succ]
      unfold sgnT; rw [if_pos h8, if_pos h13]
    · refine Wp.skip ?_
      refine hK5 _ ?_
      clear hK5 K5
      refine Wp.seqK fun K8 hK8 => ?_
      refine rg ?_
      refine hK8 _ ?_
      clear hK8 K8
      refine Wp.ret (retV ?_)
      simp only [List.getD_cons_zero, List.getD_cons_succ]
      unfold sgnT; rw [if_pos h8, if_neg (by omega)]
theorem sBit_c (b : Bool) : Val E.P 113 [T b] (I (bitT b)) := by
  refine CallsA.body (E := E) (fn := Tryz.f113) Tryz.func113 rfl fun B hB => ?_
  simp only [Tryz.ntmps113, go_sem, nl, Nat.reduceSub, Nat.reduceAdd, List.reduceReplicate]
  refine Wp.seqK fun K1 hK1 => ?_
  refine rg ?_
  refine hK1 _ ?_
  clear hK1 K1
  refine Wp.seqK fun K2 hK2 => ?_
  refine Wp.seqK fun K3 hK3 => ?_
  refine rg ?_
  refine hK3 _ ?_
  clear hK3 K3
  refine Wp.condS (fun h3 => ?_) (fun h3 => ?_)
  · refine Wp.seqK fun K4 hK4 => ?_
    refine rg ?_
    refine hK4 _ ?_
    clear hK4 K4
    refine Wp.ret (retV ?_)
    simp only [List.getD_cons_zero, List.getD_cons_succ]
    unfold bitT; rw [if_pos h3]
  · refine Wp.skip ?_
    refine hK2 _ ?_
    clear hK2 K2
    refine Wp.seqK fun K5 hK5 => ?_
    refine rg ?_
    refine hK5 _ ?_
    clear hK5 K5
    refine Wp.ret (retV ?_)
    simp only [List.getD_cons_zero, List.getD_cons_succ]
    unfold bitT; rw [if_neg (by rw [h3]; decide)]
theorem sLess_c (w a b : Int) : Val E.P 114 [I w, I a, I b] (I (lessT w a b)) := by
  refine CallsA.body (E := E) (fn := Tryz.f114) Tryz.func114 rfl fun B hB => ?_
  simp only [Tryz.ntmps114, go_sem, nl, Nat.reduceSub, Nat.reduceAdd, List.reduceReplicate]
  refine Wp.seqK fun K1 hK1 => ?_
  refine rg ?_
  refine hK1 _ ?_
  clear hK1 K1
  refine Wp.seqK fun K2 hK2 => ?_
  refine rg ?_
  refine ⟨rfl, CallK.valA (h := sTwo_c _ _ _) (k := ?_)⟩
  refine evd ?_
  refine grdA_split rfl (fun g1_5 => ?_) (fun g1_5 => ?_)
  · try simp only [decide_eq_true_eq, decide_eq_false_iff_not] at g1_5
    refine evd ?_
    refine ⟨rfl, CallK.valA (h := sBit_c _) (k := ?_)⟩
    refine evd ?_
    refine hK2 _ ?_
    clear hK2 K2
    refine Wp.ret (retV ?_)
    simp only [List.getD_cons_zero, List.getD_cons_succ]
    unfold lessT; rw [g1_5, Bool.true_and]
  · try simp only [decide_eq_true_eq, decide_eq_false_iff_not] at g1_5
    refine evd ?_
    refine ⟨rfl, CallK.valA (h := sBit_c _) (k := ?_)⟩
    refine evd ?_
    refine hK2 _ ?_
    clear hK2 K2
    refine Wp.ret (retV ?_)
    simp only [List.getD_cons_zero, List.getD_cons_succ]
    unfold lessT; rw [g1_5]; rfl
theorem sLessSigned_c (w a b : Int) : Val E.P 115 [I w, I a, I b] (I (lessST w a b)) := by
  refine CallsA.body (E := E) (fn := Tryz.f115) Tryz.func115 rfl fun B hB => ?_
  simp only [Tryz.ntmps115, go_sem, nl, Nat.reduceSub, Nat.reduceAdd, List.reduceReplicate]
  refine Wp.seqK fun K1 hK1 => ?_
  refine rg ?_
  refine hK1 _ ?_
  clear hK1 K1
  refine Wp.seqK fun K2 hK2 => ?_
  refine rg ?_
  refine ⟨rfl, CallK.valA (h := sTwo_c _ _ _) (k := ?_)⟩
  refine evd ?_
  refine grdA_split rfl (fun g1_5 => ?_) (fun g1_5 => ?_)
  · try simp only [decide_eq_true_eq, decide_eq_false_iff_not] at g1_5
    refine evd ?_
    refine ⟨rfl, CallK.valA (h := sSigned_c _ _) (k := ?_)⟩
    refine evd ?_
    refine ⟨rfl, CallK.valA (h := sSigned_c _ _) (k := ?_)⟩
    refine evd ?_
    refine ⟨rfl, CallK.valA (h := sBit_c _) (k := ?_)⟩
    refine evd ?_
    refine hK2 _ ?_
    clear hK2 K2
    refine Wp.ret (retV ?_)
    simp only [List.getD_cons_zero, List.getD_cons_succ]
    unfold lessST; rw [g1_5, Bool.true_and]
  · try simp only [decide_eq_true_eq, decide_eq_false_iff_not] at g1_5
    refine evd ?_
    refine ⟨rfl, CallK.valA (h := sBit_c _) (k := ?_)⟩
    refine evd ?_
    refine hK2 _ ?_
    clear hK2 K2
    refine Wp.ret (retV ?_)
    simp only [List.getD_cons_zero, List.getD_cons_succ]
    unfold lessST; rw [g1_5]; rfl
theorem sSlice_c (w a low n : Int) (hk1 : -1000 ≤ low) (hk2 : low ≤ 1000) : Val E.P 116 [I w, I a, I low, I n] (I (sliceT w a low n)) := by
  refine CallsA.body (E := E) (fn := Tryz.f116) Tryz.func116 rfl fun B hB => ?_
  simp only [Tryz.ntmps116, go_sem, nl, Nat.reduceSub, Nat.reduceAdd, List.reduceReplicate]
  refine Wp.seqK fun K1 hK1 => ?_
  refine rg ?_
  refine hK1 _ ?_
  clear hK1 K1
  refine Wp.seqK fun K2 hK2 => ?_
  refine Wp.seqU0 [.d, .k, .k, .k, .d5, .d5, .d5, .d5, .v (T (!sliceOk w a low n)), .d5, .d, .d] (fun K3 hK3 => ?_) ?_
  · refine rg ?_
    refine ⟨rfl, CallK.valA (h := sWordOk_c _ _) (k := ?_)⟩
    refine evd ?_
    refine grdA_split rfl (fun g1_5 => ?_) (fun g1_5 => ?_)
    · try simp only [decide_eq_true_eq, decide_eq_false_iff_not] at g1_5
      simp only [Bool.not_eq_true', Bool.not_eq_false'] at g1_5
      have hs : sliceOk w a low n = false := by
        unfold sliceOk
        rw [g1_5]; rfl
      refine evd ?_
      exact hK3 _ (anyS (h := by rw [hs] <;> rfl))
    · try simp only [decide_eq_true_eq, decide_eq_false_iff_not] at g1_5
      simp only [Bool.not_eq_true', Bool.not_eq_false'] at g1_5
      have hw := wordOk_t g1_5
      refine evd ?_
      refine grdA_split rfl (fun g1_9 => ?_) (fun g1_9 => ?_)
      · try simp only [decide_eq_true_eq, decide_eq_false_iff_not] at g1_9
        have hs : sliceOk w a low n = false := by
          unfold sliceOk
          rw [decide_eq_false (by omega), Bool.and_false]
        refine evd ?_
        exact hK3 _ (anyS (h := by rw [hs] <;> rfl))
      · try simp only [decide_eq_true_eq, decide_eq_false_iff_not] at g1_9
        have hs : sliceOk w a low n = (decide (1 ≤ n) && decide (n ≤ w - low)) := by
          unfold sliceOk
          rw [g1_5, Bool.true_and, ← Bool.decide_and]
          exact decide_eq_decide.2 (by omega)
        refine evd ?_
        refine ⟨rfl, CallK.valA (h := l01In_c _ _ _) (k := ?_)⟩
        refine evd ?_
        exact hK3 _ (anyS (h := by rw [hs] <;> rfl))
  rintro f3
  simp only [updT_k, updT_d, updT_d5, updT_v, updT_nil, Nat.reduceAdd]
  refine Wp.condS (fun h24 => ?_) (fun h24 => ?_)
  · refine Wp.seqK fun K4 hK4 => ?_
    refine rg ?_
    refine hK4 _ ?_
    clear hK4 K4
    refine Wp.ret (retV ?_)
    simp only [List.getD_cons_zero, List.getD_cons_succ]
    unfold sliceT; rw [if_neg (by rw [h24]; decide)]
  · have hs : sliceOk w a low n = true := h24
    simp only [sliceOk, Bool.and_eq_true, decide_eq_true_eq] at h24
    have hw := wordOk_t h24.1
    have hp := pw (show 0 ≤ w by omega) hw.2.1
    have hpn := pw (w := n) (by omega) (by omega)
    have hpl := pw (w := low) (by omega) (by omega)
    have hdv := div_b (a := a) (b := low) (by omega)
    refine Wp.skip ?_
    refine hK2 _ ?_
    clear hK2 K2
    refine Wp.seqK fun K5 hK5 => ?_
    refine Wp.drawP [] [2, 5] [0, 1, 4, 2, 3, 5, 6, 7] rfl (by kernel_rfl) ?_
    refine evd ?_
    refine ⟨rfl, CallK.valA (h := l01Pow2_c _ (by omega) (by omega)) (k := ?_)⟩
    refine evd ?_
    refine ⟨rfl, CallK.valA (h := l01Pow2_c _ (by omega) (by omega)) (k := ?_)⟩
    refine evd ?_
    refine hK5 _ ?_
    clear hK5 K5
    refine Wp.ret (retV ?_)
    simp only [List.getD_cons_zero, List.getD_cons_succ]
    unfold sliceT; rw [if_pos hs, tdiv_pw (by omega), wr (by omega) (by omega), tmod_cut (by omega)]
end Go.Proofs.YtkdkbnacelnljaaGreat.RE
