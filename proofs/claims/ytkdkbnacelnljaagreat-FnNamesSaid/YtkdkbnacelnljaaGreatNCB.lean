/- Powers and words. Conditions: those that a theorem names. -/
import Derived.Test.YtkdkbnacelnljaaGreatNCA
set_option linter.unusedVariables false
set_option linter.unusedSimpArgs false
namespace Go.Proofs.YtkdkbnacelnljaaGreat.RE
open Go Go.RowKit
set_option maxRecDepth 100000
set_option maxHeartbeats 8000000

theorem pow_le62 {x : Nat} (h : x ≤ 62) : (1 : Int) ≤ 2 ^ x ∧ (2 : Int) ^ x ≤ 4611686018427387904 := by
  have h1 : 1 ≤ 2 ^ x := Nat.one_le_two_pow
  have h2 : 2 ^ x ≤ 2 ^ 62 := Nat.pow_le_pow_right (by omega) h
  have e : ((2 ^ x : Nat) : Int) = (2 : Int) ^ x := by simp
  omega
theorem l01Pow2_c (a : Int) (h0 : 0 ≤ a) (h1 : a ≤ 62) : Val E.P 102 [I a] (I (2 ^ a.toNat)) := by
  refine CallsA.body (E := E) (fn := Tryz.f102) Tryz.func102 rfl fun B hB => ?_
  simp only [Tryz.ntmps102, go_sem, nl, Nat.mul_one, Nat.one_mul, Nat.reducePow, Nat.reduceAdd, Nat.reduceMul, Nat.reduceSub, Nat.reduceLeDiff, Nat.reduceEqDiff, Nat.reduceLT, reduceIte, Int.reduceToNat, Int.reduceLE, Int.reduceLT, reduceCtorEq, List.contains_cons, List.contains_nil, Nat.reduceBEq, Bool.or_false, Bool.false_or, Bool.or_true, Bool.true_or, forall_eq, forall_eq_or_imp, List.mem_cons, List.not_mem_nil, or_false, false_or, List.reduceReplicate]
  refine Wp.seqK fun K1 hK1 => ?_
  refine Wp.regionS ?_
  refine evc ?_
  repeat (refine And.intro (by first | omega | (refine ⟨?_, ?_⟩ <;> omega)) ?_)
  refine hK1 _ ?_
  clear hK1 K1
  refine Wp.seqK fun K2 hK2 => ?_
  refine Wp.regionS ?_
  refine evc ?_
  repeat (refine And.intro (by first | omega | (refine ⟨?_, ?_⟩ <;> omega)) ?_)
  refine hK2 _ ?_
  clear hK2 K2
  refine Wp.seqK fun K3 hK3 => ?_
  refine Wp.seqK fun K4 hK4 => ?_
  refine Wp.regionS ?_
  refine evc ?_
  repeat (refine And.intro (by first | omega | (refine ⟨?_, ?_⟩ <;> omega)) ?_)
  refine hK4 _ ?_
  clear hK4 K4
  refine Wp.block ?_
  skip
  refine Wp.loop (α := Nat) (fun x s => (x : Int) ≤ a ∧ ∃ f : Nat → AV, s = ⟨[I a, f 1, f 2, I (2 ^ x), I x, f 5, f 6, f 7, f 8, f 9, f 10, f 11, f 12], []⟩) (fun x => a.toNat - x) 0 ⟨by simpa using h0, anyT rfl rfl⟩ ?_
  rintro x _ ⟨hx, f, rfl⟩
  refine Wp.seqK fun K5 hK5 => ?_
  refine Wp.seqK fun K6 hK6 => ?_
  refine Wp.regionS ?_
  refine evc ?_
  repeat (refine And.intro (by first | omega | (refine ⟨?_, ?_⟩ <;> omega)) ?_)
  refine hK6 _ ?_
  clear hK6 K6
  refine Wp.cond rfl (fun h7 => ?_) (fun h7 => ?_)
  · skip
    refine Wp.skip ?_
    refine hK5 _ ?_
    clear hK5 K5
    refine Wp.seqK fun K7 hK7 => ?_
    refine Wp.block ?_
    refine Wp.regionS ?_
    refine evc ?_
    repeat (refine And.intro (by first | omega | (refine ⟨?_, ?_⟩ <;> omega)) ?_)
    try simp only [thn, inB, if_true, reduceIte]
    refine hK7 _ ?_
    clear hK7 K7
    refine Wp.regionS ?_
    refine evc ?_
    repeat (refine And.intro (by first | omega | (refine ⟨?_, ?_⟩ <;> omega)) ?_)
    refine ⟨x + 1, ⟨?_, ?_⟩, ?_⟩
    · simp at h7; omega
    · have h8 : x + 1 ≤ 62 := by simp at h7; omega
      have p1 := pow_le62 h8
      have p0 := pow_le62 (show x ≤ 62 by omega)
      rw [Int.pow_succ] at p1
      have e1 : IntKind.i64.wrap (2 * 2 ^ x) = 2 ^ (x + 1) := by rw [wr (by omega) (by omega), Int.pow_succ]; omega
      have e2 : IntKind.i64.wrap (x + 1) = ((x + 1 : Nat) : Int) := wr (by omega) (by omega)
      rw [e1, e2]
      exact anyT rfl rfl
    · simp at h7; omega
  · skip
    refine Wp.exit ?_
    simp only [thn, inB, if_true, reduceIte]
    clear hK5 K5
    refine hK3 _ ?_
    clear hK3 K3
    refine Wp.seqK fun K8 hK8 => ?_
    refine Wp.regionS ?_
    refine evc ?_
    repeat (refine And.intro (by first | omega | (refine ⟨?_, ?_⟩ <;> omega)) ?_)
    refine hK8 _ ?_
    clear hK8 K8
    refine Wp.ret ?_
    simp only [thn, inB, retQ]
    refine ⟨_, [], rfl, Nat.zero_le _, by decide, by simp, ?_⟩
    simp only [go_sem, nl, Nat.mul_one, Nat.one_mul, Nat.reducePow, Nat.reduceAdd, Nat.reduceMul, Nat.reduceSub, Nat.reduceLeDiff, Nat.reduceEqDiff, Nat.reduceLT, reduceIte, Int.reduceToNat, Int.reduceLE, Int.reduceLT, reduceCtorEq, List.contains_cons, List.contains_nil, Nat.reduceBEq, Bool.or_false, Bool.false_or, Bool.or_true, Bool.true_or, forall_eq, forall_eq_or_imp, List.mem_cons, List.not_mem_nil, or_false, false_or]
    all_goals
      simp at h7
      rw [show a.toNat = x by omega]

def wordOk (w a : Int) : Bool := decide (1 ≤ w ∧ w ≤ 8 ∧ 0 ≤ a ∧ a < 2 ^ w.toNat)
theorem wrapU {w : Int} (h1 : 0 ≤ w) (h2 : w ≤ 62) : IntKind.u64.wrap w = w := by
  simp only [IntKind.wrap, IntKind.bits, IntKind.signed]
  simp
  omega
theorem wordOk_eq (w a : Int) (h : (decide (1 ≤ w) && decide (w ≤ 8)) = true) : (decide (0 ≤ a) && decide (a ≤ 2 ^ w.toNat - 1)) = wordOk w a := by
  simp at h
  simp [wordOk, h]
  by_cases 0 ≤ a <;> simp [*]
  omega
theorem wordOk_no (w a : Int) (h : (decide (1 ≤ w) && decide (w ≤ 8)) = false) : false = wordOk w a := by
  simp at h
  simp [wordOk]
  intro h1 h2
  omega
theorem iWordOk_c (w a : Int) : Val E.P 87 [I w, I a] (T (wordOk w a)) := by
  refine CallsA.body (E := E) (fn := Tryz.f87) Tryz.func87 rfl fun B hB => ?_
  simp only [Tryz.ntmps87, go_sem, nl, Nat.mul_one, Nat.one_mul, Nat.reducePow, Nat.reduceAdd, Nat.reduceMul, Nat.reduceSub, Nat.reduceLeDiff, Nat.reduceEqDiff, Nat.reduceLT, reduceIte, Int.reduceToNat, Int.reduceLE, Int.reduceLT, reduceCtorEq, List.contains_cons, List.contains_nil, Nat.reduceBEq, Bool.or_false, Bool.false_or, Bool.or_true, Bool.true_or, forall_eq, forall_eq_or_imp, List.mem_cons, List.not_mem_nil, or_false, false_or, List.reduceReplicate]
  refine Wp.seqK fun K1 hK1 => ?_
  refine Wp.regionS ?_
  refine evc ?_
  repeat (refine And.intro (by first | omega | (refine ⟨?_, ?_⟩ <;> omega)) ?_)
  refine hK1 _ ?_
  clear hK1 K1
  refine Wp.seqK fun K2 hK2 => ?_
  refine Wp.regionS ?_
  refine evc ?_
  repeat (refine And.intro (by first | omega | (refine ⟨?_, ?_⟩ <;> omega)) ?_)
  refine ⟨rfl, CallK.val [] LendOk.nil (isWidth_c _) rfl ?_⟩
  refine evc ?_
  repeat (refine And.intro (by first | omega | (refine ⟨?_, ?_⟩ <;> omega)) ?_)
  refine grdA_split rfl (fun g1 => ?_) (fun g1 => ?_)
  · simp only [go_sem, nl, Nat.mul_one, Nat.one_mul, Nat.reducePow, Nat.reduceAdd, Nat.reduceMul, Nat.reduceSub, Nat.reduceLeDiff, Nat.reduceEqDiff, Nat.reduceLT, reduceIte, Int.reduceToNat, Int.reduceLE, Int.reduceLT, reduceCtorEq, List.contains_cons, List.contains_nil, Nat.reduceBEq, Bool.or_false, Bool.false_or, Bool.or_true, Bool.true_or, forall_eq, forall_eq_or_imp, List.mem_cons, List.not_mem_nil, or_false, false_or]
    repeat (refine And.intro (by first | omega | (refine ⟨?_, ?_⟩ <;> omega)) ?_)
    have hw : 1 ≤ w ∧ w ≤ 8 := by simpa using g1
    have hp := pow_le62 (show w.toNat ≤ 62 by omega)
    simp only [wrapU (show 0 ≤ w by omega) (by omega), show IntKind.i64.bits = 64 from rfl, show min w.toNat 64 = w.toNat by omega, Int.one_mul]
    have e1 : IntKind.i64.wrap (2 ^ w.toNat) = 2 ^ w.toNat := wr (by omega) (by omega)
    have e2 : IntKind.i64.wrap (2 ^ w.toNat - 1) = 2 ^ w.toNat - 1 := wr (by omega) (by omega)
    rw [e1, e2]
    refine ⟨rfl, CallK.val [] LendOk.nil (within_c _ _ _) rfl ?_⟩
    refine evc ?_
    repeat (refine And.intro (by first | omega | (refine ⟨?_, ?_⟩ <;> omega)) ?_)
    refine hK2 _ ?_
    clear hK2 K2
    refine Wp.ret ?_
    simp only [thn, inB, retQ]
    refine ⟨_, [], rfl, Nat.zero_le _, by decide, by simp, ?_⟩
    simp only [go_sem, nl, Nat.mul_one, Nat.one_mul, Nat.reducePow, Nat.reduceAdd, Nat.reduceMul, Nat.reduceSub, Nat.reduceLeDiff, Nat.reduceEqDiff, Nat.reduceLT, reduceIte, Int.reduceToNat, Int.reduceLE, Int.reduceLT, reduceCtorEq, List.contains_cons, List.contains_nil, Nat.reduceBEq, Bool.or_false, Bool.false_or, Bool.or_true, Bool.true_or, forall_eq, forall_eq_or_imp, List.mem_cons, List.not_mem_nil, or_false, false_or]
    all_goals
      rw [wordOk_eq w a g1]
  · simp only [go_sem, nl, Nat.mul_one, Nat.one_mul, Nat.reducePow, Nat.reduceAdd, Nat.reduceMul, Nat.reduceSub, Nat.reduceLeDiff, Nat.reduceEqDiff, Nat.reduceLT, reduceIte, Int.reduceToNat, Int.reduceLE, Int.reduceLT, reduceCtorEq, List.contains_cons, List.contains_nil, Nat.reduceBEq, Bool.or_false, Bool.false_or, Bool.or_true, Bool.true_or, forall_eq, forall_eq_or_imp, List.mem_cons, List.not_mem_nil, or_false, false_or]
    repeat (refine And.intro (by first | omega | (refine ⟨?_, ?_⟩ <;> omega)) ?_)
    refine hK2 _ ?_
    clear hK2 K2
    refine Wp.ret ?_
    simp only [thn, inB, retQ]
    refine ⟨_, [], rfl, Nat.zero_le _, by decide, by simp, ?_⟩
    simp only [go_sem, nl, Nat.mul_one, Nat.one_mul, Nat.reducePow, Nat.reduceAdd, Nat.reduceMul, Nat.reduceSub, Nat.reduceLeDiff, Nat.reduceEqDiff, Nat.reduceLT, reduceIte, Int.reduceToNat, Int.reduceLE, Int.reduceLT, reduceCtorEq, List.contains_cons, List.contains_nil, Nat.reduceBEq, Bool.or_false, Bool.false_or, Bool.or_true, Bool.true_or, forall_eq, forall_eq_or_imp, List.mem_cons, List.not_mem_nil, or_false, false_or]
    all_goals
      rw [← wordOk_no w a g1]
theorem sWordOk_c (w a : Int) : Val E.P 91 [I w, I a] (T (wordOk w a)) := by
  refine CallsA.body (E := E) (fn := Tryz.f91) Tryz.func91 rfl fun B hB => ?_
  simp only [Tryz.ntmps91, go_sem, nl, Nat.mul_one, Nat.one_mul, Nat.reducePow, Nat.reduceAdd, Nat.reduceMul, Nat.reduceSub, Nat.reduceLeDiff, Nat.reduceEqDiff, Nat.reduceLT, reduceIte, Int.reduceToNat, Int.reduceLE, Int.reduceLT, reduceCtorEq, List.contains_cons, List.contains_nil, Nat.reduceBEq, Bool.or_false, Bool.false_or, Bool.or_true, Bool.true_or, forall_eq, forall_eq_or_imp, List.mem_cons, List.not_mem_nil, or_false, false_or, List.reduceReplicate]
  refine Wp.seqK fun K1 hK1 => ?_
  refine Wp.regionS ?_
  refine evc ?_
  repeat (refine And.intro (by first | omega | (refine ⟨?_, ?_⟩ <;> omega)) ?_)
  refine hK1 _ ?_
  clear hK1 K1
  refine Wp.seqK fun K2 hK2 => ?_
  refine Wp.regionS ?_
  refine evc ?_
  repeat (refine And.intro (by first | omega | (refine ⟨?_, ?_⟩ <;> omega)) ?_)
  refine ⟨rfl, CallK.val [] LendOk.nil (l01In_c _ _ _) rfl ?_⟩
  refine evc ?_
  repeat (refine And.intro (by first | omega | (refine ⟨?_, ?_⟩ <;> omega)) ?_)
  refine grdA_split rfl (fun g1 => ?_) (fun g1 => ?_)
  · simp only [go_sem, nl, Nat.mul_one, Nat.one_mul, Nat.reducePow, Nat.reduceAdd, Nat.reduceMul, Nat.reduceSub, Nat.reduceLeDiff, Nat.reduceEqDiff, Nat.reduceLT, reduceIte, Int.reduceToNat, Int.reduceLE, Int.reduceLT, reduceCtorEq, List.contains_cons, List.contains_nil, Nat.reduceBEq, Bool.or_false, Bool.false_or, Bool.or_true, Bool.true_or, forall_eq, forall_eq_or_imp, List.mem_cons, List.not_mem_nil, or_false, false_or]
    repeat (refine And.intro (by first | omega | (refine ⟨?_, ?_⟩ <;> omega)) ?_)
    have hw : 1 ≤ w ∧ w ≤ 8 := by simpa using g1
    have hp := pow_le62 (show w.toNat ≤ 62 by omega)
    refine ⟨rfl, CallK.val [] LendOk.nil (l01Pow2_c _ (by omega) (by omega)) rfl ?_⟩
    refine evc ?_
    rw [wr (by omega) (by omega)]
    refine ⟨rfl, CallK.val [] LendOk.nil (l01In_c _ _ _) rfl ?_⟩
    refine evc ?_
    repeat (refine And.intro (by first | omega | (refine ⟨?_, ?_⟩ <;> omega)) ?_)
    refine hK2 _ ?_
    clear hK2 K2
    refine Wp.ret ?_
    simp only [thn, inB, retQ]
    refine ⟨_, [], rfl, Nat.zero_le _, by decide, by simp, ?_⟩
    simp only [go_sem, nl, Nat.mul_one, Nat.one_mul, Nat.reducePow, Nat.reduceAdd, Nat.reduceMul, Nat.reduceSub, Nat.reduceLeDiff, Nat.reduceEqDiff, Nat.reduceLT, reduceIte, Int.reduceToNat, Int.reduceLE, Int.reduceLT, reduceCtorEq, List.contains_cons, List.contains_nil, Nat.reduceBEq, Bool.or_false, Bool.false_or, Bool.or_true, Bool.true_or, forall_eq, forall_eq_or_imp, List.mem_cons, List.not_mem_nil, or_false, false_or]
    all_goals
      rw [wordOk_eq w a g1]
  · simp only [go_sem, nl, Nat.mul_one, Nat.one_mul, Nat.reducePow, Nat.reduceAdd, Nat.reduceMul, Nat.reduceSub, Nat.reduceLeDiff, Nat.reduceEqDiff, Nat.reduceLT, reduceIte, Int.reduceToNat, Int.reduceLE, Int.reduceLT, reduceCtorEq, List.contains_cons, List.contains_nil, Nat.reduceBEq, Bool.or_false, Bool.false_or, Bool.or_true, Bool.true_or, forall_eq, forall_eq_or_imp, List.mem_cons, List.not_mem_nil, or_false, false_or]
    repeat (refine And.intro (by first | omega | (refine ⟨?_, ?_⟩ <;> omega)) ?_)
    refine hK2 _ ?_
    clear hK2 K2
    refine Wp.ret ?_
    simp only [thn, inB, retQ]
    refine ⟨_, [], rfl, Nat.zero_le _, by decide, by simp, ?_⟩
    simp only [go_sem, nl, Nat.mul_one, Nat.one_mul, Nat.reducePow, Nat.reduceAdd, Nat.reduceMul, Nat.reduceSub, Nat.reduceLeDiff, Nat.reduceEqDiff, Nat.reduceLT, reduceIte, Int.reduceToNat, Int.reduceLE, Int.reduceLT, reduceCtorEq, List.contains_cons, List.contains_nil, Nat.reduceBEq, Bool.or_false, Bool.false_or, Bool.or_true, Bool.true_or, forall_eq, forall_eq_or_imp, List.mem_cons, List.not_mem_nil, or_false, false_or]
    all_goals
      rw [← wordOk_no w a g1]
end Go.Proofs.YtkdkbnacelnljaaGreat.RE
