/- What the small functions answer. Conditions: those that a theorem names. -/
import Derived.Test.YtkdkbnacelnljaaGreatNRU
set_option linter.unusedVariables false
set_option linter.unusedSimpArgs false
namespace Go.Proofs.YtkdkbnacelnljaaGreat.RE
open Go Go.RowKit
set_option maxRecDepth 100000
set_option maxHeartbeats 8000000
theorem within_c (a b c : Int) : Val E.P 62 [I a, I b, I c] (T (decide (b ≤ a) && decide (a ≤ c))) := by
  refine CallsA.body (E := E) (fn := Tryz.f62) Tryz.func62 rfl fun B hB => ?_
  simp only [Tryz.ntmps62, go_sem, nl, Nat.mul_one, Nat.one_mul, Nat.reducePow, Nat.reduceAdd, Nat.reduceMul, Nat.reduceSub, Nat.reduceLeDiff, Nat.reduceEqDiff, Nat.reduceLT, reduceIte, Int.reduceToNat, Int.reduceLE, Int.reduceLT, reduceCtorEq, List.contains_cons, List.contains_nil, Nat.reduceBEq, Bool.or_false, Bool.false_or, Bool.or_true, Bool.true_or, forall_eq, forall_eq_or_imp, List.mem_cons, List.not_mem_nil, or_false, false_or, List.reduceReplicate]
  refine Wp.seqK fun K1 hK1 => ?_
  refine Wp.regionS ?_
  refine evc ?_
  repeat (refine And.intro (by first | omega | (refine ⟨?_, ?_⟩ <;> omega)) ?_)
  refine hK1 _ ?_
  clear hK1 K1
  refine Wp.seqM (fun s => ∃ f : Nat → AV, s = ⟨[f 0, f 1, f 2, f 3, f 4, f 5, T (decide (b ≤ a) && decide (a ≤ c)), f 7, f 8, f 9, f 10, f 11, f 12, f 13, f 14], []⟩) ?_ ?_
  · refine Wp.regionS ?_
    refine evc ?_
    repeat (refine And.intro (by first | omega | (refine ⟨?_, ?_⟩ <;> omega)) ?_)
    refine grdA_split rfl (fun g1 => ?_) (fun g1 => ?_)
    · simp only [go_sem, nl, Nat.mul_one, Nat.one_mul, Nat.reducePow, Nat.reduceAdd, Nat.reduceMul, Nat.reduceSub, Nat.reduceLeDiff, Nat.reduceEqDiff, Nat.reduceLT, reduceIte, Int.reduceToNat, Int.reduceLE, Int.reduceLT, reduceCtorEq, List.contains_cons, List.contains_nil, Nat.reduceBEq, Bool.or_false, Bool.false_or, Bool.or_true, Bool.true_or, forall_eq, forall_eq_or_imp, List.mem_cons, List.not_mem_nil, or_false, false_or]
      repeat (refine And.intro (by first | omega | (refine ⟨?_, ?_⟩ <;> omega)) ?_)
      simp only [g1, Bool.true_or, Bool.or_true, Bool.false_or, Bool.or_false, Bool.true_and, Bool.and_true, Bool.false_and, Bool.and_false, Bool.not_true, Bool.not_false]
      exact anyT rfl rfl
    · simp only [go_sem, nl, Nat.mul_one, Nat.one_mul, Nat.reducePow, Nat.reduceAdd, Nat.reduceMul, Nat.reduceSub, Nat.reduceLeDiff, Nat.reduceEqDiff, Nat.reduceLT, reduceIte, Int.reduceToNat, Int.reduceLE, Int.reduceLT, reduceCtorEq, List.contains_cons, List.contains_nil, Nat.reduceBEq, Bool.or_false, Bool.false_or, Bool.or_true, Bool.true_or, forall_eq, forall_eq_or_imp, List.mem_cons, List.not_mem_nil, or_false, false_or]
      repeat (refine And.intro (by first | omega | (refine ⟨?_, ?_⟩ <;> omega)) ?_)
      simp only [g1, Bool.true_or, Bool.or_true, Bool.false_or, Bool.or_false, Bool.true_and, Bool.and_true, Bool.false_and, Bool.and_false, Bool.not_true, Bool.not_false]
      exact anyT rfl rfl
  rintro _ ⟨f, rfl⟩
  refine Wp.ret ?_
  simp only [thn, inB, retQ]
  refine ⟨_, [], rfl, Nat.zero_le _, by decide, by simp, ?_⟩
  simp only [go_sem, nl, Nat.mul_one, Nat.one_mul, Nat.reducePow, Nat.reduceAdd, Nat.reduceMul, Nat.reduceSub, Nat.reduceLeDiff, Nat.reduceEqDiff, Nat.reduceLT, reduceIte, Int.reduceToNat, Int.reduceLE, Int.reduceLT, reduceCtorEq, List.contains_cons, List.contains_nil, Nat.reduceBEq, Bool.or_false, Bool.false_or, Bool.or_true, Bool.true_or, forall_eq, forall_eq_or_imp, List.mem_cons, List.not_mem_nil, or_false, false_or]
  all_goals
    first | exact ⟨rfl, rfl⟩ | rfl
theorem l01In_c (a b c : Int) : Val E.P 35 [I a, I b, I c] (T (decide (b ≤ a) && decide (a ≤ c))) := by
  refine CallsA.body (E := E) (fn := Tryz.f35) Tryz.func35 rfl fun B hB => ?_
  simp only [Tryz.ntmps35, go_sem, nl, Nat.mul_one, Nat.one_mul, Nat.reducePow, Nat.reduceAdd, Nat.reduceMul, Nat.reduceSub, Nat.reduceLeDiff, Nat.reduceEqDiff, Nat.reduceLT, reduceIte, Int.reduceToNat, Int.reduceLE, Int.reduceLT, reduceCtorEq, List.contains_cons, List.contains_nil, Nat.reduceBEq, Bool.or_false, Bool.false_or, Bool.or_true, Bool.true_or, forall_eq, forall_eq_or_imp, List.mem_cons, List.not_mem_nil, or_false, false_or, List.reduceReplicate]
  refine Wp.seqK fun K1 hK1 => ?_
  refine Wp.regionS ?_
  refine evc ?_
  repeat (refine And.intro (by first | omega | (refine ⟨?_, ?_⟩ <;> omega)) ?_)
  refine hK1 _ ?_
  clear hK1 K1
  refine Wp.seqM (fun s => ∃ f : Nat → AV, s = ⟨[f 0, f 1, f 2, f 3, f 4, f 5, T (decide (b ≤ a) && decide (a ≤ c)), f 7, f 8, f 9, f 10, f 11, f 12, f 13, f 14], []⟩) ?_ ?_
  · refine Wp.regionS ?_
    refine evc ?_
    repeat (refine And.intro (by first | omega | (refine ⟨?_, ?_⟩ <;> omega)) ?_)
    refine grdA_split rfl (fun g1 => ?_) (fun g1 => ?_)
    · simp only [go_sem, nl, Nat.mul_one, Nat.one_mul, Nat.reducePow, Nat.reduceAdd, Nat.reduceMul, Nat.reduceSub, Nat.reduceLeDiff, Nat.reduceEqDiff, Nat.reduceLT, reduceIte, Int.reduceToNat, Int.reduceLE, Int.reduceLT, reduceCtorEq, List.contains_cons, List.contains_nil, Nat.reduceBEq, Bool.or_false, Bool.false_or, Bool.or_true, Bool.true_or, forall_eq, forall_eq_or_imp, List.mem_cons, List.not_mem_nil, or_false, false_or]
      repeat (refine And.intro (by first | omega | (refine ⟨?_, ?_⟩ <;> omega)) ?_)
      simp only [g1, Bool.true_or, Bool.or_true, Bool.false_or, Bool.or_false, Bool.true_and, Bool.and_true, Bool.false_and, Bool.and_false, Bool.not_true, Bool.not_false]
      exact anyT rfl rfl
    · simp only [go_sem, nl, Nat.mul_one, Nat.one_mul, Nat.reducePow, Nat.reduceAdd, Nat.reduceMul, Nat.reduceSub, Nat.reduceLeDiff, Nat.reduceEqDiff, Nat.reduceLT, reduceIte, Int.reduceToNat, Int.reduceLE, Int.reduceLT, reduceCtorEq, List.contains_cons, List.contains_nil, Nat.reduceBEq, Bool.or_false, Bool.false_or, Bool.or_true, Bool.true_or, forall_eq, forall_eq_or_imp, List.mem_cons, List.not_mem_nil, or_false, false_or]
      repeat (refine And.intro (by first | omega | (refine ⟨?_, ?_⟩ <;> omega)) ?_)
      simp only [g1, Bool.true_or, Bool.or_true, Bool.false_or, Bool.or_false, Bool.true_and, Bool.and_true, Bool.false_and, Bool.and_false, Bool.not_true, Bool.not_false]
      exact anyT rfl rfl
  rintro _ ⟨f, rfl⟩
  refine Wp.ret ?_
  simp only [thn, inB, retQ]
  refine ⟨_, [], rfl, Nat.zero_le _, by decide, by simp, ?_⟩
  simp only [go_sem, nl, Nat.mul_one, Nat.one_mul, Nat.reducePow, Nat.reduceAdd, Nat.reduceMul, Nat.reduceSub, Nat.reduceLeDiff, Nat.reduceEqDiff, Nat.reduceLT, reduceIte, Int.reduceToNat, Int.reduceLE, Int.reduceLT, reduceCtorEq, List.contains_cons, List.contains_nil, Nat.reduceBEq, Bool.or_false, Bool.false_or, Bool.or_true, Bool.true_or, forall_eq, forall_eq_or_imp, List.mem_cons, List.not_mem_nil, or_false, false_or]
  all_goals
    first | exact ⟨rfl, rfl⟩ | rfl
theorem isWidth_c (a : Int) : Val E.P 98 [I a] (T (decide (1 ≤ a) && decide (a ≤ 8))) := by
  refine CallsA.body (E := E) (fn := Tryz.f98) Tryz.func98 rfl fun B hB => ?_
  simp only [Tryz.ntmps98, go_sem, nl, Nat.mul_one, Nat.one_mul, Nat.reducePow, Nat.reduceAdd, Nat.reduceMul, Nat.reduceSub, Nat.reduceLeDiff, Nat.reduceEqDiff, Nat.reduceLT, reduceIte, Int.reduceToNat, Int.reduceLE, Int.reduceLT, reduceCtorEq, List.contains_cons, List.contains_nil, Nat.reduceBEq, Bool.or_false, Bool.false_or, Bool.or_true, Bool.true_or, forall_eq, forall_eq_or_imp, List.mem_cons, List.not_mem_nil, or_false, false_or, List.reduceReplicate]
  refine Wp.seqK fun K1 hK1 => ?_
  refine Wp.regionS ?_
  refine evc ?_
  repeat (refine And.intro (by first | omega | (refine ⟨?_, ?_⟩ <;> omega)) ?_)
  refine hK1 _ ?_
  clear hK1 K1
  refine Wp.seqK fun K2 hK2 => ?_
  refine Wp.regionS ?_
  refine evc ?_
  repeat (refine And.intro (by first | omega | (refine ⟨?_, ?_⟩ <;> omega)) ?_)
  refine ⟨rfl, CallK.val [] LendOk.nil (within_c _ _ _) rfl ?_⟩
  refine evc ?_
  repeat (refine And.intro (by first | omega | (refine ⟨?_, ?_⟩ <;> omega)) ?_)
  refine hK2 _ ?_
  clear hK2 K2
  refine Wp.ret ?_
  simp only [thn, inB, retQ]
  refine ⟨_, [], rfl, Nat.zero_le _, by decide, by simp, ?_⟩
  simp only [go_sem, nl, Nat.mul_one, Nat.one_mul, Nat.reducePow, Nat.reduceAdd, Nat.reduceMul, Nat.reduceSub, Nat.reduceLeDiff, Nat.reduceEqDiff, Nat.reduceLT, reduceIte, Int.reduceToNat, Int.reduceLE, Int.reduceLT, reduceCtorEq, List.contains_cons, List.contains_nil, Nat.reduceBEq, Bool.or_false, Bool.false_or, Bool.or_true, Bool.true_or, forall_eq, forall_eq_or_imp, List.mem_cons, List.not_mem_nil, or_false, false_or]
  all_goals
    first | exact ⟨rfl, rfl⟩ | rfl
theorem isVar_c (a : Int) : Val E.P 33 [I a] (T (decide (0 ≤ a) && decide (a ≤ 7))) := by
  refine CallsA.body (E := E) (fn := Tryz.f33) Tryz.func33 rfl fun B hB => ?_
  simp only [Tryz.ntmps33, go_sem, nl, Nat.mul_one, Nat.one_mul, Nat.reducePow, Nat.reduceAdd, Nat.reduceMul, Nat.reduceSub, Nat.reduceLeDiff, Nat.reduceEqDiff, Nat.reduceLT, reduceIte, Int.reduceToNat, Int.reduceLE, Int.reduceLT, reduceCtorEq, List.contains_cons, List.contains_nil, Nat.reduceBEq, Bool.or_false, Bool.false_or, Bool.or_true, Bool.true_or, forall_eq, forall_eq_or_imp, List.mem_cons, List.not_mem_nil, or_false, false_or, List.reduceReplicate]
  refine Wp.seqK fun K1 hK1 => ?_
  refine Wp.regionS ?_
  refine evc ?_
  repeat (refine And.intro (by first | omega | (refine ⟨?_, ?_⟩ <;> omega)) ?_)
  refine hK1 _ ?_
  clear hK1 K1
  refine Wp.seqK fun K2 hK2 => ?_
  refine Wp.regionS ?_
  refine evc ?_
  repeat (refine And.intro (by first | omega | (refine ⟨?_, ?_⟩ <;> omega)) ?_)
  refine ⟨rfl, CallK.val [] LendOk.nil (within_c _ _ _) rfl ?_⟩
  refine evc ?_
  repeat (refine And.intro (by first | omega | (refine ⟨?_, ?_⟩ <;> omega)) ?_)
  refine hK2 _ ?_
  clear hK2 K2
  refine Wp.ret ?_
  simp only [thn, inB, retQ]
  refine ⟨_, [], rfl, Nat.zero_le _, by decide, by simp, ?_⟩
  simp only [go_sem, nl, Nat.mul_one, Nat.one_mul, Nat.reducePow, Nat.reduceAdd, Nat.reduceMul, Nat.reduceSub, Nat.reduceLeDiff, Nat.reduceEqDiff, Nat.reduceLT, reduceIte, Int.reduceToNat, Int.reduceLE, Int.reduceLT, reduceCtorEq, List.contains_cons, List.contains_nil, Nat.reduceBEq, Bool.or_false, Bool.false_or, Bool.or_true, Bool.true_or, forall_eq, forall_eq_or_imp, List.mem_cons, List.not_mem_nil, or_false, false_or]
  all_goals
    first | exact ⟨rfl, rfl⟩ | rfl
def isQ (op : Int) : Bool := decide (op = 19) || decide (op = 20)
theorem isQuant_c (n : Nd) : Val E.P 64 [.agg (nl n)] (T (isQ n.op)) := by
  refine CallsA.body (E := E) (fn := Tryz.f64) Tryz.func64 rfl fun B hB => ?_
  simp only [Tryz.ntmps64, go_sem, nl, Nat.mul_one, Nat.one_mul, Nat.reducePow, Nat.reduceAdd, Nat.reduceMul, Nat.reduceSub, Nat.reduceLeDiff, Nat.reduceEqDiff, Nat.reduceLT, reduceIte, Int.reduceToNat, Int.reduceLE, Int.reduceLT, reduceCtorEq, List.contains_cons, List.contains_nil, Nat.reduceBEq, Bool.or_false, Bool.false_or, Bool.or_true, Bool.true_or, forall_eq, forall_eq_or_imp, List.mem_cons, List.not_mem_nil, or_false, false_or, List.reduceReplicate]
  refine Wp.seqK fun K1 hK1 => ?_
  refine Wp.regionS ?_
  refine evc ?_
  repeat (refine And.intro (by first | omega | (refine ⟨?_, ?_⟩ <;> omega)) ?_)
  refine hK1 _ ?_
  clear hK1 K1
  refine Wp.seqM (fun s => ∃ f : Nat → AV, s = ⟨[f 0, f 1, T (decide (n.op = 19) || decide (n.op = 20)), f 3, f 4, f 5, f 6, f 7, f 8, f 9, f 10], [some ⟨0, nl n⟩]⟩) ?_ ?_
  · refine Wp.regionS ?_
    refine evc ?_
    repeat (refine And.intro (by first | omega | (refine ⟨?_, ?_⟩ <;> omega)) ?_)
    refine grdA_split rfl (fun g1 => ?_) (fun g1 => ?_)
    · simp only [go_sem, nl, Nat.mul_one, Nat.one_mul, Nat.reducePow, Nat.reduceAdd, Nat.reduceMul, Nat.reduceSub, Nat.reduceLeDiff, Nat.reduceEqDiff, Nat.reduceLT, reduceIte, Int.reduceToNat, Int.reduceLE, Int.reduceLT, reduceCtorEq, List.contains_cons, List.contains_nil, Nat.reduceBEq, Bool.or_false, Bool.false_or, Bool.or_true, Bool.true_or, forall_eq, forall_eq_or_imp, List.mem_cons, List.not_mem_nil, or_false, false_or]
      repeat (refine And.intro (by first | omega | (refine ⟨?_, ?_⟩ <;> omega)) ?_)
      simp only [g1, Bool.true_or, Bool.or_true, Bool.false_or, Bool.or_false, Bool.true_and, Bool.and_true, Bool.false_and, Bool.and_false, Bool.not_true, Bool.not_false]
      exact anyT rfl rfl
    · simp only [go_sem, nl, Nat.mul_one, Nat.one_mul, Nat.reducePow, Nat.reduceAdd, Nat.reduceMul, Nat.reduceSub, Nat.reduceLeDiff, Nat.reduceEqDiff, Nat.reduceLT, reduceIte, Int.reduceToNat, Int.reduceLE, Int.reduceLT, reduceCtorEq, List.contains_cons, List.contains_nil, Nat.reduceBEq, Bool.or_false, Bool.false_or, Bool.or_true, Bool.true_or, forall_eq, forall_eq_or_imp, List.mem_cons, List.not_mem_nil, or_false, false_or]
      repeat (refine And.intro (by first | omega | (refine ⟨?_, ?_⟩ <;> omega)) ?_)
      simp only [g1, Bool.true_or, Bool.or_true, Bool.false_or, Bool.or_false, Bool.true_and, Bool.and_true, Bool.false_and, Bool.and_false, Bool.not_true, Bool.not_false]
      exact anyT rfl rfl
  rintro _ ⟨f, rfl⟩
  refine Wp.ret ?_
  simp only [thn, inB, retQ]
  refine ⟨_, [], rfl, Nat.zero_le _, by decide, by simp, ?_⟩
  simp only [go_sem, nl, Nat.mul_one, Nat.one_mul, Nat.reducePow, Nat.reduceAdd, Nat.reduceMul, Nat.reduceSub, Nat.reduceLeDiff, Nat.reduceEqDiff, Nat.reduceLT, reduceIte, Int.reduceToNat, Int.reduceLE, Int.reduceLT, reduceCtorEq, List.contains_cons, List.contains_nil, Nat.reduceBEq, Bool.or_false, Bool.false_or, Bool.or_true, Bool.true_or, forall_eq, forall_eq_or_imp, List.mem_cons, List.not_mem_nil, or_false, false_or]
  all_goals
    first | exact ⟨rfl, rfl⟩ | rfl
theorem l02Quant_c (op : Int) : Val E.P 72 [I op] (T (isQ op)) := by
  refine CallsA.body (E := E) (fn := Tryz.f72) Tryz.func72 rfl fun B hB => ?_
  simp only [Tryz.ntmps72, go_sem, nl, Nat.mul_one, Nat.one_mul, Nat.reducePow, Nat.reduceAdd, Nat.reduceMul, Nat.reduceSub, Nat.reduceLeDiff, Nat.reduceEqDiff, Nat.reduceLT, reduceIte, Int.reduceToNat, Int.reduceLE, Int.reduceLT, reduceCtorEq, List.contains_cons, List.contains_nil, Nat.reduceBEq, Bool.or_false, Bool.false_or, Bool.or_true, Bool.true_or, forall_eq, forall_eq_or_imp, List.mem_cons, List.not_mem_nil, or_false, false_or, List.reduceReplicate]
  refine Wp.seqK fun K1 hK1 => ?_
  refine Wp.regionS ?_
  refine evc ?_
  repeat (refine And.intro (by first | omega | (refine ⟨?_, ?_⟩ <;> omega)) ?_)
  refine hK1 _ ?_
  clear hK1 K1
  refine Wp.seqM (fun s => ∃ f : Nat → AV, s = ⟨[f 0, f 1, T (decide (op = 19) || decide (op = 20)), f 3, f 4, f 5, f 6, f 7, f 8], []⟩) ?_ ?_
  · refine Wp.regionS ?_
    refine evc ?_
    repeat (refine And.intro (by first | omega | (refine ⟨?_, ?_⟩ <;> omega)) ?_)
    refine grdA_split rfl (fun g1 => ?_) (fun g1 => ?_)
    · simp only [go_sem, nl, Nat.mul_one, Nat.one_mul, Nat.reducePow, Nat.reduceAdd, Nat.reduceMul, Nat.reduceSub, Nat.reduceLeDiff, Nat.reduceEqDiff, Nat.reduceLT, reduceIte, Int.reduceToNat, Int.reduceLE, Int.reduceLT, reduceCtorEq, List.contains_cons, List.contains_nil, Nat.reduceBEq, Bool.or_false, Bool.false_or, Bool.or_true, Bool.true_or, forall_eq, forall_eq_or_imp, List.mem_cons, List.not_mem_nil, or_false, false_or]
      repeat (refine And.intro (by first | omega | (refine ⟨?_, ?_⟩ <;> omega)) ?_)
      simp only [g1, Bool.true_or, Bool.or_true, Bool.false_or, Bool.or_false, Bool.true_and, Bool.and_true, Bool.false_and, Bool.and_false, Bool.not_true, Bool.not_false]
      exact anyT rfl rfl
    · simp only [go_sem, nl, Nat.mul_one, Nat.one_mul, Nat.reducePow, Nat.reduceAdd, Nat.reduceMul, Nat.reduceSub, Nat.reduceLeDiff, Nat.reduceEqDiff, Nat.reduceLT, reduceIte, Int.reduceToNat, Int.reduceLE, Int.reduceLT, reduceCtorEq, List.contains_cons, List.contains_nil, Nat.reduceBEq, Bool.or_false, Bool.false_or, Bool.or_true, Bool.true_or, forall_eq, forall_eq_or_imp, List.mem_cons, List.not_mem_nil, or_false, false_or]
      repeat (refine And.intro (by first | omega | (refine ⟨?_, ?_⟩ <;> omega)) ?_)
      simp only [g1, Bool.true_or, Bool.or_true, Bool.false_or, Bool.or_false, Bool.true_and, Bool.and_true, Bool.false_and, Bool.and_false, Bool.not_true, Bool.not_false]
      exact anyT rfl rfl
  rintro _ ⟨f, rfl⟩
  refine Wp.ret ?_
  simp only [thn, inB, retQ]
  refine ⟨_, [], rfl, Nat.zero_le _, by decide, by simp, ?_⟩
  simp only [go_sem, nl, Nat.mul_one, Nat.one_mul, Nat.reducePow, Nat.reduceAdd, Nat.reduceMul, Nat.reduceSub, Nat.reduceLeDiff, Nat.reduceEqDiff, Nat.reduceLT, reduceIte, Int.reduceToNat, Int.reduceLE, Int.reduceLT, reduceCtorEq, List.contains_cons, List.contains_nil, Nat.reduceBEq, Bool.or_false, Bool.false_or, Bool.or_true, Bool.true_or, forall_eq, forall_eq_or_imp, List.mem_cons, List.not_mem_nil, or_false, false_or]
  all_goals
    first | exact ⟨rfl, rfl⟩ | rfl
def parts (n : Nd) : List Int := if ((decide (n.op = 2) || decide (n.op = 17)) || isQ n.op) = true then [n.a] else if (decide (3 ≤ n.op) && decide (n.op ≤ 16)) = true then [n.a, n.b] else if n.op = 18 then [n.a, n.b, n.c] else []
theorem iParts_c (n : Nd) : Row E.P 46 [.agg (nl n)] 1 (parts n).length ((parts n).map ci) := by
  refine CallsA.body (E := E) (fn := Tryz.f46) Tryz.func46 rfl fun B hB => ?_
  simp only [Tryz.ntmps46, go_sem, nl, Nat.mul_one, Nat.one_mul, Nat.reducePow, Nat.reduceAdd, Nat.reduceMul, Nat.reduceSub, Nat.reduceLeDiff, Nat.reduceEqDiff, Nat.reduceLT, reduceIte, Int.reduceToNat, Int.reduceLE, Int.reduceLT, reduceCtorEq, List.contains_cons, List.contains_nil, Nat.reduceBEq, Bool.or_false, Bool.false_or, Bool.or_true, Bool.true_or, forall_eq, forall_eq_or_imp, List.mem_cons, List.not_mem_nil, or_false, false_or, List.reduceReplicate]
  refine Wp.seqK fun K1 hK1 => ?_
  refine Wp.regionS ?_
  refine evc ?_
  repeat (refine And.intro (by first | omega | (refine ⟨?_, ?_⟩ <;> omega)) ?_)
  refine hK1 _ ?_
  clear hK1 K1
  refine Wp.seqK fun K2 hK2 => ?_
  refine Wp.block ?_
  refine Wp.seqM (fun s => ∃ f : Nat → AV, s = ⟨[f 0, .l (.ptr 0 0 0), .l .nils, T (((decide (n.op = 2) || decide (n.op = 17)) || isQ n.op)), f 4, f 5, f 6, f 7, f 8, f 9, f 10, f 11, f 12, f 13, f 14, f 15, f 16, f 17, f 18, f 19, f 20, f 21, f 22, f 23, f 24, f 25, f 26, f 27, f 28, f 29, f 30, f 31, f 32, f 33, f 34, f 35, f 36, f 37, f 38, f 39], [some ⟨0, nl n⟩]⟩) ?_ ?_
  · refine Wp.regionS ?_
    refine evc ?_
    repeat (refine And.intro (by first | omega | (refine ⟨?_, ?_⟩ <;> omega)) ?_)
    refine grdA_split rfl (fun g1 => ?_) (fun g1 => ?_)
    · simp only [go_sem, nl, Nat.mul_one, Nat.one_mul, Nat.reducePow, Nat.reduceAdd, Nat.reduceMul, Nat.reduceSub, Nat.reduceLeDiff, Nat.reduceEqDiff, Nat.reduceLT, reduceIte, Int.reduceToNat, Int.reduceLE, Int.reduceLT, reduceCtorEq, List.contains_cons, List.contains_nil, Nat.reduceBEq, Bool.or_false, Bool.false_or, Bool.or_true, Bool.true_or, forall_eq, forall_eq_or_imp, List.mem_cons, List.not_mem_nil, or_false, false_or]
      repeat (refine And.intro (by first | omega | (refine ⟨?_, ?_⟩ <;> omega)) ?_)
      simp only [g1, Bool.true_or, Bool.or_true, Bool.false_or, Bool.or_false, Bool.true_and, Bool.and_true, Bool.false_and, Bool.and_false, Bool.not_true, Bool.not_false]
      exact anyT rfl rfl
    · simp only [go_sem, nl, Nat.mul_one, Nat.one_mul, Nat.reducePow, Nat.reduceAdd, Nat.reduceMul, Nat.reduceSub, Nat.reduceLeDiff, Nat.reduceEqDiff, Nat.reduceLT, reduceIte, Int.reduceToNat, Int.reduceLE, Int.reduceLT, reduceCtorEq, List.contains_cons, List.contains_nil, Nat.reduceBEq, Bool.or_false, Bool.false_or, Bool.or_true, Bool.true_or, forall_eq, forall_eq_or_imp, List.mem_cons, List.not_mem_nil, or_false, false_or]
      repeat (refine And.intro (by first | omega | (refine ⟨?_, ?_⟩ <;> omega)) ?_)
      refine grdA_split rfl (fun g2 => ?_) (fun g2 => ?_)
      · simp only [go_sem, nl, Nat.mul_one, Nat.one_mul, Nat.reducePow, Nat.reduceAdd, Nat.reduceMul, Nat.reduceSub, Nat.reduceLeDiff, Nat.reduceEqDiff, Nat.reduceLT, reduceIte, Int.reduceToNat, Int.reduceLE, Int.reduceLT, reduceCtorEq, List.contains_cons, List.contains_nil, Nat.reduceBEq, Bool.or_false, Bool.false_or, Bool.or_true, Bool.true_or, forall_eq, forall_eq_or_imp, List.mem_cons, List.not_mem_nil, or_false, false_or]
        repeat (refine And.intro (by first | omega | (refine ⟨?_, ?_⟩ <;> omega)) ?_)
        simp only [g1, g2, Bool.true_or, Bool.or_true, Bool.false_or, Bool.or_false, Bool.true_and, Bool.and_true, Bool.false_and, Bool.and_false, Bool.not_true, Bool.not_false]
        exact anyT rfl rfl
      · simp only [go_sem, nl, Nat.mul_one, Nat.one_mul, Nat.reducePow, Nat.reduceAdd, Nat.reduceMul, Nat.reduceSub, Nat.reduceLeDiff, Nat.reduceEqDiff, Nat.reduceLT, reduceIte, Int.reduceToNat, Int.reduceLE, Int.reduceLT, reduceCtorEq, List.contains_cons, List.contains_nil, Nat.reduceBEq, Bool.or_false, Bool.false_or, Bool.or_true, Bool.true_or, forall_eq, forall_eq_or_imp, List.mem_cons, List.not_mem_nil, or_false, false_or]
        repeat (refine And.intro (by first | omega | (refine ⟨?_, ?_⟩ <;> omega)) ?_)
        refine ⟨rfl, CallK.val [] LendOk.nil (isQuant_c _) rfl ?_⟩
        refine evc ?_
        repeat (refine And.intro (by first | omega | (refine ⟨?_, ?_⟩ <;> omega)) ?_)
        simp only [g1, g2, Bool.true_or, Bool.or_true, Bool.false_or, Bool.or_false, Bool.true_and, Bool.and_true, Bool.false_and, Bool.and_false, Bool.not_true, Bool.not_false]
        exact anyT rfl rfl
  rintro _ ⟨f, rfl⟩
  refine Wp.cond rfl (fun h3 => ?_) (fun h3 => ?_)
  · skip
    refine Wp.seqK fun K3 hK3 => ?_
    refine Wp.regionS ?_
    refine evc ?_
    repeat (refine And.intro (by first | omega | (refine ⟨?_, ?_⟩ <;> omega)) ?_)
    refine hK3 _ ?_
    clear hK3 K3
    refine Wp.ret ?_
    simp only [thn, inB, retQ]
    clear hK2 K2
    refine ⟨_, [1], rfl, Nat.zero_le _, by decide, by simp, ?_⟩
    rw [show parts n = [n.a] from by  simp_all [parts, isQ] <;> (intros; omega)]
    exact ⟨rfl, rfl⟩
  · skip
    refine Wp.seqK fun K4 hK4 => ?_
    refine Wp.regionS ?_
    refine evc ?_
    repeat (refine And.intro (by first | omega | (refine ⟨?_, ?_⟩ <;> omega)) ?_)
    refine ⟨rfl, CallK.val [] LendOk.nil (within_c _ _ _) rfl ?_⟩
    refine evc ?_
    repeat (refine And.intro (by first | omega | (refine ⟨?_, ?_⟩ <;> omega)) ?_)
    refine hK4 _ ?_
    clear hK4 K4
    refine Wp.cond rfl (fun h19 => ?_) (fun h19 => ?_)
    · skip
      refine Wp.seqK fun K5 hK5 => ?_
      refine Wp.regionS ?_
      refine evc ?_
      repeat (refine And.intro (by first | omega | (refine ⟨?_, ?_⟩ <;> omega)) ?_)
      refine hK5 _ ?_
      clear hK5 K5
      refine Wp.ret ?_
      simp only [thn, inB, retQ]
      clear hK2 K2
      refine ⟨_, [1], rfl, Nat.zero_le _, by decide, by simp, ?_⟩
      rw [show parts n = [n.a, n.b] from by  simp_all [parts, isQ] <;> (intros; omega)]
      exact ⟨rfl, rfl⟩
    · skip
      refine Wp.seqK fun K6 hK6 => ?_
      refine Wp.regionS ?_
      refine evc ?_
      repeat (refine And.intro (by first | omega | (refine ⟨?_, ?_⟩ <;> omega)) ?_)
      refine hK6 _ ?_
      clear hK6 K6
      refine Wp.cond rfl (fun h28 => ?_) (fun h28 => ?_)
      · skip
        refine Wp.seqK fun K7 hK7 => ?_
        refine Wp.regionS ?_
        refine evc ?_
        repeat (refine And.intro (by first | omega | (refine ⟨?_, ?_⟩ <;> omega)) ?_)
        refine hK7 _ ?_
        clear hK7 K7
        refine Wp.ret ?_
        simp only [thn, inB, retQ]
        clear hK2 K2
        refine ⟨_, [1], rfl, Nat.zero_le _, by decide, by simp, ?_⟩
        rw [show parts n = [n.a, n.b, n.c] from by  simp_all [parts, isQ] <;> (intros; omega)]
        exact ⟨rfl, rfl⟩
      · skip
        refine Wp.skip ?_
        try simp only [thn, inB, if_true, reduceIte]
        refine hK2 _ ?_
        clear hK2 K2
        refine Wp.seqK fun K8 hK8 => ?_
        refine Wp.regionS ?_
        refine evc ?_
        repeat (refine And.intro (by first | omega | (refine ⟨?_, ?_⟩ <;> omega)) ?_)
        refine hK8 _ ?_
        clear hK8 K8
        refine Wp.ret ?_
        simp only [thn, inB, retQ]
        refine ⟨_, [1], rfl, Nat.zero_le _, by decide, by simp, ?_⟩
        rw [show parts n = [] from by  simp_all [parts, isQ] <;> (intros; omega)]
        exact ⟨rfl, rfl⟩
theorem sParts_c (n : Nd) : Row E.P 55 [.agg (nl n)] 1 (parts n).length ((parts n).map ci) := by
  refine CallsA.body (E := E) (fn := Tryz.f55) Tryz.func55 rfl fun B hB => ?_
  simp only [Tryz.ntmps55, go_sem, nl, Nat.mul_one, Nat.one_mul, Nat.reducePow, Nat.reduceAdd, Nat.reduceMul, Nat.reduceSub, Nat.reduceLeDiff, Nat.reduceEqDiff, Nat.reduceLT, reduceIte, Int.reduceToNat, Int.reduceLE, Int.reduceLT, reduceCtorEq, List.contains_cons, List.contains_nil, Nat.reduceBEq, Bool.or_false, Bool.false_or, Bool.or_true, Bool.true_or, forall_eq, forall_eq_or_imp, List.mem_cons, List.not_mem_nil, or_false, false_or, List.reduceReplicate]
  refine Wp.seqK fun K1 hK1 => ?_
  refine Wp.regionS ?_
  refine evc ?_
  repeat (refine And.intro (by first | omega | (refine ⟨?_, ?_⟩ <;> omega)) ?_)
  refine hK1 _ ?_
  clear hK1 K1
  refine Wp.seqK fun K2 hK2 => ?_
  refine Wp.block ?_
  refine Wp.seqM (fun s => ∃ f : Nat → AV, s = ⟨[f 0, .l (.ptr 0 0 0), .l .nils, T ((((decide (n.op = 2) || decide (n.op = 17)) || decide (n.op = 19)) || decide (n.op = 20))), f 4, f 5, f 6, f 7, f 8, f 9, f 10, f 11, f 12, f 13, f 14, f 15, f 16, f 17, f 18, f 19, f 20, f 21, f 22, f 23, f 24, f 25, f 26, f 27, f 28, f 29, f 30, f 31, f 32, f 33, f 34, f 35, f 36, f 37, f 38, f 39, f 40, f 41, f 42, f 43, f 44, f 45], [some ⟨0, nl n⟩]⟩) ?_ ?_
  · refine Wp.regionS ?_
    refine evc ?_
    repeat (refine And.intro (by first | omega | (refine ⟨?_, ?_⟩ <;> omega)) ?_)
    refine grdA_split rfl (fun g1 => ?_) (fun g1 => ?_)
    · simp only [go_sem, nl, Nat.mul_one, Nat.one_mul, Nat.reducePow, Nat.reduceAdd, Nat.reduceMul, Nat.reduceSub, Nat.reduceLeDiff, Nat.reduceEqDiff, Nat.reduceLT, reduceIte, Int.reduceToNat, Int.reduceLE, Int.reduceLT, reduceCtorEq, List.contains_cons, List.contains_nil, Nat.reduceBEq, Bool.or_false, Bool.false_or, Bool.or_true, Bool.true_or, forall_eq, forall_eq_or_imp, List.mem_cons, List.not_mem_nil, or_false, false_or]
      repeat (refine And.intro (by first | omega | (refine ⟨?_, ?_⟩ <;> omega)) ?_)
      simp only [g1, Bool.true_or, Bool.or_true, Bool.false_or, Bool.or_false, Bool.true_and, Bool.and_true, Bool.false_and, Bool.and_false, Bool.not_true, Bool.not_false]
      exact anyT rfl rfl
    · simp only [go_sem, nl, Nat.mul_one, Nat.one_mul, Nat.reducePow, Nat.reduceAdd, Nat.reduceMul, Nat.reduceSub, Nat.reduceLeDiff, Nat.reduceEqDiff, Nat.reduceLT, reduceIte, Int.reduceToNat, Int.reduceLE, Int.reduceLT, reduceCtorEq, List.contains_cons, List.contains_nil, Nat.reduceBEq, Bool.or_false, Bool.false_or, Bool.or_true, Bool.true_or, forall_eq, forall_eq_or_imp, List.mem_cons, List.not_mem_nil, or_false, false_or]
      repeat (refine And.intro (by first | omega | (refine ⟨?_, ?_⟩ <;> omega)) ?_)
      refine grdA_split rfl (fun g2 => ?_) (fun g2 => ?_)
      · simp only [go_sem, nl, Nat.mul_one, Nat.one_mul, Nat.reducePow, Nat.reduceAdd, Nat.reduceMul, Nat.reduceSub, Nat.reduceLeDiff, Nat.reduceEqDiff, Nat.reduceLT, reduceIte, Int.reduceToNat, Int.reduceLE, Int.reduceLT, reduceCtorEq, List.contains_cons, List.contains_nil, Nat.reduceBEq, Bool.or_false, Bool.false_or, Bool.or_true, Bool.true_or, forall_eq, forall_eq_or_imp, List.mem_cons, List.not_mem_nil, or_false, false_or]
        repeat (refine And.intro (by first | omega | (refine ⟨?_, ?_⟩ <;> omega)) ?_)
        simp only [g1, g2, Bool.true_or, Bool.or_true, Bool.false_or, Bool.or_false, Bool.true_and, Bool.and_true, Bool.false_and, Bool.and_false, Bool.not_true, Bool.not_false]
        exact anyT rfl rfl
      · simp only [go_sem, nl, Nat.mul_one, Nat.one_mul, Nat.reducePow, Nat.reduceAdd, Nat.reduceMul, Nat.reduceSub, Nat.reduceLeDiff, Nat.reduceEqDiff, Nat.reduceLT, reduceIte, Int.reduceToNat, Int.reduceLE, Int.reduceLT, reduceCtorEq, List.contains_cons, List.contains_nil, Nat.reduceBEq, Bool.or_false, Bool.false_or, Bool.or_true, Bool.true_or, forall_eq, forall_eq_or_imp, List.mem_cons, List.not_mem_nil, or_false, false_or]
        repeat (refine And.intro (by first | omega | (refine ⟨?_, ?_⟩ <;> omega)) ?_)
        refine grdA_split rfl (fun g3 => ?_) (fun g3 => ?_)
        · simp only [go_sem, nl, Nat.mul_one, Nat.one_mul, Nat.reducePow, Nat.reduceAdd, Nat.reduceMul, Nat.reduceSub, Nat.reduceLeDiff, Nat.reduceEqDiff, Nat.reduceLT, reduceIte, Int.reduceToNat, Int.reduceLE, Int.reduceLT, reduceCtorEq, List.contains_cons, List.contains_nil, Nat.reduceBEq, Bool.or_false, Bool.false_or, Bool.or_true, Bool.true_or, forall_eq, forall_eq_or_imp, List.mem_cons, List.not_mem_nil, or_false, false_or]
          repeat (refine And.intro (by first | omega | (refine ⟨?_, ?_⟩ <;> omega)) ?_)
          simp only [g1, g2, g3, Bool.true_or, Bool.or_true, Bool.false_or, Bool.or_false, Bool.true_and, Bool.and_true, Bool.false_and, Bool.and_false, Bool.not_true, Bool.not_false]
          exact anyT rfl rfl
        · simp only [go_sem, nl, Nat.mul_one, Nat.one_mul, Nat.reducePow, Nat.reduceAdd, Nat.reduceMul, Nat.reduceSub, Nat.reduceLeDiff, Nat.reduceEqDiff, Nat.reduceLT, reduceIte, Int.reduceToNat, Int.reduceLE, Int.reduceLT, reduceCtorEq, List.contains_cons, List.contains_nil, Nat.reduceBEq, Bool.or_false, Bool.false_or, Bool.or_true, Bool.true_or, forall_eq, forall_eq_or_imp, List.mem_cons, List.not_mem_nil, or_false, false_or]
          repeat (refine And.intro (by first | omega | (refine ⟨?_, ?_⟩ <;> omega)) ?_)
          simp only [g1, g2, g3, Bool.true_or, Bool.or_true, Bool.false_or, Bool.or_false, Bool.true_and, Bool.and_true, Bool.false_and, Bool.and_false, Bool.not_true, Bool.not_false]
          exact anyT rfl rfl
  rintro _ ⟨f, rfl⟩
  refine Wp.cond rfl (fun h3 => ?_) (fun h3 => ?_)
  · skip
    refine Wp.seqK fun K3 hK3 => ?_
    refine Wp.regionS ?_
    refine evc ?_
    repeat (refine And.intro (by first | omega | (refine ⟨?_, ?_⟩ <;> omega)) ?_)
    refine hK3 _ ?_
    clear hK3 K3
    refine Wp.ret ?_
    simp only [thn, inB, retQ]
    clear hK2 K2
    refine ⟨_, [1], rfl, Nat.zero_le _, by decide, by simp, ?_⟩
    rw [show parts n = [n.a] from by  simp_all [parts, isQ] <;> (intros; omega)]
    exact ⟨rfl, rfl⟩
  · skip
    refine Wp.seqK fun K4 hK4 => ?_
    refine Wp.regionS ?_
    refine evc ?_
    repeat (refine And.intro (by first | omega | (refine ⟨?_, ?_⟩ <;> omega)) ?_)
    refine ⟨rfl, CallK.val [] LendOk.nil (l01In_c _ _ _) rfl ?_⟩
    refine evc ?_
    repeat (refine And.intro (by first | omega | (refine ⟨?_, ?_⟩ <;> omega)) ?_)
    refine hK4 _ ?_
    clear hK4 K4
    refine Wp.cond rfl (fun h25 => ?_) (fun h25 => ?_)
    · skip
      refine Wp.seqK fun K5 hK5 => ?_
      refine Wp.regionS ?_
      refine evc ?_
      repeat (refine And.intro (by first | omega | (refine ⟨?_, ?_⟩ <;> omega)) ?_)
      refine hK5 _ ?_
      clear hK5 K5
      refine Wp.ret ?_
      simp only [thn, inB, retQ]
      clear hK2 K2
      refine ⟨_, [1], rfl, Nat.zero_le _, by decide, by simp, ?_⟩
      rw [show parts n = [n.a, n.b] from by  simp_all [parts, isQ] <;> (intros; omega)]
      exact ⟨rfl, rfl⟩
    · skip
      refine Wp.seqK fun K6 hK6 => ?_
      refine Wp.regionS ?_
      refine evc ?_
      repeat (refine And.intro (by first | omega | (refine ⟨?_, ?_⟩ <;> omega)) ?_)
      refine hK6 _ ?_
      clear hK6 K6
      refine Wp.cond rfl (fun h34 => ?_) (fun h34 => ?_)
      · skip
        refine Wp.seqK fun K7 hK7 => ?_
        refine Wp.regionS ?_
        refine evc ?_
        repeat (refine And.intro (by first | omega | (refine ⟨?_, ?_⟩ <;> omega)) ?_)
        refine hK7 _ ?_
        clear hK7 K7
        refine Wp.ret ?_
        simp only [thn, inB, retQ]
        clear hK2 K2
        refine ⟨_, [1], rfl, Nat.zero_le _, by decide, by simp, ?_⟩
        rw [show parts n = [n.a, n.b, n.c] from by  simp_all [parts, isQ] <;> (intros; omega)]
        exact ⟨rfl, rfl⟩
      · skip
        refine Wp.skip ?_
        try simp only [thn, inB, if_true, reduceIte]
        refine hK2 _ ?_
        clear hK2 K2
        refine Wp.seqK fun K8 hK8 => ?_
        refine Wp.regionS ?_
        refine evc ?_
        repeat (refine And.intro (by first | omega | (refine ⟨?_, ?_⟩ <;> omega)) ?_)
        refine hK8 _ ?_
        clear hK8 K8
        refine Wp.ret ?_
        simp only [thn, inB, retQ]
        refine ⟨_, [1], rfl, Nat.zero_le _, by decide, by simp, ?_⟩
        rw [show parts n = [] from by  simp_all [parts, isQ] <;> (intros; omega)]
        exact ⟨rfl, rfl⟩
end Go.Proofs.YtkdkbnacelnljaaGreat.RE
