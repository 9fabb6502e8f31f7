/- What the small functions answer. Conditions: those that a theorem names. -/
import Derived.Test.YtbhlegobhidgkaaDoorRU
set_option linter.unusedVariables false
set_option linter.unusedSimpArgs false
namespace Go.Proofs.YtbhlegobhidgkaaDoor.RE
open Go Go.RowKit
set_option maxRecDepth 100000
set_option maxHeartbeats 8000000
theorem within_c (a b c : Int) : Val E.P 45 [I a, I b, I c] (T (decide (b ≤ a) && decide (a ≤ c))) := by
  refine CallsA.body (E := E) (fn := Tryd.f45) Tryd.func45 rfl fun B hB => ?_
  simp only [Tryd.ntmps45, go_sem, nl, Nat.mul_one, Nat.one_mul, Nat.reducePow, Nat.reduceAdd, Nat.reduceMul, Nat.reduceSub, Nat.reduceLeDiff, Nat.reduceEqDiff, Nat.reduceLT, reduceIte, Int.reduceToNat, Int.reduceLE, Int.reduceLT, reduceCtorEq, List.contains_cons, List.contains_nil, Nat.reduceBEq, Bool.or_false, Bool.false_or, Bool.or_true, Bool.true_or, forall_eq, forall_eq_or_imp, List.mem_cons, List.not_mem_nil, or_false, false_or, List.reduceReplicate]
  refine Wp.seqK fun K1 hK1 => ?_
  refine Wp.regionS ?_
  simp only [go_sem, nl, Nat.mul_one, Nat.one_mul, Nat.reducePow, Nat.reduceAdd, Nat.reduceMul, Nat.reduceSub, Nat.reduceLeDiff, Nat.reduceEqDiff, Nat.reduceLT, reduceIte, Int.reduceToNat, Int.reduceLE, Int.reduceLT, reduceCtorEq, List.contains_cons, List.contains_nil, Nat.reduceBEq, Bool.or_false, Bool.false_or, Bool.or_true, Bool.true_or, forall_eq, forall_eq_or_imp, List.mem_cons, List.not_mem_nil, or_false, false_or]
  repeat (refine And.intro (by first | omega | (refine ⟨?_, ?_⟩ <;> omega)) ?_)
  refine hK1 _ ?_
  clear hK1 K1
  refine Wp.seqM (fun s => ∃ f : Nat → AV, s = ⟨[f 0, f 1, f 2, f 3, f 4, f 5, T (decide (b ≤ a) && decide (a ≤ c)), f 7, f 8, f 9, f 10, f 11, f 12, f 13, f 14], []⟩) ?_ ?_
  · refine Wp.regionS ?_
    simp only [go_sem, nl, Nat.mul_one, Nat.one_mul, Nat.reducePow, Nat.reduceAdd, Nat.reduceMul, Nat.reduceSub, Nat.reduceLeDiff, Nat.reduceEqDiff, Nat.reduceLT, reduceIte, Int.reduceToNat, Int.reduceLE, Int.reduceLT, reduceCtorEq, List.contains_cons, List.contains_nil, Nat.reduceBEq, Bool.or_false, Bool.false_or, Bool.or_true, Bool.true_or, forall_eq, forall_eq_or_imp, List.mem_cons, List.not_mem_nil, or_false, false_or]
    repeat (refine And.intro (by first | omega | (refine ⟨?_, ?_⟩ <;> omega)) ?_)
    refine grdA_split rfl (fun g1 => ?_) (fun g1 => ?_)
    · simp only [go_sem, nl, Nat.mul_one, Nat.one_mul, Nat.reducePow, Nat.reduceAdd, Nat.reduceMul, Nat.reduceSub, Nat.reduceLeDiff, Nat.reduceEqDiff, Nat.reduceLT, reduceIte, Int.reduceToNat, Int.reduceLE, Int.reduceLT, reduceCtorEq, List.contains_cons, List.contains_nil, Nat.reduceBEq, Bool.or_false, Bool.false_or, Bool.or_true, Bool.true_or, forall_eq, forall_eq_or_imp, List.mem_cons, List.not_mem_nil, or_false, false_or]
      repeat (refine And.intro (by first | omega | (refine ⟨?_, ?_⟩ <;> omega)) ?_)
      simp only [g1, Bool.true_or, Bool.or_true, Bool.false_or, Bool.or_false, Bool.true_and, Bool.and_true, Bool.false_and, Bool.and_false, Bool.not_true, Bool.not_false]
      exact anyT rfl rfl
    · simp only [go_sem, nl, Nat.mul_one, Nat.one_mul, Nat.reducePow, Nat.reduceAdd, Nat.reduceMul, Nat.reduceSub, Nat.reduceLeDiff, Nat.reduceEqDiff, Nat.reduceLT, reduceIte, Int.reduceToNat, Int.reduceLE, Int.reduceLT, reduceCtorEq, List.contains_cons, List.contains_nil, Nat.reduceBEq, Bool.or_false, Bool.false_or, Bool.or_true, Bool.true_or, forall_eq, forall_eq_or_imp, List.mem_cons, List.not_mem_nil, or_false, false_or]
      repeat (refine And.intro (by first | omega | (refine ⟨?_, ?_⟩ <;> omega)) ?_)
      simp only [g1, Bool.true_or, Bool.or_true, Bool.false_or, Bool.or_false, Bool.true_and, Bool.and_true, Bool.false_and, Bool.and_false, Bool.not_true, Bool.not_false]
      exact anyT rfl rfl
  rintro _ ⟨f, rfl⟩
  refine Wp.ret ?_
  simp only [thn, inB, retQ]
  refine ⟨_, [], rfl, Nat.zero_le _, by decide, by simp, ?_⟩
  simp only [go_sem, nl, Nat.mul_one, Nat.one_mul, Nat.reducePow, Nat.reduceAdd, Nat.reduceMul, Nat.reduceSub, Nat.reduceLeDiff, Nat.reduceEqDiff, Nat.reduceLT, reduceIte, Int.reduceToNat, Int.reduceLE, Int.reduceLT, reduceCtorEq, List.contains_cons, List.contains_nil, Nat.reduceBEq, Bool.or_false, Bool.false_or, Bool.or_true, Bool.true_or, forall_eq, forall_eq_or_imp, List.mem_cons, List.not_mem_nil, or_false, false_or]
  all_goals
    first | exact ⟨rfl, rfl⟩ | rfl
theorem l01In_c (a b c : Int) : Val E.P 68 [I a, I b, I c] (T (decide (b ≤ a) && decide (a ≤ c))) := by
  refine CallsA.body (E := E) (fn := Tryd.f68) Tryd.func68 rfl fun B hB => ?_
  simp only [Tryd.ntmps68, go_sem, nl, Nat.mul_one, Nat.one_mul, Nat.reducePow, Nat.reduceAdd, Nat.reduceMul, Nat.reduceSub, Nat.reduceLeDiff, Nat.reduceEqDiff, Nat.reduceLT, reduceIte, Int.reduceToNat, Int.reduceLE, Int.reduceLT, reduceCtorEq, List.contains_cons, List.contains_nil, Nat.reduceBEq, Bool.or_false, Bool.false_or, Bool.or_true, Bool.true_or, forall_eq, forall_eq_or_imp, List.mem_cons, List.not_mem_nil, or_false, false_or, List.reduceReplicate]
  refine Wp.seqK fun K1 hK1 => ?_
  refine Wp.regionS ?_
  simp only [go_sem, nl, Nat.mul_one, Nat.one_mul, Nat.reducePow, Nat.reduceAdd, Nat.reduceMul, Nat.reduceSub, Nat.reduceLeDiff, Nat.reduceEqDiff, Nat.reduceLT, reduceIte, Int.reduceToNat, Int.reduceLE, Int.reduceLT, reduceCtorEq, List.contains_cons, List.contains_nil, Nat.reduceBEq, Bool.or_false, Bool.false_or, Bool.or_true, Bool.true_or, forall_eq, forall_eq_or_imp, List.mem_cons, List.not_mem_nil, or_false, false_or]
  repeat (refine And.intro (by first | omega | (refine ⟨?_, ?_⟩ <;> omega)) ?_)
  refine hK1 _ ?_
  clear hK1 K1
  refine Wp.seqM (fun s => ∃ f : Nat → AV, s = ⟨[f 0, f 1, f 2, f 3, f 4, f 5, T (decide (b ≤ a) && decide (a ≤ c)), f 7, f 8, f 9, f 10, f 11, f 12, f 13, f 14], []⟩) ?_ ?_
  · refine Wp.regionS ?_
    simp only [go_sem, nl, Nat.mul_one, Nat.one_mul, Nat.reducePow, Nat.reduceAdd, Nat.reduceMul, Nat.reduceSub, Nat.reduceLeDiff, Nat.reduceEqDiff, Nat.reduceLT, reduceIte, Int.reduceToNat, Int.reduceLE, Int.reduceLT, reduceCtorEq, List.contains_cons, List.contains_nil, Nat.reduceBEq, Bool.or_false, Bool.false_or, Bool.or_true, Bool.true_or, forall_eq, forall_eq_or_imp, List.mem_cons, List.not_mem_nil, or_false, false_or]
    repeat (refine And.intro (by first | omega | (refine ⟨?_, ?_⟩ <;> omega)) ?_)
    refine grdA_split rfl (fun g1 => ?_) (fun g1 => ?_)
    · simp only [go_sem, nl, Nat.mul_one, Nat.one_mul, Nat.reducePow, Nat.reduceAdd, Nat.reduceMul, Nat.reduceSub, Nat.reduceLeDiff, Nat.reduceEqDiff, Nat.reduceLT, reduceIte, Int.reduceToNat, Int.reduceLE, Int.reduceLT, reduceCtorEq, List.contains_cons, List.contains_nil, Nat.reduceBEq, Bool.or_false, Bool.false_or, Bool.or_true, Bool.true_or, forall_eq, forall_eq_or_imp, List.mem_cons, List.not_mem_nil, or_false, false_or]
      repeat (refine And.intro (by first | omega | (refine ⟨?_, ?_⟩ <;> omega)) ?_)
      simp only [g1, Bool.true_or, Bool.or_true, Bool.false_or, Bool.or_false, Bool.true_and, Bool.and_true, Bool.false_and, Bool.and_false, Bool.not_true, Bool.not_false]
      exact anyT rfl rfl
    · simp only [go_sem, nl, Nat.mul_one, Nat.one_mul, Nat.reducePow, Nat.reduceAdd, Nat.reduceMul, Nat.reduceSub, Nat.reduceLeDiff, Nat.reduceEqDiff, Nat.reduceLT, reduceIte, Int.reduceToNat, Int.reduceLE, Int.reduceLT, reduceCtorEq, List.contains_cons, List.contains_nil, Nat.reduceBEq, Bool.or_false, Bool.false_or, Bool.or_true, Bool.true_or, forall_eq, forall_eq_or_imp, List.mem_cons, List.not_mem_nil, or_false, false_or]
      repeat (refine And.intro (by first | omega | (refine ⟨?_, ?_⟩ <;> omega)) ?_)
      simp only [g1, Bool.true_or, Bool.or_true, Bool.false_or, Bool.or_false, Bool.true_and, Bool.and_true, Bool.false_and, Bool.and_false, Bool.not_true, Bool.not_false]
      exact anyT rfl rfl
  rintro _ ⟨f, rfl⟩
  refine Wp.ret ?_
  simp only [thn, inB, retQ]
  refine ⟨_, [], rfl, Nat.zero_le _, by decide, by simp, ?_⟩
  simp only [go_sem, nl, Nat.mul_one, Nat.one_mul, Nat.reducePow, Nat.reduceAdd, Nat.reduceMul, Nat.reduceSub, Nat.reduceLeDiff, Nat.reduceEqDiff, Nat.reduceLT, reduceIte, Int.reduceToNat, Int.reduceLE, Int.reduceLT, reduceCtorEq, List.contains_cons, List.contains_nil, Nat.reduceBEq, Bool.or_false, Bool.false_or, Bool.or_true, Bool.true_or, forall_eq, forall_eq_or_imp, List.mem_cons, List.not_mem_nil, or_false, false_or]
  all_goals
    first | exact ⟨rfl, rfl⟩ | rfl
def isQ (op : Int) : Bool := decide (op = 19) || decide (op = 20)
def parts (n : Nd) : List Int := if ((decide (n.op = 2) || decide (n.op = 17)) || isQ n.op) = true then [n.a] else if (decide (3 ≤ n.op) && decide (n.op ≤ 16)) = true then [n.a, n.b] else if n.op = 18 then [n.a, n.b, n.c] else []
end Go.Proofs.YtbhlegobhidgkaaDoor.RE
