/- Numbers of variables, the program. Conditions: those that a theorem names. -/
import Derived.Test.YtlgjogfcpgfbnaaCK
set_option linter.unusedVariables false
set_option linter.unusedSimpArgs false
namespace Go.Proofs.Ytlgjogfcpgfbnaa.RE
open Go Go.RowKit
set_option maxRecDepth 100000
set_option maxHeartbeats 8000000
theorem varsFn_c (m : List Bool) (i : Nat) (hi : i < m.length) : CallsA E.P 103 [I i, .l (.ptr 0 0 0)] [some ⟨0, [.obj 1 0 1 0 m.length]⟩, some ⟨0, m.map cb⟩] fun r ob => r = T (m.getD i false) ∧ ob = [some ⟨0, [.obj 1 0 1 0 m.length]⟩, some ⟨0, m.map cb⟩] := by
  refine CallsA.body (E := E) (fn := Try.f103) Try.func103 rfl fun B hB => ?_
  simp only [Try.ntmps103, go_sem, nl, Nat.mul_one, Nat.one_mul, Nat.reducePow, Nat.reduceAdd, Nat.reduceMul, Nat.reduceSub, Nat.reduceLeDiff, Nat.reduceEqDiff, Nat.reduceLT, reduceIte, Int.reduceToNat, Int.reduceLE, Int.reduceLT, reduceCtorEq, List.contains_cons, List.contains_nil, Nat.reduceBEq, Bool.or_false, Bool.false_or, Bool.or_true, Bool.true_or, forall_eq, forall_eq_or_imp, List.mem_cons, List.not_mem_nil, or_false, false_or, List.reduceReplicate]
  refine Wp.seqK fun K1 hK1 => ?_
  refine Wp.regionS ?_
  simp only [go_sem, nl, Nat.mul_one, Nat.one_mul, Nat.reducePow, Nat.reduceAdd, Nat.reduceMul, Nat.reduceSub, Nat.reduceLeDiff, Nat.reduceEqDiff, Nat.reduceLT, reduceIte, Int.reduceToNat, Int.reduceLE, Int.reduceLT, reduceCtorEq, List.contains_cons, List.contains_nil, Nat.reduceBEq, Bool.or_false, Bool.false_or, Bool.or_true, Bool.true_or, forall_eq, forall_eq_or_imp, List.mem_cons, List.not_mem_nil, or_false, false_or]
  repeat (refine And.intro (by first | omega | (refine ⟨?_, ?_⟩ <;> omega)) ?_)
  refine hK1 _ ?_
  clear hK1 K1
  refine Wp.seqK fun K2 hK2 => ?_
  refine Wp.regionS ?_
  simp only [go_sem, atB hi, encN_len, lN_len, List.length_drop, List.length_map, List.length_take, List.length_append, Int.toNat_natCast, nl, Nat.mul_one, Nat.one_mul, Nat.reducePow, Nat.reduceAdd, Nat.reduceMul, Nat.reduceSub, Nat.reduceLeDiff, Nat.reduceEqDiff, Nat.reduceLT, reduceIte, Int.reduceToNat, Int.reduceLE, Int.reduceLT, reduceCtorEq, List.contains_cons, List.contains_nil, Nat.reduceBEq, Bool.or_false, Bool.false_or, Bool.or_true, Bool.true_or, forall_eq, forall_eq_or_imp, List.mem_cons, List.not_mem_nil, or_false, false_or]
  repeat (refine And.intro (by first | omega | (refine ⟨?_, ?_⟩ <;> omega)) ?_)
  refine hK2 _ ?_
  clear hK2 K2
  refine Wp.ret ?_
  simp only [thn, inB, retQ]
  refine ⟨_, [], rfl, Nat.le_refl _, by decide, by simp, ?_⟩
  simp only [go_sem, renB, nl, Nat.mul_one, Nat.one_mul, Nat.reducePow, Nat.reduceAdd, Nat.reduceMul, Nat.reduceSub, Nat.reduceLeDiff, Nat.reduceEqDiff, Nat.reduceLT, reduceIte, Int.reduceToNat, Int.reduceLE, Int.reduceLT, reduceCtorEq, List.contains_cons, List.contains_nil, Nat.reduceBEq, Bool.or_false, Bool.false_or, Bool.or_true, Bool.true_or, forall_eq, forall_eq_or_imp, List.mem_cons, List.not_mem_nil, or_false, false_or]
  all_goals
    first | exact ⟨rfl, rfl⟩ | rfl
end Go.Proofs.Ytlgjogfcpgfbnaa.RE
