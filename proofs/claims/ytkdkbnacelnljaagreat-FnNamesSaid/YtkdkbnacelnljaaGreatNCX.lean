/- CountOp, the program. Conditions: those that a theorem names. -/
import Derived.Test.YtkdkbnacelnljaaGreatNCI
import Derived.Test.YtkdkbnacelnljaaGreatNRZ
import Derived.Test.YtkdkbnacelnljaaGreatNCA
import Derived.Test.YtkdkbnacelnljaaGreatNCE
set_option linter.unusedVariables false
set_option linter.unusedSimpArgs false
namespace Go.Proofs.YtkdkbnacelnljaaGreat.RE
open Go Go.RowKit
set_option maxRecDepth 100000
set_option maxHeartbeats 8000000

end Go.Proofs.YtkdkbnacelnljaaGreat.RE

/-! Numbers of variables, the reference. Conditions: those that a theorem names. -/
set_option linter.unusedVariables false
set_option linter.unusedSimpArgs false
namespace Go.Proofs.YtkdkbnacelnljaaGreat.RE
open Go Go.RowKit
set_option maxRecDepth 100000
set_option maxHeartbeats 8000000

def named (n : Nd) : Bool := decide (n.op = 1) || isQ n.op
def numF (v : Int) (n : Nd) : Bool := named n && decide (n.k = v)
def numB (t : List Nd) (v : Int) : Bool := t.any (numF v)
def numsT (t : List Nd) : List Bool := (List.range 8).map fun (v : Nat) => numB t v
theorem any_push (v : Int) {t : List Nd} {x : Nat} (h : x < t.length) : (t.take (x + 1)).any (numF v) = ((t.take x).any (numF v) || (named (t.getD x default) && decide ((t.getD x default).k = v))) := by
  rw [take_push default h, List.any_append]
  simp [numF]
theorem l15Named_c (n : Nd) : Val E.P 65 [.agg (nl n)] (T (named n)) := by
  refine CallsA.body (E := E) (fn := Tryz.f65) Tryz.func65 rfl fun B hB => ?_
  simp only [Tryz.ntmps65, go_sem, nl, Nat.mul_one, Nat.one_mul, Nat.reducePow, Nat.reduceAdd, Nat.reduceMul, Nat.reduceSub, Nat.reduceLeDiff, Nat.reduceEqDiff, Nat.reduceLT, reduceIte, Int.reduceToNat, Int.reduceLE, Int.reduceLT, reduceCtorEq, List.contains_cons, List.contains_nil, Nat.reduceBEq, Bool.or_false, Bool.false_or, Bool.or_true, Bool.true_or, forall_eq, forall_eq_or_imp, List.mem_cons, List.not_mem_nil, or_false, false_or, List.reduceReplicate]
  refine Wp.seqK fun K1 hK1 => ?_
  refine Wp.regionS ?_
  refine evc ?_
  repeat (refine And.intro (by first | omega | (refine ⟨?_, ?_⟩ <;> omega)) ?_)
  refine hK1 _ ?_
  clear hK1 K1
  refine Wp.seqM (fun s => ∃ f : Nat → AV, s = ⟨[f 0, f 1, T (decide (n.op = 1) || isQ n.op), f 3, f 4, f 5, f 6, f 7, f 8, f 9, f 10], [some ⟨0, nl n⟩]⟩) ?_ ?_
  · refine Wp.regionS ?_
    refine evc ?_
    repeat (refine And.intro (by first | omega | (refine ⟨?_, ?_⟩ <;> omega)) ?_)
    refine grdA_split rfl (fun g1 => ?_) (fun g1 => ?_)
    · simp only [go_sem, nl, Nat.mul_one, Nat.one_mul, Nat.reducePow, Nat.reduceAdd, Nat.reduceMul, Nat.reduceSub, Nat.reduceLeDiff, Nat.reduceEqDiff, Nat.reduceLT, reduceIte, Int.reduceToNat, Int.reduceLE, Int.reduceLT, reduceCtorEq, List.contains_cons, List.contains_nil, Nat.reduceBEq, Bool.or_false, Bool.false_or, Bool.or_true, Bool.true_or, forall_eq, forall_eq_or_imp, List.mem_cons, List.not_mem_nil, or_false, false_or]
      repeat (refine And.intro (by first | omega | (refine ⟨?_, ?_⟩ <;> omega)) ?_)
      simp only [g1, Bool.true_or, Bool.or_true, Bool.false_or, Bool.or_false, Bool.true_and, Bool.and_true, Bool.false_and, Bool.and_false, Bool.not_true, Bool.not_false]
      exact anyT rfl rfl
    · simp only [go_sem, nl, Nat.mul_one, Nat.one_mul, Nat.reducePow, Nat.reduceAdd, Nat.reduceMul, Nat.reduceSub, Nat.reduceLeDiff, Nat.reduceEqDiff, Nat.reduceLT, reduceIte, Int.reduceToNat, Int.reduceLE, Int.reduceLT, reduceCtorEq, List.contains_cons, List.contains_nil, Nat.reduceBEq, Bool.or_false, Bool.false_or, Bool.or_true, Bool.true_or, forall_eq, forall_eq_or_imp, List.mem_cons, List.not_mem_nil, or_false, false_or]
      repeat (refine And.intro (by first | omega | (refine ⟨?_, ?_⟩ <;> omega)) ?_)
      refine ⟨rfl, CallK.val [] LendOk.nil (l02Quant_c _) rfl ?_⟩
      refine evc ?_
      repeat (refine And.intro (by first | omega | (refine ⟨?_, ?_⟩ <;> omega)) ?_)
      simp only [g1, Bool.true_or, Bool.or_true, Bool.false_or, Bool.or_false, Bool.true_and, Bool.and_true, Bool.false_and, Bool.and_false, Bool.not_true, Bool.not_false]
      exact anyT rfl rfl
  rintro _ ⟨f, rfl⟩
  refine Wp.ret ?_
  simp only [thn, inB, retQ]
  refine ⟨_, [], rfl, Nat.zero_le _, by decide, by simp, ?_⟩
  simp only [go_sem, nl, Nat.mul_one, Nat.one_mul, Nat.reducePow, Nat.reduceAdd, Nat.reduceMul, Nat.reduceSub, Nat.reduceLeDiff, Nat.reduceEqDiff, Nat.reduceLT, reduceIte, Int.reduceToNat, Int.reduceLE, Int.reduceLT, reduceCtorEq, List.contains_cons, List.contains_nil, Nat.reduceBEq, Bool.or_false, Bool.false_or, Bool.or_true, Bool.true_or, forall_eq, forall_eq_or_imp, List.mem_cons, List.not_mem_nil, or_false, false_or]
  all_goals
    first | exact ⟨rfl, rfl⟩ | rfl
theorem ofVar_c (n : Nd) : Val E.P 34 [.agg (nl n)] (T (named n)) := by
  refine CallsA.body (E := E) (fn := Tryz.f34) Tryz.func34 rfl fun B hB => ?_
  simp only [Tryz.ntmps34, go_sem, nl, Nat.mul_one, Nat.one_mul, Nat.reducePow, Nat.reduceAdd, Nat.reduceMul, Nat.reduceSub, Nat.reduceLeDiff, Nat.reduceEqDiff, Nat.reduceLT, reduceIte, Int.reduceToNat, Int.reduceLE, Int.reduceLT, reduceCtorEq, List.contains_cons, List.contains_nil, Nat.reduceBEq, Bool.or_false, Bool.false_or, Bool.or_true, Bool.true_or, forall_eq, forall_eq_or_imp, List.mem_cons, List.not_mem_nil, or_false, false_or, List.reduceReplicate]
  refine Wp.seqK fun K1 hK1 => ?_
  refine Wp.regionS ?_
  refine evc ?_
  repeat (refine And.intro (by first | omega | (refine ⟨?_, ?_⟩ <;> omega)) ?_)
  refine hK1 _ ?_
  clear hK1 K1
  refine Wp.seqM (fun s => ∃ f : Nat → AV, s = ⟨[f 0, f 1, T (decide (n.op = 1) || isQ n.op), f 3, f 4, f 5, f 6, f 7, f 8, f 9], [some ⟨0, nl n⟩]⟩) ?_ ?_
  · refine Wp.regionS ?_
    refine evc ?_
    repeat (refine And.intro (by first | omega | (refine ⟨?_, ?_⟩ <;> omega)) ?_)
    refine grdA_split rfl (fun g1 => ?_) (fun g1 => ?_)
    · simp only [go_sem, nl, Nat.mul_one, Nat.one_mul, Nat.reducePow, Nat.reduceAdd, Nat.reduceMul, Nat.reduceSub, Nat.reduceLeDiff, Nat.reduceEqDiff, Nat.reduceLT, reduceIte, Int.reduceToNat, Int.reduceLE, Int.reduceLT, reduceCtorEq, List.contains_cons, List.contains_nil, Nat.reduceBEq, Bool.or_false, Bool.false_or, Bool.or_true, Bool.true_or, forall_eq, forall_eq_or_imp, List.mem_cons, List.not_mem_nil, or_false, false_or]
      repeat (refine And.intro (by first | omega | (refine ⟨?_, ?_⟩ <;> omega)) ?_)
      simp only [g1, Bool.true_or, Bool.or_true, Bool.false_or, Bool.or_false, Bool.true_and, Bool.and_true, Bool.false_and, Bool.and_false, Bool.not_true, Bool.not_false]
      exact anyT rfl rfl
    · simp only [go_sem, nl, Nat.mul_one, Nat.one_mul, Nat.reducePow, Nat.reduceAdd, Nat.reduceMul, Nat.reduceSub, Nat.reduceLeDiff, Nat.reduceEqDiff, Nat.reduceLT, reduceIte, Int.reduceToNat, Int.reduceLE, Int.reduceLT, reduceCtorEq, List.contains_cons, List.contains_nil, Nat.reduceBEq, Bool.or_false, Bool.false_or, Bool.or_true, Bool.true_or, forall_eq, forall_eq_or_imp, List.mem_cons, List.not_mem_nil, or_false, false_or]
      repeat (refine And.intro (by first | omega | (refine ⟨?_, ?_⟩ <;> omega)) ?_)
      refine ⟨rfl, CallK.val [] LendOk.nil (isQuant_c _) rfl ?_⟩
      refine evc ?_
      repeat (refine And.intro (by first | omega | (refine ⟨?_, ?_⟩ <;> omega)) ?_)
      simp only [g1, Bool.true_or, Bool.or_true, Bool.false_or, Bool.or_false, Bool.true_and, Bool.and_true, Bool.false_and, Bool.and_false, Bool.not_true, Bool.not_false]
      exact anyT rfl rfl
  rintro _ ⟨f, rfl⟩
  refine Wp.ret ?_
  simp only [thn, inB, retQ]
  refine ⟨_, [], rfl, Nat.zero_le _, by decide, by simp, ?_⟩
  simp only [go_sem, nl, Nat.mul_one, Nat.one_mul, Nat.reducePow, Nat.reduceAdd, Nat.reduceMul, Nat.reduceSub, Nat.reduceLeDiff, Nat.reduceEqDiff, Nat.reduceLT, reduceIte, Int.reduceToNat, Int.reduceLE, Int.reduceLT, reduceCtorEq, List.contains_cons, List.contains_nil, Nat.reduceBEq, Bool.or_false, Bool.false_or, Bool.or_true, Bool.true_or, forall_eq, forall_eq_or_imp, List.mem_cons, List.not_mem_nil, or_false, false_or]
  all_goals
    first | exact ⟨rfl, rfl⟩ | rfl
theorem l15Nums_c (t : List Nd) (ht : t.length ≤ 1048576) : Row E.P 36 [dN t] 1 8 ((numsT t).map cb) := by
  refine CallsA.body (E := E) (fn := Tryz.f36) Tryz.func36 rfl fun B hB => ?_
  simp only [Tryz.ntmps36, go_sem, nl, Nat.mul_one, Nat.one_mul, Nat.reducePow, Nat.reduceAdd, Nat.reduceMul, Nat.reduceSub, Nat.reduceLeDiff, Nat.reduceEqDiff, Nat.reduceLT, reduceIte, Int.reduceToNat, Int.reduceLE, Int.reduceLT, reduceCtorEq, List.contains_cons, List.contains_nil, Nat.reduceBEq, Bool.or_false, Bool.false_or, Bool.or_true, Bool.true_or, forall_eq, forall_eq_or_imp, List.mem_cons, List.not_mem_nil, or_false, false_or, List.reduceReplicate]
  refine Wp.seqK fun K1 hK1 => ?_
  refine Wp.regionS ?_
  refine evc ?_
  repeat (refine And.intro (by first | omega | (refine ⟨?_, ?_⟩ <;> omega)) ?_)
  refine hK1 _ ?_
  clear hK1 K1
  refine Wp.seqK fun K2 hK2 => ?_
  refine Wp.regionS ?_
  refine evc ?_
  repeat (refine And.intro (by first | omega | (refine ⟨?_, ?_⟩ <;> omega)) ?_)
  refine hK2 _ ?_
  clear hK2 K2
  refine Wp.seqK fun K3 hK3 => ?_
  refine Wp.seqK fun K4 hK4 => ?_
  refine Wp.regionS ?_
  refine evc ?_
  repeat (refine And.intro (by first | omega | (refine ⟨?_, ?_⟩ <;> omega)) ?_)
  refine hK4 _ ?_
  clear hK4 K4
  refine Wp.block ?_
  skip
  refine Wp.loop (α := Nat) (fun x s => x ≤ 8 ∧ ∃ f : Nat → AV, s = ⟨[dN t, f 1, f 2, .l (.obj 0 x 1 0 x), I x, f 5, f 6, f 7, f 8, f 9, f 10, f 11, f 12, f 13, f 14, f 15, f 16, f 17, f 18, f 19, f 20, f 21, f 22, f 23, f 24, f 25, f 26, f 27, f 28, f 29, f 30, f 31, f 32, f 33, f 34, f 35, f 36, f 37, f 38, f 39], [some ⟨x, ((List.range x).map fun (v : Nat) => numB t v).map cb⟩]⟩) (fun x => 8 - x) 0 ⟨Nat.zero_le _, anyT rfl rfl⟩ ?_
  rintro v _ ⟨hv, f, rfl⟩
  refine Wp.seqK fun K5 hK5 => ?_
  refine Wp.seqK fun K6 hK6 => ?_
  refine Wp.regionS ?_
  refine evc ?_
  repeat (refine And.intro (by first | omega | (refine ⟨?_, ?_⟩ <;> omega)) ?_)
  refine hK6 _ ?_
  clear hK6 K6
  refine Wp.cond rfl (fun h9 => ?_) (fun h9 => ?_)
  · have hv8 : v < 8 := by have := of_decide_eq_true h9; omega
    refine Wp.skip ?_
    refine hK5 _ ?_
    clear hK5 K5
    refine Wp.seqK fun K7 hK7 => ?_
    refine Wp.block ?_
    refine Wp.seqK fun K8 hK8 => ?_
    refine Wp.regionS ?_
    refine evc ?_
    repeat (refine And.intro (by first | omega | (refine ⟨?_, ?_⟩ <;> omega)) ?_)
    refine hK8 _ ?_
    clear hK8 K8
    refine Wp.seqK fun K9 hK9 => ?_
    refine Wp.seqK fun K10 hK10 => ?_
    refine Wp.regionS ?_
    refine evc ?_
    repeat (refine And.intro (by first | omega | (refine ⟨?_, ?_⟩ <;> omega)) ?_)
    refine hK10 _ ?_
    clear hK10 K10
    refine Wp.block ?_
    skip
    refine Wp.loop (α := Nat) (fun x s => x ≤ t.length ∧ ∃ f : Nat → AV, s = ⟨[dN t, f 1, f 2, .l (.obj 0 v 1 0 v), I v, T ((t.take x).any (numF v)), I x, f 7, f 8, f 9, f 10, f 11, f 12, f 13, f 14, f 15, f 16, f 17, f 18, f 19, f 20, f 21, f 22, f 23, f 24, f 25, f 26, f 27, f 28, f 29, f 30, f 31, f 32, f 33, f 34, f 35, f 36, f 37, f 38, f 39], [some ⟨v, ((List.range v).map fun (v : Nat) => numB t v).map cb⟩]⟩) (fun x => t.length - x) 0 ⟨Nat.zero_le _, anyT rfl rfl⟩ ?_
    rintro x _ ⟨hx, f, rfl⟩
    refine Wp.seqK fun K11 hK11 => ?_
    refine Wp.seqK fun K12 hK12 => ?_
    refine Wp.regionS ?_
    refine evc ?_
    repeat (refine And.intro (by first | omega | (refine ⟨?_, ?_⟩ <;> omega)) ?_)
    refine hK12 _ ?_
    clear hK12 K12
    refine Wp.cond rfl (fun h15 => ?_) (fun h15 => ?_)
    · have hxl : x < t.length := by have := of_decide_eq_true h15; omega
      refine Wp.skip ?_
      refine hK11 _ ?_
      clear hK11 K11
      refine Wp.seqK fun K13 hK13 => ?_
      refine Wp.block ?_
      refine Wp.regionS ?_
      simp only [go_sem, atN _ hxl, fN2 hxl, encN_len, lN_len, List.length_drop, List.length_map, List.length_take, List.length_append, Int.toNat_natCast, nl, Nat.mul_one, Nat.one_mul, Nat.reducePow, Nat.reduceAdd, Nat.reduceMul, Nat.reduceSub, Nat.reduceLeDiff, Nat.reduceEqDiff, Nat.reduceLT, reduceIte, Int.reduceToNat, Int.reduceLE, Int.reduceLT, reduceCtorEq, List.contains_cons, List.contains_nil, Nat.reduceBEq, Bool.or_false, Bool.false_or, Bool.or_true, Bool.true_or, forall_eq, forall_eq_or_imp, List.mem_cons, List.not_mem_nil, or_false, false_or]
      repeat (refine And.intro (by first | omega | (refine ⟨?_, ?_⟩ <;> omega)) ?_)
      refine grdA_split rfl (fun g1 => ?_) (fun g1 => ?_)
      · simp only [go_sem, atN _ hxl, fN2 hxl, encN_len, lN_len, List.length_drop, List.length_map, List.length_take, List.length_append, Int.toNat_natCast, nl, Nat.mul_one, Nat.one_mul, Nat.reducePow, Nat.reduceAdd, Nat.reduceMul, Nat.reduceSub, Nat.reduceLeDiff, Nat.reduceEqDiff, Nat.reduceLT, reduceIte, Int.reduceToNat, Int.reduceLE, Int.reduceLT, reduceCtorEq, List.contains_cons, List.contains_nil, Nat.reduceBEq, Bool.or_false, Bool.false_or, Bool.or_true, Bool.true_or, forall_eq, forall_eq_or_imp, List.mem_cons, List.not_mem_nil, or_false, false_or]
        repeat (refine And.intro (by first | omega | (refine ⟨?_, ?_⟩ <;> omega)) ?_)
        try simp only [thn, inB, if_true, reduceIte]
        refine hK13 _ ?_
        clear hK13 K13
        refine Wp.regionS ?_
        refine evc ?_
        repeat (refine And.intro (by first | omega | (refine ⟨?_, ?_⟩ <;> omega)) ?_)
        rw [up (by omega)]
        refine ⟨x + 1, ⟨by omega, ?_⟩, by omega⟩
        rw [any_push v hxl]
        first
          | simp only [g1, g2, Bool.true_or, Bool.or_true, Bool.false_or, Bool.or_false, Bool.true_and, Bool.and_true, Bool.false_and, Bool.and_false, Bool.not_true, Bool.not_false]
          | simp only [g1, Bool.true_or, Bool.or_true, Bool.false_or, Bool.or_false, Bool.true_and, Bool.and_true, Bool.false_and, Bool.and_false, Bool.not_true, Bool.not_false]
        exact anyT rfl rfl
      · simp only [go_sem, atN _ hxl, fN2 hxl, encN_len, lN_len, List.length_drop, List.length_map, List.length_take, List.length_append, Int.toNat_natCast, nl, Nat.mul_one, Nat.one_mul, Nat.reducePow, Nat.reduceAdd, Nat.reduceMul, Nat.reduceSub, Nat.reduceLeDiff, Nat.reduceEqDiff, Nat.reduceLT, reduceIte, Int.reduceToNat, Int.reduceLE, Int.reduceLT, reduceCtorEq, List.contains_cons, List.contains_nil, Nat.reduceBEq, Bool.or_false, Bool.false_or, Bool.or_true, Bool.true_or, forall_eq, forall_eq_or_imp, List.mem_cons, List.not_mem_nil, or_false, false_or]
        repeat (refine And.intro (by first | omega | (refine ⟨?_, ?_⟩ <;> omega)) ?_)
        refine ⟨rfl, CallK.val [] LendOk.nil (l15Named_c _) rfl ?_⟩
        simp only [go_sem, atN _ hxl, fN2 hxl, encN_len, lN_len, List.length_drop, List.length_map, List.length_take, List.length_append, Int.toNat_natCast, nl, Nat.mul_one, Nat.one_mul, Nat.reducePow, Nat.reduceAdd, Nat.reduceMul, Nat.reduceSub, Nat.reduceLeDiff, Nat.reduceEqDiff, Nat.reduceLT, reduceIte, Int.reduceToNat, Int.reduceLE, Int.reduceLT, reduceCtorEq, List.contains_cons, List.contains_nil, Nat.reduceBEq, Bool.or_false, Bool.false_or, Bool.or_true, Bool.true_or, forall_eq, forall_eq_or_imp, List.mem_cons, List.not_mem_nil, or_false, false_or]
        repeat (refine And.intro (by first | omega | (refine ⟨?_, ?_⟩ <;> omega)) ?_)
        refine grdA_split rfl (fun g2 => ?_) (fun g2 => ?_)
        · simp only [go_sem, atN _ hxl, fN2 hxl, encN_len, lN_len, List.length_drop, List.length_map, List.length_take, List.length_append, Int.toNat_natCast, nl, Nat.mul_one, Nat.one_mul, Nat.reducePow, Nat.reduceAdd, Nat.reduceMul, Nat.reduceSub, Nat.reduceLeDiff, Nat.reduceEqDiff, Nat.reduceLT, reduceIte, Int.reduceToNat, Int.reduceLE, Int.reduceLT, reduceCtorEq, List.contains_cons, List.contains_nil, Nat.reduceBEq, Bool.or_false, Bool.false_or, Bool.or_true, Bool.true_or, forall_eq, forall_eq_or_imp, List.mem_cons, List.not_mem_nil, or_false, false_or]
          repeat (refine And.intro (by first | omega | (refine ⟨?_, ?_⟩ <;> omega)) ?_)
          try simp only [thn, inB, if_true, reduceIte]
          refine hK13 _ ?_
          clear hK13 K13
          refine Wp.regionS ?_
          refine evc ?_
          repeat (refine And.intro (by first | omega | (refine ⟨?_, ?_⟩ <;> omega)) ?_)
          rw [up (by omega)]
          refine ⟨x + 1, ⟨by omega, ?_⟩, by omega⟩
          rw [any_push v hxl]
          first
            | simp only [g1, g2, Bool.true_or, Bool.or_true, Bool.false_or, Bool.or_false, Bool.true_and, Bool.and_true, Bool.false_and, Bool.and_false, Bool.not_true, Bool.not_false]
            | simp only [g1, Bool.true_or, Bool.or_true, Bool.false_or, Bool.or_false, Bool.true_and, Bool.and_true, Bool.false_and, Bool.and_false, Bool.not_true, Bool.not_false]
          exact anyT rfl rfl
        · simp only [go_sem, atN _ hxl, fN2 hxl, encN_len, lN_len, List.length_drop, List.length_map, List.length_take, List.length_append, Int.toNat_natCast, nl, Nat.mul_one, Nat.one_mul, Nat.reducePow, Nat.reduceAdd, Nat.reduceMul, Nat.reduceSub, Nat.reduceLeDiff, Nat.reduceEqDiff, Nat.reduceLT, reduceIte, Int.reduceToNat, Int.reduceLE, Int.reduceLT, reduceCtorEq, List.contains_cons, List.contains_nil, Nat.reduceBEq, Bool.or_false, Bool.false_or, Bool.or_true, Bool.true_or, forall_eq, forall_eq_or_imp, List.mem_cons, List.not_mem_nil, or_false, false_or]
          repeat (refine And.intro (by first | omega | (refine ⟨?_, ?_⟩ <;> omega)) ?_)
          try simp only [thn, inB, if_true, reduceIte]
          refine hK13 _ ?_
          clear hK13 K13
          refine Wp.regionS ?_
          refine evc ?_
          repeat (refine And.intro (by first | omega | (refine ⟨?_, ?_⟩ <;> omega)) ?_)
          rw [up (by omega)]
          refine ⟨x + 1, ⟨by omega, ?_⟩, by omega⟩
          rw [any_push v hxl]
          first
            | simp only [g1, g2, Bool.true_or, Bool.or_true, Bool.false_or, Bool.or_false, Bool.true_and, Bool.and_true, Bool.false_and, Bool.and_false, Bool.not_true, Bool.not_false]
            | simp only [g1, Bool.true_or, Bool.or_true, Bool.false_or, Bool.or_false, Bool.true_and, Bool.and_true, Bool.false_and, Bool.and_false, Bool.not_true, Bool.not_false]
          exact anyT rfl rfl
    · have hxl : x = t.length := by have := of_decide_eq_false h15; omega
      subst hxl
      simp only [List.take_length]
      refine Wp.exit ?_
      simp only [thn, inB, if_true, reduceIte]
      clear hK11 K11
      refine hK9 _ ?_
      clear hK9 K9
      refine Wp.regionS ?_
      simp only [go_sem, List.length_range, encN_len, lN_len, List.length_drop, List.length_map, List.length_take, List.length_append, Int.toNat_natCast, nl, Nat.mul_one, Nat.one_mul, Nat.reducePow, Nat.reduceAdd, Nat.reduceMul, Nat.reduceSub, Nat.reduceLeDiff, Nat.reduceEqDiff, Nat.reduceLT, reduceIte, Int.reduceToNat, Int.reduceLE, Int.reduceLT, reduceCtorEq, List.contains_cons, List.contains_nil, Nat.reduceBEq, Bool.or_false, Bool.false_or, Bool.or_true, Bool.true_or, forall_eq, forall_eq_or_imp, List.mem_cons, List.not_mem_nil, or_false, false_or]
      repeat (refine And.intro (by first | omega | (refine ⟨?_, ?_⟩ <;> omega)) ?_)
      rw [pushB _ v (by simp)]
      try simp only [thn, inB, if_true, reduceIte]
      refine hK7 _ ?_
      clear hK7 K7
      refine Wp.keep 1 (by simp [hB]) (by simp) ?_
      simp only [go_sem, renI, renB, renN, renn, nl, Nat.mul_one, Nat.one_mul, Nat.reducePow, Nat.reduceAdd, Nat.reduceMul, Nat.reduceSub, Nat.reduceLeDiff, Nat.reduceEqDiff, Nat.reduceLT, reduceIte, Int.reduceToNat, Int.reduceLE, Int.reduceLT, reduceCtorEq, List.contains_cons, List.contains_nil, Nat.reduceBEq, Bool.or_false, Bool.false_or, Bool.or_true, Bool.true_or, forall_eq, forall_eq_or_imp, List.mem_cons, List.not_mem_nil, or_false, false_or]
      refine Wp.regionS ?_
      refine evc ?_
      repeat (refine And.intro (by first | omega | (refine ⟨?_, ?_⟩ <;> omega)) ?_)
      rw [up (by omega)]
      refine ⟨v + 1, ⟨by omega, ?_⟩, by omega⟩
      simp only [List.range_succ, List.map_append, List.map_cons, List.map_nil]
      exact anyT rfl rfl
  · have hv8 : v = 8 := by have := of_decide_eq_false h9; omega
    subst hv8
    refine Wp.exit ?_
    simp only [thn, inB, if_true, reduceIte]
    clear hK5 K5
    refine hK3 _ ?_
    clear hK3 K3
    refine Wp.seqK fun K14 hK14 => ?_
    refine Wp.regionS ?_
    refine evc ?_
    repeat (refine And.intro (by first | omega | (refine ⟨?_, ?_⟩ <;> omega)) ?_)
    refine hK14 _ ?_
    clear hK14 K14
    refine Wp.ret ?_
    simp only [thn, inB, retQ]
    refine ⟨_, [0], rfl, Nat.zero_le _, by decide, by simp, ?_⟩
    exact ret_row rfl (flatB _)
def varsL (b : List Bool) (x : Nat) : List Int := ((List.range x).filter fun v => b.getD v false).map fun (v : Nat) => (v : Int)
theorem varsL_yes {b : List Bool} {x : Nat} (h : b.getD x false = true) : varsL b (x + 1) = varsL b x ++ [(x : Int)] := by
  unfold varsL
  rw [List.range_succ, List.filter_append, List.map_append]
  simp [List.filter_cons, h, ← List.getD_eq_getElem?_getD]
theorem varsL_no {b : List Bool} {x : Nat} (h : b.getD x false = false) : varsL b (x + 1) = varsL b x := by
  unfold varsL
  rw [List.range_succ, List.filter_append, List.map_append]
  simp [List.filter_cons, h, ← List.getD_eq_getElem?_getD]
theorem varsL_len (b : List Bool) (x : Nat) : (varsL b x).length ≤ x := by
  unfold varsL
  rw [List.length_map]
  exact Nat.le_trans (List.length_filter_le _ _) (by simp)
theorem numsT_len (t : List Nd) : (numsT t).length = 8 := by simp [numsT]
def varsT (t : List Nd) : List Int := varsL (numsT (pruneT t)) 8
end Go.Proofs.YtkdkbnacelnljaaGreat.RE

/-! Numbers of variables, the program. Conditions: those that a theorem names. -/
set_option linter.unusedVariables false
set_option linter.unusedSimpArgs false
namespace Go.Proofs.YtkdkbnacelnljaaGreat.RE
open Go Go.RowKit
set_option maxRecDepth 100000
set_option maxHeartbeats 8000000
theorem varsFn_c (m : List Bool) (i : Nat) (hi : i < m.length) : CallsA E.P 45 [I i, .l (.ptr 0 0 0)] [some ⟨0, [.obj 1 0 1 0 m.length]⟩, some ⟨0, m.map cb⟩] fun r ob => r = T (m.getD i false) ∧ ob = [some ⟨0, [.obj 1 0 1 0 m.length]⟩, some ⟨0, m.map cb⟩] := by
  refine CallsA.body (E := E) (fn := Tryz.f45) Tryz.func45 rfl fun B hB => ?_
  simp only [Tryz.ntmps45, go_sem, nl, Nat.mul_one, Nat.one_mul, Nat.reducePow, Nat.reduceAdd, Nat.reduceMul, Nat.reduceSub, Nat.reduceLeDiff, Nat.reduceEqDiff, Nat.reduceLT, reduceIte, Int.reduceToNat, Int.reduceLE, Int.reduceLT, reduceCtorEq, List.contains_cons, List.contains_nil, Nat.reduceBEq, Bool.or_false, Bool.false_or, Bool.or_true, Bool.true_or, forall_eq, forall_eq_or_imp, List.mem_cons, List.not_mem_nil, or_false, false_or, List.reduceReplicate]
  refine Wp.seqK fun K1 hK1 => ?_
  refine Wp.regionS ?_
  refine evc ?_
  repeat (refine And.intro (by first | omega | (refine ⟨?_, ?_⟩ <;> omega)) ?_)
  refine hK1 _ ?_
  clear hK1 K1
  refine Wp.seqK fun K2 hK2 => ?_
  refine Wp.regionS ?_
  simp only [go_sem, atB hi, encN_len, lN_len, List.length_drop, List.length_map, List.length_take, List.length_append, Int.toNat_natCast, nl, Nat.mul_one, Nat.one_mul, Nat.reducePow, Nat.reduceAdd, Nat.reduceMul, Nat.reduceSub, Nat.reduceLeDiff, Nat.reduceEqDiff, Nat.reduceLT, reduceIte, Int.reduceToNat, Int.reduceLE, Int.reduceLT, reduceCtorEq, List.contains_cons, List.contains_nil, Nat.reduceBEq, Bool.or_false, Bool.false_or, Bool.or_true, Bool.true_or, forall_eq, forall_eq_or_imp, List.mem_cons, List.not_mem_nil, or_false, false_or]
  repeat (refine And.intro (by first | omega | (refine ⟨?_, ?_⟩ <;> omega)) ?_)
  refine hK2 _ ?_
  clear hK2 K2
  refine Wp.ret ?_
  simp only [thn, inB, retQ]
  refine ⟨_, [], rfl, Nat.le_refl _, by decide, by simp, ?_⟩
  simp only [go_sem, renB, nl, Nat.mul_one, Nat.one_mul, Nat.reducePow, Nat.reduceAdd, Nat.reduceMul, Nat.reduceSub, Nat.reduceLeDiff, Nat.reduceEqDiff, Nat.reduceLT, reduceIte, Int.reduceToNat, Int.reduceLE, Int.reduceLT, reduceCtorEq, List.contains_cons, List.contains_nil, Nat.reduceBEq, Bool.or_false, Bool.false_or, Bool.or_true, Bool.true_or, forall_eq, forall_eq_or_imp, List.mem_cons, List.not_mem_nil, or_false, false_or]
  all_goals
    first | exact ⟨rfl, rfl⟩ | rfl
end Go.Proofs.YtkdkbnacelnljaaGreat.RE

/-! Rows of numbers in the laws. Conditions: those that a theorem names. -/
set_option linter.unusedVariables false
set_option linter.unusedSimpArgs false
namespace Go.Proofs.YtkdkbnacelnljaaGreat.RE
open Go Go.RowKit
set_option maxRecDepth 100000
set_option maxHeartbeats 8000000

end Go.Proofs.YtkdkbnacelnljaaGreat.RE

/-! Numbers of variables, the program. Conditions: those that a theorem names. -/
set_option linter.unusedVariables false
set_option linter.unusedSimpArgs false
namespace Go.Proofs.YtkdkbnacelnljaaGreat.RE
open Go Go.RowKit
set_option maxRecDepth 100000
set_option maxHeartbeats 8000000

def stepV (t : List Nd) (pf : Nat → Bool) (b : List Bool) (i : Nat) : List Bool := if (named (t.getD i default) && pf i) = true then b.set (t.getD i default).k.toNat true else b
def runV (t : List Nd) (pf : Nat → Bool) : Nat → List Bool
  | 0 => List.replicate 8 false
  | i + 1 => stepV t pf (runV t pf i) i
theorem runV_len (t : List Nd) (pf : Nat → Bool) : ∀ i, (runV t pf i).length = 8
  | 0 => rfl
  | i + 1 => by
    simp only [runV, stepV]
    split
    · rw [List.length_set, runV_len t pf i]
    · exact runV_len t pf i
theorem runV_get (t : List Nd) (pf : Nat → Bool) (v : Nat) (hv : v < 8) : ∀ i, (runV t pf i).getD v false = (List.range i).any fun j => named (t.getD j default) && pf j && decide ((t.getD j default).k.toNat = v)
  | 0 => by
    simp only [runV, List.range_zero, List.any_nil, List.getD_eq_getElem?_getD, List.getElem?_replicate]
    split <;> rfl
  | i + 1 => by
    have ih := runV_get t pf v hv i
    have hl := runV_len t pf i
    rw [List.range_succ, List.any_append, ← ih]
    simp only [List.any_cons, List.any_nil, Bool.or_false, runV, stepV]
    by_cases hc : (named (t.getD i default) && pf i) = true
    · rw [if_pos hc, hc]
      simp only [Bool.true_and]
      generalize (t.getD i default).k.toNat = z
      generalize runV t pf i = b at hl
      by_cases hk : z = v
      · subst hk; simp [List.getD_eq_getElem?_getD, hl, hv]
      · simp [List.getD_eq_getElem?_getD, hk]
    · rw [if_neg hc, Bool.eq_false_iff.2 hc]; simp
/-- Numbers of variables are 0 .. 7. -/
def NumsOk (t : List Nd) : Prop := ∀ i, i < t.length → named (t.getD i default) = true → 0 ≤ (t.getD i default).k ∧ (t.getD i default).k < 8
theorem stepV_yes {t : List Nd} {pf : Nat → Bool} {b : List Bool} {i : Nat} (h1 : named (t.getD i default) = true) (h2 : pf i = true) : stepV t pf b i = b.set (t.getD i default).k.toNat true := by
  unfold stepV; rw [if_pos (by rw [h1, h2]; rfl)]
theorem stepV_no {t : List Nd} {pf : Nat → Bool} {b : List Bool} {i : Nat} (h : (named (t.getD i default) && pf i) = false) : stepV t pf b i = b := by
  unfold stepV; rw [if_neg (by rw [h]; decide)]
theorem varsFn1_c (m : List Bool) {n : Nat} (hm : m.length = n) (i : Nat) (hi : i < m.length) : CallsA E.P 45 [I i, .l (.ptr 0 0 0)] [some ⟨0, [.obj 1 0 1 0 n]⟩, some ⟨0, m.map cb⟩] fun r ob => r = T (m.getD i false) ∧ ob = [some ⟨0, [.obj 1 0 1 0 n]⟩, some ⟨0, m.map cb⟩] := by
  subst hm
  exact varsFn_c m i hi
theorem varsOf1_c (t : List Nd) (hl : t.length ≤ 1048576) (hnum : NumsOk t) (m : List Bool) (hm : m.length = t.length)  : CallsA E.P 44 [dN t, .l (.clo 45 [(0, 0, 0)])] [some ⟨0, [.obj 1 0 1 0 t.length]⟩, some ⟨0, m.map cb⟩] fun r ob => r = .agg ((runV t (fun i => m.getD i false) t.length).map cb) ∧ ob = [some ⟨0, [.obj 1 0 1 0 t.length]⟩, some ⟨0, m.map cb⟩] := by
  refine CallsA.body (E := E) (fn := Tryz.f44) Tryz.func44 rfl fun B hB => ?_
  simp only [Tryz.ntmps44, go_sem, nl, Nat.reduceSub, Nat.reduceAdd, List.reduceReplicate]
  refine Wp.seqK fun K1 hK1 => ?_
  refine rg ?_
  refine hK1 _ ?_
  clear hK1 K1
  refine Wp.seqK fun K2 hK2 => ?_
  refine rg ?_
  refine hK2 _ ?_
  clear hK2 K2
  refine Wp.seqK fun K3 hK3 => ?_
  refine Wp.seqK fun K4 hK4 => ?_
  refine rg ?_
  refine hK4 _ ?_
  clear hK4 K4
  refine Wp.block ?_
  refine Wp.loopU (α := Nat) (fun x => [.d, .k, .d, .d, .k, .k, .d, .d, .d, .k, .k, .v (I x), .d5, .d5, .d5, .d]) (fun x => [some ⟨0, [.obj 1 0 1 0 t.length]⟩, some ⟨0, m.map cb⟩, some ⟨0, (List.replicate 8 false).map cb⟩, some ⟨0, (runV t (fun i => m.getD i false) x).map cb⟩]) (fun x => x ≤ t.length) (fun x => t.length - x) 0 (by omega) (anyS) ?_
  rintro x f5 K5 hx hK5
  simp only [updT_k, updT_d, updT_d5, updT_v, updT_nil, Nat.reduceAdd]
  have hvl := runV_len t (fun i => m.getD i false) x
  refine Wp.seqK fun K6 hK6 => ?_
  refine rg ?_
  refine hK6 _ ?_
  clear hK6 K6
  refine Wp.seqK fun K7 hK7 => ?_
  refine Wp.condS (fun h12 => ?_) (fun h12 => ?_)
  · have hxl : x < t.length := by omega
    refine Wp.skip ?_
    refine hK7 _ ?_
    clear hK7 K7
    refine Wp.seqK fun K8 hK8 => ?_
    refine Wp.block ?_
    refine Wp.seqK fun K9 hK9 => ?_
    refine rg ?_
    refine hK9 _ ?_
    clear hK9 K9
    refine Wp.seqU0 [.d, .k, .d, .d, .k, .k, .d, .k, .d, .k, .k, .k, .d5, .d5, .v (T (named (t.getD x default) && (fun i => m.getD i false) x)), .d5] (fun K10 hK10 => ?_) ?_
    · refine rg ?_
      refine ⟨rfl, CallK.valA (h := ofVar_c _) (k := ?_)⟩
      refine evd ?_
      refine grdA_split rfl (fun g5_3 => ?_) (fun g5_3 => ?_)
      · try simp only [decide_eq_true_eq, decide_eq_false_iff_not] at g5_3
        refine evd ?_
        refine ⟨rfl, CallK.handA 2 (o1 := _) (new := []) (by rw [List.append_nil]; exact varsFn1_c m hm x (by omega)) ?_⟩
        refine evd ?_
        exact hK10 _ (anyS (h := by first | rfl | (simp only [g5_3, Bool.true_or, Bool.or_true, Bool.false_or, Bool.or_false, Bool.true_and, Bool.and_true, Bool.false_and, Bool.and_false, Bool.not_true, Bool.not_false, decide_true, decide_false] <;> rfl)))
      · try simp only [decide_eq_true_eq, decide_eq_false_iff_not] at g5_3
        refine evd ?_
        exact hK10 _ (anyS (h := by first | rfl | (simp only [g5_3, Bool.true_or, Bool.or_true, Bool.false_or, Bool.or_false, Bool.true_and, Bool.and_true, Bool.false_and, Bool.and_false, Bool.not_true, Bool.not_false, decide_true, decide_false] <;> rfl)))
    rintro f10
    simp only [updT_k, updT_d, updT_d5, updT_v, updT_nil, Nat.reduceAdd]
    refine Wp.condS (fun h22 => ?_) (fun h22 => ?_)
    · have hk := hnum x (by omega) h22.1
      have hst := stepV_yes (t := t) (pf := (fun i => m.getD i false)) (b := runV t (fun i => m.getD i false) x) h22.1 h22.2
      refine rg ?_
      try simp only [thn, inB, if_true, reduceIte]
      refine hK8 _ ?_
      clear hK8 K8
      refine Wp.keep 4 (by simp [hB]) (by simp) ?_
      refine evd ?_
      refine rg ?_
      exact hK5 (x + 1) _ (by omega) (by omega) (anyS (ho := by simp only [runV, hst]; rfl))
    · have hst := stepV_no (t := t) (pf := (fun i => m.getD i false)) (b := runV t (fun i => m.getD i false) x) h22
      refine Wp.skip ?_
      try simp only [thn, inB, if_true, reduceIte]
      refine hK8 _ ?_
      clear hK8 K8
      refine Wp.keep 4 (by simp [hB]) (by simp) ?_
      refine evd ?_
      refine rg ?_
      exact hK5 (x + 1) _ (by omega) (by omega) (anyS (ho := by simp only [runV, hst]; rfl))
  · have hxl : x = t.length := by omega
    subst hxl
    refine Wp.exit ?_
    try simp only [thn, inB, if_true, reduceIte]
    clear hK7 K7
    clear hK5 K5
    refine hK3 _ ?_
    clear hK3 K3
    refine Wp.seqK fun K11 hK11 => ?_
    refine rg ?_
    refine hK11 _ ?_
    clear hK11 K11
    refine Wp.ret (retH (n := 2) (x := .agg ((runV t (fun i => m.getD i false) t.length).map cb)) rfl rfl (h := ?_) (hf := ?_))
    · rw [show Tryz.f44.results.toList = [.cell 4 61] from rfl]
      simp only [resA, resT]
      refine evd ?_
      rw [if_pos (by omega)]
    · exact flatB _
theorem okT_nums {t : List Nd} (h : okT t = true) : NumsOk t := by
  intro i hi hn
  have hs := okT_at h hi
  simp only [sRight, Bool.and_eq_true] at hs
  have hr := hs.2.2
  simp only [named, isQ, Bool.or_eq_true, decide_eq_true_eq] at hn
  rcases hn with h1 | h1
  · unfold rule at hr
    rw [if_neg (by omega), if_pos h1] at hr
    simp only [Bool.and_eq_true, decide_eq_true_eq] at hr
    omega
  · rw [rule_q h1] at hr
    simp only [Bool.and_eq_true, decide_eq_true_eq] at hr
    omega
theorem prn_any (t : List Nd) (is : List Bool) (v : Int) : ∀ i, ((prn t is i).2.any (numF v)) = (List.range i).any fun j => is.getD j false && (named (t.getD j default) && decide ((t.getD j default).k = v))
  | 0 => rfl
  | i + 1 => by
    rw [List.range_succ, List.any_append, ← prn_any t is v i]
    by_cases h : is.getD i false = true
    · simp only [prn, h, if_true, List.any_append, List.any_cons, List.any_nil, Bool.or_false, Bool.true_and, numF, renum, named]
    · simp only [prn, h, Bool.false_eq_true, if_false, List.any_cons, List.any_nil, Bool.or_false, Bool.false_and]
theorem any_congrN {l : List Nat} {f g : Nat → Bool} (h : ∀ p ∈ l, f p = g p) : l.any f = l.any g := by
  induction l with
  | nil => rfl
  | cons a l ih => rw [List.any_cons, List.any_cons, h a List.mem_cons_self, ih fun p hp => h p (List.mem_cons_of_mem _ hp)]
theorem runV_nums {t : List Nd} (h : okT t = true) : runV t (fun i => (reachT t).getD i false) t.length = numsT (pruneT t) := by
  apply List.ext_getElem?
  intro v
  by_cases hv : v < 8
  · have h1 := runV_get t (fun i => (reachT t).getD i false) v hv t.length
    rw [List.getElem?_eq_getElem (by rw [runV_len]; exact hv), List.getElem?_eq_getElem (by rw [numsT_len]; exact hv)]
    congr 1
    rw [getD_at (d := false), h1, getD_at (d := false)]
    unfold numsT pruneT
    rw [if_pos h, List.getD_eq_getElem?_getD, List.getElem?_map, List.getElem?_range hv]
    simp only [Option.map_some, Option.getD_some, numB]
    rw [prn_any]
    refine any_congrN fun j hj => ?_
    have hj := List.mem_range.1 hj
    cases hn : named (t.getD j default) with
    | false => simp
    | true =>
      have := okT_nums h j hj hn
      rw [show decide ((t.getD j default).k.toNat = v) = decide ((t.getD j default).k = (v : Int)) from decide_eq_decide.2 (by omega)]
      simp
  · rw [List.getElem?_eq_none (by rw [runV_len]; omega), List.getElem?_eq_none (by rw [numsT_len]; omega)]
theorem varsL_none (x : Nat) : varsL (numsT []) x = [] := by
  induction x with
  | zero => rfl
  | succ x ih =>
    rw [varsL_no, ih]
    unfold numsT
    rw [List.getD_eq_getElem?_getD, List.getElem?_map]
    cases (List.range 8)[x]? <;> rfl
theorem varsT_no {t : List Nd} (h : okT t = false) : varsT t = [] := by
  unfold varsT pruneT; rw [if_neg (by rw [h]; decide)]; exact varsL_none 8
theorem iVars_c (t : List Nd) : Row E.P 18 [dN t] 1 (varsT t).length ((varsT t).map ci) := by
  refine CallsA.body (E := E) (fn := Tryz.f18) Tryz.func18 rfl fun B hB => ?_
  simp only [Tryz.ntmps18, go_sem, nl, Nat.reduceSub, Nat.reduceAdd, List.reduceReplicate]
  refine Wp.seqK fun K1 hK1 => ?_
  refine rg ?_
  refine hK1 _ ?_
  clear hK1 K1
  refine Wp.seqK fun K2 hK2 => ?_
  refine rg ?_
  refine hK2 _ ?_
  clear hK2 K2
  refine Wp.seqK fun K3 hK3 => ?_
  refine Wp.seqK fun K4 hK4 => ?_
  refine rg ?_
  refine ⟨rfl, CallK.valA (h := iTermOk_c _) (k := ?_)⟩
  refine evd ?_
  refine hK4 _ ?_
  clear hK4 K4
  refine Wp.condS (fun h10 => ?_) (fun h10 => ?_)
  · refine Wp.seqK fun K5 hK5 => ?_
    refine rg ?_
    refine hK5 _ ?_
    clear hK5 K5
    refine Wp.ret (retR ?_ ?_ ?_)
    · rw [varsT_no h10] <;> rfl
    · rw [varsT_no h10] <;> rfl
    · rfl
  · have hok := h10
    have hl := okT_len hok
    have hrl := reachT_len t
    refine Wp.skip ?_
    refine hK3 _ ?_
    clear hK3 K3
    refine Wp.seqK fun K6 hK6 => ?_
    refine rg ?_
    refine ⟨rfl, CallK.rowA (h := reached_c _ (by assumption) (by omega)) (k := ?_)⟩
    refine evd ?_
    refine hK6 _ ?_
    clear hK6 K6
    refine Wp.seqK fun K7 hK7 => ?_
    refine Wp.seqK fun K8 hK8 => ?_
    refine rg ?_
    refine ⟨rfl, CallK.passS [2, 1] (varsOf1_c t (by omega) (okT_nums hok) (reachT t) (by omega)) ?_ (hv := flatB _)⟩
    refine evd ?_
    simp only [runV_nums hok]
    refine hK8 _ ?_
    clear hK8 K8
    refine Wp.block ?_
    refine Wp.loopU (α := Nat) (fun x => [.d, .d, .d, .v (.l (.obj 0 (varsL (numsT (pruneT t)) x).length 1 0 (varsL (numsT (pruneT t)) x).length)), .d5, .d5, .d, .d, .k, .v (I x), .d5, .d5]) (fun x => [some ⟨(varsL (numsT (pruneT t)) x).length, (varsL (numsT (pruneT t)) x).map ci⟩, some ⟨0, (reachT t).map cb⟩, some ⟨0, [.obj 1 0 1 0 t.length]⟩]) (fun x => x ≤ 8) (fun x => 8 - x) 0 (by omega) (anyS) ?_
    rintro x f9 K9 hx hK9
    simp only [updT_k, updT_d, updT_d5, updT_v, updT_nil, Nat.reduceAdd]
    have hnl := numsT_len (pruneT t)
    have hvl := varsL_len (numsT (pruneT t)) x
    refine Wp.seqK fun K10 hK10 => ?_
    refine rg ?_
    refine hK10 _ ?_
    clear hK10 K10
    refine Wp.seqK fun K11 hK11 => ?_
    refine Wp.condS (fun h18 => ?_) (fun h18 => ?_)
    · refine Wp.skip ?_
      refine hK11 _ ?_
      clear hK11 K11
      refine Wp.seqK fun K12 hK12 => ?_
      refine Wp.block ?_
      refine Wp.seqK fun K13 hK13 => ?_
      refine rg ?_
      refine hK13 _ ?_
      clear hK13 K13
      refine Wp.seqK fun K14 hK14 => ?_
      refine rg ?_
      refine hK14 _ ?_
      clear hK14 K14
      refine Wp.condS (fun h21 => ?_) (fun h21 => ?_)
      · have hf := varsL_yes h21
        refine rg ?_
        try simp only [thn, inB, if_true, reduceIte]
        refine hK12 _ ?_
        clear hK12 K12
        refine Wp.keep 3 (by simp [hB]) (by simp) ?_
        refine evd ?_
        refine rg ?_
        exact hK9 (x + 1) _ (by omega) (by omega) (anyS (h := by rw [hf] <;> first | rfl | (simp only [List.length_append, List.length_cons, List.length_nil, Nat.zero_add] <;> rfl)) (ho := by rw [hf] <;> first | rfl | (simp only [List.length_append, List.length_cons, List.length_nil, Nat.zero_add] <;> rfl)))
      · have hf := varsL_no h21
        refine Wp.skip ?_
        try simp only [thn, inB, if_true, reduceIte]
        refine hK12 _ ?_
        clear hK12 K12
        refine Wp.keep 3 (by simp [hB]) (by simp) ?_
        refine evd ?_
        refine rg ?_
        exact hK9 (x + 1) _ (by omega) (by omega) (anyS (h := by rw [hf] <;> first | rfl | (simp only [List.length_append, List.length_cons, List.length_nil, Nat.zero_add] <;> rfl)) (ho := by rw [hf] <;> first | rfl | (simp only [List.length_append, List.length_cons, List.length_nil, Nat.zero_add] <;> rfl)))
    · have hx8 : x = 8 := by omega
      subst hx8
      refine Wp.exit ?_
      try simp only [thn, inB, if_true, reduceIte]
      clear hK11 K11
      clear hK9 K9
      refine hK7 _ ?_
      clear hK7 K7
      refine Wp.seqK fun K15 hK15 => ?_
      refine rg ?_
      refine hK15 _ ?_
      clear hK15 K15
      refine Wp.ret (retR (cs := (varsT t).map ci) rfl rfl (flatI _))
end Go.Proofs.YtkdkbnacelnljaaGreat.RE

/-! Reaching and free variables: plain facts. Conditions: those that a theorem names. -/
set_option linter.unusedVariables false
set_option linter.unusedSimpArgs false
namespace Go.Proofs.YtkdkbnacelnljaaGreat.RE
open Go Go.RowKit

theorem getD_lt {b : List Bool} {i : Nat} (h : b.getD i false = true) : i < b.length := by
  rcases Nat.lt_or_ge i b.length with h1 | h1
  · exact h1
  · rw [List.getD_eq_getElem?_getD, List.getElem?_eq_none h1] at h; simp at h
theorem getD_ge {b : List Bool} {j : Nat} (h : b.length ≤ j) : b.getD j false = false := by
  rw [List.getD_eq_getElem?_getD, List.getElem?_eq_none h]; rfl
/-- Parts stand ahead. -/
def PartsOk (t : List Nd) : Prop := ∀ i, i < t.length → ∀ p ∈ parts (t.getD i default), 0 ≤ p ∧ p < (i : Int)
theorem okT_parts {t : List Nd} (h : okT t = true) : PartsOk t := fun _ hi => okT_part h hi
structure RunOk (t : List Nd) (ps : Nat → Bool) (x : Nat) (b b' : List Bool) : Prop where
  keep : ∀ j, x ≤ j + 1 → b'.getD j false = b.getD j false
  mono : ∀ j, b.getD j false = true → b'.getD j false = true
  clo : ∀ i, i < x → b'.getD i false = true → ps i = true → ∀ p ∈ parts (t.getD i default), b'.getD p.toNat false = true
  src : ∀ j, b'.getD j false = true → b.getD j false = true ∨ ∃ i, i < x ∧ j < i ∧ b'.getD i false = true ∧ ps i = true ∧ ∃ p ∈ parts (t.getD i default), p.toNat = j
theorem stepR_keep {t : List Nd} {ps : Nat → Bool} {x j : Nat} {b : List Bool} (hp : ∀ p ∈ parts (t.getD x default), 0 ≤ p ∧ p < (x : Int)) (hj : x ≤ j) : (stepR t ps x b).getD j false = b.getD j false := by
  unfold stepR
  split
  · rcases Nat.lt_or_ge j b.length with h1 | h1
    · rw [mark_get _ _ _ h1]
      have : ((parts (t.getD x default)).any fun p => decide (p.toNat = j)) = false := by
        rw [List.any_eq_false]
        intro p h
        have := hp p h
        simp; omega
      rw [this, Bool.or_false]
    · rw [getD_ge h1, getD_ge (by rw [mark_len]; exact h1)]
  · rfl
theorem stepR_mono {t : List Nd} {ps : Nat → Bool} {x j : Nat} {b : List Bool} (h : b.getD j false = true) : (stepR t ps x b).getD j false = true := by
  unfold stepR
  split
  · rw [mark_get _ _ _ (getD_lt h), h, Bool.true_or]
  · exact h
theorem runR_ok {t : List Nd} (ps : Nat → Bool) (hp : PartsOk t) : ∀ (x : Nat) (b : List Bool), x ≤ t.length → b.length = t.length → RunOk t ps x b (runR t ps x b)
  | 0, b, _, _ => ⟨fun _ _ => rfl, fun _ h => h, fun i hi => absurd hi (by omega), fun _ h => .inl h⟩
  | x + 1, b, hx, hb => by
    have hpx := hp x (by omega)
    obtain ⟨k1, m1, c1, s1⟩ := runR_ok ps hp x (stepR t ps x b) (by omega) (by rw [stepR_len, hb])
    have hself : (runR t ps (x + 1) b).getD x false = b.getD x false := by
      show (runR t ps x (stepR t ps x b)).getD x false = _
      rw [k1 x (by omega), stepR_keep hpx (Nat.le_refl _)]
    refine ⟨fun j hj => ?_, fun j hj => m1 j (stepR_mono hj), fun i hi h1 h2 p h3 => ?_, fun j hj => ?_⟩
    · show (runR t ps x (stepR t ps x b)).getD j false = _
      rw [k1 j (by omega), stepR_keep hpx (by omega)]
    · by_cases hix : i = x
      · subst hix
        rw [hself] at h1
        refine m1 _ ?_
        unfold stepR
        rw [h1, h2]
        simp only [Bool.and_self, if_true]
        have := hpx p h3
        rw [mark_get _ _ _ (by omega)]
        have h5 : ((parts (t.getD i default)).any fun q => decide (q.toNat = p.toNat)) = true := List.any_eq_true.2 ⟨p, h3, by simp⟩
        rw [h5, Bool.or_true]
      · exact c1 i (by omega) h1 h2 p h3
    · rcases s1 j hj with h1 | ⟨i, h1, h2⟩
      · by_cases hc : (b.getD x false && ps x) = true
        · have hc' := hc
          rw [Bool.and_eq_true] at hc'
          unfold stepR at h1
          rw [if_pos hc] at h1
          have hlt := getD_lt h1
          rw [mark_len] at hlt
          rw [mark_get _ _ _ hlt, Bool.or_eq_true] at h1
          rcases h1 with h1 | h1
          · exact .inl h1
          · obtain ⟨p, h3, h4⟩ := List.any_eq_true.1 h1
            have h4 := of_decide_eq_true h4
            have := hpx p h3
            exact .inr ⟨x, by omega, by omega, by rw [hself]; exact hc'.1, hc'.2, p, h3, h4⟩
        · unfold stepR at h1
          rw [if_neg hc] at h1
          exact .inl h1
      · exact .inr ⟨i, by omega, h2⟩
def reachP (t : List Nd) (ps : Nat → Bool) : List Bool := runR t ps t.length (rootR t.length)
theorem reachP_len (t : List Nd) (ps : Nat → Bool) : (reachP t ps).length = t.length := by simp [reachP, runR_len, rootR]
theorem rootR_get {n j : Nat} : (rootR n).getD j false = decide (j + 1 = n) := by
  unfold rootR
  rcases Nat.lt_or_ge j n with h | h
  · simp [List.getD_eq_getElem?_getD, h]
  · rw [List.getD_eq_getElem?_getD, List.getElem?_eq_none (by simpa using h)]
    simp; omega
structure ReachOk (t : List Nd) (ps : Nat → Bool) (R : List Bool) : Prop where
  len : R.length = t.length
  root : 0 < t.length → R.getD (t.length - 1) false = true
  clo : ∀ i, R.getD i false = true → ps i = true → ∀ p ∈ parts (t.getD i default), R.getD p.toNat false = true
  src : ∀ j, R.getD j false = true → j + 1 = t.length ∨ ∃ i, i < t.length ∧ j < i ∧ R.getD i false = true ∧ ps i = true ∧ ∃ p ∈ parts (t.getD i default), p.toNat = j
theorem reachP_ok {t : List Nd} (ps : Nat → Bool) (hp : PartsOk t) : ReachOk t ps (reachP t ps) := by
  obtain ⟨k1, m1, c1, s1⟩ := runR_ok ps hp t.length (rootR t.length) (Nat.le_refl _) (by simp [rootR])
  refine ⟨reachP_len _ _, fun h => ?_, fun i hi => c1 i (by have := getD_lt hi; rwa [reachP_len] at this) hi, fun j hj => ?_⟩
  · show (runR t ps t.length (rootR t.length)).getD _ false = _
    rw [k1 _ (by omega), rootR_get]; simp; omega
  · rcases s1 j hj with h | h
    · rw [rootR_get] at h; exact .inl (of_decide_eq_true h)
    · exact .inr h

/-! ### Free variables -/
def frOne (t : List Nd) (v : Int) (l : List Bool) (i : Nat) : Bool := !(isQ (t.getD i default).op && decide ((t.getD i default).k = v)) && (decide ((t.getD i default).op = 1) && decide ((t.getD i default).k = v) || (parts (t.getD i default)).any fun p => l.getD p.toNat false)
def frB (t : List Nd) (v : Int) : Nat → List Bool
  | 0 => []
  | i + 1 => frB t v i ++ [frOne t v (frB t v i) i]
theorem frB_len (t : List Nd) (v : Int) : ∀ i, (frB t v i).length = i
  | 0 => rfl
  | i + 1 => by simp [frB, frB_len t v i]
def fr (t : List Nd) (v : Int) (j : Nat) : Bool := frOne t v (frB t v j) j
theorem frB_get (t : List Nd) (v : Int) : ∀ {i j : Nat}, j < i → (frB t v i).getD j false = fr t v j
  | i + 1, j, h => by
    have hl := frB_len t v i
    simp only [frB]
    by_cases hj : j < i
    · rw [List.getD_eq_getElem?_getD, List.getElem?_append_left (by omega), ← List.getD_eq_getElem?_getD, frB_get t v hj]
    · have : j = i := by omega
      subst this
      rw [List.getD_eq_getElem?_getD, List.getElem?_append_right (by omega)]
      simp [hl, fr]
theorem any_congr' {l : List Int} {f g : Int → Bool} (h : ∀ p ∈ l, f p = g p) : l.any f = l.any g := by
  induction l with
  | nil => rfl
  | cons a l ih => rw [List.any_cons, List.any_cons, h a List.mem_cons_self, ih fun p hp => h p (List.mem_cons_of_mem _ hp)]
theorem fr_eq {t : List Nd} {v : Int} {j : Nat} (hp : PartsOk t) (hj : j < t.length) : fr t v j = (!(isQ (t.getD j default).op && decide ((t.getD j default).k = v)) && (decide ((t.getD j default).op = 1) && decide ((t.getD j default).k = v) || (parts (t.getD j default)).any fun p => fr t v p.toNat)) := by
  unfold fr frOne
  congr 2
  refine any_congr' fun p h => ?_
  have := hp j hj p h
  exact frB_get t v (by omega)
def passV (t : List Nd) (v : Int) (i : Nat) : Bool := !(isQ (t.getD i default).op) || !decide ((t.getD i default).k = v)
def freeR (t : List Nd) (v : Int) : List Bool := reachP t (passV t v)
theorem free_iff {t : List Nd} {v : Int} (hp : PartsOk t) (h0 : 0 < t.length) : fr t v (t.length - 1) = true ↔ ∃ j, j < t.length ∧ (freeR t v).getD j false = true ∧ (t.getD j default).op = 1 ∧ (t.getD j default).k = v := by
  obtain ⟨hl, hr, hc, hs⟩ := reachP_ok (passV t v) hp
  constructor
  · have go : ∀ m j, j ≤ m → j < t.length → (freeR t v).getD j false = true → fr t v j = true → ∃ j, j < t.length ∧ (freeR t v).getD j false = true ∧ (t.getD j default).op = 1 ∧ (t.getD j default).k = v := by
      intro m
      induction m with
      | zero =>
        intro j hj hlt h1 h2
        rw [fr_eq hp hlt, Bool.and_eq_true, Bool.or_eq_true] at h2
        rcases h2.2 with h3 | h3
        · simp only [Bool.and_eq_true, decide_eq_true_eq] at h3
          exact ⟨j, hlt, h1, h3⟩
        · obtain ⟨p, h4, h5⟩ := List.any_eq_true.1 h3
          have := hp j hlt p h4
          omega
      | succ m ih =>
        intro j hj hlt h1 h2
        rw [fr_eq hp hlt, Bool.and_eq_true, Bool.or_eq_true] at h2
        rcases h2.2 with h3 | h3
        · simp only [Bool.and_eq_true, decide_eq_true_eq] at h3
          exact ⟨j, hlt, h1, h3⟩
        · obtain ⟨p, h4, h5⟩ := List.any_eq_true.1 h3
          have := hp j hlt p h4
          refine ih p.toNat (by omega) (by omega) (hc j h1 ?_ p h4) h5
          have h6 := h2.1
          unfold passV
          rw [← Bool.not_and]; exact h6
    exact fun h => go _ _ (Nat.le_refl _) (by omega) (hr h0) h
  · rintro ⟨j, hj, h1, h2, h3⟩
    have go : ∀ m j, t.length ≤ j + m → j < t.length → (freeR t v).getD j false = true → fr t v j = true → fr t v (t.length - 1) = true := by
      intro m
      induction m with
      | zero => intro j h4 h5; omega
      | succ m ih =>
        intro j h4 h5 h6 h7
        rcases hs j h6 with h8 | ⟨i, h8, h9, h10, h11, p, h12, h13⟩
        · rw [show t.length - 1 = j by omega]; exact h7
        · refine ih i (by omega) h8 h10 ?_
          rw [fr_eq hp h8, Bool.and_eq_true, Bool.or_eq_true]
          refine ⟨by unfold passV at h11; rw [Bool.not_and]; exact h11, .inr (List.any_eq_true.2 ⟨p, h12, by rw [h13]; exact h7⟩)⟩
    refine go t.length j (by omega) hj h1 ?_
    rw [fr_eq hp hj, h2, h3]
    simp [isQ]
end Go.Proofs.YtkdkbnacelnljaaGreat.RE
