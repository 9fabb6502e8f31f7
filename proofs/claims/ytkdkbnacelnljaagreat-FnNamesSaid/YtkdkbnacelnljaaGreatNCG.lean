/- CountOp, the reference; what a node uses. Conditions: those that a theorem names. -/
import Derived.Test.YtkdkbnacelnljaaGreatNCF
set_option linter.unusedVariables false
set_option linter.unusedSimpArgs false
namespace Go.Proofs.YtkdkbnacelnljaaGreat.RE
open Go Go.RowKit
set_option maxRecDepth 100000
set_option maxHeartbeats 8000000

def uses (n : Nd) : Bool :=
  if (decide (n.op = 0) || decide (n.op = 1)) = true then decide (n.a = 0) && (decide (n.b = 0) && decide (n.c = 0))
  else if n.op = 17 then decide (n.b = 0) && decide (n.c = 0)
  else if isQ n.op = true then decide (n.c = 0)
  else if (parts n).length = 0 then decide (n.k = 0) && (decide (n.a = 0) && (decide (n.b = 0) && decide (n.c = 0)))
  else if (parts n).length = 1 then decide (n.k = 0) && (decide (n.b = 0) && decide (n.c = 0))
  else if (parts n).length = 2 then decide (n.k = 0) && decide (n.c = 0)
  else decide (n.k = 0)
theorem usesOnly_c (n : Nd) : Val E.P 99 [.agg (nl n)] (T (uses n)) := by
  refine CallsA.body (E := E) (fn := Tryz.f99) Tryz.func99 rfl fun B hB => ?_
  simp only [Tryz.ntmps99, go_sem, nl, Nat.mul_one, Nat.one_mul, Nat.reducePow, Nat.reduceAdd, Nat.reduceMul, Nat.reduceSub, Nat.reduceLeDiff, Nat.reduceEqDiff, Nat.reduceLT, reduceIte, Int.reduceToNat, Int.reduceLE, Int.reduceLT, reduceCtorEq, List.contains_cons, List.contains_nil, Nat.reduceBEq, Bool.or_false, Bool.false_or, Bool.or_true, Bool.true_or, forall_eq, forall_eq_or_imp, List.mem_cons, List.not_mem_nil, or_false, false_or, List.reduceReplicate]
  refine Wp.seqK fun K1 hK1 => ?_
  refine Wp.regionS ?_
  refine evc ?_
  repeat (refine And.intro (by first | omega | (refine ⟨?_, ?_⟩ <;> omega)) ?_)
  refine hK1 _ ?_
  clear hK1 K1
  refine Wp.seqK fun K2 hK2 => ?_
  refine Wp.regionS ?_
  refine evc ?_
  repeat (refine And.intro (by first | omega | (refine ⟨?_, ?_⟩ <;> omega)) ?_)
  refine hK2 _ ?_
  clear hK2 K2
  refine Wp.seqK fun K3 hK3 => ?_
  refine Wp.seqK fun K4 hK4 => ?_
  refine Wp.regionS ?_
  refine evc ?_
  repeat (refine And.intro (by first | omega | (refine ⟨?_, ?_⟩ <;> omega)) ?_)
  refine ⟨rfl, CallK.row [] LendOk.nil (iParts_c _) (flatI _) ?_⟩
  refine evc ?_
  repeat (refine And.intro (by first | omega | (refine ⟨?_, ?_⟩ <;> omega)) ?_)
  refine hK4 _ ?_
  clear hK4 K4
  refine Wp.block ?_
  refine Wp.seqM (fun s => ∃ f : Nat → AV, s = ⟨[f 0, .l (.ptr 0 0 0), T false, .l (.ptr 1 0 0), I (parts n).length, f 5, f 6, f 7, f 8, f 9, f 10, f 11, f 12, T (decide (n.op = 0) || decide (n.op = 1)), f 14, f 15, f 16, f 17, f 18, f 19, f 20, f 21, f 22, f 23, f 24, f 25, f 26, f 27, f 28, f 29, f 30, f 31, f 32, f 33, f 34, f 35, f 36, f 37, f 38, f 39, f 40, f 41, f 42, f 43, f 44, f 45, f 46, f 47, f 48, f 49, f 50, f 51, f 52, f 53, f 54, f 55, f 56, f 57, f 58, f 59, f 60, f 61, f 62, f 63, f 64, f 65], [some ⟨0, nl n⟩, some ⟨0, [ci n.op, ci n.w, ci 0, ci 0, ci 0, ci 0]⟩, some ⟨0, (parts n).map ci⟩]⟩) ?_ ?_
  · refine Wp.regionS ?_
    refine evc ?_
    repeat (refine And.intro (by first | omega | (refine ⟨?_, ?_⟩ <;> omega)) ?_)
    refine grdA_split rfl (fun g1 => ?_) (fun g1 => ?_)
    · simp only [go_sem, nl, Nat.mul_one, Nat.one_mul, Nat.reducePow, Nat.reduceAdd, Nat.reduceMul, Nat.reduceSub, Nat.reduceLeDiff, Nat.reduceEqDiff, Nat.reduceLT, reduceIte, Int.reduceToNat, Int.reduceLE, Int.reduceLT, reduceCtorEq, List.contains_cons, List.contains_nil, Nat.reduceBEq, Bool.or_false, Bool.false_or, Bool.or_true, Bool.true_or, forall_eq, forall_eq_or_imp, List.mem_cons, List.not_mem_nil, or_false, false_or]
      repeat (refine And.intro (by first | omega | (refine ⟨?_, ?_⟩ <;> omega)) ?_)
      simp only [g1, Bool.true_or, Bool.or_true, Bool.false_or, Bool.or_false, Bool.true_and, Bool.and_true, Bool.false_and, Bool.and_false, Bool.not_true, Bool.not_false]
      exact anyT rfl rfl
    · simp only [go_sem, nl, Nat.mul_one, Nat.one_mul, Nat.reducePow, Nat.reduceAdd, Nat.reduceMul, Nat.reduceSub, Nat.reduceLeDiff, Nat.reduceEqDiff, Nat.reduceLT, reduceIte, Int.reduceToNat, Int.reduceLE, Int.reduceLT, reduceCtorEq, List.contains_cons, List.contains_nil, Nat.reduceBEq, Bool.or_false, Bool.false_or, Bool.or_true, Bool.true_or, forall_eq, forall_eq_or_imp, List.mem_cons, List.not_mem_nil, or_false, false_or]
      repeat (refine And.intro (by first | omega | (refine ⟨?_, ?_⟩ <;> omega)) ?_)
      simp only [g1, Bool.true_or, Bool.or_true, Bool.false_or, Bool.or_false, Bool.true_and, Bool.and_true, Bool.false_and, Bool.and_false, Bool.not_true, Bool.not_false]
      exact anyT rfl rfl
  rintro _ ⟨f, rfl⟩
  refine Wp.cond rfl (fun h13 => ?_) (fun h13 => ?_)
  · skip
    refine Wp.regionS ?_
    refine evc ?_
    repeat (refine And.intro (by first | omega | (refine ⟨?_, ?_⟩ <;> omega)) ?_)
    try simp only [thn, inB, if_true, reduceIte]
    refine hK3 _ ?_
    clear hK3 K3
    refine Wp.seqK fun K5 hK5 => ?_
    refine Wp.regionS ?_
    refine evc ?_
    repeat (refine And.intro (by first | omega | (refine ⟨?_, ?_⟩ <;> omega)) ?_)
    refine ⟨rfl, ?_⟩
    refine hK5 _ ?_
    clear hK5 K5
    refine Wp.ret ?_
    simp only [thn, inB, retQ]
    refine ⟨_, [], rfl, Nat.zero_le _, by decide, by simp, ?_⟩
    simp only [go_sem, nl, Nat.mul_one, Nat.one_mul, Nat.reducePow, Nat.reduceAdd, Nat.reduceMul, Nat.reduceSub, Nat.reduceLeDiff, Nat.reduceEqDiff, Nat.reduceLT, reduceIte, Int.reduceToNat, Int.reduceLE, Int.reduceLT, reduceCtorEq, List.contains_cons, List.contains_nil, Nat.reduceBEq, Bool.or_false, Bool.false_or, Bool.or_true, Bool.true_or, forall_eq, forall_eq_or_imp, List.mem_cons, List.not_mem_nil, or_false, false_or]
    all_goals
      have hpl := parts_len n
      unfold uses
      simp_all <;> first | omega | (rw [if_neg (by intro e; simp [e] at h47)]; first | rw [if_pos (by omega)] | rw [if_neg (by omega), if_pos (by omega)] | rw [if_neg (by omega), if_neg (by omega)])
  · skip
    refine Wp.seqK fun K6 hK6 => ?_
    refine Wp.regionS ?_
    refine evc ?_
    repeat (refine And.intro (by first | omega | (refine ⟨?_, ?_⟩ <;> omega)) ?_)
    refine hK6 _ ?_
    clear hK6 K6
    refine Wp.cond rfl (fun h25 => ?_) (fun h25 => ?_)
    · skip
      refine Wp.drawI [0] [5, 7] (by kernel_rfl) ?_
      refine evc ?_
      repeat (refine And.intro (by first | omega | (refine ⟨?_, ?_⟩ <;> omega)) ?_)
      try simp only [thn, inB, if_true, reduceIte]
      refine hK3 _ ?_
      clear hK3 K3
      refine Wp.seqK fun K7 hK7 => ?_
      refine Wp.regionS ?_
      refine evc ?_
      repeat (refine And.intro (by first | omega | (refine ⟨?_, ?_⟩ <;> omega)) ?_)
      refine ⟨rfl, ?_⟩
      refine hK7 _ ?_
      clear hK7 K7
      refine Wp.ret ?_
      simp only [thn, inB, retQ]
      refine ⟨_, [], rfl, Nat.zero_le _, by decide, by simp, ?_⟩
      simp only [go_sem, nl, Nat.mul_one, Nat.one_mul, Nat.reducePow, Nat.reduceAdd, Nat.reduceMul, Nat.reduceSub, Nat.reduceLeDiff, Nat.reduceEqDiff, Nat.reduceLT, reduceIte, Int.reduceToNat, Int.reduceLE, Int.reduceLT, reduceCtorEq, List.contains_cons, List.contains_nil, Nat.reduceBEq, Bool.or_false, Bool.false_or, Bool.or_true, Bool.true_or, forall_eq, forall_eq_or_imp, List.mem_cons, List.not_mem_nil, or_false, false_or]
      all_goals
        have hpl := parts_len n
        unfold uses
        simp_all <;> first | omega | (rw [if_neg (by intro e; simp [e] at h47)]; first | rw [if_pos (by omega)] | rw [if_neg (by omega), if_pos (by omega)] | rw [if_neg (by omega), if_neg (by omega)])
    · skip
      refine Wp.seqK fun K8 hK8 => ?_
      refine Wp.regionS ?_
      refine evc ?_
      repeat (refine And.intro (by first | omega | (refine ⟨?_, ?_⟩ <;> omega)) ?_)
      refine ⟨rfl, CallK.val [] LendOk.nil (isQuant_c _) rfl ?_⟩
      refine evc ?_
      repeat (refine And.intro (by first | omega | (refine ⟨?_, ?_⟩ <;> omega)) ?_)
      refine hK8 _ ?_
      clear hK8 K8
      refine Wp.cond rfl (fun h35 => ?_) (fun h35 => ?_)
      · skip
        refine Wp.drawI [0] [7, 9, 11] (by kernel_rfl) ?_
        refine evc ?_
        repeat (refine And.intro (by first | omega | (refine ⟨?_, ?_⟩ <;> omega)) ?_)
        try simp only [thn, inB, if_true, reduceIte]
        refine hK3 _ ?_
        clear hK3 K3
        refine Wp.seqK fun K9 hK9 => ?_
        refine Wp.regionS ?_
        refine evc ?_
        repeat (refine And.intro (by first | omega | (refine ⟨?_, ?_⟩ <;> omega)) ?_)
        refine ⟨rfl, ?_⟩
        refine hK9 _ ?_
        clear hK9 K9
        refine Wp.ret ?_
        simp only [thn, inB, retQ]
        refine ⟨_, [], rfl, Nat.zero_le _, by decide, by simp, ?_⟩
        simp only [go_sem, nl, Nat.mul_one, Nat.one_mul, Nat.reducePow, Nat.reduceAdd, Nat.reduceMul, Nat.reduceSub, Nat.reduceLeDiff, Nat.reduceEqDiff, Nat.reduceLT, reduceIte, Int.reduceToNat, Int.reduceLE, Int.reduceLT, reduceCtorEq, List.contains_cons, List.contains_nil, Nat.reduceBEq, Bool.or_false, Bool.false_or, Bool.or_true, Bool.true_or, forall_eq, forall_eq_or_imp, List.mem_cons, List.not_mem_nil, or_false, false_or]
        all_goals
          have hpl := parts_len n
          unfold uses
          simp_all <;> first | omega | (rw [if_neg (by intro e; simp [e] at h47)]; first | rw [if_pos (by omega)] | rw [if_neg (by omega), if_pos (by omega)] | rw [if_neg (by omega), if_neg (by omega)])
      · skip
        refine Wp.seqK fun K10 hK10 => ?_
        refine Wp.regionS ?_
        refine evc ?_
        repeat (refine And.intro (by first | omega | (refine ⟨?_, ?_⟩ <;> omega)) ?_)
        refine hK10 _ ?_
        clear hK10 K10
        refine Wp.cond rfl (fun h47 => ?_) (fun h47 => ?_)
        · skip
          refine Wp.seqK fun K11 hK11 => ?_
          refine Wp.regionS ?_
          refine evc ?_
          repeat (refine And.intro (by first | omega | (refine ⟨?_, ?_⟩ <;> omega)) ?_)
          refine hK11 _ ?_
          clear hK11 K11
          refine Wp.seqK fun K12 hK12 => ?_
          refine Wp.seqK fun K13 hK13 => ?_
          refine Wp.regionS ?_
          refine evc ?_
          repeat (refine And.intro (by first | omega | (refine ⟨?_, ?_⟩ <;> omega)) ?_)
          refine hK13 _ ?_
          clear hK13 K13
          refine Wp.cond rfl (fun h54 => ?_) (fun h54 => ?_)
          · skip
            refine Wp.regionS ?_
            refine evc ?_
            repeat (refine And.intro (by first | omega | (refine ⟨?_, ?_⟩ <;> omega)) ?_)
            refine hK12 _ ?_
            clear hK12 K12
            refine Wp.seqK fun K14 hK14 => ?_
            refine Wp.regionS ?_
            refine evc ?_
            repeat (refine And.intro (by first | omega | (refine ⟨?_, ?_⟩ <;> omega)) ?_)
            refine hK14 _ ?_
            clear hK14 K14
            refine Wp.cond rfl (fun h59 => ?_) (fun h59 => ?_)
            · skip
              refine Wp.regionS ?_
              refine evc ?_
              repeat (refine And.intro (by first | omega | (refine ⟨?_, ?_⟩ <;> omega)) ?_)
              try simp only [thn, inB, if_true, reduceIte]
              refine hK3 _ ?_
              clear hK3 K3
              refine Wp.seqK fun K15 hK15 => ?_
              refine Wp.regionS ?_
              refine evc ?_
              repeat (refine And.intro (by first | omega | (refine ⟨?_, ?_⟩ <;> omega)) ?_)
              refine ⟨rfl, ?_⟩
              refine hK15 _ ?_
              clear hK15 K15
              refine Wp.ret ?_
              simp only [thn, inB, retQ]
              refine ⟨_, [], rfl, Nat.zero_le _, by decide, by simp, ?_⟩
              simp only [go_sem, nl, Nat.mul_one, Nat.one_mul, Nat.reducePow, Nat.reduceAdd, Nat.reduceMul, Nat.reduceSub, Nat.reduceLeDiff, Nat.reduceEqDiff, Nat.reduceLT, reduceIte, Int.reduceToNat, Int.reduceLE, Int.reduceLT, reduceCtorEq, List.contains_cons, List.contains_nil, Nat.reduceBEq, Bool.or_false, Bool.false_or, Bool.or_true, Bool.true_or, forall_eq, forall_eq_or_imp, List.mem_cons, List.not_mem_nil, or_false, false_or]
              all_goals
                have hpl := parts_len n
                unfold uses
                simp_all <;> first | omega | (rw [if_neg (by intro e; simp [e] at h47)]; first | rw [if_pos (by omega)] | rw [if_neg (by omega), if_pos (by omega)] | rw [if_neg (by omega), if_neg (by omega)])
            · skip
              refine Wp.skip ?_
              try simp only [thn, inB, if_true, reduceIte]
              refine hK3 _ ?_
              clear hK3 K3
              refine Wp.seqK fun K16 hK16 => ?_
              refine Wp.regionS ?_
              refine evc ?_
              repeat (refine And.intro (by first | omega | (refine ⟨?_, ?_⟩ <;> omega)) ?_)
              refine ⟨rfl, ?_⟩
              refine hK16 _ ?_
              clear hK16 K16
              refine Wp.ret ?_
              simp only [thn, inB, retQ]
              refine ⟨_, [], rfl, Nat.zero_le _, by decide, by simp, ?_⟩
              simp only [go_sem, nl, Nat.mul_one, Nat.one_mul, Nat.reducePow, Nat.reduceAdd, Nat.reduceMul, Nat.reduceSub, Nat.reduceLeDiff, Nat.reduceEqDiff, Nat.reduceLT, reduceIte, Int.reduceToNat, Int.reduceLE, Int.reduceLT, reduceCtorEq, List.contains_cons, List.contains_nil, Nat.reduceBEq, Bool.or_false, Bool.false_or, Bool.or_true, Bool.true_or, forall_eq, forall_eq_or_imp, List.mem_cons, List.not_mem_nil, or_false, false_or]
              all_goals
                have hpl := parts_len n
                unfold uses
                simp_all <;> first | omega | (rw [if_neg (by intro e; simp [e] at h47)]; first | rw [if_pos (by omega)] | rw [if_neg (by omega), if_pos (by omega)] | rw [if_neg (by omega), if_neg (by omega)])
          · skip
            refine Wp.skip ?_
            refine hK12 _ ?_
            clear hK12 K12
            refine Wp.seqK fun K17 hK17 => ?_
            refine Wp.regionS ?_
            refine evc ?_
            repeat (refine And.intro (by first | omega | (refine ⟨?_, ?_⟩ <;> omega)) ?_)
            refine hK17 _ ?_
            clear hK17 K17
            refine Wp.cond rfl (fun h59 => ?_) (fun h59 => ?_)
            · skip
              refine Wp.regionS ?_
              refine evc ?_
              repeat (refine And.intro (by first | omega | (refine ⟨?_, ?_⟩ <;> omega)) ?_)
              try simp only [thn, inB, if_true, reduceIte]
              refine hK3 _ ?_
              clear hK3 K3
              refine Wp.seqK fun K18 hK18 => ?_
              refine Wp.regionS ?_
              refine evc ?_
              repeat (refine And.intro (by first | omega | (refine ⟨?_, ?_⟩ <;> omega)) ?_)
              refine ⟨rfl, ?_⟩
              refine hK18 _ ?_
              clear hK18 K18
              refine Wp.ret ?_
              simp only [thn, inB, retQ]
              refine ⟨_, [], rfl, Nat.zero_le _, by decide, by simp, ?_⟩
              simp only [go_sem, nl, Nat.mul_one, Nat.one_mul, Nat.reducePow, Nat.reduceAdd, Nat.reduceMul, Nat.reduceSub, Nat.reduceLeDiff, Nat.reduceEqDiff, Nat.reduceLT, reduceIte, Int.reduceToNat, Int.reduceLE, Int.reduceLT, reduceCtorEq, List.contains_cons, List.contains_nil, Nat.reduceBEq, Bool.or_false, Bool.false_or, Bool.or_true, Bool.true_or, forall_eq, forall_eq_or_imp, List.mem_cons, List.not_mem_nil, or_false, false_or]
              all_goals
                have hpl := parts_len n
                unfold uses
                simp_all <;> first | omega | (rw [if_neg (by intro e; simp [e] at h47)]; first | rw [if_pos (by omega)] | rw [if_neg (by omega), if_pos (by omega)] | rw [if_neg (by omega), if_neg (by omega)])
            · skip
              refine Wp.skip ?_
              try simp only [thn, inB, if_true, reduceIte]
              refine hK3 _ ?_
              clear hK3 K3
              refine Wp.seqK fun K19 hK19 => ?_
              refine Wp.regionS ?_
              refine evc ?_
              repeat (refine And.intro (by first | omega | (refine ⟨?_, ?_⟩ <;> omega)) ?_)
              refine ⟨rfl, ?_⟩
              refine hK19 _ ?_
              clear hK19 K19
              refine Wp.ret ?_
              simp only [thn, inB, retQ]
              refine ⟨_, [], rfl, Nat.zero_le _, by decide, by simp, ?_⟩
              simp only [go_sem, nl, Nat.mul_one, Nat.one_mul, Nat.reducePow, Nat.reduceAdd, Nat.reduceMul, Nat.reduceSub, Nat.reduceLeDiff, Nat.reduceEqDiff, Nat.reduceLT, reduceIte, Int.reduceToNat, Int.reduceLE, Int.reduceLT, reduceCtorEq, List.contains_cons, List.contains_nil, Nat.reduceBEq, Bool.or_false, Bool.false_or, Bool.or_true, Bool.true_or, forall_eq, forall_eq_or_imp, List.mem_cons, List.not_mem_nil, or_false, false_or]
              all_goals
                have hpl := parts_len n
                unfold uses
                simp_all <;> first | omega | (rw [if_neg (by intro e; simp [e] at h47)]; first | rw [if_pos (by omega)] | rw [if_neg (by omega), if_pos (by omega)] | rw [if_neg (by omega), if_neg (by omega)])
        · skip
          refine Wp.skip ?_
          try simp only [thn, inB, if_true, reduceIte]
          refine hK3 _ ?_
          clear hK3 K3
          refine Wp.seqK fun K20 hK20 => ?_
          refine Wp.regionS ?_
          refine evc ?_
          repeat (refine And.intro (by first | omega | (refine ⟨?_, ?_⟩ <;> omega)) ?_)
          refine ⟨rfl, ?_⟩
          refine hK20 _ ?_
          clear hK20 K20
          refine Wp.ret ?_
          simp only [thn, inB, retQ]
          refine ⟨_, [], rfl, Nat.zero_le _, by decide, by simp, ?_⟩
          simp only [go_sem, nl, Nat.mul_one, Nat.one_mul, Nat.reducePow, Nat.reduceAdd, Nat.reduceMul, Nat.reduceSub, Nat.reduceLeDiff, Nat.reduceEqDiff, Nat.reduceLT, reduceIte, Int.reduceToNat, Int.reduceLE, Int.reduceLT, reduceCtorEq, List.contains_cons, List.contains_nil, Nat.reduceBEq, Bool.or_false, Bool.false_or, Bool.or_true, Bool.true_or, forall_eq, forall_eq_or_imp, List.mem_cons, List.not_mem_nil, or_false, false_or]
          all_goals
            have hpl := parts_len n
            unfold uses
            simp_all <;> first | omega | (rw [if_neg (by intro e; simp [e] at h47)]; first | rw [if_pos (by omega)] | rw [if_neg (by omega), if_pos (by omega)] | rw [if_neg (by omega), if_neg (by omega)])
end Go.Proofs.YtkdkbnacelnljaaGreat.RE
