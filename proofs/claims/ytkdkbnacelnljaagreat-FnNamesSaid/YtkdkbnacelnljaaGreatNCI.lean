/- Right terms, the program. Conditions: those that a theorem names. -/
import Derived.Test.YtkdkbnacelnljaaGreatNCH
set_option linter.unusedVariables false
set_option linter.unusedSimpArgs false
namespace Go.Proofs.YtkdkbnacelnljaaGreat.RE
open Go Go.RowKit
set_option maxRecDepth 100000
set_option maxHeartbeats 8000000

theorem dN_take {t : List Nd} {x : Nat} (h : x ≤ t.length) : AV.l (.dsl true x (List.take (x * 6) (encN t))) = dN (t.take x) := by
  show _ = AV.l (.dsl true (t.take x).length (encN (t.take x)))
  rw [encN_take, List.length_take, Nat.min_eq_left h]
theorem rightP_eq {t : List Nd} {x : Nat} (h : x < t.length) : rightP (t.take x) (t.getD x default) = sRight t x := by
  unfold rightP sRight
  simp only [List.length_take, Nat.min_eq_left (Nat.le_of_lt h)]
  cases hh : (parts (t.getD x default)).all fun p => decide (0 ≤ p ∧ p < (x : Int)) with
  | false => rfl
  | true =>
    rw [Bool.true_and, Bool.true_and]
    congr 2
    apply List.map_congr_left
    intro p hp
    have := of_decide_eq_true (List.all_eq_true.1 hh p hp)
    unfold wAt
    rw [List.getD_eq_getElem?_getD, List.getD_eq_getElem?_getD, List.getElem?_take_of_lt (by omega)]
theorem iTermOk_c (t : List Nd) : Val E.P 32 [dN t] (T (okT t)) := by
  refine CallsA.body (E := E) (fn := Tryz.f32) Tryz.func32 rfl fun B hB => ?_
  simp only [Tryz.ntmps32, go_sem, nl, Nat.mul_one, Nat.one_mul, Nat.reducePow, Nat.reduceAdd, Nat.reduceMul, Nat.reduceSub, Nat.reduceLeDiff, Nat.reduceEqDiff, Nat.reduceLT, reduceIte, Int.reduceToNat, Int.reduceLE, Int.reduceLT, reduceCtorEq, List.contains_cons, List.contains_nil, Nat.reduceBEq, Bool.or_false, Bool.false_or, Bool.or_true, Bool.true_or, forall_eq, forall_eq_or_imp, List.mem_cons, List.not_mem_nil, or_false, false_or, List.reduceReplicate]
  refine Wp.seqK fun K1 hK1 => ?_
  refine Wp.regionS ?_
  refine evc ?_
  repeat (refine And.intro (by first | omega | (refine ⟨?_, ?_⟩ <;> omega)) ?_)
  refine hK1 _ ?_
  clear hK1 K1
  refine Wp.seqK fun K2 hK2 => ?_
  refine Wp.seqK fun K3 hK3 => ?_
  refine Wp.regionS ?_
  refine evc ?_
  repeat (refine And.intro (by first | omega | (refine ⟨?_, ?_⟩ <;> omega)) ?_)
  refine ⟨rfl, CallK.val [] LendOk.nil (within_c _ _ _) rfl ?_⟩
  refine evc ?_
  repeat (refine And.intro (by first | omega | (refine ⟨?_, ?_⟩ <;> omega)) ?_)
  refine hK3 _ ?_
  clear hK3 K3
  refine Wp.cond rfl (fun h8 => ?_) (fun h8 => ?_)
  · skip
    refine Wp.seqK fun K4 hK4 => ?_
    refine Wp.regionS ?_
    refine evc ?_
    repeat (refine And.intro (by first | omega | (refine ⟨?_, ?_⟩ <;> omega)) ?_)
    refine hK4 _ ?_
    clear hK4 K4
    refine Wp.ret ?_
    simp only [thn, inB, retQ]
    clear hK2 K2
    refine ⟨_, [], rfl, Nat.zero_le _, by decide, by simp, ?_⟩
    simp only [go_sem, nl, Nat.mul_one, Nat.one_mul, Nat.reducePow, Nat.reduceAdd, Nat.reduceMul, Nat.reduceSub, Nat.reduceLeDiff, Nat.reduceEqDiff, Nat.reduceLT, reduceIte, Int.reduceToNat, Int.reduceLE, Int.reduceLT, reduceCtorEq, List.contains_cons, List.contains_nil, Nat.reduceBEq, Bool.or_false, Bool.false_or, Bool.or_true, Bool.true_or, forall_eq, forall_eq_or_imp, List.mem_cons, List.not_mem_nil, or_false, false_or]
    all_goals
      simp only [okT, nT h8, Bool.false_and]
  · have hl := nF h8
    have hl2 : 1 ≤ t.length ∧ t.length ≤ 80 := by simp at hl; omega
    refine Wp.skip ?_
    refine hK2 _ ?_
    clear hK2 K2
    refine Wp.seqK fun K5 hK5 => ?_
    refine Wp.seqK fun K6 hK6 => ?_
    refine Wp.regionS ?_
    refine evc ?_
    repeat (refine And.intro (by first | omega | (refine ⟨?_, ?_⟩ <;> omega)) ?_)
    refine hK6 _ ?_
    clear hK6 K6
    refine Wp.block ?_
    skip
    refine Wp.loop (α := Nat) (fun x s => x ≤ t.length ∧ (List.range x).all (sRight t) = true ∧ ∃ f : Nat → AV, s = ⟨[dN t, f 1, T false, f 3, f 4, f 5, f 6, f 7, f 8, dN t, I t.length, I x, f 12, f 13, f 14, f 15, f 16, f 17, f 18, f 19, f 20, f 21, f 22], []⟩) (fun x => t.length - x) 0 ⟨Nat.zero_le _, rfl, anyT rfl rfl⟩ ?_
    rintro x _ ⟨hx, ha, f, rfl⟩
    refine Wp.seqK fun K7 hK7 => ?_
    refine Wp.regionS ?_
    refine evc ?_
    repeat (refine And.intro (by first | omega | (refine ⟨?_, ?_⟩ <;> omega)) ?_)
    refine hK7 _ ?_
    clear hK7 K7
    refine Wp.seqK fun K8 hK8 => ?_
    refine Wp.cond rfl (fun h12 => ?_) (fun h12 => ?_)
    · have hxl : x < t.length := by have := of_decide_eq_true h12; omega
      refine Wp.skip ?_
      refine hK8 _ ?_
      clear hK8 K8
      refine Wp.seqK fun K9 hK9 => ?_
      refine Wp.block ?_
      refine Wp.seqK fun K10 hK10 => ?_
      refine Wp.regionS ?_
      simp only [go_sem, atN _ hxl, encN_len, lN_len, List.length_drop, List.length_map, List.length_take, List.length_append, Int.toNat_natCast, nl, Nat.mul_one, Nat.one_mul, Nat.reducePow, Nat.reduceAdd, Nat.reduceMul, Nat.reduceSub, Nat.reduceLeDiff, Nat.reduceEqDiff, Nat.reduceLT, reduceIte, Int.reduceToNat, Int.reduceLE, Int.reduceLT, reduceCtorEq, List.contains_cons, List.contains_nil, Nat.reduceBEq, Bool.or_false, Bool.false_or, Bool.or_true, Bool.true_or, forall_eq, forall_eq_or_imp, List.mem_cons, List.not_mem_nil, or_false, false_or]
      repeat (refine And.intro (by first | omega | (refine ⟨?_, ?_⟩ <;> omega)) ?_)
      refine hK10 _ ?_
      clear hK10 K10
      refine Wp.seqK fun K11 hK11 => ?_
      refine Wp.drawI [0] [4] (by kernel_rfl) ?_
      simp only [go_sem, Int.sub_zero, Int.toNat_zero, Nat.zero_mul, encN_len, lN_len, List.length_drop, List.length_map, List.length_take, List.length_append, Int.toNat_natCast, nl, Nat.mul_one, Nat.one_mul, Nat.reducePow, Nat.reduceAdd, Nat.reduceMul, Nat.reduceSub, Nat.reduceLeDiff, Nat.reduceEqDiff, Nat.reduceLT, reduceIte, Int.reduceToNat, Int.reduceLE, Int.reduceLT, reduceCtorEq, List.contains_cons, List.contains_nil, Nat.reduceBEq, Bool.or_false, Bool.false_or, Bool.or_true, Bool.true_or, forall_eq, forall_eq_or_imp, List.mem_cons, List.not_mem_nil, or_false, false_or]
      repeat (refine And.intro (by first | omega | (refine ⟨?_, ?_⟩ <;> omega)) ?_)
      rw [dN_take (by omega)]
      refine ⟨rfl, CallK.val [] LendOk.nil (isRight_c _ (by rw [List.length_take]; omega) (t.getD x default)) rfl ?_⟩
      refine evc ?_
      repeat (refine And.intro (by first | omega | (refine ⟨?_, ?_⟩ <;> omega)) ?_)
      refine hK11 _ ?_
      clear hK11 K11
      refine Wp.cond rfl (fun h21 => ?_) (fun h21 => ?_)
      · rw [rightP_eq hxl] at h21
        refine Wp.seqK fun K12 hK12 => ?_
        refine Wp.regionS ?_
        refine evc ?_
        repeat (refine And.intro (by first | omega | (refine ⟨?_, ?_⟩ <;> omega)) ?_)
        refine hK12 _ ?_
        clear hK12 K12
        refine Wp.ret ?_
        simp only [thn, inB, retQ]
        clear hK9 K9
        clear hK5 K5
        refine ⟨_, [], rfl, Nat.zero_le _, by decide, by simp, ?_⟩
        simp only [go_sem, nl, Nat.mul_one, Nat.one_mul, Nat.reducePow, Nat.reduceAdd, Nat.reduceMul, Nat.reduceSub, Nat.reduceLeDiff, Nat.reduceEqDiff, Nat.reduceLT, reduceIte, Int.reduceToNat, Int.reduceLE, Int.reduceLT, reduceCtorEq, List.contains_cons, List.contains_nil, Nat.reduceBEq, Bool.or_false, Bool.false_or, Bool.or_true, Bool.true_or, forall_eq, forall_eq_or_imp, List.mem_cons, List.not_mem_nil, or_false, false_or]
        all_goals
          rw [okT_no hxl (nT h21)]
      · rw [rightP_eq hxl] at h21
        refine Wp.skip ?_
        try simp only [thn, inB, if_true, reduceIte]
        refine hK9 _ ?_
        clear hK9 K9
        refine Wp.keep 0 (by simp [hB]) (by simp) ?_
        simp only [go_sem, renI, renB, renN, renn, nl, Nat.mul_one, Nat.one_mul, Nat.reducePow, Nat.reduceAdd, Nat.reduceMul, Nat.reduceSub, Nat.reduceLeDiff, Nat.reduceEqDiff, Nat.reduceLT, reduceIte, Int.reduceToNat, Int.reduceLE, Int.reduceLT, reduceCtorEq, List.contains_cons, List.contains_nil, Nat.reduceBEq, Bool.or_false, Bool.false_or, Bool.or_true, Bool.true_or, forall_eq, forall_eq_or_imp, List.mem_cons, List.not_mem_nil, or_false, false_or]
        refine Wp.regionS ?_
        refine evc ?_
        repeat (refine And.intro (by first | omega | (refine ⟨?_, ?_⟩ <;> omega)) ?_)
        rw [up (by omega)]
        exact ⟨x + 1, ⟨by omega, by rw [List.range_succ, List.all_append, ha, List.all_cons, nF h21]; rfl, anyT rfl rfl⟩, by omega⟩
    · have hxl : x = t.length := by have := of_decide_eq_false h12; omega
      refine Wp.exit ?_
      simp only [thn, inB, if_true, reduceIte]
      clear hK8 K8
      refine hK5 _ ?_
      clear hK5 K5
      refine Wp.seqK fun K13 hK13 => ?_
      refine Wp.regionS ?_
      refine evc ?_
      repeat (refine And.intro (by first | omega | (refine ⟨?_, ?_⟩ <;> omega)) ?_)
      refine hK13 _ ?_
      clear hK13 K13
      refine Wp.ret ?_
      simp only [thn, inB, retQ]
      refine ⟨_, [], rfl, Nat.zero_le _, by decide, by simp, ?_⟩
      simp only [go_sem, nl, Nat.mul_one, Nat.one_mul, Nat.reducePow, Nat.reduceAdd, Nat.reduceMul, Nat.reduceSub, Nat.reduceLeDiff, Nat.reduceEqDiff, Nat.reduceLT, reduceIte, Int.reduceToNat, Int.reduceLE, Int.reduceLT, reduceCtorEq, List.contains_cons, List.contains_nil, Nat.reduceBEq, Bool.or_false, Bool.false_or, Bool.or_true, Bool.true_or, forall_eq, forall_eq_or_imp, List.mem_cons, List.not_mem_nil, or_false, false_or]
      all_goals
        subst hxl
        simp only [okT, hl, ha, Bool.and_self]
theorem zeroB (n : Nat) : (List.replicate n [LV.sc (.bool false)]).flatten = (List.replicate n false).map cb := by
  induction n with
  | zero => rfl
  | succ n ih => simp only [List.replicate_succ, List.flatten_cons, List.map_cons, ih]; rfl
theorem root_set {n : Nat} (h : 1 ≤ n) : (List.replicate n false).set (n - 1) true = rootR n := by
  unfold rootR
  apply List.ext_getElem
  · simp
  · intro i h1 h2
    simp at h1
    simp only [List.getElem_set, List.getElem_replicate, List.getElem_map, List.getElem_range]
    by_cases h3 : n - 1 = i
    · rw [if_pos h3]; simp; omega
    · rw [if_neg h3]; simp; omega
theorem step_no {t : List Nd} {pf : Nat → Bool} {i : Nat} {b : List Bool} (h : (!(b.getD i false) || !(pf i)) = true) : stepR t pf i b = b := by
  unfold stepR
  rw [if_neg]
  revert h
  cases b.getD i false <;> cases pf i <;> simp
theorem step_yes {t : List Nd} {pf : Nat → Bool} {i : Nat} {b : List Bool} (h : (!(b.getD i false) || !(pf i)) = false) : stepR t pf i b = mark b (parts (t.getD i default)) := by
  unfold stepR
  rw [if_pos]
  revert h
  cases b.getD i false <;> cases pf i <;> simp
theorem reach_c (t : List Nd) (hok : okT t = true) (hl : 1 ≤ t.length ∧ t.length ≤ 80) (pf : Nat → Bool) (fn : FuncId) (hgo : E.go fn = true) (hf : ∀ i, i < t.length → Val E.P fn [I i] (T (pf i))) : Row E.P 77 [dN t, I ((t.length : Int) - 1), .l (.clo fn [])] 1 t.length ((runR t pf t.length (rootR t.length)).map cb) := by
  refine CallsA.body (E := E) (fn := Tryz.f77) Tryz.func77 rfl fun B hB => ?_
  simp only [Tryz.ntmps77, go_sem, nl, Nat.mul_one, Nat.one_mul, Nat.reducePow, Nat.reduceAdd, Nat.reduceMul, Nat.reduceSub, Nat.reduceLeDiff, Nat.reduceEqDiff, Nat.reduceLT, reduceIte, Int.reduceToNat, Int.reduceLE, Int.reduceLT, reduceCtorEq, List.contains_cons, List.contains_nil, Nat.reduceBEq, Bool.or_false, Bool.false_or, Bool.or_true, Bool.true_or, forall_eq, forall_eq_or_imp, List.mem_cons, List.not_mem_nil, or_false, false_or, List.reduceReplicate]
  refine Wp.seqK fun K1 hK1 => ?_
  refine Wp.regionS ?_
  refine evc ?_
  repeat (refine And.intro (by first | omega | (refine ⟨?_, ?_⟩ <;> omega)) ?_)
  refine hK1 _ ?_
  clear hK1 K1
  refine Wp.seqK fun K2 hK2 => ?_
  refine Wp.regionS ?_
  simp only [go_sem, zeroB, encN_len, lN_len, List.length_drop, List.length_map, List.length_take, List.length_append, Int.toNat_natCast, nl, Nat.mul_one, Nat.one_mul, Nat.reducePow, Nat.reduceAdd, Nat.reduceMul, Nat.reduceSub, Nat.reduceLeDiff, Nat.reduceEqDiff, Nat.reduceLT, reduceIte, Int.reduceToNat, Int.reduceLE, Int.reduceLT, reduceCtorEq, List.contains_cons, List.contains_nil, Nat.reduceBEq, Bool.or_false, Bool.false_or, Bool.or_true, Bool.true_or, forall_eq, forall_eq_or_imp, List.mem_cons, List.not_mem_nil, or_false, false_or]
  repeat (refine And.intro (by first | omega | (refine ⟨?_, ?_⟩ <;> omega)) ?_)
  refine hK2 _ ?_
  clear hK2 K2
  refine Wp.seqK fun K3 hK3 => ?_
  refine Wp.regionS ?_
  simp only [go_sem, List.length_replicate, encN_len, lN_len, List.length_drop, List.length_map, List.length_take, List.length_append, Int.toNat_natCast, nl, Nat.mul_one, Nat.one_mul, Nat.reducePow, Nat.reduceAdd, Nat.reduceMul, Nat.reduceSub, Nat.reduceLeDiff, Nat.reduceEqDiff, Nat.reduceLT, reduceIte, Int.reduceToNat, Int.reduceLE, Int.reduceLT, reduceCtorEq, List.contains_cons, List.contains_nil, Nat.reduceBEq, Bool.or_false, Bool.false_or, Bool.or_true, Bool.true_or, forall_eq, forall_eq_or_imp, List.mem_cons, List.not_mem_nil, or_false, false_or]
  repeat (refine And.intro (by first | omega | (refine ⟨?_, ?_⟩ <;> omega)) ?_)
  rw [show ((t.length : Int) - 1).toNat = t.length - 1 by omega, setB (by rw [List.length_replicate]; omega), root_set (by omega)]
  refine hK3 _ ?_
  clear hK3 K3
  refine Wp.seqK fun K4 hK4 => ?_
  refine Wp.seqK fun K5 hK5 => ?_
  refine Wp.regionS ?_
  refine evc ?_
  repeat (refine And.intro (by first | omega | (refine ⟨?_, ?_⟩ <;> omega)) ?_)
  refine hK5 _ ?_
  clear hK5 K5
  refine Wp.block ?_
  skip
  refine Wp.loop (α := Nat) (fun x s => x ≤ t.length ∧ ∃ b : List Bool, b.length = t.length ∧ runR t pf x b = runR t pf t.length (rootR t.length) ∧ ∃ f : Nat → AV, s = ⟨[dN t, f 1, .l (.clo fn []), f 3, f 4, f 5, f 6, .l (.obj 0 0 1 0 t.length), I ((x : Int) - 1), f 9, f 10, f 11, f 12, f 13, f 14, f 15, f 16, f 17, f 18, f 19, f 20, f 21, f 22, f 23, f 24, f 25, f 26, f 27, f 28, f 29, f 30, f 31, f 32, f 33, f 34, f 35, f 36, f 37, f 38, f 39, f 40, f 41, f 42, f 43, f 44, f 45, f 46, f 47], [some ⟨0, b.map cb⟩]⟩) (fun x => x) t.length ⟨Nat.le_refl _, rootR t.length, by simp [rootR], rfl, anyT rfl rfl⟩ ?_
  rintro x _ ⟨hx, b, hb, hr, f, rfl⟩
  refine Wp.seqK fun K6 hK6 => ?_
  refine Wp.seqK fun K7 hK7 => ?_
  refine Wp.regionS ?_
  refine evc ?_
  repeat (refine And.intro (by first | omega | (refine ⟨?_, ?_⟩ <;> omega)) ?_)
  refine hK7 _ ?_
  clear hK7 K7
  refine Wp.cond rfl (fun h19 => ?_) (fun h19 => ?_)
  · obtain ⟨i, rfl⟩ : ∃ i, x = i + 1 := ⟨x - 1, by have := of_decide_eq_true h19; omega⟩
    simp only [show ((i + 1 : Nat) : Int) - 1 = (i : Int) by omega]
    have hi : i < t.length := by omega
    have hp := okT_part hok hi
    have hpl := parts_len (t.getD i default)
    refine Wp.skip ?_
    refine hK6 _ ?_
    clear hK6 K6
    refine Wp.seqK fun K8 hK8 => ?_
    refine Wp.block ?_
    refine Wp.seqK fun K9 hK9 => ?_
    refine Wp.seqM (fun s => ∃ f : Nat → AV, s = ⟨[dN t, f 1, .l (.clo fn []), f 3, f 4, f 5, f 6, .l (.obj 0 0 1 0 t.length), I i, f 9, f 10, f 11, f 12, f 13, f 14, f 15, f 16, f 17, f 18, f 19, f 20, f 21, f 22, f 23, f 24, f 25, f 26, f 27, f 28, f 29, f 30, f 31, T (!(b.getD i false) || !(pf i)), f 33, f 34, f 35, f 36, f 37, f 38, f 39, f 40, f 41, f 42, f 43, f 44, f 45, f 46, f 47], [some ⟨0, b.map cb⟩]⟩) ?_ ?_
    · refine Wp.regionS ?_
      simp only [go_sem, atB (show i < b.length by omega), hb, encN_len, lN_len, List.length_drop, List.length_map, List.length_take, List.length_append, Int.toNat_natCast, nl, Nat.mul_one, Nat.one_mul, Nat.reducePow, Nat.reduceAdd, Nat.reduceMul, Nat.reduceSub, Nat.reduceLeDiff, Nat.reduceEqDiff, Nat.reduceLT, reduceIte, Int.reduceToNat, Int.reduceLE, Int.reduceLT, reduceCtorEq, List.contains_cons, List.contains_nil, Nat.reduceBEq, Bool.or_false, Bool.false_or, Bool.or_true, Bool.true_or, forall_eq, forall_eq_or_imp, List.mem_cons, List.not_mem_nil, or_false, false_or]
      repeat (refine And.intro (by first | omega | (refine ⟨?_, ?_⟩ <;> omega)) ?_)
      refine grdA_split rfl (fun g1 => ?_) (fun g1 => ?_)
      · simp only [go_sem, atB (show i < b.length by omega), hb, encN_len, lN_len, List.length_drop, List.length_map, List.length_take, List.length_append, Int.toNat_natCast, nl, Nat.mul_one, Nat.one_mul, Nat.reducePow, Nat.reduceAdd, Nat.reduceMul, Nat.reduceSub, Nat.reduceLeDiff, Nat.reduceEqDiff, Nat.reduceLT, reduceIte, Int.reduceToNat, Int.reduceLE, Int.reduceLT, reduceCtorEq, List.contains_cons, List.contains_nil, Nat.reduceBEq, Bool.or_false, Bool.false_or, Bool.or_true, Bool.true_or, forall_eq, forall_eq_or_imp, List.mem_cons, List.not_mem_nil, or_false, false_or]
        repeat (refine And.intro (by first | omega | (refine ⟨?_, ?_⟩ <;> omega)) ?_)
        simp only [g1, Bool.true_or, Bool.or_true, Bool.false_or, Bool.or_false, Bool.true_and, Bool.and_true, Bool.false_and, Bool.and_false, Bool.not_true, Bool.not_false]
        exact anyT rfl rfl
      · simp only [go_sem, atB (show i < b.length by omega), hb, encN_len, lN_len, List.length_drop, List.length_map, List.length_take, List.length_append, Int.toNat_natCast, nl, Nat.mul_one, Nat.one_mul, Nat.reducePow, Nat.reduceAdd, Nat.reduceMul, Nat.reduceSub, Nat.reduceLeDiff, Nat.reduceEqDiff, Nat.reduceLT, reduceIte, Int.reduceToNat, Int.reduceLE, Int.reduceLT, reduceCtorEq, List.contains_cons, List.contains_nil, Nat.reduceBEq, Bool.or_false, Bool.false_or, Bool.or_true, Bool.true_or, forall_eq, forall_eq_or_imp, List.mem_cons, List.not_mem_nil, or_false, false_or]
        repeat (refine And.intro (by first | omega | (refine ⟨?_, ?_⟩ <;> omega)) ?_)
        first | refine ⟨hgo, ?_⟩ | skip
        refine CallK.val [] LendOk.nil (hf i hi) rfl ?_
        refine evc ?_
        repeat (refine And.intro (by first | omega | (refine ⟨?_, ?_⟩ <;> omega)) ?_)
        simp only [g1, Bool.true_or, Bool.or_true, Bool.false_or, Bool.or_false, Bool.true_and, Bool.and_true, Bool.false_and, Bool.and_false, Bool.not_true, Bool.not_false]
        exact anyT rfl rfl
    rintro _ ⟨f, rfl⟩
    refine Wp.cond rfl (fun h32 => ?_) (fun h32 => ?_)
    · have hst := step_no (t := t) h32
      refine Wp.exit ?_
      simp only [thn, inB, if_true, reduceIte]
      clear hK9 K9
      refine hK8 _ ?_
      clear hK8 K8
      refine Wp.keep 1 (by simp [hB]) (by simp) ?_
      simp only [go_sem, renI, renB, renN, renn, nl, Nat.mul_one, Nat.one_mul, Nat.reducePow, Nat.reduceAdd, Nat.reduceMul, Nat.reduceSub, Nat.reduceLeDiff, Nat.reduceEqDiff, Nat.reduceLT, reduceIte, Int.reduceToNat, Int.reduceLE, Int.reduceLT, reduceCtorEq, List.contains_cons, List.contains_nil, Nat.reduceBEq, Bool.or_false, Bool.false_or, Bool.or_true, Bool.true_or, forall_eq, forall_eq_or_imp, List.mem_cons, List.not_mem_nil, or_false, false_or]
      refine Wp.regionS ?_
      refine evc ?_
      repeat (refine And.intro (by first | omega | (refine ⟨?_, ?_⟩ <;> omega)) ?_)
      rw [wr (by omega) (by omega)]
      exact ⟨i, ⟨by omega, stepR t pf i b, by rw [stepR_len, hb], hr, by rw [hst]; exact anyT rfl rfl⟩, by omega⟩
    · have hst := step_yes (t := t) h32
      refine Wp.skip ?_
      refine hK9 _ ?_
      clear hK9 K9
      refine Wp.seqK fun K10 hK10 => ?_
      refine Wp.regionS ?_
      simp only [go_sem, atN _ hi, encN_len, lN_len, List.length_drop, List.length_map, List.length_take, List.length_append, Int.toNat_natCast, nl, Nat.mul_one, Nat.one_mul, Nat.reducePow, Nat.reduceAdd, Nat.reduceMul, Nat.reduceSub, Nat.reduceLeDiff, Nat.reduceEqDiff, Nat.reduceLT, reduceIte, Int.reduceToNat, Int.reduceLE, Int.reduceLT, reduceCtorEq, List.contains_cons, List.contains_nil, Nat.reduceBEq, Bool.or_false, Bool.false_or, Bool.or_true, Bool.true_or, forall_eq, forall_eq_or_imp, List.mem_cons, List.not_mem_nil, or_false, false_or]
      repeat (refine And.intro (by first | omega | (refine ⟨?_, ?_⟩ <;> omega)) ?_)
      refine ⟨rfl, CallK.row [] LendOk.nil (iParts_c _) (flatI _) ?_⟩
      simp only [go_sem, atN _ hi, encN_len, lN_len, List.length_drop, List.length_map, List.length_take, List.length_append, Int.toNat_natCast, nl, Nat.mul_one, Nat.one_mul, Nat.reducePow, Nat.reduceAdd, Nat.reduceMul, Nat.reduceSub, Nat.reduceLeDiff, Nat.reduceEqDiff, Nat.reduceLT, reduceIte, Int.reduceToNat, Int.reduceLE, Int.reduceLT, reduceCtorEq, List.contains_cons, List.contains_nil, Nat.reduceBEq, Bool.or_false, Bool.false_or, Bool.or_true, Bool.true_or, forall_eq, forall_eq_or_imp, List.mem_cons, List.not_mem_nil, or_false, false_or]
      repeat (refine And.intro (by first | omega | (refine ⟨?_, ?_⟩ <;> omega)) ?_)
      refine hK10 _ ?_
      clear hK10 K10
      refine Wp.block ?_
      skip
      refine Wp.loop (α := Nat) (fun x s => x ≤ (parts (t.getD i default)).length ∧ ∃ f : Nat → AV, s = ⟨[dN t, f 1, .l (.clo fn []), f 3, f 4, f 5, f 6, .l (.obj 0 0 1 0 t.length), I i, f 9, f 10, f 11, f 12, f 13, f 14, f 15, f 16, f 17, f 18, f 19, f 20, f 21, f 22, f 23, f 24, f 25, f 26, f 27, f 28, f 29, f 30, f 31, f 32, f 33, f 34, f 35, f 36, .l (.obj 1 0 1 0 (parts (t.getD i default)).length), I (parts (t.getD i default)).length, I x, f 40, f 41, f 42, f 43, f 44, f 45, f 46, f 47], [some ⟨0, (mark b ((parts (t.getD i default)).take x)).map cb⟩, some ⟨0, (parts (t.getD i default)).map ci⟩]⟩) (fun x => (parts (t.getD i default)).length - x) 0 ⟨Nat.zero_le _, anyT rfl rfl⟩ ?_
      rintro k _ ⟨hk, f, rfl⟩
      refine Wp.seqK fun K11 hK11 => ?_
      refine Wp.regionS ?_
      refine evc ?_
      repeat (refine And.intro (by first | omega | (refine ⟨?_, ?_⟩ <;> omega)) ?_)
      refine hK11 _ ?_
      clear hK11 K11
      refine Wp.seqK fun K12 hK12 => ?_
      refine Wp.cond rfl (fun h40 => ?_) (fun h40 => ?_)
      · have hkl : k < (parts (t.getD i default)).length := by have := of_decide_eq_true h40; omega
        have hpk := hp ((parts (t.getD i default)).getD k 0) (by rw [← getD_at hkl]; exact List.getElem_mem hkl)
        refine Wp.skip ?_
        refine hK12 _ ?_
        clear hK12 K12
        refine Wp.seqK fun K13 hK13 => ?_
        refine Wp.block ?_
        refine Wp.seqK fun K14 hK14 => ?_
        refine Wp.regionS ?_
        simp only [go_sem, atI hkl, encN_len, lN_len, List.length_drop, List.length_map, List.length_take, List.length_append, Int.toNat_natCast, nl, Nat.mul_one, Nat.one_mul, Nat.reducePow, Nat.reduceAdd, Nat.reduceMul, Nat.reduceSub, Nat.reduceLeDiff, Nat.reduceEqDiff, Nat.reduceLT, reduceIte, Int.reduceToNat, Int.reduceLE, Int.reduceLT, reduceCtorEq, List.contains_cons, List.contains_nil, Nat.reduceBEq, Bool.or_false, Bool.false_or, Bool.or_true, Bool.true_or, forall_eq, forall_eq_or_imp, List.mem_cons, List.not_mem_nil, or_false, false_or]
        repeat (refine And.intro (by first | omega | (refine ⟨?_, ?_⟩ <;> omega)) ?_)
        refine hK14 _ ?_
        clear hK14 K14
        refine Wp.regionS ?_
        simp only [go_sem, mark_len, hb, encN_len, lN_len, List.length_drop, List.length_map, List.length_take, List.length_append, Int.toNat_natCast, nl, Nat.mul_one, Nat.one_mul, Nat.reducePow, Nat.reduceAdd, Nat.reduceMul, Nat.reduceSub, Nat.reduceLeDiff, Nat.reduceEqDiff, Nat.reduceLT, reduceIte, Int.reduceToNat, Int.reduceLE, Int.reduceLT, reduceCtorEq, List.contains_cons, List.contains_nil, Nat.reduceBEq, Bool.or_false, Bool.false_or, Bool.or_true, Bool.true_or, forall_eq, forall_eq_or_imp, List.mem_cons, List.not_mem_nil, or_false, false_or]
        repeat (refine And.intro (by first | omega | (refine ⟨?_, ?_⟩ <;> omega)) ?_)
        rw [setB (by rw [mark_len]; omega)]
        try simp only [thn, inB, if_true, reduceIte]
        refine hK13 _ ?_
        clear hK13 K13
        refine Wp.regionS ?_
        refine evc ?_
        repeat (refine And.intro (by first | omega | (refine ⟨?_, ?_⟩ <;> omega)) ?_)
        rw [up (by omega)]
        refine ⟨k + 1, ⟨by omega, ?_⟩, by omega⟩
        rw [take_push 0 hkl, mark_push]
        exact anyT rfl rfl
      · have hkl : k = (parts (t.getD i default)).length := by have := of_decide_eq_false h40; omega
        subst hkl
        simp only [List.take_length]
        refine Wp.exit ?_
        simp only [thn, inB, if_true, reduceIte]
        clear hK12 K12
        try simp only [thn, inB, if_true, reduceIte]
        refine hK8 _ ?_
        clear hK8 K8
        refine Wp.keep 1 (by simp [hB]) (by simp) ?_
        simp only [go_sem, renI, renB, renN, renn, nl, Nat.mul_one, Nat.one_mul, Nat.reducePow, Nat.reduceAdd, Nat.reduceMul, Nat.reduceSub, Nat.reduceLeDiff, Nat.reduceEqDiff, Nat.reduceLT, reduceIte, Int.reduceToNat, Int.reduceLE, Int.reduceLT, reduceCtorEq, List.contains_cons, List.contains_nil, Nat.reduceBEq, Bool.or_false, Bool.false_or, Bool.or_true, Bool.true_or, forall_eq, forall_eq_or_imp, List.mem_cons, List.not_mem_nil, or_false, false_or]
        refine Wp.regionS ?_
        refine evc ?_
        repeat (refine And.intro (by first | omega | (refine ⟨?_, ?_⟩ <;> omega)) ?_)
        rw [wr (by omega) (by omega)]
        exact ⟨i, ⟨by omega, stepR t pf i b, by rw [stepR_len, hb], hr, by rw [hst]; exact anyT rfl rfl⟩, by omega⟩
  · have hx0 : x = 0 := by have := of_decide_eq_false h19; omega
    refine Wp.exit ?_
    simp only [thn, inB, if_true, reduceIte]
    clear hK6 K6
    refine hK4 _ ?_
    clear hK4 K4
    refine Wp.seqK fun K15 hK15 => ?_
    refine Wp.regionS ?_
    refine evc ?_
    repeat (refine And.intro (by first | omega | (refine ⟨?_, ?_⟩ <;> omega)) ?_)
    refine hK15 _ ?_
    clear hK15 K15
    refine Wp.ret ?_
    simp only [thn, inB, retQ]
    refine ⟨_, [0], rfl, Nat.zero_le _, by decide, by simp, ?_⟩
    rw [← hr, hx0]
    exact ret_row rfl (flatB _)
theorem pass_c (i : Int) : Val E.P 78 [I i] (T true) := by
  refine CallsA.body (E := E) (fn := Tryz.f78) Tryz.func78 rfl fun B hB => ?_
  simp only [Tryz.ntmps78, go_sem, nl, Nat.mul_one, Nat.one_mul, Nat.reducePow, Nat.reduceAdd, Nat.reduceMul, Nat.reduceSub, Nat.reduceLeDiff, Nat.reduceEqDiff, Nat.reduceLT, reduceIte, Int.reduceToNat, Int.reduceLE, Int.reduceLT, reduceCtorEq, List.contains_cons, List.contains_nil, Nat.reduceBEq, Bool.or_false, Bool.false_or, Bool.or_true, Bool.true_or, forall_eq, forall_eq_or_imp, List.mem_cons, List.not_mem_nil, or_false, false_or, List.reduceReplicate]
  refine Wp.seqK fun K1 hK1 => ?_
  refine Wp.regionS ?_
  refine evc ?_
  repeat (refine And.intro (by first | omega | (refine ⟨?_, ?_⟩ <;> omega)) ?_)
  refine hK1 _ ?_
  clear hK1 K1
  refine Wp.seqK fun K2 hK2 => ?_
  refine Wp.regionS ?_
  refine evc ?_
  repeat (refine And.intro (by first | omega | (refine ⟨?_, ?_⟩ <;> omega)) ?_)
  refine hK2 _ ?_
  clear hK2 K2
  refine Wp.ret ?_
  simp only [thn, inB, retQ]
  refine ⟨_, [], rfl, Nat.zero_le _, by decide, by simp, ?_⟩
  simp only [go_sem, nl, Nat.mul_one, Nat.one_mul, Nat.reducePow, Nat.reduceAdd, Nat.reduceMul, Nat.reduceSub, Nat.reduceLeDiff, Nat.reduceEqDiff, Nat.reduceLT, reduceIte, Int.reduceToNat, Int.reduceLE, Int.reduceLT, reduceCtorEq, List.contains_cons, List.contains_nil, Nat.reduceBEq, Bool.or_false, Bool.false_or, Bool.or_true, Bool.true_or, forall_eq, forall_eq_or_imp, List.mem_cons, List.not_mem_nil, or_false, false_or]
  all_goals
    skip
theorem reached_c (t : List Nd) (hok : okT t = true) (hl : 1 ≤ t.length ∧ t.length ≤ 80) : Row E.P 43 [dN t] 1 t.length ((reachT t).map cb) := by
  refine CallsA.body (E := E) (fn := Tryz.f43) Tryz.func43 rfl fun B hB => ?_
  simp only [Tryz.ntmps43, go_sem, nl, Nat.mul_one, Nat.one_mul, Nat.reducePow, Nat.reduceAdd, Nat.reduceMul, Nat.reduceSub, Nat.reduceLeDiff, Nat.reduceEqDiff, Nat.reduceLT, reduceIte, Int.reduceToNat, Int.reduceLE, Int.reduceLT, reduceCtorEq, List.contains_cons, List.contains_nil, Nat.reduceBEq, Bool.or_false, Bool.false_or, Bool.or_true, Bool.true_or, forall_eq, forall_eq_or_imp, List.mem_cons, List.not_mem_nil, or_false, false_or, List.reduceReplicate]
  refine Wp.seqK fun K1 hK1 => ?_
  refine Wp.regionS ?_
  refine evc ?_
  repeat (refine And.intro (by first | omega | (refine ⟨?_, ?_⟩ <;> omega)) ?_)
  refine hK1 _ ?_
  clear hK1 K1
  refine Wp.seqK fun K2 hK2 => ?_
  refine Wp.regionS ?_
  refine evc ?_
  repeat (refine And.intro (by first | omega | (refine ⟨?_, ?_⟩ <;> omega)) ?_)
  rw [wr (by omega) (by omega)]
  refine ⟨rfl, CallK.row [] LendOk.nil (reach_c t hok hl (fun _ => true) 78 rfl (fun i _ => pass_c i)) (flatB _) ?_⟩
  refine evc ?_
  refine hK2 _ ?_
  clear hK2 K2
  refine Wp.ret ?_
  simp only [thn, inB, retQ]
  refine ⟨_, [0], rfl, Nat.zero_le _, by decide, by simp, ?_⟩
  exact ret_row rfl (flatB _)
end Go.Proofs.YtkdkbnacelnljaaGreat.RE
