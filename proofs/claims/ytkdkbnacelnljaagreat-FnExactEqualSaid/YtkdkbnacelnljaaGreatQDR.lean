/- A node behind a term, the reference. Conditions: those that a theorem names. -/
import Derived.Test.YtkdkbnacelnljaaGreatQDQ
set_option linter.unusedVariables false
set_option linter.unusedSimpArgs false
namespace Go.Proofs.YtkdkbnacelnljaaGreat.RE
open Go Go.RowKit
set_option maxRecDepth 100000
set_option maxHeartbeats 8000000

theorem quantT_bh (t : List Nd) (n : Nd) : (if okT t = true then addT t n else ([], false)) = if (!okT t || !okT (t ++ [n])) = true then (([], false) : List Nd × Bool) else (t ++ [n], true) := by
  unfold addT
  cases okT t <;> cases okT (t ++ [n]) <;> rfl
def bhT (t : List Nd) (n : Nd) : List Nd × Bool := if okT t = true then addT t n else ([], false)
theorem bhT_q (t : List Nd) (all : Bool) (v w : Int) : bhT t (qnode all v w t.length) = quantT t all v w := rfl
theorem l15Behind_c (t : List Nd) (n : Nd) (hl : t.length ≤ 1048576) : Ret E.P 128 [dN t, .agg (nl n)] (.tup [.l (.obj 0 0 6 0 (bhT t n).1.length), TB (bhT t n).2]) [some ⟨0, lN (bhT t n).1⟩] := by
  refine CallsA.body (E := E) (fn := Tryz.f128) Tryz.func128 rfl fun B hB => ?_
  simp only [Tryz.ntmps128, go_sem, nl, Nat.reduceSub, Nat.reduceAdd, List.reduceReplicate]
  refine Wp.seqK fun K1 hK1 => ?_
  refine rg ?_
  refine hK1 _ ?_
  clear hK1 K1
  refine Wp.seqK fun K2 hK2 => ?_
  refine Wp.drawT [0] [0, 2, 4, 5] (.one 1 (.one 3 (.two 0 4 (.two 2 4 (.one 4 (.one 5 (.one 6 .done))) (.one 2 (.one 5 (.one 6 .done)))) (.one 0 (.one 2 (.one 5 (.one 6 .done))))))) rfl (by kernel_rfl) ?_
  refine evd ?_
  refine ⟨?_, ?_⟩
  · try refine evd ?_
    refine ⟨?_, ?_⟩
    · try refine evd ?_
      refine hK2 _ ?_
      clear hK2 K2
      refine Wp.keepQ 1 ?_ ?_ ?_
      rw [hB]; rfl
      exact of_decide_eq_true rfl
      refine evd ?_
      refine Wp.seqK fun K3 hK3 => ?_
      refine Wp.seqU0 [.d5, .d, .k, .d5, .d5, .d, .d, .d, .v (T (!okT t || !okT (t ++ [n]))), .d, .d] (fun K4 hK4 => ?_) ?_
      · refine rg ?_
        refine ⟨rfl, CallK.valA (h := sTermOk_c _) (k := ?_)⟩
        refine evd ?_
        refine grdA_split rfl (fun g2_4 => ?_) (fun g2_4 => ?_)
        · try simp only [decide_eq_true_eq, decide_eq_false_iff_not] at g2_4
          refine evd ?_
          exact hK4 _ (anyS (h := by first | rfl | (simp only [g2_4, Bool.true_or, Bool.or_true, Bool.false_or, Bool.or_false, Bool.true_and, Bool.and_true, Bool.false_and, Bool.and_false, Bool.not_true, Bool.not_false, decide_true, decide_false, eq_self, Int.reduceEq] <;> rfl)))
        · try simp only [decide_eq_true_eq, decide_eq_false_iff_not] at g2_4
          refine evd ?_
          refine ⟨rfl, CallK.valA (h := sTermOk_c _) (k := ?_)⟩
          refine evd ?_
          exact hK4 _ (anyS (h := by first | rfl | (simp only [g2_4, Bool.true_or, Bool.or_true, Bool.false_or, Bool.or_false, Bool.true_and, Bool.and_true, Bool.false_and, Bool.and_false, Bool.not_true, Bool.not_false, decide_true, decide_false, eq_self, Int.reduceEq] <;> rfl)))
      rintro f4
      simp only [updT_k, updT_d, updT_d5, updT_v, updT_nil, Nat.reduceAdd]
      refine Wp.condS (fun h20 => ?_) (fun h20 => ?_)
      · have hc : bhT t n = ([], false) := by
          unfold bhT; rw [quantT_bh, if_pos (by rcases h20 with h | h <;> simp [h])]
        refine Wp.seqK fun K5 hK5 => ?_
        refine rg ?_
        refine hK5 _ ?_
        clear hK5 K5
        refine Wp.ret (retRB (cs := []) ?_ ?_ ?_)
        all_goals rw [hc]
        all_goals rfl
      · have hc : bhT t n = (t ++ [n], true) := by
          unfold bhT; rw [quantT_bh, if_neg (by simp [h20])]
        refine Wp.skip ?_
        refine hK3 _ ?_
        clear hK3 K3
        refine Wp.seqK fun K6 hK6 => ?_
        refine rg ?_
        refine hK6 _ ?_
        clear hK6 K6
        refine Wp.ret (retRB (cs := lN (t ++ [n])) ?_ ?_ ?_)
        · rw [hc]; simp only [List.length_append, List.length_cons, List.length_nil]
        · rw [hc]
        · rw [hc]
    · try refine evd ?_
      refine hK2 _ ?_
      clear hK2 K2
      refine Wp.keepQ 1 ?_ ?_ ?_
      rw [hB]; rfl
      exact of_decide_eq_true rfl
      refine evd ?_
      refine Wp.seqK fun K7 hK7 => ?_
      refine Wp.seqU0 [.d5, .d, .k, .d5, .d5, .d, .d, .d, .v (T (!okT t || !okT (t ++ [n]))), .d, .d] (fun K8 hK8 => ?_) ?_
      · refine rg ?_
        refine ⟨rfl, CallK.valA (h := sTermOk_c _) (k := ?_)⟩
        refine evd ?_
        refine grdA_split rfl (fun g2_4 => ?_) (fun g2_4 => ?_)
        · try simp only [decide_eq_true_eq, decide_eq_false_iff_not] at g2_4
          refine evd ?_
          exact hK8 _ (anyS (h := by first | rfl | (simp only [g2_4, Bool.true_or, Bool.or_true, Bool.false_or, Bool.or_false, Bool.true_and, Bool.and_true, Bool.false_and, Bool.and_false, Bool.not_true, Bool.not_false, decide_true, decide_false, eq_self, Int.reduceEq] <;> rfl)))
        · try simp only [decide_eq_true_eq, decide_eq_false_iff_not] at g2_4
          refine evd ?_
          refine ⟨rfl, CallK.valA (h := sTermOk_c _) (k := ?_)⟩
          refine evd ?_
          exact hK8 _ (anyS (h := by first | rfl | (simp only [g2_4, Bool.true_or, Bool.or_true, Bool.false_or, Bool.or_false, Bool.true_and, Bool.and_true, Bool.false_and, Bool.and_false, Bool.not_true, Bool.not_false, decide_true, decide_false, eq_self, Int.reduceEq] <;> rfl)))
      rintro f8
      simp only [updT_k, updT_d, updT_d5, updT_v, updT_nil, Nat.reduceAdd]
      refine Wp.condS (fun h20 => ?_) (fun h20 => ?_)
      · have hc : bhT t n = ([], false) := by
          unfold bhT; rw [quantT_bh, if_pos (by rcases h20 with h | h <;> simp [h])]
        refine Wp.seqK fun K9 hK9 => ?_
        refine rg ?_
        refine hK9 _ ?_
        clear hK9 K9
        refine Wp.ret (retRB (cs := []) ?_ ?_ ?_)
        all_goals rw [hc]
        all_goals rfl
      · have hc : bhT t n = (t ++ [n], true) := by
          unfold bhT; rw [quantT_bh, if_neg (by simp [h20])]
        refine Wp.skip ?_
        refine hK7 _ ?_
        clear hK7 K7
        refine Wp.seqK fun K10 hK10 => ?_
        refine rg ?_
        refine hK10 _ ?_
        clear hK10 K10
        refine Wp.ret (retRB (cs := lN (t ++ [n])) ?_ ?_ ?_)
        · rw [hc]; simp only [List.length_append, List.length_cons, List.length_nil]
        · rw [hc]
        · rw [hc]
  · try refine evd ?_
    refine hK2 _ ?_
    clear hK2 K2
    refine Wp.keepQ 2 ?_ ?_ ?_
    rw [hB]; rfl
    exact of_decide_eq_true rfl
    refine evd ?_
    refine Wp.seqK fun K11 hK11 => ?_
    refine Wp.seqU0 [.d5, .d, .k, .d5, .d5, .d, .d, .d, .v (T (!okT t || !okT (t ++ [n]))), .d, .d] (fun K12 hK12 => ?_) ?_
    · refine rg ?_
      refine ⟨rfl, CallK.valA (h := sTermOk_c _) (k := ?_)⟩
      refine evd ?_
      refine grdA_split rfl (fun g2_4 => ?_) (fun g2_4 => ?_)
      · try simp only [decide_eq_true_eq, decide_eq_false_iff_not] at g2_4
        refine evd ?_
        exact hK12 _ (anyS (h := by first | rfl | (simp only [g2_4, Bool.true_or, Bool.or_true, Bool.false_or, Bool.or_false, Bool.true_and, Bool.and_true, Bool.false_and, Bool.and_false, Bool.not_true, Bool.not_false, decide_true, decide_false, eq_self, Int.reduceEq] <;> rfl)))
      · try simp only [decide_eq_true_eq, decide_eq_false_iff_not] at g2_4
        refine evd ?_
        refine ⟨rfl, CallK.valA (h := sTermOk_c _) (k := ?_)⟩
        refine evd ?_
        exact hK12 _ (anyS (h := by first | rfl | (simp only [g2_4, Bool.true_or, Bool.or_true, Bool.false_or, Bool.or_false, Bool.true_and, Bool.and_true, Bool.false_and, Bool.and_false, Bool.not_true, Bool.not_false, decide_true, decide_false, eq_self, Int.reduceEq] <;> rfl)))
    rintro f12
    simp only [updT_k, updT_d, updT_d5, updT_v, updT_nil, Nat.reduceAdd]
    refine Wp.condS (fun h20 => ?_) (fun h20 => ?_)
    · have hc : bhT t n = ([], false) := by
        unfold bhT; rw [quantT_bh, if_pos (by rcases h20 with h | h <;> simp [h])]
      refine Wp.seqK fun K13 hK13 => ?_
      refine rg ?_
      refine hK13 _ ?_
      clear hK13 K13
      refine Wp.ret (retRB (cs := []) ?_ ?_ ?_)
      all_goals rw [hc]
      all_goals rfl
    · have hc : bhT t n = (t ++ [n], true) := by
        unfold bhT; rw [quantT_bh, if_neg (by simp [h20])]
      refine Wp.skip ?_
      refine hK11 _ ?_
      clear hK11 K11
      refine Wp.seqK fun K14 hK14 => ?_
      refine rg ?_
      refine hK14 _ ?_
      clear hK14 K14
      refine Wp.ret (retRB (cs := lN (t ++ [n])) ?_ ?_ ?_)
      · rw [hc]; simp only [List.length_append, List.length_cons, List.length_nil]
      · rw [hc]
      · rw [hc]
theorem sQuantify_c (t : List Nd) (all : Bool) (v w : Int) (hl : t.length ≤ 1048576) : Ret E.P 92 [dN t, T all, I v, I w] (.tup [.l (.obj 0 0 6 0 (quantT t all v w).1.length), TB (quantT t all v w).2]) [some ⟨0, lN (quantT t all v w).1⟩] := by
  refine CallsA.body (E := E) (fn := Tryz.f92) Tryz.func92 rfl fun B hB => ?_
  simp only [Tryz.ntmps92, go_sem, nl, Nat.reduceSub, Nat.reduceAdd, List.reduceReplicate]
  refine Wp.seqK fun K1 hK1 => ?_
  refine rg ?_
  refine hK1 _ ?_
  clear hK1 K1
  refine Wp.seqK fun K2 hK2 => ?_
  refine rg ?_
  refine hK2 _ ?_
  clear hK2 K2
  refine Wp.seqU0 [.k, .d, .k, .k, .d5, .d, .v (I (if all = true then 19 else 20)), .d5, .d5, .d, .d] (fun K3 hK3 => ?_) ?_
  · refine Wp.seqK fun K4 hK4 => ?_
    refine rg ?_
    refine hK4 _ ?_
    clear hK4 K4
    refine Wp.condS (fun h11 => ?_) (fun h11 => ?_)
    · refine rg ?_
      exact hK3 _ (anyS (h := by rw [h11]; rfl))
    · refine Wp.skip ?_
      exact hK3 _ (anyS (h := by rw [h11]; rfl))
  rintro f3
  simp only [updT_k, updT_d, updT_d5, updT_v, updT_nil, Nat.reduceAdd]
  refine Wp.seqK fun K5 hK5 => ?_
  refine rg ?_
  refine ⟨rfl, CallK.retA (h := l15Behind_c t (qnode all v w t.length) (by omega)) (k := ?_)⟩
  refine evd ?_
  refine hK5 _ ?_
  clear hK5 K5
  refine Wp.ret (retRB (cs := lN (bhT t (qnode all v w t.length)).1) ?_ ?_ ?_)
  all_goals rw [bhT_q]
end Go.Proofs.YtkdkbnacelnljaaGreat.RE

/-! Closing a term, the reference and the law. Conditions: those that a theorem names. -/
set_option linter.unusedVariables false
set_option linter.unusedSimpArgs false
namespace Go.Proofs.YtkdkbnacelnljaaGreat.RE
open Go Go.RowKit
set_option maxRecDepth 100000
set_option maxHeartbeats 8000000

def clL (t : List Nd) (fs : List Int) : Nat → List Nd → List Nd × Bool
  | 0, o => (o, true)
  | x + 1, o => if (quantT o true (fs.getD x 0) (widthT t (fs.getD x 0))).2 = true then clL t fs x (quantT o true (fs.getD x 0) (widthT t (fs.getD x 0))).1 else ([], false)
def closeS (t : List Nd) : List Nd × Bool := if (!okT t || !decide (lastW t = 1)) = true then ([], false) else clL t (freeL t) (freeL t).length t
theorem clL_ext (t : List Nd) (fs gs : List Int) : ∀ (x : Nat) (o : List Nd), (∀ i, i < x → fs.getD i 0 = gs.getD i 0) → clL t fs x o = clL t gs x o
  | 0, o, _ => rfl
  | x + 1, o, h => by
    simp only [clL]
    rw [h x (by omega)]
    split
    · exact clL_ext t fs gs x _ fun i hi => h i (by omega)
    · rfl
theorem free_place {t : List Nd} {v : Int} (hok : okT t = true) : fr t v (t.length - 1) = decide (0 ≤ placeT t v (freeR t v)) := by
  have hl := okT_len hok
  have hi := free_iff (v := v) (okT_parts hok) (by omega)
  cases hf : fr t v (t.length - 1) with
  | true =>
    obtain ⟨j, h1, h2, h3, h4⟩ := hi.1 hf
    symm
    rw [decide_eq_true_eq]
    rcases Int.lt_or_le (placeT t v (freeR t v)) 0 with h | h
    · exfalso
      unfold placeT at h
      cases hq : (List.range t.length).find? (fun i => ((freeR t v).getD i false && decide ((t.getD i default).op = 1)) && decide ((t.getD i default).k = v)) with
      | none =>
        have := List.find?_range_eq_none.1 hq j h1
        simp [h2, h3, h4, ← List.getD_eq_getElem?_getD] at this
      | some i => rw [hq] at h; simp at h; omega
    · exact h
  | false =>
    symm
    rw [decide_eq_false_iff_not]
    intro h
    have hp := placeT_lt h
    unfold placeT at h hp
    cases hq : (List.range t.length).find? (fun i => ((freeR t v).getD i false && decide ((t.getD i default).op = 1)) && decide ((t.getD i default).k = v)) with
    | none => rw [hq] at h; simp at h
    | some i =>
      obtain ⟨h1, h2, _⟩ := List.find?_range_eq_some.1 hq
      simp only [Bool.and_eq_true, decide_eq_true_eq] at h1
      have := hi.2 ⟨i, by simpa using h2, h1.1.1, h1.1.2, h1.2⟩
      rw [hf] at this; cases this
theorem rowF_get {t : List Nd} {i v : Nat} (h : v < 8) : (rowF t i).getD v false = fr t v i := by simp [rowF, List.getD_eq_getElem?_getD, h]
theorem cl_eq {t : List Nd} (hok : okT t = true) : ∀ (v : Nat) (o : List Nd), v ≤ 8 → clL t (varsL (rowF t (t.length - 1)) v) (varsL (rowF t (t.length - 1)) v).length o = clR t v o
  | 0, o, _ => rfl
  | v + 1, o, h => by
    have hfp := free_place (v := (v : Int)) hok
    have hg := rowF_get (t := t) (i := t.length - 1) (v := v) (by omega)
    cases hf : fr t v (t.length - 1) with
    | false =>
      rw [hf] at hfp hg
      have hn : placeT t v (freeR t v) < 0 := by
        have := of_decide_eq_false hfp.symm
        omega
      rw [varsL_no hg, cl_eq hok v o (by omega)]
      simp only [clR, hn, if_true]
    | true =>
      rw [hf] at hfp hg
      have hn : ¬ placeT t v (freeR t v) < 0 := by
        have := of_decide_eq_true hfp.symm
        omega
      rw [varsL_yes hg, List.length_append]
      simp only [List.length_cons, List.length_nil, Nat.zero_add, clL, clR, hn, if_false]
      have hgv : (varsL (rowF t (t.length - 1)) v ++ [(v : Int)]).getD (varsL (rowF t (t.length - 1)) v).length 0 = v := by simp [List.getD_eq_getElem?_getD]
      rw [hgv]
      have hw : widthT t v = (t.getD (placeT t v (freeR t v)).toNat default).w := by unfold widthT; rw [if_neg hn]
      rw [hw]
      split
      · rw [clL_ext t _ (varsL (rowF t (t.length - 1)) v) _ _ fun i hi => by
          rw [List.getD_eq_getElem?_getD, List.getElem?_append_left hi, ← List.getD_eq_getElem?_getD]]
        exact cl_eq hok v _ (by omega)
      · rfl
theorem close_eq (t : List Nd) : closeS t = closeT t := by
  unfold closeS closeT
  split
  · rfl
  · rename_i h
    have hok : okT t = true := by
      cases hh : okT t with
      | true => rfl
      | false => rw [hh] at h; simp at h
    rw [show freeL t = varsL (rowF t (t.length - 1)) 8 from if_pos hok]
    exact cl_eq hok 8 t (Nat.le_refl _)
theorem freeL_len (t : List Nd) : (freeL t).length ≤ 8 := by
  unfold freeL
  split
  · exact varsL_len _ _
  · exact Nat.zero_le _
theorem sCloseAll_c0 (t : List Nd) : Ret E.P 56 [dN t] (.tup [.l (.obj 0 0 6 0 (closeS t).1.length), TB (closeS t).2]) [some ⟨0, lN (closeS t).1⟩] := by
  refine CallsA.body (E := E) (fn := Tryz.f56) Tryz.func56 rfl fun B hB => ?_
  simp only [Tryz.ntmps56, go_sem, nl, Nat.reduceSub, Nat.reduceAdd, List.reduceReplicate]
  refine Wp.seqK fun K1 hK1 => ?_
  refine rg ?_
  refine hK1 _ ?_
  clear hK1 K1
  refine Wp.seqK fun K2 hK2 => ?_
  refine Wp.seqU0 [.k, .d5, .d5, .d5, .d5, .v (T (!okT t || !decide (lastW t = 1))), .d5, .d5, .d5, .d5, .d5, .d5, .d, .d, .d] (fun K3 hK3 => ?_) ?_
  · refine rg ?_
    refine ⟨rfl, CallK.valA (h := sTermOk_c _) (k := ?_)⟩
    refine evd ?_
    refine grdA_split rfl (fun g1_4 => ?_) (fun g1_4 => ?_)
    · try simp only [decide_eq_true_eq, decide_eq_false_iff_not] at g1_4
      refine evd ?_
      exact hK3 _ (anyS (h := by first | (simp only [g1_4, lastW, Bool.true_or, Bool.false_or] <;> rfl)))
    · try simp only [decide_eq_true_eq, decide_eq_false_iff_not] at g1_4
      have hok : okT t = true := by simpa using g1_4
      have hl := okT_len hok
      refine evd ?_
      exact hK3 _ (anyS (h := by first | (simp only [g1_4, lastW, Bool.true_or, Bool.false_or] <;> rfl)))
  rintro f3
  simp only [updT_k, updT_d, updT_d5, updT_v, updT_nil, Nat.reduceAdd]
  refine Wp.condS (fun h21 => ?_) (fun h21 => ?_)
  · have hc : closeS t = ([], false) := if_pos (by rcases h21 with h | h <;> simp [h])
    refine Wp.seqK fun K4 hK4 => ?_
    refine rg ?_
    refine hK4 _ ?_
    clear hK4 K4
    refine Wp.ret (retRB (cs := []) ?_ ?_ ?_)
    all_goals rw [hc]
    all_goals rfl
  · have hok := h21.1
    have hl := okT_len hok
    have hc : closeS t = clL t (freeL t) (freeL t).length t := if_neg (by simp [h21])
    have hfl := freeL_len t
    refine Wp.skip ?_
    refine hK2 _ ?_
    clear hK2 K2
    refine Wp.seqK fun K5 hK5 => ?_
    refine rg ?_
    refine ⟨rfl, CallK.rowA (h := sFree_c _) (k := ?_)⟩
    refine evd ?_
    refine hK5 _ ?_
    clear hK5 K5
    refine Wp.seqK fun K6 hK6 => ?_
    refine rg ?_
    refine hK6 _ ?_
    clear hK6 K6
    refine Wp.seqK fun K7 hK7 => ?_
    refine Wp.seqK fun K8 hK8 => ?_
    refine Wp.keepR 1 [1] (by rw [hB]; simp) (by simp) (by simp) (by simp) ?_
    refine evd ?_
    refine rg ?_
    refine hK8 _ ?_
    clear hK8 K8
    refine Wp.block ?_
    refine Wp.loopU (α := Nat × List Nd) (fun p => [.k, .d, .d, .d, .k, .v (.l (.obj 1 0 6 0 p.2.length)), .v (I ((p.1 : Int) - 1)), .d5, .d5, .d5, .d5, .d5, .d5, .d5, .d5, .d5, .d, .d, .d]) (fun p => [some ⟨0, (freeL t).map ci⟩, some ⟨0, lN p.2⟩]) (fun p => p.1 ≤ (freeL t).length ∧ 1 ≤ p.2.length ∧ p.2.length ≤ 80 ∧ clL t (freeL t) p.1 p.2 = clL t (freeL t) (freeL t).length t) (fun p => p.1) ((freeL t).length, t) (⟨Nat.le_refl _, hl.1, hl.2, rfl⟩) (anyS) ?_
    rintro ⟨y, o⟩ f9 K9 ⟨hy8, ho1, ho2, hr⟩ hK9
    simp only [updT_k, updT_d, updT_d5, updT_v, updT_nil, Nat.reduceAdd]
    simp only at hy8 ho1 ho2 hr
    refine Wp.seqK fun K10 hK10 => ?_
    refine Wp.seqK fun K11 hK11 => ?_
    refine rg ?_
    refine hK11 _ ?_
    clear hK11 K11
    refine Wp.condS (fun h32 => ?_) (fun h32 => ?_)
    · obtain ⟨x, rfl⟩ : ∃ x, y = x + 1 := ⟨y - 1, by omega⟩
      simp only [show ((x + 1 : Nat) : Int) - 1 = (x : Int) by omega]
      have hxl : x < (freeL t).length := by omega
      refine Wp.skip ?_
      refine hK10 _ ?_
      clear hK10 K10
      refine Wp.seqK fun K12 hK12 => ?_
      refine Wp.block ?_
      refine Wp.seqK fun K13 hK13 => ?_
      refine Wp.drawI [0, 1] [10, 11] (by kernel_rfl) ?_
      refine evd ?_
      refine ⟨rfl, CallK.valA (h := l15Width_c _ (by assumption) (by omega) _) (k := ?_)⟩
      refine evd ?_
      refine ⟨rfl, CallK.retA (h := sQuantify_c _ _ _ _ (by omega)) (k := ?_)⟩
      refine evd ?_
      refine hK13 _ ?_
      clear hK13 K13
      refine Wp.seqK fun K14 hK14 => ?_
      refine Wp.seqK fun K15 hK15 => ?_
      refine rg ?_
      refine hK15 _ ?_
      clear hK15 K15
      refine Wp.condS (fun h51 => ?_) (fun h51 => ?_)
      · have hst : clL t (freeL t) (x + 1) o = ([], false) := by simp only [clL, h51, Bool.false_eq_true, if_false]
        rw [hst] at hr
        refine Wp.seqK fun K16 hK16 => ?_
        refine rg ?_
        refine hK16 _ ?_
        clear hK16 K16
        refine Wp.ret (retRB (cs := []) ?_ ?_ ?_)
        all_goals rw [hc, ← hr]
        all_goals rfl
      · have hst : clL t (freeL t) (x + 1) o = clL t (freeL t) x (quantT o true ((freeL t).getD x 0) (widthT t ((freeL t).getD x 0))).1 := by simp only [clL, h51, if_true]
        rw [hst] at hr
        have hql := quantT_le h51
        have hqm := quantT_len (t := o) (all := true) (v := (freeL t).getD x 0) (w := widthT t ((freeL t).getD x 0))
        refine Wp.skip ?_
        refine hK14 _ ?_
        clear hK14 K14
        refine rg ?_
        try simp only [thn, inB, if_true, reduceIte]
        refine hK12 _ ?_
        clear hK12 K12
        refine Wp.keepR 1 [2] (by rw [hB]; simp) (by simp) (by simp) (by simp) ?_
        refine evd ?_
        refine rg ?_
        exact hK9 (x, (quantT o true ((freeL t).getD x 0) (widthT t ((freeL t).getD x 0))).1) _ ⟨by simp only; omega, by simp only; omega, hqm, hr⟩ (by simp only; omega) anyS
    · have hy : y = 0 := by omega
      subst hy
      refine Wp.exit ?_
      try simp only [thn, inB, if_true, reduceIte]
      clear hK10 K10
      clear hK9 K9
      refine hK7 _ ?_
      clear hK7 K7
      refine Wp.seqK fun K17 hK17 => ?_
      refine rg ?_
      refine hK17 _ ?_
      clear hK17 K17
      refine Wp.ret (retRB (cs := lN o) ?_ ?_ ?_)
      all_goals rw [hc, ← hr]
      all_goals rfl
theorem sCloseAll_c (t : List Nd) : Ret E.P 56 [dN t] (.tup [.l (.obj 0 0 6 0 (closeT t).1.length), TB (closeT t).2]) [some ⟨0, lN (closeT t).1⟩] := by
  have := sCloseAll_c0 t
  rwa [close_eq] at this
attribute [go_sem] beq_self_eq_true
theorem closeT_len (t : List Nd) : (closeT t).1.length ≤ 80 := by
  have go : ∀ v o, o.length ≤ 80 → (clR t v o).1.length ≤ 80 := by
    intro v
    induction v with
    | zero => intro o h; exact h
    | succ v ih =>
      intro o h
      simp only [clR]
      split
      · exact ih o h
      · split
        · exact ih _ quantT_len
        · exact Nat.zero_le _
  unfold closeT
  split
  · exact Nat.zero_le _
  · rename_i h
    have hok : okT t = true := by
      cases hh : okT t with
      | true => rfl
      | false => rw [hh] at h; simp at h
    exact go 8 t (okT_len hok).2
end Go.Proofs.YtkdkbnacelnljaaGreat.RE
