/- A node behind a term, the reference. Conditions: those that a theorem names. -/
import Derived.Test.YtlgjogfcpgfbnaaD6
import Derived.Test.YtlgjogfcpgfbnaaD4
set_option linter.unusedVariables false
set_option linter.unusedSimpArgs false
namespace Go.Proofs.Ytlgjogfcpgfbnaa.RE
open Go Go.RowKit
set_option maxRecDepth 100000
set_option maxHeartbeats 8000000

theorem quantT_bh (t : List Nd) (n : Nd) : (if okT t = true then addT t n else ([], false)) = if (!okT t || !okT (t ++ [n])) = true then (([], false) : List Nd × Bool) else (t ++ [n], true) := by
  unfold addT
  cases okT t <;> cases okT (t ++ [n]) <;> rfl
def bhT (t : List Nd) (n : Nd) : List Nd × Bool := if okT t = true then addT t n else ([], false)
theorem bhT_q (t : List Nd) (all : Bool) (v w : Int) : bhT t (qnode all v w t.length) = quantT t all v w := rfl
theorem l15Behind_c (t : List Nd) (n : Nd) (hl : t.length ≤ 1048576) : Ret E.P 89 [dN t, .agg (nl n)] (.tup [.l (.obj 0 0 6 0 (bhT t n).1.length), TB (bhT t n).2]) [some ⟨0, lN (bhT t n).1⟩] := by
  refine CallsA.body (E := E) (fn := Try.f89) Try.func89 rfl fun B hB => ?_
  simp only [Try.ntmps89, go_sem, nl, Nat.reduceSub, Nat.reduceAdd, List.reduceReplicate]
  refine Wp.seqK fun K1 hK1 => ?_
  refine rg ?_
  refine hK1 _ ?_
  clear hK1 K1
  refine Wp.seqK fun K2 hK2 => ?_
  refine Wp.drawT [0] [0, 2, 4, 5] (.one 1 (.one 3 (.two 0 4 (.two 2 4 (.one 4 (.one 5 (.one 6 .done))) (.one 2 (.one 5 (.one 6 .done)))) (.one 0 (.one 2 (.one 5 (.one 6 .done))))))) rfl (by kernel_rfl) ?_
  refine evd ?_
  refine ⟨?_, ?_⟩
  · try refine evd ?_
    refine ⟨?_, ?_⟩
    · try refine evd ?_
      refine hK2 _ ?_
      clear hK2 K2
      refine Wp.keepQ 1 ?_ ?_ ?_
      rw [hB]; rfl
      exact of_decide_eq_true rfl
      refine evd ?_
      refine Wp.seqK fun K3 hK3 => ?_
      refine Wp.seqU0 [.d5, .d, .k, .d5, .d5, .d, .d, .d, .v (T (!okT t || !okT (t ++ [n]))), .d, .d] (fun K4 hK4 => ?_) ?_
      · refine rg ?_
        refine ⟨rfl, CallK.valA (h := sTermOk_c _) (k := ?_)⟩
        refine evd ?_
        refine grdA_split rfl (fun g2_4 => ?_) (fun g2_4 => ?_)
        · try simp only [decide_eq_true_eq, decide_eq_false_iff_not] at g2_4
          refine evd ?_
          exact hK4 _ (anyS (h := by first | rfl | (simp only [g2_4, Bool.true_or, Bool.or_true, Bool.false_or, Bool.or_false, Bool.true_and, Bool.and_true, Bool.false_and, Bool.and_false, Bool.not_true, Bool.not_false, decide_true, decide_false, eq_self, Int.reduceEq] <;> rfl)))
        · try simp only [decide_eq_true_eq, decide_eq_false_iff_not] at g2_4
          refine evd ?_
          refine ⟨rfl, CallK.valA (h := sTermOk_c _) (k := ?_)⟩
          refine evd ?_
          exact hK4 _ (anyS (h := by first | rfl | (simp only [g2_4, Bool.true_or, Bool.or_true, Bool.false_or, Bool.or_false, Bool.true_and, Bool.and_true, Bool.false_and, Bool.and_false, Bool.not_true, Bool.not_false, decide_true, decide_false, eq_self, Int.reduceEq] <;> rfl)))
      rintro f4
      simp only [updT_k, updT_d, updT_d5, updT_v, updT_nil, Nat.reduceAdd]
      refine Wp.condS (fun h20 => ?_) (fun h20 => ?_)
      · have hc : bhT t n = ([], false) := by
          unfold bhT; rw [quantT_bh, if_pos (by rcases h20 with h | h <;> simp [h])]
        refine Wp.seqK fun K5 hK5 => ?_
        refine rg ?_
        refine hK5 _ ?_
        clear hK5 K5
        refine Wp.ret (retRB (cs := []) ?_ ?_ ?_)
        all_goals rw [hc]
        all_goals rfl
      · have hc : bhT t n = (t ++ [n], true) := by
          unfold bhT; rw [quantT_bh, if_neg (by simp [h20])]
        refine Wp.skip ?_
        refine hK3 _ ?_
        clear hK3 K3
        refine Wp.seqK fun K6 hK6 => ?_
        refine rg ?_
        refine hK6 _ ?_
        clear hK6 K6
        refine Wp.ret (retRB (cs := lN (t ++ [n])) ?_ ?_ ?_)
        · rw [hc]; simp only [List.length_append, List.length_cons, List.length_nil]
        · rw [hc]
        · rw [hc]
    · try refine evd ?_
      refine hK2 _ ?_
      clear hK2 K2
      refine Wp.keepQ 1 ?_ ?_ ?_
      rw [hB]; rfl
      exact of_decide_eq_true rfl
      refine evd ?_
      refine Wp.seqK fun K7 hK7 => ?_
      refine Wp.seqU0 [.d5, .d, .k, .d5, .d5, .d, .d, .d, .v (T (!okT t || !okT (t ++ [n]))), .d, .d] (fun K8 hK8 => ?_) ?_
      · refine rg ?_
        refine ⟨rfl, CallK.valA (h := sTermOk_c _) (k := ?_)⟩
        refine evd ?_
        refine grdA_split rfl (fun g2_4 => ?_) (fun g2_4 => ?_)
        · try simp only [decide_eq_true_eq, decide_eq_false_iff_not] at g2_4
          refine evd ?_
          exact hK8 _ (anyS (h := by first | rfl | (simp only [g2_4, Bool.true_or, Bool.or_true, Bool.false_or, Bool.or_false, Bool.true_and, Bool.and_true, Bool.false_and, Bool.and_false, Bool.not_true, Bool.not_false, decide_true, decide_false, eq_self, Int.reduceEq] <;> rfl)))
        · try simp only [decide_eq_true_eq, decide_eq_false_iff_not] at g2_4
          refine evd ?_
          refine ⟨rfl, CallK.valA (h := sTermOk_c _) (k := ?_)⟩
          refine evd ?_
          exact hK8 _ (anyS (h := by first | rfl | (simp only [g2_4, Bool.true_or, Bool.or_true, Bool.false_or, Bool.or_false, Bool.true_and, Bool.and_true, Bool.false_and, Bool.and_false, Bool.not_true, Bool.not_false, decide_true, decide_false, eq_self, Int.reduceEq] <;> rfl)))
      rintro f8
      simp only [updT_k, updT_d, updT_d5, updT_v, updT_nil, Nat.reduceAdd]
      refine Wp.condS (fun h20 => ?_) (fun h20 => ?_)
      · have hc : bhT t n = ([], false) := by
          unfold bhT; rw [quantT_bh, if_pos (by rcases h20 with h | h <;> simp [h])]
        refine Wp.seqK fun K9 hK9 => ?_
        refine rg ?_
        refine hK9 _ ?_
        clear hK9 K9
        refine Wp.ret (retRB (cs := []) ?_ ?_ ?_)
        all_goals rw [hc]
        all_goals rfl
      · have hc : bhT t n = (t ++ [n], true) := by
          unfold bhT; rw [quantT_bh, if_neg (by simp [h20])]
        refine Wp.skip ?_
        refine hK7 _ ?_
        clear hK7 K7
        refine Wp.seqK fun K10 hK10 => ?_
        refine rg ?_
        refine hK10 _ ?_
        clear hK10 K10
        refine Wp.ret (retRB (cs := lN (t ++ [n])) ?_ ?_ ?_)
        · rw [hc]; simp only [List.length_append, List.length_cons, List.length_nil]
        · rw [hc]
        · rw [hc]
  · try refine evd ?_
    refine hK2 _ ?_
    clear hK2 K2
    refine Wp.keepQ 2 ?_ ?_ ?_
    rw [hB]; rfl
    exact of_decide_eq_true rfl
    refine evd ?_
    refine Wp.seqK fun K11 hK11 => ?_
    refine Wp.seqU0 [.d5, .d, .k, .d5, .d5, .d, .d, .d, .v (T (!okT t || !okT (t ++ [n]))), .d, .d] (fun K12 hK12 => ?_) ?_
    · refine rg ?_
      refine ⟨rfl, CallK.valA (h := sTermOk_c _) (k := ?_)⟩
      refine evd ?_
      refine grdA_split rfl (fun g2_4 => ?_) (fun g2_4 => ?_)
      · try simp only [decide_eq_true_eq, decide_eq_false_iff_not] at g2_4
        refine evd ?_
        exact hK12 _ (anyS (h := by first | rfl | (simp only [g2_4, Bool.true_or, Bool.or_true, Bool.false_or, Bool.or_false, Bool.true_and, Bool.and_true, Bool.false_and, Bool.and_false, Bool.not_true, Bool.not_false, decide_true, decide_false, eq_self, Int.reduceEq] <;> rfl)))
      · try simp only [decide_eq_true_eq, decide_eq_false_iff_not] at g2_4
        refine evd ?_
        refine ⟨rfl, CallK.valA (h := sTermOk_c _) (k := ?_)⟩
        refine evd ?_
        exact hK12 _ (anyS (h := by first | rfl | (simp only [g2_4, Bool.true_or, Bool.or_true, Bool.false_or, Bool.or_false, Bool.true_and, Bool.and_true, Bool.false_and, Bool.and_false, Bool.not_true, Bool.not_false, decide_true, decide_false, eq_self, Int.reduceEq] <;> rfl)))
    rintro f12
    simp only [updT_k, updT_d, updT_d5, updT_v, updT_nil, Nat.reduceAdd]
    refine Wp.condS (fun h20 => ?_) (fun h20 => ?_)
    · have hc : bhT t n = ([], false) := by
        unfold bhT; rw [quantT_bh, if_pos (by rcases h20 with h | h <;> simp [h])]
      refine Wp.seqK fun K13 hK13 => ?_
      refine rg ?_
      refine hK13 _ ?_
      clear hK13 K13
      refine Wp.ret (retRB (cs := []) ?_ ?_ ?_)
      all_goals rw [hc]
      all_goals rfl
    · have hc : bhT t n = (t ++ [n], true) := by
        unfold bhT; rw [quantT_bh, if_neg (by simp [h20])]
      refine Wp.skip ?_
      refine hK11 _ ?_
      clear hK11 K11
      refine Wp.seqK fun K14 hK14 => ?_
      refine rg ?_
      refine hK14 _ ?_
      clear hK14 K14
      refine Wp.ret (retRB (cs := lN (t ++ [n])) ?_ ?_ ?_)
      · rw [hc]; simp only [List.length_append, List.length_cons, List.length_nil]
      · rw [hc]
      · rw [hc]
theorem sQuantify_c (t : List Nd) (all : Bool) (v w : Int) (hl : t.length ≤ 1048576) : Ret E.P 32 [dN t, T all, I v, I w] (.tup [.l (.obj 0 0 6 0 (quantT t all v w).1.length), TB (quantT t all v w).2]) [some ⟨0, lN (quantT t all v w).1⟩] := by
  refine CallsA.body (E := E) (fn := Try.f32) Try.func32 rfl fun B hB => ?_
  simp only [Try.ntmps32, go_sem, nl, Nat.reduceSub, Nat.reduceAdd, List.reduceReplicate]
  refine Wp.seqK fun K1 hK1 => ?_
  refine rg ?_
  refine hK1 _ ?_
  clear hK1 K1
  refine Wp.seqK fun K2 hK2 => ?_
  refine rg ?_
  refine hK2 _ ?_
  clear hK2 K2
  refine Wp.seqU0 [.k, .d, .k, .k, .d5, .d, .v (I (if all = true then 19 else 20)), .d5, .d5, .d, .d] (fun K3 hK3 => ?_) ?_
  · refine Wp.seqK fun K4 hK4 => ?_
    refine rg ?_
    refine hK4 _ ?_
    clear hK4 K4
    refine Wp.condS (fun h11 => ?_) (fun h11 => ?_)
    · refine rg ?_
      exact hK3 _ (anyS (h := by rw [h11]; rfl))
    · refine Wp.skip ?_
      exact hK3 _ (anyS (h := by rw [h11]; rfl))
  rintro f3
  simp only [updT_k, updT_d, updT_d5, updT_v, updT_nil, Nat.reduceAdd]
  refine Wp.seqK fun K5 hK5 => ?_
  refine rg ?_
  refine ⟨rfl, CallK.retA (h := l15Behind_c t (qnode all v w t.length) (by omega)) (k := ?_)⟩
  refine evd ?_
  refine hK5 _ ?_
  clear hK5 K5
  refine Wp.ret (retRB (cs := lN (bhT t (qnode all v w t.length)).1) ?_ ?_ ?_)
  all_goals rw [bhT_q]
end Go.Proofs.Ytlgjogfcpgfbnaa.RE
