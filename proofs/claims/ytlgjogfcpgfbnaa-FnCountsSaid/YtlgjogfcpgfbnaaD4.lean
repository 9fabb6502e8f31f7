/- Closing a term, the program. Conditions: those that a theorem names. -/
import Derived.Test.YtlgjogfcpgfbnaaD3
set_option linter.unusedVariables false
set_option linter.unusedSimpArgs false
namespace Go.Proofs.Ytlgjogfcpgfbnaa.RE
open Go Go.RowKit
set_option maxRecDepth 100000
set_option maxHeartbeats 8000000
def clR (t : List Nd) : Nat → List Nd → List Nd × Bool
  | 0, o => (o, true)
  | v + 1, o => if placeT t v (freeR t v) < 0 then clR t v o else if (quantT o true v (t.getD (placeT t v (freeR t v)).toNat default).w).2 = true then clR t v (quantT o true v (t.getD (placeT t v (freeR t v)).toNat default).w).1 else ([], false)
def lastW (t : List Nd) : Int := (t.getD ((t.length : Int) - 1).toNat default).w
def closeT (t : List Nd) : List Nd × Bool := if (!okT t || !decide (lastW t = 1)) = true then ([], false) else clR t 8 t
theorem placeT_lt {t : List Nd} {v : Int} {met : List Bool} (h : 0 ≤ placeT t v met) : (placeT t v met).toNat < t.length := by
  unfold placeT at h ⊢
  cases hf : (List.range t.length).find? (fun i => (met.getD i false && decide ((t.getD i default).op = 1)) && decide ((t.getD i default).k = v)) with
  | none => rw [hf] at h; simp at h
  | some i =>
    have := (List.find?_range_eq_some.1 hf).2.1
    simpa using this
theorem quantT_len {t : List Nd} {all : Bool} {v w : Int} : (quantT t all v w).1.length ≤ 80 := by
  unfold quantT
  split
  · exact addT_len _ _
  · exact Nat.zero_le _
theorem quantT_le {t : List Nd} {all : Bool} {v w : Int} (h : (quantT t all v w).2 = true) : t.length ≤ (quantT t all v w).1.length := by
  unfold quantT addT at h ⊢
  split
  · split
    · simp
    · rename_i h1 h2; simp [h1, h2] at h
  · rename_i h1; simp [h1] at h
theorem iCloseAll_c (t : List Nd) : Ret E.P 51 [dN t] (.tup [.l (.obj 0 0 6 0 (closeT t).1.length), TB (closeT t).2]) [some ⟨0, lN (closeT t).1⟩] := by
  refine CallsA.body (E := E) (fn := Try.f51) Try.func51 rfl fun B hB => ?_
  simp only [Try.ntmps51, go_sem, nl, Nat.reduceSub, Nat.reduceAdd, List.reduceReplicate]
  refine Wp.seqK fun K1 hK1 => ?_
  refine rg ?_
  refine hK1 _ ?_
  clear hK1 K1
  refine Wp.seqK fun K2 hK2 => ?_
  refine Wp.seqU0 [.k, .d5, .d5, .d5, .d5, .v (T (!okT t || !decide (lastW t = 1))), .d5, .d5, .d5, .d5, .d5, .d] (fun K3 hK3 => ?_) ?_
  · refine rg ?_
    refine ⟨rfl, CallK.valA (h := iTermOk_c _) (k := ?_)⟩
    refine evd ?_
    refine grdA_split rfl (fun g1_4 => ?_) (fun g1_4 => ?_)
    · try simp only [decide_eq_true_eq, decide_eq_false_iff_not] at g1_4
      refine evd ?_
      exact hK3 _ (anyS (h := by first | (simp only [g1_4, lastW, Bool.true_or, Bool.false_or] <;> rfl)))
    · try simp only [decide_eq_true_eq, decide_eq_false_iff_not] at g1_4
      have hok : okT t = true := by simpa using g1_4
      have hl := okT_len hok
      refine evd ?_
      exact hK3 _ (anyS (h := by first | (simp only [g1_4, lastW, Bool.true_or, Bool.false_or] <;> rfl)))
  rintro f3
  simp only [updT_k, updT_d, updT_d5, updT_v, updT_nil, Nat.reduceAdd]
  refine Wp.condS (fun h21 => ?_) (fun h21 => ?_)
  · have hc : closeT t = ([], false) := if_pos (by rcases h21 with h | h <;> simp [h])
    refine Wp.seqK fun K4 hK4 => ?_
    refine rg ?_
    refine hK4 _ ?_
    clear hK4 K4
    refine Wp.nilRow 2 6 rfl ?_
    simp only [List.set_cons_zero, List.set_cons_succ, List.cons_append, List.nil_append, List.length_cons, List.length_nil]
    refine Wp.ret (retRB ?_ ?_ ?_)
    all_goals rw [hc]
    all_goals rfl
  · have hok := h21.1
    have hl := okT_len hok
    have hc : closeT t = clR t 8 t := if_neg (by simp [h21])
    refine Wp.skip ?_
    refine hK2 _ ?_
    clear hK2 K2
    refine Wp.seqK fun K5 hK5 => ?_
    refine rg ?_
    refine hK5 _ ?_
    clear hK5 K5
    refine Wp.seqK fun K6 hK6 => ?_
    refine Wp.seqK fun K7 hK7 => ?_
    refine rg ?_
    refine hK7 _ ?_
    clear hK7 K7
    refine Wp.block ?_
    refine Wp.loopU (α := Nat × List Nd) (fun p => [.k, .d, .d, .d, .v (.l (.obj 0 0 6 0 p.2.length)), .v (I ((p.1 : Int) - 1)), .d5, .d5, .d5, .d5, .d5, .d5, .d5, .d5, .d, .d]) (fun p => [some ⟨0, lN p.2⟩]) (fun p => p.1 ≤ 8 ∧ 1 ≤ p.2.length ∧ p.2.length ≤ 80 ∧ clR t p.1 p.2 = clR t 8 t) (fun p => p.1) (8, t) (⟨Nat.le_refl _, hl.1, hl.2, rfl⟩) (anyS) ?_
    rintro ⟨y, o⟩ f8 K8 ⟨hy8, ho1, ho2, hr⟩ hK8
    simp only [updT_k, updT_d, updT_d5, updT_v, updT_nil, Nat.reduceAdd]
    simp only at hy8 ho1 ho2 hr
    refine Wp.seqK fun K9 hK9 => ?_
    refine Wp.seqK fun K10 hK10 => ?_
    refine rg ?_
    refine hK10 _ ?_
    clear hK10 K10
    refine Wp.condS (fun h25 => ?_) (fun h25 => ?_)
    · obtain ⟨x, rfl⟩ : ∃ x, y = x + 1 := ⟨y - 1, by omega⟩
      simp only [show ((x + 1 : Nat) : Int) - 1 = (x : Int) by omega]
      refine Wp.skip ?_
      refine hK9 _ ?_
      clear hK9 K9
      refine Wp.seqK fun K11 hK11 => ?_
      refine Wp.block ?_
      refine Wp.seqK fun K12 hK12 => ?_
      refine rg ?_
      refine ⟨rfl, CallK.valA (h := firstFree_c _ (by assumption) (by omega) _) (k := ?_)⟩
      refine evd ?_
      refine hK12 _ ?_
      clear hK12 K12
      refine Wp.seqK fun K13 hK13 => ?_
      refine Wp.seqK fun K14 hK14 => ?_
      refine rg ?_
      refine hK14 _ ?_
      clear hK14 K14
      refine Wp.condS (fun h32 => ?_) (fun h32 => ?_)
      · have hst : clR t (x + 1) o = clR t x o := by simp only [clR, h32, if_true]
        rw [hst] at hr
        refine Wp.exit ?_
        try simp only [thn, inB, if_true, reduceIte]
        clear hK13 K13
        refine hK11 _ ?_
        clear hK11 K11
        first | (refine Wp.keepQ 1 ?_ ?_ ?_; rw [hB]; rfl; exact of_decide_eq_true rfl; refine evd ?_) | (refine Wp.keepQ 0 ?_ ?_ ?_; rw [hB]; rfl; exact of_decide_eq_true rfl; refine evd ?_)
        refine rg ?_
        first | exact hK8 (x, o) _ ⟨by simp only; omega, ho1, ho2, hr⟩ (by simp only; omega) anyS | exact hK8 (x, (quantT o true (x : Nat) (t.getD (placeT t (x : Nat) (freeR t (x : Nat))).toNat default).w).1) _ ⟨by simp only; omega, by simp only; omega, hqm, hr⟩ (by simp only; omega) anyS
      · have hpl := placeT_lt (t := t) (v := (x : Nat)) (met := freeR t (x : Nat)) h32
        refine Wp.skip ?_
        refine hK13 _ ?_
        clear hK13 K13
        refine Wp.seqK fun K15 hK15 => ?_
        refine rg ?_
        refine ⟨rfl, CallK.retA (h := iQuantify_c _ _ _ _) (k := ?_)⟩
        refine evd ?_
        refine hK15 _ ?_
        clear hK15 K15
        refine Wp.seqK fun K16 hK16 => ?_
        refine Wp.seqK fun K17 hK17 => ?_
        refine rg ?_
        refine hK17 _ ?_
        clear hK17 K17
        refine Wp.condS (fun h45 => ?_) (fun h45 => ?_)
        · have hst : clR t (x + 1) o = ([], false) := by simp only [clR, show ¬ (placeT t (x : Nat) (freeR t (x : Nat))) < 0 by omega, if_false, h45, Bool.false_eq_true]
          rw [hst] at hr
          refine Wp.seqK fun K18 hK18 => ?_
          refine rg ?_
          refine hK18 _ ?_
          clear hK18 K18
          refine Wp.nilRow 2 6 rfl ?_
          simp only [List.set_cons_zero, List.set_cons_succ, List.cons_append, List.nil_append, List.length_cons, List.length_nil]
          refine Wp.ret (retRB ?_ ?_ ?_)
          all_goals rw [hc, ← hr]
          all_goals rfl
        · have hst : clR t (x + 1) o = clR t x (quantT o true (x : Nat) (t.getD (placeT t (x : Nat) (freeR t (x : Nat))).toNat default).w).1 := by simp only [clR, show ¬ (placeT t (x : Nat) (freeR t (x : Nat))) < 0 by omega, if_false, h45, if_true]
          rw [hst] at hr
          have hql := quantT_le h45
          have hqm := quantT_len (t := o) (all := true) (v := (x : Nat)) (w := (t.getD (placeT t (x : Nat) (freeR t (x : Nat))).toNat default).w)
          refine Wp.skip ?_
          refine hK16 _ ?_
          clear hK16 K16
          refine rg ?_
          try simp only [thn, inB, if_true, reduceIte]
          refine hK11 _ ?_
          clear hK11 K11
          first | (refine Wp.keepQ 1 ?_ ?_ ?_; rw [hB]; rfl; exact of_decide_eq_true rfl; refine evd ?_) | (refine Wp.keepQ 0 ?_ ?_ ?_; rw [hB]; rfl; exact of_decide_eq_true rfl; refine evd ?_)
          refine rg ?_
          first | exact hK8 (x, o) _ ⟨by simp only; omega, ho1, ho2, hr⟩ (by simp only; omega) anyS | exact hK8 (x, (quantT o true (x : Nat) (t.getD (placeT t (x : Nat) (freeR t (x : Nat))).toNat default).w).1) _ ⟨by simp only; omega, by simp only; omega, hqm, hr⟩ (by simp only; omega) anyS
    · have hy : y = 0 := by omega
      subst hy
      refine Wp.exit ?_
      try simp only [thn, inB, if_true, reduceIte]
      clear hK9 K9
      clear hK8 K8
      refine hK6 _ ?_
      clear hK6 K6
      refine Wp.seqK fun K19 hK19 => ?_
      refine rg ?_
      refine hK19 _ ?_
      clear hK19 K19
      refine Wp.ret (retRB (cs := lN o) ?_ ?_ ?_)
      all_goals rw [hc, ← hr]
      all_goals rfl
end Go.Proofs.Ytlgjogfcpgfbnaa.RE
