/- A node behind a term, the reference. Conditions: those that a theorem names. -/
import Derived.Test.YtlgjogfcpgfbnaaD6
import Derived.Test.YtlgjogfcpgfbnaaD4
import Derived.Test.YtlgjogfcpgfbnaaF7
import Derived.Test.YtlgjogfcpgfbnaaCJ
/-! A node behind a term, the reference. Conditions: those that a theorem names. -/
set_option linter.unusedVariables false
set_option linter.unusedSimpArgs false
namespace Go.Proofs.Ytlgjogfcpgfbnaa.RE
open Go Go.RowKit
set_option maxRecDepth 100000
set_option maxHeartbeats 8000000

theorem quantT_bh (t : List Nd) (n : Nd) : (if okT t = true then addT t n else ([], false)) = if (!okT t || !okT (t ++ [n])) = true then (([], false) : List Nd × Bool) else (t ++ [n], true) := by
  unfold addT
  cases okT t <;> cases okT (t ++ [n]) <;> rfl
def bhT (t : List Nd) (n : Nd) : List Nd × Bool := if okT t = true then addT t n else ([], false)
theorem bhT_q (t : List Nd) (all : Bool) (v w : Int) : bhT t (qnode all v w t.length) = quantT t all v w := rfl
theorem l15Behind_c (t : List Nd) (n : Nd) (hl : t.length ≤ 1048576) : Ret E.P 89 [dN t, .agg (nl n)] (.tup [.l (.obj 0 0 6 0 (bhT t n).1.length), TB (bhT t n).2]) [some ⟨0, lN (bhT t n).1⟩] := by
  refine CallsA.body (E := E) (fn := Try.f89) Try.func89 rfl fun B hB => ?_
  simp only [Try.ntmps89, go_sem, nl, Nat.reduceSub, Nat.reduceAdd, List.reduceReplicate]
  refine Wp.seqK fun K1 hK1 => ?_
  refine rg ?_
  refine hK1 _ ?_
  clear hK1 K1
  refine Wp.seqK fun K2 hK2 => ?_
  refine Wp.drawT [0] [0, 2, 4, 5] (.one 1 (.one 3 (.two 0 4 (.two 2 4 (.one 4 (.one 5 (.one 6 .done))) (.one 2 (.one 5 (.one 6 .done)))) (.one 0 (.one 2 (.one 5 (.one 6 .done))))))) rfl (by kernel_rfl) ?_
  refine evd ?_
  refine ⟨?_, ?_⟩
  · try refine evd ?_
    refine ⟨?_, ?_⟩
    · try refine evd ?_
      refine hK2 _ ?_
      clear hK2 K2
      refine Wp.keepQ 1 ?_ ?_ ?_
      rw [hB]; rfl
      exact of_decide_eq_true rfl
      refine evd ?_
      refine Wp.seqK fun K3 hK3 => ?_
      refine Wp.seqU0 [.d5, .d, .k, .d5, .d5, .d, .d, .d, .v (T (!okT t || !okT (t ++ [n]))), .d, .d] (fun K4 hK4 => ?_) ?_
      · refine rg ?_
        refine ⟨rfl, CallK.valA (h := sTermOk_c _) (k := ?_)⟩
        refine evd ?_
        refine grdA_split rfl (fun g2_4 => ?_) (fun g2_4 => ?_)
        · try simp only [decide_eq_true_eq, decide_eq_false_iff_not] at g2_4
          refine evd ?_
          exact hK4 _ (anyS (h := by first | rfl | (simp only [g2_4, Bool.true_or, Bool.or_true, Bool.false_or, Bool.or_false, Bool.true_and, Bool.and_true, Bool.false_and, Bool.and_false, Bool.not_true, Bool.not_false, decide_true, decide_false, eq_self, Int.reduceEq] <;> rfl)))
        · try simp only [decide_eq_true_eq, decide_eq_false_iff_not] at g2_4
          refine evd ?_
          refine ⟨rfl, CallK.valA (h := sTermOk_c _) (k := ?_)⟩
          refine evd ?_
          exact hK4 _ (anyS (h := by first | rfl | (simp only [g2_4, Bool.true_or, Bool.or_true, Bool.false_or, Bool.or_false, Bool.true_and, Bool.and_true, Bool.false_and, Bool.and_false, Bool.not_true, Bool.not_false, decide_true, decide_false, eq_self, Int.reduceEq] <;> rfl)))
      rintro f4
      simp only [updT_k, updT_d, updT_d5, updT_v, updT_nil, Nat.reduceAdd]
      refine Wp.condS (fun h20 => ?_) (fun h20 => ?_)
      · have hc : bhT t n = ([], false) := by
          unfold bhT; rw [quantT_bh, if_pos (by rcases h20 with h | h <;> simp [h])]
        refine Wp.seqK fun K5 hK5 => ?_
        refine rg ?_
        refine hK5 _ ?_
        clear hK5 K5
        refine Wp.ret (retRB (cs := []) ?_ ?_ ?_)
        all_goals rw [hc]
        all_goals rfl
      · have hc : bhT t n = (t ++ [n], true) := by
          unfold bhT; rw [quantT_bh, if_neg (by simp [h20])]
        refine Wp.skip ?_
        refine hK3 _ ?_
        clear hK3 K3
        refine Wp.seqK fun K6 hK6 => ?_
        refine rg ?_
        refine hK6 _ ?_
        clear hK6 K6
        refine Wp.ret (retRB (cs := lN (t ++ [n])) ?_ ?_ ?_)
        · rw [hc]; simp only [List.length_append, List.length_cons, List.length_nil]
        · rw [hc]
        · rw [hc]
    · try refine evd ?_
      refine hK2 _ ?_
      clear hK2 K2
      refine Wp.keepQ 1 ?_ ?_ ?_
      rw [hB]; rfl
      exact of_decide_eq_true rfl
      refine evd ?_
      refine Wp.seqK fun K7 hK7 => ?_
      refine Wp.seqU0 [.d5, .d, .k, .d5, .d5, .d, .d, .d, .v (T (!okT t || !okT (t ++ [n]))), .d, .d] (fun K8 hK8 => ?_) ?_
      · refine rg ?_
        refine ⟨rfl, CallK.valA (h := sTermOk_c _) (k := ?_)⟩
        refine evd ?_
        refine grdA_split rfl (fun g2_4 => ?_) (fun g2_4 => ?_)
        · try simp only [decide_eq_true_eq, decide_eq_false_iff_not] at g2_4
          refine evd ?_
          exact hK8 _ (anyS (h := by first | rfl | (simp only [g2_4, Bool.true_or, Bool.or_true, Bool.false_or, Bool.or_false, Bool.true_and, Bool.and_true, Bool.false_and, Bool.and_false, Bool.not_true, Bool.not_false, decide_true, decide_false, eq_self, Int.reduceEq] <;> rfl)))
        · try simp only [decide_eq_true_eq, decide_eq_false_iff_not] at g2_4
          refine evd ?_
          refine ⟨rfl, CallK.valA (h := sTermOk_c _) (k := ?_)⟩
          refine evd ?_
          exact hK8 _ (anyS (h := by first | rfl | (simp only [g2_4, Bool.true_or, Bool.or_true, Bool.false_or, Bool.or_false, Bool.true_and, Bool.and_true, Bool.false_and, Bool.and_false, Bool.not_true, Bool.not_false, decide_true, decide_false, eq_self, Int.reduceEq] <;> rfl)))
      rintro f8
      simp only [updT_k, updT_d, updT_d5, updT_v, updT_nil, Nat.reduceAdd]
      refine Wp.condS (fun h20 => ?_) (fun h20 => ?_)
      · have hc : bhT t n = ([], false) := by
          unfold bhT; rw [quantT_bh, if_pos (by rcases h20 with h | h <;> simp [h])]
        refine Wp.seqK fun K9 hK9 => ?_
        refine rg ?_
        refine hK9 _ ?_
        clear hK9 K9
        refine Wp.ret (retRB (cs := []) ?_ ?_ ?_)
        all_goals rw [hc]
        all_goals rfl
      · have hc : bhT t n = (t ++ [n], true) := by
          unfold bhT; rw [quantT_bh, if_neg (by simp [h20])]
        refine Wp.skip ?_
        refine hK7 _ ?_
        clear hK7 K7
        refine Wp.seqK fun K10 hK10 => ?_
        refine rg ?_
        refine hK10 _ ?_
        clear hK10 K10
        refine Wp.ret (retRB (cs := lN (t ++ [n])) ?_ ?_ ?_)
        · rw [hc]; simp only [List.length_append, List.length_cons, List.length_nil]
        · rw [hc]
        · rw [hc]
  · try refine evd ?_
    refine hK2 _ ?_
    clear hK2 K2
    refine Wp.keepQ 2 ?_ ?_ ?_
    rw [hB]; rfl
    exact of_decide_eq_true rfl
    refine evd ?_
    refine Wp.seqK fun K11 hK11 => ?_
    refine Wp.seqU0 [.d5, .d, .k, .d5, .d5, .d, .d, .d, .v (T (!okT t || !okT (t ++ [n]))), .d, .d] (fun K12 hK12 => ?_) ?_
    · refine rg ?_
      refine ⟨rfl, CallK.valA (h := sTermOk_c _) (k := ?_)⟩
      refine evd ?_
      refine grdA_split rfl (fun g2_4 => ?_) (fun g2_4 => ?_)
      · try simp only [decide_eq_true_eq, decide_eq_false_iff_not] at g2_4
        refine evd ?_
        exact hK12 _ (anyS (h := by first | rfl | (simp only [g2_4, Bool.true_or, Bool.or_true, Bool.false_or, Bool.or_false, Bool.true_and, Bool.and_true, Bool.false_and, Bool.and_false, Bool.not_true, Bool.not_false, decide_true, decide_false, eq_self, Int.reduceEq] <;> rfl)))
      · try simp only [decide_eq_true_eq, decide_eq_false_iff_not] at g2_4
        refine evd ?_
        refine ⟨rfl, CallK.valA (h := sTermOk_c _) (k := ?_)⟩
        refine evd ?_
        exact hK12 _ (anyS (h := by first | rfl | (simp only [g2_4, Bool.true_or, Bool.or_true, Bool.false_or, Bool.or_false, Bool.true_and, Bool.and_true, Bool.false_and, Bool.and_false, Bool.not_true, Bool.not_false, decide_true, decide_false, eq_self, Int.reduceEq] <;> rfl)))
    rintro f12
    simp only [updT_k, updT_d, updT_d5, updT_v, updT_nil, Nat.reduceAdd]
    refine Wp.condS (fun h20 => ?_) (fun h20 => ?_)
    · have hc : bhT t n = ([], false) := by
        unfold bhT; rw [quantT_bh, if_pos (by rcases h20 with h | h <;> simp [h])]
      refine Wp.seqK fun K13 hK13 => ?_
      refine rg ?_
      refine hK13 _ ?_
      clear hK13 K13
      refine Wp.ret (retRB (cs := []) ?_ ?_ ?_)
      all_goals rw [hc]
      all_goals rfl
    · have hc : bhT t n = (t ++ [n], true) := by
        unfold bhT; rw [quantT_bh, if_neg (by simp [h20])]
      refine Wp.skip ?_
      refine hK11 _ ?_
      clear hK11 K11
      refine Wp.seqK fun K14 hK14 => ?_
      refine rg ?_
      refine hK14 _ ?_
      clear hK14 K14
      refine Wp.ret (retRB (cs := lN (t ++ [n])) ?_ ?_ ?_)
      · rw [hc]; simp only [List.length_append, List.length_cons, List.length_nil]
      · rw [hc]
      · rw [hc]
theorem sQuantify_c (t : List Nd) (all : Bool) (v w : Int) (hl : t.length ≤ 1048576) : Ret E.P 32 [dN t, T all, I v, I w] (.tup [.l (.obj 0 0 6 0 (quantT t all v w).1.length), TB (quantT t all v w).2]) [some ⟨0, lN (quantT t all v w).1⟩] := by
  refine CallsA.body (E := E) (fn := Try.f32) Try.func32 rfl fun B hB => ?_
  simp only [Try.ntmps32, go_sem, nl, Nat.reduceSub, Nat.reduceAdd, List.reduceReplicate]
  refine Wp.seqK fun K1 hK1 => ?_
  refine rg ?_
  refine hK1 _ ?_
  clear hK1 K1
  refine Wp.seqK fun K2 hK2 => ?_
  refine rg ?_
  refine hK2 _ ?_
  clear hK2 K2
  refine Wp.seqU0 [.k, .d, .k, .k, .d5, .d, .v (I (if all = true then 19 else 20)), .d5, .d5, .d, .d] (fun K3 hK3 => ?_) ?_
  · refine Wp.seqK fun K4 hK4 => ?_
    refine rg ?_
    refine hK4 _ ?_
    clear hK4 K4
    refine Wp.condS (fun h11 => ?_) (fun h11 => ?_)
    · refine rg ?_
      exact hK3 _ (anyS (h := by rw [h11]; rfl))
    · refine Wp.skip ?_
      exact hK3 _ (anyS (h := by rw [h11]; rfl))
  rintro f3
  simp only [updT_k, updT_d, updT_d5, updT_v, updT_nil, Nat.reduceAdd]
  refine Wp.seqK fun K5 hK5 => ?_
  refine rg ?_
  refine ⟨rfl, CallK.retA (h := l15Behind_c t (qnode all v w t.length) (by omega)) (k := ?_)⟩
  refine evd ?_
  refine hK5 _ ?_
  clear hK5 K5
  refine Wp.ret (retRB (cs := lN (bhT t (qnode all v w t.length)).1) ?_ ?_ ?_)
  all_goals rw [bhT_q]
end Go.Proofs.Ytlgjogfcpgfbnaa.RE
/-! Levels, what is reached. Conditions: those that a theorem names. -/
set_option linter.unusedVariables false
set_option linter.unusedSimpArgs false
namespace Go.Proofs.Ytlgjogfcpgfbnaa.RE
open Go Go.RowKit
set_option maxRecDepth 100000
set_option maxHeartbeats 8000000

def mxL (b : List Int) (ps : List Int) : Int := ps.foldl (fun m p => max m (b.getD p.toNat 0)) 0
def levL (t : List Nd) : Nat → List Int
  | 0 => []
  | x + 1 => levL t x ++ [mxL (levL t x) (parts (t.getD x default)) + 1]
def levelT (t : List Nd) : Int := if okT t = true then (levL t t.length).getD (t.length - 1) 0 else 0
theorem levL_len (t : List Nd) : ∀ x, (levL t x).length = x
  | 0 => rfl
  | x + 1 => by simp [levL, levL_len t x]
theorem levL_push (t : List Nd) (x : Nat) : levL t x ++ [mxL (levL t x) (parts (t.getD x default)) + 1] = levL t (x + 1) := rfl
theorem mxL_push {b ps : List Int} {k : Nat} (h : k < ps.length) : mxL b (ps.take (k + 1)) = max (mxL b (ps.take k)) (b.getD (ps.getD k 0).toNat 0) := by
  unfold mxL
  rw [take_push 0 h, List.foldl_append]; rfl
theorem mxL_le {b : List Int} {c : Int} (hb : ∀ i, b.getD i 0 ≤ c) (hc : 0 ≤ c) : ∀ (ps : List Int), 0 ≤ mxL b ps ∧ mxL b ps ≤ c := by
  suffices h : ∀ (ps : List Int) (m : Int), 0 ≤ m → m ≤ c → 0 ≤ ps.foldl (fun m p => max m (b.getD p.toNat 0)) m ∧ ps.foldl (fun m p => max m (b.getD p.toNat 0)) m ≤ c from fun ps => h ps 0 (Int.le_refl _) hc
  intro ps
  induction ps with
  | nil => exact fun m h1 h2 => ⟨h1, h2⟩
  | cons p ps ih =>
    intro m h1 h2
    have := hb p.toNat
    exact ih (max m (b.getD p.toNat 0)) (by omega) (by omega)
theorem levL_b (t : List Nd) : ∀ x i, 0 ≤ (levL t x).getD i 0 ∧ (levL t x).getD i 0 ≤ (x : Int)
  | 0, i => by simp [levL]
  | x + 1, i => by
    have ih := levL_b t x
    have hm := mxL_le (b := levL t x) (c := x) (fun i => (ih i).2) (by omega) (parts (t.getD x default))
    have hl := levL_len t x
    simp only [levL]
    by_cases hi : i < x
    · rw [List.getD_eq_getElem?_getD, List.getElem?_append_left (by omega), ← List.getD_eq_getElem?_getD]
      have := ih i
      omega
    · by_cases he : i = x
      · subst he
        rw [List.getD_eq_getElem?_getD, List.getElem?_append_right (by omega), hl, Nat.sub_self]
        simp only [List.getElem?_cons_zero, Option.getD_some]
        omega
      · rw [List.getD_eq_getElem?_getD, List.getElem?_eq_none (by simp; omega)]
        simp only [Option.getD_none]
        omega
attribute [go_sem] levL_len
theorem sLevel_c (t : List Nd) : Val E.P 24 [dN t] (I (levelT t)) := by
  refine CallsA.body (E := E) (fn := Try.f24) Try.func24 rfl fun B hB => ?_
  simp only [Try.ntmps24, go_sem, nl, Nat.reduceSub, Nat.reduceAdd, List.reduceReplicate]
  refine Wp.seqK fun K1 hK1 => ?_
  refine rg ?_
  refine hK1 _ ?_
  clear hK1 K1
  refine Wp.seqK fun K2 hK2 => ?_
  refine Wp.seqK fun K3 hK3 => ?_
  refine rg ?_
  refine ⟨rfl, CallK.valA (h := sTermOk_c _) (k := ?_)⟩
  refine evd ?_
  refine hK3 _ ?_
  clear hK3 K3
  refine Wp.condS (fun h10 => ?_) (fun h10 => ?_)
  · have hs : levelT t = 0 := if_neg (by rw [h10]; decide)
    refine Wp.seqK fun K4 hK4 => ?_
    refine rg ?_
    refine hK4 _ ?_
    clear hK4 K4
    refine Wp.ret (retV ?_)
    try simp only [List.getD_cons_zero, List.getD_cons_succ]
    rw [hs]
  · have hok := h10
    have hl := okT_len hok
    have hpo := okT_parts hok
    have hs : levelT t = (levL t t.length).getD (t.length - 1) 0 := if_pos hok
    refine Wp.skip ?_
    refine hK2 _ ?_
    clear hK2 K2
    refine Wp.seqK fun K5 hK5 => ?_
    refine rg ?_
    refine hK5 _ ?_
    clear hK5 K5
    refine Wp.seqK fun K6 hK6 => ?_
    refine Wp.seqK fun K7 hK7 => ?_
    refine rg ?_
    refine hK7 _ ?_
    clear hK7 K7
    refine Wp.block ?_
    refine Wp.loopU (α := Nat) (fun x => [.k, .d, .d, .v (.l (.obj 0 x 1 0 x)), .v (I x), .d5, .d5, .d5, .d5, .d5, .d5, .d5, .d5, .d5, .d5, .d]) (fun x => [some ⟨x, (levL t x).map ci⟩]) (fun x => x ≤ t.length) (fun x => t.length - x) 0 (by omega) (anyS) ?_
    rintro x f8 K8 hx hK8
    simp only [updT_k, updT_d, updT_d5, updT_v, updT_nil, Nat.reduceAdd]
    have hll := levL_len t x
    refine Wp.seqK fun K9 hK9 => ?_
    refine Wp.seqK fun K10 hK10 => ?_
    refine rg ?_
    refine hK10 _ ?_
    clear hK10 K10
    refine Wp.condS (fun h15 => ?_) (fun h15 => ?_)
    · have hxl : x < t.length := by omega
      have hpp := hpo x hxl
      have hpl := parts_len (t.getD x default)
      refine Wp.skip ?_
      refine hK9 _ ?_
      clear hK9 K9
      refine Wp.seqK fun K11 hK11 => ?_
      refine Wp.block ?_
      refine Wp.seqK fun K12 hK12 => ?_
      refine rg ?_
      refine hK12 _ ?_
      clear hK12 K12
      refine Wp.seqK fun K13 hK13 => ?_
      refine rg ?_
      refine ⟨rfl, CallK.rowA (h := sParts_c _) (k := ?_)⟩
      refine evd ?_
      refine hK13 _ ?_
      clear hK13 K13
      refine Wp.seqK fun K14 hK14 => ?_
      refine Wp.seqK fun K15 hK15 => ?_
      refine rg ?_
      refine hK15 _ ?_
      clear hK15 K15
      refine Wp.block ?_
      refine Wp.loopU (α := Nat) (fun k => [.k, .d, .d, .k, .k, .v (I (mxL (levL t x) ((parts (t.getD x default)).take k))), .k, .v (I k), .d5, .d5, .d5, .d5, .d5, .d5, .d5, .d5, .d5, .d, .d, .d]) (fun k => [some ⟨x, (levL t x).map ci⟩, some ⟨0, (parts (t.getD x default)).map ci⟩]) (fun k => k ≤ (parts (t.getD x default)).length) (fun k => (parts (t.getD x default)).length - k) 0 (by omega) (anyS) ?_
      rintro k f16 K16 hk hK16
      simp only [updT_k, updT_d, updT_d5, updT_v, updT_nil, Nat.reduceAdd]
      refine Wp.seqK fun K17 hK17 => ?_
      refine Wp.seqK fun K18 hK18 => ?_
      refine rg ?_
      refine hK18 _ ?_
      clear hK18 K18
      refine Wp.condS (fun h26 => ?_) (fun h26 => ?_)
      · have hkl : k < (parts (t.getD x default)).length := by omega
        have hpk := hpp ((parts (t.getD x default)).getD k 0) (by rw [← getD_at hkl]; exact List.getElem_mem hkl)
        have hlb := levL_b t x ((parts (t.getD x default)).getD k 0).toNat
        refine Wp.skip ?_
        refine hK17 _ ?_
        clear hK17 K17
        refine Wp.seqU0 [.k, .d, .d, .k, .k, .v (I (max (mxL (levL t x) ((parts (t.getD x default)).take k)) ((levL t x).getD ((parts (t.getD x default)).getD k 0).toNat 0))), .k, .k, .d5, .d5, .d5, .d5, .d5, .d5, .d5, .d5, .d5, .d, .d, .d] (fun K19 hK19 => ?_) ?_
        · refine Wp.block ?_
          refine Wp.seqK fun K20 hK20 => ?_
          refine rg ?_
          refine hK20 _ ?_
          clear hK20 K20
          refine Wp.condS (fun h37 => ?_) (fun h37 => ?_)
          · refine rg ?_
            try simp only [thn, inB, if_true, reduceIte]
            exact hK19 _ (anyS (h := by rw [Int.max_eq_right (by omega)] <;> rfl))
          · refine Wp.skip ?_
            try simp only [thn, inB, if_true, reduceIte]
            exact hK19 _ (anyS (h := by rw [Int.max_eq_left (by omega)] <;> rfl))
        rintro f19
        simp only [updT_k, updT_d, updT_d5, updT_v, updT_nil, Nat.reduceAdd]
        refine rg ?_
        exact hK16 (k + 1) _ (by omega) (by omega) (anyS (h := by rw [mxL_push hkl] <;> rfl))
      · have hkl : k = (parts (t.getD x default)).length := by omega
        subst hkl
        simp only [List.take_length]
        have hm := mxL_le (b := levL t x) (c := x) (fun i => (levL_b t x i).2) (by omega) (parts (t.getD x default))
        refine Wp.exit ?_
        try simp only [thn, inB, if_true, reduceIte]
        clear hK17 K17
        clear hK16 K16
        refine hK14 _ ?_
        clear hK14 K14
        refine rg ?_
        try simp only [thn, inB, if_true, reduceIte]
        refine hK11 _ ?_
        clear hK11 K11
        refine Wp.keep 1 (by simp [hB]) (by simp) ?_
        refine evd ?_
        refine rg ?_
        exact hK8 (x + 1) _ (by omega) (by omega) (anyS (ho := by rw [← levL_push] <;> rfl))
    · have hxl : x = t.length := by omega
      subst hxl
      refine Wp.exit ?_
      try simp only [thn, inB, if_true, reduceIte]
      clear hK9 K9
      clear hK8 K8
      refine hK6 _ ?_
      clear hK6 K6
      refine Wp.seqK fun K21 hK21 => ?_
      refine rg ?_
      refine hK21 _ ?_
      clear hK21 K21
      refine Wp.ret (retV ?_)
      try simp only [List.getD_cons_zero, List.getD_cons_succ]
      rw [hs] <;> first | rfl | (rw [show ((t.length : Int) - 1).toNat = t.length - 1 by omega])

theorem getD_ci {l : List Int} {i : Nat} (h : i < l.length) : (l.map ci).getD i .dead = .sc (.int .i64 (l.getD i 0)) := by
  simp [List.getD_eq_getElem?_getD, h, ci]
def lvZ (t : List Nd) (x : Nat) : List Int := levL t x ++ List.replicate (t.length - x) 0
theorem lvZ_len {t : List Nd} {x : Nat} (h : x ≤ t.length) : (lvZ t x).length = t.length := by simp [lvZ, levL_len]; omega
theorem lvZ_at {t : List Nd} {x p : Nat} (h : p < x) (d : Int) : (lvZ t x).getD p d = (levL t x).getD p d := by
  unfold lvZ
  rw [List.getD_eq_getElem?_getD, List.getElem?_append_left (by rw [levL_len]; omega), ← List.getD_eq_getElem?_getD]
theorem lvZ_set {t : List Nd} {x : Nat} (h : x < t.length) : (lvZ t x).set x (mxL (levL t x) (parts (t.getD x default)) + 1) = lvZ t (x + 1) := by
  unfold lvZ
  rw [List.set_append_right _ _ (by rw [levL_len]; exact Nat.le_refl _), levL_len, Nat.sub_self, show t.length - x = t.length - (x + 1) + 1 by omega, List.replicate_succ, List.set_cons_zero]
  simp [levL]
theorem lvZ_0 (t : List Nd) : lvZ t 0 = List.replicate t.length 0 := by simp [lvZ, levL]
theorem lvZ_end (t : List Nd) : lvZ t t.length = levL t t.length := by simp [lvZ]
theorem lvs_at {t : List Nd} {x : Nat} (h : x < t.length) (v d : Int) : ((lvZ t x).set x v).getD x d = v := by
  rw [List.getD_eq_getElem?_getD, List.getElem?_set_self (by rw [lvZ_len (by omega)]; exact h)]; rfl
theorem lvs_ne {t : List Nd} {x p : Nat} (h : p < x) (v d : Int) : ((lvZ t x).set x v).getD p d = (levL t x).getD p d := by
  rw [List.getD_eq_getElem?_getD, List.getElem?_set_ne (by omega), ← List.getD_eq_getElem?_getD, lvZ_at h]
theorem map_ci_rep (n : Nat) : List.replicate n (LV.sc (.int .i64 0)) = (List.replicate n (0 : Int)).map ci := by simp [ci]
theorem iLevel_c (t : List Nd) (hlb : t.length ≤ 1048576) : Val E.P 26 [dN t] (I (levelT t)) := by
  refine CallsA.body (E := E) (fn := Try.f26) Try.func26 rfl fun B hB => ?_
  simp only [Try.ntmps26, go_sem, nl, Nat.reduceSub, Nat.reduceAdd, List.reduceReplicate]
  refine Wp.seqK fun K1 hK1 => ?_
  refine rg ?_
  refine hK1 _ ?_
  clear hK1 K1
  refine Wp.seqK fun K2 hK2 => ?_
  refine Wp.seqK fun K3 hK3 => ?_
  refine rg ?_
  refine ⟨rfl, CallK.valA (h := iTermOk_c _) (k := ?_)⟩
  refine evd ?_
  refine hK3 _ ?_
  clear hK3 K3
  refine Wp.condS (fun h10 => ?_) (fun h10 => ?_)
  · have hs : levelT t = 0 := if_neg (by rw [h10]; decide)
    refine Wp.seqK fun K4 hK4 => ?_
    refine rg ?_
    refine hK4 _ ?_
    clear hK4 K4
    refine Wp.ret (retV ?_)
    try simp only [List.getD_cons_zero, List.getD_cons_succ]
    rw [hs]
  · have hok := h10
    have hl := okT_len hok
    have hpo := okT_parts hok
    have hs : levelT t = (levL t t.length).getD (t.length - 1) 0 := if_pos hok
    refine Wp.skip ?_
    refine hK2 _ ?_
    clear hK2 K2
    refine Wp.seqK fun K5 hK5 => ?_
    refine rg ?_
    refine hK5 _ ?_
    clear hK5 K5
    refine Wp.seqK fun K6 hK6 => ?_
    refine Wp.seqK fun K7 hK7 => ?_
    refine rg ?_
    refine hK7 _ ?_
    clear hK7 K7
    refine Wp.block ?_
    refine Wp.loopU (α := Nat) (fun x => [.k, .d, .d, .k, .d5, .d5, .k, .k, .v (I x), .d5, .d5, .d5, .d5, .d5, .d5, .d5]) (fun x => [some ⟨0, (lvZ t x).map ci⟩]) (fun x => x ≤ t.length) (fun x => t.length - x) 0 (by omega) (anyS (ho := by rw [lvZ_0] <;> first | rfl | (simp only [map_ci_rep] <;> rfl) | (simp [ci]))) ?_
    rintro x f8 K8 hx hK8
    simp only [updT_k, updT_d, updT_d5, updT_v, updT_nil, Nat.reduceAdd]
    have hll := lvZ_len hx
    refine Wp.seqK fun K9 hK9 => ?_
    refine rg ?_
    refine hK9 _ ?_
    clear hK9 K9
    refine Wp.seqK fun K10 hK10 => ?_
    refine Wp.condS (fun h17 => ?_) (fun h17 => ?_)
    · have hxl : x < t.length := by omega
      have hpp := hpo x hxl
      have hpl := parts_len (t.getD x default)
      refine Wp.skip ?_
      refine hK10 _ ?_
      clear hK10 K10
      refine Wp.seqK fun K11 hK11 => ?_
      refine Wp.block ?_
      refine Wp.seqK fun K12 hK12 => ?_
      refine rg ?_
      refine hK12 _ ?_
      clear hK12 K12
      refine Wp.seqK fun K13 hK13 => ?_
      refine rg ?_
      refine hK13 _ ?_
      clear hK13 K13
      refine Wp.seqK fun K14 hK14 => ?_
      refine rg ?_
      refine ⟨rfl, CallK.rowA (h := iParts_c _) (k := ?_)⟩
      refine evd ?_
      refine hK14 _ ?_
      clear hK14 K14
      refine Wp.block ?_
      refine Wp.loopU (α := Nat) (fun k => [.k, .d, .d, .k, .k, .d5, .d, .d, .d, .d, .k, .k, .k, .d5, .d, .d, .d, .k, .k, .v (I k), .d5, .d5, .d5, .d5, .d, .d, .d, .d]) (fun k => [some ⟨0, ((lvZ t x).set x ((mxL (levL t x) ((parts (t.getD x default)).take k)) + 1)).map ci⟩, some ⟨0, nl (t.getD x default)⟩, some ⟨0, (parts (t.getD x default)).map ci⟩]) (fun k => k ≤ (parts (t.getD x default)).length) (fun k => (parts (t.getD x default)).length - k) 0 (by omega) (anyS) ?_
      rintro k f15 K15 hk hK15
      simp only [updT_k, updT_d, updT_d5, updT_v, updT_nil, Nat.reduceAdd]
      have hsl : ((lvZ t x).set x ((mxL (levL t x) ((parts (t.getD x default)).take k)) + 1)).length = t.length := by rw [List.length_set, hll]
      refine Wp.seqK fun K16 hK16 => ?_
      refine rg ?_
      refine hK16 _ ?_
      clear hK16 K16
      refine Wp.seqK fun K17 hK17 => ?_
      refine Wp.condS (fun h28 => ?_) (fun h28 => ?_)
      · have hkl : k < (parts (t.getD x default)).length := by omega
        have hpk := hpp ((parts (t.getD x default)).getD k 0) (by rw [← getD_at hkl]; exact List.getElem_mem hkl)
        have hlb := levL_b t x ((parts (t.getD x default)).getD k 0).toNat
        have hm := mxL_le (b := levL t x) (c := x) (fun i => (levL_b t x i).2) (by omega) ((parts (t.getD x default)).take k)
        have e1 := lvs_at hxl ((mxL (levL t x) ((parts (t.getD x default)).take k)) + 1) 0
        have e2 := lvs_ne (t := t) (x := x) (p := ((parts (t.getD x default)).getD k 0).toNat) (by omega) ((mxL (levL t x) ((parts (t.getD x default)).take k)) + 1) 0
        have e3 : (if ((lvZ t x).set x ((mxL (levL t x) ((parts (t.getD x default)).take k)) + 1)).getD ((parts (t.getD x default)).getD k 0).toNat 0 + 1 > (mxL (levL t x) ((parts (t.getD x default)).take k)) + 1 then ((lvZ t x).set x ((mxL (levL t x) ((parts (t.getD x default)).take k)) + 1)).getD ((parts (t.getD x default)).getD k 0).toNat 0 + 1 else (mxL (levL t x) ((parts (t.getD x default)).take k)) + 1) = max (mxL (levL t x) ((parts (t.getD x default)).take k)) ((levL t x).getD ((parts (t.getD x default)).getD k 0).toNat 0) + 1 := by
          rw [e2]
          split <;> omega
        refine Wp.skip ?_
        refine hK17 _ ?_
        clear hK17 K17
        refine Wp.seqK fun K18 hK18 => ?_
        refine Wp.block ?_
        refine Wp.seqK fun K19 hK19 => ?_
        refine rg ?_
        refine hK19 _ ?_
        clear hK19 K19
        refine Wp.drawI [0, 1, 2] [] (by kernel_rfl) ?_
        refine evd ?_
        try simp only [thn, inB, if_true, reduceIte]
        refine hK18 _ ?_
        clear hK18 K18
        refine rg ?_
        exact hK15 (k + 1) _ (by omega) (by omega) (anyS (ho := by rw [mxL_push hkl, ← e3] <;> rfl))
      · have hkl : k = (parts (t.getD x default)).length := by omega
        subst hkl
        simp only [List.take_length]
        refine Wp.exit ?_
        try simp only [thn, inB, if_true, reduceIte]
        clear hK17 K17
        clear hK15 K15
        try simp only [thn, inB, if_true, reduceIte]
        refine hK11 _ ?_
        clear hK11 K11
        refine Wp.keep 1 (by simp [hB]) (by simp) ?_
        refine evd ?_
        refine rg ?_
        exact hK8 (x + 1) _ (by omega) (by omega) (anyS (ho := by rw [lvZ_set hxl] <;> rfl))
    · have hxl : x = t.length := by omega
      subst hxl
      simp only [lvZ_end]
      refine Wp.exit ?_
      try simp only [thn, inB, if_true, reduceIte]
      clear hK10 K10
      clear hK8 K8
      refine hK6 _ ?_
      clear hK6 K6
      refine Wp.seqK fun K20 hK20 => ?_
      refine rg ?_
      refine hK20 _ ?_
      clear hK20 K20
      refine Wp.ret (retV ?_)
      try simp only [List.getD_cons_zero, List.getD_cons_succ]
      rw [hs]
      try rw [show ((t.length : Int) - 1).toNat = t.length - 1 by omega]
      try rw [getD_ci (by rw [levL_len]; omega)]

def metL (b : List Bool) (x : Nat) : List Int := ((List.range x).filter fun i => b.getD i false).map fun (i : Nat) => (i : Int)
def reachedT (t : List Nd) : List Int := if okT t = true then metL (reachT t) t.length else []
theorem metL_yes {b : List Bool} {x : Nat} (h : b.getD x false = true) : metL b (x + 1) = metL b x ++ [(x : Int)] := by
  unfold metL
  rw [List.range_succ, List.filter_append, List.map_append, List.filter_cons_of_pos (by exact h)]; rfl
theorem metL_no {b : List Bool} {x : Nat} (h : b.getD x false = false) : metL b (x + 1) = metL b x := by
  unfold metL
  rw [List.range_succ, List.filter_append, List.map_append, List.filter_cons_of_neg (by rw [h]; decide)]; simp
theorem metL_len (b : List Bool) (x : Nat) : (metL b x).length ≤ x := by
  unfold metL
  rw [List.length_map]
  exact Nat.le_trans (List.length_filter_le _ _) (by simp)
theorem iReached_c (t : List Nd) : Row E.P 60 [dN t] 1 (reachedT t).length ((reachedT t).map ci) := by
  refine CallsA.body (E := E) (fn := Try.f60) Try.func60 rfl fun B hB => ?_
  simp only [Try.ntmps60, go_sem, nl, Nat.reduceSub, Nat.reduceAdd, List.reduceReplicate]
  refine Wp.seqK fun K1 hK1 => ?_
  refine rg ?_
  refine hK1 _ ?_
  clear hK1 K1
  refine Wp.seqK fun K2 hK2 => ?_
  refine rg ?_
  refine hK2 _ ?_
  clear hK2 K2
  refine Wp.seqK fun K3 hK3 => ?_
  refine Wp.seqK fun K4 hK4 => ?_
  refine rg ?_
  refine ⟨rfl, CallK.valA (h := iTermOk_c _) (k := ?_)⟩
  refine evd ?_
  refine hK4 _ ?_
  clear hK4 K4
  refine Wp.condS (fun h9 => ?_) (fun h9 => ?_)
  · have hs : reachedT t = [] := if_neg (by rw [h9]; decide)
    refine Wp.seqK fun K5 hK5 => ?_
    refine rg ?_
    refine hK5 _ ?_
    clear hK5 K5
    refine Wp.ret (retR (cs := (reachedT t).map ci) ?_ rfl (flatI _) (ho := ?_))
    · rw [hs] <;> rfl
    · rw [hs] <;> rfl
  · have hok := h9
    have hl := okT_len hok
    have hs : reachedT t = metL (reachT t) t.length := if_pos hok
    have hrl := reachT_len t
    refine Wp.skip ?_
    refine hK3 _ ?_
    clear hK3 K3
    refine Wp.seqK fun K6 hK6 => ?_
    refine Wp.seqK fun K7 hK7 => ?_
    refine rg ?_
    refine ⟨rfl, CallK.rowA (h := reached_c _ (by assumption) (by omega)) (k := ?_)⟩
    refine evd ?_
    refine hK7 _ ?_
    clear hK7 K7
    refine Wp.block ?_
    refine Wp.loopU (α := Nat) (fun x => [.d, .d, .d, .v (.l (.obj 0 (metL (reachT t) x).length 1 0 (metL (reachT t) x).length)), .d5, .d, .d, .d, .k, .k, .v (I x), .d5, .d5, .d]) (fun x => [some ⟨(metL (reachT t) x).length, (metL (reachT t) x).map ci⟩, some ⟨0, (reachT t).map cb⟩]) (fun x => x ≤ t.length) (fun x => t.length - x) 0 (by omega) (anyS) ?_
    rintro x f8 K8 hx hK8
    simp only [updT_k, updT_d, updT_d5, updT_v, updT_nil, Nat.reduceAdd]
    have hml := metL_len (reachT t) x
    refine Wp.seqK fun K9 hK9 => ?_
    refine rg ?_
    refine hK9 _ ?_
    clear hK9 K9
    refine Wp.seqK fun K10 hK10 => ?_
    refine Wp.condS (fun h15 => ?_) (fun h15 => ?_)
    · have hxl : x < t.length := by omega
      refine Wp.skip ?_
      refine hK10 _ ?_
      clear hK10 K10
      refine Wp.seqU (α := Obs) (fun o => [.d, .d, .d, .v (.l (.obj 0 (metL (reachT t) (x + 1)).length 1 0 (metL (reachT t) (x + 1)).length)), .d5, .d, .d, .d, .k, .k, .k, .d5, .d5, .d]) (fun o => (some ⟨(metL (reachT t) (x + 1)).length, (metL (reachT t) (x + 1)).map ci⟩ :: some ⟨0, (reachT t).map cb⟩ :: o)) (fun o => True) (fun K11 hK11 => ?_) ?_
      · refine Wp.block ?_
        refine Wp.seqK fun K12 hK12 => ?_
        refine rg ?_
        refine hK12 _ ?_
        clear hK12 K12
        refine Wp.seqK fun K13 hK13 => ?_
        refine rg ?_
        refine hK13 _ ?_
        clear hK13 K13
        refine Wp.condS (fun h19 => ?_) (fun h19 => ?_)
        · have hm := metL_yes h19
          refine rg ?_
          try simp only [thn, inB, if_true, reduceIte]
          exact hK11 [some ⟨0, [ci (x : Int)]⟩] _ trivial (anyS (h := by rw [hm, List.length_append] <;> rfl) (ho := by rw [hm, List.length_append] <;> rfl))
        · have hm := metL_no h19
          refine Wp.skip ?_
          try simp only [thn, inB, if_true, reduceIte]
          exact hK11 [] _ trivial (anyS (h := by rw [hm] <;> rfl) (ho := by rw [hm] <;> rfl))
      rintro o f11 _
      simp only [updT_k, updT_d, updT_d5, updT_v, updT_nil, Nat.reduceAdd]
      refine Wp.keep 2 (by simp [hB]) (by simp) ?_
      refine evd ?_
      refine rg ?_
      exact hK8 (x + 1) _ (by omega) (by omega) anyS
    · have hxl : x = t.length := by omega
      subst hxl
      refine Wp.exit ?_
      try simp only [thn, inB, if_true, reduceIte]
      clear hK10 K10
      clear hK8 K8
      refine hK6 _ ?_
      clear hK6 K6
      refine Wp.seqK fun K14 hK14 => ?_
      refine rg ?_
      refine hK14 _ ?_
      clear hK14 K14
      refine Wp.keepQ 0 ?_ ?_ ?_
      rw [hB]; rfl
      exact of_decide_eq_true rfl
      refine evd ?_
      refine Wp.ret (retR (cs := (reachedT t).map ci) ?_ rfl (flatI _) (ho := ?_))
      · rw [hs]
      · rw [hs]; rfl
end Go.Proofs.Ytlgjogfcpgfbnaa.RE
/-! FnCounts: what is counted. Conditions: those that a theorem names. -/
set_option linter.unusedVariables false
set_option linter.unusedSimpArgs false
namespace Go.Proofs.Ytlgjogfcpgfbnaa.RE
open Go Go.RowKit
set_option maxRecDepth 100000
set_option maxHeartbeats 8000000

theorem countP_add {p q r : Nat → Bool} (h : ∀ j, (if r j = true then 1 else 0) = (if p j = true then 1 else 0) + (if q j = true then 1 else 0)) : ∀ l : List Nat, l.countP r = l.countP p + l.countP q
  | [] => rfl
  | j :: l => by
    have := countP_add h l
    have := h j
    simp only [List.countP_cons]
    omega
def opsB (t : List Nd) (m : Nat) (j : Nat) : Bool := (reachT t).getD j false && decide (0 ≤ (t.getD j default).op ∧ (t.getD j default).op < (m : Int))
def sumC (t : List Nd) : Nat → Int
  | 0 => 0
  | m + 1 => sumC t m + countT t m
theorem sumC_eq {t : List Nd} (hok : okT t = true) : ∀ m, sumC t m = ((List.range t.length).countP (opsB t m) : Nat)
  | 0 => by
    have h : (List.range t.length).countP (opsB t 0) = 0 := by
      rw [List.countP_eq_zero]
      intro j _
      simp only [opsB, Bool.and_eq_true, decide_eq_true_eq]
      omega
    rw [h]; rfl
  | m + 1 => by
    have ih := sumC_eq hok m
    have h := countP_add (p := opsB t m) (q := cntF t m) (r := opsB t (m + 1)) (fun j => by
      simp only [opsB, cntF, Bool.and_eq_true, decide_eq_true_eq]
      by_cases h1 : (reachT t).getD j false = true
      · simp only [h1, true_and]
        by_cases h2 : (t.getD j default).op = (m : Int)
        · rw [if_pos (by omega), if_neg (by omega), if_pos h2]
        · by_cases h3 : 0 ≤ (t.getD j default).op ∧ (t.getD j default).op < (m : Int)
          · rw [if_pos (by omega), if_pos h3, if_neg h2]
          · rw [if_neg (by omega), if_neg h3, if_neg h2]
      · rw [if_neg (fun e => h1 e.1), if_neg (fun e => h1 e.1), if_neg (fun e => h1 e.1)]) (List.range t.length)
    simp only [sumC]
    rw [ih, countT_eq, if_pos hok, cntN, h]
    omega
theorem okT_op {t : List Nd} (h : okT t = true) {i : Nat} (hi : i < t.length) : 0 ≤ (t.getD i default).op ∧ (t.getD i default).op ≤ 20 := by
  have hs := okT_at h hi
  simp only [sRight, Bool.and_eq_true] at hs
  have hr := hs.2.2
  by_cases hc : ¬ (t.getD i default).op = 0 ∧ ¬ (t.getD i default).op = 1 ∧ ¬ (t.getD i default).op = 2 ∧ ¬ (3 ≤ (t.getD i default).op ∧ (t.getD i default).op ≤ 12) ∧ ¬ (13 ≤ (t.getD i default).op ∧ (t.getD i default).op ≤ 15) ∧ ¬ (t.getD i default).op = 16 ∧ ¬ (t.getD i default).op = 17 ∧ ¬ (t.getD i default).op = 18 ∧ ¬ ((t.getD i default).op = 19 ∨ (t.getD i default).op = 20)
  · rw [rule_no hc] at hr; cases hr
  · omega
theorem countP_congr' {p q : Nat → Bool} : ∀ {l : List Nat}, (∀ j ∈ l, p j = q j) → l.countP p = l.countP q
  | [], _ => rfl
  | j :: l, h => by
    simp only [List.countP_cons]
    rw [countP_congr' fun i hi => h i (List.mem_cons_of_mem _ hi), h j (List.mem_cons_self ..)]
def rc' (t : List Nd) (x : Nat) : Nat := (List.range x).countP fun j => (reachT t).getD j false
theorem sumC_21 {t : List Nd} (hok : okT t = true) : sumC t 21 = (rc' t t.length : Nat) := by
  rw [sumC_eq hok]
  unfold rc'
  rw [countP_congr' (q := fun j => (reachT t).getD j false)]
  intro j hj
  have := okT_op hok (i := j) (by simpa using hj)
  unfold opsB
  rw [decide_eq_true (by omega), Bool.and_true]
theorem sumC_no {t : List Nd} (h : okT t = false) : ∀ m, sumC t m = 0
  | 0 => rfl
  | m + 1 => by simp only [sumC]; rw [sumC_no h m, countT_eq, if_neg (by rw [h]; decide)]; rfl
theorem reached_len (t : List Nd) : ((reachedT t).length : Int) = sumC t 21 := by
  cases h : okT t with
  | true =>
    rw [sumC_21 h]
    unfold reachedT metL rc'
    rw [if_pos h, List.length_map, List.countP_eq_length_filter]
  | false =>
    rw [sumC_no h]
    unfold reachedT
    rw [if_neg (by rw [h]; decide)]; rfl
theorem countT_b (t : List Nd) (op : Int) : 0 ≤ countT t op ∧ countT t op ≤ 80 := by
  unfold countT
  have := pruneT_len' t
  have := List.countP_le_length (p := fun n : Nd => decide (n.op = op)) (l := pruneT t)
  omega
theorem sumC_b (t : List Nd) : ∀ m, 0 ≤ sumC t m ∧ sumC t m ≤ 80 * (m : Int)
  | 0 => by simp [sumC]
  | m + 1 => by
    have := sumC_b t m
    have := countT_b t m
    simp only [sumC]
    omega
/-! ### No way is longer than there are nodes -/
theorem levL_at (t : List Nd) : ∀ {x i : Nat}, i < x → (levL t x).getD i 0 = mxL (levL t i) (parts (t.getD i default)) + 1
  | x + 1, i, h => by
    have hl := levL_len t x
    simp only [levL]
    by_cases hi : i < x
    · rw [List.getD_eq_getElem?_getD, List.getElem?_append_left (by omega), ← List.getD_eq_getElem?_getD]
      exact levL_at t hi
    · have he : i = x := by omega
      subst he
      rw [List.getD_eq_getElem?_getD, List.getElem?_append_right (by omega), hl, Nat.sub_self]
      rfl
theorem mxL_at {b : List Int} {c : Int} (hc : 0 ≤ c) : ∀ {ps : List Int}, (∀ p ∈ ps, b.getD p.toNat 0 ≤ c) → mxL b ps ≤ c := by
  suffices h : ∀ (ps : List Int) (m : Int), m ≤ c → (∀ p ∈ ps, b.getD p.toNat 0 ≤ c) → ps.foldl (fun m p => max m (b.getD p.toNat 0)) m ≤ c from fun {ps} hp => h ps 0 hc hp
  intro ps
  induction ps with
  | nil => exact fun m h1 _ => h1
  | cons p ps ih =>
    intro m h1 h2
    have := h2 p (List.mem_cons_self ..)
    exact ih (max m (b.getD p.toNat 0)) (by omega) (fun q hq => h2 q (List.mem_cons_of_mem _ hq))
theorem rc_mono (t : List Nd) {x y : Nat} (h : x ≤ y) : rc' t x ≤ rc' t y := by
  induction y with
  | zero => rw [Nat.le_zero.1 h]; exact Nat.le_refl _
  | succ y ih =>
    by_cases he : x = y + 1
    · rw [he]; exact Nat.le_refl _
    · have := ih (by omega)
      unfold rc' at *
      rw [range_push]
      omega
theorem rc_yes {t : List Nd} {x : Nat} (h : (reachT t).getD x false = true) : rc' t (x + 1) = rc' t x + 1 := by
  unfold rc'
  rw [range_push, if_pos h]
theorem lev_le {t : List Nd} (hok : okT t = true) : ∀ (n i : Nat), i < n → i < t.length → (reachT t).getD i false = true → (levL t (i + 1)).getD i 0 ≤ (rc' t (i + 1) : Nat)
  | 0, i, h, _, _ => absurd h (Nat.not_lt_zero i)
  | n + 1, i, h, hi, hr => by
    have hpo := okT_parts hok
    have hro := reachP_ok (fun _ => true) hpo
    rw [levL_at t (Nat.lt_succ_self i), rc_yes hr]
    have := mxL_at (b := levL t i) (c := (rc' t i : Nat)) (by omega) (ps := parts (t.getD i default)) fun p hp => by
      have hb := hpo i hi p hp
      have hpr : (reachT t).getD p.toNat false = true := hro.clo i hr rfl p hp
      have ih := lev_le hok n p.toNat (by omega) (by omega) hpr
      rw [levL_at t (Nat.lt_succ_self _)] at ih
      rw [levL_at t (show p.toNat < i by omega)]
      have := rc_mono t (show p.toNat + 1 ≤ i by omega)
      omega
    omega
theorem level_le (t : List Nd) : levelT t ≤ sumC t 21 := by
  cases h : okT t with
  | true =>
    have hl := okT_len h
    have hro := reachP_ok (fun _ => true) (okT_parts h)
    rw [sumC_21 h]
    unfold levelT
    rw [if_pos h]
    have := lev_le h t.length (t.length - 1) (by omega) (by omega) (hro.root (by omega))
    rwa [show t.length - 1 + 1 = t.length by omega] at this
  | false =>
    rw [sumC_no h]
    unfold levelT
    rw [if_neg (by rw [h]; decide)]; omega
theorem levL_app (t u : List Nd) : ∀ x, x ≤ t.length → levL (t ++ u) x = levL t x
  | 0, _ => rfl
  | x + 1, h => by
    simp only [levL]
    rw [levL_app t u x (by omega)]
    congr 4
    rw [List.getD_eq_getElem?_getD, List.getElem?_append_left (by omega), ← List.getD_eq_getElem?_getD]
theorem levelT_b (t : List Nd) : 0 ≤ levelT t ∧ levelT t ≤ 80 := by
  unfold levelT
  split
  · rename_i h
    have := okT_len h
    have := levL_b t t.length (t.length - 1)
    omega
  · omega
theorem level_quant {t : List Nd} {all : Bool} {v w : Int} (h : (quantT t all v w).2 = true) : levelT (quantT t all v w).1 = levelT t + 1 := by
  unfold quantT at h ⊢
  by_cases hok : okT t = true
  · rw [if_pos hok] at h ⊢
    unfold addT at h ⊢
    by_cases hq : okT (t ++ [qnode all v w t.length]) = true
    · rw [if_pos hq]
      have hl := okT_len hok
      show levelT (t ++ [qnode all v w t.length]) = _
      unfold levelT
      rw [if_pos hq, if_pos hok]
      have hlen : (t ++ [qnode all v w t.length]).length = t.length + 1 := by simp
      rw [hlen, Nat.add_sub_cancel, levL_at _ (Nat.lt_succ_self _), levL_app t _ t.length (Nat.le_refl _)]
      have hn : (t ++ [qnode all v w t.length]).getD t.length default = qnode all v w t.length := by
        rw [List.getD_eq_getElem?_getD, List.getElem?_append_right (Nat.le_refl _), Nat.sub_self]; rfl
      rw [hn, parts_1 (n := qnode all v w t.length) (by unfold qnode; cases all <;> simp)]
      have hb := levL_b t t.length (t.length - 1)
      have hi : ((t.length : Int) - 1).toNat = t.length - 1 := by omega
      show max 0 ((levL t t.length).getD ((t.length : Int) - 1).toNat 0) + 1 = _
      rw [hi, Int.max_eq_right hb.1]
    · rw [if_neg hq] at h; cases h
  · rw [if_neg hok] at h; cases h
end Go.Proofs.Ytlgjogfcpgfbnaa.RE
