/- Numbers of variables, the program. Conditions: those that a theorem names. -/
import Derived.Test.YtlgjogfcpgfbnaaD1
import Derived.Test.YtlgjogfcpgfbnaaCL
import Derived.Test.YtlgjogfcpgfbnaaCJ
set_option linter.unusedVariables false
set_option linter.unusedSimpArgs false
namespace Go.Proofs.Ytlgjogfcpgfbnaa.RE
open Go Go.RowKit
set_option maxRecDepth 100000
set_option maxHeartbeats 8000000

def stepV (t : List Nd) (pf : Nat → Bool) (b : List Bool) (i : Nat) : List Bool := if (named (t.getD i default) && pf i) = true then b.set (t.getD i default).k.toNat true else b
def runV (t : List Nd) (pf : Nat → Bool) : Nat → List Bool
  | 0 => List.replicate 8 false
  | i + 1 => stepV t pf (runV t pf i) i
theorem runV_len (t : List Nd) (pf : Nat → Bool) : ∀ i, (runV t pf i).length = 8
  | 0 => rfl
  | i + 1 => by
    simp only [runV, stepV]
    split
    · rw [List.length_set, runV_len t pf i]
    · exact runV_len t pf i
theorem runV_get (t : List Nd) (pf : Nat → Bool) (v : Nat) (hv : v < 8) : ∀ i, (runV t pf i).getD v false = (List.range i).any fun j => named (t.getD j default) && pf j && decide ((t.getD j default).k.toNat = v)
  | 0 => by
    simp only [runV, List.range_zero, List.any_nil, List.getD_eq_getElem?_getD, List.getElem?_replicate]
    split <;> rfl
  | i + 1 => by
    have ih := runV_get t pf v hv i
    have hl := runV_len t pf i
    rw [List.range_succ, List.any_append, ← ih]
    simp only [List.any_cons, List.any_nil, Bool.or_false, runV, stepV]
    by_cases hc : (named (t.getD i default) && pf i) = true
    · rw [if_pos hc, hc]
      simp only [Bool.true_and]
      generalize (t.getD i default).k.toNat = z
      generalize runV t pf i = b at hl
      by_cases hk : z = v
      · subst hk; simp [List.getD_eq_getElem?_getD, hl, hv]
      · simp [List.getD_eq_getElem?_getD, hk]
    · rw [if_neg hc, Bool.eq_false_iff.2 hc]; simp
/-- Numbers of variables are 0 .. 7. -/
def NumsOk (t : List Nd) : Prop := ∀ i, i < t.length → named (t.getD i default) = true → 0 ≤ (t.getD i default).k ∧ (t.getD i default).k < 8
theorem stepV_yes {t : List Nd} {pf : Nat → Bool} {b : List Bool} {i : Nat} (h1 : named (t.getD i default) = true) (h2 : pf i = true) : stepV t pf b i = b.set (t.getD i default).k.toNat true := by
  unfold stepV; rw [if_pos (by rw [h1, h2]; rfl)]
theorem stepV_no {t : List Nd} {pf : Nat → Bool} {b : List Bool} {i : Nat} (h : (named (t.getD i default) && pf i) = false) : stepV t pf b i = b := by
  unfold stepV; rw [if_neg (by rw [h]; decide)]
theorem varsFn1_c (m : List Bool) {n : Nat} (hm : m.length = n) (i : Nat) (hi : i < m.length) : CallsA E.P 103 [I i, .l (.ptr 0 0 0)] [some ⟨0, [.obj 1 0 1 0 n]⟩, some ⟨0, m.map cb⟩] fun r ob => r = T (m.getD i false) ∧ ob = [some ⟨0, [.obj 1 0 1 0 n]⟩, some ⟨0, m.map cb⟩] := by
  subst hm
  exact varsFn_c m i hi
theorem varsOf1_c (t : List Nd) (hl : t.length ≤ 1048576) (hnum : NumsOk t) (m : List Bool) (hm : m.length = t.length)  : CallsA E.P 102 [dN t, .l (.clo 103 [(0, 0, 0)])] [some ⟨0, [.obj 1 0 1 0 t.length]⟩, some ⟨0, m.map cb⟩] fun r ob => r = .agg ((runV t (fun i => m.getD i false) t.length).map cb) ∧ ob = [some ⟨0, [.obj 1 0 1 0 t.length]⟩, some ⟨0, m.map cb⟩] := by
  refine CallsA.body (E := E) (fn := Try.f102) Try.func102 rfl fun B hB => ?_
  simp only [Try.ntmps102, go_sem, nl, Nat.reduceSub, Nat.reduceAdd, List.reduceReplicate]
  refine Wp.seqK fun K1 hK1 => ?_
  refine rg ?_
  refine hK1 _ ?_
  clear hK1 K1
  refine Wp.seqK fun K2 hK2 => ?_
  refine rg ?_
  refine hK2 _ ?_
  clear hK2 K2
  refine Wp.seqK fun K3 hK3 => ?_
  refine Wp.seqK fun K4 hK4 => ?_
  refine rg ?_
  refine hK4 _ ?_
  clear hK4 K4
  refine Wp.block ?_
  refine Wp.loopU (α := Nat) (fun x => [.d, .k, .d, .d, .k, .k, .d, .d, .d, .k, .k, .v (I x), .d5, .d5, .d5, .d]) (fun x => [some ⟨0, [.obj 1 0 1 0 t.length]⟩, some ⟨0, m.map cb⟩, some ⟨0, (List.replicate 8 false).map cb⟩, some ⟨0, (runV t (fun i => m.getD i false) x).map cb⟩]) (fun x => x ≤ t.length) (fun x => t.length - x) 0 (by omega) (anyS) ?_
  rintro x f5 K5 hx hK5
  simp only [updT_k, updT_d, updT_d5, updT_v, updT_nil, Nat.reduceAdd]
  have hvl := runV_len t (fun i => m.getD i false) x
  refine Wp.seqK fun K6 hK6 => ?_
  refine rg ?_
  refine hK6 _ ?_
  clear hK6 K6
  refine Wp.seqK fun K7 hK7 => ?_
  refine Wp.condS (fun h12 => ?_) (fun h12 => ?_)
  · have hxl : x < t.length := by omega
    refine Wp.skip ?_
    refine hK7 _ ?_
    clear hK7 K7
    refine Wp.seqK fun K8 hK8 => ?_
    refine Wp.block ?_
    refine Wp.seqK fun K9 hK9 => ?_
    refine rg ?_
    refine hK9 _ ?_
    clear hK9 K9
    refine Wp.seqU0 [.d, .k, .d, .d, .k, .k, .d, .k, .d, .k, .k, .k, .d5, .d5, .v (T (named (t.getD x default) && (fun i => m.getD i false) x)), .d5] (fun K10 hK10 => ?_) ?_
    · refine rg ?_
      refine ⟨rfl, CallK.valA (h := ofVar_c _) (k := ?_)⟩
      refine evd ?_
      refine grdA_split rfl (fun g5_3 => ?_) (fun g5_3 => ?_)
      · try simp only [decide_eq_true_eq, decide_eq_false_iff_not] at g5_3
        refine evd ?_
        refine ⟨rfl, CallK.handA 2 (o1 := _) (new := []) (by rw [List.append_nil]; exact varsFn1_c m hm x (by omega)) ?_⟩
        refine evd ?_
        exact hK10 _ (anyS (h := by first | rfl | (simp only [g5_3, Bool.true_or, Bool.or_true, Bool.false_or, Bool.or_false, Bool.true_and, Bool.and_true, Bool.false_and, Bool.and_false, Bool.not_true, Bool.not_false, decide_true, decide_false] <;> rfl)))
      · try simp only [decide_eq_true_eq, decide_eq_false_iff_not] at g5_3
        refine evd ?_
        exact hK10 _ (anyS (h := by first | rfl | (simp only [g5_3, Bool.true_or, Bool.or_true, Bool.false_or, Bool.or_false, Bool.true_and, Bool.and_true, Bool.false_and, Bool.and_false, Bool.not_true, Bool.not_false, decide_true, decide_false] <;> rfl)))
    rintro f10
    simp only [updT_k, updT_d, updT_d5, updT_v, updT_nil, Nat.reduceAdd]
    refine Wp.condS (fun h22 => ?_) (fun h22 => ?_)
    · have hk := hnum x (by omega) h22.1
      have hst := stepV_yes (t := t) (pf := (fun i => m.getD i false)) (b := runV t (fun i => m.getD i false) x) h22.1 h22.2
      refine rg ?_
      try simp only [thn, inB, if_true, reduceIte]
      refine hK8 _ ?_
      clear hK8 K8
      refine Wp.keep 4 (by simp [hB]) (by simp) ?_
      refine evd ?_
      refine rg ?_
      exact hK5 (x + 1) _ (by omega) (by omega) (anyS (ho := by simp only [runV, hst]; rfl))
    · have hst := stepV_no (t := t) (pf := (fun i => m.getD i false)) (b := runV t (fun i => m.getD i false) x) h22
      refine Wp.skip ?_
      try simp only [thn, inB, if_true, reduceIte]
      refine hK8 _ ?_
      clear hK8 K8
      refine Wp.keep 4 (by simp [hB]) (by simp) ?_
      refine evd ?_
      refine rg ?_
      exact hK5 (x + 1) _ (by omega) (by omega) (anyS (ho := by simp only [runV, hst]; rfl))
  · have hxl : x = t.length := by omega
    subst hxl
    refine Wp.exit ?_
    try simp only [thn, inB, if_true, reduceIte]
    clear hK7 K7
    clear hK5 K5
    refine hK3 _ ?_
    clear hK3 K3
    refine Wp.seqK fun K11 hK11 => ?_
    refine rg ?_
    refine hK11 _ ?_
    clear hK11 K11
    refine Wp.ret (retH (n := 2) (x := .agg ((runV t (fun i => m.getD i false) t.length).map cb)) rfl rfl (h := ?_) (hf := ?_))
    · rw [show Try.f102.results.toList = [.cell 4 110] from rfl]
      simp only [resA, resT]
      refine evd ?_
      rw [if_pos (by omega)]
    · exact flatB _
theorem okT_nums {t : List Nd} (h : okT t = true) : NumsOk t := by
  intro i hi hn
  have hs := okT_at h hi
  simp only [sRight, Bool.and_eq_true] at hs
  have hr := hs.2.2
  simp only [named, isQ, Bool.or_eq_true, decide_eq_true_eq] at hn
  rcases hn with h1 | h1
  · unfold rule at hr
    rw [if_neg (by omega), if_pos h1] at hr
    simp only [Bool.and_eq_true, decide_eq_true_eq] at hr
    omega
  · rw [rule_q h1] at hr
    simp only [Bool.and_eq_true, decide_eq_true_eq] at hr
    omega
theorem prn_any (t : List Nd) (is : List Bool) (v : Int) : ∀ i, ((prn t is i).2.any (numF v)) = (List.range i).any fun j => is.getD j false && (named (t.getD j default) && decide ((t.getD j default).k = v))
  | 0 => rfl
  | i + 1 => by
    rw [List.range_succ, List.any_append, ← prn_any t is v i]
    by_cases h : is.getD i false = true
    · simp only [prn, h, if_true, List.any_append, List.any_cons, List.any_nil, Bool.or_false, Bool.true_and, numF, renum, named]
    · simp only [prn, h, Bool.false_eq_true, if_false, List.any_cons, List.any_nil, Bool.or_false, Bool.false_and]
theorem any_congrN {l : List Nat} {f g : Nat → Bool} (h : ∀ p ∈ l, f p = g p) : l.any f = l.any g := by
  induction l with
  | nil => rfl
  | cons a l ih => rw [List.any_cons, List.any_cons, h a List.mem_cons_self, ih fun p hp => h p (List.mem_cons_of_mem _ hp)]
theorem runV_nums {t : List Nd} (h : okT t = true) : runV t (fun i => (reachT t).getD i false) t.length = numsT (pruneT t) := by
  apply List.ext_getElem?
  intro v
  by_cases hv : v < 8
  · have h1 := runV_get t (fun i => (reachT t).getD i false) v hv t.length
    rw [List.getElem?_eq_getElem (by rw [runV_len]; exact hv), List.getElem?_eq_getElem (by rw [numsT_len]; exact hv)]
    congr 1
    rw [getD_at (d := false), h1, getD_at (d := false)]
    unfold numsT pruneT
    rw [if_pos h, List.getD_eq_getElem?_getD, List.getElem?_map, List.getElem?_range hv]
    simp only [Option.map_some, Option.getD_some, numB]
    rw [prn_any]
    refine any_congrN fun j hj => ?_
    have hj := List.mem_range.1 hj
    cases hn : named (t.getD j default) with
    | false => simp
    | true =>
      have := okT_nums h j hj hn
      rw [show decide ((t.getD j default).k.toNat = v) = decide ((t.getD j default).k = (v : Int)) from decide_eq_decide.2 (by omega)]
      simp
  · rw [List.getElem?_eq_none (by rw [runV_len]; omega), List.getElem?_eq_none (by rw [numsT_len]; omega)]
theorem varsL_none (x : Nat) : varsL (numsT []) x = [] := by
  induction x with
  | zero => rfl
  | succ x ih =>
    rw [varsL_no, ih]
    unfold numsT
    rw [List.getD_eq_getElem?_getD, List.getElem?_map]
    cases (List.range 8)[x]? <;> rfl
theorem varsT_no {t : List Nd} (h : okT t = false) : varsT t = [] := by
  unfold varsT pruneT; rw [if_neg (by rw [h]; decide)]; exact varsL_none 8
theorem iVars_c (t : List Nd) : Row E.P 44 [dN t] 1 (varsT t).length ((varsT t).map ci) := by
  refine CallsA.body (E := E) (fn := Try.f44) Try.func44 rfl fun B hB => ?_
  simp only [Try.ntmps44, go_sem, nl, Nat.reduceSub, Nat.reduceAdd, List.reduceReplicate]
  refine Wp.seqK fun K1 hK1 => ?_
  refine rg ?_
  refine hK1 _ ?_
  clear hK1 K1
  refine Wp.seqK fun K2 hK2 => ?_
  refine rg ?_
  refine hK2 _ ?_
  clear hK2 K2
  refine Wp.seqK fun K3 hK3 => ?_
  refine Wp.seqK fun K4 hK4 => ?_
  refine rg ?_
  refine ⟨rfl, CallK.valA (h := iTermOk_c _) (k := ?_)⟩
  refine evd ?_
  refine hK4 _ ?_
  clear hK4 K4
  refine Wp.condS (fun h10 => ?_) (fun h10 => ?_)
  · refine Wp.seqK fun K5 hK5 => ?_
    refine rg ?_
    refine hK5 _ ?_
    clear hK5 K5
    refine Wp.ret (retR ?_ ?_ ?_)
    · rw [varsT_no h10] <;> rfl
    · rw [varsT_no h10] <;> rfl
    · rfl
  · have hok := h10
    have hl := okT_len hok
    have hrl := reachT_len t
    refine Wp.skip ?_
    refine hK3 _ ?_
    clear hK3 K3
    refine Wp.seqK fun K6 hK6 => ?_
    refine rg ?_
    refine ⟨rfl, CallK.rowA (h := reached_c _ (by assumption) (by omega)) (k := ?_)⟩
    refine evd ?_
    refine hK6 _ ?_
    clear hK6 K6
    refine Wp.seqK fun K7 hK7 => ?_
    refine Wp.seqK fun K8 hK8 => ?_
    refine rg ?_
    refine ⟨rfl, CallK.passS [2, 1] (varsOf1_c t (by omega) (okT_nums hok) (reachT t) (by omega)) ?_ (hv := flatB _)⟩
    refine evd ?_
    simp only [runV_nums hok]
    refine hK8 _ ?_
    clear hK8 K8
    refine Wp.block ?_
    refine Wp.loopU (α := Nat) (fun x => [.d, .d, .d, .v (.l (.obj 0 (varsL (numsT (pruneT t)) x).length 1 0 (varsL (numsT (pruneT t)) x).length)), .d5, .d5, .d, .d, .k, .v (I x), .d5, .d5]) (fun x => [some ⟨(varsL (numsT (pruneT t)) x).length, (varsL (numsT (pruneT t)) x).map ci⟩, some ⟨0, (reachT t).map cb⟩, some ⟨0, [.obj 1 0 1 0 t.length]⟩]) (fun x => x ≤ 8) (fun x => 8 - x) 0 (by omega) (anyS) ?_
    rintro x f9 K9 hx hK9
    simp only [updT_k, updT_d, updT_d5, updT_v, updT_nil, Nat.reduceAdd]
    have hnl := numsT_len (pruneT t)
    have hvl := varsL_len (numsT (pruneT t)) x
    refine Wp.seqK fun K10 hK10 => ?_
    refine rg ?_
    refine hK10 _ ?_
    clear hK10 K10
    refine Wp.seqK fun K11 hK11 => ?_
    refine Wp.condS (fun h18 => ?_) (fun h18 => ?_)
    · refine Wp.skip ?_
      refine hK11 _ ?_
      clear hK11 K11
      refine Wp.seqK fun K12 hK12 => ?_
      refine Wp.block ?_
      refine Wp.seqK fun K13 hK13 => ?_
      refine rg ?_
      refine hK13 _ ?_
      clear hK13 K13
      refine Wp.seqK fun K14 hK14 => ?_
      refine rg ?_
      refine hK14 _ ?_
      clear hK14 K14
      refine Wp.condS (fun h21 => ?_) (fun h21 => ?_)
      · have hf := varsL_yes h21
        refine rg ?_
        try simp only [thn, inB, if_true, reduceIte]
        refine hK12 _ ?_
        clear hK12 K12
        refine Wp.keep 3 (by simp [hB]) (by simp) ?_
        refine evd ?_
        refine rg ?_
        exact hK9 (x + 1) _ (by omega) (by omega) (anyS (h := by rw [hf] <;> first | rfl | (simp only [List.length_append, List.length_cons, List.length_nil, Nat.zero_add] <;> rfl)) (ho := by rw [hf] <;> first | rfl | (simp only [List.length_append, List.length_cons, List.length_nil, Nat.zero_add] <;> rfl)))
      · have hf := varsL_no h21
        refine Wp.skip ?_
        try simp only [thn, inB, if_true, reduceIte]
        refine hK12 _ ?_
        clear hK12 K12
        refine Wp.keep 3 (by simp [hB]) (by simp) ?_
        refine evd ?_
        refine rg ?_
        exact hK9 (x + 1) _ (by omega) (by omega) (anyS (h := by rw [hf] <;> first | rfl | (simp only [List.length_append, List.length_cons, List.length_nil, Nat.zero_add] <;> rfl)) (ho := by rw [hf] <;> first | rfl | (simp only [List.length_append, List.length_cons, List.length_nil, Nat.zero_add] <;> rfl)))
    · have hx8 : x = 8 := by omega
      subst hx8
      refine Wp.exit ?_
      try simp only [thn, inB, if_true, reduceIte]
      clear hK11 K11
      clear hK9 K9
      refine hK7 _ ?_
      clear hK7 K7
      refine Wp.seqK fun K15 hK15 => ?_
      refine rg ?_
      refine hK15 _ ?_
      clear hK15 K15
      refine Wp.ret (retR (cs := (varsT t).map ci) rfl rfl (flatI _))
theorem lawVars_c (t : List Nd) (hlen : (t.length : Int) ≤ 9223372036854775807) : Val E.P 10 [dN t] (T true) := by
  refine CallsA.body (E := E) (fn := Try.f10) Try.func10 rfl fun B hB => ?_
  simp only [Try.ntmps10, go_sem, nl, Nat.reduceSub, Nat.reduceAdd, List.reduceReplicate]
  have hvt : (varsT t).length ≤ 8 := varsL_len _ _
  have hmk := markI_len (varsT t).length 1
  refine Wp.seqK fun K1 hK1 => ?_
  refine rg ?_
  refine hK1 _ ?_
  clear hK1 K1
  refine Wp.seqK fun K2 hK2 => ?_
  refine rg ?_
  refine hK2 _ ?_
  clear hK2 K2
  refine Wp.seqK fun K3 hK3 => ?_
  refine rg ?_
  refine ⟨rfl, CallK.valA (h := szNodeS_c _ _ (by omega) (by omega) (by omega)) (k := ?_)⟩
  refine evd ?_
  refine hK3 _ ?_
  clear hK3 K3
  refine Wp.seqK fun K4 hK4 => ?_
  refine Wp.seqK fun K5 hK5 => ?_
  refine rg ?_
  refine hK5 _ ?_
  clear hK5 K5
  refine Wp.condS (fun h15 => ?_) (fun h15 => ?_)
  · refine Wp.seqK fun K6 hK6 => ?_
    refine rg ?_
    refine hK6 _ ?_
    clear hK6 K6
    refine Wp.ret (retV ?_)
    simp only [List.getD_cons_zero, List.getD_cons_succ]
    try rfl
  · have hsz : t.length ≤ 1048576 := by
      split at h15 <;> omega
    refine Wp.skip ?_
    refine hK4 _ ?_
    clear hK4 K4
    refine Wp.seqK fun K7 hK7 => ?_
    refine rg ?_
    refine ⟨rfl, CallK.rowA (h := toNodeS_c _ (by omega)) (k := ?_)⟩
    refine evd ?_
    refine ⟨rfl, CallK.rowA (h := sVars_c _) (k := ?_)⟩
    refine evd ?_
    refine hK7 _ ?_
    clear hK7 K7
    refine Wp.seqK fun K8 hK8 => ?_
    refine rg ?_
    refine ⟨rfl, CallK.rowA (h := toNodeS_c _ (by omega)) (k := ?_)⟩
    refine evd ?_
    refine hK8 _ ?_
    clear hK8 K8
    refine Wp.seqK fun K9 hK9 => ?_
    refine rg ?_
    refine ⟨rfl, CallK.rowA (h := iVars_c _) (k := ?_)⟩
    refine evd ?_
    refine hK9 _ ?_
    clear hK9 K9
    refine Wp.seqK fun K10 hK10 => ?_
    refine Wp.seqK fun K11 hK11 => ?_
    refine rg ?_
    refine ⟨rfl, CallK.valA (h := eqIntS_c _ _ (by omega) (by omega)) (k := ?_)⟩
    refine evd ?_
    refine hK11 _ ?_
    clear hK11 K11
    refine Wp.condS (fun h26 => ?_) (fun h26 => ?_)
    · first | exact h26.elim | exact absurd h26 (by decide) | omega | simp at h26
    · refine Wp.skip ?_
      refine hK10 _ ?_
      clear hK10 K10
      refine Wp.seqK fun K12 hK12 => ?_
      refine Wp.seqK fun K13 hK13 => ?_
      refine rg ?_
      refine ⟨rfl, CallK.rowA (h := toNodeS_c _ (by omega)) (k := ?_)⟩
      refine evd ?_
      refine ⟨rfl, CallK.valA (h := eqNodeS_c _ _ (by omega)) (k := ?_)⟩
      refine evd ?_
      refine hK13 _ ?_
      clear hK13 K13
      refine Wp.condS (fun h31 => ?_) (fun h31 => ?_)
      · first | exact h31.elim | exact absurd h31 (by decide) | omega | simp at h31
      · refine Wp.skip ?_
        refine hK12 _ ?_
        clear hK12 K12
        refine Wp.seqK fun K14 hK14 => ?_
        refine rg ?_
        refine hK14 _ ?_
        clear hK14 K14
        refine Wp.seqK fun K15 hK15 => ?_
        refine rg ?_
        refine ⟨rfl, CallK.giveA 2 (markNodeS_c t 0 1 (by omega) (by omega) (by omega)) ?_⟩
        refine evd ?_
        refine hK15 _ ?_
        clear hK15 K15
        refine Wp.seqK fun K16 hK16 => ?_
        refine Wp.seqU0 [.k, .d, .d, .d, .k, .d, .k, .d5, .d5, .d5, .d5, .d5, .d5, .d5, .v (T false), .d5, .d5, .d5, .d5, .d5, .d] (fun K17 hK17 => ?_) ?_
        · refine rg ?_
          refine grdA_split rfl (fun g14_3 => ?_) (fun g14_3 => ?_)
          · try simp only [decide_eq_true_eq, decide_eq_false_iff_not] at g14_3
            exfalso; omega
          · try simp only [decide_eq_true_eq, decide_eq_false_iff_not] at g14_3
            refine evd ?_
            refine ⟨rfl, CallK.valA (h := eqIntS_c _ _ (by omega) (by omega)) (k := ?_)⟩
            refine evd ?_
            exact hK17 _ (anyS (h := by first | rfl | (simp only [g14_3, Bool.true_or, Bool.or_true, Bool.false_or, Bool.or_false, Bool.true_and, Bool.and_true, Bool.false_and, Bool.and_false, Bool.not_true, Bool.not_false, decide_true, decide_false] <;> rfl)))
        rintro f17
        simp only [updT_k, updT_d, updT_d5, updT_v, updT_nil, Nat.reduceAdd]
        refine Wp.condS (fun h42 => ?_) (fun h42 => ?_)
        · first | exact h42.elim | exact absurd h42 (by decide) | omega | simp at h42
        · refine Wp.skip ?_
          refine hK16 _ ?_
          clear hK16 K16
          refine Wp.seqK fun K18 hK18 => ?_
          refine rg ?_
          refine hK18 _ ?_
          clear hK18 K18
          refine Wp.seqK fun K19 hK19 => ?_
          refine rg ?_
          refine ⟨rfl, CallK.giveA 3 (markIntS_c (varsT t) 0 1 (by omega) (by omega) (by omega)) ?_⟩
          refine evd ?_
          refine hK19 _ ?_
          clear hK19 K19
          refine Wp.seqK fun K20 hK20 => ?_
          refine rg ?_
          refine hK20 _ ?_
          clear hK20 K20
          refine Wp.seqK fun K21 hK21 => ?_
          refine rg ?_
          refine ⟨rfl, CallK.valA (h := heldIntS_c _ _ (by omega) (by omega) (by omega)) (k := ?_)⟩
          refine evd ?_
          refine hK21 _ ?_
          clear hK21 K21
          refine Wp.seqK fun K22 hK22 => ?_
          refine Wp.seqK fun K23 hK23 => ?_
          refine rg ?_
          refine hK23 _ ?_
          clear hK23 K23
          refine Wp.condS (fun h50 => ?_) (fun h50 => ?_)
          · first | exact h50.elim | exact absurd h50 (by decide) | omega | simp at h50
          · refine Wp.skip ?_
            refine hK22 _ ?_
            clear hK22 K22
            refine Wp.seqK fun K24 hK24 => ?_
            refine Wp.seqK fun K25 hK25 => ?_
            refine rg ?_
            refine hK25 _ ?_
            clear hK25 K25
            refine Wp.condS (fun h53 => ?_) (fun h53 => ?_)
            · first | exact h53.elim | exact absurd h53 (by decide) | omega | simp at h53
            · refine Wp.skip ?_
              refine hK24 _ ?_
              clear hK24 K24
              refine Wp.seqK fun K26 hK26 => ?_
              refine rg ?_
              refine ⟨rfl, CallK.rowA (h := toNodeS_c _ (by omega)) (k := ?_)⟩
              refine evd ?_
              refine ⟨rfl, CallK.rowA (h := iVars_c _) (k := ?_)⟩
              refine evd ?_
              refine hK26 _ ?_
              clear hK26 K26
              refine Wp.seqK fun K27 hK27 => ?_
              refine Wp.seqK fun K28 hK28 => ?_
              refine rg ?_
              refine ⟨rfl, CallK.valA (h := eqIntS_c _ _ (by omega) (by omega)) (k := ?_)⟩
              refine evd ?_
              refine hK28 _ ?_
              clear hK28 K28
              refine Wp.condS (fun h60 => ?_) (fun h60 => ?_)
              · first | exact h60.elim | exact absurd h60 (by decide) | omega | simp at h60
              · refine Wp.skip ?_
                refine hK27 _ ?_
                clear hK27 K27
                refine Wp.seqK fun K29 hK29 => ?_
                refine rg ?_
                refine hK29 _ ?_
                clear hK29 K29
                refine Wp.seqK fun K30 hK30 => ?_
                refine rg ?_
                refine ⟨rfl, CallK.valA (h := heldIntS_c _ _ (by omega) (by omega) (by omega)) (k := ?_)⟩
                refine evd ?_
                refine hK30 _ ?_
                clear hK30 K30
                refine Wp.seqK fun K31 hK31 => ?_
                refine Wp.seqK fun K32 hK32 => ?_
                refine rg ?_
                refine hK32 _ ?_
                clear hK32 K32
                refine Wp.condS (fun h65 => ?_) (fun h65 => ?_)
                · first | exact h65.elim | exact absurd h65 (by decide) | omega | simp at h65
                · refine Wp.skip ?_
                  refine hK31 _ ?_
                  clear hK31 K31
                  refine Wp.seqK fun K33 hK33 => ?_
                  refine Wp.seqK fun K34 hK34 => ?_
                  refine rg ?_
                  refine hK34 _ ?_
                  clear hK34 K34
                  refine Wp.condS (fun h68 => ?_) (fun h68 => ?_)
                  · first | exact h68.elim | exact absurd h68 (by decide) | omega | simp at h68
                  · refine Wp.skip ?_
                    refine hK33 _ ?_
                    clear hK33 K33
                    refine Wp.seqK fun K35 hK35 => ?_
                    refine rg ?_
                    refine hK35 _ ?_
                    clear hK35 K35
                    refine Wp.ret (retV ?_)
                    simp only [List.getD_cons_zero, List.getD_cons_succ]
                    try rfl
end Go.Proofs.Ytlgjogfcpgfbnaa.RE
