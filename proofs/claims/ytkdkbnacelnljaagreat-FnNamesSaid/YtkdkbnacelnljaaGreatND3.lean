/- Free variables, the program. Conditions: those that a theorem names. -/
import Derived.Test.YtkdkbnacelnljaaGreatNCX
import Derived.Test.YtkdkbnacelnljaaGreatNRS
set_option linter.unusedVariables false
set_option linter.unusedSimpArgs false
namespace Go.Proofs.YtkdkbnacelnljaaGreat.RE
open Go Go.RowKit
set_option maxRecDepth 100000
set_option maxHeartbeats 8000000

def placeT (t : List Nd) (v : Int) (met : List Bool) : Int := match (List.range t.length).find? (fun i => (met.getD i false && decide ((t.getD i default).op = 1)) && decide ((t.getD i default).k = v)) with
  | some i => i
  | none => -1
theorem find_yes {n x : Nat} {f : Nat → Bool} (hx : x < n) (h : f x = true) (hb : ∀ j, j < x → f j = false) : (List.range n).find? f = some x := by
  rw [List.find?_range_eq_some]
  exact ⟨h, by simpa using hx, fun j hj => by rw [hb j hj]; rfl⟩
theorem find_no {n : Nat} {f : Nat → Bool} (hb : ∀ j, j < n → f j = false) : (List.range n).find? f = none := by
  rw [List.find?_range_eq_none]
  exact fun j hj => by rw [hb j hj]; rfl
theorem freeFn_c (t : List Nd) (hl : t.length ≤ 1048576) (v : Int) (i : Nat) (hi : i < t.length) : CallsA E.P 120 [I i, .l (.ptr 0 0 0), .l (.ptr 1 0 0)] [some ⟨0, [.dsl true t.length (encN t)]⟩, some ⟨0, [ci v]⟩] fun r ob => r = T (passV t v i) ∧ ob = [some ⟨0, [.dsl true t.length (encN t)]⟩, some ⟨0, [ci v]⟩] := by
  refine CallsA.body (E := E) (fn := Tryz.f120) Tryz.func120 rfl fun B hB => ?_
  simp only [Tryz.ntmps120, go_sem, nl, Nat.reduceSub, Nat.reduceAdd, List.reduceReplicate]
  refine Wp.seqK fun K1 hK1 => ?_
  refine rg ?_
  refine hK1 _ ?_
  clear hK1 K1
  refine Wp.seqU0 [.d, .d, .d, .d, .v (T (passV t v i)), .d5, .d5, .d5] (fun K2 hK2 => ?_) ?_
  · refine Wp.drawI [0, 1, 2, 3, 4, 5, 6, 7] [4] (by kernel_rfl) ?_
    refine evd ?_
    refine ⟨rfl, CallK.valA (h := isQuant_c _) (k := ?_)⟩
    refine evd ?_
    refine grdA_split rfl (fun g1_7 => ?_) (fun g1_7 => ?_)
    · try simp only [decide_eq_true_eq, decide_eq_false_iff_not] at g1_7
      have hp : passV t v i = true := by unfold passV; rw [g1_7]; rfl
      refine evd ?_
      exact hK2 _ (anyS (h := by rw [hp]; rfl))
    · try simp only [decide_eq_true_eq, decide_eq_false_iff_not] at g1_7
      have hp : passV t v i = !decide ((t.getD i default).k = v) := by unfold passV; rw [g1_7]; rfl
      refine evd ?_
      exact hK2 _ (anyS (h := by rw [hp]; rfl))
  rintro f2
  simp only [updT_k, updT_d, updT_d5, updT_v, updT_nil, Nat.reduceAdd]
  refine Wp.ret (retH (n := 2) rfl rfl)
theorem step_nx {t : List Nd} {pf : Nat → Bool} {i : Nat} {b : List Bool} (h : b.getD i false = false ∨ pf i = false) : stepR t pf i b = b := step_no (by rcases h with h | h <;> rw [h] <;> simp)
theorem step_yx {t : List Nd} {pf : Nat → Bool} {i : Nat} {b : List Bool} (h : b.getD i false = true ∧ pf i = true) : stepR t pf i b = mark b (parts (t.getD i default)) := step_yes (by rw [h.1, h.2]; rfl)
/-- What is marked when the places from x on are done. -/
def bR (t : List Nd) (pf : Nat → Bool) (x : Nat) : List Bool := if h : x < t.length then stepR t pf x (bR t pf (x + 1)) else rootR t.length
termination_by t.length - x
theorem bR_top (t : List Nd) (pf : Nat → Bool) : bR t pf t.length = rootR t.length := by rw [bR]; simp
theorem bR_step {t : List Nd} {pf : Nat → Bool} {x : Nat} (h : x < t.length) : bR t pf x = stepR t pf x (bR t pf (x + 1)) := by rw [bR, dif_pos h]
theorem bR_run (t : List Nd) (pf : Nat → Bool) : ∀ x, x ≤ t.length → runR t pf x (bR t pf x) = bR t pf 0
  | 0, _ => rfl
  | x + 1, h => by rw [← bR_run t pf x (by omega), runR, ← bR_step (by omega)]
theorem bR_reach (t : List Nd) (pf : Nat → Bool) : bR t pf 0 = reachP t pf := by
  rw [← bR_run t pf t.length (Nat.le_refl _), bR_top]; rfl
theorem bR_len (t : List Nd) (pf : Nat → Bool) (x : Nat) (h : x ≤ t.length) : (bR t pf x).length = t.length := by
  by_cases hx : x < t.length
  · rw [bR_step hx, stepR_len, bR_len t pf (x + 1) (by omega)]
  · rw [bR, dif_neg hx]; simp [rootR]
termination_by t.length - x
theorem root_set2 {n : Nat} (h : 1 ≤ n) : List.take ((n : Int) - 1).toNat ((List.replicate n false).map cb) ++ [LV.sc (.bool true)] = (rootR n).map cb := by
  rw [show ((n : Int) - 1).toNat = n - 1 by omega, ← root_set h, ← setB (by simp; omega)]
  rw [List.drop_of_length_le (by simp; omega), List.append_nil]
theorem reach2_c (t : List Nd) (hok : okT t = true) (hl : 1 ≤ t.length ∧ t.length ≤ 80) (pf : Nat → Bool) (fn : FuncId) (hgo : goL.contains fn = true) (c0 c1 : List LV) (hc0 : c0.all LV.inert = true) (hc1 : c1.all LV.inert = true) (hf : ∀ i, i < t.length → CallsA E.P fn [I i, .l (.ptr 0 0 0), .l (.ptr 1 0 0)] [some ⟨0, c0⟩, some ⟨0, c1⟩] fun r ob => r = T (pf i) ∧ ob = [some ⟨0, c0⟩, some ⟨0, c1⟩]) : CallsA E.P 77 [dN t, I ((t.length : Int) - 1), .l (.clo fn [(0, 0, 0), (1, 0, 0)])] [some ⟨0, c0⟩, some ⟨0, c1⟩] fun r ob => r = .l (.obj 2 0 1 0 t.length) ∧ ob = [some ⟨0, c0⟩, some ⟨0, c1⟩] ++ [some ⟨0, (bR t pf 0).map cb⟩] := by
  refine CallsA.body (E := E) (fn := Tryz.f77) Tryz.func77 rfl fun B hB => ?_
  simp only [Tryz.ntmps77, go_sem, nl, Nat.reduceSub, Nat.reduceAdd, List.reduceReplicate]
  refine Wp.seqK fun K1 hK1 => ?_
  refine rg ?_
  refine hK1 _ ?_
  clear hK1 K1
  refine Wp.seqK fun K2 hK2 => ?_
  refine Wp.regionS ?_
  simp only [go_sem, zeroB]
  refine evd ?_
  refine hK2 _ ?_
  clear hK2 K2
  refine Wp.seqK fun K3 hK3 => ?_
  refine rg ?_
  refine hK3 _ ?_
  clear hK3 K3
  refine Wp.seqK fun K4 hK4 => ?_
  refine Wp.seqK fun K5 hK5 => ?_
  refine rg ?_
  refine hK5 _ ?_
  clear hK5 K5
  refine Wp.block ?_
  refine Wp.loopU (α := Nat) (fun x => [.k, .d, .k, .d, .d, .d, .d, .k, .v (I ((x : Int) - 1)), .d5, .d5, .d5, .d5, .d5, .d5, .d5, .d, .d, .d, .d]) (fun x => [some ⟨0, c0⟩, some ⟨0, c1⟩, some ⟨0, (bR t pf x).map cb⟩]) (fun x => x ≤ t.length) (fun x => x) t.length (Nat.le_refl _) (anyS (ho := by rw [bR_top, root_set2 (by omega)])) ?_
  rintro x f6 K6 hx hK6
  simp only [updT_k, updT_d, updT_d5, updT_v, updT_nil, Nat.reduceAdd]
  refine Wp.seqK fun K7 hK7 => ?_
  refine Wp.seqK fun K8 hK8 => ?_
  refine rg ?_
  refine hK8 _ ?_
  clear hK8 K8
  refine Wp.condS (fun h19 => ?_) (fun h19 => ?_)
  · obtain ⟨i, rfl⟩ : ∃ i, x = i + 1 := ⟨x - 1, by omega⟩
    simp only [show ((i + 1 : Nat) : Int) - 1 = (i : Int) by omega]
    have hi : i < t.length := by omega
    have hp := okT_part hok hi
    have hpl := parts_len (t.getD i default)
    have hbl := bR_len t pf (i + 1) hx
    refine Wp.skip ?_
    refine hK7 _ ?_
    clear hK7 K7
    refine Wp.seqK fun K9 hK9 => ?_
    refine Wp.block ?_
    refine Wp.seqK fun K10 hK10 => ?_
    refine Wp.seqU0 [.k, .d, .k, .d, .d, .d, .d, .k, .k, .d5, .d5, .d5, .d5, .d, .d, .d, .v (T (!((bR t pf (i + 1)).getD i false) || !(pf i))), .d5, .d5, .d5] (fun K11 hK11 => ?_) ?_
    · refine rg ?_
      refine grdA_split rfl (fun g6_6 => ?_) (fun g6_6 => ?_)
      · try simp only [decide_eq_true_eq, decide_eq_false_iff_not] at g6_6
        refine evd ?_
        exact hK11 _ (anyS (h := by first | rfl | (simp only [g6_6, Bool.true_or, Bool.or_true, Bool.false_or, Bool.or_false, Bool.true_and, Bool.and_true, Bool.false_and, Bool.and_false, Bool.not_true, Bool.not_false, decide_true, decide_false] <;> rfl)))
      · try simp only [decide_eq_true_eq, decide_eq_false_iff_not] at g6_6
        refine evd ?_
        refine CallK.passS [0, 1] (hf i hi) ?_ (ho := by simp only [obC, List.map_cons, List.map_nil, List.getD_cons_zero, List.getD_cons_succ, Option.map_some, map_inert hc0, map_inert hc1]) (hs := by simp only [sigOk, List.all_cons, List.all_nil, List.getD_cons_zero, List.getD_cons_succ, List.length_cons, List.length_nil, inert_within hc0, inert_within hc1, Bool.and_true]; rfl)
        refine evd ?_
        exact hK11 _ (anyS (h := by first | rfl | (simp only [g6_6, Bool.true_or, Bool.or_true, Bool.false_or, Bool.or_false, Bool.true_and, Bool.and_true, Bool.false_and, Bool.and_false, Bool.not_true, Bool.not_false, decide_true, decide_false] <;> rfl)))
    rintro f11
    simp only [updT_k, updT_d, updT_d5, updT_v, updT_nil, Nat.reduceAdd]
    refine Wp.condS (fun h32 => ?_) (fun h32 => ?_)
    · have hst : bR t pf i = bR t pf (i + 1) := by rw [bR_step hi]; exact step_nx (t := t) h32
      refine Wp.exit ?_
      try simp only [thn, inB, if_true, reduceIte]
      clear hK10 K10
      refine hK9 _ ?_
      clear hK9 K9
      refine Wp.keep 3 (by simp [hB]) (by simp) ?_
      simp only [go_sem, map_inert hc0, map_inert hc1]
      refine evd ?_
      refine rg ?_
      exact hK6 i _ (by omega) (by omega) (anyS (ho := by rw [hst]))
    · have hst : bR t pf i = mark (bR t pf (i + 1)) (parts (t.getD i default)) := by rw [bR_step hi]; exact step_yx (t := t) h32
      refine Wp.skip ?_
      refine hK10 _ ?_
      clear hK10 K10
      refine Wp.seqK fun K12 hK12 => ?_
      refine rg ?_
      refine ⟨rfl, CallK.rowA (h := iParts_c _) (k := ?_)⟩
      refine evd ?_
      refine hK12 _ ?_
      clear hK12 K12
      refine Wp.block ?_
      refine Wp.loopU (α := Nat) (fun k => [.k, .d, .k, .d, .d, .d, .d, .k, .k, .d5, .d5, .d5, .d5, .d5, .d, .d, .d, .k, .k, .v (I k), .d5, .d, .d, .d]) (fun k => [some ⟨0, c0⟩, some ⟨0, c1⟩, some ⟨0, (mark (bR t pf (i + 1)) ((parts (t.getD i default)).take k)).map cb⟩, some ⟨0, (parts (t.getD i default)).map ci⟩]) (fun k => k ≤ (parts (t.getD i default)).length) (fun k => (parts (t.getD i default)).length - k) 0 (by omega) (anyS) ?_
      rintro k f13 K13 hk hK13
      simp only [updT_k, updT_d, updT_d5, updT_v, updT_nil, Nat.reduceAdd]
      have hml := mark_len ((parts (t.getD i default)).take k) (bR t pf (i + 1))
      refine Wp.seqK fun K14 hK14 => ?_
      refine rg ?_
      refine hK14 _ ?_
      clear hK14 K14
      refine Wp.seqK fun K15 hK15 => ?_
      refine Wp.condS (fun h40 => ?_) (fun h40 => ?_)
      · have hkl : k < (parts (t.getD i default)).length := by omega
        have hpk := hp ((parts (t.getD i default)).getD k 0) (by rw [← getD_at hkl]; exact List.getElem_mem hkl)
        refine Wp.skip ?_
        refine hK15 _ ?_
        clear hK15 K15
        refine Wp.seqK fun K16 hK16 => ?_
        refine Wp.block ?_
        refine Wp.seqK fun K17 hK17 => ?_
        refine rg ?_
        refine hK17 _ ?_
        clear hK17 K17
        refine rg ?_
        try simp only [thn, inB, if_true, reduceIte]
        refine hK16 _ ?_
        clear hK16 K16
        refine rg ?_
        exact hK13 (k + 1) _ (by omega) (by omega) (anyS (ho := by rw [take_push 0 hkl, mark_push]))
      · have hkl : k = (parts (t.getD i default)).length := by omega
        subst hkl
        simp only [List.take_length]
        refine Wp.exit ?_
        try simp only [thn, inB, if_true, reduceIte]
        clear hK15 K15
        clear hK13 K13
        try simp only [thn, inB, if_true, reduceIte]
        refine hK9 _ ?_
        clear hK9 K9
        refine Wp.keep 3 (by simp [hB]) (by simp) ?_
        simp only [go_sem, map_inert hc0, map_inert hc1]
        refine evd ?_
        refine rg ?_
        exact hK6 i _ (by omega) (by omega) (anyS (ho := by rw [hst]))
  · have hx0 : x = 0 := by omega
    subst hx0
    refine Wp.exit ?_
    try simp only [thn, inB, if_true, reduceIte]
    clear hK7 K7
    clear hK6 K6
    refine hK4 _ ?_
    clear hK4 K4
    refine Wp.seqK fun K18 hK18 => ?_
    refine rg ?_
    refine hK18 _ ?_
    clear hK18 K18
    refine Wp.ret (retN (o := 2) (cs := (bR t pf 0).map cb) (ob' := [some ⟨0, c0⟩, some ⟨0, c1⟩]) rfl rfl rfl (flatB _) (by omega) (hi := by simp only [obShut, List.all_cons, List.all_nil, inert_shut hc0, inert_shut hc1, Bool.and_true]))
theorem freeAt_c (t : List Nd) (hok : okT t = true) (hl : 1 ≤ t.length ∧ t.length ≤ 80) (v : Int) : Row E.P 86 [dN t, I v] 1 t.length ((freeR t v).map cb) := by
  refine CallsA.body (E := E) (fn := Tryz.f86) Tryz.func86 rfl fun B hB => ?_
  simp only [Tryz.ntmps86, go_sem, nl, Nat.reduceSub, Nat.reduceAdd, List.reduceReplicate]
  refine Wp.seqK fun K1 hK1 => ?_
  refine rg ?_
  refine hK1 _ ?_
  clear hK1 K1
  refine Wp.seqK fun K2 hK2 => ?_
  refine rg ?_
  refine ⟨rfl, CallK.handA 2 (o1 := [some ⟨0, [.dsl true t.length (encN t)]⟩, some ⟨0, [ci v]⟩]) (new := [some ⟨0, (bR t (passV t v) 0).map cb⟩]) (reach2_c t hok hl (passV t v) 120 rfl [.dsl true t.length (encN t)] [ci v] rfl rfl (fun i hi => freeFn_c t (by omega) v i hi)) ?_⟩
  refine evd ?_
  refine hK2 _ ?_
  clear hK2 K2
  refine Wp.ret (retR (cs := (bR t (passV t v) 0).map cb) rfl (by rw [bR_reach]; rfl) (flatB _))
theorem placeOf_c (t : List Nd) (v : Int) (met : List Bool) (hm : met.length = t.length) (hl : t.length ≤ 80) : Val E.P 129 [dN t, I v, dB met] (I (placeT t v met)) := by
  refine CallsA.body (E := E) (fn := Tryz.f129) Tryz.func129 rfl fun B hB => ?_
  simp only [Tryz.ntmps129, go_sem, nl, Nat.reduceSub, Nat.reduceAdd, List.reduceReplicate]
  refine Wp.seqK fun K1 hK1 => ?_
  refine rg ?_
  refine hK1 _ ?_
  clear hK1 K1
  refine Wp.seqK fun K2 hK2 => ?_
  refine Wp.seqK fun K3 hK3 => ?_
  refine rg ?_
  refine hK3 _ ?_
  clear hK3 K3
  refine Wp.block ?_
  refine Wp.loopU0 (α := Nat) (fun x => [.d, .k, .k, .d5, .d, .k, .k, .v (I x), .d5, .d5, .d5, .d5, .d]) (fun x => x ≤ t.length ∧ ∀ i, i < x → ((met.getD i false && decide ((t.getD i default).op = 1)) && decide ((t.getD i default).k = v)) = false) (fun x => t.length - x) 0 (⟨Nat.zero_le _, fun j hj => absurd hj (by omega)⟩) anyS ?_
  rintro x f4 K4 ⟨hx, hb⟩ hK4
  simp only [updT_k, updT_d, updT_d5, updT_v, updT_nil, Nat.reduceAdd]
  refine Wp.seqK fun K5 hK5 => ?_
  refine rg ?_
  refine hK5 _ ?_
  clear hK5 K5
  refine Wp.seqK fun K6 hK6 => ?_
  refine Wp.condS (fun h12 => ?_) (fun h12 => ?_)
  · have hxl : x < t.length := by omega
    refine Wp.skip ?_
    refine hK6 _ ?_
    clear hK6 K6
    refine Wp.seqK fun K7 hK7 => ?_
    refine Wp.block ?_
    refine Wp.seqK fun K8 hK8 => ?_
    refine rg ?_
    refine hK8 _ ?_
    clear hK8 K8
    refine Wp.seqU0 [.d, .k, .k, .d, .d, .d, .d, .k, .d, .k, .k, .k, .d5, .d5, .d5, .d, .d, .d, .v (T ((met.getD x false && decide ((t.getD x default).op = 1)) && decide ((t.getD x default).k = v))), .d, .d] (fun K9 hK9 => ?_) ?_
    · refine rg ?_
      refine grdA_split rfl (fun g4_5 => ?_) (fun g4_5 => ?_)
      · try simp only [decide_eq_true_eq, decide_eq_false_iff_not] at g4_5
        refine evd ?_
        refine grdA_split rfl (fun g4_10 => ?_) (fun g4_10 => ?_)
        · try simp only [decide_eq_true_eq, decide_eq_false_iff_not] at g4_10
          refine evd ?_
          exact hK9 _ (anyS (h := by first | rfl | (simp only [g4_5, g4_10, Bool.true_or, Bool.or_true, Bool.false_or, Bool.or_false, Bool.true_and, Bool.and_true, Bool.false_and, Bool.and_false, Bool.not_true, Bool.not_false, decide_true, decide_false] <;> rfl)))
        · try simp only [decide_eq_true_eq, decide_eq_false_iff_not] at g4_10
          refine evd ?_
          exact hK9 _ (anyS (h := by first | rfl | (simp only [g4_5, g4_10, Bool.true_or, Bool.or_true, Bool.false_or, Bool.or_false, Bool.true_and, Bool.and_true, Bool.false_and, Bool.and_false, Bool.not_true, Bool.not_false, decide_true, decide_false] <;> rfl)))
      · try simp only [decide_eq_true_eq, decide_eq_false_iff_not] at g4_5
        refine evd ?_
        exact hK9 _ (anyS (h := by first | rfl | (simp only [g4_5, Bool.true_or, Bool.or_true, Bool.false_or, Bool.or_false, Bool.true_and, Bool.and_true, Bool.false_and, Bool.and_false, Bool.not_true, Bool.not_false, decide_true, decide_false] <;> rfl)))
    rintro f9
    simp only [updT_k, updT_d, updT_d5, updT_v, updT_nil, Nat.reduceAdd]
    refine Wp.condS (fun h30 => ?_) (fun h30 => ?_)
    · have hf : ((met.getD x false && decide ((t.getD x default).op = 1)) && decide ((t.getD x default).k = v)) = true := by simp only [h30.1.1, h30.1.2, h30.2, decide_true, Bool.and_self]
      refine Wp.seqK fun K10 hK10 => ?_
      refine rg ?_
      refine hK10 _ ?_
      clear hK10 K10
      refine Wp.ret (retV ?_)
      simp only [List.getD_cons_zero, List.getD_cons_succ]
      unfold placeT
      rw [find_yes (f := fun i => (met.getD i false && decide ((t.getD i default).op = 1)) && decide ((t.getD i default).k = v)) hxl hf hb]
    · have hf : ((met.getD x false && decide ((t.getD x default).op = 1)) && decide ((t.getD x default).k = v)) = false := h30
      refine Wp.skip ?_
      try simp only [thn, inB, if_true, reduceIte]
      refine hK7 _ ?_
      clear hK7 K7
      refine Wp.keep 0 (by simp [hB]) (by simp) ?_
      refine evd ?_
      refine rg ?_
      exact hK4 (x + 1) _ ⟨by omega, fun j hj => by
        by_cases h : j < x
        · exact hb j h
        · have : j = x := by omega
          subst this; exact hf⟩ (by omega) anyS
  · have hxl : x = t.length := by omega
    subst hxl
    refine Wp.exit ?_
    try simp only [thn, inB, if_true, reduceIte]
    clear hK6 K6
    clear hK4 K4
    refine hK2 _ ?_
    clear hK2 K2
    refine Wp.seqK fun K11 hK11 => ?_
    refine rg ?_
    refine hK11 _ ?_
    clear hK11 K11
    refine Wp.ret (retV ?_)
    simp only [List.getD_cons_zero, List.getD_cons_succ]
    unfold placeT
    rw [find_no hb]
theorem firstFree_c (t : List Nd) (hok : okT t = true) (hl : 1 ≤ t.length ∧ t.length ≤ 80) (v : Int) : Val E.P 94 [dN t, I v] (I (placeT t v (freeR t v))) := by
  refine CallsA.body (E := E) (fn := Tryz.f94) Tryz.func94 rfl fun B hB => ?_
  simp only [Tryz.ntmps94, go_sem, nl, Nat.reduceSub, Nat.reduceAdd, List.reduceReplicate]
  have hrl : (freeR t v).length = t.length := reachP_len _ _
  refine Wp.seqK fun K1 hK1 => ?_
  refine rg ?_
  refine hK1 _ ?_
  clear hK1 K1
  refine Wp.seqK fun K2 hK2 => ?_
  refine rg ?_
  refine ⟨rfl, CallK.rowA (h := freeAt_c _ (by assumption) (by omega) _) (k := ?_)⟩
  refine evd ?_
  refine ⟨rfl, CallK.valA (h := placeOf_c _ _ _ (by omega) (by omega)) (k := ?_)⟩
  refine evd ?_
  refine hK2 _ ?_
  clear hK2 K2
  refine Wp.ret (retV ?_)
  simp only [List.getD_cons_zero, List.getD_cons_succ]
end Go.Proofs.YtkdkbnacelnljaaGreat.RE
