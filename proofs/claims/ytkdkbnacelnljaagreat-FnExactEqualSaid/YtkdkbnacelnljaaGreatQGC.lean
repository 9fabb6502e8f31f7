/- What suits, and the bits of quantifiers, the program. Conditions: those that a theorem names. -/
import Derived.Test.YtkdkbnacelnljaaGreatQGA
import Derived.Test.YtkdkbnacelnljaaGreatQV1
import Derived.Test.YtkdkbnacelnljaaGreatQGB
set_option linter.unusedVariables false
set_option linter.unusedSimpArgs false
namespace Go.Proofs.YtkdkbnacelnljaaGreat.RE
open Go Go.RowKit
set_option maxRecDepth 100000
set_option maxHeartbeats 8000000
/-- Rows are handed over wherever they lie, none is changed, new ones are answered. -/
theorem obB_new {σ : List Nat} {ob new : Obs} (hn : σ.Nodup) (hlt : ∀ s ∈ σ, s < ob.length) (h : ∀ s ∈ σ, ∀ x, ob.getD s none = some x → x.cs.all (LV.within σ) = true) : obB σ ob (obC σ ob ++ new) = ob ++ new.map (Option.map (Ob.ren (mB σ ob.length))) := by
  have e := obB_same hn hlt h
  have hl : (obC σ ob).length = σ.length := by simp [obC]
  unfold obB at e ⊢
  rw [List.drop_of_length_le (by omega), List.map_nil, List.append_nil] at e
  rw [List.drop_left' hl]
  congr 1
  refine Eq.trans ?_ e
  congr 1
  funext o
  cases hi : σ.idxOf? o with
  | none => rfl
  | some i =>
    have hσ := idx_get hi
    have : i < σ.length := by
      rcases Nat.lt_or_ge i σ.length with h | h
      · exact h
      · rw [List.getElem?_eq_none h] at hσ; cases hσ
    simp only [Option.bind_some]
    rw [List.getElem?_append_left (by omega)]
theorem CallK.passN {P : Program} {f : FuncId} {args args' : List AV} {st : St} {d : Option Tmp} {K : St → Prop} (σ : List Nat) {r0 : AV} {obm new : Obs} (h : CallsA P f args' obm fun r ob => r = r0 ∧ ob = obm ++ new) (k : K ⟨putT st.tm d (r0.ren (mB σ st.ob.length)), st.ob ++ new.map (Option.map (Ob.ren (mB σ st.ob.length)))⟩) (ha : args.map (AV.toC σ []) = args' := by rfl) (ho : obC σ st.ob = obm)
    (hs : sigOk σ st.ob = true) (hn : σ.Nodup := by decide) : CallK P f args st d K := by
  have hs' : ∀ s ∈ σ, s < st.ob.length ∧ ∀ x, st.ob.getD s none = some x → x.cs.all (LV.within σ) = true := fun s hm => by
    have := List.all_eq_true.1 hs s hm
    simp only [Bool.and_eq_true, decide_eq_true_eq] at this
    refine ⟨this.1, fun x hx => ?_⟩
    have h2 := this.2
    rw [hx] at h2; exact h2
  refine CallK.use (Q := fun r ob => r = r0 ∧ ob = obm ++ new) σ [] ⟨hn, fun s hm => (hs' s hm).1, by simp, by simp⟩ (by rw [ho, ha]; exact h) fun r ob1 ⟨h1, h2⟩ => ?_
  subst h1; subst h2
  refine ⟨by rw [← ho]; simp [obC], .inl rfl, ?_⟩
  rw [← ho, obB_new hn (fun s hm => (hs' s hm).1) (fun s hm => (hs' s hm).2)]
  exact k
/-! ### What is reached from any node -/
def bQ (t : List Nd) (pf : Nat → Bool) (r : Nat) (x : Nat) : List Bool := if h : x ≤ r then stepR t pf x (bQ t pf r (x + 1)) else atR t.length r
termination_by r + 1 - x
theorem bQ_top (t : List Nd) (pf : Nat → Bool) (r : Nat) : bQ t pf r (r + 1) = atR t.length r := by rw [bQ, dif_neg (by omega)]
theorem bQ_step {t : List Nd} {pf : Nat → Bool} {r x : Nat} (h : x ≤ r) : bQ t pf r x = stepR t pf x (bQ t pf r (x + 1)) := by rw [bQ, dif_pos h]
theorem bQ_run (t : List Nd) (pf : Nat → Bool) (r : Nat) : ∀ x, x ≤ r + 1 → runR t pf x (bQ t pf r x) = bQ t pf r 0
  | 0, _ => rfl
  | x + 1, h => by rw [← bQ_run t pf r x (by omega), runR, ← bQ_step (by omega)]
theorem bQ_reach (t : List Nd) (pf : Nat → Bool) (r : Nat) : bQ t pf r 0 = reachR t pf r := by
  rw [← bQ_run t pf r (r + 1) (Nat.le_refl _), bQ_top]; rfl
theorem bQ_len (t : List Nd) (pf : Nat → Bool) (r : Nat) (x : Nat) (h : x ≤ r + 1) : (bQ t pf r x).length = t.length := by
  by_cases hx : x ≤ r
  · rw [bQ_step hx, stepR_len, bQ_len t pf r (x + 1) (by omega)]
  · rw [bQ, dif_neg hx]; simp [atR]
termination_by r + 1 - x
theorem at_set {n r : Nat} : (List.replicate n false).set r true = atR n r := by
  apply List.ext_getElem
  · simp [atR]
  · intro i h1 h2
    simp only [atR, List.length_set, List.length_replicate] at h1
    simp only [atR, List.getElem_set, List.getElem_map, List.getElem_range, List.getElem_replicate]
    by_cases h : r = i
    · subst h; simp
    · rw [if_neg h, decide_eq_false (fun e => h e.symm)]
theorem reach3_c (t : List Nd) (hok : okT t = true) (hl : 1 ≤ t.length ∧ t.length ≤ 80) (r : Nat) (hr : r < t.length) (pf : Nat → Bool) (fn : FuncId) (hgo : goL.contains fn = true) (c0 c1 : List LV) (hc0 : c0.all LV.inert = true) (hc1 : c1.all LV.inert = true) (hf : ∀ i, i < t.length → CallsA E.P fn [I i, .l (.ptr 0 0 0), .l (.ptr 1 0 0)] [some ⟨0, c0⟩, some ⟨0, c1⟩] fun r ob => r = T (pf i) ∧ ob = [some ⟨0, c0⟩, some ⟨0, c1⟩]) : CallsA E.P 77 [dN t, I (((r + 1 : Nat) : Int) - 1), .l (.clo fn [(0, 0, 0), (1, 0, 0)])] [some ⟨0, c0⟩, some ⟨0, c1⟩] fun r1 ob => r1 = .l (.obj 2 0 1 0 t.length) ∧ ob = [some ⟨0, c0⟩, some ⟨0, c1⟩] ++ [some ⟨0, (bQ t pf r 0).map cb⟩] := by
  refine CallsA.body (E := E) (fn := Tryz.f77) Tryz.func77 rfl fun B hB => ?_
  simp only [Tryz.ntmps77, go_sem, nl, Nat.reduceSub, Nat.reduceAdd, List.reduceReplicate]
  refine Wp.seqK fun K1 hK1 => ?_
  refine rg ?_
  refine hK1 _ ?_
  clear hK1 K1
  refine Wp.seqK fun K2 hK2 => ?_
  refine Wp.regionS ?_
  simp only [go_sem, zeroB]
  refine evd ?_
  refine hK2 _ ?_
  clear hK2 K2
  refine Wp.seqK fun K3 hK3 => ?_
  refine rg ?_
  refine hK3 _ ?_
  clear hK3 K3
  refine Wp.seqK fun K4 hK4 => ?_
  refine Wp.seqK fun K5 hK5 => ?_
  refine rg ?_
  refine hK5 _ ?_
  clear hK5 K5
  refine Wp.block ?_
  refine Wp.loopU (α := Nat) (fun x => [.k, .d, .k, .d, .d, .d, .d, .k, .v (I ((x : Int) - 1)), .d5, .d5, .d5, .d5, .d5, .d5, .d5, .d, .d, .d, .d]) (fun x => [some ⟨0, c0⟩, some ⟨0, c1⟩, some ⟨0, (bQ t pf r x).map cb⟩]) (fun x => x ≤ r + 1) (fun x => x) (r + 1) (Nat.le_refl _) (anyS (ho := by rw [bQ_top, ← at_set, show (((r + 1 : Nat) : Int) - 1).toNat = r by omega] <;> rfl)) ?_
  rintro x f6 K6 hx hK6
  simp only [updT_k, updT_d, updT_d5, updT_v, updT_nil, Nat.reduceAdd]
  refine Wp.seqK fun K7 hK7 => ?_
  refine Wp.seqK fun K8 hK8 => ?_
  refine rg ?_
  refine hK8 _ ?_
  clear hK8 K8
  refine Wp.condS (fun h19 => ?_) (fun h19 => ?_)
  · obtain ⟨i, rfl⟩ : ∃ i, x = i + 1 := ⟨x - 1, by omega⟩
    simp only [show ((i + 1 : Nat) : Int) - 1 = (i : Int) by omega]
    have hi : i < t.length := by omega
    have hp := okT_part hok hi
    have hpl := parts_len (t.getD i default)
    have hbl := bQ_len t pf r (i + 1) hx
    refine Wp.skip ?_
    refine hK7 _ ?_
    clear hK7 K7
    refine Wp.seqK fun K9 hK9 => ?_
    refine Wp.block ?_
    refine Wp.seqK fun K10 hK10 => ?_
    refine Wp.seqU0 [.k, .d, .k, .d, .d, .d, .d, .k, .k, .d5, .d5, .d5, .d5, .d, .d, .d, .v (T (!((bQ t pf r (i + 1)).getD i false) || !(pf i))), .d5, .d5, .d5] (fun K11 hK11 => ?_) ?_
    · refine rg ?_
      refine grdA_split rfl (fun g6_6 => ?_) (fun g6_6 => ?_)
      · try simp only [decide_eq_true_eq, decide_eq_false_iff_not] at g6_6
        try refine evd ?_
        exact hK11 _ (anyS (h := by first | rfl | (simp only [g6_6, Bool.true_or, Bool.or_true, Bool.false_or, Bool.or_false, Bool.true_and, Bool.and_true, Bool.false_and, Bool.and_false, Bool.not_true, Bool.not_false, decide_true, decide_false, eq_self, Int.reduceEq] <;> rfl)))
      · try simp only [decide_eq_true_eq, decide_eq_false_iff_not] at g6_6
        try refine evd ?_
        refine CallK.passS [0, 1] (hf i hi) ?_ (ho := by simp only [obC, List.map_cons, List.map_nil, List.getD_cons_zero, List.getD_cons_succ, Option.map_some, map_inert hc0, map_inert hc1]) (hs := by simp only [sigOk, List.all_cons, List.all_nil, List.getD_cons_zero, List.getD_cons_succ, List.length_cons, List.length_nil, inert_within hc0, inert_within hc1, Bool.and_true]; rfl)
        refine evd ?_
        exact hK11 _ (anyS (h := by first | rfl | (simp only [g6_6, Bool.true_or, Bool.or_true, Bool.false_or, Bool.or_false, Bool.true_and, Bool.and_true, Bool.false_and, Bool.and_false, Bool.not_true, Bool.not_false, decide_true, decide_false, eq_self, Int.reduceEq] <;> rfl)))
    rintro f11
    simp only [updT_k, updT_d, updT_d5, updT_v, updT_nil, Nat.reduceAdd]
    refine Wp.condS (fun h32 => ?_) (fun h32 => ?_)
    · have hst : bQ t pf r i = bQ t pf r (i + 1) := by rw [bQ_step (by omega)]; exact step_nx (t := t) h32
      refine Wp.exit ?_
      try simp only [thn, inB, if_true, reduceIte]
      clear hK10 K10
      refine hK9 _ ?_
      clear hK9 K9
      refine Wp.keep 3 (by simp [hB]) (by simp) ?_
      simp only [go_sem, map_inert hc0, map_inert hc1]
      refine evd ?_
      refine rg ?_
      exact hK6 i _ (by omega) (by omega) (anyS (ho := by rw [hst]))
    · have hst : bQ t pf r i = mark (bQ t pf r (i + 1)) (parts (t.getD i default)) := by rw [bQ_step (by omega)]; exact step_yx (t := t) h32
      refine Wp.skip ?_
      refine hK10 _ ?_
      clear hK10 K10
      refine Wp.seqK fun K12 hK12 => ?_
      refine rg ?_
      refine ⟨rfl, CallK.rowA (h := iParts_c _) (k := ?_)⟩
      refine evd ?_
      refine hK12 _ ?_
      clear hK12 K12
      refine Wp.block ?_
      refine Wp.loopU (α := Nat) (fun k => [.k, .d, .k, .d, .d, .d, .d, .k, .k, .d5, .d5, .d5, .d5, .d5, .d, .d, .d, .k, .k, .v (I k), .d5, .d, .d, .d]) (fun k => [some ⟨0, c0⟩, some ⟨0, c1⟩, some ⟨0, (mark (bQ t pf r (i + 1)) ((parts (t.getD i default)).take k)).map cb⟩, some ⟨0, (parts (t.getD i default)).map ci⟩]) (fun k => k ≤ (parts (t.getD i default)).length) (fun k => (parts (t.getD i default)).length - k) 0 (by omega) (anyS) ?_
      rintro k f13 K13 hk hK13
      simp only [updT_k, updT_d, updT_d5, updT_v, updT_nil, Nat.reduceAdd]
      have hml := mark_len ((parts (t.getD i default)).take k) (bQ t pf r (i + 1))
      refine Wp.seqK fun K14 hK14 => ?_
      refine rg ?_
      refine hK14 _ ?_
      clear hK14 K14
      refine Wp.seqK fun K15 hK15 => ?_
      refine Wp.condS (fun h40 => ?_) (fun h40 => ?_)
      · have hkl : k < (parts (t.getD i default)).length := by omega
        have hpk := hp ((parts (t.getD i default)).getD k 0) (by rw [← getD_at hkl]; exact List.getElem_mem hkl)
        refine Wp.skip ?_
        refine hK15 _ ?_
        clear hK15 K15
        refine Wp.seqK fun K16 hK16 => ?_
        refine Wp.block ?_
        refine Wp.seqK fun K17 hK17 => ?_
        refine rg ?_
        refine hK17 _ ?_
        clear hK17 K17
        refine rg ?_
        try simp only [thn, inB, if_true, reduceIte]
        refine hK16 _ ?_
        clear hK16 K16
        refine rg ?_
        exact hK13 (k + 1) _ (by omega) (by omega) (anyS (ho := by rw [take_push 0 hkl, mark_push]))
      · have hkl : k = (parts (t.getD i default)).length := by omega
        subst hkl
        simp only [List.take_length]
        refine Wp.exit ?_
        try simp only [thn, inB, if_true, reduceIte]
        clear hK15 K15
        clear hK13 K13
        try simp only [thn, inB, if_true, reduceIte]
        refine hK9 _ ?_
        clear hK9 K9
        refine Wp.keep 3 (by simp [hB]) (by simp) ?_
        simp only [go_sem, map_inert hc0, map_inert hc1]
        refine evd ?_
        refine rg ?_
        exact hK6 i _ (by omega) (by omega) (anyS (ho := by rw [hst]))
  · have hx0 : x = 0 := by omega
    subst hx0
    refine Wp.exit ?_
    try simp only [thn, inB, if_true, reduceIte]
    clear hK7 K7
    clear hK6 K6
    refine hK4 _ ?_
    clear hK4 K4
    refine Wp.seqK fun K18 hK18 => ?_
    refine rg ?_
    refine hK18 _ ?_
    clear hK18 K18
    refine Wp.ret (retN (o := 2) (cs := (bQ t pf r 0).map cb) (ob' := [some ⟨0, c0⟩, some ⟨0, c1⟩]) rfl rfl rfl (flatB _) (by omega) (hi := by simp only [obShut, List.all_cons, List.all_nil, inert_shut hc0, inert_shut hc1, Bool.and_true]))
theorem suitsFn_c (t : List Nd) (hl : t.length ≤ 1048576) (q : Nd) (i : Nat) (hi : i < t.length) : CallsA E.P 88 [I i, .l (.ptr 0 0 0), .l (.ptr 1 0 0)] [some ⟨0, [.dsl true t.length (encN t)]⟩, some ⟨0, nl q⟩] fun r ob => r = T (passV t q.k i) ∧ ob = [some ⟨0, [.dsl true t.length (encN t)]⟩, some ⟨0, nl q⟩] := by
  refine CallsA.body (E := E) (fn := Tryz.f88) Tryz.func88 rfl fun B hB => ?_
  simp only [Tryz.ntmps88, go_sem, nl, Nat.reduceSub, Nat.reduceAdd, List.reduceReplicate]
  refine Wp.seqK fun K1 hK1 => ?_
  refine rg ?_
  refine hK1 _ ?_
  clear hK1 K1
  refine Wp.seqU0 [.d, .d, .d, .d, .v (T (passV t q.k i)), .d5, .d5, .d5, .d] (fun K2 hK2 => ?_) ?_
  · refine Wp.drawI [0, 1, 2, 3, 4, 5, 6, 7] [4] (by kernel_rfl) ?_
    refine evd ?_
    refine ⟨rfl, CallK.valA (h := isQuant_c _) (k := ?_)⟩
    refine evd ?_
    refine grdA_split rfl (fun g1_7 => ?_) (fun g1_7 => ?_)
    · try simp only [decide_eq_true_eq, decide_eq_false_iff_not] at g1_7
      have hp : passV t q.k i = true := by unfold passV; rw [g1_7]; rfl
      try refine evd ?_
      exact hK2 _ (anyS (h := by rw [hp] <;> rfl))
    · try simp only [decide_eq_true_eq, decide_eq_false_iff_not] at g1_7
      have hp : passV t q.k i = !decide ((t.getD i default).k = q.k) := by unfold passV; rw [g1_7]; rfl
      try refine evd ?_
      exact hK2 _ (anyS (h := by rw [hp] <;> rfl))
  rintro f2
  simp only [updT_k, updT_d, updT_d5, updT_v, updT_nil, Nat.reduceAdd]
  refine Wp.ret (retH (n := 2) rfl rfl)
def vB (t : List Nd) (env : List Int) (v i : Nat) : Bool := (((freeR t v).getD i false && decide ((t.getD i default).op = 1)) && decide ((t.getD i default).k = (v : Int))) && !wordOk (t.getD i default).w (env.getD v 0)
def suB (t : List Nd) (env : List Int) (v : Nat) : Bool := (List.range t.length).any (vB t env v)
def qB (t : List Nd) (i j : Nat) : Bool := (((innT t i).getD j false && decide ((t.getD j default).op = 1)) && decide ((t.getD j default).k = (t.getD i default).k)) && !decide ((t.getD j default).w = (t.getD i default).b)
def sqB (t : List Nd) (i : Nat) : Bool := ((reachT t).getD i false && isQ (t.getD i default).op) && (List.range t.length).any (qB t i)
theorem not_any {n : Nat} {f g : Nat → Bool} (h : ∀ i, f i = !g i) : (List.range n).all f = !(List.range n).any g := by
  induction List.range n with
  | nil => rfl
  | cons a l ih => rw [List.all_cons, List.any_cons, ih, h, Bool.not_or]
theorem suits_not (t : List Nd) (env : List Int) : suitsT t env = (!(List.range 8).any (suB t env) && !(List.range t.length).any (sqB t)) := by
  unfold suitsT
  rw [not_any (g := suB t env), not_any (g := sqB t)]
  · intro i
    unfold qOk sqB
    rw [not_any (g := qB t i)]
    · cases (reachT t).getD i false && isQ (t.getD i default).op <;> simp
    · intro j
      unfold qB
      cases ((innT t i).getD j false && decide ((t.getD j default).op = 1)) && decide ((t.getD j default).k = (t.getD i default).k) <;> simp
  · intro v
    unfold vOk suB
    rw [not_any (g := vB t env v)]
    intro i
    unfold vB
    cases (((freeR t v).getD i false && decide ((t.getD i default).op = 1)) && decide ((t.getD i default).k = (v : Int))) <;> simp
theorem su_1 {t : List Nd} {env : List Int} {v i : Nat} (hv : v < 8) (hi : i < t.length) (h : vB t env v i = true) : suitsT t env = false := by
  rw [suits_not, any_at hv (show suB t env v = true from any_at hi h)]; rfl
theorem su_2 {t : List Nd} {env : List Int} {i : Nat} (hi : i < t.length) (h : sqB t i = true) : suitsT t env = false := by
  rw [suits_not, any_at hi h]; simp
theorem su_y {t : List Nd} {env : List Int} (h1 : ∀ v, v < 8 → suB t env v = false) (h2 : ∀ i, i < t.length → sqB t i = false) : suitsT t env = true := by
  rw [suits_not, any_none h1, any_none h2]; rfl
theorem sq_y {t : List Nd} {i j : Nat} (h : ((reachT t).getD i false && isQ (t.getD i default).op) = true) (hj : j < t.length) (h2 : qB t i j = true) : sqB t i = true := by
  unfold sqB; rw [h, any_at hj h2]; rfl
theorem sq_n {t : List Nd} {i : Nat} (h : ∀ j, j < t.length → qB t i j = false) : sqB t i = false := by
  unfold sqB; rw [any_none h, Bool.and_false]
theorem suits_c (t : List Nd) (hok : okT t = true) (hl : 1 ≤ t.length ∧ t.length ≤ 80) (env : List Int) (he : env.length = 8) : Val E.P 51 [dN t, dI env] (T (suitsT t env)) := by
  refine CallsA.body (E := E) (fn := Tryz.f51) Tryz.func51 rfl fun B hB => ?_
  simp only [Tryz.ntmps51, go_sem, nl, Nat.reduceSub, Nat.reduceAdd, List.reduceReplicate]
  have hpo := okT_parts hok
  have hno := okT_nums hok
  have hrl := reachT_len t
  have hel : env.length = 8 := he
  refine Wp.seqK fun K1 hK1 => ?_
  refine rg ?_
  refine hK1 _ ?_
  clear hK1 K1
  refine Wp.seqK fun K2 hK2 => ?_
  refine Wp.seqK fun K3 hK3 => ?_
  refine rg ?_
  refine hK3 _ ?_
  clear hK3 K3
  refine Wp.block ?_
  refine Wp.loopU (α := Nat) (fun v => [.d, .k, .k, .d5, .d5, .d, .d, .v (I v), .d5, .d5, .d5, .d5, .d5, .d5, .d5, .d5, .d5, .d5, .d5, .d5, .d5, .d5, .d5, .d5, .d5, .d5, .d5]) (fun v => [some ⟨0, [.dsl true t.length (encN t)]⟩]) (fun v => v ≤ 8 ∧ ∀ u, u < v → suB t env u = false) (fun v => 8 - v) 0 (⟨Nat.zero_le _, fun j h => absurd h (Nat.not_lt_zero j)⟩) (anyS) ?_
  rintro v f4 K4 ⟨hv, hvb⟩ hK4
  simp only [updT_k, updT_d, updT_d5, updT_v, updT_nil, Nat.reduceAdd]
  refine Wp.seqK fun K5 hK5 => ?_
  refine rg ?_
  refine hK5 _ ?_
  clear hK5 K5
  refine Wp.seqK fun K6 hK6 => ?_
  refine Wp.condS (fun h16 => ?_) (fun h16 => ?_)
  · have hv8 : v < 8 := by omega
    have hfl : (freeR t v).length = t.length := reachP_len _ _
    refine Wp.skip ?_
    refine hK6 _ ?_
    clear hK6 K6
    refine Wp.seqU (α := Unit) (fun u => [.d, .k, .k, .d5, .d5, .d, .d, .k, .d5, .d5, .d5, .d5, .d5, .d5, .d5, .d5, .d5, .d5, .d5, .d5, .d5, .d5, .d5, .d5, .d5, .d5, .d5]) (fun u => [some ⟨0, [.dsl true t.length (encN t)]⟩, some ⟨0, (freeR t v).map cb⟩]) (fun u => suB t env v = false) (fun K7 hK7 => ?_) ?_
    · refine Wp.block ?_
      refine Wp.seqK fun K8 hK8 => ?_
      refine rg ?_
      refine hK8 _ ?_
      clear hK8 K8
      refine Wp.seqK fun K9 hK9 => ?_
      refine rg ?_
      refine ⟨rfl, CallK.rowA (h := freeAt_c _ (by assumption) (by omega) _) (k := ?_)⟩
      refine evd ?_
      refine hK9 _ ?_
      clear hK9 K9
      refine Wp.seqK fun K10 hK10 => ?_
      refine rg ?_
      refine hK10 _ ?_
      clear hK10 K10
      refine Wp.block ?_
      refine Wp.loopU (α := Nat) (fun i => [.d, .k, .k, .d, .d, .k, .k, .d5, .d, .d, .d, .k, .d5, .k, .k, .v (I i), .d5, .d5, .d5, .d5, .d5, .d5, .d5, .d5, .d5, .d5, .d5, .d5, .d5, .d5, .d5, .d5, .d5, .d, .d]) (fun i => [some ⟨0, [.dsl true t.length (encN t)]⟩, some ⟨0, (freeR t v).map cb⟩]) (fun i => i ≤ t.length ∧ ∀ j, j < i → vB t env v j = false) (fun i => t.length - i) 0 (⟨Nat.zero_le _, fun j h => absurd h (Nat.not_lt_zero j)⟩) (anyS) ?_
      rintro i f11 K11 ⟨hi, hib⟩ hK11
      simp only [updT_k, updT_d, updT_d5, updT_v, updT_nil, Nat.reduceAdd]
      refine Wp.seqK fun K12 hK12 => ?_
      refine rg ?_
      refine hK12 _ ?_
      clear hK12 K12
      refine Wp.seqK fun K13 hK13 => ?_
      refine Wp.condS (fun h24 => ?_) (fun h24 => ?_)
      · have hil : i < t.length := by omega
        refine Wp.skip ?_
        refine hK13 _ ?_
        clear hK13 K13
        refine Wp.seqK fun K14 hK14 => ?_
        refine Wp.block ?_
        refine Wp.seqK fun K15 hK15 => ?_
        refine rg ?_
        refine hK15 _ ?_
        clear hK15 K15
        refine Wp.seqU0 [.d, .k, .k, .d, .d, .k, .k, .d5, .d, .d, .d, .k, .d5, .k, .k, .k, .d5, .d5, .d5, .d5, .d5, .d, .d, .d, .v (T (vB t env v i)), .d5, .d5, .d5, .d5, .d5, .d5, .d5, .d5, .d5, .d5, .d5, .d, .d, .d] (fun K16 hK16 => ?_) ?_
        · refine Wp.drawI [0, 1, 2, 3, 4, 5, 6, 7] [22] (by kernel_rfl) ?_
          refine evd ?_
          refine grdA_split rfl (fun g8_5 => ?_) (fun g8_5 => ?_)
          · try simp only [decide_eq_true_eq, decide_eq_false_iff_not] at g8_5
            try refine evd ?_
            refine grdA_split rfl (fun g8_10 => ?_) (fun g8_10 => ?_)
            · try simp only [decide_eq_true_eq, decide_eq_false_iff_not] at g8_10
              try refine evd ?_
              refine grdA_split rfl (fun g8_16 => ?_) (fun g8_16 => ?_)
              · try simp only [decide_eq_true_eq, decide_eq_false_iff_not] at g8_16
                try refine evd ?_
                refine ⟨rfl, CallK.valA (h := iWordOk_c _ _) (k := ?_)⟩
                refine evd ?_
                exact hK16 _ (anyS (h := by first | rfl | (simp only [vB, g8_5, g8_10, g8_16, Bool.true_or, Bool.or_true, Bool.false_or, Bool.or_false, Bool.true_and, Bool.and_true, Bool.false_and, Bool.and_false, Bool.not_true, Bool.not_false, decide_true, decide_false, eq_self, Int.reduceEq] <;> rfl)))
              · try simp only [decide_eq_true_eq, decide_eq_false_iff_not] at g8_16
                try refine evd ?_
                exact hK16 _ (anyS (h := by first | rfl | (simp only [vB, g8_5, g8_10, g8_16, Bool.true_or, Bool.or_true, Bool.false_or, Bool.or_false, Bool.true_and, Bool.and_true, Bool.false_and, Bool.and_false, Bool.not_true, Bool.not_false, decide_true, decide_false, eq_self, Int.reduceEq] <;> rfl)))
            · try simp only [decide_eq_true_eq, decide_eq_false_iff_not] at g8_10
              try refine evd ?_
              exact hK16 _ (anyS (h := by first | rfl | (simp only [vB, g8_5, g8_10, Bool.true_or, Bool.or_true, Bool.false_or, Bool.or_false, Bool.true_and, Bool.and_true, Bool.false_and, Bool.and_false, Bool.not_true, Bool.not_false, decide_true, decide_false, eq_self, Int.reduceEq] <;> rfl)))
          · try simp only [decide_eq_true_eq, decide_eq_false_iff_not] at g8_5
            try refine evd ?_
            exact hK16 _ (anyS (h := by first | rfl | (simp only [vB, g8_5, Bool.true_or, Bool.or_true, Bool.false_or, Bool.or_false, Bool.true_and, Bool.and_true, Bool.false_and, Bool.and_false, Bool.not_true, Bool.not_false, decide_true, decide_false, eq_self, Int.reduceEq] <;> rfl)))
        rintro f16
        simp only [updT_k, updT_d, updT_d5, updT_v, updT_nil, Nat.reduceAdd]
        refine Wp.condS (fun h52 => ?_) (fun h52 => ?_)
        · have hs := su_1 hv8 hil h52
          refine Wp.seqK fun K17 hK17 => ?_
          refine rg ?_
          refine hK17 _ ?_
          clear hK17 K17
          refine Wp.ret (retV ?_)
          try simp only [List.getD_cons_zero, List.getD_cons_succ]
          rw [hs]
        · have hbi : vB t env v i = false := h52
          refine Wp.skip ?_
          try simp only [thn, inB, if_true, reduceIte]
          refine hK14 _ ?_
          clear hK14 K14
          refine Wp.keep 2 (by simp [hB]) (by simp) ?_
          refine evd ?_
          refine rg ?_
          exact hK11 (i + 1) _ ⟨by omega, ub_next hib hbi⟩ (by omega) anyS
      · have hil : i = t.length := by omega
        subst hil
        have hsv : suB t env v = false := any_none hib
        refine Wp.exit ?_
        try simp only [thn, inB, if_true, reduceIte]
        clear hK13 K13
        clear hK11 K11
        try simp only [thn, inB, if_true, reduceIte]
        exact hK7 () _ hsv anyS
    rintro _ f7 hsv
    simp only [updT_k, updT_d, updT_d5, updT_v, updT_nil, Nat.reduceAdd]
    refine Wp.keep 1 (by simp [hB]) (by simp) ?_
    refine evd ?_
    refine rg ?_
    exact hK4 (v + 1) _ ⟨by omega, ub_next hvb hsv⟩ (by omega) anyS
  · have hv8 : v = 8 := by omega
    subst hv8
    refine Wp.exit ?_
    try simp only [thn, inB, if_true, reduceIte]
    clear hK6 K6
    clear hK4 K4
    refine hK2 _ ?_
    clear hK2 K2
    refine Wp.seqK fun K18 hK18 => ?_
    refine Wp.seqK fun K19 hK19 => ?_
    refine Wp.keep 1 (by simp [hB]) (by simp) ?_
    refine evd ?_
    refine rg ?_
    refine ⟨rfl, CallK.rowA (h := reached_c _ hok (by omega)) (k := ?_)⟩
    refine evd ?_
    refine hK19 _ ?_
    clear hK19 K19
    refine Wp.block ?_
    refine Wp.loopU (α := Nat) (fun x => [.d, .d, .k, .d5, .d5, .d5, .d5, .d5, .d5, .d5, .d5, .d5, .d5, .d, .d, .d, .k, .k, .v (I x), .d5, .d5, .d5, .d5, .d5, .d5, .d5, .d5, .d5, .d5, .d, .d]) (fun x => [some ⟨0, [.dsl true t.length (encN t)]⟩, some ⟨0, (reachT t).map cb⟩]) (fun x => x ≤ t.length ∧ ∀ j, j < x → sqB t j = false) (fun x => t.length - x) 0 (⟨Nat.zero_le _, fun j h => absurd h (Nat.not_lt_zero j)⟩) (anyS) ?_
    rintro x f20 K20 ⟨hx, hqb⟩ hK20
    simp only [updT_k, updT_d, updT_d5, updT_v, updT_nil, Nat.reduceAdd]
    refine Wp.seqK fun K21 hK21 => ?_
    refine rg ?_
    refine hK21 _ ?_
    clear hK21 K21
    refine Wp.seqK fun K22 hK22 => ?_
    refine Wp.condS (fun h59 => ?_) (fun h59 => ?_)
    · have hxl : x < t.length := by omega
      refine Wp.skip ?_
      refine hK22 _ ?_
      clear hK22 K22
      refine Wp.seqU (α := Obs) (fun o => [.d, .d, .k, .d5, .d5, .d5, .d5, .d5, .d5, .d5, .d5, .d5, .d5, .d, .d, .d, .k, .k, .k, .d5, .d5, .d5, .d5, .d5, .d5, .d5, .d5, .d5, .d5, .d, .d]) (fun o => (some ⟨0, [.dsl true t.length (encN t)]⟩ :: some ⟨0, (reachT t).map cb⟩ :: o)) (fun o => sqB t x = false) (fun K23 hK23 => ?_) ?_
      · refine Wp.block ?_
        refine Wp.seqK fun K24 hK24 => ?_
        refine rg ?_
        refine hK24 _ ?_
        clear hK24 K24
        refine Wp.seqK fun K25 hK25 => ?_
        refine rg ?_
        refine hK25 _ ?_
        clear hK25 K25
        refine Wp.seqK fun K26 hK26 => ?_
        refine Wp.seqU0 [.d, .d, .k, .d5, .d, .d, .d, .k, .d5, .d5, .d5, .d5, .d5, .d5, .d5, .d5, .d, .d, .d, .d, .k, .k, .k, .d5, .d5, .d, .d, .d, .d, .v (T (!((reachT t).getD x false && isQ (t.getD x default).op))), .d5, .d5, .d5, .d5, .d5, .d5, .d5, .d, .d] (fun K27 hK27 => ?_) ?_
        · refine rg ?_
          refine grdA_split rfl (fun g16_3 => ?_) (fun g16_3 => ?_)
          · try simp only [decide_eq_true_eq, decide_eq_false_iff_not] at g16_3
            try refine evd ?_
            have e : (reachT t).getD x false = false := by simpa using g16_3
            exact hK27 _ (anyS (h := by rw [e] <;> rfl))
          · try simp only [decide_eq_true_eq, decide_eq_false_iff_not] at g16_3
            try refine evd ?_
            refine ⟨rfl, CallK.valA (h := isQuant_c _) (k := ?_)⟩
            refine evd ?_
            have e : (reachT t).getD x false = true := by simpa using g16_3
            exact hK27 _ (anyS (h := by rw [e] <;> rfl))
        rintro f27
        simp only [updT_k, updT_d, updT_d5, updT_v, updT_nil, Nat.reduceAdd]
        refine Wp.condS (fun h73 => ?_) (fun h73 => ?_)
        · have hsq : sqB t x = false := by
            unfold sqB
            rw [show ((reachT t).getD x false && isQ (t.getD x default).op) = false by simpa using h73]; rfl
          refine Wp.exit ?_
          try simp only [thn, inB, if_true, reduceIte]
          clear hK26 K26
          exact hK23 [some ⟨0, nl (t.getD x default)⟩] _ hsq anyS
        · have hrq : ((reachT t).getD x false && isQ (t.getD x default).op) = true := by simpa using h73
          have hqq := (Bool.and_eq_true _ _ ▸ hrq).2
          have hpa := hpo x hxl (t.getD x default).a (by rw [parts_q hqq]; simp)
          refine Wp.skip ?_
          refine hK26 _ ?_
          clear hK26 K26
          refine Wp.seqK fun K28 hK28 => ?_
          refine rg ?_
          refine ⟨rfl, CallK.passN [0, 2] (h := reach3_c t hok hl (t.getD x default).a.toNat (by omega) (passV t (t.getD x default).k) 88 rfl [.dsl true t.length (encN t)] (nl (t.getD x default)) rfl rfl (fun i hi => suitsFn_c t (by omega) (t.getD x default) i hi)) (ho := rfl) (ha := by rw [show ((((t.getD x default).a.toNat + 1 : Nat) : Int) - 1) = (t.getD x default).a by omega] <;> rfl) (hs := rfl) (k := ?_)⟩
          have hil2 : (innT t x).length = t.length := reachR_len _ _ _
          have hie : bQ t (passV t (t.getD x default).k) (t.getD x default).a.toNat 0 = innT t x := bQ_reach _ _ _
          simp only [hie]
          refine evd ?_
          simp only [show mB [0, 2] 3 2 0 = some (3, 0) from rfl, optO]
          refine hK28 _ ?_
          clear hK28 K28
          refine Wp.seqK fun K29 hK29 => ?_
          refine rg ?_
          refine hK29 _ ?_
          clear hK29 K29
          refine Wp.block ?_
          refine Wp.loopU (α := Nat) (fun k => [.d, .d, .k, .d5, .d, .d, .d, .k, .k, .d5, .d5, .d5, .d5, .d5, .d5, .d5, .d5, .d, .d, .d, .k, .k, .k, .d5, .d5, .d5, .d5, .k, .k, .v (I k), .d5, .d5, .d5, .d5, .d5, .d, .d, .d, .d]) (fun k => [some ⟨0, [.dsl true t.length (encN t)]⟩, some ⟨0, (reachT t).map cb⟩, some ⟨0, nl (t.getD x default)⟩, some ⟨0, (innT t x).map cb⟩]) (fun k => k ≤ t.length ∧ ∀ j, j < k → qB t x j = false) (fun k => t.length - k) 0 (⟨Nat.zero_le _, fun j h => absurd h (Nat.not_lt_zero j)⟩) (anyS) ?_
          rintro k f30 K30 ⟨hk, hkb⟩ hK30
          simp only [updT_k, updT_d, updT_d5, updT_v, updT_nil, Nat.reduceAdd]
          refine Wp.seqK fun K31 hK31 => ?_
          refine rg ?_
          refine hK31 _ ?_
          clear hK31 K31
          refine Wp.seqK fun K32 hK32 => ?_
          refine Wp.condS (fun h82 => ?_) (fun h82 => ?_)
          · have hkl : k < t.length := by omega
            refine Wp.skip ?_
            refine hK32 _ ?_
            clear hK32 K32
            refine Wp.seqK fun K33 hK33 => ?_
            refine Wp.block ?_
            refine Wp.seqK fun K34 hK34 => ?_
            refine rg ?_
            refine hK34 _ ?_
            clear hK34 K34
            refine Wp.seqU0 [.d, .d, .k, .d5, .d, .d, .d, .k, .k, .d5, .d5, .d5, .d5, .d5, .d5, .d5, .d5, .d, .d, .d, .k, .k, .k, .d5, .d5, .d5, .d5, .k, .k, .k, .d5, .d5, .d5, .d5, .d5, .d, .v (T (qB t x k)), .d, .d] (fun K35 hK35 => ?_) ?_
            · refine rg ?_
              refine grdA_split rfl (fun g21_5 => ?_) (fun g21_5 => ?_)
              · try simp only [decide_eq_true_eq, decide_eq_false_iff_not] at g21_5
                try refine evd ?_
                refine grdA_split rfl (fun g21_10 => ?_) (fun g21_10 => ?_)
                · try simp only [decide_eq_true_eq, decide_eq_false_iff_not] at g21_10
                  try refine evd ?_
                  refine grdA_split rfl (fun g21_17 => ?_) (fun g21_17 => ?_)
                  · try simp only [decide_eq_true_eq, decide_eq_false_iff_not] at g21_17
                    try refine evd ?_
                    exact hK35 _ (anyS (h := by first | rfl | (simp only [qB, g21_5, g21_10, g21_17, Bool.true_or, Bool.or_true, Bool.false_or, Bool.or_false, Bool.true_and, Bool.and_true, Bool.false_and, Bool.and_false, Bool.not_true, Bool.not_false, decide_true, decide_false, eq_self, Int.reduceEq] <;> rfl)))
                  · try simp only [decide_eq_true_eq, decide_eq_false_iff_not] at g21_17
                    try refine evd ?_
                    exact hK35 _ (anyS (h := by first | rfl | (simp only [qB, g21_5, g21_10, g21_17, Bool.true_or, Bool.or_true, Bool.false_or, Bool.or_false, Bool.true_and, Bool.and_true, Bool.false_and, Bool.and_false, Bool.not_true, Bool.not_false, decide_true, decide_false, eq_self, Int.reduceEq] <;> rfl)))
                · try simp only [decide_eq_true_eq, decide_eq_false_iff_not] at g21_10
                  try refine evd ?_
                  exact hK35 _ (anyS (h := by first | rfl | (simp only [qB, g21_5, g21_10, Bool.true_or, Bool.or_true, Bool.false_or, Bool.or_false, Bool.true_and, Bool.and_true, Bool.false_and, Bool.and_false, Bool.not_true, Bool.not_false, decide_true, decide_false, eq_self, Int.reduceEq] <;> rfl)))
              · try simp only [decide_eq_true_eq, decide_eq_false_iff_not] at g21_5
                try refine evd ?_
                exact hK35 _ (anyS (h := by first | rfl | (simp only [qB, g21_5, Bool.true_or, Bool.or_true, Bool.false_or, Bool.or_false, Bool.true_and, Bool.and_true, Bool.false_and, Bool.and_false, Bool.not_true, Bool.not_false, decide_true, decide_false, eq_self, Int.reduceEq] <;> rfl)))
            rintro f35
            simp only [updT_k, updT_d, updT_d5, updT_v, updT_nil, Nat.reduceAdd]
            refine Wp.condS (fun h108 => ?_) (fun h108 => ?_)
            · have hs := su_2 (env := env) hxl (sq_y hrq hkl h108)
              refine Wp.seqK fun K36 hK36 => ?_
              refine rg ?_
              refine hK36 _ ?_
              clear hK36 K36
              refine Wp.ret (retV ?_)
              try simp only [List.getD_cons_zero, List.getD_cons_succ]
              rw [hs]
            · have hbk : qB t x k = false := h108
              refine Wp.skip ?_
              try simp only [thn, inB, if_true, reduceIte]
              refine hK33 _ ?_
              clear hK33 K33
              refine Wp.keep 4 (by simp [hB]) (by simp) ?_
              refine evd ?_
              refine rg ?_
              exact hK30 (k + 1) _ ⟨by omega, ub_next hkb hbk⟩ (by omega) anyS
          · have hkl : k = t.length := by omega
            subst hkl
            have hsq : sqB t x = false := sq_n hkb
            refine Wp.exit ?_
            try simp only [thn, inB, if_true, reduceIte]
            clear hK32 K32
            clear hK30 K30
            try simp only [thn, inB, if_true, reduceIte]
            exact hK23 [some ⟨0, nl (t.getD x default)⟩, some ⟨0, (innT t x).map cb⟩] _ hsq anyS
      rintro o f23 hsq
      simp only [updT_k, updT_d, updT_d5, updT_v, updT_nil, Nat.reduceAdd]
      refine Wp.keep 2 (by simp [hB]) (by simp) ?_
      refine evd ?_
      refine rg ?_
      exact hK20 (x + 1) _ ⟨by omega, ub_next hqb hsq⟩ (by omega) anyS
    · have hxl : x = t.length := by omega
      subst hxl
      refine Wp.exit ?_
      try simp only [thn, inB, if_true, reduceIte]
      clear hK22 K22
      clear hK20 K20
      refine hK18 _ ?_
      clear hK18 K18
      refine Wp.seqK fun K37 hK37 => ?_
      refine rg ?_
      refine hK37 _ ?_
      clear hK37 K37
      refine Wp.ret (retV ?_)
      try simp only [List.getD_cons_zero, List.getD_cons_succ]
      rw [su_y hvb hqb]
theorem qbN_b {t : List Nd} (hok : okT t = true) : ∀ x, x ≤ t.length → 0 ≤ qbN t x ∧ qbN t x ≤ 8 * (x : Int)
  | 0, _ => by simp [qbN]
  | x + 1, hx => by
    have ih := qbN_b hok x (by omega)
    simp only [qbN]
    split
    · unfold qbit
      split
      · rename_i h
        have := quant_rule (okT_node hok (show x < t.length by omega)) h
        omega
      · omega
    · omega
theorem qBits_c (t : List Nd) (hok : okT t = true) (hl : 1 ≤ t.length ∧ t.length ≤ 80) : Val E.P 39 [dN t] (I (qbT t)) := by
  refine CallsA.body (E := E) (fn := Tryz.f39) Tryz.func39 rfl fun B hB => ?_
  simp only [Tryz.ntmps39, go_sem, nl, Nat.reduceSub, Nat.reduceAdd, List.reduceReplicate]
  have hrl := reachT_len t
  refine Wp.seqK fun K1 hK1 => ?_
  refine rg ?_
  refine hK1 _ ?_
  clear hK1 K1
  refine Wp.seqK fun K2 hK2 => ?_
  refine rg ?_
  refine hK2 _ ?_
  clear hK2 K2
  refine Wp.seqK fun K3 hK3 => ?_
  refine Wp.seqK fun K4 hK4 => ?_
  refine rg ?_
  refine ⟨rfl, CallK.rowA (h := reached_c _ hok (by omega)) (k := ?_)⟩
  refine evd ?_
  refine hK4 _ ?_
  clear hK4 K4
  refine Wp.block ?_
  refine Wp.loopU (α := Nat) (fun x => [.k, .d, .d, .v (I (qbN t x)), .d, .d, .d, .k, .k, .v (I x), .d5, .d5, .d5, .d5, .d]) (fun x => [some ⟨0, (reachT t).map cb⟩]) (fun x => x ≤ t.length) (fun x => t.length - x) 0 (Nat.zero_le _) (anyS) ?_
  rintro x f5 K5 hx hK5
  simp only [updT_k, updT_d, updT_d5, updT_v, updT_nil, Nat.reduceAdd]
  have hqn := qbN_b hok x hx
  refine Wp.seqK fun K6 hK6 => ?_
  refine rg ?_
  refine hK6 _ ?_
  clear hK6 K6
  refine Wp.seqK fun K7 hK7 => ?_
  refine Wp.condS (fun h10 => ?_) (fun h10 => ?_)
  · have hxl : x < t.length := by omega
    refine Wp.skip ?_
    refine hK7 _ ?_
    clear hK7 K7
    refine Wp.seqU0 [.k, .d, .d, .v (I (qbN t (x + 1))), .d, .d, .d, .k, .k, .k, .d5, .d5, .d5, .d5, .d] (fun K8 hK8 => ?_) ?_
    · refine Wp.block ?_
      refine Wp.seqK fun K9 hK9 => ?_
      refine rg ?_
      refine hK9 _ ?_
      clear hK9 K9
      refine Wp.seqU0 [.k, .d, .d, .k, .k, .d, .d, .k, .k, .k, .d5, .d5, .d, .v (T ((reachT t).getD x false && isQ (t.getD x default).op)), .d5, .d, .d, .d, .d] (fun K10 hK10 => ?_) ?_
      · refine rg ?_
        refine grdA_split rfl (fun g5_2 => ?_) (fun g5_2 => ?_)
        · try simp only [decide_eq_true_eq, decide_eq_false_iff_not] at g5_2
          try refine evd ?_
          refine ⟨rfl, CallK.valA (h := isQuant_c _) (k := ?_)⟩
          refine evd ?_
          exact hK10 _ (anyS (h := by first | rfl | (simp only [g5_2, Bool.true_or, Bool.or_true, Bool.false_or, Bool.or_false, Bool.true_and, Bool.and_true, Bool.false_and, Bool.and_false, Bool.not_true, Bool.not_false, decide_true, decide_false, eq_self, Int.reduceEq] <;> rfl)))
        · try simp only [decide_eq_true_eq, decide_eq_false_iff_not] at g5_2
          try refine evd ?_
          exact hK10 _ (anyS (h := by first | rfl | (simp only [g5_2, Bool.true_or, Bool.or_true, Bool.false_or, Bool.or_false, Bool.true_and, Bool.and_true, Bool.false_and, Bool.and_false, Bool.not_true, Bool.not_false, decide_true, decide_false, eq_self, Int.reduceEq] <;> rfl)))
      rintro f10
      simp only [updT_k, updT_d, updT_d5, updT_v, updT_nil, Nat.reduceAdd]
      refine Wp.condS (fun h21 => ?_) (fun h21 => ?_)
      · have hqb := quant_rule (okT_node hok hxl) h21.2
        have hs : qbN t (x + 1) = qbN t x + (t.getD x default).b := by
          show qbN t x + (if (reachT t).getD x false = true then qbit (t.getD x default) else 0) = _
          unfold qbit
          rw [if_pos h21.1, if_pos h21.2]
        refine rg ?_
        try simp only [thn, inB, if_true, reduceIte]
        exact hK8 _ (anyS (h := by rw [hs] <;> rfl))
      · have hs : qbN t (x + 1) = qbN t x := by
          show qbN t x + (if (reachT t).getD x false = true then qbit (t.getD x default) else 0) = _
          unfold qbit
          cases hr : (reachT t).getD x false with
          | false => rw [if_neg (by decide)]; omega
          | true => rw [if_pos rfl, if_neg (by rw [hr] at h21; simpa using h21)]; omega
        refine Wp.skip ?_
        try simp only [thn, inB, if_true, reduceIte]
        exact hK8 _ (anyS (h := by rw [hs] <;> rfl))
    rintro f8
    simp only [updT_k, updT_d, updT_d5, updT_v, updT_nil, Nat.reduceAdd]
    refine rg ?_
    exact hK5 (x + 1) _ (by omega) (by omega) anyS
  · have hxl : x = t.length := by omega
    subst hxl
    refine Wp.exit ?_
    try simp only [thn, inB, if_true, reduceIte]
    clear hK7 K7
    clear hK5 K5
    refine hK3 _ ?_
    clear hK3 K3
    refine Wp.seqK fun K11 hK11 => ?_
    refine rg ?_
    refine hK11 _ ?_
    clear hK11 K11
    refine Wp.ret (retV ?_)
    try simp only [List.getD_cons_zero, List.getD_cons_succ]
    rfl
end Go.Proofs.YtkdkbnacelnljaaGreat.RE

/-! What a term is worth, the program. Conditions: those that a theorem names. -/
set_option linter.unusedVariables false
set_option linter.unusedSimpArgs false
namespace Go.Proofs.YtkdkbnacelnljaaGreat.RE
open Go Go.RowKit
set_option maxRecDepth 100000
set_option maxHeartbeats 8000000
theorem vok_1 {t : List Nd} {env : List Int} (h : okT t = false) : vOkI t env = false := by unfold vOkI; rw [h]; rfl
theorem vok_2 {t : List Nd} {env : List Int} (h : ¬ env.length = 8) : vOkI t env = false := by unfold vOkI; rw [decide_eq_false h, Bool.and_false]; rfl
theorem vok_3 {t : List Nd} {env : List Int} (h : suitsT t env = false) : vOkI t env = false := by unfold vOkI; rw [h, Bool.and_false]; rfl
theorem vok_4 {t : List Nd} {env : List Int} (h1 : okT t = true) (h2 : env.length = 8) (h3 : suitsT t env = true) : vOkI t env = decide (qbT t ≤ 12) := by unfold vOkI; rw [h1, decide_eq_true h2, h3]; rfl
theorem iValue_c (t : List Nd) (env : List Int) (hlb : t.length ≤ 1048576) (heb : env.length ≤ 1048576) : Val E.P 22 [dN t, dI env] (.tup [TI (valI t env), TB (vOkI t env)]) := by
  refine CallsA.body (E := E) (fn := Tryz.f22) Tryz.func22 rfl fun B hB => ?_
  simp only [Tryz.ntmps22, go_sem, nl, Nat.reduceSub, Nat.reduceAdd, List.reduceReplicate]
  refine Wp.seqK fun K1 hK1 => ?_
  refine rg ?_
  refine hK1 _ ?_
  clear hK1 K1
  refine Wp.seqK fun K2 hK2 => ?_
  refine Wp.seqU0 [.k, .k, .d5, .d5, .d5, .d5, .d, .d, .d, .v (T (!vOkI t env)), .d5, .d5, .d5, .d] (fun K3 hK3 => ?_) ?_
  · refine rg ?_
    refine ⟨rfl, CallK.valA (h := iTermOk_c _) (k := ?_)⟩
    refine evd ?_
    refine grdA_split rfl (fun g1_4 => ?_) (fun g1_4 => ?_)
    · try simp only [decide_eq_true_eq, decide_eq_false_iff_not] at g1_4
      try refine evd ?_
      have e := vok_1 (env := env) (show okT t = false by simpa using g1_4)
      exact hK3 _ (anyS (h := by rw [e] <;> rfl))
    · try simp only [decide_eq_true_eq, decide_eq_false_iff_not] at g1_4
      have hok : okT t = true := by simpa using g1_4
      have hl := okT_len hok
      try refine evd ?_
      refine grdA_split rfl (fun g1_9 => ?_) (fun g1_9 => ?_)
      · try simp only [decide_eq_true_eq, decide_eq_false_iff_not] at g1_9
        have h9 : ¬ ((env.length : Int) = 8) := by simpa using g1_9
        try refine evd ?_
        have e := vok_2 (t := t) (env := env) (by omega)
        exact hK3 _ (anyS (h := by rw [e] <;> rfl))
      · try simp only [decide_eq_true_eq, decide_eq_false_iff_not] at g1_9
        have h9 : (env.length : Int) = 8 := by simpa using g1_9
        have hel : env.length = 8 := by omega
        try refine evd ?_
        refine ⟨rfl, CallK.valA (h := suits_c _ hok (by omega) _ hel) (k := ?_)⟩
        refine evd ?_
        refine grdA_split rfl (fun g1_15 => ?_) (fun g1_15 => ?_)
        · try simp only [decide_eq_true_eq, decide_eq_false_iff_not] at g1_15
          try refine evd ?_
          have e := vok_3 (show suitsT t env = false by simpa using g1_15)
          exact hK3 _ (anyS (h := by rw [e] <;> rfl))
        · try simp only [decide_eq_true_eq, decide_eq_false_iff_not] at g1_15
          try refine evd ?_
          refine ⟨rfl, CallK.valA (h := qBits_c _ hok (by omega)) (k := ?_)⟩
          refine evd ?_
          have e := vok_4 hok hel (show suitsT t env = true by simpa using g1_15)
          have e2 : (!decide (qbT t ≤ 12)) = decide (12 < qbT t) := by rw [← decide_not, decide_eq_decide]; omega
          exact hK3 _ (anyS (h := by rw [e, e2] <;> rfl))
  rintro f3
  simp only [updT_k, updT_d, updT_d5, updT_v, updT_nil, Nat.reduceAdd]
  refine Wp.condS (fun h25 => ?_) (fun h25 => ?_)
  · have hv : vOkI t env = false := by simpa using h25
    have hz := val_no hv
    refine Wp.seqK fun K4 hK4 => ?_
    refine rg ?_
    refine hK4 _ ?_
    clear hK4 K4
    refine Wp.ret (retV ?_)
    try simp only [List.getD_cons_zero, List.getD_cons_succ]
    rw [hz, hv] <;> rfl
  · have hv : vOkI t env = true := by simpa using h25
    have ha := val_at hv
    have hok := ha.1
    have hel := ha.2.1
    have hl := okT_len hok
    refine Wp.skip ?_
    refine hK2 _ ?_
    clear hK2 K2
    refine Wp.seqK fun K5 hK5 => ?_
    refine rg ?_
    refine hK5 _ ?_
    clear hK5 K5
    refine Wp.seqK fun K6 hK6 => ?_
    refine rg ?_
    refine hK6 _ ?_
    clear hK6 K6
    refine Wp.seqK fun K7 hK7 => ?_
    have ec : List.take (env.length.min (((8 : Nat) : Int) - 0).toNat) (env.map ci) ++ List.drop (1 + min (env.length.min (((8 : Nat) : Int) - 0).toNat) env.length) [LV.dsl true t.length (encN t), LV.sc (Value.int IntKind.i64 0), LV.sc (Value.int IntKind.i64 0), LV.sc (Value.int IntKind.i64 0), LV.sc (Value.int IntKind.i64 0), LV.sc (Value.int IntKind.i64 0), LV.sc (Value.int IntKind.i64 0), LV.sc (Value.int IntKind.i64 0), LV.sc (Value.int IntKind.i64 0)] = env.map ci := by
      rw [show env.length.min (((8 : Nat) : Int) - 0).toNat = 8 by rw [hel]; rfl, hel, List.take_of_length_le (by simp [hel])]
      exact List.append_nil _
    rw [ec]
    refine rg ?_
    refine ⟨rfl, CallK.handA 1 (o1 := [some ⟨0, .dsl true t.length (encN t) :: env.map ci⟩]) (new := [some ⟨0, (List.replicate t.length (-1)).map ci⟩]) (blank_c t env hel (by omega)) ?_⟩
    refine evd ?_
    refine ⟨rfl, CallK.give2E 0 1 (value_c t hok hl.2 (t.length - 1) (by omega) env _ hel (kn_new t env)) (fun r ob1 hq1 => ?_) rfl rfl (vr_still _ _) (ci_still _) (ha := by rw [show ((t.length - 1 : Nat) : Int) = (t.length : Int) - 1 by omega] <;> rfl)⟩
    obtain ⟨rfl, kn2, hk2, rfl⟩ := hq1
    refine ⟨_, _, rfl, vr_still _ _, ci_still _, rfl, ?_⟩
    refine evd ?_
    refine hK7 _ ?_
    clear hK7 K7
    refine Wp.ret (retV ?_)
    try simp only [List.getD_cons_zero, List.getD_cons_succ]
    rw [ha.2.2.2, hv] <;> rfl
theorem isen_ok {t : List Nd} (h : isenT t = true) : okT t = true := by
  unfold isenT at h
  rw [Bool.and_eq_true] at h
  exact sentA_ok h.1
theorem iHolds_c (t : List Nd) (hlb : t.length ≤ 1048576) : Val E.P 16 [dN t] (.tup [TI (holdsI t).1, TB (holdsI t).2]) := by
  refine CallsA.body (E := E) (fn := Tryz.f16) Tryz.func16 rfl fun B hB => ?_
  simp only [Tryz.ntmps16, go_sem, nl, Nat.reduceSub, Nat.reduceAdd, List.reduceReplicate]
  refine Wp.seqK fun K1 hK1 => ?_
  refine rg ?_
  refine hK1 _ ?_
  clear hK1 K1
  refine Wp.seqK fun K2 hK2 => ?_
  refine Wp.seqU0 [.k, .d5, .d5, .v (T (!(isenT t && decide (qbT t ≤ 12)))), .d5] (fun K3 hK3 => ?_) ?_
  · refine rg ?_
    refine ⟨rfl, CallK.valA (h := iSentence_c _ hlb) (k := ?_)⟩
    refine evd ?_
    refine grdA_split rfl (fun g1_4 => ?_) (fun g1_4 => ?_)
    · try simp only [decide_eq_true_eq, decide_eq_false_iff_not] at g1_4
      try refine evd ?_
      have e : isenT t = false := by simpa using g1_4
      exact hK3 _ (anyS (h := by rw [e] <;> rfl))
    · try simp only [decide_eq_true_eq, decide_eq_false_iff_not] at g1_4
      have hs0 : isenT t = true := by simpa using g1_4
      try refine evd ?_
      refine ⟨rfl, CallK.valA (h := qBits_c _ (isen_ok hs0) (okT_len (isen_ok hs0))) (k := ?_)⟩
      refine evd ?_
      have e2 : (!decide (qbT t ≤ 12)) = decide (12 < qbT t) := by rw [← decide_not, decide_eq_decide]; omega
      exact hK3 _ (anyS (h := by rw [hs0, Bool.true_and, e2] <;> rfl))
  rintro f3
  simp only [updT_k, updT_d, updT_d5, updT_v, updT_nil, Nat.reduceAdd]
  refine Wp.condS (fun h11 => ?_) (fun h11 => ?_)
  · have e : holdsI t = (0, false) := if_neg (by simpa using h11)
    refine Wp.seqK fun K4 hK4 => ?_
    refine rg ?_
    refine hK4 _ ?_
    clear hK4 K4
    refine Wp.ret (retV ?_)
    try simp only [List.getD_cons_zero, List.getD_cons_succ]
    rw [e] <;> rfl
  · have e : holdsI t = (valI t zer8, vOkI t zer8) := if_pos (by simpa using h11)
    refine Wp.skip ?_
    refine hK2 _ ?_
    clear hK2 K2
    refine Wp.seqK fun K5 hK5 => ?_
    refine rg ?_
    refine ⟨rfl, CallK.valA (h := iValue_c t zer8 (by omega) (by decide)) (k := ?_)⟩
    refine evd ?_
    refine hK5 _ ?_
    clear hK5 K5
    refine Wp.ret (retV ?_)
    try simp only [List.getD_cons_zero, List.getD_cons_succ]
    rw [e] <;> rfl
end Go.Proofs.YtkdkbnacelnljaaGreat.RE
