/- What suits, and the bits of quantifiers, the program. Conditions: those that a theorem names. -/
import Derived.Test.YtkdkbnacelnljaaQGA
import Derived.Test.YtkdkbnacelnljaaQV1
import Derived.Test.YtkdkbnacelnljaaQGB
import Derived.Test.YtkdkbnacelnljaaQF9
import Derived.Test.YtkdkbnacelnljaaQD15
set_option linter.unusedVariables false
set_option linter.unusedSimpArgs false
namespace Go.Proofs.Ytkdkbnacelnljaa.RE
open Go Go.RowKit
set_option maxRecDepth 100000
set_option maxHeartbeats 8000000
/-- Rows are handed over wherever they lie, none is changed, new ones are answered. -/
theorem obB_new {σ : List Nat} {ob new : Obs} (hn : σ.Nodup) (hlt : ∀ s ∈ σ, s < ob.length) (h : ∀ s ∈ σ, ∀ x, ob.getD s none = some x → x.cs.all (LV.within σ) = true) : obB σ ob (obC σ ob ++ new) = ob ++ new.map (Option.map (Ob.ren (mB σ ob.length))) := by
  have e := obB_same hn hlt h
  have hl : (obC σ ob).length = σ.length := by simp [obC]
  unfold obB at e ⊢
  rw [List.drop_of_length_le (by omega), List.map_nil, List.append_nil] at e
  rw [List.drop_left' hl]
  congr 1
  refine Eq.trans ?_ e
  congr 1
  funext o
  cases hi : σ.idxOf? o with
  | none => rfl
  | some i =>
    have hσ := idx_get hi
    have : i < σ.length := by
      rcases Nat.lt_or_ge i σ.length with h | h
      · exact h
      · rw [List.getElem?_eq_none h] at hσ; cases hσ
    simp only [Option.bind_some]
    rw [List.getElem?_append_left (by omega)]
theorem CallK.passN {P : Program} {f : FuncId} {args args' : List AV} {st : St} {d : Option Tmp} {K : St → Prop} (σ : List Nat) {r0 : AV} {obm new : Obs} (h : CallsA P f args' obm fun r ob => r = r0 ∧ ob = obm ++ new) (k : K ⟨putT st.tm d (r0.ren (mB σ st.ob.length)), st.ob ++ new.map (Option.map (Ob.ren (mB σ st.ob.length)))⟩) (ha : args.map (AV.toC σ []) = args' := by rfl) (ho : obC σ st.ob = obm)
    (hs : sigOk σ st.ob = true) (hn : σ.Nodup := by decide) : CallK P f args st d K := by
  have hs' : ∀ s ∈ σ, s < st.ob.length ∧ ∀ x, st.ob.getD s none = some x → x.cs.all (LV.within σ) = true := fun s hm => by
    have := List.all_eq_true.1 hs s hm
    simp only [Bool.and_eq_true, decide_eq_true_eq] at this
    refine ⟨this.1, fun x hx => ?_⟩
    have h2 := this.2
    rw [hx] at h2; exact h2
  refine CallK.use (Q := fun r ob => r = r0 ∧ ob = obm ++ new) σ [] ⟨hn, fun s hm => (hs' s hm).1, by simp, by simp⟩ (by rw [ho, ha]; exact h) fun r ob1 ⟨h1, h2⟩ => ?_
  subst h1; subst h2
  refine ⟨by rw [← ho]; simp [obC], .inl rfl, ?_⟩
  rw [← ho, obB_new hn (fun s hm => (hs' s hm).1) (fun s hm => (hs' s hm).2)]
  exact k
/-! ### What is reached from any node -/
def bQ (t : List Nd) (pf : Nat → Bool) (r : Nat) (x : Nat) : List Bool := if h : x ≤ r then stepR t pf x (bQ t pf r (x + 1)) else atR t.length r
termination_by r + 1 - x
theorem bQ_top (t : List Nd) (pf : Nat → Bool) (r : Nat) : bQ t pf r (r + 1) = atR t.length r := by rw [bQ, dif_neg (by omega)]
theorem bQ_step {t : List Nd} {pf : Nat → Bool} {r x : Nat} (h : x ≤ r) : bQ t pf r x = stepR t pf x (bQ t pf r (x + 1)) := by rw [bQ, dif_pos h]
theorem bQ_run (t : List Nd) (pf : Nat → Bool) (r : Nat) : ∀ x, x ≤ r + 1 → runR t pf x (bQ t pf r x) = bQ t pf r 0
  | 0, _ => rfl
  | x + 1, h => by rw [← bQ_run t pf r x (by omega), runR, ← bQ_step (by omega)]
theorem bQ_reach (t : List Nd) (pf : Nat → Bool) (r : Nat) : bQ t pf r 0 = reachR t pf r := by
  rw [← bQ_run t pf r (r + 1) (Nat.le_refl _), bQ_top]; rfl
theorem bQ_len (t : List Nd) (pf : Nat → Bool) (r : Nat) (x : Nat) (h : x ≤ r + 1) : (bQ t pf r x).length = t.length := by
  by_cases hx : x ≤ r
  · rw [bQ_step hx, stepR_len, bQ_len t pf r (x + 1) (by omega)]
  · rw [bQ, dif_neg hx]; simp [atR]
termination_by r + 1 - x
theorem at_set {n r : Nat} : (List.replicate n false).set r true = atR n r := by
  apply List.ext_getElem
  · simp [atR]
  · intro i h1 h2
    simp only [atR, List.length_set, List.length_replicate] at h1
    simp only [atR, List.getElem_set, List.getElem_map, List.getElem_range, List.getElem_replicate]
    by_cases h : r = i
    · subst h; simp
    · rw [if_neg h, decide_eq_false (fun e => h e.symm)]
theorem reach3_c (t : List Nd) (hok : okT t = true) (hl : 1 ≤ t.length ∧ t.length ≤ 80) (r : Nat) (hr : r < t.length) (pf : Nat → Bool) (fn : FuncId) (hgo : goL.contains fn = true) (c0 c1 : List LV) (hc0 : c0.all LV.inert = true) (hc1 : c1.all LV.inert = true) (hf : ∀ i, i < t.length → CallsA E.P fn [I i, .l (.ptr 0 0 0), .l (.ptr 1 0 0)] [some ⟨0, c0⟩, some ⟨0, c1⟩] fun r ob => r = T (pf i) ∧ ob = [some ⟨0, c0⟩, some ⟨0, c1⟩]) : CallsA E.P 56 [dN t, I (((r + 1 : Nat) : Int) - 1), .l (.clo fn [(0, 0, 0), (1, 0, 0)])] [some ⟨0, c0⟩, some ⟨0, c1⟩] fun r1 ob => r1 = .l (.obj 2 0 1 0 t.length) ∧ ob = [some ⟨0, c0⟩, some ⟨0, c1⟩] ++ [some ⟨0, (bQ t pf r 0).map cb⟩] := by
  refine CallsA.body (E := E) (fn := Try.f56) Try.func56 rfl fun B hB => ?_
  simp only [Try.ntmps56, go_sem, nl, Nat.reduceSub, Nat.reduceAdd, List.reduceReplicate]
  refine Wp.seqK fun K1 hK1 => ?_
  refine rg ?_
  refine hK1 _ ?_
  clear hK1 K1
  refine Wp.seqK fun K2 hK2 => ?_
  refine Wp.regionS ?_
  simp only [go_sem, zeroB]
  refine evd ?_
  refine hK2 _ ?_
  clear hK2 K2
  refine Wp.seqK fun K3 hK3 => ?_
  refine rg ?_
  refine hK3 _ ?_
  clear hK3 K3
  refine Wp.seqK fun K4 hK4 => ?_
  refine Wp.seqK fun K5 hK5 => ?_
  refine rg ?_
  refine hK5 _ ?_
  clear hK5 K5
  refine Wp.block ?_
  refine Wp.loopU (α := Nat) (fun x => [.k, .d, .k, .d, .d, .d, .d, .k, .v (I ((x : Int) - 1)), .d5, .d5, .d5, .d5, .d5, .d5, .d5, .d, .d, .d, .d]) (fun x => [some ⟨0, c0⟩, some ⟨0, c1⟩, some ⟨0, (bQ t pf r x).map cb⟩]) (fun x => x ≤ r + 1) (fun x => x) (r + 1) (Nat.le_refl _) (anyS (ho := by rw [bQ_top, ← at_set, show (((r + 1 : Nat) : Int) - 1).toNat = r by omega] <;> rfl)) ?_
  rintro x f6 K6 hx hK6
  simp only [updT_k, updT_d, updT_d5, updT_v, updT_nil, Nat.reduceAdd]
  refine Wp.seqK fun K7 hK7 => ?_
  refine Wp.seqK fun K8 hK8 => ?_
  refine rg ?_
  refine hK8 _ ?_
  clear hK8 K8
  refine Wp.condS (fun h19 => ?_) (fun h19 => ?_)
  · obtain ⟨i, rfl⟩ : ∃ i, x = i + 1 := ⟨x - 1, by omega⟩
    simp only [show ((i + 1 : Nat) : Int) - 1 = (i : Int) by omega]
    have hi : i < t.length := by omega
    have hp := okT_part hok hi
    have hpl := parts_len (t.getD i default)
    have hbl := bQ_len t pf r (i + 1) hx
    refine Wp.skip ?_
    refine hK7 _ ?_
    clear hK7 K7
    refine Wp.seqK fun K9 hK9 => ?_
    refine Wp.block ?_
    refine Wp.seqK fun K10 hK10 => ?_
    refine Wp.seqU0 [.k, .d, .k, .d, .d, .d, .d, .k, .k, .d5, .d5, .d5, .d5, .d, .d, .d, .v (T (!((bQ t pf r (i + 1)).getD i false) || !(pf i))), .d5, .d5, .d5] (fun K11 hK11 => ?_) ?_
    · refine rg ?_
      refine grdA_split rfl (fun g6_6 => ?_) (fun g6_6 => ?_)
      · try simp only [decide_eq_true_eq, decide_eq_false_iff_not] at g6_6
        try refine evd ?_
        exact hK11 _ (anyS (h := by first | rfl | (simp only [g6_6, Bool.true_or, Bool.or_true, Bool.false_or, Bool.or_false, Bool.true_and, Bool.and_true, Bool.false_and, Bool.and_false, Bool.not_true, Bool.not_false, decide_true, decide_false, eq_self, Int.reduceEq] <;> rfl)))
      · try simp only [decide_eq_true_eq, decide_eq_false_iff_not] at g6_6
        try refine evd ?_
        refine CallK.passS [0, 1] (hf i hi) ?_ (ho := by simp only [obC, List.map_cons, List.map_nil, List.getD_cons_zero, List.getD_cons_succ, Option.map_some, map_inert hc0, map_inert hc1]) (hs := by simp only [sigOk, List.all_cons, List.all_nil, List.getD_cons_zero, List.getD_cons_succ, List.length_cons, List.length_nil, inert_within hc0, inert_within hc1, Bool.and_true]; rfl)
        refine evd ?_
        exact hK11 _ (anyS (h := by first | rfl | (simp only [g6_6, Bool.true_or, Bool.or_true, Bool.false_or, Bool.or_false, Bool.true_and, Bool.and_true, Bool.false_and, Bool.and_false, Bool.not_true, Bool.not_false, decide_true, decide_false, eq_self, Int.reduceEq] <;> rfl)))
    rintro f11
    simp only [updT_k, updT_d, updT_d5, updT_v, updT_nil, Nat.reduceAdd]
    refine Wp.condS (fun h32 => ?_) (fun h32 => ?_)
    · have hst : bQ t pf r i = bQ t pf r (i + 1) := by rw [bQ_step (by omega)]; exact step_nx (t := t) h32
      refine Wp.exit ?_
      try simp only [thn, inB, if_true, reduceIte]
      clear hK10 K10
      refine hK9 _ ?_
      clear hK9 K9
      refine Wp.keep 3 (by simp [hB]) (by simp) ?_
      simp only [go_sem, map_inert hc0, map_inert hc1]
      refine evd ?_
      refine rg ?_
      exact hK6 i _ (by omega) (by omega) (anyS (ho := by rw [hst]))
    · have hst : bQ t pf r i = mark (bQ t pf r (i + 1)) (parts (t.getD i default)) := by rw [bQ_step (by omega)]; exact step_yx (t := t) h32
      refine Wp.skip ?_
      refine hK10 _ ?_
      clear hK10 K10
      refine Wp.seqK fun K12 hK12 => ?_
      refine rg ?_
      refine ⟨rfl, CallK.rowA (h := iParts_c _) (k := ?_)⟩
      refine evd ?_
      refine hK12 _ ?_
      clear hK12 K12
      refine Wp.block ?_
      refine Wp.loopU (α := Nat) (fun k => [.k, .d, .k, .d, .d, .d, .d, .k, .k, .d5, .d5, .d5, .d5, .d5, .d, .d, .d, .k, .k, .v (I k), .d5, .d, .d, .d]) (fun k => [some ⟨0, c0⟩, some ⟨0, c1⟩, some ⟨0, (mark (bQ t pf r (i + 1)) ((parts (t.getD i default)).take k)).map cb⟩, some ⟨0, (parts (t.getD i default)).map ci⟩]) (fun k => k ≤ (parts (t.getD i default)).length) (fun k => (parts (t.getD i default)).length - k) 0 (by omega) (anyS) ?_
      rintro k f13 K13 hk hK13
      simp only [updT_k, updT_d, updT_d5, updT_v, updT_nil, Nat.reduceAdd]
      have hml := mark_len ((parts (t.getD i default)).take k) (bQ t pf r (i + 1))
      refine Wp.seqK fun K14 hK14 => ?_
      refine rg ?_
      refine hK14 _ ?_
      clear hK14 K14
      refine Wp.seqK fun K15 hK15 => ?_
      refine Wp.condS (fun h40 => ?_) (fun h40 => ?_)
      · have hkl : k < (parts (t.getD i default)).length := by omega
        have hpk := hp ((parts (t.getD i default)).getD k 0) (by rw [← getD_at hkl]; exact List.getElem_mem hkl)
        refine Wp.skip ?_
        refine hK15 _ ?_
        clear hK15 K15
        refine Wp.seqK fun K16 hK16 => ?_
        refine Wp.block ?_
        refine Wp.seqK fun K17 hK17 => ?_
        refine rg ?_
        refine hK17 _ ?_
        clear hK17 K17
        refine rg ?_
        try simp only [thn, inB, if_true, reduceIte]
        refine hK16 _ ?_
        clear hK16 K16
        refine rg ?_
        exact hK13 (k + 1) _ (by omega) (by omega) (anyS (ho := by rw [take_push 0 hkl, mark_push]))
      · have hkl : k = (parts (t.getD i default)).length := by omega
        subst hkl
        simp only [List.take_length]
        refine Wp.exit ?_
        try simp only [thn, inB, if_true, reduceIte]
        clear hK15 K15
        clear hK13 K13
        try simp only [thn, inB, if_true, reduceIte]
        refine hK9 _ ?_
        clear hK9 K9
        refine Wp.keep 3 (by simp [hB]) (by simp) ?_
        simp only [go_sem, map_inert hc0, map_inert hc1]
        refine evd ?_
        refine rg ?_
        exact hK6 i _ (by omega) (by omega) (anyS (ho := by rw [hst]))
  · have hx0 : x = 0 := by omega
    subst hx0
    refine Wp.exit ?_
    try simp only [thn, inB, if_true, reduceIte]
    clear hK7 K7
    clear hK6 K6
    refine hK4 _ ?_
    clear hK4 K4
    refine Wp.seqK fun K18 hK18 => ?_
    refine rg ?_
    refine hK18 _ ?_
    clear hK18 K18
    refine Wp.ret (retN (o := 2) (cs := (bQ t pf r 0).map cb) (ob' := [some ⟨0, c0⟩, some ⟨0, c1⟩]) rfl rfl rfl (flatB _) (by omega) (hi := by simp only [obShut, List.all_cons, List.all_nil, inert_shut hc0, inert_shut hc1, Bool.and_true]))
theorem suitsFn_c (t : List Nd) (hl : t.length ≤ 1048576) (q : Nd) (i : Nat) (hi : i < t.length) : CallsA E.P 57 [I i, .l (.ptr 0 0 0), .l (.ptr 1 0 0)] [some ⟨0, [.dsl true t.length (encN t)]⟩, some ⟨0, nl q⟩] fun r ob => r = T (passV t q.k i) ∧ ob = [some ⟨0, [.dsl true t.length (encN t)]⟩, some ⟨0, nl q⟩] := by
  refine CallsA.body (E := E) (fn := Try.f57) Try.func57 rfl fun B hB => ?_
  simp only [Try.ntmps57, go_sem, nl, Nat.reduceSub, Nat.reduceAdd, List.reduceReplicate]
  refine Wp.seqK fun K1 hK1 => ?_
  refine rg ?_
  refine hK1 _ ?_
  clear hK1 K1
  refine Wp.seqU0 [.d, .d, .d, .d, .v (T (passV t q.k i)), .d5, .d5, .d5, .d] (fun K2 hK2 => ?_) ?_
  · refine Wp.drawI [0, 1, 2, 3, 4, 5, 6, 7] [4] (by kernel_rfl) ?_
    refine evd ?_
    refine ⟨rfl, CallK.valA (h := isQuant_c _) (k := ?_)⟩
    refine evd ?_
    refine grdA_split rfl (fun g1_7 => ?_) (fun g1_7 => ?_)
    · try simp only [decide_eq_true_eq, decide_eq_false_iff_not] at g1_7
      have hp : passV t q.k i = true := by unfold passV; rw [g1_7]; rfl
      try refine evd ?_
      exact hK2 _ (anyS (h := by rw [hp] <;> rfl))
    · try simp only [decide_eq_true_eq, decide_eq_false_iff_not] at g1_7
      have hp : passV t q.k i = !decide ((t.getD i default).k = q.k) := by unfold passV; rw [g1_7]; rfl
      try refine evd ?_
      exact hK2 _ (anyS (h := by rw [hp] <;> rfl))
  rintro f2
  simp only [updT_k, updT_d, updT_d5, updT_v, updT_nil, Nat.reduceAdd]
  refine Wp.ret (retH (n := 2) rfl rfl)
def vB (t : List Nd) (env : List Int) (v i : Nat) : Bool := (((freeR t v).getD i false && decide ((t.getD i default).op = 1)) && decide ((t.getD i default).k = (v : Int))) && !wordOk (t.getD i default).w (env.getD v 0)
def suB (t : List Nd) (env : List Int) (v : Nat) : Bool := (List.range t.length).any (vB t env v)
def qB (t : List Nd) (i j : Nat) : Bool := (((innT t i).getD j false && decide ((t.getD j default).op = 1)) && decide ((t.getD j default).k = (t.getD i default).k)) && !decide ((t.getD j default).w = (t.getD i default).b)
def sqB (t : List Nd) (i : Nat) : Bool := ((reachT t).getD i false && isQ (t.getD i default).op) && (List.range t.length).any (qB t i)
theorem not_any {n : Nat} {f g : Nat → Bool} (h : ∀ i, f i = !g i) : (List.range n).all f = !(List.range n).any g := by
  induction List.range n with
  | nil => rfl
  | cons a l ih => rw [List.all_cons, List.any_cons, ih, h, Bool.not_or]
theorem suits_not (t : List Nd) (env : List Int) : suitsT t env = (!(List.range 8).any (suB t env) && !(List.range t.length).any (sqB t)) := by
  unfold suitsT
  rw [not_any (g := suB t env), not_any (g := sqB t)]
  · intro i
    unfold qOk sqB
    rw [not_any (g := qB t i)]
    · cases (reachT t).getD i false && isQ (t.getD i default).op <;> simp
    · intro j
      unfold qB
      cases ((innT t i).getD j false && decide ((t.getD j default).op = 1)) && decide ((t.getD j default).k = (t.getD i default).k) <;> simp
  · intro v
    unfold vOk suB
    rw [not_any (g := vB t env v)]
    intro i
    unfold vB
    cases (((freeR t v).getD i false && decide ((t.getD i default).op = 1)) && decide ((t.getD i default).k = (v : Int))) <;> simp
theorem su_1 {t : List Nd} {env : List Int} {v i : Nat} (hv : v < 8) (hi : i < t.length) (h : vB t env v i = true) : suitsT t env = false := by
  rw [suits_not, any_at hv (show suB t env v = true from any_at hi h)]; rfl
theorem su_2 {t : List Nd} {env : List Int} {i : Nat} (hi : i < t.length) (h : sqB t i = true) : suitsT t env = false := by
  rw [suits_not, any_at hi h]; simp
theorem su_y {t : List Nd} {env : List Int} (h1 : ∀ v, v < 8 → suB t env v = false) (h2 : ∀ i, i < t.length → sqB t i = false) : suitsT t env = true := by
  rw [suits_not, any_none h1, any_none h2]; rfl
theorem sq_y {t : List Nd} {i j : Nat} (h : ((reachT t).getD i false && isQ (t.getD i default).op) = true) (hj : j < t.length) (h2 : qB t i j = true) : sqB t i = true := by
  unfold sqB; rw [h, any_at hj h2]; rfl
theorem sq_n {t : List Nd} {i : Nat} (h : ∀ j, j < t.length → qB t i j = false) : sqB t i = false := by
  unfold sqB; rw [any_none h, Bool.and_false]
theorem suits_c (t : List Nd) (hok : okT t = true) (hl : 1 ≤ t.length ∧ t.length ≤ 80) (env : List Int) (he : env.length = 8) : Val E.P 22 [dN t, dI env] (T (suitsT t env)) := by
  refine CallsA.body (E := E) (fn := Try.f22) Try.func22 rfl fun B hB => ?_
  simp only [Try.ntmps22, go_sem, nl, Nat.reduceSub, Nat.reduceAdd, List.reduceReplicate]
  have hpo := okT_parts hok
  have hno := okT_nums hok
  have hrl := reachT_len t
  have hel : env.length = 8 := he
  refine Wp.seqK fun K1 hK1 => ?_
  refine rg ?_
  refine hK1 _ ?_
  clear hK1 K1
  refine Wp.seqK fun K2 hK2 => ?_
  refine Wp.seqK fun K3 hK3 => ?_
  refine rg ?_
  refine hK3 _ ?_
  clear hK3 K3
  refine Wp.block ?_
  refine Wp.loopU (α := Nat) (fun v => [.d, .k, .k, .d5, .d5, .d, .d, .v (I v), .d5, .d5, .d5, .d5, .d5, .d5, .d5, .d5, .d5, .d5, .d5, .d5, .d5, .d5, .d5, .d5, .d5, .d5, .d5]) (fun v => [some ⟨0, [.dsl true t.length (encN t)]⟩]) (fun v => v ≤ 8 ∧ ∀ u, u < v → suB t env u = false) (fun v => 8 - v) 0 (⟨Nat.zero_le _, fun j h => absurd h (Nat.not_lt_zero j)⟩) (anyS) ?_
  rintro v f4 K4 ⟨hv, hvb⟩ hK4
  simp only [updT_k, updT_d, updT_d5, updT_v, updT_nil, Nat.reduceAdd]
  refine Wp.seqK fun K5 hK5 => ?_
  refine rg ?_
  refine hK5 _ ?_
  clear hK5 K5
  refine Wp.seqK fun K6 hK6 => ?_
  refine Wp.condS (fun h16 => ?_) (fun h16 => ?_)
  · have hv8 : v < 8 := by omega
    have hfl : (freeR t v).length = t.length := reachP_len _ _
    refine Wp.skip ?_
    refine hK6 _ ?_
    clear hK6 K6
    refine Wp.seqU (α := Unit) (fun u => [.d, .k, .k, .d5, .d5, .d, .d, .k, .d5, .d5, .d5, .d5, .d5, .d5, .d5, .d5, .d5, .d5, .d5, .d5, .d5, .d5, .d5, .d5, .d5, .d5, .d5]) (fun u => [some ⟨0, [.dsl true t.length (encN t)]⟩, some ⟨0, (freeR t v).map cb⟩]) (fun u => suB t env v = false) (fun K7 hK7 => ?_) ?_
    · refine Wp.block ?_
      refine Wp.seqK fun K8 hK8 => ?_
      refine rg ?_
      refine hK8 _ ?_
      clear hK8 K8
      refine Wp.seqK fun K9 hK9 => ?_
      refine rg ?_
      refine ⟨rfl, CallK.rowA (h := freeAt_c _ (by assumption) (by omega) _) (k := ?_)⟩
      refine evd ?_
      refine hK9 _ ?_
      clear hK9 K9
      refine Wp.seqK fun K10 hK10 => ?_
      refine rg ?_
      refine hK10 _ ?_
      clear hK10 K10
      refine Wp.block ?_
      refine Wp.loopU (α := Nat) (fun i => [.d, .k, .k, .d, .d, .k, .k, .d5, .d, .d, .d, .k, .d5, .k, .k, .v (I i), .d5, .d5, .d5, .d5, .d5, .d5, .d5, .d5, .d5, .d5, .d5, .d5, .d5, .d5, .d5, .d5, .d5, .d, .d]) (fun i => [some ⟨0, [.dsl true t.length (encN t)]⟩, some ⟨0, (freeR t v).map cb⟩]) (fun i => i ≤ t.length ∧ ∀ j, j < i → vB t env v j = false) (fun i => t.length - i) 0 (⟨Nat.zero_le _, fun j h => absurd h (Nat.not_lt_zero j)⟩) (anyS) ?_
      rintro i f11 K11 ⟨hi, hib⟩ hK11
      simp only [updT_k, updT_d, updT_d5, updT_v, updT_nil, Nat.reduceAdd]
      refine Wp.seqK fun K12 hK12 => ?_
      refine rg ?_
      refine hK12 _ ?_
      clear hK12 K12
      refine Wp.seqK fun K13 hK13 => ?_
      refine Wp.condS (fun h24 => ?_) (fun h24 => ?_)
      · have hil : i < t.length := by omega
        refine Wp.skip ?_
        refine hK13 _ ?_
        clear hK13 K13
        refine Wp.seqK fun K14 hK14 => ?_
        refine Wp.block ?_
        refine Wp.seqK fun K15 hK15 => ?_
        refine rg ?_
        refine hK15 _ ?_
        clear hK15 K15
        refine Wp.seqU0 [.d, .k, .k, .d, .d, .k, .k, .d5, .d, .d, .d, .k, .d5, .k, .k, .k, .d5, .d5, .d5, .d5, .d5, .d, .d, .d, .v (T (vB t env v i)), .d5, .d5, .d5, .d5, .d5, .d5, .d5, .d5, .d5, .d5, .d5, .d, .d, .d] (fun K16 hK16 => ?_) ?_
        · refine Wp.drawI [0, 1, 2, 3, 4, 5, 6, 7] [22] (by kernel_rfl) ?_
          refine evd ?_
          refine grdA_split rfl (fun g8_5 => ?_) (fun g8_5 => ?_)
          · try simp only [decide_eq_true_eq, decide_eq_false_iff_not] at g8_5
            try refine evd ?_
            refine grdA_split rfl (fun g8_10 => ?_) (fun g8_10 => ?_)
            · try simp only [decide_eq_true_eq, decide_eq_false_iff_not] at g8_10
              try refine evd ?_
              refine grdA_split rfl (fun g8_16 => ?_) (fun g8_16 => ?_)
              · try simp only [decide_eq_true_eq, decide_eq_false_iff_not] at g8_16
                try refine evd ?_
                refine ⟨rfl, CallK.valA (h := iWordOk_c _ _) (k := ?_)⟩
                refine evd ?_
                exact hK16 _ (anyS (h := by first | rfl | (simp only [vB, g8_5, g8_10, g8_16, Bool.true_or, Bool.or_true, Bool.false_or, Bool.or_false, Bool.true_and, Bool.and_true, Bool.false_and, Bool.and_false, Bool.not_true, Bool.not_false, decide_true, decide_false, eq_self, Int.reduceEq] <;> rfl)))
              · try simp only [decide_eq_true_eq, decide_eq_false_iff_not] at g8_16
                try refine evd ?_
                exact hK16 _ (anyS (h := by first | rfl | (simp only [vB, g8_5, g8_10, g8_16, Bool.true_or, Bool.or_true, Bool.false_or, Bool.or_false, Bool.true_and, Bool.and_true, Bool.false_and, Bool.and_false, Bool.not_true, Bool.not_false, decide_true, decide_false, eq_self, Int.reduceEq] <;> rfl)))
            · try simp only [decide_eq_true_eq, decide_eq_false_iff_not] at g8_10
              try refine evd ?_
              exact hK16 _ (anyS (h := by first | rfl | (simp only [vB, g8_5, g8_10, Bool.true_or, Bool.or_true, Bool.false_or, Bool.or_false, Bool.true_and, Bool.and_true, Bool.false_and, Bool.and_false, Bool.not_true, Bool.not_false, decide_true, decide_false, eq_self, Int.reduceEq] <;> rfl)))
          · try simp only [decide_eq_true_eq, decide_eq_false_iff_not] at g8_5
            try refine evd ?_
            exact hK16 _ (anyS (h := by first | rfl | (simp only [vB, g8_5, Bool.true_or, Bool.or_true, Bool.false_or, Bool.or_false, Bool.true_and, Bool.and_true, Bool.false_and, Bool.and_false, Bool.not_true, Bool.not_false, decide_true, decide_false, eq_self, Int.reduceEq] <;> rfl)))
        rintro f16
        simp only [updT_k, updT_d, updT_d5, updT_v, updT_nil, Nat.reduceAdd]
        refine Wp.condS (fun h52 => ?_) (fun h52 => ?_)
        · have hs := su_1 hv8 hil h52
          refine Wp.seqK fun K17 hK17 => ?_
          refine rg ?_
          refine hK17 _ ?_
          clear hK17 K17
          refine Wp.ret (retV ?_)
          try simp only [List.getD_cons_zero, List.getD_cons_succ]
          rw [hs]
        · have hbi : vB t env v i = false := h52
          refine Wp.skip ?_
          try simp only [thn, inB, if_true, reduceIte]
          refine hK14 _ ?_
          clear hK14 K14
          refine Wp.keep 2 (by simp [hB]) (by simp) ?_
          refine evd ?_
          refine rg ?_
          exact hK11 (i + 1) _ ⟨by omega, ub_next hib hbi⟩ (by omega) anyS
      · have hil : i = t.length := by omega
        subst hil
        have hsv : suB t env v = false := any_none hib
        refine Wp.exit ?_
        try simp only [thn, inB, if_true, reduceIte]
        clear hK13 K13
        clear hK11 K11
        try simp only [thn, inB, if_true, reduceIte]
        exact hK7 () _ hsv anyS
    rintro _ f7 hsv
    simp only [updT_k, updT_d, updT_d5, updT_v, updT_nil, Nat.reduceAdd]
    refine Wp.keep 1 (by simp [hB]) (by simp) ?_
    refine evd ?_
    refine rg ?_
    exact hK4 (v + 1) _ ⟨by omega, ub_next hvb hsv⟩ (by omega) anyS
  · have hv8 : v = 8 := by omega
    subst hv8
    refine Wp.exit ?_
    try simp only [thn, inB, if_true, reduceIte]
    clear hK6 K6
    clear hK4 K4
    refine hK2 _ ?_
    clear hK2 K2
    refine Wp.seqK fun K18 hK18 => ?_
    refine Wp.seqK fun K19 hK19 => ?_
    refine Wp.keep 1 (by simp [hB]) (by simp) ?_
    refine evd ?_
    refine rg ?_
    refine ⟨rfl, CallK.rowA (h := reached_c _ hok (by omega)) (k := ?_)⟩
    refine evd ?_
    refine hK19 _ ?_
    clear hK19 K19
    refine Wp.block ?_
    refine Wp.loopU (α := Nat) (fun x => [.d, .d, .k, .d5, .d5, .d5, .d5, .d5, .d5, .d5, .d5, .d5, .d5, .d, .d, .d, .k, .k, .v (I x), .d5, .d5, .d5, .d5, .d5, .d5, .d5, .d5, .d5, .d5, .d, .d]) (fun x => [some ⟨0, [.dsl true t.length (encN t)]⟩, some ⟨0, (reachT t).map cb⟩]) (fun x => x ≤ t.length ∧ ∀ j, j < x → sqB t j = false) (fun x => t.length - x) 0 (⟨Nat.zero_le _, fun j h => absurd h (Nat.not_lt_zero j)⟩) (anyS) ?_
    rintro x f20 K20 ⟨hx, hqb⟩ hK20
    simp only [updT_k, updT_d, updT_d5, updT_v, updT_nil, Nat.reduceAdd]
    refine Wp.seqK fun K21 hK21 => ?_
    refine rg ?_
    refine hK21 _ ?_
    clear hK21 K21
    refine Wp.seqK fun K22 hK22 => ?_
    refine Wp.condS (fun h59 => ?_) (fun h59 => ?_)
    · have hxl : x < t.length := by omega
      refine Wp.skip ?_
      refine hK22 _ ?_
      clear hK22 K22
      refine Wp.seqU (α := Obs) (fun o => [.d, .d, .k, .d5, .d5, .d5, .d5, .d5, .d5, .d5, .d5, .d5, .d5, .d, .d, .d, .k, .k, .k, .d5, .d5, .d5, .d5, .d5, .d5, .d5, .d5, .d5, .d5, .d, .d]) (fun o => (some ⟨0, [.dsl true t.length (encN t)]⟩ :: some ⟨0, (reachT t).map cb⟩ :: o)) (fun o => sqB t x = false) (fun K23 hK23 => ?_) ?_
      · refine Wp.block ?_
        refine Wp.seqK fun K24 hK24 => ?_
        refine rg ?_
        refine hK24 _ ?_
        clear hK24 K24
        refine Wp.seqK fun K25 hK25 => ?_
        refine rg ?_
        refine hK25 _ ?_
        clear hK25 K25
        refine Wp.seqK fun K26 hK26 => ?_
        refine Wp.seqU0 [.d, .d, .k, .d5, .d, .d, .d, .k, .d5, .d5, .d5, .d5, .d5, .d5, .d5, .d5, .d, .d, .d, .d, .k, .k, .k, .d5, .d5, .d, .d, .d, .d, .v (T (!((reachT t).getD x false && isQ (t.getD x default).op))), .d5, .d5, .d5, .d5, .d5, .d5, .d5, .d, .d] (fun K27 hK27 => ?_) ?_
        · refine rg ?_
          refine grdA_split rfl (fun g16_3 => ?_) (fun g16_3 => ?_)
          · try simp only [decide_eq_true_eq, decide_eq_false_iff_not] at g16_3
            try refine evd ?_
            have e : (reachT t).getD x false = false := by simpa using g16_3
            exact hK27 _ (anyS (h := by rw [e] <;> rfl))
          · try simp only [decide_eq_true_eq, decide_eq_false_iff_not] at g16_3
            try refine evd ?_
            refine ⟨rfl, CallK.valA (h := isQuant_c _) (k := ?_)⟩
            refine evd ?_
            have e : (reachT t).getD x false = true := by simpa using g16_3
            exact hK27 _ (anyS (h := by rw [e] <;> rfl))
        rintro f27
        simp only [updT_k, updT_d, updT_d5, updT_v, updT_nil, Nat.reduceAdd]
        refine Wp.condS (fun h73 => ?_) (fun h73 => ?_)
        · have hsq : sqB t x = false := by
            unfold sqB
            rw [show ((reachT t).getD x false && isQ (t.getD x default).op) = false by simpa using h73]; rfl
          refine Wp.exit ?_
          try simp only [thn, inB, if_true, reduceIte]
          clear hK26 K26
          exact hK23 [some ⟨0, nl (t.getD x default)⟩] _ hsq anyS
        · have hrq : ((reachT t).getD x false && isQ (t.getD x default).op) = true := by simpa using h73
          have hqq := (Bool.and_eq_true _ _ ▸ hrq).2
          have hpa := hpo x hxl (t.getD x default).a (by rw [parts_q hqq]; simp)
          refine Wp.skip ?_
          refine hK26 _ ?_
          clear hK26 K26
          refine Wp.seqK fun K28 hK28 => ?_
          refine rg ?_
          refine ⟨rfl, CallK.passN [0, 2] (h := reach3_c t hok hl (t.getD x default).a.toNat (by omega) (passV t (t.getD x default).k) 57 rfl [.dsl true t.length (encN t)] (nl (t.getD x default)) rfl rfl (fun i hi => suitsFn_c t (by omega) (t.getD x default) i hi)) (ho := rfl) (ha := by rw [show ((((t.getD x default).a.toNat + 1 : Nat) : Int) - 1) = (t.getD x default).a by omega] <;> rfl) (hs := rfl) (k := ?_)⟩
          have hil2 : (innT t x).length = t.length := reachR_len _ _ _
          have hie : bQ t (passV t (t.getD x default).k) (t.getD x default).a.toNat 0 = innT t x := bQ_reach _ _ _
          simp only [hie]
          refine evd ?_
          simp only [show mB [0, 2] 3 2 0 = some (3, 0) from rfl, optO]
          refine hK28 _ ?_
          clear hK28 K28
          refine Wp.seqK fun K29 hK29 => ?_
          refine rg ?_
          refine hK29 _ ?_
          clear hK29 K29
          refine Wp.block ?_
          refine Wp.loopU (α := Nat) (fun k => [.d, .d, .k, .d5, .d, .d, .d, .k, .k, .d5, .d5, .d5, .d5, .d5, .d5, .d5, .d5, .d, .d, .d, .k, .k, .k, .d5, .d5, .d5, .d5, .k, .k, .v (I k), .d5, .d5, .d5, .d5, .d5, .d, .d, .d, .d]) (fun k => [some ⟨0, [.dsl true t.length (encN t)]⟩, some ⟨0, (reachT t).map cb⟩, some ⟨0, nl (t.getD x default)⟩, some ⟨0, (innT t x).map cb⟩]) (fun k => k ≤ t.length ∧ ∀ j, j < k → qB t x j = false) (fun k => t.length - k) 0 (⟨Nat.zero_le _, fun j h => absurd h (Nat.not_lt_zero j)⟩) (anyS) ?_
          rintro k f30 K30 ⟨hk, hkb⟩ hK30
          simp only [updT_k, updT_d, updT_d5, updT_v, updT_nil, Nat.reduceAdd]
          refine Wp.seqK fun K31 hK31 => ?_
          refine rg ?_
          refine hK31 _ ?_
          clear hK31 K31
          refine Wp.seqK fun K32 hK32 => ?_
          refine Wp.condS (fun h82 => ?_) (fun h82 => ?_)
          · have hkl : k < t.length := by omega
            refine Wp.skip ?_
            refine hK32 _ ?_
            clear hK32 K32
            refine Wp.seqK fun K33 hK33 => ?_
            refine Wp.block ?_
            refine Wp.seqK fun K34 hK34 => ?_
            refine rg ?_
            refine hK34 _ ?_
            clear hK34 K34
            refine Wp.seqU0 [.d, .d, .k, .d5, .d, .d, .d, .k, .k, .d5, .d5, .d5, .d5, .d5, .d5, .d5, .d5, .d, .d, .d, .k, .k, .k, .d5, .d5, .d5, .d5, .k, .k, .k, .d5, .d5, .d5, .d5, .d5, .d, .v (T (qB t x k)), .d, .d] (fun K35 hK35 => ?_) ?_
            · refine rg ?_
              refine grdA_split rfl (fun g21_5 => ?_) (fun g21_5 => ?_)
              · try simp only [decide_eq_true_eq, decide_eq_false_iff_not] at g21_5
                try refine evd ?_
                refine grdA_split rfl (fun g21_10 => ?_) (fun g21_10 => ?_)
                · try simp only [decide_eq_true_eq, decide_eq_false_iff_not] at g21_10
                  try refine evd ?_
                  refine grdA_split rfl (fun g21_17 => ?_) (fun g21_17 => ?_)
                  · try simp only [decide_eq_true_eq, decide_eq_false_iff_not] at g21_17
                    try refine evd ?_
                    exact hK35 _ (anyS (h := by first | rfl | (simp only [qB, g21_5, g21_10, g21_17, Bool.true_or, Bool.or_true, Bool.false_or, Bool.or_false, Bool.true_and, Bool.and_true, Bool.false_and, Bool.and_false, Bool.not_true, Bool.not_false, decide_true, decide_false, eq_self, Int.reduceEq] <;> rfl)))
                  · try simp only [decide_eq_true_eq, decide_eq_false_iff_not] at g21_17
                    try refine evd ?_
                    exact hK35 _ (anyS (h := by first | rfl | (simp only [qB, g21_5, g21_10, g21_17, Bool.true_or, Bool.or_true, Bool.false_or, Bool.or_false, Bool.true_and, Bool.and_true, Bool.false_and, Bool.and_false, Bool.not_true, Bool.not_false, decide_true, decide_false, eq_self, Int.reduceEq] <;> rfl)))
                · try simp only [decide_eq_true_eq, decide_eq_false_iff_not] at g21_10
                  try refine evd ?_
                  exact hK35 _ (anyS (h := by first | rfl | (simp only [qB, g21_5, g21_10, Bool.true_or, Bool.or_true, Bool.false_or, Bool.or_false, Bool.true_and, Bool.and_true, Bool.false_and, Bool.and_false, Bool.not_true, Bool.not_false, decide_true, decide_false, eq_self, Int.reduceEq] <;> rfl)))
              · try simp only [decide_eq_true_eq, decide_eq_false_iff_not] at g21_5
                try refine evd ?_
                exact hK35 _ (anyS (h := by first | rfl | (simp only [qB, g21_5, Bool.true_or, Bool.or_true, Bool.false_or, Bool.or_false, Bool.true_and, Bool.and_true, Bool.false_and, Bool.and_false, Bool.not_true, Bool.not_false, decide_true, decide_false, eq_self, Int.reduceEq] <;> rfl)))
            rintro f35
            simp only [updT_k, updT_d, updT_d5, updT_v, updT_nil, Nat.reduceAdd]
            refine Wp.condS (fun h108 => ?_) (fun h108 => ?_)
            · have hs := su_2 (env := env) hxl (sq_y hrq hkl h108)
              refine Wp.seqK fun K36 hK36 => ?_
              refine rg ?_
              refine hK36 _ ?_
              clear hK36 K36
              refine Wp.ret (retV ?_)
              try simp only [List.getD_cons_zero, List.getD_cons_succ]
              rw [hs]
            · have hbk : qB t x k = false := h108
              refine Wp.skip ?_
              try simp only [thn, inB, if_true, reduceIte]
              refine hK33 _ ?_
              clear hK33 K33
              refine Wp.keep 4 (by simp [hB]) (by simp) ?_
              refine evd ?_
              refine rg ?_
              exact hK30 (k + 1) _ ⟨by omega, ub_next hkb hbk⟩ (by omega) anyS
          · have hkl : k = t.length := by omega
            subst hkl
            have hsq : sqB t x = false := sq_n hkb
            refine Wp.exit ?_
            try simp only [thn, inB, if_true, reduceIte]
            clear hK32 K32
            clear hK30 K30
            try simp only [thn, inB, if_true, reduceIte]
            exact hK23 [some ⟨0, nl (t.getD x default)⟩, some ⟨0, (innT t x).map cb⟩] _ hsq anyS
      rintro o f23 hsq
      simp only [updT_k, updT_d, updT_d5, updT_v, updT_nil, Nat.reduceAdd]
      refine Wp.keep 2 (by simp [hB]) (by simp) ?_
      refine evd ?_
      refine rg ?_
      exact hK20 (x + 1) _ ⟨by omega, ub_next hqb hsq⟩ (by omega) anyS
    · have hxl : x = t.length := by omega
      subst hxl
      refine Wp.exit ?_
      try simp only [thn, inB, if_true, reduceIte]
      clear hK22 K22
      clear hK20 K20
      refine hK18 _ ?_
      clear hK18 K18
      refine Wp.seqK fun K37 hK37 => ?_
      refine rg ?_
      refine hK37 _ ?_
      clear hK37 K37
      refine Wp.ret (retV ?_)
      try simp only [List.getD_cons_zero, List.getD_cons_succ]
      rw [su_y hvb hqb]
theorem qbN_b {t : List Nd} (hok : okT t = true) : ∀ x, x ≤ t.length → 0 ≤ qbN t x ∧ qbN t x ≤ 8 * (x : Int)
  | 0, _ => by simp [qbN]
  | x + 1, hx => by
    have ih := qbN_b hok x (by omega)
    simp only [qbN]
    split
    · unfold qbit
      split
      · rename_i h
        have := quant_rule (okT_node hok (show x < t.length by omega)) h
        omega
      · omega
    · omega
theorem qBits_c (t : List Nd) (hok : okT t = true) (hl : 1 ≤ t.length ∧ t.length ≤ 80) : Val E.P 23 [dN t] (I (qbT t)) := by
  refine CallsA.body (E := E) (fn := Try.f23) Try.func23 rfl fun B hB => ?_
  simp only [Try.ntmps23, go_sem, nl, Nat.reduceSub, Nat.reduceAdd, List.reduceReplicate]
  have hrl := reachT_len t
  refine Wp.seqK fun K1 hK1 => ?_
  refine rg ?_
  refine hK1 _ ?_
  clear hK1 K1
  refine Wp.seqK fun K2 hK2 => ?_
  refine rg ?_
  refine hK2 _ ?_
  clear hK2 K2
  refine Wp.seqK fun K3 hK3 => ?_
  refine Wp.seqK fun K4 hK4 => ?_
  refine rg ?_
  refine ⟨rfl, CallK.rowA (h := reached_c _ hok (by omega)) (k := ?_)⟩
  refine evd ?_
  refine hK4 _ ?_
  clear hK4 K4
  refine Wp.block ?_
  refine Wp.loopU (α := Nat) (fun x => [.k, .d, .d, .v (I (qbN t x)), .d, .d, .d, .k, .k, .v (I x), .d5, .d5, .d5, .d5, .d]) (fun x => [some ⟨0, (reachT t).map cb⟩]) (fun x => x ≤ t.length) (fun x => t.length - x) 0 (Nat.zero_le _) (anyS) ?_
  rintro x f5 K5 hx hK5
  simp only [updT_k, updT_d, updT_d5, updT_v, updT_nil, Nat.reduceAdd]
  have hqn := qbN_b hok x hx
  refine Wp.seqK fun K6 hK6 => ?_
  refine rg ?_
  refine hK6 _ ?_
  clear hK6 K6
  refine Wp.seqK fun K7 hK7 => ?_
  refine Wp.condS (fun h10 => ?_) (fun h10 => ?_)
  · have hxl : x < t.length := by omega
    refine Wp.skip ?_
    refine hK7 _ ?_
    clear hK7 K7
    refine Wp.seqU0 [.k, .d, .d, .v (I (qbN t (x + 1))), .d, .d, .d, .k, .k, .k, .d5, .d5, .d5, .d5, .d] (fun K8 hK8 => ?_) ?_
    · refine Wp.block ?_
      refine Wp.seqK fun K9 hK9 => ?_
      refine rg ?_
      refine hK9 _ ?_
      clear hK9 K9
      refine Wp.seqU0 [.k, .d, .d, .k, .k, .d, .d, .k, .k, .k, .d5, .d5, .d, .v (T ((reachT t).getD x false && isQ (t.getD x default).op)), .d5, .d, .d, .d, .d] (fun K10 hK10 => ?_) ?_
      · refine rg ?_
        refine grdA_split rfl (fun g5_2 => ?_) (fun g5_2 => ?_)
        · try simp only [decide_eq_true_eq, decide_eq_false_iff_not] at g5_2
          try refine evd ?_
          refine ⟨rfl, CallK.valA (h := isQuant_c _) (k := ?_)⟩
          refine evd ?_
          exact hK10 _ (anyS (h := by first | rfl | (simp only [g5_2, Bool.true_or, Bool.or_true, Bool.false_or, Bool.or_false, Bool.true_and, Bool.and_true, Bool.false_and, Bool.and_false, Bool.not_true, Bool.not_false, decide_true, decide_false, eq_self, Int.reduceEq] <;> rfl)))
        · try simp only [decide_eq_true_eq, decide_eq_false_iff_not] at g5_2
          try refine evd ?_
          exact hK10 _ (anyS (h := by first | rfl | (simp only [g5_2, Bool.true_or, Bool.or_true, Bool.false_or, Bool.or_false, Bool.true_and, Bool.and_true, Bool.false_and, Bool.and_false, Bool.not_true, Bool.not_false, decide_true, decide_false, eq_self, Int.reduceEq] <;> rfl)))
      rintro f10
      simp only [updT_k, updT_d, updT_d5, updT_v, updT_nil, Nat.reduceAdd]
      refine Wp.condS (fun h21 => ?_) (fun h21 => ?_)
      · have hqb := quant_rule (okT_node hok hxl) h21.2
        have hs : qbN t (x + 1) = qbN t x + (t.getD x default).b := by
          show qbN t x + (if (reachT t).getD x false = true then qbit (t.getD x default) else 0) = _
          unfold qbit
          rw [if_pos h21.1, if_pos h21.2]
        refine rg ?_
        try simp only [thn, inB, if_true, reduceIte]
        exact hK8 _ (anyS (h := by rw [hs] <;> rfl))
      · have hs : qbN t (x + 1) = qbN t x := by
          show qbN t x + (if (reachT t).getD x false = true then qbit (t.getD x default) else 0) = _
          unfold qbit
          cases hr : (reachT t).getD x false with
          | false => rw [if_neg (by decide)]; omega
          | true => rw [if_pos rfl, if_neg (by rw [hr] at h21; simpa using h21)]; omega
        refine Wp.skip ?_
        try simp only [thn, inB, if_true, reduceIte]
        exact hK8 _ (anyS (h := by rw [hs] <;> rfl))
    rintro f8
    simp only [updT_k, updT_d, updT_d5, updT_v, updT_nil, Nat.reduceAdd]
    refine rg ?_
    exact hK5 (x + 1) _ (by omega) (by omega) anyS
  · have hxl : x = t.length := by omega
    subst hxl
    refine Wp.exit ?_
    try simp only [thn, inB, if_true, reduceIte]
    clear hK7 K7
    clear hK5 K5
    refine hK3 _ ?_
    clear hK3 K3
    refine Wp.seqK fun K11 hK11 => ?_
    refine rg ?_
    refine hK11 _ ?_
    clear hK11 K11
    refine Wp.ret (retV ?_)
    try simp only [List.getD_cons_zero, List.getD_cons_succ]
    rfl
end Go.Proofs.Ytkdkbnacelnljaa.RE

/-! What a term is worth, the program. Conditions: those that a theorem names. -/
set_option linter.unusedVariables false
set_option linter.unusedSimpArgs false
namespace Go.Proofs.Ytkdkbnacelnljaa.RE
open Go Go.RowKit
set_option maxRecDepth 100000
set_option maxHeartbeats 8000000
theorem vok_1 {t : List Nd} {env : List Int} (h : okT t = false) : vOkI t env = false := by unfold vOkI; rw [h]; rfl
theorem vok_2 {t : List Nd} {env : List Int} (h : ¬ env.length = 8) : vOkI t env = false := by unfold vOkI; rw [decide_eq_false h, Bool.and_false]; rfl
theorem vok_3 {t : List Nd} {env : List Int} (h : suitsT t env = false) : vOkI t env = false := by unfold vOkI; rw [h, Bool.and_false]; rfl
theorem vok_4 {t : List Nd} {env : List Int} (h1 : okT t = true) (h2 : env.length = 8) (h3 : suitsT t env = true) : vOkI t env = decide (qbT t ≤ 12) := by unfold vOkI; rw [h1, decide_eq_true h2, h3]; rfl
theorem iValue_c (t : List Nd) (env : List Int) (hlb : t.length ≤ 1048576) (heb : env.length ≤ 1048576) : Val E.P 10 [dN t, dI env] (.tup [TI (valI t env), TB (vOkI t env)]) := by
  refine CallsA.body (E := E) (fn := Try.f10) Try.func10 rfl fun B hB => ?_
  simp only [Try.ntmps10, go_sem, nl, Nat.reduceSub, Nat.reduceAdd, List.reduceReplicate]
  refine Wp.seqK fun K1 hK1 => ?_
  refine rg ?_
  refine hK1 _ ?_
  clear hK1 K1
  refine Wp.seqK fun K2 hK2 => ?_
  refine Wp.seqU0 [.k, .k, .d5, .d5, .d5, .d5, .d, .d, .d, .v (T (!vOkI t env)), .d5, .d5, .d5, .d] (fun K3 hK3 => ?_) ?_
  · refine rg ?_
    refine ⟨rfl, CallK.valA (h := iTermOk_c _) (k := ?_)⟩
    refine evd ?_
    refine grdA_split rfl (fun g1_4 => ?_) (fun g1_4 => ?_)
    · try simp only [decide_eq_true_eq, decide_eq_false_iff_not] at g1_4
      try refine evd ?_
      have e := vok_1 (env := env) (show okT t = false by simpa using g1_4)
      exact hK3 _ (anyS (h := by rw [e] <;> rfl))
    · try simp only [decide_eq_true_eq, decide_eq_false_iff_not] at g1_4
      have hok : okT t = true := by simpa using g1_4
      have hl := okT_len hok
      try refine evd ?_
      refine grdA_split rfl (fun g1_9 => ?_) (fun g1_9 => ?_)
      · try simp only [decide_eq_true_eq, decide_eq_false_iff_not] at g1_9
        have h9 : ¬ ((env.length : Int) = 8) := by simpa using g1_9
        try refine evd ?_
        have e := vok_2 (t := t) (env := env) (by omega)
        exact hK3 _ (anyS (h := by rw [e] <;> rfl))
      · try simp only [decide_eq_true_eq, decide_eq_false_iff_not] at g1_9
        have h9 : (env.length : Int) = 8 := by simpa using g1_9
        have hel : env.length = 8 := by omega
        try refine evd ?_
        refine ⟨rfl, CallK.valA (h := suits_c _ hok (by omega) _ hel) (k := ?_)⟩
        refine evd ?_
        refine grdA_split rfl (fun g1_15 => ?_) (fun g1_15 => ?_)
        · try simp only [decide_eq_true_eq, decide_eq_false_iff_not] at g1_15
          try refine evd ?_
          have e := vok_3 (show suitsT t env = false by simpa using g1_15)
          exact hK3 _ (anyS (h := by rw [e] <;> rfl))
        · try simp only [decide_eq_true_eq, decide_eq_false_iff_not] at g1_15
          try refine evd ?_
          refine ⟨rfl, CallK.valA (h := qBits_c _ hok (by omega)) (k := ?_)⟩
          refine evd ?_
          have e := vok_4 hok hel (show suitsT t env = true by simpa using g1_15)
          have e2 : (!decide (qbT t ≤ 12)) = decide (12 < qbT t) := by rw [← decide_not, decide_eq_decide]; omega
          exact hK3 _ (anyS (h := by rw [e, e2] <;> rfl))
  rintro f3
  simp only [updT_k, updT_d, updT_d5, updT_v, updT_nil, Nat.reduceAdd]
  refine Wp.condS (fun h25 => ?_) (fun h25 => ?_)
  · have hv : vOkI t env = false := by simpa using h25
    have hz := val_no hv
    refine Wp.seqK fun K4 hK4 => ?_
    refine rg ?_
    refine hK4 _ ?_
    clear hK4 K4
    refine Wp.ret (retV ?_)
    try simp only [List.getD_cons_zero, List.getD_cons_succ]
    rw [hz, hv] <;> rfl
  · have hv : vOkI t env = true := by simpa using h25
    have ha := val_at hv
    have hok := ha.1
    have hel := ha.2.1
    have hl := okT_len hok
    refine Wp.skip ?_
    refine hK2 _ ?_
    clear hK2 K2
    refine Wp.seqK fun K5 hK5 => ?_
    refine rg ?_
    refine hK5 _ ?_
    clear hK5 K5
    refine Wp.seqK fun K6 hK6 => ?_
    refine rg ?_
    refine hK6 _ ?_
    clear hK6 K6
    refine Wp.seqK fun K7 hK7 => ?_
    have ec : List.take (env.length.min (((8 : Nat) : Int) - 0).toNat) (env.map ci) ++ List.drop (1 + min (env.length.min (((8 : Nat) : Int) - 0).toNat) env.length) [LV.dsl true t.length (encN t), LV.sc (Value.int IntKind.i64 0), LV.sc (Value.int IntKind.i64 0), LV.sc (Value.int IntKind.i64 0), LV.sc (Value.int IntKind.i64 0), LV.sc (Value.int IntKind.i64 0), LV.sc (Value.int IntKind.i64 0), LV.sc (Value.int IntKind.i64 0), LV.sc (Value.int IntKind.i64 0)] = env.map ci := by
      rw [show env.length.min (((8 : Nat) : Int) - 0).toNat = 8 by rw [hel]; rfl, hel, List.take_of_length_le (by simp [hel])]
      exact List.append_nil _
    rw [ec]
    refine rg ?_
    refine ⟨rfl, CallK.handA 1 (o1 := [some ⟨0, .dsl true t.length (encN t) :: env.map ci⟩]) (new := [some ⟨0, (List.replicate t.length (-1)).map ci⟩]) (blank_c t env hel (by omega)) ?_⟩
    refine evd ?_
    refine ⟨rfl, CallK.give2E 0 1 (value_c t hok hl.2 (t.length - 1) (by omega) env _ hel (kn_new t env)) (fun r ob1 hq1 => ?_) rfl rfl (vr_still _ _) (ci_still _) (ha := by rw [show ((t.length - 1 : Nat) : Int) = (t.length : Int) - 1 by omega] <;> rfl)⟩
    obtain ⟨rfl, kn2, hk2, rfl⟩ := hq1
    refine ⟨_, _, rfl, vr_still _ _, ci_still _, rfl, ?_⟩
    refine evd ?_
    refine hK7 _ ?_
    clear hK7 K7
    refine Wp.ret (retV ?_)
    try simp only [List.getD_cons_zero, List.getD_cons_succ]
    rw [ha.2.2.2, hv] <;> rfl
end Go.Proofs.Ytkdkbnacelnljaa.RE

/-! Terms whose constants are put together, plain: value, size, level, and once more. Conditions: those that a theorem names. -/
set_option linter.unusedVariables false
set_option linter.unusedSimpArgs false
namespace Go.Proofs.Ytkdkbnacelnljaa.RE
open Go Go.RowKit
set_option maxRecDepth 100000
set_option maxHeartbeats 8000000
theorem fm_low (t : List Nd) {x j : Nat} (hj : j < x) : ∀ {y : Nat}, x ≤ y → (fM t y).getD j default = (fM t x).getD j default
  | 0, h => by omega
  | y + 1, h => by
    rcases Nat.lt_or_eq_of_le h with h1 | h1
    · show ((fM t y).set y _).getD j default = _
      rw [getD_set_ne (by omega), fm_low t hj (y := y) (by omega)]
    · subst h1; rfl
def fN (t : List Nd) : List Nd := fM t t.length
theorem fN_len (t : List Nd) : (fN t).length = t.length := fM_len t _
theorem fN_node {t : List Nd} (hP : PartsOk t) {i : Nat} (hi : i < t.length) : (fN t).getD i default = (foldNode (fN t) (t.getD i default)).1 := by
  have h1 : (fN t).getD i default = (fM t (i + 1)).getD i default := fm_low t (Nat.lt_succ_self i) hi
  rw [h1]
  show ((fM t i).set i _).getD i default = _
  rw [getD_set_eq (by rw [fM_len]; exact hi)]
  congr 1
  refine foldNode_congr fun p hp => ?_
  have := hP i hi p hp
  exact (fm_low t (x := i) (by omega) (by omega)).symm
theorem fN_yes {t : List Nd} (hP : PartsOk t) {i : Nat} (hi : i < t.length) (h : foldB (fN t) (t.getD i default) = true) : (fN t).getD i default = foldV (fN t) (t.getD i default) := by
  rw [fN_node hP hi]; unfold foldNode; rw [if_pos h]
theorem fN_no {t : List Nd} (hP : PartsOk t) {i : Nat} (hi : i < t.length) (h : foldB (fN t) (t.getD i default) = false) : (fN t).getD i default = t.getD i default := by
  rw [fN_node hP hi]; unfold foldNode; rw [if_neg (by rw [h]; decide)]
theorem foldB_t {o : List Nd} {n : Nd} (h : foldB o n = true) : 0 < (parts n).length ∧ isQ n.op = false ∧ n.op ≠ 1 ∧ ∀ k, k < (parts n).length → (o.getD ((parts n).getD k 0).toNat default).op = 0 := by
  unfold foldB at h
  simp only [Bool.and_eq_true, decide_eq_true_eq, Bool.not_eq_true', List.all_eq_true] at h
  refine ⟨h.1.1, h.1.2, fun e => ?_, fun k hk => ?_⟩
  · rw [parts_0 (by omega)] at h
    exact absurd h.1.1 (by simp)
  · have := h.2 _ (mem_gV (d := 0) hk)
    unfold isC at this
    simpa using this
theorem fold_w {t : List Nd} (hP : PartsOk t) (i : Nat) (hi : i < t.length) : ((fN t).getD i default).w = (t.getD i default).w := by
  cases h : foldB (fN t) (t.getD i default) with
  | true => rw [fN_yes hP hi h]; rfl
  | false => rw [fN_no hP hi h]
theorem foldX_at (o : List Nd) (ps : List Int) (j : Nat) (hj : j < 3) : (foldX o ps ps.length).getD j 0 = if j < ps.length then (o.getD (ps.getD j 0).toNat default).k else 0 := by
  simp [foldX, List.getD_eq_getElem?_getD, hj]
theorem foldV_app (o : List Nd) (n : Nd) : (foldV o n).k = appT n (wAt o ((parts n).getD 0 0)) (if 0 < (parts n).length then (o.getD ((parts n).getD 0 0).toNat default).k else 0) (if 1 < (parts n).length then (o.getD ((parts n).getD 1 0).toNat default).k else 0) (if 2 < (parts n).length then (o.getD ((parts n).getD 2 0).toNat default).k else 0) := by
  show appT _ _ _ _ _ = _
  rw [foldX_at _ _ 0 (by omega), foldX_at _ _ 1 (by omega), foldX_at _ _ 2 (by omega)]; rfl
theorem rule_0 {n : Nd} (h : n.op = 0) (w : List Int) : rule n w = (((wordOk n.w n.k && decide (n.a = 0)) && decide (n.b = 0)) && decide (n.c = 0)) := by
  unfold rule; rw [if_pos h]
theorem fold_word {t : List Nd} (hok : okT t = true) : ∀ (m i : Nat), i < m → i < t.length → ((fN t).getD i default).op = 0 → wordOk (t.getD i default).w ((fN t).getD i default).k = true
  | m + 1, i, hm, hi, h0 => by
    have hP := okT_parts hok
    cases h : foldB (fN t) (t.getD i default) with
    | true =>
      obtain ⟨hp, hq, h1, hc⟩ := foldB_t h
      rw [fN_yes hP hi h, foldV_app]
      refine app_word (okT_node hok hi) h1 hq (fun k => if k < (parts (t.getD i default)).length then ((fN t).getD ((parts (t.getD i default)).getD k 0).toNat default).k else 0) (fun k hk => ?_) (fun k hk => if_neg (by omega)) _ ?_
      · have h3 := hP i hi _ (mem_gV (d := 0) hk)
        simp only [if_pos hk]
        exact fold_word hok m _ (by omega) (by omega) (hc k hk)
      · rw [if_neg (by omega)]
        have h3 := hP i hi _ (mem_gV (d := 0) hp)
        exact fold_w hP _ (by omega)
    | false =>
      rw [fN_no hP hi h] at h0 ⊢
      have hr := (okT_node hok hi).rul
      rw [rule_0 h0] at hr
      simp only [Bool.and_eq_true] at hr
      exact hr.1.1.1
theorem fold_sub {t : List Nd} (hP : PartsOk t) {i : Nat} (hi : i < t.length) {p : Int} (hp : p ∈ parts ((fN t).getD i default)) : p ∈ parts (t.getD i default) := by
  cases h : foldB (fN t) (t.getD i default) with
  | true =>
    rw [fN_yes hP hi h] at hp
    have : parts (foldV (fN t) (t.getD i default)) = [] := parts_0 (by simp [foldV])
    rw [this] at hp
    cases hp
  | false => rwa [fN_no hP hi h] at hp
theorem fold_ok {t : List Nd} (hok : okT t = true) : okT (fN t) = true := by
  have hP := okT_parts hok
  have hl := okT_len hok
  unfold okT
  rw [Bool.and_eq_true, Bool.and_eq_true, decide_eq_true_eq, decide_eq_true_eq, List.all_eq_true, fN_len]
  refine ⟨⟨by omega, by omega⟩, fun i hi => ?_⟩
  have hi : i < t.length := by simpa using hi
  have hn := okT_node hok hi
  unfold sRight
  simp only [Bool.and_eq_true, decide_eq_true_eq, List.all_eq_true]
  refine ⟨fun p hp => hP i hi p (fold_sub hP hi hp), by rw [fold_w hP i hi]; exact hn.w, ?_⟩
  cases h : foldB (fN t) (t.getD i default) with
  | true =>
    have h2 := fold_word hok (i + 1) i (Nat.lt_succ_self i) hi (by rw [fN_yes hP hi h]; rfl)
    rw [← fold_w hP i hi] at h2
    rw [fN_yes hP hi h] at h2 ⊢
    rw [rule_0 rfl, h2]; rfl
  | false =>
    rw [fN_no hP hi h]
    have : (parts (t.getD i default)).map (wAt (fN t)) = (parts (t.getD i default)).map (wAt t) := List.map_congr_left fun p hp => by
      have := hP i hi p hp
      exact fold_w hP _ (by omega)
    rw [this]; exact hn.rul
theorem ev_const {q : Bool → List Int → Int} {t : List Nd} (hok : okT t = true) {i : Nat} (hi : i < t.length) (h0 : (t.getD i default).op = 0) (env : List Int) : evT q t env i = (t.getD i default).k := by
  have hw := (okT_node hok hi).w
  have e : parts (t.getD i default) = [] := parts_0 (by omega)
  rw [evT_eq (okT_parts hok) hi, if_neg (by omega), if_neg (by rw [h0]; decide)]
  unfold appN
  rw [e]
  show appT (t.getD i default) 1 0 0 0 = _
  unfold appT
  rw [if_pos (by unfold appOk; simp only [Bool.and_eq_true, decide_eq_true_eq]; omega), if_pos h0]
theorem fold_ev {q : Bool → List Int → Int} {t : List Nd} (hok : okT t = true) : ∀ (m i : Nat) (env : List Int), i < m → i < t.length → evT q (fN t) env i = evT q t env i
  | m + 1, i, env, hm, hi => by
    have hP := okT_parts hok
    have hok' := fold_ok hok
    have hi' : i < (fN t).length := by rw [fN_len]; exact hi
    cases h : foldB (fN t) (t.getD i default) with
    | true =>
      obtain ⟨hp, hq, h1, hc⟩ := foldB_t h
      rw [ev_const hok' hi' (by rw [fN_yes hP hi h]; rfl), fN_yes hP hi h, evT_eq hP hi, if_neg h1, if_neg (show ¬ isQ (t.getD i default).op = true by rw [hq]; decide), foldV_app]
      have e : ∀ k, k < (parts (t.getD i default)).length → evT q t env ((parts (t.getD i default)).getD k 0).toNat = ((fN t).getD ((parts (t.getD i default)).getD k 0).toNat default).k := fun k hk => by
        have h3 := hP i hi _ (mem_gV (d := 0) hk)
        rw [← fold_ev hok m _ env (by omega) (by omega), ev_const hok' (by rw [fN_len]; omega) (hc k hk)]
      have hw : wAt (fN t) ((parts (t.getD i default)).getD 0 0) = wAt t ((parts (t.getD i default)).getD 0 0) := by
        have h3 := hP i hi _ (mem_gV (d := 0) hp)
        exact fold_w hP _ (by omega)
      unfold appN
      rw [if_neg (show ¬ (parts (t.getD i default)).length = 0 by omega), hw]
      have ex : ∀ k, (if k < (parts (t.getD i default)).length then ((fN t).getD ((parts (t.getD i default)).getD k 0).toNat default).k else 0) = if k < (parts (t.getD i default)).length then evT q t env ((parts (t.getD i default)).getD k 0).toNat else 0 := fun k => by
        split
        · exact (e _ ‹_›).symm
        · rfl
      rw [ex 0, ex 1, ex 2]
    | false =>
      rw [evT_eq (okT_parts hok') hi', evT_eq hP hi, fN_no hP hi h]
      by_cases h1 : (t.getD i default).op = 1
      · rw [if_pos h1, if_pos h1]
      rw [if_neg h1, if_neg h1]
      by_cases hq : isQ (t.getD i default).op = true
      · rw [if_pos hq, if_pos hq]
        have hpa := hP i hi (t.getD i default).a (by rw [parts_q hq]; simp)
        congr 1
        exact List.map_congr_left fun x _ => fold_ev hok m _ _ (by omega) (by omega)
      · rw [if_neg hq, if_neg hq]
        refine appN_op rfl rfl rfl ?_ fun k => ?_
        · by_cases hz : (parts (t.getD i default)).length = 0
          · rw [if_pos hz, if_pos hz]
          · rw [if_neg hz, if_neg hz]
            have h3 := hP i hi _ (mem_gV (d := 0) (show 0 < (parts (t.getD i default)).length by omega))
            exact fold_w hP _ (by omega)
        · split
          · rename_i hk
            have h3 := hP i hi _ (mem_gV (d := 0) hk)
            exact fold_ev hok m _ _ (by omega) (by omega)
          · rfl
theorem fold_op {t : List Nd} (hP : PartsOk t) {i : Nat} (hi : i < t.length) (h : ((fN t).getD i default).op ≠ 0) : (fN t).getD i default = t.getD i default := by
  cases hb : foldB (fN t) (t.getD i default) with
  | true => rw [fN_yes hP hi hb] at h; exact absurd rfl h
  | false => exact fN_no hP hi hb
theorem fold_pass {t : List Nd} (hP : PartsOk t) (v : Int) : passV (fN t) v = passV t v := by
  funext i
  rcases Nat.lt_or_ge i t.length with hi | hi
  · cases hb : foldB (fN t) (t.getD i default) with
    | true =>
      unfold passV
      rw [fN_yes hP hi hb, (foldB_t hb).2.1]; rfl
    | false =>
      unfold passV
      rw [fN_no hP hi hb]
  · unfold passV
    have e : ∀ l : List Nd, l.length ≤ i → l.getD i default = default := fun l h => by
      rw [List.getD_eq_getElem?_getD, List.getElem?_eq_none h]; rfl
    rw [e _ hi, e _ (by rw [fN_len]; exact hi)]
theorem fold_path {t : List Nd} (hP : PartsOk t) {ps : Nat → Bool} {i j : Nat} (h : Pth (fN t) ps i j) : i < t.length → Pth t ps i j := by
  induction h with
  | here => exact fun _ => .here
  | @step i j p a b _ ih =>
    intro hi
    have h2 := fold_sub hP hi b
    have := hP i hi p h2
    exact .step a h2 (ih (by omega))
theorem fold_fit {t : List Nd} (hok : okT t = true) {env : List Int} {i : Nat} (hi : i < t.length) (h : Fit t env i) : Fit (fN t) env i := by
  have hP := okT_parts hok
  refine ⟨fun j hj ho => ?_, fun q hq hqq j hj ho hk => ?_⟩
  · have hj' := fold_path hP hj hi
    have hl := hj'.le hP hi
    have e := fold_op hP (show j < t.length by omega) (by rw [ho]; decide)
    rw [fold_pass hP] at hj'
    rw [e] at ho hj' ⊢
    exact h.free j hj' ho
  · have hq' := fold_path hP hq hi
    have hl := hq'.le hP hi
    have e := fold_op hP (show q < t.length by omega) (by intro e; rw [e] at hqq; exact absurd hqq (by decide))
    rw [e] at hqq hj hk ⊢
    have hpa := hP q (by omega) (t.getD q default).a (by rw [parts_q hqq]; simp)
    have hj' := fold_path hP hj (by omega)
    have hl2 := hj'.le hP (by omega)
    have e2 := fold_op hP (show j < t.length by omega) (by rw [ho]; decide)
    rw [fold_pass hP] at hj'
    rw [e2] at ho hk ⊢
    exact h.bound q hq' hqq j hj' ho hk
theorem qbit_pos {t : List Nd} (hok : okT t = true) {i : Nat} (hi : i < t.length) : 0 ≤ qbit (t.getD i default) := by
  unfold qbit
  split
  · rename_i h
    have := quant_rule (okT_node hok hi) h
    omega
  · exact Int.le_refl _
theorem qb_mono {t s : List Nd} (hok : okT t = true) (h : ∀ i, i < t.length → (reachT s).getD i false = true → qbit (s.getD i default) ≤ if (reachT t).getD i false = true then qbit (t.getD i default) else 0) : ∀ x, x ≤ t.length → qbN s x ≤ qbN t x
  | 0, _ => Int.le_refl _
  | x + 1, hx => by
    have ih := qb_mono hok h x (by omega)
    have h1 := h x (by omega)
    have h2 := qbit_pos hok (show x < t.length by omega)
    show qbN s x + _ ≤ qbN t x + _
    by_cases hs : (reachT s).getD x false = true
    · rw [if_pos hs]
      have := h1 hs
      omega
    · rw [if_neg hs]
      split <;> omega
theorem fold_qb {t : List Nd} (hok : okT t = true) : qbT (fN t) ≤ qbT t := by
  have hP := okT_parts hok
  have h0 := (okT_len hok).1
  unfold qbT
  rw [fN_len]
  refine qb_mono hok (fun i hi hr => ?_) t.length (Nat.le_refl _)
  have h1 := (rch_iff (fold_ok hok)).1 hr
  rw [fN_len] at h1
  have h2 := (rch_iff hok).2 (fold_path hP h1 (by omega))
  rw [if_pos h2]
  unfold qbit
  split
  · rename_i hq
    have e := fold_op hP hi (by intro e; rw [e] at hq; exact absurd hq (by decide))
    rw [e] at hq ⊢
    rw [if_pos hq]; exact Int.le_refl _
  · split
    · rename_i h3
      have := quant_rule (okT_node hok hi) h3
      omega
    · exact Int.le_refl _
theorem qb_all {p : List Nd} (hok : okT p = true) (hall : ∀ j, j < p.length → Pth p (fun _ => true) (p.length - 1) j) : ∀ x, x ≤ p.length → qbN p x = qbP p x
  | 0, _ => rfl
  | x + 1, hx => by
    show qbN p x + _ = qbP p x + _
    rw [qb_all hok hall x (by omega), if_pos ((rch_iff hok).2 (hall x (by omega)))]
theorem qb_pr {t : List Nd} (hok : okT t = true) : qbT (pruneT t) = qbT t := by
  unfold qbT
  rw [qb_all (prune_ok hok) (prune_all hok) _ (Nat.le_refl _)]
  exact qb_prune hok
theorem suits_pr {t : List Nd} (hok : okT t = true) (env : List Int) : suitsT (pruneT t) env = suitsT t env := by
  rw [Bool.eq_iff_iff, suits_iff (prune_ok hok), suits_iff hok, ← (prune_root hok).2.2]
  exact (prune_emb hok).fit (okT_parts hok) (prune_root hok).1
theorem val_pr {t : List Nd} (hok : okT t = true) (env : List Int) : vOkI (pruneT t) env = vOkI t env ∧ valI (pruneT t) env = valI t env := by
  have h : vOkI (pruneT t) env = vOkI t env := by
    unfold vOkI
    rw [suits_pr hok, qb_pr hok, hok, prune_ok hok]
  refine ⟨h, ?_⟩
  unfold valI
  rw [h]
  split
  · have h0 := (okT_len hok).1
    rw [← (prune_root hok).2.2]
    exact (prune_emb hok).ev (okT_parts hok) (okT_parts (prune_ok hok)) quI t.length (t.length - 1) env (by omega) (prune_root hok).1
  · rfl
theorem fold_val {t : List Nd} {env : List Int} (h : vOkI t env = true) : vOkI (fN t) env = true ∧ valI (fN t) env = valI t env := by
  have h' := h
  unfold vOkI at h'
  simp only [Bool.and_eq_true, decide_eq_true_eq] at h'
  obtain ⟨⟨⟨hok, he⟩, hs⟩, hb⟩ := h'
  have h0 := (okT_len hok).1
  have hv : vOkI (fN t) env = true := by
    unfold vOkI
    simp only [Bool.and_eq_true, decide_eq_true_eq]
    have h1 := fold_fit hok (show t.length - 1 < t.length by omega) ((suits_iff hok env).1 hs)
    have h2 := fold_qb hok
    refine ⟨⟨⟨fold_ok hok, he⟩, (suits_iff (fold_ok hok) env).2 (by rw [fN_len]; exact h1)⟩, by omega⟩
  refine ⟨hv, ?_⟩
  unfold valI
  rw [if_pos h, if_pos hv, fN_len]
  exact fold_ev hok t.length _ env (by omega) (by omega)
/-- A folded term is worth the same. -/
theorem foldT_val {t : List Nd} {env : List Int} (h : vOkI t env = true) : vOkI (foldT t).1 env = true ∧ valI (foldT t).1 env = valI t env := by
  have hok : okT t = true := by
    unfold vOkI at h
    simp only [Bool.and_eq_true] at h
    exact h.1.1.1
  have e : (foldT t).1 = pruneT (fN t) := by unfold foldT; rw [if_pos hok]; rfl
  have h1 := val_pr (fold_ok hok) env
  have h2 := fold_val h
  rw [e, h1.1, h1.2]
  exact h2
theorem foldT_size (t : List Nd) : (foldT t).1.length ≤ t.length := by
  unfold foldT
  split
  · rename_i hok
    have h1 := (prn_len (fN t) (reachT (fN t)) (fN t).length).2
    show (pruneT (fN t)).length ≤ _
    rw [prune_eq (fold_ok hok)]
    rw [fN_len] at h1
    rw [fN_len]; exact h1
  · exact Nat.zero_le _
/-! ### Once more -/
theorem fold_none {t : List Nd} (hok : okT t = true) {i : Nat} (hi : i < t.length) : foldB (fN t) ((fN t).getD i default) = false := by
  have hP := okT_parts hok
  cases hb : foldB (fN t) (t.getD i default) with
  | true =>
    rw [fN_yes hP hi hb]
    have : parts (foldV (fN t) (t.getD i default)) = [] := parts_0 (by simp [foldV])
    unfold foldB
    rw [this]; rfl
  | false => rw [fN_no hP hi hb]; exact hb
theorem emb_foldB {t p : List Nd} {R : Nat → Prop} {pl : Nat → Nat} (h : Emb0 t p R pl) {i : Nat} (hi : R i) : foldB p (p.getD (pl i) default) = foldB t (t.getD i default) := by
  unfold foldB
  have e1 : (p.getD (pl i) default).op = (t.getD i default).op := by rw [h.node i hi]; rfl
  rw [h.pts hi, List.length_map, e1, List.all_map]
  congr 1
  rw [Bool.eq_iff_iff, List.all_eq_true, List.all_eq_true]
  have key : ∀ x ∈ parts (t.getD i default), (isC p ∘ fun q => (pl q.toNat : Int)) x = isC t x := fun x hx => by
    show isC p (pl x.toNat : Int) = _
    unfold isC
    rw [show ((pl x.toNat : Nat) : Int).toNat = pl x.toNat by omega, h.node _ (h.clo i hi x hx)]; rfl
  exact ⟨fun h2 x hx => by rw [← key x hx]; exact h2 x hx, fun h2 x hx => by rw [key x hx]; exact h2 x hx⟩
theorem fM_same {u : List Nd} (h : ∀ i, i < u.length → foldB u (u.getD i default) = false) : ∀ x, x ≤ u.length → fM u x = u
  | 0, _ => rfl
  | x + 1, hx => by
    have ih := fM_same h x (by omega)
    rw [fM_no (by omega) (by rw [ih]; unfold foldNode; rw [if_neg (by rw [h x (by omega)]; decide)]), ih]
theorem prn_all {p : List Nd} {is : List Bool} (hP : PartsOk p) (h : ∀ j, j < p.length → is.getD j false = true) : ∀ x, x ≤ p.length → (prn p is x).2 = p.take x
  | 0, _ => by simp [prn]
  | x + 1, hx => by
    have ih : ∀ j, j ≤ x → (prn p is j).2 = p.take j := fun j hj => prn_all hP h j (by omega)
    have hpl : ∀ j, j < x + 1 → (prn p is (x + 1)).1.getD j 0 = (j : Int) := fun j hj => by
      rw [prn_pl hj, ih j (by omega), List.length_take]
      omega
    rw [prn_step, if_pos (h x (by omega)), ih x (Nat.le_refl _)]
    have e : renum (prn p is (x + 1)).1 (p.getD x default) = p.getD x default := by
      have hp := hP x (by omega)
      have ea : ra (prn p is (x + 1)).1 (p.getD x default) = (p.getD x default).a := by
        unfold ra
        split
        · rename_i h0
          have := part_a hp h0
          rw [hpl _ (by omega)]; omega
        · rfl
      have eb : rb (prn p is (x + 1)).1 (p.getD x default) = (p.getD x default).b := by
        unfold rb
        split
        · rename_i h0
          have := part_b hp h0
          rw [hpl _ (by omega)]; omega
        · rfl
      have ec : rc (prn p is (x + 1)).1 (p.getD x default) = (p.getD x default).c := by
        unfold rc
        split
        · rename_i h0
          have := part_c hp h0
          rw [hpl _ (by omega)]; omega
        · rfl
      unfold renum
      rw [ea, eb, ec]
    rw [e, List.take_succ_eq_append_getElem (by omega)]
    congr 2
    first | exact getD_at (show x < p.length by omega) | exact (getD_at (show x < p.length by omega)).symm
theorem prune_same {p : List Nd} (hok : okT p = true) (hall : ∀ j, j < p.length → Pth p (fun _ => true) (p.length - 1) j) : pruneT p = p := by
  rw [prune_eq hok, prn_all (okT_parts hok) (fun j hj => (rch_iff hok).2 (hall j hj)) _ (Nat.le_refl _), List.take_length]
theorem foldT_again (t : List Nd) (hok : okT t = true) : (foldT (foldT t).1).1 = (foldT t).1 := by
  have e : (foldT t).1 = pruneT (fN t) := by unfold foldT; rw [if_pos hok]; rfl
  have hu := prune_ok (fold_ok hok)
  have hn : ∀ i, i < (pruneT (fN t)).length → foldB (pruneT (fN t)) ((pruneT (fN t)).getD i default) = false := fun i hi => by
    obtain ⟨j, hj, rfl⟩ := (prune_emb (fold_ok hok)).onto i hi
    rw [emb_foldB (prune_emb (fold_ok hok)).toEmb0 hj]
    exact fold_none hok (by have := rch_lt hj; rwa [fN_len] at this)
  rw [e]
  show (foldT _).1 = _
  unfold foldT
  rw [if_pos hu]
  show pruneT (fM _ _) = _
  rw [fM_same hn _ (Nat.le_refl _)]
  exact prune_same hu (prune_all (fold_ok hok))
/-! ### Levels -/
def lev (t : List Nd) (i : Nat) : Int := (levL t (i + 1)).getD i 0
theorem lvl_at (t : List Nd) : ∀ {x i : Nat}, i < x → (levL t x).getD i 0 = lev t i
  | x + 1, i, h => by
    rcases Nat.lt_succ_iff_lt_or_eq.1 h with h1 | h1
    · show (levL t x ++ _).getD i 0 = _
      rw [List.getD_eq_getElem?_getD, List.getElem?_append_left (by rw [levL_len]; exact h1), ← List.getD_eq_getElem?_getD, lvl_at t h1]
    · subst h1; rfl
theorem mx_le {f g : Int → Int} : ∀ (ps : List Int) (a b : Int), a ≤ b → (∀ p ∈ ps, f p ≤ g p) → ps.foldl (fun m p => max m (f p)) a ≤ ps.foldl (fun m p => max m (g p)) b
  | [], a, b, h, _ => h
  | p :: ps, a, b, h, h2 => mx_le ps _ _ (show max a (f p) ≤ max b (g p) by have := h2 p List.mem_cons_self; omega) fun q hq => h2 q (List.mem_cons_of_mem _ hq)
theorem mx_ge {f : Int → Int} : ∀ (ps : List Int) (a : Int), a ≤ ps.foldl (fun m p => max m (f p)) a
  | [], a => Int.le_refl _
  | p :: ps, a => Int.le_trans (Int.le_max_left a (f p)) (mx_ge ps (max a (f p)))
theorem lev_eq {t : List Nd} (hP : PartsOk t) {i : Nat} (hi : i < t.length) : lev t i = (parts (t.getD i default)).foldl (fun m p => max m (lev t p.toNat)) 0 + 1 := by
  have e : lev t i = mxL (levL t i) (parts (t.getD i default)) + 1 := by
    unfold lev
    show (levL t i ++ [mxL (levL t i) (parts (t.getD i default)) + 1]).getD i 0 = _
    rw [List.getD_eq_getElem?_getD, List.getElem?_append_right (by rw [levL_len]; exact Nat.le_refl _), levL_len, Nat.sub_self]; rfl
  rw [e]
  congr 1
  have k : ∀ p ∈ parts (t.getD i default), (levL t i).getD p.toNat 0 = lev t p.toNat := fun p hp => by
    have := hP i hi p hp
    exact lvl_at t (by omega)
  unfold mxL
  apply Int.le_antisymm
  · exact mx_le _ _ _ (Int.le_refl _) fun p hp => by rw [k p hp]; exact Int.le_refl _
  · exact mx_le _ _ _ (Int.le_refl _) fun p hp => by rw [k p hp]; exact Int.le_refl _
theorem emb_lev {t p : List Nd} {R : Nat → Prop} {pl : Nat → Nat} (h : Emb0 t p R pl) (hP : PartsOk t) (hPp : PartsOk p) : ∀ (m i : Nat), i < m → R i → lev p (pl i) = lev t i
  | m + 1, i, hm, hi => by
    rw [lev_eq hP (h.lt i hi), lev_eq hPp (h.ltp i hi), h.pts hi]
    congr 1
    rw [List.foldl_map]
    have k : ∀ q ∈ parts (t.getD i default), lev p ((pl q.toNat : Nat) : Int).toNat = lev t q.toNat := fun q hq => by
      have h2 := hP i (h.lt i hi) q hq
      rw [show ((pl q.toNat : Nat) : Int).toNat = pl q.toNat by omega]
      exact emb_lev h hP hPp m _ (by omega) (h.clo i hi q hq)
    apply Int.le_antisymm
    · exact mx_le (f := fun q => lev p ((pl q.toNat : Nat) : Int).toNat) (g := fun q => lev t q.toNat) _ _ _ (Int.le_refl _) fun q hq => by rw [k q hq]; exact Int.le_refl _
    · exact mx_le (f := fun q => lev t q.toNat) (g := fun q => lev p ((pl q.toNat : Nat) : Int).toNat) _ _ _ (Int.le_refl _) fun q hq => by rw [k q hq]; exact Int.le_refl _
theorem levelT_at {t : List Nd} (hok : okT t = true) : levelT t = lev t (t.length - 1) := by
  have h0 := (okT_len hok).1
  unfold levelT
  rw [if_pos hok]
  exact lvl_at t (by omega)
theorem level_pr {t : List Nd} (hok : okT t = true) : levelT (pruneT t) = levelT t := by
  have h0 := (okT_len hok).1
  rw [levelT_at hok, levelT_at (prune_ok hok), ← (prune_root hok).2.2]
  exact emb_lev (prune_emb hok).toEmb0 (okT_parts hok) (okT_parts (prune_ok hok)) t.length _ (by omega) (prune_root hok).1
theorem fold_lev {t : List Nd} (hok : okT t = true) : ∀ (m i : Nat), i < m → i < t.length → lev (fN t) i ≤ lev t i
  | m + 1, i, hm, hi => by
    have hP := okT_parts hok
    have hP' := okT_parts (fold_ok hok)
    rw [lev_eq hP hi, lev_eq hP' (by rw [fN_len]; exact hi)]
    cases hb : foldB (fN t) (t.getD i default) with
    | true =>
      have : parts ((fN t).getD i default) = [] := by rw [fN_yes hP hi hb]; exact parts_0 (by simp [foldV])
      rw [this]
      have := mx_ge (f := fun p => lev t p.toNat) (parts (t.getD i default)) 0
      show (0 : Int) + 1 ≤ _
      omega
    | false =>
      rw [fN_no hP hi hb]
      have := mx_le (f := fun p => lev (fN t) p.toNat) (g := fun p => lev t p.toNat) (parts (t.getD i default)) 0 0 (Int.le_refl _) fun p hp => by
        have := hP i hi p hp
        exact fold_lev hok m _ (by omega) (by omega)
      omega
theorem foldT_level (t : List Nd) (hok : okT t = true) : levelT (foldT t).1 ≤ levelT t := by
  have e : (foldT t).1 = pruneT (fN t) := by unfold foldT; rw [if_pos hok]; rfl
  have h0 := (okT_len hok).1
  rw [e, level_pr (fold_ok hok), levelT_at hok, levelT_at (fold_ok hok), fN_len]
  exact fold_lev hok t.length _ (by omega) (by omega)
end Go.Proofs.Ytkdkbnacelnljaa.RE
