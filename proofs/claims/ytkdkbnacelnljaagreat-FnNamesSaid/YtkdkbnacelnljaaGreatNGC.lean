/- What suits, and the bits of quantifiers, the program. Conditions: those that a theorem names. -/
import Derived.Test.YtkdkbnacelnljaaGreatNGA
import Derived.Test.YtkdkbnacelnljaaGreatNV1
import Derived.Test.YtkdkbnacelnljaaGreatNGB
import Derived.Test.YtkdkbnacelnljaaGreatNDA
import Derived.Test.YtkdkbnacelnljaaGreatNF9
set_option linter.unusedVariables false
set_option linter.unusedSimpArgs false
namespace Go.Proofs.YtkdkbnacelnljaaGreat.RE
open Go Go.RowKit
set_option maxRecDepth 100000
set_option maxHeartbeats 8000000
/-- Rows are handed over wherever they lie, none is changed, new ones are answered. -/
theorem obB_new {σ : List Nat} {ob new : Obs} (hn : σ.Nodup) (hlt : ∀ s ∈ σ, s < ob.length) (h : ∀ s ∈ σ, ∀ x, ob.getD s none = some x → x.cs.all (LV.within σ) = true) : obB σ ob (obC σ ob ++ new) = ob ++ new.map (Option.map (Ob.ren (mB σ ob.length))) := by
  have e := obB_same hn hlt h
  have hl : (obC σ ob).length = σ.length := by simp [obC]
  unfold obB at e ⊢
  rw [List.drop_of_length_le (by omega), List.map_nil, List.append_nil] at e
  rw [List.drop_left' hl]
  congr 1
  refine Eq.trans ?_ e
  congr 1
  funext o
  cases hi : σ.idxOf? o with
  | none => rfl
  | some i =>
    have hσ := idx_get hi
    have : i < σ.length := by
      rcases Nat.lt_or_ge i σ.length with h | h
      · exact h
      · rw [List.getElem?_eq_none h] at hσ; cases hσ
    simp only [Option.bind_some]
    rw [List.getElem?_append_left (by omega)]
theorem CallK.passN {P : Program} {f : FuncId} {args args' : List AV} {st : St} {d : Option Tmp} {K : St → Prop} (σ : List Nat) {r0 : AV} {obm new : Obs} (h : CallsA P f args' obm fun r ob => r = r0 ∧ ob = obm ++ new) (k : K ⟨putT st.tm d (r0.ren (mB σ st.ob.length)), st.ob ++ new.map (Option.map (Ob.ren (mB σ st.ob.length)))⟩) (ha : args.map (AV.toC σ []) = args' := by rfl) (ho : obC σ st.ob = obm)
    (hs : sigOk σ st.ob = true) (hn : σ.Nodup := by decide) : CallK P f args st d K := by
  have hs' : ∀ s ∈ σ, s < st.ob.length ∧ ∀ x, st.ob.getD s none = some x → x.cs.all (LV.within σ) = true := fun s hm => by
    have := List.all_eq_true.1 hs s hm
    simp only [Bool.and_eq_true, decide_eq_true_eq] at this
    refine ⟨this.1, fun x hx => ?_⟩
    have h2 := this.2
    rw [hx] at h2; exact h2
  refine CallK.use (Q := fun r ob => r = r0 ∧ ob = obm ++ new) σ [] ⟨hn, fun s hm => (hs' s hm).1, by simp, by simp⟩ (by rw [ho, ha]; exact h) fun r ob1 ⟨h1, h2⟩ => ?_
  subst h1; subst h2
  refine ⟨by rw [← ho]; simp [obC], .inl rfl, ?_⟩
  rw [← ho, obB_new hn (fun s hm => (hs' s hm).1) (fun s hm => (hs' s hm).2)]
  exact k
/-! ### What is reached from any node -/
def bQ (t : List Nd) (pf : Nat → Bool) (r : Nat) (x : Nat) : List Bool := if h : x ≤ r then stepR t pf x (bQ t pf r (x + 1)) else atR t.length r
termination_by r + 1 - x
theorem bQ_top (t : List Nd) (pf : Nat → Bool) (r : Nat) : bQ t pf r (r + 1) = atR t.length r := by rw [bQ, dif_neg (by omega)]
theorem bQ_step {t : List Nd} {pf : Nat → Bool} {r x : Nat} (h : x ≤ r) : bQ t pf r x = stepR t pf x (bQ t pf r (x + 1)) := by rw [bQ, dif_pos h]
theorem bQ_run (t : List Nd) (pf : Nat → Bool) (r : Nat) : ∀ x, x ≤ r + 1 → runR t pf x (bQ t pf r x) = bQ t pf r 0
  | 0, _ => rfl
  | x + 1, h => by rw [← bQ_run t pf r x (by omega), runR, ← bQ_step (by omega)]
theorem bQ_reach (t : List Nd) (pf : Nat → Bool) (r : Nat) : bQ t pf r 0 = reachR t pf r := by
  rw [← bQ_run t pf r (r + 1) (Nat.le_refl _), bQ_top]; rfl
theorem bQ_len (t : List Nd) (pf : Nat → Bool) (r : Nat) (x : Nat) (h : x ≤ r + 1) : (bQ t pf r x).length = t.length := by
  by_cases hx : x ≤ r
  · rw [bQ_step hx, stepR_len, bQ_len t pf r (x + 1) (by omega)]
  · rw [bQ, dif_neg hx]; simp [atR]
termination_by r + 1 - x
theorem at_set {n r : Nat} : (List.replicate n false).set r true = atR n r := by
  apply List.ext_getElem
  · simp [atR]
  · intro i h1 h2
    simp only [atR, List.length_set, List.length_replicate] at h1
    simp only [atR, List.getElem_set, List.getElem_map, List.getElem_range, List.getElem_replicate]
    by_cases h : r = i
    · subst h; simp
    · rw [if_neg h, decide_eq_false (fun e => h e.symm)]
theorem reach3_c (t : List Nd) (hok : okT t = true) (hl : 1 ≤ t.length ∧ t.length ≤ 80) (r : Nat) (hr : r < t.length) (pf : Nat → Bool) (fn : FuncId) (hgo : goL.contains fn = true) (c0 c1 : List LV) (hc0 : c0.all LV.inert = true) (hc1 : c1.all LV.inert = true) (hf : ∀ i, i < t.length → CallsA E.P fn [I i, .l (.ptr 0 0 0), .l (.ptr 1 0 0)] [some ⟨0, c0⟩, some ⟨0, c1⟩] fun r ob => r = T (pf i) ∧ ob = [some ⟨0, c0⟩, some ⟨0, c1⟩]) : CallsA E.P 77 [dN t, I (((r + 1 : Nat) : Int) - 1), .l (.clo fn [(0, 0, 0), (1, 0, 0)])] [some ⟨0, c0⟩, some ⟨0, c1⟩] fun r1 ob => r1 = .l (.obj 2 0 1 0 t.length) ∧ ob = [some ⟨0, c0⟩, some ⟨0, c1⟩] ++ [some ⟨0, (bQ t pf r 0).map cb⟩] := by
  refine CallsA.body (E := E) (fn := Tryz.f77) Tryz.func77 rfl fun B hB => ?_
  simp only [Tryz.ntmps77, go_sem, nl, Nat.reduceSub, Nat.reduceAdd, List.reduceReplicate]
  refine Wp.seqK fun K1 hK1 => ?_
  refine rg ?_
  refine hK1 _ ?_
  clear hK1 K1
  refine Wp.seqK fun K2 hK2 => ?_
  refine Wp.regionS ?_
  simp only [go_sem, zeroB]
  refine evd ?_
  refine hK2 _ ?_
  clear hK2 K2
  refine Wp.seqK fun K3 hK3 => ?_
  refine rg ?_
  refine hK3 _ ?_
  clear hK3 K3
  refine Wp.seqK fun K4 hK4 => ?_
  refine Wp.seqK fun K5 hK5 => ?_
  refine rg ?_
  refine hK5 _ ?_
  clear hK5 K5
  refine Wp.block ?_
  refine Wp.loopU (α := Nat) (fun x => [.k, .d, .k, .d, .d, .d, .d, .k, .v (I ((x : Int) - 1)), .d5, .d5, .d5, .d5, .d5, .d5, .d5, .d, .d, .d, .d]) (fun x => [some ⟨0, c0⟩, some ⟨0, c1⟩, some ⟨0, (bQ t pf r x).map cb⟩]) (fun x => x ≤ r + 1) (fun x => x) (r + 1) (Nat.le_refl _) (anyS (ho := by rw [bQ_top, ← at_set, show (((r + 1 : Nat) : Int) - 1).toNat = r by omega] <;> rfl)) ?_
  rintro x f6 K6 hx hK6
  simp only [updT_k, updT_d, updT_d5, updT_v, updT_nil, Nat.reduceAdd]
  refine Wp.seqK fun K7 hK7 => ?_
  refine Wp.seqK fun K8 hK8 => ?_
  refine rg ?_
  refine hK8 _ ?_
  clear hK8 K8
  refine Wp.condS (fun h19 => ?_) (fun h19 => ?_)
  · obtain ⟨i, rfl⟩ : ∃ i, x = i + 1 := ⟨x - 1, by omega⟩
    simp only [show ((i + 1 : Nat) : Int) - 1 = (i : Int) by omega]
    have hi : i < t.length := by omega
    have hp := okT_part hok hi
    have hpl := parts_len (t.getD i default)
    have hbl := bQ_len t pf r (i + 1) hx
    refine Wp.skip ?_
    refine hK7 _ ?_
    clear hK7 K7
    refine Wp.seqK fun K9 hK9 => ?_
    refine Wp.block ?_
    refine Wp.seqK fun K10 hK10 => ?_
    refine Wp.seqU0 [.k, .d, .k, .d, .d, .d, .d, .k, .k, .d5, .d5, .d5, .d5, .d, .d, .d, .v (T (!((bQ t pf r (i + 1)).getD i false) || !(pf i))), .d5, .d5, .d5] (fun K11 hK11 => ?_) ?_
    · refine rg ?_
      refine grdA_split rfl (fun g6_6 => ?_) (fun g6_6 => ?_)
      · try simp only [decide_eq_true_eq, decide_eq_false_iff_not] at g6_6
        try refine evd ?_
        exact hK11 _ (anyS (h := by first | rfl | (simp only [g6_6, Bool.true_or, Bool.or_true, Bool.false_or, Bool.or_false, Bool.true_and, Bool.and_true, Bool.false_and, Bool.and_false, Bool.not_true, Bool.not_false, decide_true, decide_false, eq_self, Int.reduceEq] <;> rfl)))
      · try simp only [decide_eq_true_eq, decide_eq_false_iff_not] at g6_6
        try refine evd ?_
        refine CallK.passS [0, 1] (hf i hi) ?_ (ho := by simp only [obC, List.map_cons, List.map_nil, List.getD_cons_zero, List.getD_cons_succ, Option.map_some, map_inert hc0, map_inert hc1]) (hs := by simp only [sigOk, List.all_cons, List.all_nil, List.getD_cons_zero, List.getD_cons_succ, List.length_cons, List.length_nil, inert_within hc0, inert_within hc1, Bool.and_true]; rfl)
        refine evd ?_
        exact hK11 _ (anyS (h := by first | rfl | (simp only [g6_6, Bool.true_or, Bool.or_true, Bool.false_or, Bool.or_false, Bool.true_and, Bool.and_true, Bool.false_and, Bool.and_false, Bool.not_true, Bool.not_false, decide_true, decide_false, eq_self, Int.reduceEq] <;> rfl)))
    rintro f11
    simp only [updT_k, updT_d, updT_d5, updT_v, updT_nil, Nat.reduceAdd]
    refine Wp.condS (fun h32 => ?_) (fun h32 => ?_)
    · have hst : bQ t pf r i = bQ t pf r (i + 1) := by rw [bQ_step (by omega)]; exact step_nx (t := t) h32
      refine Wp.exit ?_
      try simp only [thn, inB, if_true, reduceIte]
      clear hK10 K10
      refine hK9 _ ?_
      clear hK9 K9
      refine Wp.keep 3 (by simp [hB]) (by simp) ?_
      simp only [go_sem, map_inert hc0, map_inert hc1]
      refine evd ?_
      refine rg ?_
      exact hK6 i _ (by omega) (by omega) (anyS (ho := by rw [hst]))
    · have hst : bQ t pf r i = mark (bQ t pf r (i + 1)) (parts (t.getD i default)) := by rw [bQ_step (by omega)]; exact step_yx (t := t) h32
      refine Wp.skip ?_
      refine hK10 _ ?_
      clear hK10 K10
      refine Wp.seqK fun K12 hK12 => ?_
      refine rg ?_
      refine ⟨rfl, CallK.rowA (h := iParts_c _) (k := ?_)⟩
      refine evd ?_
      refine hK12 _ ?_
      clear hK12 K12
      refine Wp.block ?_
      refine Wp.loopU (α := Nat) (fun k => [.k, .d, .k, .d, .d, .d, .d, .k, .k, .d5, .d5, .d5, .d5, .d5, .d, .d, .d, .k, .k, .v (I k), .d5, .d, .d, .d]) (fun k => [some ⟨0, c0⟩, some ⟨0, c1⟩, some ⟨0, (mark (bQ t pf r (i + 1)) ((parts (t.getD i default)).take k)).map cb⟩, some ⟨0, (parts (t.getD i default)).map ci⟩]) (fun k => k ≤ (parts (t.getD i default)).length) (fun k => (parts (t.getD i default)).length - k) 0 (by omega) (anyS) ?_
      rintro k f13 K13 hk hK13
      simp only [updT_k, updT_d, updT_d5, updT_v, updT_nil, Nat.reduceAdd]
      have hml := mark_len ((parts (t.getD i default)).take k) (bQ t pf r (i + 1))
      refine Wp.seqK fun K14 hK14 => ?_
      refine rg ?_
      refine hK14 _ ?_
      clear hK14 K14
      refine Wp.seqK fun K15 hK15 => ?_
      refine Wp.condS (fun h40 => ?_) (fun h40 => ?_)
      · have hkl : k < (parts (t.getD i default)).length := by omega
        have hpk := hp ((parts (t.getD i default)).getD k 0) (by rw [← getD_at hkl]; exact List.getElem_mem hkl)
        refine Wp.skip ?_
        refine hK15 _ ?_
        clear hK15 K15
        refine Wp.seqK fun K16 hK16 => ?_
        refine Wp.block ?_
        refine Wp.seqK fun K17 hK17 => ?_
        refine rg ?_
        refine hK17 _ ?_
        clear hK17 K17
        refine rg ?_
        try simp only [thn, inB, if_true, reduceIte]
        refine hK16 _ ?_
        clear hK16 K16
        refine rg ?_
        exact hK13 (k + 1) _ (by omega) (by omega) (anyS (ho := by rw [take_push 0 hkl, mark_push]))
      · have hkl : k = (parts (t.getD i default)).length := by omega
        subst hkl
        simp only [List.take_length]
        refine Wp.exit ?_
        try simp only [thn, inB, if_true, reduceIte]
        clear hK15 K15
        clear hK13 K13
        try simp only [thn, inB, if_true, reduceIte]
        refine hK9 _ ?_
        clear hK9 K9
        refine Wp.keep 3 (by simp [hB]) (by simp) ?_
        simp only [go_sem, map_inert hc0, map_inert hc1]
        refine evd ?_
        refine rg ?_
        exact hK6 i _ (by omega) (by omega) (anyS (ho := by rw [hst]))
  · have hx0 : x = 0 := by omega
    subst hx0
    refine Wp.exit ?_
    try simp only [thn, inB, if_true, reduceIte]
    clear hK7 K7
    clear hK6 K6
    refine hK4 _ ?_
    clear hK4 K4
    refine Wp.seqK fun K18 hK18 => ?_
    refine rg ?_
    refine hK18 _ ?_
    clear hK18 K18
    refine Wp.ret (retN (o := 2) (cs := (bQ t pf r 0).map cb) (ob' := [some ⟨0, c0⟩, some ⟨0, c1⟩]) rfl rfl rfl (flatB _) (by omega) (hi := by simp only [obShut, List.all_cons, List.all_nil, inert_shut hc0, inert_shut hc1, Bool.and_true]))
theorem suitsFn_c (t : List Nd) (hl : t.length ≤ 1048576) (q : Nd) (i : Nat) (hi : i < t.length) : CallsA E.P 88 [I i, .l (.ptr 0 0 0), .l (.ptr 1 0 0)] [some ⟨0, [.dsl true t.length (encN t)]⟩, some ⟨0, nl q⟩] fun r ob => r = T (passV t q.k i) ∧ ob = [some ⟨0, [.dsl true t.length (encN t)]⟩, some ⟨0, nl q⟩] := by
  refine CallsA.body (E := E) (fn := Tryz.f88) Tryz.func88 rfl fun B hB => ?_
  simp only [Tryz.ntmps88, go_sem, nl, Nat.reduceSub, Nat.reduceAdd, List.reduceReplicate]
  refine Wp.seqK fun K1 hK1 => ?_
  refine rg ?_
  refine hK1 _ ?_
  clear hK1 K1
  refine Wp.seqU0 [.d, .d, .d, .d, .v (T (passV t q.k i)), .d5, .d5, .d5, .d] (fun K2 hK2 => ?_) ?_
  · refine Wp.drawI [0, 1, 2, 3, 4, 5, 6, 7] [4] (by kernel_rfl) ?_
    refine evd ?_
    refine ⟨rfl, CallK.valA (h := isQuant_c _) (k := ?_)⟩
    refine evd ?_
    refine grdA_split rfl (fun g1_7 => ?_) (fun g1_7 => ?_)
    · try simp only [decide_eq_true_eq, decide_eq_false_iff_not] at g1_7
      have hp : passV t q.k i = true := by unfold passV; rw [g1_7]; rfl
      try refine evd ?_
      exact hK2 _ (anyS (h := by rw [hp] <;> rfl))
    · try simp only [decide_eq_true_eq, decide_eq_false_iff_not] at g1_7
      have hp : passV t q.k i = !decide ((t.getD i default).k = q.k) := by unfold passV; rw [g1_7]; rfl
      try refine evd ?_
      exact hK2 _ (anyS (h := by rw [hp] <;> rfl))
  rintro f2
  simp only [updT_k, updT_d, updT_d5, updT_v, updT_nil, Nat.reduceAdd]
  refine Wp.ret (retH (n := 2) rfl rfl)
def vB (t : List Nd) (env : List Int) (v i : Nat) : Bool := (((freeR t v).getD i false && decide ((t.getD i default).op = 1)) && decide ((t.getD i default).k = (v : Int))) && !wordOk (t.getD i default).w (env.getD v 0)
def suB (t : List Nd) (env : List Int) (v : Nat) : Bool := (List.range t.length).any (vB t env v)
def qB (t : List Nd) (i j : Nat) : Bool := (((innT t i).getD j false && decide ((t.getD j default).op = 1)) && decide ((t.getD j default).k = (t.getD i default).k)) && !decide ((t.getD j default).w = (t.getD i default).b)
def sqB (t : List Nd) (i : Nat) : Bool := ((reachT t).getD i false && isQ (t.getD i default).op) && (List.range t.length).any (qB t i)
theorem not_any {n : Nat} {f g : Nat → Bool} (h : ∀ i, f i = !g i) : (List.range n).all f = !(List.range n).any g := by
  induction List.range n with
  | nil => rfl
  | cons a l ih => rw [List.all_cons, List.any_cons, ih, h, Bool.not_or]
theorem suits_not (t : List Nd) (env : List Int) : suitsT t env = (!(List.range 8).any (suB t env) && !(List.range t.length).any (sqB t)) := by
  unfold suitsT
  rw [not_any (g := suB t env), not_any (g := sqB t)]
  · intro i
    unfold qOk sqB
    rw [not_any (g := qB t i)]
    · cases (reachT t).getD i false && isQ (t.getD i default).op <;> simp
    · intro j
      unfold qB
      cases ((innT t i).getD j false && decide ((t.getD j default).op = 1)) && decide ((t.getD j default).k = (t.getD i default).k) <;> simp
  · intro v
    unfold vOk suB
    rw [not_any (g := vB t env v)]
    intro i
    unfold vB
    cases (((freeR t v).getD i false && decide ((t.getD i default).op = 1)) && decide ((t.getD i default).k = (v : Int))) <;> simp
theorem su_1 {t : List Nd} {env : List Int} {v i : Nat} (hv : v < 8) (hi : i < t.length) (h : vB t env v i = true) : suitsT t env = false := by
  rw [suits_not, any_at hv (show suB t env v = true from any_at hi h)]; rfl
theorem su_2 {t : List Nd} {env : List Int} {i : Nat} (hi : i < t.length) (h : sqB t i = true) : suitsT t env = false := by
  rw [suits_not, any_at hi h]; simp
theorem su_y {t : List Nd} {env : List Int} (h1 : ∀ v, v < 8 → suB t env v = false) (h2 : ∀ i, i < t.length → sqB t i = false) : suitsT t env = true := by
  rw [suits_not, any_none h1, any_none h2]; rfl
theorem sq_y {t : List Nd} {i j : Nat} (h : ((reachT t).getD i false && isQ (t.getD i default).op) = true) (hj : j < t.length) (h2 : qB t i j = true) : sqB t i = true := by
  unfold sqB; rw [h, any_at hj h2]; rfl
theorem sq_n {t : List Nd} {i : Nat} (h : ∀ j, j < t.length → qB t i j = false) : sqB t i = false := by
  unfold sqB; rw [any_none h, Bool.and_false]
theorem suits_c (t : List Nd) (hok : okT t = true) (hl : 1 ≤ t.length ∧ t.length ≤ 80) (env : List Int) (he : env.length = 8) : Val E.P 51 [dN t, dI env] (T (suitsT t env)) := by
  refine CallsA.body (E := E) (fn := Tryz.f51) Tryz.func51 rfl fun B hB => ?_
  simp only [Tryz.ntmps51, go_sem, nl, Nat.reduceSub, Nat.reduceAdd, List.reduceReplicate]
  have hpo := okT_parts hok
  have hno := okT_nums hok
  have hrl := reachT_len t
  have hel : env.length = 8 := he
  refine Wp.seqK fun K1 hK1 => ?_
  refine rg ?_
  refine hK1 _ ?_
  clear hK1 K1
  refine Wp.seqK fun K2 hK2 => ?_
  refine Wp.seqK fun K3 hK3 => ?_
  refine rg ?_
  refine hK3 _ ?_
  clear hK3 K3
  refine Wp.block ?_
  refine Wp.loopU (α := Nat) (fun v => [.d, .k, .k, .d5, .d5, .d, .d, .v (I v), .d5, .d5, .d5, .d5, .d5, .d5, .d5, .d5, .d5, .d5, .d5, .d5, .d5, .d5, .d5, .d5, .d5, .d5, .d5]) (fun v => [some ⟨0, [.dsl true t.length (encN t)]⟩]) (fun v => v ≤ 8 ∧ ∀ u, u < v → suB t env u = false) (fun v => 8 - v) 0 (⟨Nat.zero_le _, fun j h => absurd h (Nat.not_lt_zero j)⟩) (anyS) ?_
  rintro v f4 K4 ⟨hv, hvb⟩ hK4
  simp only [updT_k, updT_d, updT_d5, updT_v, updT_nil, Nat.reduceAdd]
  refine Wp.seqK fun K5 hK5 => ?_
  refine rg ?_
  refine hK5 _ ?_
  clear hK5 K5
  refine Wp.seqK fun K6 hK6 => ?_
  refine Wp.condS (fun h16 => ?_) (fun h16 => ?_)
  · have hv8 : v < 8 := by omega
    have hfl : (freeR t v).length = t.length := reachP_len _ _
    refine Wp.skip ?_
    refine hK6 _ ?_
    clear hK6 K6
    refine Wp.seqU (α := Unit) (fun u => [.d, .k, .k, .d5, .d5, .d, .d, .k, .d5, .d5, .d5, .d5, .d5, .d5, .d5, .d5, .d5, .d5, .d5, .d5, .d5, .d5, .d5, .d5, .d5, .d5, .d5]) (fun u => [some ⟨0, [.dsl true t.length (encN t)]⟩, some ⟨0, (freeR t v).map cb⟩]) (fun u => suB t env v = false) (fun K7 hK7 => ?_) ?_
    · refine Wp.block ?_
      refine Wp.seqK fun K8 hK8 => ?_
      refine rg ?_
      refine hK8 _ ?_
      clear hK8 K8
      refine Wp.seqK fun K9 hK9 => ?_
      refine rg ?_
      refine ⟨rfl, CallK.rowA (h := freeAt_c _ (by assumption) (by omega) _) (k := ?_)⟩
      refine evd ?_
      refine hK9 _ ?_
      clear hK9 K9
      refine Wp.seqK fun K10 hK10 => ?_
      refine rg ?_
      refine hK10 _ ?_
      clear hK10 K10
      refine Wp.block ?_
      refine Wp.loopU (α := Nat) (fun i => [.d, .k, .k, .d, .d, .k, .k, .d5, .d, .d, .d, .k, .d5, .k, .k, .v (I i), .d5, .d5, .d5, .d5, .d5, .d5, .d5, .d5, .d5, .d5, .d5, .d5, .d5, .d5, .d5, .d5, .d5, .d, .d]) (fun i => [some ⟨0, [.dsl true t.length (encN t)]⟩, some ⟨0, (freeR t v).map cb⟩]) (fun i => i ≤ t.length ∧ ∀ j, j < i → vB t env v j = false) (fun i => t.length - i) 0 (⟨Nat.zero_le _, fun j h => absurd h (Nat.not_lt_zero j)⟩) (anyS) ?_
      rintro i f11 K11 ⟨hi, hib⟩ hK11
      simp only [updT_k, updT_d, updT_d5, updT_v, updT_nil, Nat.reduceAdd]
      refine Wp.seqK fun K12 hK12 => ?_
      refine rg ?_
      refine hK12 _ ?_
      clear hK12 K12
      refine Wp.seqK fun K13 hK13 => ?_
      refine Wp.condS (fun h24 => ?_) (fun h24 => ?_)
      · have hil : i < t.length := by omega
        refine Wp.skip ?_
        refine hK13 _ ?_
        clear hK13 K13
        refine Wp.seqK fun K14 hK14 => ?_
        refine Wp.block ?_
        refine Wp.seqK fun K15 hK15 => ?_
        refine rg ?_
        refine hK15 _ ?_
        clear hK15 K15
        refine Wp.seqU0 [.d, .k, .k, .d, .d, .k, .k, .d5, .d, .d, .d, .k, .d5, .k, .k, .k, .d5, .d5, .d5, .d5, .d5, .d, .d, .d, .v (T (vB t env v i)), .d5, .d5, .d5, .d5, .d5, .d5, .d5, .d5, .d5, .d5, .d5, .d, .d, .d] (fun K16 hK16 => ?_) ?_
        · refine Wp.drawI [0, 1, 2, 3, 4, 5, 6, 7] [22] (by kernel_rfl) ?_
          refine evd ?_
          refine grdA_split rfl (fun g8_5 => ?_) (fun g8_5 => ?_)
          · try simp only [decide_eq_true_eq, decide_eq_false_iff_not] at g8_5
            try refine evd ?_
            refine grdA_split rfl (fun g8_10 => ?_) (fun g8_10 => ?_)
            · try simp only [decide_eq_true_eq, decide_eq_false_iff_not] at g8_10
              try refine evd ?_
              refine grdA_split rfl (fun g8_16 => ?_) (fun g8_16 => ?_)
              · try simp only [decide_eq_true_eq, decide_eq_false_iff_not] at g8_16
                try refine evd ?_
                refine ⟨rfl, CallK.valA (h := iWordOk_c _ _) (k := ?_)⟩
                refine evd ?_
                exact hK16 _ (anyS (h := by first | rfl | (simp only [vB, g8_5, g8_10, g8_16, Bool.true_or, Bool.or_true, Bool.false_or, Bool.or_false, Bool.true_and, Bool.and_true, Bool.false_and, Bool.and_false, Bool.not_true, Bool.not_false, decide_true, decide_false, eq_self, Int.reduceEq] <;> rfl)))
              · try simp only [decide_eq_true_eq, decide_eq_false_iff_not] at g8_16
                try refine evd ?_
                exact hK16 _ (anyS (h := by first | rfl | (simp only [vB, g8_5, g8_10, g8_16, Bool.true_or, Bool.or_true, Bool.false_or, Bool.or_false, Bool.true_and, Bool.and_true, Bool.false_and, Bool.and_false, Bool.not_true, Bool.not_false, decide_true, decide_false, eq_self, Int.reduceEq] <;> rfl)))
            · try simp only [decide_eq_true_eq, decide_eq_false_iff_not] at g8_10
              try refine evd ?_
              exact hK16 _ (anyS (h := by first | rfl | (simp only [vB, g8_5, g8_10, Bool.true_or, Bool.or_true, Bool.false_or, Bool.or_false, Bool.true_and, Bool.and_true, Bool.false_and, Bool.and_false, Bool.not_true, Bool.not_false, decide_true, decide_false, eq_self, Int.reduceEq] <;> rfl)))
          · try simp only [decide_eq_true_eq, decide_eq_false_iff_not] at g8_5
            try refine evd ?_
            exact hK16 _ (anyS (h := by first | rfl | (simp only [vB, g8_5, Bool.true_or, Bool.or_true, Bool.false_or, Bool.or_false, Bool.true_and, Bool.and_true, Bool.false_and, Bool.and_false, Bool.not_true, Bool.not_false, decide_true, decide_false, eq_self, Int.reduceEq] <;> rfl)))
        rintro f16
        simp only [updT_k, updT_d, updT_d5, updT_v, updT_nil, Nat.reduceAdd]
        refine Wp.condS (fun h52 => ?_) (fun h52 => ?_)
        · have hs := su_1 hv8 hil h52
          refine Wp.seqK fun K17 hK17 => ?_
          refine rg ?_
          refine hK17 _ ?_
          clear hK17 K17
          refine Wp.ret (retV ?_)
          try simp only [List.getD_cons_zero, List.getD_cons_succ]
          rw [hs]
        · have hbi : vB t env v i = false := h52
          refine Wp.skip ?_
          try simp only [thn, inB, if_true, reduceIte]
          refine hK14 _ ?_
          clear hK14 K14
          refine Wp.keep 2 (by simp [hB]) (by simp) ?_
          refine evd ?_
          refine rg ?_
          exact hK11 (i + 1) _ ⟨by omega, ub_next hib hbi⟩ (by omega) anyS
      · have hil : i = t.length := by omega
        subst hil
        have hsv : suB t env v = false := any_none hib
        refine Wp.exit ?_
        try simp only [thn, inB, if_true, reduceIte]
        clear hK13 K13
        clear hK11 K11
        try simp only [thn, inB, if_true, reduceIte]
        exact hK7 () _ hsv anyS
    rintro _ f7 hsv
    simp only [updT_k, updT_d, updT_d5, updT_v, updT_nil, Nat.reduceAdd]
    refine Wp.keep 1 (by simp [hB]) (by simp) ?_
    refine evd ?_
    refine rg ?_
    exact hK4 (v + 1) _ ⟨by omega, ub_next hvb hsv⟩ (by omega) anyS
  · have hv8 : v = 8 := by omega
    subst hv8
    refine Wp.exit ?_
    try simp only [thn, inB, if_true, reduceIte]
    clear hK6 K6
    clear hK4 K4
    refine hK2 _ ?_
    clear hK2 K2
    refine Wp.seqK fun K18 hK18 => ?_
    refine Wp.seqK fun K19 hK19 => ?_
    refine Wp.keep 1 (by simp [hB]) (by simp) ?_
    refine evd ?_
    refine rg ?_
    refine ⟨rfl, CallK.rowA (h := reached_c _ hok (by omega)) (k := ?_)⟩
    refine evd ?_
    refine hK19 _ ?_
    clear hK19 K19
    refine Wp.block ?_
    refine Wp.loopU (α := Nat) (fun x => [.d, .d, .k, .d5, .d5, .d5, .d5, .d5, .d5, .d5, .d5, .d5, .d5, .d, .d, .d, .k, .k, .v (I x), .d5, .d5, .d5, .d5, .d5, .d5, .d5, .d5, .d5, .d5, .d, .d]) (fun x => [some ⟨0, [.dsl true t.length (encN t)]⟩, some ⟨0, (reachT t).map cb⟩]) (fun x => x ≤ t.length ∧ ∀ j, j < x → sqB t j = false) (fun x => t.length - x) 0 (⟨Nat.zero_le _, fun j h => absurd h (Nat.not_lt_zero j)⟩) (anyS) ?_
    rintro x f20 K20 ⟨hx, hqb⟩ hK20
    simp only [updT_k, updT_d, updT_d5, updT_v, updT_nil, Nat.reduceAdd]
    refine Wp.seqK fun K21 hK21 => ?_
    refine rg ?_
    refine hK21 _ ?_
    clear hK21 K21
    refine Wp.seqK fun K22 hK22 => ?_
    refine Wp.condS (fun h59 => ?_) (fun h59 => ?_)
    · have hxl : x < t.length := by omega
      refine Wp.skip ?_
      refine hK22 _ ?_
      clear hK22 K22
      refine Wp.seqU (α := Obs) (fun o => [.d, .d, .k, .d5, .d5, .d5, .d5, .d5, .d5, .d5, .d5, .d5, .d5, .d, .d, .d, .k, .k, .k, .d5, .d5, .d5, .d5, .d5, .d5, .d5, .d5, .d5, .d5, .d, .d]) (fun o => (some ⟨0, [.dsl true t.length (encN t)]⟩ :: some ⟨0, (reachT t).map cb⟩ :: o)) (fun o => sqB t x = false) (fun K23 hK23 => ?_) ?_
      · refine Wp.block ?_
        refine Wp.seqK fun K24 hK24 => ?_
        refine rg ?_
        refine hK24 _ ?_
        clear hK24 K24
        refine Wp.seqK fun K25 hK25 => ?_
        refine rg ?_
        refine hK25 _ ?_
        clear hK25 K25
        refine Wp.seqK fun K26 hK26 => ?_
        refine Wp.seqU0 [.d, .d, .k, .d5, .d, .d, .d, .k, .d5, .d5, .d5, .d5, .d5, .d5, .d5, .d5, .d, .d, .d, .d, .k, .k, .k, .d5, .d5, .d, .d, .d, .d, .v (T (!((reachT t).getD x false && isQ (t.getD x default).op))), .d5, .d5, .d5, .d5, .d5, .d5, .d5, .d, .d] (fun K27 hK27 => ?_) ?_
        · refine rg ?_
          refine grdA_split rfl (fun g16_3 => ?_) (fun g16_3 => ?_)
          · try simp only [decide_eq_true_eq, decide_eq_false_iff_not] at g16_3
            try refine evd ?_
            have e : (reachT t).getD x false = false := by simpa using g16_3
            exact hK27 _ (anyS (h := by rw [e] <;> rfl))
          · try simp only [decide_eq_true_eq, decide_eq_false_iff_not] at g16_3
            try refine evd ?_
            refine ⟨rfl, CallK.valA (h := isQuant_c _) (k := ?_)⟩
            refine evd ?_
            have e : (reachT t).getD x false = true := by simpa using g16_3
            exact hK27 _ (anyS (h := by rw [e] <;> rfl))
        rintro f27
        simp only [updT_k, updT_d, updT_d5, updT_v, updT_nil, Nat.reduceAdd]
        refine Wp.condS (fun h73 => ?_) (fun h73 => ?_)
        · have hsq : sqB t x = false := by
            unfold sqB
            rw [show ((reachT t).getD x false && isQ (t.getD x default).op) = false by simpa using h73]; rfl
          refine Wp.exit ?_
          try simp only [thn, inB, if_true, reduceIte]
          clear hK26 K26
          exact hK23 [some ⟨0, nl (t.getD x default)⟩] _ hsq anyS
        · have hrq : ((reachT t).getD x false && isQ (t.getD x default).op) = true := by simpa using h73
          have hqq := (Bool.and_eq_true _ _ ▸ hrq).2
          have hpa := hpo x hxl (t.getD x default).a (by rw [parts_q hqq]; simp)
          refine Wp.skip ?_
          refine hK26 _ ?_
          clear hK26 K26
          refine Wp.seqK fun K28 hK28 => ?_
          refine rg ?_
          refine ⟨rfl, CallK.passN [0, 2] (h := reach3_c t hok hl (t.getD x default).a.toNat (by omega) (passV t (t.getD x default).k) 88 rfl [.dsl true t.length (encN t)] (nl (t.getD x default)) rfl rfl (fun i hi => suitsFn_c t (by omega) (t.getD x default) i hi)) (ho := rfl) (ha := by rw [show ((((t.getD x default).a.toNat + 1 : Nat) : Int) - 1) = (t.getD x default).a by omega] <;> rfl) (hs := rfl) (k := ?_)⟩
          have hil2 : (innT t x).length = t.length := reachR_len _ _ _
          have hie : bQ t (passV t (t.getD x default).k) (t.getD x default).a.toNat 0 = innT t x := bQ_reach _ _ _
          simp only [hie]
          refine evd ?_
          simp only [show mB [0, 2] 3 2 0 = some (3, 0) from rfl, optO]
          refine hK28 _ ?_
          clear hK28 K28
          refine Wp.seqK fun K29 hK29 => ?_
          refine rg ?_
          refine hK29 _ ?_
          clear hK29 K29
          refine Wp.block ?_
          refine Wp.loopU (α := Nat) (fun k => [.d, .d, .k, .d5, .d, .d, .d, .k, .k, .d5, .d5, .d5, .d5, .d5, .d5, .d5, .d5, .d, .d, .d, .k, .k, .k, .d5, .d5, .d5, .d5, .k, .k, .v (I k), .d5, .d5, .d5, .d5, .d5, .d, .d, .d, .d]) (fun k => [some ⟨0, [.dsl true t.length (encN t)]⟩, some ⟨0, (reachT t).map cb⟩, some ⟨0, nl (t.getD x default)⟩, some ⟨0, (innT t x).map cb⟩]) (fun k => k ≤ t.length ∧ ∀ j, j < k → qB t x j = false) (fun k => t.length - k) 0 (⟨Nat.zero_le _, fun j h => absurd h (Nat.not_lt_zero j)⟩) (anyS) ?_
          rintro k f30 K30 ⟨hk, hkb⟩ hK30
          simp only [updT_k, updT_d, updT_d5, updT_v, updT_nil, Nat.reduceAdd]
          refine Wp.seqK fun K31 hK31 => ?_
          refine rg ?_
          refine hK31 _ ?_
          clear hK31 K31
          refine Wp.seqK fun K32 hK32 => ?_
          refine Wp.condS (fun h82 => ?_) (fun h82 => ?_)
          · have hkl : k < t.length := by omega
            refine Wp.skip ?_
            refine hK32 _ ?_
            clear hK32 K32
            refine Wp.seqK fun K33 hK33 => ?_
            refine Wp.block ?_
            refine Wp.seqK fun K34 hK34 => ?_
            refine rg ?_
            refine hK34 _ ?_
            clear hK34 K34
            refine Wp.seqU0 [.d, .d, .k, .d5, .d, .d, .d, .k, .k, .d5, .d5, .d5, .d5, .d5, .d5, .d5, .d5, .d, .d, .d, .k, .k, .k, .d5, .d5, .d5, .d5, .k, .k, .k, .d5, .d5, .d5, .d5, .d5, .d, .v (T (qB t x k)), .d, .d] (fun K35 hK35 => ?_) ?_
            · refine rg ?_
              refine grdA_split rfl (fun g21_5 => ?_) (fun g21_5 => ?_)
              · try simp only [decide_eq_true_eq, decide_eq_false_iff_not] at g21_5
                try refine evd ?_
                refine grdA_split rfl (fun g21_10 => ?_) (fun g21_10 => ?_)
                · try simp only [decide_eq_true_eq, decide_eq_false_iff_not] at g21_10
                  try refine evd ?_
                  refine grdA_split rfl (fun g21_17 => ?_) (fun g21_17 => ?_)
                  · try simp only [decide_eq_true_eq, decide_eq_false_iff_not] at g21_17
                    try refine evd ?_
                    exact hK35 _ (anyS (h := by first | rfl | (simp only [qB, g21_5, g21_10, g21_17, Bool.true_or, Bool.or_true, Bool.false_or, Bool.or_false, Bool.true_and, Bool.and_true, Bool.false_and, Bool.and_false, Bool.not_true, Bool.not_false, decide_true, decide_false, eq_self, Int.reduceEq] <;> rfl)))
                  · try simp only [decide_eq_true_eq, decide_eq_false_iff_not] at g21_17
                    try refine evd ?_
                    exact hK35 _ (anyS (h := by first | rfl | (simp only [qB, g21_5, g21_10, g21_17, Bool.true_or, Bool.or_true, Bool.false_or, Bool.or_false, Bool.true_and, Bool.and_true, Bool.false_and, Bool.and_false, Bool.not_true, Bool.not_false, decide_true, decide_false, eq_self, Int.reduceEq] <;> rfl)))
                · try simp only [decide_eq_true_eq, decide_eq_false_iff_not] at g21_10
                  try refine evd ?_
                  exact hK35 _ (anyS (h := by first | rfl | (simp only [qB, g21_5, g21_10, Bool.true_or, Bool.or_true, Bool.false_or, Bool.or_false, Bool.true_and, Bool.and_true, Bool.false_and, Bool.and_false, Bool.not_true, Bool.not_false, decide_true, decide_false, eq_self, Int.reduceEq] <;> rfl)))
              · try simp only [decide_eq_true_eq, decide_eq_false_iff_not] at g21_5
                try refine evd ?_
                exact hK35 _ (anyS (h := by first | rfl | (simp only [qB, g21_5, Bool.true_or, Bool.or_true, Bool.false_or, Bool.or_false, Bool.true_and, Bool.and_true, Bool.false_and, Bool.and_false, Bool.not_true, Bool.not_false, decide_true, decide_false, eq_self, Int.reduceEq] <;> rfl)))
            rintro f35
            simp only [updT_k, updT_d, updT_d5, updT_v, updT_nil, Nat.reduceAdd]
            refine Wp.condS (fun h108 => ?_) (fun h108 => ?_)
            · have hs := su_2 (env := env) hxl (sq_y hrq hkl h108)
              refine Wp.seqK fun K36 hK36 => ?_
              refine rg ?_
              refine hK36 _ ?_
              clear hK36 K36
              refine Wp.ret (retV ?_)
              try simp only [List.getD_cons_zero, List.getD_cons_succ]
              rw [hs]
            · have hbk : qB t x k = false := h108
              refine Wp.skip ?_
              try simp only [thn, inB, if_true, reduceIte]
              refine hK33 _ ?_
              clear hK33 K33
              refine Wp.keep 4 (by simp [hB]) (by simp) ?_
              refine evd ?_
              refine rg ?_
              exact hK30 (k + 1) _ ⟨by omega, ub_next hkb hbk⟩ (by omega) anyS
          · have hkl : k = t.length := by omega
            subst hkl
            have hsq : sqB t x = false := sq_n hkb
            refine Wp.exit ?_
            try simp only [thn, inB, if_true, reduceIte]
            clear hK32 K32
            clear hK30 K30
            try simp only [thn, inB, if_true, reduceIte]
            exact hK23 [some ⟨0, nl (t.getD x default)⟩, some ⟨0, (innT t x).map cb⟩] _ hsq anyS
      rintro o f23 hsq
      simp only [updT_k, updT_d, updT_d5, updT_v, updT_nil, Nat.reduceAdd]
      refine Wp.keep 2 (by simp [hB]) (by simp) ?_
      refine evd ?_
      refine rg ?_
      exact hK20 (x + 1) _ ⟨by omega, ub_next hqb hsq⟩ (by omega) anyS
    · have hxl : x = t.length := by omega
      subst hxl
      refine Wp.exit ?_
      try simp only [thn, inB, if_true, reduceIte]
      clear hK22 K22
      clear hK20 K20
      refine hK18 _ ?_
      clear hK18 K18
      refine Wp.seqK fun K37 hK37 => ?_
      refine rg ?_
      refine hK37 _ ?_
      clear hK37 K37
      refine Wp.ret (retV ?_)
      try simp only [List.getD_cons_zero, List.getD_cons_succ]
      rw [su_y hvb hqb]
theorem qbN_b {t : List Nd} (hok : okT t = true) : ∀ x, x ≤ t.length → 0 ≤ qbN t x ∧ qbN t x ≤ 8 * (x : Int)
  | 0, _ => by simp [qbN]
  | x + 1, hx => by
    have ih := qbN_b hok x (by omega)
    simp only [qbN]
    split
    · unfold qbit
      split
      · rename_i h
        have := quant_rule (okT_node hok (show x < t.length by omega)) h
        omega
      · omega
    · omega
theorem qBits_c (t : List Nd) (hok : okT t = true) (hl : 1 ≤ t.length ∧ t.length ≤ 80) : Val E.P 39 [dN t] (I (qbT t)) := by
  refine CallsA.body (E := E) (fn := Tryz.f39) Tryz.func39 rfl fun B hB => ?_
  simp only [Tryz.ntmps39, go_sem, nl, Nat.reduceSub, Nat.reduceAdd, List.reduceReplicate]
  have hrl := reachT_len t
  refine Wp.seqK fun K1 hK1 => ?_
  refine rg ?_
  refine hK1 _ ?_
  clear hK1 K1
  refine Wp.seqK fun K2 hK2 => ?_
  refine rg ?_
  refine hK2 _ ?_
  clear hK2 K2
  refine Wp.seqK fun K3 hK3 => ?_
  refine Wp.seqK fun K4 hK4 => ?_
  refine rg ?_
  refine ⟨rfl, CallK.rowA (h := reached_c _ hok (by omega)) (k := ?_)⟩
  refine evd ?_
  refine hK4 _ ?_
  clear hK4 K4
  refine Wp.block ?_
  refine Wp.loopU (α := Nat) (fun x => [.k, .d, .d, .v (I (qbN t x)), .d, .d, .d, .k, .k, .v (I x), .d5, .d5, .d5, .d5, .d]) (fun x => [some ⟨0, (reachT t).map cb⟩]) (fun x => x ≤ t.length) (fun x => t.length - x) 0 (Nat.zero_le _) (anyS) ?_
  rintro x f5 K5 hx hK5
  simp only [updT_k, updT_d, updT_d5, updT_v, updT_nil, Nat.reduceAdd]
  have hqn := qbN_b hok x hx
  refine Wp.seqK fun K6 hK6 => ?_
  refine rg ?_
  refine hK6 _ ?_
  clear hK6 K6
  refine Wp.seqK fun K7 hK7 => ?_
  refine Wp.condS (fun h10 => ?_) (fun h10 => ?_)
  · have hxl : x < t.length := by omega
    refine Wp.skip ?_
    refine hK7 _ ?_
    clear hK7 K7
    refine Wp.seqU0 [.k, .d, .d, .v (I (qbN t (x + 1))), .d, .d, .d, .k, .k, .k, .d5, .d5, .d5, .d5, .d] (fun K8 hK8 => ?_) ?_
    · refine Wp.block ?_
      refine Wp.seqK fun K9 hK9 => ?_
      refine rg ?_
      refine hK9 _ ?_
      clear hK9 K9
      refine Wp.seqU0 [.k, .d, .d, .k, .k, .d, .d, .k, .k, .k, .d5, .d5, .d, .v (T ((reachT t).getD x false && isQ (t.getD x default).op)), .d5, .d, .d, .d, .d] (fun K10 hK10 => ?_) ?_
      · refine rg ?_
        refine grdA_split rfl (fun g5_2 => ?_) (fun g5_2 => ?_)
        · try simp only [decide_eq_true_eq, decide_eq_false_iff_not] at g5_2
          try refine evd ?_
          refine ⟨rfl, CallK.valA (h := isQuant_c _) (k := ?_)⟩
          refine evd ?_
          exact hK10 _ (anyS (h := by first | rfl | (simp only [g5_2, Bool.true_or, Bool.or_true, Bool.false_or, Bool.or_false, Bool.true_and, Bool.and_true, Bool.false_and, Bool.and_false, Bool.not_true, Bool.not_false, decide_true, decide_false, eq_self, Int.reduceEq] <;> rfl)))
        · try simp only [decide_eq_true_eq, decide_eq_false_iff_not] at g5_2
          try refine evd ?_
          exact hK10 _ (anyS (h := by first | rfl | (simp only [g5_2, Bool.true_or, Bool.or_true, Bool.false_or, Bool.or_false, Bool.true_and, Bool.and_true, Bool.false_and, Bool.and_false, Bool.not_true, Bool.not_false, decide_true, decide_false, eq_self, Int.reduceEq] <;> rfl)))
      rintro f10
      simp only [updT_k, updT_d, updT_d5, updT_v, updT_nil, Nat.reduceAdd]
      refine Wp.condS (fun h21 => ?_) (fun h21 => ?_)
      · have hqb := quant_rule (okT_node hok hxl) h21.2
        have hs : qbN t (x + 1) = qbN t x + (t.getD x default).b := by
          show qbN t x + (if (reachT t).getD x false = true then qbit (t.getD x default) else 0) = _
          unfold qbit
          rw [if_pos h21.1, if_pos h21.2]
        refine rg ?_
        try simp only [thn, inB, if_true, reduceIte]
        exact hK8 _ (anyS (h := by rw [hs] <;> rfl))
      · have hs : qbN t (x + 1) = qbN t x := by
          show qbN t x + (if (reachT t).getD x false = true then qbit (t.getD x default) else 0) = _
          unfold qbit
          cases hr : (reachT t).getD x false with
          | false => rw [if_neg (by decide)]; omega
          | true => rw [if_pos rfl, if_neg (by rw [hr] at h21; simpa using h21)]; omega
        refine Wp.skip ?_
        try simp only [thn, inB, if_true, reduceIte]
        exact hK8 _ (anyS (h := by rw [hs] <;> rfl))
    rintro f8
    simp only [updT_k, updT_d, updT_d5, updT_v, updT_nil, Nat.reduceAdd]
    refine rg ?_
    exact hK5 (x + 1) _ (by omega) (by omega) anyS
  · have hxl : x = t.length := by omega
    subst hxl
    refine Wp.exit ?_
    try simp only [thn, inB, if_true, reduceIte]
    clear hK7 K7
    clear hK5 K5
    refine hK3 _ ?_
    clear hK3 K3
    refine Wp.seqK fun K11 hK11 => ?_
    refine rg ?_
    refine hK11 _ ?_
    clear hK11 K11
    refine Wp.ret (retV ?_)
    try simp only [List.getD_cons_zero, List.getD_cons_succ]
    rfl
end Go.Proofs.YtkdkbnacelnljaaGreat.RE

/-! What a term is worth, the program. Conditions: those that a theorem names. -/
set_option linter.unusedVariables false
set_option linter.unusedSimpArgs false
namespace Go.Proofs.YtkdkbnacelnljaaGreat.RE
open Go Go.RowKit
set_option maxRecDepth 100000
set_option maxHeartbeats 8000000
theorem vok_1 {t : List Nd} {env : List Int} (h : okT t = false) : vOkI t env = false := by unfold vOkI; rw [h]; rfl
theorem vok_2 {t : List Nd} {env : List Int} (h : ¬ env.length = 8) : vOkI t env = false := by unfold vOkI; rw [decide_eq_false h, Bool.and_false]; rfl
theorem vok_3 {t : List Nd} {env : List Int} (h : suitsT t env = false) : vOkI t env = false := by unfold vOkI; rw [h, Bool.and_false]; rfl
theorem vok_4 {t : List Nd} {env : List Int} (h1 : okT t = true) (h2 : env.length = 8) (h3 : suitsT t env = true) : vOkI t env = decide (qbT t ≤ 12) := by unfold vOkI; rw [h1, decide_eq_true h2, h3]; rfl
theorem iValue_c (t : List Nd) (env : List Int) (hlb : t.length ≤ 1048576) (heb : env.length ≤ 1048576) : Val E.P 22 [dN t, dI env] (.tup [TI (valI t env), TB (vOkI t env)]) := by
  refine CallsA.body (E := E) (fn := Tryz.f22) Tryz.func22 rfl fun B hB => ?_
  simp only [Tryz.ntmps22, go_sem, nl, Nat.reduceSub, Nat.reduceAdd, List.reduceReplicate]
  refine Wp.seqK fun K1 hK1 => ?_
  refine rg ?_
  refine hK1 _ ?_
  clear hK1 K1
  refine Wp.seqK fun K2 hK2 => ?_
  refine Wp.seqU0 [.k, .k, .d5, .d5, .d5, .d5, .d, .d, .d, .v (T (!vOkI t env)), .d5, .d5, .d5, .d] (fun K3 hK3 => ?_) ?_
  · refine rg ?_
    refine ⟨rfl, CallK.valA (h := iTermOk_c _) (k := ?_)⟩
    refine evd ?_
    refine grdA_split rfl (fun g1_4 => ?_) (fun g1_4 => ?_)
    · try simp only [decide_eq_true_eq, decide_eq_false_iff_not] at g1_4
      try refine evd ?_
      have e := vok_1 (env := env) (show okT t = false by simpa using g1_4)
      exact hK3 _ (anyS (h := by rw [e] <;> rfl))
    · try simp only [decide_eq_true_eq, decide_eq_false_iff_not] at g1_4
      have hok : okT t = true := by simpa using g1_4
      have hl := okT_len hok
      try refine evd ?_
      refine grdA_split rfl (fun g1_9 => ?_) (fun g1_9 => ?_)
      · try simp only [decide_eq_true_eq, decide_eq_false_iff_not] at g1_9
        have h9 : ¬ ((env.length : Int) = 8) := by simpa using g1_9
        try refine evd ?_
        have e := vok_2 (t := t) (env := env) (by omega)
        exact hK3 _ (anyS (h := by rw [e] <;> rfl))
      · try simp only [decide_eq_true_eq, decide_eq_false_iff_not] at g1_9
        have h9 : (env.length : Int) = 8 := by simpa using g1_9
        have hel : env.length = 8 := by omega
        try refine evd ?_
        refine ⟨rfl, CallK.valA (h := suits_c _ hok (by omega) _ hel) (k := ?_)⟩
        refine evd ?_
        refine grdA_split rfl (fun g1_15 => ?_) (fun g1_15 => ?_)
        · try simp only [decide_eq_true_eq, decide_eq_false_iff_not] at g1_15
          try refine evd ?_
          have e := vok_3 (show suitsT t env = false by simpa using g1_15)
          exact hK3 _ (anyS (h := by rw [e] <;> rfl))
        · try simp only [decide_eq_true_eq, decide_eq_false_iff_not] at g1_15
          try refine evd ?_
          refine ⟨rfl, CallK.valA (h := qBits_c _ hok (by omega)) (k := ?_)⟩
          refine evd ?_
          have e := vok_4 hok hel (show suitsT t env = true by simpa using g1_15)
          have e2 : (!decide (qbT t ≤ 12)) = decide (12 < qbT t) := by rw [← decide_not, decide_eq_decide]; omega
          exact hK3 _ (anyS (h := by rw [e, e2] <;> rfl))
  rintro f3
  simp only [updT_k, updT_d, updT_d5, updT_v, updT_nil, Nat.reduceAdd]
  refine Wp.condS (fun h25 => ?_) (fun h25 => ?_)
  · have hv : vOkI t env = false := by simpa using h25
    have hz := val_no hv
    refine Wp.seqK fun K4 hK4 => ?_
    refine rg ?_
    refine hK4 _ ?_
    clear hK4 K4
    refine Wp.ret (retV ?_)
    try simp only [List.getD_cons_zero, List.getD_cons_succ]
    rw [hz, hv] <;> rfl
  · have hv : vOkI t env = true := by simpa using h25
    have ha := val_at hv
    have hok := ha.1
    have hel := ha.2.1
    have hl := okT_len hok
    refine Wp.skip ?_
    refine hK2 _ ?_
    clear hK2 K2
    refine Wp.seqK fun K5 hK5 => ?_
    refine rg ?_
    refine hK5 _ ?_
    clear hK5 K5
    refine Wp.seqK fun K6 hK6 => ?_
    refine rg ?_
    refine hK6 _ ?_
    clear hK6 K6
    refine Wp.seqK fun K7 hK7 => ?_
    have ec : List.take (env.length.min (((8 : Nat) : Int) - 0).toNat) (env.map ci) ++ List.drop (1 + min (env.length.min (((8 : Nat) : Int) - 0).toNat) env.length) [LV.dsl true t.length (encN t), LV.sc (Value.int IntKind.i64 0), LV.sc (Value.int IntKind.i64 0), LV.sc (Value.int IntKind.i64 0), LV.sc (Value.int IntKind.i64 0), LV.sc (Value.int IntKind.i64 0), LV.sc (Value.int IntKind.i64 0), LV.sc (Value.int IntKind.i64 0), LV.sc (Value.int IntKind.i64 0)] = env.map ci := by
      rw [show env.length.min (((8 : Nat) : Int) - 0).toNat = 8 by rw [hel]; rfl, hel, List.take_of_length_le (by simp [hel])]
      exact List.append_nil _
    rw [ec]
    refine rg ?_
    refine ⟨rfl, CallK.handA 1 (o1 := [some ⟨0, .dsl true t.length (encN t) :: env.map ci⟩]) (new := [some ⟨0, (List.replicate t.length (-1)).map ci⟩]) (blank_c t env hel (by omega)) ?_⟩
    refine evd ?_
    refine ⟨rfl, CallK.give2E 0 1 (value_c t hok hl.2 (t.length - 1) (by omega) env _ hel (kn_new t env)) (fun r ob1 hq1 => ?_) rfl rfl (vr_still _ _) (ci_still _) (ha := by rw [show ((t.length - 1 : Nat) : Int) = (t.length : Int) - 1 by omega] <;> rfl)⟩
    obtain ⟨rfl, kn2, hk2, rfl⟩ := hq1
    refine ⟨_, _, rfl, vr_still _ _, ci_still _, rfl, ?_⟩
    refine evd ?_
    refine hK7 _ ?_
    clear hK7 K7
    refine Wp.ret (retV ?_)
    try simp only [List.getD_cons_zero, List.getD_cons_succ]
    rw [ha.2.2.2, hv] <;> rfl
theorem isen_ok {t : List Nd} (h : isenT t = true) : okT t = true := by
  unfold isenT at h
  rw [Bool.and_eq_true] at h
  exact sentA_ok h.1
theorem iHolds_c (t : List Nd) (hlb : t.length ≤ 1048576) : Val E.P 16 [dN t] (.tup [TI (holdsI t).1, TB (holdsI t).2]) := by
  refine CallsA.body (E := E) (fn := Tryz.f16) Tryz.func16 rfl fun B hB => ?_
  simp only [Tryz.ntmps16, go_sem, nl, Nat.reduceSub, Nat.reduceAdd, List.reduceReplicate]
  refine Wp.seqK fun K1 hK1 => ?_
  refine rg ?_
  refine hK1 _ ?_
  clear hK1 K1
  refine Wp.seqK fun K2 hK2 => ?_
  refine Wp.seqU0 [.k, .d5, .d5, .v (T (!(isenT t && decide (qbT t ≤ 12)))), .d5] (fun K3 hK3 => ?_) ?_
  · refine rg ?_
    refine ⟨rfl, CallK.valA (h := iSentence_c _ hlb) (k := ?_)⟩
    refine evd ?_
    refine grdA_split rfl (fun g1_4 => ?_) (fun g1_4 => ?_)
    · try simp only [decide_eq_true_eq, decide_eq_false_iff_not] at g1_4
      try refine evd ?_
      have e : isenT t = false := by simpa using g1_4
      exact hK3 _ (anyS (h := by rw [e] <;> rfl))
    · try simp only [decide_eq_true_eq, decide_eq_false_iff_not] at g1_4
      have hs0 : isenT t = true := by simpa using g1_4
      try refine evd ?_
      refine ⟨rfl, CallK.valA (h := qBits_c _ (isen_ok hs0) (okT_len (isen_ok hs0))) (k := ?_)⟩
      refine evd ?_
      have e2 : (!decide (qbT t ≤ 12)) = decide (12 < qbT t) := by rw [← decide_not, decide_eq_decide]; omega
      exact hK3 _ (anyS (h := by rw [hs0, Bool.true_and, e2] <;> rfl))
  rintro f3
  simp only [updT_k, updT_d, updT_d5, updT_v, updT_nil, Nat.reduceAdd]
  refine Wp.condS (fun h11 => ?_) (fun h11 => ?_)
  · have e : holdsI t = (0, false) := if_neg (by simpa using h11)
    refine Wp.seqK fun K4 hK4 => ?_
    refine rg ?_
    refine hK4 _ ?_
    clear hK4 K4
    refine Wp.ret (retV ?_)
    try simp only [List.getD_cons_zero, List.getD_cons_succ]
    rw [e] <;> rfl
  · have e : holdsI t = (valI t zer8, vOkI t zer8) := if_pos (by simpa using h11)
    refine Wp.skip ?_
    refine hK2 _ ?_
    clear hK2 K2
    refine Wp.seqK fun K5 hK5 => ?_
    refine rg ?_
    refine ⟨rfl, CallK.valA (h := iValue_c t zer8 (by omega) (by decide)) (k := ?_)⟩
    refine evd ?_
    refine hK5 _ ?_
    clear hK5 K5
    refine Wp.ret (retV ?_)
    try simp only [List.getD_cons_zero, List.getD_cons_succ]
    rw [e] <;> rfl
end Go.Proofs.YtkdkbnacelnljaaGreat.RE

/-! Constants put together, the reference and the law. Conditions: those that a theorem names. -/
set_option linter.unusedVariables false
set_option linter.unusedSimpArgs false
namespace Go.Proofs.YtkdkbnacelnljaaGreat.RE
open Go Go.RowKit
set_option maxRecDepth 100000
set_option maxHeartbeats 8000000

def pS (t : List Nd) : Nat → List Nd
  | 0 => []
  | x + 1 => pS t x ++ [(foldNode (pS t x) (t.getD x default)).1]
theorem pS_len (t : List Nd) : ∀ x, (pS t x).length = x
  | 0 => rfl
  | x + 1 => by simp [pS, pS_len t x]
attribute [go_sem] pS_len
end Go.Proofs.YtkdkbnacelnljaaGreat.RE

/-! Terms whose constants are put together, plain: value, size, level, and once more. Conditions: those that a theorem names. -/
set_option linter.unusedVariables false
set_option linter.unusedSimpArgs false
namespace Go.Proofs.YtkdkbnacelnljaaGreat.RE
open Go Go.RowKit
set_option maxRecDepth 100000
set_option maxHeartbeats 8000000
theorem qbit_pos {t : List Nd} (hok : okT t = true) {i : Nat} (hi : i < t.length) : 0 ≤ qbit (t.getD i default) := by
  unfold qbit
  split
  · rename_i h
    have := quant_rule (okT_node hok hi) h
    omega
  · exact Int.le_refl _
/-! ### Once more -/
/-! ### Levels -/
def lev (t : List Nd) (i : Nat) : Int := (levL t (i + 1)).getD i 0
theorem lvl_at (t : List Nd) : ∀ {x i : Nat}, i < x → (levL t x).getD i 0 = lev t i
  | x + 1, i, h => by
    rcases Nat.lt_succ_iff_lt_or_eq.1 h with h1 | h1
    · show (levL t x ++ _).getD i 0 = _
      rw [List.getD_eq_getElem?_getD, List.getElem?_append_left (by rw [levL_len]; exact h1), ← List.getD_eq_getElem?_getD, lvl_at t h1]
    · subst h1; rfl
theorem mx_le {f g : Int → Int} : ∀ (ps : List Int) (a b : Int), a ≤ b → (∀ p ∈ ps, f p ≤ g p) → ps.foldl (fun m p => max m (f p)) a ≤ ps.foldl (fun m p => max m (g p)) b
  | [], a, b, h, _ => h
  | p :: ps, a, b, h, h2 => mx_le ps _ _ (show max a (f p) ≤ max b (g p) by have := h2 p List.mem_cons_self; omega) fun q hq => h2 q (List.mem_cons_of_mem _ hq)
theorem lev_eq {t : List Nd} (hP : PartsOk t) {i : Nat} (hi : i < t.length) : lev t i = (parts (t.getD i default)).foldl (fun m p => max m (lev t p.toNat)) 0 + 1 := by
  have e : lev t i = mxL (levL t i) (parts (t.getD i default)) + 1 := by
    unfold lev
    show (levL t i ++ [mxL (levL t i) (parts (t.getD i default)) + 1]).getD i 0 = _
    rw [List.getD_eq_getElem?_getD, List.getElem?_append_right (by rw [levL_len]; exact Nat.le_refl _), levL_len, Nat.sub_self]; rfl
  rw [e]
  congr 1
  have k : ∀ p ∈ parts (t.getD i default), (levL t i).getD p.toNat 0 = lev t p.toNat := fun p hp => by
    have := hP i hi p hp
    exact lvl_at t (by omega)
  unfold mxL
  apply Int.le_antisymm
  · exact mx_le _ _ _ (Int.le_refl _) fun p hp => by rw [k p hp]; exact Int.le_refl _
  · exact mx_le _ _ _ (Int.le_refl _) fun p hp => by rw [k p hp]; exact Int.le_refl _
theorem levelT_at {t : List Nd} (hok : okT t = true) : levelT t = lev t (t.length - 1) := by
  have h0 := (okT_len hok).1
  unfold levelT
  rw [if_pos hok]
  exact lvl_at t (by omega)
end Go.Proofs.YtkdkbnacelnljaaGreat.RE

/-! Variables under a new number, plain: a sentence stays what it is worth. Conditions: those that a theorem names. -/
set_option linter.unusedVariables false
set_option linter.unusedSimpArgs false
namespace Go.Proofs.YtkdkbnacelnljaaGreat.RE
open Go Go.RowKit
set_option maxRecDepth 100000
set_option maxHeartbeats 8000000
def turnN (v u : Int) (n : Nd) : Nd := if (named n && decide (n.k = v)) = true then ⟨n.op, n.w, u, n.a, n.b, n.c⟩ else n
def turnL (t : List Nd) (v u : Int) : List Nd := t.map (turnN v u)
def rnmT (t : List Nd) (v u : Int) : List Nd × Bool := if (okT t && (decide (0 ≤ u) && decide (u ≤ 7)) && !(!decide (u = v) && numB t u)) = true then (turnL t v u, true) else ([], false)
theorem turnL_len (t : List Nd) (v u : Int) : (turnL t v u).length = t.length := by simp [turnL]
theorem turnL_at {t : List Nd} {v u : Int} {i : Nat} (h : i < t.length) : (turnL t v u).getD i default = turnN v u (t.getD i default) := by
  unfold turnL
  rw [List.getD_eq_getElem?_getD, List.getElem?_map, List.getElem?_eq_getElem h, Option.map_some, Option.getD_some, getD_at (d := default) h]
theorem turn_op (v u : Int) (n : Nd) : (turnN v u n).op = n.op ∧ (turnN v u n).w = n.w ∧ (turnN v u n).a = n.a ∧ (turnN v u n).b = n.b ∧ (turnN v u n).c = n.c := by
  unfold turnN
  split <;> exact ⟨rfl, rfl, rfl, rfl, rfl⟩
theorem turn_k (v u : Int) (n : Nd) : (turnN v u n).k = if (named n && decide (n.k = v)) = true then u else n.k := by
  unfold turnN
  split <;> rfl
def fK (v u k : Int) : Int := if k = v then u else k
theorem turn_kn {v u : Int} {n : Nd} (h : named n = true) : (turnN v u n).k = fK v u n.k := by
  rw [turn_k, h, Bool.true_and]
  unfold fK
  by_cases e : n.k = v
  · rw [if_pos (decide_eq_true e), if_pos e]
  · rw [if_neg (by simpa using e), if_neg e]
theorem turn_no {v u : Int} {n : Nd} (h : named n = false) : turnN v u n = n := by
  unfold turnN
  rw [h]; rfl
theorem parts_op {n m : Nd} (h1 : n.op = m.op) (h2 : n.a = m.a) (h3 : n.b = m.b) (h4 : n.c = m.c) : parts n = parts m := by
  unfold parts
  rw [h1, h2, h3, h4]
theorem turn_parts (v u : Int) (n : Nd) : parts (turnN v u n) = parts n := parts_op (turn_op v u n).1 (turn_op v u n).2.2.1 (turn_op v u n).2.2.2.1 (turn_op v u n).2.2.2.2
theorem named_of {n : Nd} (h : n.op = 1) : named n = true := by unfold named; rw [h]; rfl
theorem named_q' {n : Nd} (h : isQ n.op = true) : named n = true := by unfold named; rw [h]; simp
/-- What a renaming asks: the new number stands nowhere. -/
structure Rn (t : List Nd) (v u : Int) : Prop where
  ok : okT t = true
  u0 : 0 ≤ u
  u7 : u ≤ 7
  new : ∀ i, i < t.length → named (t.getD i default) = true → (t.getD i default).k ≠ u
theorem numB_no {t : List Nd} {u : Int} (h : numB t u = false) : ∀ i, i < t.length → named (t.getD i default) = true → (t.getD i default).k ≠ u := by
  intro i hi hn hk
  have : numB t u = true := by
    unfold numB
    rw [List.any_eq_true]
    refine ⟨t.getD i default, mem_gV hi, ?_⟩
    unfold numF
    rw [hn, decide_eq_true hk]; rfl
  rw [h] at this; cases this
section
variable {t : List Nd} {v u : Int}
theorem Rn.inj (h : Rn t v u) {i j : Nat} (hi : i < t.length) (hj : j < t.length) (ni : named (t.getD i default) = true) (nj : named (t.getD j default) = true) : fK v u (t.getD i default).k = fK v u (t.getD j default).k ↔ (t.getD i default).k = (t.getD j default).k := by
  have h1 := h.new i hi ni
  have h2 := h.new j hj nj
  unfold fK
  constructor
  · intro e
    split at e <;> split at e <;> omega
  · intro e; rw [e]
theorem Rn.k (h : Rn t v u) {i : Nat} (hi : i < t.length) (hn : named (t.getD i default) = true) : (0 ≤ (t.getD i default).k ∧ (t.getD i default).k < 8) ∧ 0 ≤ fK v u (t.getD i default).k ∧ fK v u (t.getD i default).k < 8 := by
  have hk : 0 ≤ (t.getD i default).k ∧ (t.getD i default).k < 8 := by
    unfold named at hn
    rw [Bool.or_eq_true, decide_eq_true_eq] at hn
    rcases hn with e | e
    · have := var_rule (okT_node h.ok hi) e; omega
    · have := quant_rule (okT_node h.ok hi) e; omega
  have := h.u0
  have := h.u7
  refine ⟨hk, ?_⟩
  unfold fK
  split <;> omega
theorem rule_turn {n : Nd} {w : List Int} (h : rule n w = true) (hu : 0 ≤ u ∧ u ≤ 7) : rule (turnN v u n) w = true := by
  cases hn : named n with
  | false => rw [turn_no hn]; exact h
  | true =>
    obtain ⟨e1, e2, e3, e4, e5⟩ := turn_op v u n
    have ek := turn_kn (v := v) (u := u) hn
    have hf : 0 ≤ n.k ∧ n.k ≤ 7 → 0 ≤ fK v u n.k ∧ fK v u n.k ≤ 7 := fun hk => by
      unfold fK
      split <;> omega
    unfold named at hn
    rw [Bool.or_eq_true, decide_eq_true_eq] at hn
    rcases hn with hn | hn
    · unfold rule at h ⊢
      rw [e1]
      rw [if_neg (by omega), if_pos hn] at h ⊢
      rw [e3, e4, e5, ek]
      simp only [Bool.and_eq_true, decide_eq_true_eq] at h ⊢
      have := hf (by omega)
      omega
    · have ho : n.op = 19 ∨ n.op = 20 := by unfold isQ at hn; simpa using hn
      rw [rule_q ho] at h
      rw [rule_q (by rw [e1]; exact ho), ek, e2, e4, e5]
      simp only [Bool.and_eq_true, decide_eq_true_eq] at h ⊢
      have := hf (by omega)
      omega
theorem Rn.wat (t : List Nd) (v u : Int) (p : Int) : wAt (turnL t v u) p = wAt t p := by
  unfold wAt
  rcases Nat.lt_or_ge p.toNat t.length with h | h
  · rw [turnL_at h]; exact (turn_op v u _).2.1
  · rw [List.getD_eq_getElem?_getD, List.getD_eq_getElem?_getD, List.getElem?_eq_none (by rw [turnL_len]; exact h), List.getElem?_eq_none h]
theorem Rn.okr (h : Rn t v u) : okT (turnL t v u) = true := by
  have hl := okT_len h.ok
  unfold okT
  rw [Bool.and_eq_true, Bool.and_eq_true, decide_eq_true_eq, decide_eq_true_eq, List.all_eq_true, turnL_len]
  refine ⟨⟨by omega, by omega⟩, fun i hi => ?_⟩
  have hi : i < t.length := by simpa using hi
  have hn := okT_node h.ok hi
  unfold sRight
  simp only [Bool.and_eq_true, decide_eq_true_eq, List.all_eq_true]
  rw [turnL_at hi, turn_parts]
  refine ⟨hn.pts, by rw [(turn_op v u _).2.1]; exact hn.w, ?_⟩
  have : (parts (t.getD i default)).map (wAt (turnL t v u)) = (parts (t.getD i default)).map (wAt t) := List.map_congr_left fun p _ => Rn.wat t v u p
  rw [this]
  exact rule_turn hn.rul ⟨h.u0, h.u7⟩
theorem Rn.pth (hP : PartsOk t) {ps : Nat → Bool} {i j : Nat} (h : Pth t ps i j) : i < t.length → Pth (turnL t v u) ps i j := by
  induction h with
  | here => exact fun _ => .here
  | @step i j p a b _ ih =>
    intro hi
    have := hP i hi p b
    exact .step a (by rw [turnL_at hi, turn_parts]; exact b) (ih (by omega))
theorem Rn.pth' (hP : PartsOk t) {ps : Nat → Bool} {i j : Nat} (h : Pth (turnL t v u) ps i j) : i < t.length → Pth t ps i j := by
  induction h with
  | here => exact fun _ => .here
  | @step i j p a b _ ih =>
    intro hi
    rw [turnL_at hi, turn_parts] at b
    have := hP i hi p b
    exact .step a b (ih (by omega))
theorem Rn.reach (h : Rn t v u) (x : Nat) : (reachT (turnL t v u)).getD x false = (reachT t).getD x false := by
  have hP := okT_parts h.ok
  have h0 := (okT_len h.ok).1
  rw [Bool.eq_iff_iff]
  have e1 := rch_iff h.okr (i := x)
  have e2 := rch_iff h.ok (i := x)
  unfold RchT at e1 e2
  rw [e1, e2, turnL_len]
  exact ⟨fun h => Rn.pth' hP h (by omega), fun h => Rn.pth hP h (by omega)⟩
theorem Rn.pass (h : Rn t v u) {j : Nat} (hj : j < t.length) (nj : named (t.getD j default) = true) (i : Nat) : passV (turnL t v u) (fK v u (t.getD j default).k) i = passV t (t.getD j default).k i := by
  unfold passV
  rcases Nat.lt_or_ge i t.length with hi | hi
  · rw [turnL_at hi, (turn_op v u _).1]
    cases hq : isQ (t.getD i default).op with
    | false => rfl
    | true =>
      rw [turn_kn (named_q' hq)]
      congr 1
      congr 1
      rw [decide_eq_decide]
      exact h.inj hi hj (named_q' hq) nj
  · have e : ∀ l : List Nd, l.length ≤ i → l.getD i default = default := fun l h => by
      rw [List.getD_eq_getElem?_getD, List.getElem?_eq_none h]; rfl
    rw [e _ hi, e _ (by rw [turnL_len]; exact hi)]
    rfl
theorem rep_at (x : Nat) : (List.replicate 8 (0 : Int)).getD x 0 = 0 := by
  simp only [List.getD_eq_getElem?_getD, List.getElem?_replicate]
  split <;> rfl
theorem Rn.uses (h : Rn t v u) : ∀ x, x ≤ t.length → uN (turnL t v u) x = uN t x
  | 0, _ => by simp only [uN, turnL_len]
  | x + 1, hx => by
    simp only [uN]
    rw [h.reach, h.uses x (by omega), turnL_at (by omega), turn_parts]
theorem Rn.hi (h : Rn t v u) : ∀ x, x ≤ t.length → hI (turnL t v u) x = hI t x
  | 0, _ => rfl
  | x + 1, hx => by
    have hP := okT_parts h.ok x (by omega)
    simp only [hI]
    rw [h.reach, h.hi x (by omega), turnL_at (by omega), turn_parts]
    congr 3
    unfold hasI
    refine any_cong fun p hp => ?_
    have := hP p hp
    rw [turnL_at (by omega), (turn_op v u _).1]
theorem Rn.hasi (h : Rn t v u) {x : Nat} (hx : x < t.length) : hasI (turnL t v u) (hI t x) (parts (t.getD x default)) = hasI t (hI t x) (parts (t.getD x default)) := by
  have hP := okT_parts h.ok x hx
  unfold hasI
  refine any_cong fun p hp => ?_
  have := hP p hp
  rw [turnL_at (by omega), (turn_op v u _).1]
theorem Rn.wn (h : Rn t v u) : ∀ x, x ≤ t.length → ∀ j, j < t.length → named (t.getD j default) = true → (wN (turnL t v u) x).getD (fK v u (t.getD j default).k).toNat 0 = (wN t x).getD (t.getD j default).k.toNat 0
  | 0, _, j, hj, nj => by
    show (List.replicate 8 (0 : Int)).getD _ 0 = (List.replicate 8 (0 : Int)).getD _ 0
    rw [rep_at, rep_at]
  | x + 1, hx, j, hj, nj => by
    have ih := h.wn x (by omega) j hj nj
    have hkj := h.k hj nj
    have hlt : x < t.length := by omega
    simp only [wN]
    rw [h.reach, turnL_at hlt, (turn_op v u _).1, (turn_op v u _).2.2.2.1]
    by_cases hq : ((reachT t).getD x false && isQ (t.getD x default).op) = true
    · rw [if_pos hq, if_pos hq]
      have nq := named_q' ((Bool.and_eq_true _ _).mp hq).2
      have hkx := h.k hlt nq
      rw [turn_kn nq]
      have l1 := wN_len (turnL t v u) x
      have l2 := wN_len t x
      by_cases e : (t.getD x default).k = (t.getD j default).k
      · have e' := (h.inj hlt hj nq nj).2 e
        rw [e', e, getD_set_eq (by omega), getD_set_eq (by omega)]
      · have e' : ¬ fK v u (t.getD x default).k = fK v u (t.getD j default).k := fun e2 => e ((h.inj hlt hj nq nj).1 e2)
        rw [getD_set_ne (by omega), getD_set_ne (by omega)]
        exact ih
    · rw [if_neg hq, if_neg hq]
      exact ih
theorem Rn.twice (h : Rn t v u) {x : Nat} (hx : x < t.length) : twice (turnL t v u) x = twice t x := by
  unfold RE.twice
  rw [h.reach, turnL_at hx, (turn_op v u _).1]
  cases hq : isQ (t.getD x default).op with
  | false => simp
  | true => rw [turn_kn (named_q' hq), h.wn x (by omega) x hx (named_q' hq)]
theorem Rn.badV (h : Rn t v u) {x : Nat} (hx : x < t.length) : badV (turnL t v u) x = badV t x := by
  unfold RE.badV
  rw [h.reach, turnL_at hx, (turn_op v u _).1, (turn_op v u _).2.1]
  by_cases h1 : (t.getD x default).op = 1
  · rw [turn_kn (named_of h1), turnL_len, h.wn t.length (Nat.le_refl _) x hx (named_of h1)]
  · rw [decide_eq_false h1]; simp
theorem Rn.badI (h : Rn t v u) {x : Nat} (hx : x < t.length) : badI (turnL t v u) x = badI t x := by
  unfold RE.badI
  rw [h.reach, h.hi x (by omega), turnL_at hx, turn_parts, h.hasi hx, (turn_op v u _).1]
theorem Rn.badQ (h : Rn t v u) {x : Nat} (hx : x < t.length) : badQ (turnL t v u) x = badQ t x := by
  unfold RE.badQ
  rw [h.reach, turnL_at hx, (turn_op v u _).1, turnL_len, h.uses t.length (Nat.le_refl _)]
theorem range_cong {n : Nat} {f g : Nat → Bool} (h : ∀ x, x < n → f x = g x) : (List.range n).any f = (List.range n).any g := any_cong fun x hx => h x (List.mem_range.1 hx)
end
/-! ### Free variables, none -/
theorem freeL_none {t : List Nd} (hok : okT t = true) : decide (0 < (freeL t).length) = false ↔ ∀ (x : Nat) (j : Nat), x < 8 → ¬ FreeV t x j := by
  have e : ∀ x : Nat, x < 8 → (rowF t (t.length - 1)).getD x false = decide (0 ≤ placeT t x (freeR t x)) := fun x hx => by
    rw [← free_place hok]
    simp [rowF, List.getD_eq_getElem?_getD, hx]
  have hf : freeL t = varsL (rowF t (t.length - 1)) 8 := if_pos hok
  rw [decide_eq_false_iff_not, hf]
  unfold varsL
  rw [List.length_map]
  constructor
  · intro h x j hx hj
    refine h (List.length_pos_of_mem (a := x) (List.mem_filter.2 ⟨List.mem_range.2 hx, ?_⟩))
    rw [e x hx, decide_eq_true (plc_has hok hj)]
  · intro h h2
    obtain ⟨x, hx⟩ := List.exists_mem_of_length_pos h2
    obtain ⟨h3, h4⟩ := List.mem_filter.1 hx
    have hx8 := List.mem_range.1 h3
    rw [e x hx8, decide_eq_true_eq] at h4
    exact h x _ hx8 (plc_yes hok h4)
theorem sent_parts {t : List Nd} (h : isenT t = true) : okT t = true ∧ (t.getD (t.length - 1) default).w = 1 ∧ (∀ (x : Nat) (j : Nat), x < 8 → ¬ FreeV t x j) ∧ (∀ x, x < t.length → twice t x = false) ∧ ∀ x, x < t.length → badV t x = false := by
  unfold isenT sentA szT at h
  simp only [Bool.and_eq_true, Bool.not_eq_true', decide_eq_true_eq] at h
  exact ⟨h.1.1.1, h.1.1.2, (freeL_none h.1.1.1).1 h.1.2, fun x hx => any_no h.2.1.1 hx, fun x hx => any_no h.2.1.2 hx⟩
/-- In a sentence each quantifier's width is what is told of its number. -/
theorem wn_q {t : List Nd} (hok : okT t = true) (htw : ∀ x, x < t.length → twice t x = false) {q : Nat} (hq : q < t.length) (hr : (reachT t).getD q false = true) (hi : isQ (t.getD q default).op = true) : ∀ y, q < y → y ≤ t.length → (wN t y).getD (t.getD q default).k.toNat 0 = (t.getD q default).b
  | y + 1, h1, h2 => by
    have hqr := quant_rule (okT_node hok hq) hi
    have l2 := wN_len t y
    rcases Nat.lt_succ_iff_lt_or_eq.1 h1 with h | h
    · have ih := wn_q hok htw hq hr hi y h (by omega)
      simp only [wN]
      split
      · rename_i hy
        have hy' := (Bool.and_eq_true _ _).mp hy
        have hyr := quant_rule (okT_node hok (show y < t.length by omega)) hy'.2
        have ht := htw y (by omega)
        unfold twice at ht
        rw [hy, Bool.true_and] at ht
        have hz : (wN t y).getD (t.getD y default).k.toNat 0 = 0 := by simpa using ht
        by_cases e : (t.getD y default).k.toNat = (t.getD q default).k.toNat
        · rw [e] at hz; omega
        · rw [getD_set_ne e]; exact ih
      · exact ih
    · subst h
      simp only [wN]
      rw [if_pos (by rw [hr, hi]; rfl), getD_set_eq (by omega)]
theorem sent_fit {t : List Nd} (h : isenT t = true) (e : List Int) : Fit t e (t.length - 1) := by
  obtain ⟨hok, _, hfr, htw, hbv⟩ := sent_parts h
  have hP := okT_parts hok
  have h0 := (okT_len hok).1
  refine ⟨fun j hj ho => ?_, fun q hq hqq j hj ho hk => ?_⟩
  · exfalso
    have hl := hj.le hP (by omega)
    have hv := var_rule (okT_node hok (show j < t.length by omega)) ho
    have hkk : (((t.getD j default).k.toNat : Nat) : Int) = (t.getD j default).k := by omega
    exact hfr (t.getD j default).k.toNat j (by omega) ⟨by rw [hkk]; exact hj, ho, by rw [hkk]⟩
  · have hl := hq.le hP (by omega)
    have hpa := hP q (by omega) (t.getD q default).a (by rw [parts_q hqq]; simp)
    have hl2 := hj.le hP (by omega)
    have rq := (rch_iff hok).2 hq
    have rj : (reachT t).getD j false = true := (rch_iff hok).2 (hq.trans (.step rfl (by rw [parts_q hqq]; simp) hj.all))
    have hb := hbv j (by omega)
    unfold badV at hb
    rw [rj, decide_eq_true ho, Bool.true_and, Bool.true_and] at hb
    have hw : (t.getD j default).w = (wN t t.length).getD (t.getD j default).k.toNat 0 := by simpa using hb
    rw [hw, hk]
    exact wn_q hok htw (by omega) rq hqq t.length (by omega) (Nat.le_refl _)
section
variable {t : List Nd} {v u : Int}
theorem Rn.sen (h : Rn t v u) (hs : isenT t = true) : isenT (turnL t v u) = true := by
  obtain ⟨hok, hw, hfr, htw, hbv⟩ := sent_parts hs
  have h0 := (okT_len hok).1
  have hP := okT_parts hok
  unfold isenT sentA szT owT at hs ⊢
  simp only [Bool.and_eq_true, Bool.not_eq_true', decide_eq_true_eq] at hs ⊢
  rw [turnL_len, range_cong fun x hx => h.twice hx, range_cong fun x hx => h.badV hx, range_cong fun x hx => h.badI hx, range_cong fun x hx => h.badQ hx]
  refine ⟨⟨⟨h.okr, ?_⟩, (freeL_none h.okr).2 fun x j hx hj => ?_⟩, hs.2⟩
  · rw [turnL_at (by omega), (turn_op v u _).2.1]; exact hw
  · have hp := hj.p
    rw [turnL_len] at hp
    have hl := (Rn.pth' hP hp (by omega)).le hP (by omega)
    have hjl : j < t.length := by omega
    have ho := hj.o
    have hk := hj.k
    rw [turnL_at hjl] at ho hk
    rw [(turn_op v u _).1] at ho
    have nj := named_of ho
    rw [turn_kn nj] at hk
    have hkk := h.k hjl nj
    refine hfr (t.getD j default).k.toNat j (by omega) ⟨?_, ho, by omega⟩
    rw [show (((t.getD j default).k.toNat : Nat) : Int) = (t.getD j default).k by omega]
    have e : passV (turnL t v u) (x : Int) = passV t (t.getD j default).k := by
      funext i
      rw [← hk]
      exact h.pass hjl nj i
    rw [e] at hp
    exact Rn.pth' hP hp (by omega)
theorem Rn.qb (h : Rn t v u) : qbT (turnL t v u) = qbT t := by
  have key : ∀ x, x ≤ t.length → qbN (turnL t v u) x = qbN t x := by
    intro x
    induction x with
    | zero => exact fun _ => rfl
    | succ x ih =>
      intro hx
      simp only [qbN]
      rw [ih (by omega), h.reach, turnL_at (by omega)]
      unfold qbit
      rw [(turn_op v u _).1, (turn_op v u _).2.2.2.1]
  unfold qbT
  rw [turnL_len]
  exact key _ (Nat.le_refl _)
theorem Rn.ev (h : Rn t v u) : ∀ (m i : Nat) (e e' : List Int), i < m → i < t.length → e.length = 8 → e'.length = 8 → (∀ j, j < t.length → named (t.getD j default) = true → e'.getD (fK v u (t.getD j default).k).toNat 0 = e.getD (t.getD j default).k.toNat 0) → evT quI (turnL t v u) e' i = evT quI t e i
  | m + 1, i, e, e', hm, hi, he, he', hr => by
    have hP := okT_parts h.ok
    have hP' := okT_parts h.okr
    rw [evT_eq hP' (by rw [turnL_len]; exact hi), evT_eq hP hi, turnL_at hi]
    obtain ⟨e1, e2, e3, e4, e5⟩ := turn_op v u (t.getD i default)
    rw [e1]
    by_cases h1 : (t.getD i default).op = 1
    · rw [if_pos h1, if_pos h1, turn_kn (named_of h1)]
      exact hr i hi (named_of h1)
    rw [if_neg h1, if_neg h1]
    by_cases hq : isQ (t.getD i default).op = true
    · rw [if_pos hq, if_pos hq, e3, e4, turn_kn (named_q' hq)]
      have hpa := hP i hi (t.getD i default).a (by rw [parts_q hq]; simp)
      have hki := h.k hi (named_q' hq)
      congr 1
      refine List.map_congr_left fun x _ => h.ev m _ _ _ (by omega) (by omega) (by simp [he]) (by simp [he']) fun j hj nj => ?_
      have hkj := h.k hj nj
      by_cases ek : (t.getD i default).k = (t.getD j default).k
      · have ek' := (h.inj hi hj (named_q' hq) nj).2 ek
        rw [ek', ek, getD_set_eq (by omega), getD_set_eq (by omega)]
      · have ek' : ¬ fK v u (t.getD i default).k = fK v u (t.getD j default).k := fun e2 => ek ((h.inj hi hj (named_q' hq) nj).1 e2)
        rw [getD_set_ne (by omega), getD_set_ne (by omega)]
        exact hr j hj nj
    · rw [if_neg hq, if_neg hq]
      rw [Bool.not_eq_true] at hq
      have hn : named (t.getD i default) = false := by unfold named; rw [decide_eq_false h1, hq]; rfl
      rw [turn_no hn]
      refine appN_op rfl rfl rfl ?_ fun k => ?_
      · rw [Rn.wat]
      · split
        · rename_i hk
          have h3 := hP i hi _ (mem_gV (d := 0) hk)
          exact h.ev m _ _ _ (by omega) (by omega) he he' hr
        · rfl
/-- A sentence of few bits is worth something, by both sides the same. -/
theorem sent_worth (hs : sentT t = true) (hb : qbT t ≤ 12) : isenT t = true ∧ holdsI t = (evT quI t zer8 (t.length - 1), true) ∧ (holdsS t).1 = evT quI t zer8 (t.length - 1) := by
  have hi := sen_isen hs
  have hok := (sent_parts hi).1
  have hv : vOkI t zer8 = true := by
    unfold vOkI
    rw [hok, decide_eq_true hb, (suits_iff hok zer8).2 (sent_fit hi zer8)]; rfl
  have e : holdsI t = (valI t zer8, vOkI t zer8) := by unfold holdsI; rw [if_pos (by rw [hi, decide_eq_true hb]; rfl)]
  have e2 : holdsS t = (valS t zer8, vOkS t zer8) := by unfold holdsS; rw [if_pos hs]
  have hv2 := val_eq t zer8
  refine ⟨hi, ?_, ?_⟩
  · rw [e, hv, (val_at hv).2.2.2]
  · rw [e2, ← hv2.2, (val_at hv).2.2.2]
theorem Rn.worth (h : Rn t v u) (hs : isenT t = true) (hb : qbT t ≤ 12) : holdsI (turnL t v u) = (evT quI t zer8 (t.length - 1), true) := by
  have hi := h.sen hs
  have hok := h.okr
  have h0 := (okT_len h.ok).1
  have hv : vOkI (turnL t v u) zer8 = true := by
    unfold vOkI
    rw [hok, h.qb, decide_eq_true hb, (suits_iff hok zer8).2 (sent_fit hi zer8)]; rfl
  have e : holdsI (turnL t v u) = (valI (turnL t v u) zer8, vOkI (turnL t v u) zer8) := by unfold holdsI; rw [if_pos (by rw [hi, h.qb, decide_eq_true hb]; rfl)]
  rw [e, hv, (val_at hv).2.2.2, turnL_len]
  rw [h.ev t.length (t.length - 1) zer8 zer8 (by omega) (by omega) rfl rfl fun j _ _ => by rw [zer_at, zer_at]]
/-! ### Levels, numbers, and back -/
theorem Rn.level (h : Rn t v u) : levelT (turnL t v u) = levelT t := by
  have hP := okT_parts h.ok
  have hP' := okT_parts h.okr
  have key : ∀ (m i : Nat), i < m → i < t.length → lev (turnL t v u) i = lev t i := by
    intro m
    induction m with
    | zero => intro i hm; omega
    | succ m ih =>
      intro i hm hi
      rw [lev_eq hP hi, lev_eq hP' (by rw [turnL_len]; exact hi), turnL_at hi, turn_parts]
      congr 1
      apply Int.le_antisymm
      · exact mx_le (f := fun p => lev (turnL t v u) p.toNat) (g := fun p => lev t p.toNat) _ _ _ (Int.le_refl _) fun p hp => by
          have := hP i hi p hp
          rw [ih p.toNat (by omega) (by omega)]; exact Int.le_refl _
      · exact mx_le (f := fun p => lev t p.toNat) (g := fun p => lev (turnL t v u) p.toNat) _ _ _ (Int.le_refl _) fun p hp => by
          have := hP i hi p hp
          rw [ih p.toNat (by omega) (by omega)]; exact Int.le_refl _
  have h0 := (okT_len h.ok).1
  rw [levelT_at h.ok, levelT_at h.okr, turnL_len]
  exact key t.length _ (by omega) (by omega)
theorem num_prune {t : List Nd} (hok : okT t = true) (x : Int) : numB (pruneT t) x = true ↔ ∃ i, RchT t i ∧ named (t.getD i default) = true ∧ (t.getD i default).k = x := by
  have hE := prune_emb hok
  have hnm : ∀ (f : Int → Int) (n : Nd), named (renF f n) = named n := fun f n => rfl
  unfold numB
  rw [List.any_eq_true]
  constructor
  · rintro ⟨n, hn, hf⟩
    obtain ⟨j, hj, rfl⟩ := List.mem_iff_getElem.1 hn
    obtain ⟨i, hi, e⟩ := hE.onto j hj
    have hno := hE.node i hi
    rw [e] at hno
    rw [getD_at (d := default) hj, hno] at hf
    unfold numF at hf
    rw [hnm, Bool.and_eq_true, decide_eq_true_eq] at hf
    exact ⟨i, hi, hf.1, hf.2⟩
  · rintro ⟨i, hi, hn, hk⟩
    refine ⟨(pruneT t).getD (plN t i) default, mem_gV (hE.ltp i hi), ?_⟩
    rw [hE.node i hi]
    unfold numF
    rw [hnm, hn]
    exact decide_eq_true hk
def swp (v u : Nat) (x : Nat) : Nat := if x = u then v else if x = v then u else x
theorem swp_perm : ∀ v, v < 8 → ∀ u, u < 8 → ((List.range 8).map (swp v u)).Perm (List.range 8) := by decide
theorem vars_count (t : List Nd) : (varsT t).length = (List.range 8).countP fun x => numB (pruneT t) (x : Nat) := by
  unfold varsT varsL
  rw [List.length_map, ← List.countP_eq_length_filter]
  refine List.countP_congr fun x hx => ?_
  have hx8 := List.mem_range.1 hx
  simp [numsT, List.getD_eq_getElem?_getD, hx8]
theorem Rn.vars (h : Rn t v u) (hv : 0 ≤ v ∧ v < 8) (hne : u ≠ v) : (varsT (turnL t v u)).length = (varsT t).length := by
  have hu0 := h.u0
  have hu7 := h.u7
  rw [vars_count, vars_count]
  rw [← (swp_perm v.toNat (by omega) u.toNat (by omega)).countP_eq (fun x => numB (pruneT t) (x : Nat)), List.countP_map]
  refine List.countP_congr fun x hx => ?_
  have hx8 := List.mem_range.1 hx
  show numB (pruneT (turnL t v u)) (x : Int) = true ↔ numB (pruneT t) ((swp v.toNat u.toNat x : Nat) : Int) = true
  rw [num_prune h.okr, num_prune h.ok]
  have rr : ∀ i, RchT (turnL t v u) i ↔ RchT t i := fun i => by unfold RchT; rw [h.reach]
  constructor
  · rintro ⟨i, hi, hn, hk⟩
    have hi := (rr i).1 hi
    have hil := rch_lt hi
    rw [turnL_at hil] at hn hk
    have hn' : named (t.getD i default) = true := by unfold named at hn ⊢; rwa [(turn_op v u _).1] at hn
    rw [turn_kn hn'] at hk
    have hnew := h.new i hil hn'
    refine ⟨i, hi, hn', ?_⟩
    unfold fK at hk
    unfold swp
    split at hk
    · rw [if_pos (by omega)]; omega
    · rw [if_neg (by omega), if_neg (by omega)]; exact hk
  · rintro ⟨i, hi, hn, hk⟩
    have hil := rch_lt hi
    have hnew := h.new i hil hn
    refine ⟨i, (rr i).2 hi, ?_, ?_⟩
    · rw [turnL_at hil]
      unfold named at hn ⊢
      rwa [(turn_op v u _).1]
    · rw [turnL_at hil, turn_kn hn]
      unfold swp at hk
      unfold fK
      split at hk
      · rw [if_pos (by omega)]; omega
      · split at hk
        · exfalso; omega
        · rw [if_neg (by omega)]; exact hk
theorem turn_same (t : List Nd) (v : Int) : turnL t v v = t := by
  unfold turnL
  have : ∀ n : Nd, turnN v v n = n := fun n => by
    unfold turnN
    split
    · rename_i h
      rw [Bool.and_eq_true, decide_eq_true_eq] at h
      cases n
      simp only at h
      rw [← h.2]
    · rfl
  rw [List.map_congr_left fun n _ => this n, List.map_id']
theorem rnmT_ok (h : (rnmT t v u).2 = true) : okT t = true ∧ (0 ≤ u ∧ u ≤ 7) ∧ (u ≠ v → Rn t v u) ∧ (rnmT t v u).1 = turnL t v u := by
  unfold rnmT at h ⊢
  by_cases hc : (okT t && (decide (0 ≤ u) && decide (u ≤ 7)) && !(!decide (u = v) && numB t u)) = true
  · rw [if_pos hc]
    simp only [Bool.and_eq_true, decide_eq_true_eq] at hc
    refine ⟨hc.1.1, hc.1.2, fun hne => ⟨hc.1.1, hc.1.2.1, hc.1.2.2, numB_no ?_⟩, rfl⟩
    have := hc.2
    rw [decide_eq_false hne] at this
    simpa using this
  · rw [if_neg hc] at h; cases h
theorem Rn.back (h : Rn t v u) (hv : 0 ≤ v ∧ v < 8) (hne : u ≠ v) : rnmT (turnL t v u) u v = (t, true) := by
  have hnb : numB (turnL t v u) v = false := by
    unfold numB
    rw [List.any_eq_false]
    intro n hn
    obtain ⟨j, hj, rfl⟩ := List.mem_iff_getElem.1 hn
    have hj' : j < t.length := by rwa [turnL_len] at hj
    rw [getD_at (d := default) hj, turnL_at hj']
    unfold numF
    intro h2
    rw [Bool.and_eq_true, decide_eq_true_eq] at h2
    have hn' : named (t.getD j default) = true := by
      have := h2.1
      unfold named at this ⊢
      rwa [(turn_op v u _).1] at this
    rw [turn_kn hn'] at h2
    have h3 := h2.2
    unfold fK at h3
    split at h3 <;> omega
  have e : turnL (turnL t v u) u v = t := by
    apply List.ext_getElem (by rw [turnL_len, turnL_len])
    intro i h1 h2
    rw [getD_at (d := default) h1, getD_at (d := default) h2, turnL_at (by rw [turnL_len]; exact h2), turnL_at h2]
    cases hn : named (t.getD i default) with
    | false => rw [turn_no hn, turn_no hn]
    | true =>
      have hnew := h.new i h2 hn
      have hn' : named (turnN v u (t.getD i default)) = true := by unfold named at hn ⊢; rwa [(turn_op v u _).1]
      have hk : (turnN u v (turnN v u (t.getD i default))).k = (t.getD i default).k := by
        rw [turn_kn hn', turn_kn hn]
        unfold fK
        split
        · rw [if_pos rfl]; omega
        · first | rfl | rw [if_neg hnew]
      obtain ⟨a1, a2, a3, a4, a5⟩ := turn_op u v (turnN v u (t.getD i default))
      obtain ⟨b1, b2, b3, b4, b5⟩ := turn_op v u (t.getD i default)
      have x1 := a1.trans b1
      have x2 := a2.trans b2
      have x3 := a3.trans b3
      have x4 := a4.trans b4
      have x5 := a5.trans b5
      generalize turnN u v (turnN v u (t.getD i default)) = m at *
      generalize t.getD i default = n at *
      cases m; cases n
      simp only at x1 x2 x3 x4 x5 hk
      rw [x1, x2, x3, x4, x5, hk]
  unfold rnmT
  rw [if_pos, e]
  simp only [Bool.and_eq_true, decide_eq_true_eq]
  refine ⟨⟨h.okr, by omega, by omega⟩, ?_⟩
  rw [hnb, Bool.and_false]; rfl
end
end Go.Proofs.YtkdkbnacelnljaaGreat.RE
