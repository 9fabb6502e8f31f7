/- A plan for a region that draws its order. Conditions: those that a theorem names. -/
import Derived.Test.YtkdkbnacelnljaaGreatNRQ
set_option linter.unusedVariables false
set_option linter.unusedSimpArgs false
namespace Go.Proofs.YtkdkbnacelnljaaGreat.RE
open Go Go.RowKit

/-- .. and the rows of D are as they were. -/
def keepD (D : List Nat) (ob : Obs) (C : St → Prop) (s : St) : Prop := sameD D ob s.ob ∧ C s
/-- The operations in the plan's order; with true: D's rows must stay. -/
def planF (E : Env) (ds : List (Option Tmp)) (D : List Nat) : List (Oper × Bool) → (St → Prop) → St → Prop
  | [], K, st => K st
  | (o, dd) :: r, K, st => (readOp o.op = true → readsIn D o st) ∧ match o.guard with
    | none => opF E o (if dd then keepD D st.ob (planF E ds D r K) else planF E ds D r K) st
    | some (j, want) => grdT E o (if dd then keepD D st.ob (planF E ds D r K) else planF E ds D r K) st want (ds.getD j none)
def planOk (ops : Array Oper) (DD : Nat → Bool) : List Nat → Array Bool → Bool
  | [], listed => (Region.ready .any ops listed).isEmpty
  | i :: r, listed => (match ops[i]? with
    | some o => if readOp o.op then !DD i && (Region.ready .any ops listed).contains i && Region.free .any ops listed i &&
          (List.range ops.size).all (fun j => j == i || listed.getD j true || match ops[j]? with
            | some oj => oj.after.any (fun e => Region.binds .any e && e.on == i) || DD j || readOp oj.op
            | none => true)
        else Region.ready .any ops listed == [i]
    | none => false) && planOk ops DD r (listed.setIfInBounds i true)
section
variable {E : Env} {ops : Array Oper} {D : List Nat} {DD : Nat → Bool} {K : St → Prop} {B : Base}
theorem opG_guard {ds : List (Option Tmp)} (hds : ∀ j : Nat, ds.getD j none = (ops[j]?).bind (·.dst)) {o : Oper} {C : St → Prop} {st : St} (h : match o.guard with
    | none => opF E o C st
    | some (j, want) => grdT E o C st want (ds.getD j none)) : opG E ops o C st := by
  unfold opG
  split at h
  · rename_i hg; rw [hg]; exact h
  · rename_i j want hg
    rw [hg]
    rw [grdT_iff] at h
    simp only
    rw [hds j] at h
    exact h
theorem plan_ok {ds : List (Option Tmp)} (hds : ∀ j : Nat, ds.getD j none = (ops[j]?).bind (·.dst)) : ∀ (pl : List Nat) (listed : Array Bool) (st : St), planOk ops DD pl listed = true → planF E ds D (pl.map fun i => (ops.getD i default, DD i)) K st → anyG E ops D DD K pl.length listed st
  | [], listed, st, h, hp => ⟨by simpa [planOk] using h, hp⟩
  | i :: r, listed, st, h, hp => by
    simp only [planOk, Bool.and_eq_true] at h
    obtain ⟨h1, h2⟩ := h
    split at h1
    case h_2 => cases h1
    rename_i o ho
    have hgd : ops.getD i default = o := by rw [Array.getD_eq_getD_getElem?, ho]; rfl
    simp only [List.map_cons, planF, hgd] at hp
    obtain ⟨hD, hp⟩ := hp
    have hp := opG_guard hds hp
    have ih := fun s => plan_ok hds r (listed.setIfInBounds i true) s h2
    split at h1
    · rename_i hro
      simp only [Bool.and_eq_true, Bool.not_eq_true'] at h1
      obtain ⟨⟨⟨h3, h4⟩, h5⟩, h6⟩ := h1
      rw [h3] at hp
      simp only [Bool.false_eq_true, if_false] at hp
      obtain ⟨v, h7, h8⟩ := opG_read hro (hD hro) hp
      refine anyG_first ho hro r.length listed st (fun j oj hj hji hun hno => ⟨Region.free_spec ho h5 j oj hj hji hun hno, ?_⟩) (by simpa using h4) h8 (ih _ h7)
      have := List.all_eq_true.1 h6 j (by have := (Array.getElem?_eq_some_iff.1 hj).1; simpa using this)
      simp only [hj, Bool.or_eq_true, beq_iff_eq, hji, false_or, hun, Bool.false_eq_true] at this
      rcases this with (h9 | h9) | h9
      · obtain ⟨e, he, hb⟩ := Array.any_eq_true'.1 h9
        simp only [Bool.and_eq_true, beq_iff_eq] at hb
        exact absurd hb.2 (hno e he hb.1)
      · exact .inl h9
      · exact .inr h9
    · simp only [beq_iff_eq] at h1
      refine ⟨fun h0 => (by rw [h1] at h0; cases h0), fun j hj => ?_⟩
      rw [h1] at hj
      simp at hj
      subst hj
      refine ⟨o, ho, ?_⟩
      unfold opH
      cases hd : DD j with
      | true =>
        rw [hd] at hp
        simp only [if_true] at hp ⊢
        exact opG_mono hp fun s hs => ⟨hs.1, ih s hs.2⟩
      | false =>
        rw [hd] at hp
        simp only [Bool.false_eq_true, if_false] at hp ⊢
        exact opG_mono hp fun s hs => ih s hs
/-- A region that draws its order, by a plan: 'dd' are the operations that leave D's rows as they are. -/
theorem Wp.draw {id : Nat} {l : List Oper} {Q : Exit → St → Prop} {st : St} (pl : List Nat) (dd : List Nat) (D : List Nat) (hl : pl.length = l.length) (hok : planOk l.toArray (fun i => dd.contains i) pl (Array.replicate l.length false) = true)
    (h : planF E (l.map (·.dst)) D (pl.map fun i => (l.getD i default, dd.contains i)) (Q .normal) st) : Wp E.P B (.region id l.toArray true) Q st := by
  intro a w hr
  refine wp_region_any E.mix ?_
  have hr' : Rel B st a { w with drawn := w.drawn + 1 } := by
    obtain ⟨cx, hE, hM, hd, hlen, ht⟩ := hr
    have hE2 : Ext w cx st.ob { w with drawn := w.drawn + 1 } cx st.ob := ⟨rfl, rfl, rfl, Nat.le_refl _, fun _ _ h => ⟨rfl, h⟩, fun _ h => h, fun _ _ h => .inl h, fun _ _ _ h => h, fun _ => Iff.rfl⟩
    have hM2 : MemOk { w with drawn := w.drawn + 1 } cx st.ob := ⟨fun o x h => hM.rep o x h |>.imp fun l ⟨h1, hR⟩ => ⟨h1, hR.move (fun _ => rfl) (fun vs h => h.imp fun _ _ h => hE2.vc hM h) rfl (fun _ _ h => h)⟩, hM.gen, hM.top, hM.dis, hM.pml, hM.bsl⟩
    exact ⟨cx, hE.trans hE2, hM2, hd, hlen, fun i => hE2.va hM (ht i)⟩
  have hds : ∀ j : Nat, (l.map (·.dst)).getD j none = ((l.toArray)[j]?).bind (·.dst) := fun j => by have := dst_list l.toArray j; simpa using this
  have h2 := plan_ok (E := E) (ops := l.toArray) (D := D) (DD := fun i => dd.contains i) (K := Q .normal) hds pl (Array.replicate l.length false) st hok (by
    have e : (pl.map fun i => (l.toArray.getD i default, dd.contains i)) = pl.map fun i => (l.getD i default, dd.contains i) := List.map_congr_left fun i _ => by
      rw [Array.getD_eq_getD_getElem?, List.getD_eq_getElem?_getD]; simp
    rw [e]; exact h)
  have := anyG_ok (Q' := fun e a' w' => ∃ st', Q e st' ∧ Rel B st' a' w') (fun s hs a w hr => ⟨s, hs, hr⟩) pl.length (Array.replicate l.length false) st a _ h2 hr'
  rw [hl] at this
  simpa using this
end
end Go.Proofs.YtkdkbnacelnljaaGreat.RE

/-! How the abstract memory is evaluated. Conditions: those that a theorem names. -/
set_option linter.unusedVariables false
set_option linter.unusedSimpArgs false
namespace Go.Proofs.YtkdkbnacelnljaaGreat.RE
open Go Go.RowKit
attribute [go_sem] mkmF lookF mupF regF_nil regF_none regF_some grdT_some grdA_tt grdA_ff grdA_tf grdA_ft grdA_u uA opF fin putT rd ofV pickF allocF boxF newF buildF bslF loadF partF dpartF storeF spl faF iaF lenF nilF binF unF convF mkfF mksF slF bndF fF ixF exF appF srcF mmF cpyF callF cmpB ariB eqC eq1 fillF plcF rowOf AV.cells LV.cell Value.oneCell' TyI.agg LV.ofD TV.up List.getD_cons_zero List.getD_cons_succ List.getD_nil List.set_cons_zero List.set_cons_succ List.map_cons List.map_nil List.getElem?_cons_zero List.getElem?_cons_succ List.length_cons List.length_nil List.cons_append List.nil_append List.append_nil List.take_succ_cons List.take_zero List.drop_succ_cons List.drop_zero List.take_nil List.drop_nil Option.map_some Option.map_none Option.getD_some if_true if_false Bool.false_eq_true true_and and_true Nat.zero_add Nat.add_zero Nat.zero_le false_implies true_implies forall_const ne_eq not_false_eq_true not_true_eq_false List.replicate_zero List.replicate_succ List.flatten_cons List.flatten_nil Bool.true_eq_false planF keepD sameD readsIn inD readOp thn inB
end Go.Proofs.YtkdkbnacelnljaaGreat.RE
