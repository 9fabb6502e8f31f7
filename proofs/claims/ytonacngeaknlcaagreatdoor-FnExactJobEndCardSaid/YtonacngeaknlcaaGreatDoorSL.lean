/- Regions that draw their order, step by step; what stands behind an operation, through others too. Conditions: those that a theorem names. -/
import Derived.Test.YtonacngeaknlcaaGreatDoorRS
set_option linter.unusedVariables false
set_option linter.unusedSimpArgs false
namespace Go.Proofs.YtonacngeaknlcaaGreatDoor.RE
open Go Go.RowKit
section
variable {E : Env} {ds : List (Option Tmp)} {D : List Nat} {L : List (Oper × Bool)} {i j : Nat} {r s : Pl} {K : St → Prop} {st : St}
theorem tG_one (h : ∀ K1 : St → Prop, (∀ s, treeG E ds D L r K s → K1 s) → stepG E ds D (L.getD i (default, false)) K1 st) : treeG E ds D L (.one i r) K st := h _ fun _ h => h
theorem tG_two (h1 : ∀ K1 : St → Prop, (∀ s, treeG E ds D L r K s → K1 s) → stepG E ds D (L.getD i (default, false)) K1 st) (h2 : ∀ K1 : St → Prop, (∀ x, treeG E ds D L s K x → K1 x) → stepG E ds D (L.getD j (default, false)) K1 st) : treeG E ds D L (.two i j r s) K st := ⟨h1 _ fun _ h => h, h2 _ fun _ h => h⟩
theorem tG_done (h : K st) : treeG E ds D L .done K st := h
end
def next1 (ops : Array Oper) (i : Nat) (S : Nat → Bool) (j : Nat) : Bool := match ops[j]? with
  | some oj => oj.after.any fun e => Region.binds .any e && (e.on == i || S e.on)
  | none => false
/-- What is not listed and stands behind i, by at most n edges. -/
def behindB (ops : Array Oper) (listed : Array Bool) (i : Nat) : Nat → Nat → Bool
  | 0, _ => false
  | n + 1, j => !listed.getD j true && next1 ops i (behindB ops listed i n) j
theorem next1_mono {ops : Array Oper} {i j : Nat} {S T : Nat → Bool} (h : ∀ k, S k = true → T k = true) (hj : next1 ops i S j = true) : next1 ops i T j = true := by
  unfold next1 at *
  split at hj
  · obtain ⟨e, he, hb⟩ := Array.any_eq_true'.1 hj
    simp only [Bool.and_eq_true, Bool.or_eq_true] at hb
    refine Array.any_eq_true'.2 ⟨e, he, ?_⟩
    simp only [Bool.and_eq_true, Bool.or_eq_true]
    exact ⟨hb.1, hb.2.imp id (h _)⟩
  · cases hj
theorem behind_mono {ops : Array Oper} {listed : Array Bool} {i : Nat} : ∀ (n k : Nat), behindB ops listed i n k = true → behindB ops listed i (n + 1) k = true
  | 0, _, h => by cases h
  | n + 1, k, h => by
    simp only [behindB, Bool.and_eq_true] at h
    rw [behindB, Bool.and_eq_true]
    exact ⟨h.1, next1_mono (behind_mono n) h.2⟩
section
variable {E : Env} {ops : Array Oper} {D : List Nat} {DD : Nat → Bool} {K : St → Prop} {B : Base}
theorem anyG_first2 {i : Nat} {oi : Oper} {v : AV} {S : Nat → Bool} (hi : ops[i]? = some oi) (hro : readOp oi.op = true) (hS : ∀ j, S j = true → next1 ops i S j = true) : ∀ (fuel : Nat) (listed : Array Bool) (st : St),
    (∀ j, S j = true → listed.getD j true = false) → (∀ j oj, ops[j]? = some oj → j ≠ i → S j = false → listed.getD j true = false → (∀ e ∈ oj.after, Region.binds .any e = true → e.on ≠ i) → oi.apart ops oj = true ∧ (DD j = true ∨ readOp oj.op = true)) →
    i ∈ Region.ready .any ops listed → Yld E ops D oi v st → anyG E ops D DD K fuel (listed.setIfInBounds i true) ⟨putT st.tm oi.dst v, st.ob⟩ → anyG E ops D DD K (fuel + 1) listed st := by
  have take : ∀ (listed : Array Bool) (st : St) (K' : St → Prop), Yld E ops D oi v st → K' ⟨putT st.tm oi.dst v, st.ob⟩ → opH E ops D (DD i) oi K' st := by
    intro listed st K' hy hk
    have h1 : opG E ops oi (fun s => sameD D st.ob s.ob ∧ K' s) st := hy st _ ⟨fun _ _ => rfl, fun _ _ => rfl⟩ ⟨fun _ _ => rfl, hk⟩
    unfold opH
    split
    · exact h1
    · exact opG_mono h1 fun s hs => hs.2
  intro fuel
  induction fuel with
  | zero =>
    intro listed st _ _ hr hy H
    refine ⟨fun h => (by rw [h] at hr; cases hr), fun j hj => ?_⟩
    by_cases hji : j = i
    · subst hji; exact ⟨oi, hi, take listed st _ hy H⟩
    · have := ready_mono hj hji
      rw [H.1] at this
      cases this
  | succ fuel ih =>
    intro listed st hun0 hfree hr hy H
    refine ⟨fun h => (by rw [h] at hr; cases hr), fun j hj => ?_⟩
    by_cases hji : j = i
    · subst hji; exact ⟨oi, hi, take listed st _ hy H⟩
    · obtain ⟨oj, hoj, h1⟩ := H.2 j (ready_mono hj hji)
      obtain ⟨hjun, oj', hoj', hall⟩ := mem_ready.1 hj
      rw [hoj] at hoj'; cases hoj'
      have hnot : ∀ e ∈ oj.after, Region.binds .any e = true → e.on ≠ i := fun e he hb heq => by
        have h1 := hall e he hb
        have h0 := (mem_ready.1 hr).1
        rw [heq] at h1
        rcases Nat.lt_or_ge i listed.size with h' | h'
        · simp [h'] at h0 h1; rw [h0] at h1; cases h1
        · simp [Array.getElem?_eq_none h'] at h1
      have hnS : S j = false := by
        cases hSj : S j with
        | false => rfl
        | true =>
          exfalso
          have := hS j hSj
          unfold next1 at this
          rw [hoj] at this
          obtain ⟨e, he, hb⟩ := Array.any_eq_true'.1 this
          simp only [Bool.and_eq_true, Bool.or_eq_true, beq_iff_eq] at hb
          rcases hb.2 with h2 | h2
          · exact hnot e he hb.1 h2
          · have h3 := hall e he hb.1
            have h4 := hun0 e.on h2
            rcases Nat.lt_or_ge e.on listed.size with h' | h'
            · simp [h'] at h3 h4; rw [h3] at h4; cases h4
            · simp [Array.getElem?_eq_none h'] at h3
      obtain ⟨hap, hdd⟩ := hfree j oj hoj hji hnS hjun hnot
      refine ⟨oj, hoj, opH_mono (opH_put hap hdd hy h1) fun s ⟨h2, h3⟩ => ih (listed.setIfInBounds j true) s ?_ ?_ (ready_mono hr (Ne.symm hji)) h2 ?_⟩
      · intro k hk
        have hjk : j ≠ k := fun e => by subst e; rw [hnS] at hk; cases hk
        rw [getD_set_ne true hjk]; exact hun0 k hk
      · intro k ok hk hki hkS hun hno
        refine hfree k ok hk hki hkS ?_ hno
        by_cases hjk : j = k
        · subst hjk; exact hjun
        · rw [getD_set_ne true hjk] at hun; exact hun
      · rw [Array.setIfInBounds_comm _ _ hji]
        exact h3
def treeOk2 (ops : Array Oper) (DD : Nat → Bool) : Pl → Array Bool → Bool
  | .done, listed => (Region.ready .any ops listed).isEmpty
  | .one i r, listed => (match ops[i]? with
    | some o => if readOp o.op then !DD i && (Region.ready .any ops listed).contains i && Region.free .any ops listed i &&
          (List.range ops.size).all (fun j => j == i || listed.getD j true || behindB ops listed i 3 j || match ops[j]? with
            | some oj => oj.after.any (fun e => Region.binds .any e && e.on == i) || DD j || readOp oj.op
            | none => true)
        else Region.ready .any ops listed == [i]
    | none => false) && treeOk2 ops DD r (listed.setIfInBounds i true)
  | .two i j r s, listed => (Region.ready .any ops listed == [i, j] && r.depth == s.depth && (ops[i]?).isSome && (ops[j]?).isSome) && (treeOk2 ops DD r (listed.setIfInBounds i true) && treeOk2 ops DD s (listed.setIfInBounds j true))
theorem tree_ok2 {ds : List (Option Tmp)} {L : List (Oper × Bool)} (hL : ∀ i o, ops[i]? = some o → L.getD i (default, false) = (strip o, DD i)) (hds : ∀ j : Nat, ds.getD j none = (ops[j]?).bind (·.dst)) : ∀ (p : Pl) (listed : Array Bool) (st : St), treeOk2 ops DD p listed = true → treeG E ds D L p K st → anyG E ops D DD K p.depth listed st
  | .done, listed, st, h, hp => ⟨by simpa [treeOk2] using h, hp⟩
  | .one i r, listed, st, h, hp => by
    simp only [treeOk2, Bool.and_eq_true] at h
    obtain ⟨h1, h2⟩ := h
    split at h1
    case h_2 => cases h1
    rename_i o ho
    simp only [treeG, hL i o ho] at hp
    have ih := fun s => tree_ok2 hL hds r (listed.setIfInBounds i true) s h2
    split at h1
    · rename_i hro
      simp only [Bool.and_eq_true, Bool.not_eq_true'] at h1
      obtain ⟨⟨⟨h3, h4⟩, h5⟩, h6⟩ := h1
      have hp2 := stepG_G hds hp
      rw [h3] at hp2
      have hrd : readsIn D o st := by
        have h0 := hp.1
        obtain ⟨d, op, ty, pos, after, g⟩ := o
        cases op <;> exact h0
      obtain ⟨v, h7, h8⟩ := opG_read hro hrd hp2
      refine anyG_first2 (S := behindB ops listed i 3) ho hro (fun j hj => ?_) r.depth listed st (fun j hj => ?_) (fun j oj hj hji hS hun hno => ⟨Region.free_spec ho h5 j oj hj hji hun hno, ?_⟩) (by simpa using h4) h8 (ih _ h7)
      · simp only [behindB, Bool.and_eq_true] at hj ⊢
        exact next1_mono (fun k hk => behind_mono 2 k hk) hj.2
      · simp only [behindB, Bool.and_eq_true, Bool.not_eq_true'] at hj
        exact hj.1
      · have := List.all_eq_true.1 h6 j (by have := (Array.getElem?_eq_some_iff.1 hj).1; simpa using this)
        simp only [hj, Bool.or_eq_true, beq_iff_eq, hji, false_or, hun, hS, Bool.false_eq_true] at this
        rcases this with (h9 | h9) | h9
        · obtain ⟨e, he, hb⟩ := Array.any_eq_true'.1 h9
          simp only [Bool.and_eq_true, beq_iff_eq] at hb
          exact absurd hb.2 (hno e he hb.1)
        · exact .inl h9
        · exact .inr h9
    · simp only [beq_iff_eq] at h1
      refine ⟨fun h0 => (by rw [h1] at h0; cases h0), fun j hj => ?_⟩
      rw [h1] at hj
      simp at hj
      subst hj
      exact ⟨o, ho, stepG_H hds hp ih⟩
  | .two i j r s, listed, st, h, hp => by
    simp only [treeOk2, Bool.and_eq_true, beq_iff_eq] at h
    obtain ⟨⟨⟨⟨h1, h2⟩, h3⟩, h4⟩, h5, h6⟩ := h
    obtain ⟨oi, hi⟩ := Option.isSome_iff_exists.1 h3
    obtain ⟨oj, hj⟩ := Option.isSome_iff_exists.1 h4
    simp only [treeG, hL i oi hi, hL j oj hj] at hp
    refine ⟨fun h0 => (by rw [h1] at h0; cases h0), fun k hk => ?_⟩
    rw [h1] at hk
    simp only [List.mem_cons, List.not_mem_nil, or_false] at hk
    rcases hk with rfl | rfl
    · exact ⟨oi, hi, stepG_H hds hp.1 fun s => tree_ok2 hL hds r _ s h5⟩
    · refine ⟨oj, hj, stepG_H hds hp.2 fun s' hs => ?_⟩
      have := tree_ok2 hL hds s _ s' h6 hs
      rw [← h2] at this
      exact this
theorem Wp.drawS {id : Nat} {l : List Oper} {Q : Exit → St → Prop} {st : St} (D dd : List Nat) (p : Pl) (hl : p.depth = l.length) (hok : treeOk2 l.toArray (fun i => dd.contains i) p (Array.replicate l.length false) = true)
    (h : treeG E (l.map (·.dst)) D (flg dd 0 l) p (Q .normal) st) : Wp E.P B (.region id l.toArray true) Q st := by
  intro a w hr
  refine wp_region_any E.mix ?_
  have hr' : Rel B st a { w with drawn := w.drawn + 1 } := by
    obtain ⟨cx, hE, hM, hd, hlen, ht⟩ := hr
    have hE2 : Ext w cx st.ob { w with drawn := w.drawn + 1 } cx st.ob := ⟨rfl, rfl, rfl, Nat.le_refl _, fun _ _ h => ⟨rfl, h⟩, fun _ h => h, fun _ _ h => .inl h, fun _ _ _ h => h, fun _ => Iff.rfl⟩
    have hM2 : MemOk { w with drawn := w.drawn + 1 } cx st.ob := ⟨fun o x h => hM.rep o x h |>.imp fun l ⟨h1, hR⟩ => ⟨h1, hR.move (fun _ => rfl) (fun vs h => h.imp fun _ _ h => hE2.vc hM h) rfl (fun _ _ h => h)⟩, hM.gen, hM.top, hM.dis, hM.pml, hM.bsl⟩
    exact ⟨cx, hE.trans hE2, hM2, hd, hlen, fun i => hE2.va hM (ht i)⟩
  have hds : ∀ j : Nat, (l.map (·.dst)).getD j none = ((l.toArray)[j]?).bind (·.dst) := fun j => by have := dst_list l.toArray j; simpa using this
  have hL : ∀ i o, (l.toArray)[i]? = some o → (flg dd 0 l).getD i (default, false) = (strip o, dd.contains i) := fun i o ho => by
    rw [flg_ok, List.getD_eq_getElem?_getD, List.getElem?_map, List.getElem?_zipIdx]
    have : l[i]? = some o := by simpa using ho
    rw [this]; simp
  have h2 := tree_ok2 (E := E) (ops := l.toArray) (D := D) (DD := fun i => dd.contains i) (K := Q .normal) hL hds p (Array.replicate l.length false) st hok h
  have := anyG_ok (Q' := fun e a' w' => ∃ st', Q e st' ∧ Rel B st' a' w') (fun s hs a w hr => ⟨s, hs, hr⟩) p.depth (Array.replicate l.length false) st a _ h2 hr'
  rw [hl] at this
  simpa using this
end
end Go.Proofs.YtonacngeaknlcaaGreatDoor.RE
