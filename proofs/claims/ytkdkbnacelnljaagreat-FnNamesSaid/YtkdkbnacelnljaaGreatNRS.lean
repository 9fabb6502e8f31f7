/- More short rules. Conditions: those that a theorem names. -/
import Derived.Test.YtkdkbnacelnljaaGreatNRZ
set_option linter.unusedVariables false
set_option linter.unusedSimpArgs false
namespace Go.Proofs.YtkdkbnacelnljaaGreat.RE
open Go Go.RowKit
section
variable {st : St}
theorem keepM_belowN (n : Nat) (π : List Nat) (ob : Obs) : sameBelow n (keepM n π ob) := fun o g h => by unfold keepM; rw [if_pos h]
/-- A new row is answered, the rows that were handed over stay. -/
theorem retN {fn : Func} {n o g sz len len' : Nat} {cs cs' : List LV} {ob' : Obs} (hlen : len = len') (hcs : cs = cs') (hob : st.ob.take n = ob') (hf : cs.all LV.flat = true) (hno : n ≤ o) (h : resA st.tm st.ob E fn.results.toList = some (.l (.obj o g sz 0 len)) := by rfl) (ho : st.ob.getD o none = some ⟨g, cs⟩ := by rfl) (hi : obShut n ob' = true := by (simp only [obShut, List.all_cons, List.all_nil, flat_shut (lN_flat _), flat_shut (flatI _), flat_shut (flatB _), flat_shut (lS_flat _), flat_shut (flatT _), flat_shut (flatU _), Bool.and_true]) <;> rfl) (hn : n ≤ st.ob.length := by simp) :
    retQ E fn n (fun r ob => r = .l (.obj n 0 sz 0 len') ∧ ob = ob' ++ [some ⟨0, cs'⟩]) .ret st := by
  subst hlen; subst hcs
  refine ⟨_, [o], h, hn, by simp, by simpa using hno, ?_, ?_⟩
  · simp only [AV.ren, LV.ren, keepM, ho]
    rw [if_neg (by omega)]
    simp [List.idxOf?]
  · simp only [keepO, List.map_cons, List.map_nil, ho, Option.map_some, map_flat hf]
    congr 1
    rw [hob]
    apply List.ext_getElem?
    intro i
    rw [List.getElem?_map]
    cases hx : ob'[i]? with
    | none => rfl
    | some y => cases y with
      | none => rfl
      | some y => simp only [Option.map_some, shut_map (keepM_belowN n [o] st.ob) (shut_at hi hx)]
theorem inert_within {σ : List Nat} {cs : List LV} (h : cs.all LV.inert = true) : cs.all (LV.within σ) = true := List.all_eq_true.2 fun x hx => by
  have := List.all_eq_true.1 h x hx
  cases x <;> first | rfl | simp [LV.inert] at this
theorem inert_shut {m : Nat} {cs : List LV} (h : cs.all LV.inert = true) : cs.all (LV.shut m) = true := List.all_eq_true.2 fun x hx => by
  have := List.all_eq_true.1 h x hx
  cases x <;> first | rfl | simp [LV.inert] at this
end
section
variable {P : Program} {B : Base} {Q : Exit → St → Prop} {st : St}
theorem Wp.keepR {c : Code} (n : Nat) (π : List Nat) (h0 : B.ob.length ≤ n) (hl : n ≤ st.ob.length) (hn : π.Nodup) (hπ : ∀ q ∈ π, n ≤ q) (h : Wp P B c Q (st.keep n π)) : Wp P B c Q st := fun a w hr => h a w (hr.keep h0 hl hn hπ)
theorem keepM_one {n q : Nat} {ob : Obs} {o g : Nat} : keepM n [q] ob o g = if o < n then some (o, g) else if o = q then (match ob.getD q none with
    | some x => if x.g = g then some (n, 0) else none
    | none => none) else none := by
  unfold keepM
  by_cases h : o < n
  · rw [if_pos h, if_pos h]
  · rw [if_neg h, if_neg h]
    by_cases hq : o = q
    · subst hq
      rw [if_pos rfl]
      simp only [List.idxOf?, List.findIdx?_cons, beq_self_eq_true, if_true]
      cases ob.getD o none <;> rfl
    · rw [if_neg hq]
      have : ([q] : List Nat).idxOf? o = none := by
        simp [List.idxOf?, List.findIdx?_cons]
        exact fun h => hq h.symm
      rw [this]
end
section
variable {m : Nat → Nat → Option (Nat × Nat)} {f : FuncId}
def optC1 (f : FuncId) (x : Nat) : Option (Nat × Nat) → LV
  | some p => .clo f [(p.1, p.2, x)]
  | none => .dead
def optC2 (f : FuncId) (x y : Nat) : Option (Nat × Nat) → Option (Nat × Nat) → LV
  | some p, some q => .clo f [(p.1, p.2, x), (q.1, q.2, y)]
  | _, _ => .dead
theorem optC1_s {x : Nat} {p : Nat × Nat} : optC1 f x (some p) = .clo f [(p.1, p.2, x)] := rfl
theorem optC2_s {x y : Nat} {p q : Nat × Nat} : optC2 f x y (some p) (some q) = .clo f [(p.1, p.2, x), (q.1, q.2, y)] := rfl
theorem lren_clo0 : LV.ren m (.clo f []) = .clo f [] := rfl
theorem lren_clo1 {a g x : Nat} : LV.ren m (.clo f [(a, g, x)]) = optC1 f x (m a g) := by
  simp only [LV.ren, List.mapM_cons, List.mapM_nil]
  cases m a g <;> rfl
theorem lren_clo2 {a g x b h y : Nat} : LV.ren m (.clo f [(a, g, x), (b, h, y)]) = optC2 f x y (m a g) (m b h) := by
  simp only [LV.ren, List.mapM_cons, List.mapM_nil]
  cases m a g <;> cases m b h <;> rfl
end
abbrev TB (x : Bool) : TV := .l (.sc (.bool x))
abbrev TI (x : Int) : TV := .l (.sc (.int .i64 x))
attribute [go_sem] lN_encN lI_encI lB_encB atDB encB_len keepM_one optC1_s optC2_s lren_clo0 lren_clo1 lren_clo2
/-! ### Regions that draw their order: a plan that forks -/
inductive Pl where
  | done
  | one (i : Nat) (r : Pl)
  | two (i j : Nat) (r s : Pl)
def Pl.depth : Pl → Nat
  | .done => 0
  | .one _ r => r.depth + 1
  | .two _ _ r _ => r.depth + 1
def stepG (E : Env) (ds : List (Option Tmp)) (D : List Nat) (p : Oper × Bool) (K : St → Prop) (st : St) : Prop := rdF D st.tm p.1.op ∧ match p.1.guard with
  | none => opF E p.1 (kpD p.2 D st.ob K) st
  | some (j, want) => grdT E p.1 (kpD p.2 D st.ob K) st want (ds.getD j none)
def treeG (E : Env) (ds : List (Option Tmp)) (D : List Nat) (L : List (Oper × Bool)) : Pl → (St → Prop) → St → Prop
  | .done, K, st => K st
  | .one i r, K, st => stepG E ds D (L.getD i (default, false)) (treeG E ds D L r K) st
  | .two i j r s, K, st => stepG E ds D (L.getD i (default, false)) (treeG E ds D L r K) st ∧ stepG E ds D (L.getD j (default, false)) (treeG E ds D L s K) st
def treeOk (ops : Array Oper) (DD : Nat → Bool) : Pl → Array Bool → Bool
  | .done, listed => (Region.ready .any ops listed).isEmpty
  | .one i r, listed => (match ops[i]? with
    | some o => if readOp o.op then !DD i && (Region.ready .any ops listed).contains i && Region.free .any ops listed i &&
          (List.range ops.size).all (fun j => j == i || listed.getD j true || match ops[j]? with
            | some oj => oj.after.any (fun e => Region.binds .any e && e.on == i) || DD j || readOp oj.op
            | none => true)
        else Region.ready .any ops listed == [i]
    | none => false) && treeOk ops DD r (listed.setIfInBounds i true)
  | .two i j r s, listed => (Region.ready .any ops listed == [i, j] && r.depth == s.depth && (ops[i]?).isSome && (ops[j]?).isSome) && (treeOk ops DD r (listed.setIfInBounds i true) && treeOk ops DD s (listed.setIfInBounds j true))
section
variable {E : Env} {ops : Array Oper} {D : List Nat} {DD : Nat → Bool} {K : St → Prop} {B : Base}
theorem stepG_G {ds : List (Option Tmp)} (hds : ∀ j : Nat, ds.getD j none = (ops[j]?).bind (·.dst)) {o : Oper} {dd : Bool} {C : St → Prop} {st : St} (h : stepG E ds D (strip o, dd) C st) : opG E ops o (kpD dd D st.ob C) st := by
  obtain ⟨d, op, ty, pos, after, g⟩ := o
  refine opG_guard hds ?_
  have h2 := h.2
  cases g with
  | none => exact h2
  | some g =>
    obtain ⟨j, want⟩ := g
    simp only [strip] at h2 ⊢
    rw [grdT_iff] at h2 ⊢
    split at h2
    · obtain ⟨b, h3, h4, h5⟩ := h2
      exact ⟨b, h3, fun hb => h4 hb, fun hb => h5 hb⟩
    · exact h2
theorem stepG_H {ds : List (Option Tmp)} (hds : ∀ j : Nat, ds.getD j none = (ops[j]?).bind (·.dst)) {o : Oper} {dd : Bool} {C C2 : St → Prop} {st : St} (h : stepG E ds D (strip o, dd) C st) (hC : ∀ s, C s → C2 s) : opH E ops D dd o C2 st := by
  have := stepG_G hds h
  unfold opH
  cases dd with
  | true => exact opG_mono this fun s hs => ⟨hs.1, hC s hs.2⟩
  | false => exact opG_mono this fun s hs => hC s hs
theorem tree_ok {ds : List (Option Tmp)} {L : List (Oper × Bool)} (hL : ∀ i o, ops[i]? = some o → L.getD i (default, false) = (strip o, DD i)) (hds : ∀ j : Nat, ds.getD j none = (ops[j]?).bind (·.dst)) : ∀ (p : Pl) (listed : Array Bool) (st : St), treeOk ops DD p listed = true → treeG E ds D L p K st → anyG E ops D DD K p.depth listed st
  | .done, listed, st, h, hp => ⟨by simpa [treeOk] using h, hp⟩
  | .one i r, listed, st, h, hp => by
    simp only [treeOk, Bool.and_eq_true] at h
    obtain ⟨h1, h2⟩ := h
    split at h1
    case h_2 => cases h1
    rename_i o ho
    simp only [treeG, hL i o ho] at hp
    have ih := fun s => tree_ok hL hds r (listed.setIfInBounds i true) s h2
    split at h1
    · rename_i hro
      simp only [Bool.and_eq_true, Bool.not_eq_true'] at h1
      obtain ⟨⟨⟨h3, h4⟩, h5⟩, h6⟩ := h1
      have hp2 := stepG_G hds hp
      rw [h3] at hp2
      have hrd : readsIn D o st := by
        have h0 := hp.1
        obtain ⟨d, op, ty, pos, after, g⟩ := o
        cases op <;> exact h0
      obtain ⟨v, h7, h8⟩ := opG_read hro hrd hp2
      refine anyG_first ho hro r.depth listed st (fun j oj hj hji hun hno => ⟨Region.free_spec ho h5 j oj hj hji hun hno, ?_⟩) (by simpa using h4) h8 (ih _ h7)
      have := List.all_eq_true.1 h6 j (by have := (Array.getElem?_eq_some_iff.1 hj).1; simpa using this)
      simp only [hj, Bool.or_eq_true, beq_iff_eq, hji, false_or, hun, Bool.false_eq_true] at this
      rcases this with (h9 | h9) | h9
      · obtain ⟨e, he, hb⟩ := Array.any_eq_true'.1 h9
        simp only [Bool.and_eq_true, beq_iff_eq] at hb
        exact absurd hb.2 (hno e he hb.1)
      · exact .inl h9
      · exact .inr h9
    · simp only [beq_iff_eq] at h1
      refine ⟨fun h0 => (by rw [h1] at h0; cases h0), fun j hj => ?_⟩
      rw [h1] at hj
      simp at hj
      subst hj
      exact ⟨o, ho, stepG_H hds hp ih⟩
  | .two i j r s, listed, st, h, hp => by
    simp only [treeOk, Bool.and_eq_true, beq_iff_eq] at h
    obtain ⟨⟨⟨⟨h1, h2⟩, h3⟩, h4⟩, h5, h6⟩ := h
    obtain ⟨oi, hi⟩ := Option.isSome_iff_exists.1 h3
    obtain ⟨oj, hj⟩ := Option.isSome_iff_exists.1 h4
    simp only [treeG, hL i oi hi, hL j oj hj] at hp
    refine ⟨fun h0 => (by rw [h1] at h0; cases h0), fun k hk => ?_⟩
    rw [h1] at hk
    simp only [List.mem_cons, List.not_mem_nil, or_false] at hk
    rcases hk with rfl | rfl
    · exact ⟨oi, hi, stepG_H hds hp.1 fun s => tree_ok hL hds r _ s h5⟩
    · refine ⟨oj, hj, stepG_H hds hp.2 fun s' hs => ?_⟩
      have := tree_ok hL hds s _ s' h6 hs
      rw [← h2] at this
      exact this
theorem Wp.drawT {id : Nat} {l : List Oper} {Q : Exit → St → Prop} {st : St} (D dd : List Nat) (p : Pl) (hl : p.depth = l.length) (hok : treeOk l.toArray (fun i => dd.contains i) p (Array.replicate l.length false) = true)
    (h : treeG E (l.map (·.dst)) D (flg dd 0 l) p (Q .normal) st) : Wp E.P B (.region id l.toArray true) Q st := by
  intro a w hr
  refine wp_region_any E.mix ?_
  have hr' : Rel B st a { w with drawn := w.drawn + 1 } := by
    obtain ⟨cx, hE, hM, hd, hlen, ht⟩ := hr
    have hE2 : Ext w cx st.ob { w with drawn := w.drawn + 1 } cx st.ob := ⟨rfl, rfl, rfl, Nat.le_refl _, fun _ _ h => ⟨rfl, h⟩, fun _ h => h, fun _ _ h => .inl h, fun _ _ _ h => h, fun _ => Iff.rfl⟩
    have hM2 : MemOk { w with drawn := w.drawn + 1 } cx st.ob := ⟨fun o x h => hM.rep o x h |>.imp fun l ⟨h1, hR⟩ => ⟨h1, hR.move (fun _ => rfl) (fun vs h => h.imp fun _ _ h => hE2.vc hM h) rfl (fun _ _ h => h)⟩, hM.gen, hM.top, hM.dis, hM.pml, hM.bsl⟩
    exact ⟨cx, hE.trans hE2, hM2, hd, hlen, fun i => hE2.va hM (ht i)⟩
  have hds : ∀ j : Nat, (l.map (·.dst)).getD j none = ((l.toArray)[j]?).bind (·.dst) := fun j => by have := dst_list l.toArray j; simpa using this
  have hL : ∀ i o, (l.toArray)[i]? = some o → (flg dd 0 l).getD i (default, false) = (strip o, dd.contains i) := fun i o ho => by
    rw [flg_ok, List.getD_eq_getElem?_getD, List.getElem?_map, List.getElem?_zipIdx]
    have : l[i]? = some o := by simpa using ho
    rw [this]; simp
  have h2 := tree_ok (E := E) (ops := l.toArray) (D := D) (DD := fun i => dd.contains i) (K := Q .normal) hL hds p (Array.replicate l.length false) st hok h
  have := anyG_ok (Q' := fun e a' w' => ∃ st', Q e st' ∧ Rel B st' a' w') (fun s hs a w hr => ⟨s, hs, hr⟩) p.depth (Array.replicate l.length false) st a _ h2 hr'
  rw [hl] at this
  simpa using this
end
section
variable {E : Env} {ds : List (Option Tmp)} {D : List Nat} {K : St → Prop} {st : St} {d : Option Tmp} {op : Op} {ty : TypeId} {pos : String} {after : Array Edge} {dd : Bool}
theorem stepG_none : stepG E ds D (⟨d, op, ty, pos, after, none⟩, dd) K st = (rdF D st.tm op ∧ opF E ⟨d, op, ty, pos, after, none⟩ (kpD dd D st.ob K) st) := rfl
theorem stepG_some {j : Nat} {want : Bool} : stepG E ds D (⟨d, op, ty, pos, after, some (j, want)⟩, dd) K st = (rdF D st.tm op ∧ grdT E ⟨d, op, ty, pos, after, none⟩ (kpD dd D st.ob K) st want (ds.getD j none)) := by
  simp only [stepG]
  congr 1
end
attribute [go_sem] stepG_none stepG_some treeG
end Go.Proofs.YtkdkbnacelnljaaGreat.RE
