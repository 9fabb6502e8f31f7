/- A function's body and a call in the abstract memory. Conditions: those that a theorem names. -/
import Derived.Test.YtkdkbnacelnljaaGreatNRL
set_option linter.unusedVariables false
set_option linter.unusedSimpArgs false
namespace Go.Proofs.YtkdkbnacelnljaaGreat.RE
open Go Go.RowKit

/-- What a body must come to. -/
def retQ (E : Env) (fn : Func) (n : Nat) (Q : AV → Obs → Prop) : Exit → St → Prop
  | .normal, s => ∃ x π, resA s.tm s.ob E fn.results.toList = some x ∧ n ≤ s.ob.length ∧ π.Nodup ∧ (∀ q ∈ π, n ≤ q) ∧ Q (x.ren (keepM n π s.ob)) (keepO n π s.ob)
  | .ret, s => ∃ x π, resA s.tm s.ob E fn.results.toList = some x ∧ n ≤ s.ob.length ∧ π.Nodup ∧ (∀ q ∈ π, n ≤ q) ∧ Q (x.ren (keepM n π s.ob)) (keepO n π s.ob)
  | _, _ => False
theorem CallsA.body {E : Env} {f : FuncId} {fn : Func} {c : Code} {args : List AV} {ob : Obs} {Q : AV → Obs → Prop} (hf : E.P.funcs[f]? = some fn) (hb : fn.body = some c)
    (h : ∀ B : Base, B.ob = ob → Wp E.P B c (retQ E fn ob.length Q) ⟨args ++ List.replicate (fn.ntmps - args.length) (.l .dead), ob⟩) : CallsA E.P f args ob Q := by
  intro w cx vs hM hv
  let B : Base := ⟨w, cx, ob, fun o g l h => by
    rcases Nat.lt_or_ge o ob.length with h' | h'
    · exact h'
    · rw [hM.top o g h'] at h; cases h⟩
  have hlen := hv.len
  refine calls_of_wp hf hb ?_
  have hrel : Rel B ⟨args ++ List.replicate (fn.ntmps - args.length) (.l .dead), ob⟩ { tmps := vs.toArray ++ Array.replicate (fn.ntmps - vs.toArray.size) undef, defers := [] } w := by
    refine ⟨cx, Ext.refl _ _ _, hM, rfl, by simp [hlen], fun i => ?_⟩
    simp only [List.getD_eq_getElem?_getD]
    by_cases hi : i < args.length
    · obtain ⟨v, h1, h2⟩ := hv.get (List.getElem?_eq_getElem hi)
      rw [List.getElem?_append_left hi, List.getElem?_eq_getElem hi]
      have : (vs.toArray ++ Array.replicate (fn.ntmps - vs.toArray.size) undef).getD i undef = v := by
        rw [Array.getD_eq_getD_getElem?, Array.getElem?_append_left (by simp; omega)]
        simp [h1]
      rw [this]; exact h2
    · rw [List.getElem?_append_right (by omega), List.getElem?_replicate]
      split <;> trivial
  refine wp_mono (h B rfl _ w hrel) fun e a' w' ⟨s, hq, cx', hE, hM', hd, hl, ht⟩ => ?_
  have done : (∃ x π, resA s.tm s.ob E fn.results.toList = some x ∧ ob.length ≤ s.ob.length ∧ π.Nodup ∧ (∀ q ∈ π, ob.length ≤ q) ∧ Q (x.ren (keepM ob.length π s.ob)) (keepO ob.length π s.ob)) →
      a'.defers = [] ∧ ∃ v, (results fn a'.tmps).run E.P w' = .ok v w' ∧ ∃ v' r ob' cx'', Ending.returned v = .returned v' ∧ Q r ob' ∧ Ext w cx ob w' cx'' ob' ∧ MemOk w' cx'' ob' ∧ VA w' cx''.ρ (RO w' cx'' ob') r v' := by
    rintro ⟨x, π, h1, h2, h3, h4, h5⟩
    obtain ⟨v, h6, h7⟩ := results_ok hM' ht h1
    obtain ⟨cx'', hE2, hM2, hv2⟩ := keep_ok (st := s) (B := B) hE hM' (Nat.le_refl _) h2 h3 h4
    exact ⟨hd, v, h6, v, _, _, cx'', rfl, h5, hE2, hM2, hv2 _ _ h7⟩
  cases e with
  | normal => exact done hq
  | ret => exact done hq
  | _ => exact hq.elim

/-! ### A call: some rows are handed over, some are lent, the others stay behind -/
def lk (L : List (Nat × Nat × List DV)) (o g : Nat) : Option (List DV) := match L with
  | [] => none
  | (p, h, ds) :: r => if p = o ∧ h = g then some ds else lk r o g
def mC (σ : List Nat) (o g : Nat) : Option (Nat × Nat) := (σ.idxOf? o).map fun i => (i, g)
def LV.toC (σ : List Nat) (L : List (Nat × Nat × List DV)) : LV → LV
  | .obj o g sz off len => match lk L o g with
    | some ds => .dsl true len ((ds.drop off).take (len * sz))
    | none => LV.ren (mC σ) (.obj o g sz off len)
  | x => x.ren (mC σ)
def AV.toC (σ : List Nat) (L : List (Nat × Nat × List DV)) : AV → AV
  | .l x => .l (x.toC σ L)
  | .agg cs => .agg (cs.map (LV.toC σ L))
  | .tup ts => .tup (ts.map (TV.ren (mC σ)))
def obC (σ : List Nat) (ob : Obs) : Obs := σ.map fun o => (ob.getD o none).map fun x => ⟨x.g, x.cs.map (LV.ren (mC σ))⟩
def mB (σ : List Nat) (n : Nat) (o g : Nat) : Option (Nat × Nat) := match σ[o]? with
  | some s => some (s, g)
  | none => some (n + (o - σ.length), g)
def Ob.ren (m : Nat → Nat → Option (Nat × Nat)) (x : Ob) : Ob := ⟨x.g, x.cs.map (LV.ren m)⟩
def mrg (f : Nat → Option (Option Ob)) : Nat → Obs → Obs
  | _, [] => []
  | i, x :: xs => (f i).getD x :: mrg f (i + 1) xs
def obB (σ : List Nat) (ob ob' : Obs) : Obs :=
  mrg (fun o => (σ.idxOf? o).bind fun i => (ob'[i]?).map (Option.map (Ob.ren (mB σ ob.length)))) 0 ob ++ (ob'.drop σ.length).map (Option.map (Ob.ren (mB σ ob.length)))
def LV.noB : LV → Bool
  | .dsl b _ _ => !b
  | .dptr b _ => !b
  | _ => true
def TV.noB : TV → Bool
  | .l x => x.noB
  | .agg cs => cs.all LV.noB
def AV.noB : AV → Bool
  | .l x => x.noB
  | .agg cs => cs.all LV.noB
  | .tup ts => ts.all TV.noB
def obNoB (ob : Obs) : Bool := ob.all fun x => match x with
  | some x => x.cs.all LV.noB
  | none => true

theorem mrg_get (f : Nat → Option (Option Ob)) : ∀ (ob : Obs) (i j : Nat), (mrg f i ob)[j]? = (ob[j]?).map fun x => (f (i + j)).getD x
  | [], i, j => by simp [mrg]
  | x :: xs, i, 0 => by simp [mrg]
  | x :: xs, i, j + 1 => by
    simp only [mrg, List.getElem?_cons_succ]
    rw [mrg_get f xs (i + 1) j, show i + 1 + j = i + (j + 1) by omega]
theorem mrg_len (f : Nat → Option (Option Ob)) : ∀ (ob : Obs) (i : Nat), (mrg f i ob).length = ob.length
  | [], _ => rfl
  | x :: xs, i => by simp [mrg, mrg_len f xs]
theorem idx_get {σ : List Nat} {o i : Nat} (h : σ.idxOf? o = some i) : σ[i]? = some o := by
  rw [List.idxOf?_eq_some_iff] at h
  obtain ⟨h1, h2, _⟩ := h
  rw [List.getElem?_eq_getElem h1, h2]
theorem get_idx {σ : List Nat} (hn : σ.Nodup) {o i : Nat} (h : σ[i]? = some o) : σ.idxOf? o = some i := by
  obtain ⟨h1, h2⟩ := List.getElem?_eq_some_iff.1 h
  rw [List.idxOf?_eq_some_iff]
  refine ⟨h1, h2, fun j hj hjo => ?_⟩
  have := nodup_inj hn (show j < σ.length by omega) h1 (hjo.trans h2.symm)
  omega
theorem VA.noB_ok {w : World} {ρ : Nat → Nat → Option Loc} {r r' : Bool → Nat → Prop} (hr : ∀ x, r false x → r' false x) {x : LV} {v : Value} (hx : x.noB = true) (h : VL w ρ r x v) : VL w ρ r' x v := by
  cases x with
  | dsl b len cs => cases b with
    | false => exact VD.mono (fun x hx => ⟨hr _ hx, rfl⟩) h
    | true => simp [LV.noB] at hx
  | dptr b cs => cases b with
    | false => obtain ⟨ad, h1, h2⟩ := h; exact ⟨ad, h1, h2.mono fun x hx => ⟨hr _ hx, rfl⟩⟩
    | true => simp [LV.noB] at hx
  | _ => exact h
theorem lk_mem {L : List (Nat × Nat × List DV)} {o g : Nat} {ds : List DV} (h : lk L o g = some ds) : (o, g, ds) ∈ L := by
  induction L with
  | nil => simp [lk] at h
  | cons p r ih =>
    obtain ⟨p1, p2, p3⟩ := p
    simp only [lk] at h
    split at h
    · rename_i hh; obtain ⟨rfl, rfl⟩ := hh; cases h; exact List.mem_cons_self
    · exact List.mem_cons_of_mem _ (ih h)
structure LendOk (σ : List Nat) (ob : Obs) (L : List (Nat × Nat × List DV)) : Prop where
  nd : σ.Nodup
  lt : ∀ s ∈ σ, s < ob.length
  ap : ∀ p ∈ L, p.1 ∉ σ
  ro : ∀ p ∈ L, ∃ x, ob.getD p.1 none = some x ∧ x.g = p.2.1 ∧ ∃ b, x.cs = p.2.2.map (LV.ofD b)
theorem getD_some {ob : Obs} {o : Nat} {x : Ob} (h : ob.getD o none = some x) : ob[o]? = some (some x) := by
  rw [List.getD_eq_getElem?_getD] at h
  cases hq : ob[o]? with
  | none => rw [hq] at h; simp at h
  | some y => rw [hq] at h; simp at h; rw [h]
theorem VC.ofD {w : World} {ρ : Nat → Nat → Option Loc} {r : Bool → Nat → Prop} {r' : Nat → Prop} (hr : ∀ b x, r b x → r' x) {b : Bool} {d : DV} {v : Value} (h : VC w ρ r (LV.ofD b d) v) : VD w r' d v := by
  cases d with
  | sc x => have e : v = x := h.1; subst e; exact .sc _ h.2
  | nils => have e : v = .slice none 0 0 := h.1; subst e; exact .nils
  | dsl len cs => exact VD.mono (fun x hx => ⟨hr _ _ hx, rfl⟩) h.1
theorem CallsA.frame {P : Program} {f : FuncId} {args : List AV} {ob : Obs} {Q Q' : AV → Obs → Prop} (σ : List Nat) (L : List (Nat × Nat × List DV)) (hL : LendOk σ ob L) (h : CallsA P f (args.map (AV.toC σ L)) (obC σ ob) Q)
    (hQ : ∀ r ob1, Q r ob1 → σ.length ≤ ob1.length ∧ (L = [] ∨ (r.noB = true ∧ obNoB ob1 = true)) ∧ Q' (r.ren (mB σ ob.length)) (obB σ ob ob1)) : CallsA P f args ob Q' := by
  intro w cx vs hM hv
  -- the callee's view
  let lent : Nat → Prop := fun b => ∃ p ∈ L, ∃ l, cx.ρ p.1 p.2.1 = some l ∧ 0 < l.room ∧ l.b = b
  let cc : Cx := { ρ := fun i g => (σ[i]?).bind fun o => cx.ρ o g, pm := cx.pm, bs := fun b => cx.bs b ∨ cx.pm b ∨ lent b }
  have hm : ∀ o g (p : Nat × Nat) l, mC σ o g = some p → cx.ρ o g = some l → cc.ρ p.1 p.2 = some l := by
    intro o g p l hp hl
    simp only [mC, Option.map_eq_some_iff] at hp
    obtain ⟨i, hi, rfl⟩ := hp
    show (σ[i]?).bind _ = _
    rw [idx_get hi]; exact hl
  have hro : ∀ b x, RO w cx ob b x → RO w cc (obC σ ob) b x := fun b x hx => ⟨hx.1, hx.2.imp id fun h => ⟨h.1, .inl h.2⟩⟩
  have hroT : ∀ b x, RO w cx ob b x → RO w cc (obC σ ob) true x := fun b x hx => ⟨hx.1, .inr ⟨rfl, by
    rcases hx.2 with h | h
    · exact .inr (.inl h)
    · exact .inl h.2⟩⟩
  have obCg : ∀ {i : Nat} {x1 : Ob}, (obC σ ob)[i]? = some (some x1) → ∃ (o : Nat) (x : Ob), σ[i]? = some o ∧ ob[o]? = some (some x) ∧ x1 = (⟨x.g, x.cs.map (LV.ren (mC σ))⟩ : Ob) := by
    intro i x1 h1
    simp only [obC, List.getElem?_map, Option.map_eq_some_iff] at h1
    obtain ⟨o, h2, x, h3, h4⟩ := h1
    exact ⟨o, x, h2, getD_some h3, h4.symm⟩
  have ccρ : ∀ {i o g : Nat}, σ[i]? = some o → cc.ρ i g = cx.ρ o g := by
    intro i o g h1
    show (σ[i]?).bind _ = _
    rw [h1]; rfl
  have hlv : ∀ b, Live cc (obC σ ob) b → ∃ o x l, o ∈ σ ∧ ob[o]? = some (some x) ∧ cx.ρ o x.g = some l ∧ 0 < l.room ∧ l.b = b := by
    rintro b ⟨i, x1, l, h1, h2, h3, h4⟩
    obtain ⟨o, x, h5, h6, rfl⟩ := obCg h1
    rw [ccρ h5] at h2
    exact ⟨o, x, l, List.mem_of_getElem? h5, h6, h2, h3, h4⟩
  have hlv' : ∀ b, Live cc (obC σ ob) b → Live cx ob b := fun b h => by
    obtain ⟨o, x, l, _, h1, h2, h3, h4⟩ := hlv b h
    exact ⟨o, x, l, h1, h2, h3, h4⟩
  have lentLive : ∀ b, lent b → ∃ p x l, p ∉ σ ∧ ob[p]? = some (some x) ∧ cx.ρ p x.g = some l ∧ 0 < l.room ∧ l.b = b := by
    rintro b ⟨p, hp, l, h1, h2, h3⟩
    obtain ⟨x, h4, h5, _⟩ := hL.ro p hp
    exact ⟨p.1, x, l, hL.ap p hp, getD_some h4, by rw [h5]; exact h1, h2, h3⟩
  have hMc : MemOk w cc (obC σ ob) := by
    refine ⟨?_, ?_, ?_, ?_, ?_, ?_⟩
    · intro i x1 h1
      obtain ⟨o, x, h2, h3, rfl⟩ := obCg h1
      obtain ⟨l, h4, hR⟩ := hM.rep o x h3
      exact ⟨l, (ccρ h2).trans h4, hR.move (fun _ => rfl) (fun vs h => All2.map_l (h.imp fun _ _ h => VC.ren hm hro h)) (by simp) (fun es clock h => by simp only [h]; rfl)⟩
    · intro i x1 g h1 h2
      obtain ⟨o, x, h3, h4, rfl⟩ := obCg h1
      rw [ccρ h3]
      exact hM.gen o x g h4 h2
    · intro i g hi
      show (σ[i]?).bind _ = none
      rw [List.getElem?_eq_none (by simpa [obC] using hi)]; rfl
    · intro i j x1 x2 l1 l2 h1 h2 h3 h4 h5 h6 h7
      obtain ⟨o, x, a1, a2, rfl⟩ := obCg h1
      obtain ⟨o', x', b1, b2, rfl⟩ := obCg h2
      rw [ccρ a1] at h3
      rw [ccρ b1] at h4
      have := hM.dis o o' x x' l1 l2 a2 b2 h3 h4 h5 h6 h7
      subst this
      have e1 := get_idx hL.nd a1
      rw [get_idx hL.nd b1] at e1
      exact (Option.some.inj e1).symm
    · intro b hb
      obtain ⟨h1, h2⟩ := hM.pml b hb
      exact ⟨h1, fun h => h2 (hlv' b h)⟩
    · rintro b (hb | hb | hb)
      · obtain ⟨h1, h2⟩ := hM.bsl b hb
        exact ⟨h1, fun h => h2 (hlv' b h)⟩
      · obtain ⟨h1, h2⟩ := hM.pml b hb
        exact ⟨h1, fun h => h2 (hlv' b h)⟩
      · obtain ⟨p, x, l, h1, h2, h3, h4, h5⟩ := lentLive b hb
        obtain ⟨l', h6, hR⟩ := hM.rep p x h2
        rw [h3] at h6; cases h6
        refine ⟨by rw [← h5]; exact hR.lt h4, fun h => ?_⟩
        obtain ⟨o, x', l', h8, h9, h10, h11, h12⟩ := hlv b h
        have := hM.dis p o x x' l l' h2 h9 h3 h10 h4 h11 (by omega)
        subst this
        exact h1 h8
  have toC : ∀ x v, VL w cx.ρ (RO w cx ob) x v → VL w cc.ρ (RO w cc (obC σ ob)) (x.toC σ L) v := by
    intro x v hx
    cases x with
    | obj o g sz off len =>
      simp only [LV.toC]
      cases hk : lk L o g with
      | none => exact VL.ren hm hro hx
      | some ds =>
        obtain ⟨x, h1, h2, b, h3⟩ := hL.ro _ (lk_mem hk)
        simp only at h1 h2 h3
        obtain ⟨l, a, cap, h4, rfl, h5, h6, h7, h8, hmp⟩ := hx
        obtain ⟨l', h9, hR⟩ := hM.rep o x (getD_some h1)
        rw [h2, h4] at h9; cases h9
        obtain ⟨h10, h11, us, h12, h13⟩ := hR.row hmp
        have hl13 := h13.len
        rw [h3, List.length_map] at hl13
        show VD w _ (.dsl len _) _
        have hcs : x.cs.length = ds.length := by rw [h3]; simp
        refine .dsl len _ a cap (fun i => us.getD (off + i) undef) h5 h8 (fun i hi => ?_) (fun i hi => ?_)
        · rw [List.length_take, List.length_drop] at hi
          have hlen0 : 0 < len := by
            rcases Nat.eq_zero_or_pos len with h0 | h0
            · subst h0; simp at hi
            · exact h0
          refine ⟨_, h7 (by omega), rfl, ⟨World.there_lt h11 (by omega), .inr ⟨rfl, .inr (.inr ⟨(o, g, ds), lk_mem hk, l, h4, by omega, rfl⟩)⟩⟩, ?_⟩
          rw [Addr.add_mid, Nat.add_assoc]
          refine h12 (off + i) _ ?_
          rw [List.getD_eq_getElem?_getD, List.getElem?_eq_getElem (by omega)]; rfl
        · rw [List.length_take, List.length_drop] at hi
          obtain ⟨u, h14, h15⟩ := h13.get (i := off + i) (a := LV.ofD b ds[off + i]) (by rw [h3, List.getElem?_map, List.getElem?_eq_getElem (by omega)]; rfl)
          have e1 : us.getD (off + i) undef = u := by rw [List.getD_eq_getElem?_getD, h14]; rfl
          rw [e1, List.getD_eq_getElem?_getD, List.getElem?_take, if_pos (by omega), List.getElem?_drop, List.getElem?_eq_getElem (by omega)]
          exact VC.ofD hroT h15
    | _ => exact VL.ren hm hro hx
  have hargs : All2 (VA w cc.ρ (RO w cc (obC σ ob))) (args.map (AV.toC σ L)) vs := by
    refine All2.map_l (hv.imp fun x v hx => ?_)
    cases x with
    | l x => exact toC x v hx
    | agg cs => obtain ⟨us, h1, h2⟩ := hx; exact ⟨us, h1, All2.map_l (h2.imp fun _ _ h => ⟨toC _ _ h.1, h.2⟩)⟩
    | tup ts => obtain ⟨us, h1, h2⟩ := hx; exact ⟨us, h1, All2.map_l (h2.imp fun _ _ h => VT.ren hm hro h)⟩
  refine (h w cc vs hMc hargs).mono fun e w' ⟨v, r, ob1, c1, he, hq, hE, hM1, hr1⟩ => ?_
  obtain ⟨hk1, hnoB, hq'⟩ := hQ r ob1 hq
  -- back at the caller
  let n := ob.length
  let cx' : Cx := { ρ := fun o g => if o < n then (match σ.idxOf? o with | some i => c1.ρ i g | none => cx.ρ o g) else c1.ρ (σ.length + (o - n)) g, pm := c1.pm, bs := cx.bs }
  have hmB : ∀ o g (p : Nat × Nat) l, mB σ n o g = some p → c1.ρ o g = some l → cx'.ρ p.1 p.2 = some l := by
    intro o g p l hp hl
    unfold mB at hp
    split at hp
    · rename_i s hs
      cases hp
      have hsn : s < n := hL.lt s (List.mem_of_getElem? hs)
      show (if s < n then _ else _) = _
      rw [if_pos hsn, get_idx hL.nd hs]; exact hl
    · rename_i hs
      cases hp
      have : σ.length ≤ o := by
        rcases Nat.lt_or_ge o σ.length with h | h
        · rw [List.getElem?_eq_getElem h] at hs; cases hs
        · exact h
      show (if n + (o - σ.length) < n then _ else _) = _
      rw [if_neg (by omega), show σ.length + (n + (o - σ.length) - n) = o by omega]; exact hl
  have hpmn : ∀ b, b < w.heap.size → c1.pm b → cx.pm b ∨ Live cc (obC σ ob) b := hE.pmn
  have hroF : ∀ x, RO w' c1 ob1 false x → RO w' cx' (obB σ ob ob1) false x := fun x hx => ⟨hx.1, hx.2.imp id fun h => absurd h.1 (by simp)⟩
  have hroA : L = [] → ∀ b x, RO w' c1 ob1 b x → RO w' cx' (obB σ ob ob1) b x := fun hnil b x hx => ⟨hx.1, by
    rcases hx.2 with h | ⟨h1, h2⟩
    · exact .inl h
    · rcases (hE.bse x).1 h2 with h3 | h3 | ⟨p, hp, _⟩
      · exact .inr ⟨h1, h3⟩
      · exact .inl (hE.pmm x h3)
      · rw [hnil] at hp; cases hp⟩
  have backL : ∀ x v, (L = [] ∨ x.noB = true) → VL w' c1.ρ (RO w' c1 ob1) x v → VL w' cx'.ρ (RO w' cx' (obB σ ob ob1)) (x.ren (mB σ n)) v := by
    intro x v hx hv
    rcases hx with hx | hx
    · exact VL.ren hmB (hroA hx) hv
    · have h1 := VA.noB_ok (r' := fun b y => RO w' cx' (obB σ ob ob1) b y) hroF hx hv
      exact VL.ren hmB (fun _ _ h => h) h1
  have backT : ∀ x v, (L = [] ∨ x.noB = true) → VT w' c1.ρ (RO w' c1 ob1) x v → VT w' cx'.ρ (RO w' cx' (obB σ ob ob1)) (x.ren (mB σ n)) v := by
    intro x v hx hv
    cases x with
    | l x => exact backL x v hx hv
    | agg cs =>
      obtain ⟨us, h1, h2⟩ := hv
      refine ⟨us, h1, All2.map_l (All2.of h2.len fun i a b ha hb => ?_)⟩
      obtain ⟨b', hb', h3⟩ := h2.get ha
      rw [hb] at hb'; cases hb'
      exact ⟨backL a b (hx.imp id fun h => List.all_eq_true.1 h a (List.mem_of_getElem? ha)) h3.1, h3.2⟩
  have hvr : VA w' cx'.ρ (RO w' cx' (obB σ ob ob1)) (r.ren (mB σ n)) v := by
    have hx : L = [] ∨ r.noB = true := hnoB.imp id fun h => h.1
    cases r with
    | l x => exact backL x v hx hr1
    | agg cs => exact backT (.agg cs) v hx hr1
    | tup ts =>
      obtain ⟨us, h1, h2⟩ := hr1
      refine ⟨us, h1, All2.map_l (All2.of h2.len fun i a b ha hb => ?_)⟩
      obtain ⟨b', hb', h3⟩ := h2.get ha
      rw [hb] at hb'; cases hb'
      exact backT a b (hx.imp id fun h => List.all_eq_true.1 h a (List.mem_of_getElem? ha)) h3
  -- the rows behind the call
  have hget : ∀ {j : Nat} {y : Ob}, (obB σ ob ob1)[j]? = some (some y) → (∃ (i : Nat) (x : Ob), ob1[i]? = some (some x) ∧ y = x.ren (mB σ n) ∧ cx'.ρ j = c1.ρ i ∧ (j < n ∧ σ[i]? = some j ∨ n ≤ j ∧ i = σ.length + (j - n))) ∨ (j < n ∧ j ∉ σ ∧ ob[j]? = some (some y) ∧ cx'.ρ j = cx.ρ j) := by
    intro j y hj
    unfold obB at hj
    by_cases hjn : j < n
    · rw [List.getElem?_append_left (by rw [mrg_len]; exact hjn), mrg_get] at hj
      simp only [Nat.zero_add, Option.map_eq_some_iff] at hj
      obtain ⟨z, h1, h2⟩ := hj
      cases hi : σ.idxOf? j with
      | none =>
        rw [hi] at h2
        simp at h2
        subst h2
        refine .inr ⟨hjn, by simpa using hi, h1, ?_⟩
        funext g
        show (if j < n then _ else _) = _
        rw [if_pos hjn, hi]
      | some i =>
        rw [hi] at h2
        have hin : i < ob1.length := by
          have := (List.getElem?_eq_some_iff.1 (idx_get hi)).1; omega
        simp only [Option.bind_some, List.getElem?_eq_getElem hin, Option.map_some, Option.getD_some, Option.map_eq_some_iff] at h2
        obtain ⟨x, h3, h4⟩ := h2
        refine .inl ⟨i, x, by rw [List.getElem?_eq_getElem hin, h3], h4.symm, ?_, .inl ⟨hjn, idx_get hi⟩⟩
        funext g
        show (if j < n then _ else _) = _
        rw [if_pos hjn, hi]
    · rw [List.getElem?_append_right (by rw [mrg_len]; exact Nat.le_of_not_lt hjn), mrg_len] at hj
      simp only [List.getElem?_map, List.getElem?_drop, Option.map_eq_some_iff] at hj
      obtain ⟨z, h1, x, h2, h3⟩ := hj
      subst h2
      refine .inl ⟨_, x, h1, h3.symm, ?_, .inr ⟨by omega, rfl⟩⟩
      funext g
      show (if j < n then _ else _) = _
      rw [if_neg hjn]
  have stay : ∀ {j : Nat} {y : Ob} {l : Loc}, j ∉ σ → ob[j]? = some (some y) → cx.ρ j y.g = some l → 0 < l.room → l.b < w.heap.size ∧ ¬ Live cc (obC σ ob) l.b ∧ w'.heap[l.b]? = w.heap[l.b]? ∧ ¬ Live c1 ob1 l.b ∧ Live cx ob l.b := by
    intro j y l h1 h2 h3 h4
    obtain ⟨l', h5, hR⟩ := hM.rep j y h2
    rw [h3] at h5; cases h5
    have hlt := hR.lt h4
    have hnl : ¬ Live cc (obC σ ob) l.b := fun h => by
      obtain ⟨o, x, l', a1, a2, a3, a4, a5⟩ := hlv _ h
      have := hM.dis j o y x l l' h2 a2 h3 a3 h4 a4 a5.symm
      subst this
      exact h1 a1
    have hk := hE.keep l.b hlt hnl
    exact ⟨hlt, hnl, hk.1, hk.2, j, y, l, h2, h3, h4, rfl⟩
  have hlive' : ∀ b, Live cx' (obB σ ob ob1) b → Live c1 ob1 b ∨ ∃ j y l, j ∉ σ ∧ ob[j]? = some (some y) ∧ cx.ρ j y.g = some l ∧ 0 < l.room ∧ l.b = b := by
    rintro b ⟨j, y, l, h1, h2, h3, h4⟩
    rcases hget h1 with ⟨i, x, a1, rfl, a3, _⟩ | ⟨a0, a1, a2, a3⟩
    · rw [a3] at h2
      exact .inl ⟨i, x, l, a1, h2, h3, h4⟩
    · rw [a3] at h2
      exact .inr ⟨j, y, l, a1, a2, h2, h3, h4⟩
  have hE' : Ext w cx ob w' cx' (obB σ ob ob1) := by
    refine ⟨hE.os, hE.tape, hE.output, hE.size, fun b hb hlive => ?_, fun b hb => hE.pmm b hb, fun b hb hp => ?_, fun o g l hl => ?_, fun _ => Iff.rfl⟩
    · have hk := hE.keep b hb (fun h => hlive (hlv' b h))
      refine ⟨hk.1, fun h => ?_⟩
      rcases hlive' b h with h1 | ⟨j, y, l, h1, h2, h3, h4, h5⟩
      · exact hk.2 h1
      · exact hlive ⟨j, y, l, h2, h3, h4, h5⟩
    · exact (hpmn b hb hp).imp id (hlv' b)
    · have hon : o < n := by
        rcases Nat.lt_or_ge o n with h | h
        · exact h
        · rw [hM.top o g h] at hl; cases hl
      show (if o < n then _ else _) = _
      rw [if_pos hon]
      cases hi : σ.idxOf? o with
      | none => exact hl
      | some i => exact hE.rho i g l (by rw [ccρ (idx_get hi)]; exact hl)
  have hM' : MemOk w' cx' (obB σ ob ob1) := by
    have hlenB : (obB σ ob ob1).length = n + (ob1.length - σ.length) := by simp [obB, mrg_len]; rfl
    refine ⟨?_, ?_, ?_, ?_, ?_, ?_⟩
    · intro j y hj
      rcases hget hj with ⟨i, x, a1, rfl, a3, _⟩ | ⟨a0, a1, a2, a3⟩
      · obtain ⟨l, h1, hR⟩ := hM1.rep i x a1
        refine ⟨l, by rw [a3]; exact h1, hR.move (fun _ => rfl) (fun us h5 => All2.map_l (All2.of h5.len fun k c u hc hu => ?_)) (by simp [Ob.ren]) (fun es clock h => by simp only [Ob.ren, h]; rfl)⟩
        obtain ⟨u', hu', h6⟩ := h5.get hc
        rw [hu] at hu'; cases hu'
        refine ⟨backL c u (hnoB.imp id fun h => ?_) h6.1, h6.2⟩
        have := List.all_eq_true.1 h.2 (some x) (List.mem_of_getElem? a1)
        exact List.all_eq_true.1 this c (List.mem_of_getElem? hc)
      · obtain ⟨l, h1, hR⟩ := hM.rep j y a2
        exact ⟨l, by rw [a3]; exact h1, hR.move (fun hz => (stay a1 a2 h1 hz).2.2.1) (fun us h5 => h5.imp fun _ _ h => hE'.vc hM h) rfl (fun _ _ h => h)⟩
    · intro j y g hj hg
      rcases hget hj with ⟨i, x, a1, rfl, a3, _⟩ | ⟨a0, a1, a2, a3⟩
      · rw [a3]; exact hM1.gen i x g a1 hg
      · rw [a3]; exact hM.gen j y g a2 hg
    · intro j g hj
      rw [hlenB] at hj
      show (if j < n then _ else _) = _
      rw [if_neg (by omega)]
      exact hM1.top _ g (by omega)
    · intro j j' y y' l l' h1 h2 h3 h4 h5 h6 h7
      rcases hget h1 with ⟨i, x, a1, rfl, a3, a4⟩ | ⟨a0, a1, a2, a3⟩ <;> rcases hget h2 with ⟨i', x', b1, rfl, b3, b4⟩ | ⟨b0, b1, b2, b3⟩
      · rw [a3] at h3
        rw [b3] at h4
        have := hM1.dis i i' x x' l l' a1 b1 h3 h4 h5 h6 h7
        subst this
        rcases a4 with ⟨c1, c2⟩ | ⟨c1, c2⟩ <;> rcases b4 with ⟨d1, d2⟩ | ⟨d1, d2⟩
        · rw [c2] at d2; exact Option.some.inj d2
        · have := (List.getElem?_eq_some_iff.1 c2).1; omega
        · have := (List.getElem?_eq_some_iff.1 d2).1; omega
        · omega
      · exfalso
        rw [a3] at h3
        rw [b3] at h4
        exact (stay b1 b2 h4 h6).2.2.2.1 ⟨i, x, l, a1, h3, h5, h7⟩
      · exfalso
        rw [a3] at h3
        rw [b3] at h4
        exact (stay a1 a2 h3 h5).2.2.2.1 ⟨i', x', l', b1, h4, h6, h7.symm⟩
      · rw [a3] at h3
        rw [b3] at h4
        exact hM.dis j j' y y' l l' a2 b2 h3 h4 h5 h6 h7
    · intro b hb
      obtain ⟨h1, h2⟩ := hM1.pml b hb
      refine ⟨h1, fun h => ?_⟩
      rcases hlive' b h with h3 | ⟨j, y, l, h3, h4, h5, h6, rfl⟩
      · exact h2 h3
      · obtain ⟨c1, c2, _, _, c5⟩ := stay h3 h4 h5 h6
        rcases hpmn _ c1 hb with h7 | h7
        · exact (hM.pml _ h7).2 c5
        · exact c2 h7
    · intro b hb
      obtain ⟨h1, h2⟩ := hM.bsl b hb
      refine ⟨Nat.lt_of_lt_of_le h1 hE.size, fun h => ?_⟩
      rcases hlive' b h with h3 | ⟨j, y, l, h3, h4, h5, h6, rfl⟩
      · exact (hE.keep b h1 (fun h => h2 (hlv' b h))).2 h3
      · exact h2 ⟨j, y, l, h4, h5, h6, rfl⟩
  exact ⟨v, _, _, cx', he, hq', hE', hM', hvr⟩
theorem CallK.use {P : Program} {f : FuncId} {args : List AV} {st : St} {d : Option Tmp} {K : St → Prop} {Q : AV → Obs → Prop} (σ : List Nat) (L : List (Nat × Nat × List DV)) (hL : LendOk σ st.ob L) (h : CallsA P f (args.map (AV.toC σ L)) (obC σ st.ob) Q)
    (hQ : ∀ r ob1, Q r ob1 → σ.length ≤ ob1.length ∧ (L = [] ∨ (r.noB = true ∧ obNoB ob1 = true)) ∧ K ⟨putT st.tm d (r.ren (mB σ st.ob.length)), obB σ st.ob ob1⟩) : CallK P f args st d K :=
  CallsA.frame σ L hL h hQ
end Go.Proofs.YtkdkbnacelnljaaGreat.RE
