/- Appends, new rows and slices of the abstract memory are those of the model. Conditions: those that a theorem names. -/
import Derived.Test.YtkdkbnacelnljaaGreatNRG
import Derived.Laws.BytesString
set_option linter.unusedVariables false
set_option linter.unusedSimpArgs false
namespace Go.Proofs.YtkdkbnacelnljaaGreat.RE
open Go Go.RowKit

/-- A row that a law hands over as the call's own. -/
theorem mem_own {w w' : World} {cx : Cx} {ob ob' : Obs} {o : Nat} {x : Ob} {e size n : Nat} {v : Value} {us : List Value} (hM : MemOk w cx ob)
    (h1 : ob'[o]? = some (some x)) (h2 : ∀ j, j ≠ o → ob'[j]? = ob[j]?) (hg : ∀ g, x.g ≤ g → cx.ρ o g = none) (hlen : ob.length ≤ ob'.length)
    (hown : w'.ownsRow w.heap.size e size v n us) (hgr : w.grownBy w' none) (hn : 0 < n) (hv : All2 (VC w cx.ρ (RO w cx ob)) x.cs us) :
    ∃ cx', Ext w cx ob w' cx' ob' ∧ MemOk w' cx' ob' ∧ VL w' cx'.ρ (RO w' cx' ob') (.obj o x.g size 0 n) v := by
  obtain ⟨hl, hh⟩ := hown
  rcases hh with ⟨_, h0⟩ | ⟨g, cap, cur, rfl, hb, hg', hnc, hcm, hcs, htk⟩
  · omega
  have hle : us.length ≤ cur.size := by rw [hl, hcs]; exact Nat.mul_le_mul_right _ hnc
  have hre : w'.rangeAt g 0 us := by
    have := rangeAt_of_cells hg'
    rw [← List.take_append_drop (n * size) cur.toList, htk] at this
    exact rangeAt_left this
  obtain ⟨cx', hE, hM', hρ⟩ := mem_put (l := ⟨g, 0, cur.size, false⟩) hM h1 h2 hg hlen ⟨hgr.os, hgr.tape, hgr.output, hgr.size, fun b hb' _ => hgr.block b hb' (by simp)⟩
    (fun _ => .inl hb) (there_of_cells hg' (Nat.le_refl _)) hre hv (by rw [hv.len]; exact hle)
  exact ⟨cx', hE, hM', ⟨g, 0, cur.size, false⟩, _, cap, hρ, rfl, hnc, by show 0 + cap * size ≤ cur.size; omega, fun _ => rfl, hcm, rfl⟩
theorem app_old {ob : Obs} (x : Option Ob) : ∀ j, j ≠ ob.length → (ob ++ [x])[j]? = ob[j]? := fun j hj => by
  by_cases hj' : j < ob.length
  · rw [List.getElem?_append_left hj']
  · rw [List.getElem?_append_right (by omega), List.getElem?_eq_none (by simp; omega), List.getElem?_eq_none (by omega)]
theorem VD.cellsrow {w : World} {ρ : Nat → Nat → Option Loc} {r : Bool → Nat → Prop} {b : Bool} {cs : List DV} {ad : Addr} (h : RowD w (r b) cs ad) :
    ∃ us : List Value, All2 (VC w ρ r) (cs.map (LV.ofD b)) us ∧ ∀ j u, us[j]? = some u → w.cell? (ad.add j) = some u := by
  obtain ⟨hs, us, hu⟩ := h
  refine ⟨(List.range cs.length).map us, All2.of (by simp) (fun i a v ha hv => ?_), fun j u hj => ?_⟩
  · have hi : i < cs.length := by have := (List.getElem?_eq_some_iff.1 ha).1; simpa using this
    simp [hi] at ha hv
    subst ha hv
    have h1 := (hu i hi).2.2
    rw [List.getD_eq_getElem?_getD, List.getElem?_eq_getElem hi] at h1
    simp at h1
    refine ⟨?_, h1.one⟩
    revert h1
    generalize cs[i] = x
    generalize us i = ui
    intro h1
    cases x with
    | sc v => cases h1; rfl
    | nils => cases h1; rfl
    | dsl len c => exact h1
  · have hj' : j < cs.length := by have := (List.getElem?_eq_some_iff.1 hj).1; simpa using this
    simp [hj'] at hj
    subst hj
    exact (hu j hj').2.1
section
variable {E : Env} {B : Base} {K : St → Prop} {st : St} {o : Oper}
theorem src_ok {w : World} {cx : Cx} {ob : Obs} (hM : MemOk w cx ob) {sz m : Nat} {xs : List LV} {x : AV} {v : Value} (hv : VA w cx.ρ (RO w cx ob) x v) (h : srcF ob sz x = some (m, xs)) :
    xs.length = m * sz ∧ ∃ ax c us, v = .slice ax m c ∧ m ≤ c ∧ All2 (VC w cx.ρ (RO w cx ob)) xs us ∧ (0 < us.length → 0 < m → ∃ ad, ax = some ad ∧ ∀ j u, us[j]? = some u → w.cell? (ad.add j) = some u) := by
  unfold srcF at h
  split at h
  · simp at h; obtain ⟨rfl, rfl⟩ := h
    have : v = .slice none 0 0 := hv
    exact ⟨by simp, none, 0, [], this, Nat.le_refl _, .nil, fun h => absurd h (by simp)⟩
  · rename_i b n cs
    split at h
    case isFalse => cases h
    rename_i hl
    simp at h; obtain ⟨rfl, rfl⟩ := h
    obtain ⟨a, cap, rfl, h1, _, h2⟩ := VD.row hv
    refine ⟨by simpa using hl, a, cap, ?_⟩
    by_cases h0 : 0 < cs.length
    · obtain ⟨ad, ha, hr⟩ := h2 h0
      obtain ⟨us, h3, h4⟩ := VD.cellsrow (ρ := cx.ρ) (r := RO w cx ob) hr
      exact ⟨us, rfl, h1, h3, fun _ _ => ⟨ad, ha, h4⟩⟩
    · have : cs = [] := List.eq_nil_of_length_eq_zero (by omega)
      subst this
      exact ⟨[], rfl, h1, .nil, fun h => absurd h (by simp)⟩
  · rename_i o1 g s off n
    split at h
    case h_2 => cases h
    rename_i q hq
    split at h
    case isFalse => cases h
    rename_i hc
    obtain ⟨hg, rfl, hle⟩ := hc
    simp at h; obtain ⟨rfl, rfl⟩ := h
    obtain ⟨l, a, cap, h1, rfl, h2, h3, h4, _, hmp⟩ := hv
    have h5 : ob[o1]? = some (some q) := by
      rw [List.getD_eq_getElem?_getD] at hq
      cases h : ob[o1]? with
      | none => rw [h] at hq; simp at hq
      | some p => rw [h] at hq; simp at hq; rw [hq]
    obtain ⟨l', h6, hR⟩ := hM.rep o1 q h5
    rw [hg, h1] at h6; simp at h6; subst h6
    obtain ⟨h7, h8, vs, h9, h10⟩ := hR.row hmp
    refine ⟨by rw [List.length_take, List.length_drop]; omega, a, cap, (vs.drop off).take (n * s), rfl, h2, (h10.drop off).take _, fun h0 hn => ?_⟩
    refine ⟨_, h4 (by omega), fun j u hj => ?_⟩
    rw [Addr.add_mid]
    exact range_part h9 off (n * s) j u hj
  · cases h
theorem run_append_zero {P : Program} (w : World) (t ty e : TypeId) (i : TypeInfo) (ht : P.underlying t = some (.slice e)) (hi : P.info? e = some i) (a ax : Option Addr) (n cap c : Nat) (h : n ≤ cap) :
    (Builtin.append_ #[t, t] ty #[.slice a n cap, .slice ax 0 c]).run P w = .ok (.slice a n cap) w := by
  have hl : ∀ x : Addr, (loadCells x 0).run P w = .ok #[] w := fun x => by simpa using run_loadCells_list (P := P) w x [] (by simp)
  cases a <;> cases ax <;> simp [Builtin.append_, run_underlying ht, sizeOf, typeInfo, hi, Builtin.lenOf, Builtin.firstCells, h, storeCells, hl]
theorem app_run {P : Program} {t : TypeId} {s x : Operand} (ho : o.op = .call { callee := .builtin .append, args := #[s, x], argTypes := #[t, t] }) (a : Act) (w w' : World) {v : Value} (h : (Builtin.append_ #[t, t] o.type #[a.eval s, a.eval x]).run P w = .ok v w') :
    (execOp a.eval o).run P w = .ok (.value v) w' := by
  simp [execOp, ho, resolve, invoke, builtin, h]
theorem app_ok {t : TypeId} {s x : Operand} (ho : o.op = .call { callee := .builtin .append, args := #[s, x], argTypes := #[t, t] }) (h : appF E K st o.dst t (rd st.tm s) (rd st.tm x)) : OpB E.P B o K st := by
  unfold appF at h
  split at h
  case h_2 => exact h.elim
  rename_i e _ _ _ hT
  split at h
  case h_2 => exact h.elim
  rename_i y hy
  obtain ⟨u, _, _, F⟩ := E.facts hT
  obtain rfl := (und_eq F).1 _ rfl
  obtain ⟨_, i, z, F2⟩ := E.facts hy
  split at h
  · rename_i m xs hs hx
    obtain ⟨⟨hb, hm, hsz⟩, hK⟩ := h
    refine OpB.new hK fun a w cx hM ht => ?_
    have es : a.eval s = .slice none 0 0 := by have := rd_ok ht s; rw [hs] at this; exact this
    obtain ⟨hl, ax, c, us, ex, hmc, hus, hsrc⟩ := src_ok hM (rd_ok ht x) hx
    have hul := hus.len
    by_cases hm0 : m = 0
    · subst hm0
      have hnil : us = [] := List.eq_nil_of_length_eq_zero (by omega)
      have hxn : xs = [] := List.eq_nil_of_length_eq_zero (by omega)
      subst hnil hxn
      obtain ⟨cx', hE, hM', hρ⟩ := mem_put (w' := w) (ob' := st.ob ++ [some ⟨0, []⟩]) (o := st.ob.length) (x := ⟨0, []⟩) (l := ⟨0, 0, 0, false⟩) (vs := []) hM (by simp) (app_old _) (fun g _ => hM.top _ _ (Nat.le_refl _)) (by simp)
        ⟨rfl, rfl, rfl, Nat.le_refl _, fun _ _ _ => rfl⟩ (fun h => absurd h (by simp)) (fun j hj => absurd hj (by simp)) (fun j v hj => by simp at hj) .nil (by simp)
      refine ⟨.slice none 0 0, w, cx', app_run ho a w w (by rw [es, ex]; exact run_append_zero w t o.type e i F.und F2.info none ax 0 0 c (Nat.le_refl _)), hE, hM', ⟨0, 0, 0, false⟩, none, 0, hρ, rfl, Nat.le_refl _, by simp, fun h => absurd h (by simp), by simp, rfl⟩
    · have hm1 : 0 < m := by omega
      have hup : 0 < us.length := by rw [← hul, hl]; exact Nat.mul_pos hm1 hsz
      obtain ⟨ad, rfl, hc⟩ := hsrc hup hm1
      have one : ∀ u ∈ us, u.oneCell' = true := fun u hu => by
        obtain ⟨j, hj⟩ := List.getElem?_of_mem hu
        obtain ⟨_, _, h⟩ := hus.get' hj
        exact h.2
      obtain ⟨v, w', hr, hown, hgr, _⟩ := run_append_own (P := E.P) w w.heap.size t o.type e i z y.size y.bytes F.und F2.info F2.zero F2.size F2.bytes F2.zn hsz (.slice none 0 0) 0 [] (World.ownsRow_nil w _ e y.size) ad m c us (by rw [← hul, hl]) hc one (by omega) (by rw [Nat.zero_add]; exact hb) (Nat.le_refl _)
      simp only [Nat.zero_add, List.nil_append] at hown
      obtain ⟨cx', hE, hM', hv⟩ := mem_own (ob' := st.ob ++ [some ⟨0, xs⟩]) (o := st.ob.length) (x := ⟨0, xs⟩) hM (by simp) (app_old _) (fun g _ => hM.top _ _ (Nat.le_refl _)) (by simp) hown hgr hm1 hus
      exact ⟨v, w', cx', app_run ho a w w' (by rw [es, ex]; exact hr), hE, hM', hv⟩
  · rename_i o1 g sz off n m xs hs hx
    split at h
    case h_2 => exact h.elim
    rename_i q hq
    obtain ⟨⟨hg, rfl, hle, hb, hnm, hsz⟩, hK⟩ := h
    refine OpB.new hK fun a w cx hM ht => ?_
    have hv := rd_ok ht s
    rw [hs] at hv
    obtain ⟨l, as, cap, h1, es, h2, h3, h4, h4', hmp⟩ := hv
    obtain ⟨hl, ax, c, us, ex, hmc, hus, hsrc⟩ := src_ok hM (rd_ok ht x) hx
    have hul := hus.len
    have h5 : st.ob[o1]? = some (some q) := by
      rw [List.getD_eq_getElem?_getD] at hq
      cases h : st.ob[o1]? with
      | none => rw [h] at hq; simp at hq
      | some p => rw [h] at hq; simp at hq; rw [hq]
    obtain ⟨l', h6, hR⟩ := hM.rep o1 q h5
    rw [hg, h1] at h6; simp at h6; subst h6
    obtain ⟨h7, h8, vs, h9, h10⟩ := hR.row hmp
    have ho1 : o1 < st.ob.length := (List.getElem?_eq_some_iff.1 h5).1
    have hvl := h10.len
    have a1 : (st.ob.set o1 (some ⟨g + 1, (q.cs.drop off).take (n * y.size) ++ xs⟩))[o1]? = some (some ⟨g + 1, (q.cs.drop off).take (n * y.size) ++ xs⟩) := by simp [ho1]
    have a2 : ∀ j, j ≠ o1 → (st.ob.set o1 (some ⟨g + 1, (q.cs.drop off).take (n * y.size) ++ xs⟩))[j]? = st.ob[j]? := fun j hj => by rw [List.getElem?_set_ne (Ne.symm hj)]
    have a3 : ∀ g', g + 1 ≤ g' → cx.ρ o1 g' = none := fun g' hg' => hM.gen o1 q g' h5 (by omega)
    have old := (h10.drop off).take (n * y.size)
    have oldr := range_part h9 off (n * y.size)
    have oldl : ((vs.drop off).take (n * y.size)).length = n * y.size := by rw [List.length_take, List.length_drop]; omega
    have inplace : 0 < l.room - off → w.heap.size ≤ l.b ∨ ∃ x0 l0, st.ob[o1]? = some (some x0) ∧ cx.ρ o1 x0.g = some l0 ∧ 0 < l0.room ∧ l0.b = l.b := fun hr => .inr ⟨q, l, h5, by rw [hg]; exact h1, by omega, rfl⟩
    have th : w.there l.b (l.o + off) (l.room - off) := fun j hj => by
      have := h8 (off + j) (by omega)
      rwa [← Nat.add_assoc] at this
    by_cases hm0 : m = 0
    · subst hm0
      have hnil : us = [] := List.eq_nil_of_length_eq_zero (by omega)
      have hxn : xs = [] := List.eq_nil_of_length_eq_zero (by omega)
      subst hnil hxn
      obtain ⟨cx', hE, hM', hρ⟩ := mem_put (w' := w) (l := ⟨l.b, l.o + off, l.room - off, false⟩) (vs := (vs.drop off).take (n * y.size) ++ []) hM a1 a2 a3 (by simp)
        ⟨rfl, rfl, rfl, Nat.le_refl _, fun _ _ _ => rfl⟩ inplace th (by simpa using oldr) (old.app .nil) (by simp; omega)
      refine ⟨.slice as n cap, w, cx', app_run ho a w w (by rw [es, ex]; exact run_append_zero w t o.type e i F.und F2.info as ax n cap c h2), hE, hM', ⟨l.b, l.o + off, l.room - off, false⟩, as, cap, hρ, rfl, h2, by show 0 + cap * y.size ≤ l.room - off; omega, fun hc => h4 hc, h4', rfl⟩
    · have hm1 : 0 < m := by omega
      have hup : 0 < us.length := by rw [← hul, hl]; exact Nat.mul_pos hm1 hsz
      obtain ⟨ad, rfl, hc⟩ := hsrc hup hm1
      have one : ∀ u ∈ us, u.oneCell' = true := fun u hu => by
        obtain ⟨j, hj⟩ := List.getElem?_of_mem hu
        obtain ⟨_, _, h⟩ := hus.get' hj
        exact h.2
      by_cases hroom : n + m ≤ cap
      · obtain rfl := h4 (by omega)
        have hcap : (n + m) * y.size ≤ cap * y.size := Nat.mul_le_mul_right _ hroom
        rw [Nat.add_mul] at hcap
        have th2 : w.there l.b (l.o + off + n * y.size) us.length := fun j hj => by
          have := h8 (off + n * y.size + j) (by omega)
          rwa [← Nat.add_assoc, ← Nat.add_assoc] at this
        have hr := run_append_room_cells (P := E.P) w t o.type e i F.und F2.info l.b (l.o + off) n cap ad m c us (by rw [← hul, hl, F2.size]) hc one hroom (fun j hj => by rw [F2.size]; exact (th2 j hj).1) (fun j hj => by rw [F2.size]; exact (th2 j hj).2)
        rw [F2.size] at hr
        have hra : (w.setCells l.b (l.o + off + n * y.size) us).rangeAt l.b (l.o + off) ((vs.drop off).take (n * y.size) ++ us) := by
          intro j v hj
          by_cases hj' : j < n * y.size
          · rw [World.cell?_setCells_out l.b us _ w ⟨l.b, l.o + off + j, none⟩ (fun _ _ => .inl (by simp; omega))]
            rw [List.getElem?_append_left (by omega)] at hj
            exact oldr j v hj
          · rw [List.getElem?_append_right (by omega), oldl] at hj
            have := World.cell?_setCells_in l.b us (l.o + off + n * y.size) w (fun k hk => (th2 k hk).1) (j - n * y.size) ((List.getElem?_eq_some_iff.1 hj).1)
            rw [show l.o + off + n * y.size + (j - n * y.size) = l.o + off + j by omega] at this
            rw [this]
            obtain ⟨hjl, hjv⟩ := List.getElem?_eq_some_iff.1 hj
            exact congrArg some hjv
        obtain ⟨cx', hE, hM', hρ⟩ := mem_put (w' := w.setCells l.b (l.o + off + n * y.size) us) (l := ⟨l.b, l.o + off, l.room - off, false⟩) (vs := (vs.drop off).take (n * y.size) ++ us) hM a1 a2 a3 (by simp)
          (grow_setCells w l.b _ us _ ⟨by show 0 < l.room - off; omega, rfl⟩) inplace (there_setCells' us th th2) hra (old.app hus) (by
            have := old.len
            rw [oldl] at this
            rw [List.length_append, this, hul]
            show n * y.size + us.length ≤ l.room - off
            rw [← hul, hl]; omega)
        refine ⟨_, _, cx', app_run ho a w _ (by rw [es, ex]; exact hr), hE, hM', ⟨l.b, l.o + off, l.room - off, false⟩, _, cap, hρ, rfl, hroom, by show 0 + cap * y.size ≤ l.room - off; omega, fun _ => rfl, h4', rfl⟩
      · have fin' : ∀ v w', (Builtin.append_ #[t, t] o.type #[a.eval s, a.eval x]).run E.P w = .ok v w' → w'.ownsRow w.heap.size e y.size v (n + m) ((vs.drop off).take (n * y.size) ++ us) → w.grownBy w' none →
            ∃ v w' cx', (execOp a.eval o).run E.P w = .ok (.value v) w' ∧ Ext w cx st.ob w' cx' (st.ob.set o1 (some ⟨g + 1, (q.cs.drop off).take (n * y.size) ++ xs⟩)) ∧ MemOk w' cx' (st.ob.set o1 (some ⟨g + 1, (q.cs.drop off).take (n * y.size) ++ xs⟩)) ∧ VA w' cx'.ρ (RO w' cx' (st.ob.set o1 (some ⟨g + 1, (q.cs.drop off).take (n * y.size) ++ xs⟩))) (.l (.obj o1 (g + 1) y.size 0 (n + m))) v := by
          intro v w' hr hown hgr
          obtain ⟨cx', hE, hM', hv⟩ := mem_own hM a1 a2 a3 (by simp) hown hgr (by omega) (old.app hus)
          exact ⟨v, w', cx', app_run ho a w w' hr, hE, hM', hv⟩
        have hbb : (n + m) * y.bytes ≤ 140737488355328 := hb
        cases as with
        | none =>
          have hc0 : cap = 0 := by
            rcases Nat.eq_zero_or_pos cap with h0 | h0
            · exact h0
            · have := h4 h0; cases this
          subst hc0
          have hn0 : n = 0 := by omega
          subst hn0
          obtain ⟨v, w', hr, hown, hgr, _⟩ := run_append_own (P := E.P) w w.heap.size t o.type e i z y.size y.bytes F.und F2.info F2.zero F2.size F2.bytes F2.zn hsz (.slice none 0 0) 0 [] (World.ownsRow_nil w _ e y.size) ad m c us (by rw [← hul, hl]) hc one (by omega) (by omega) (Nat.le_refl _)
          refine fin' v w' (by rw [es, ex]; exact hr) (by simpa using hown) hgr
        | some bd =>
          obtain ⟨v, w', hr, hown, hgr⟩ := run_append_arg_grows (P := E.P) w t o.type e i z y.size y.bytes F.und F2.info F2.zero F2.size F2.bytes F2.zn hsz bd n cap ((vs.drop off).take (n * y.size)) oldl (fun j u hj => by
              have hj' := (List.getElem?_eq_some_iff.1 hj).1
              have hn1 : 0 < n := by
                rcases Nat.eq_zero_or_pos n with h0 | h0
                · subst h0; simp at hj'
                · exact h0
              have := h4 (by omega)
              cases this
              rw [Addr.add_mid]
              exact oldr j u hj) ad m c us (by rw [← hul, hl]) hc (by omega) hnm hbb
          exact fin' v w' (by rw [es, ex]; exact hr) hown hgr
  · exact h.elim
end
end Go.Proofs.YtkdkbnacelnljaaGreat.RE
