/- Each operation of the abstract memory is that of the model. Conditions: those that a theorem names. -/
import Derived.Test.YtkdkbnacelnljaaGreatNRC
set_option linter.unusedVariables false
set_option linter.unusedSimpArgs false
namespace Go.Proofs.YtkdkbnacelnljaaGreat.RE
open Go Go.RowKit

theorem dvIs_ok {v : Value} {x : DV} (h : dvIs v x = true) (b : Bool) (w : World) (ρ : Nat → Nat → Option Loc) (r : Bool → Nat → Prop) : VC w ρ r (LV.ofD b x) v := by
  unfold dvIs at h
  split at h <;> simp at h
  · obtain ⟨rfl, rfl⟩ := h; exact ⟨rfl, rfl⟩
  · subst h; exact ⟨rfl, rfl⟩
  · rename_i a b'
    have : a = b' := by cases a; cases b'; simp at h; cases h; rfl
    subst this; exact ⟨rfl, rfl⟩
  · exact ⟨rfl, rfl⟩
  · exact ⟨rfl, rfl⟩
  · exact ⟨rfl, rfl⟩
  · exact ⟨rfl, rfl⟩
theorem dvsAre_ok : ∀ {vs : List Value} {ds : List DV}, dvsAre vs ds = true → ∀ (b : Bool) (w : World) (ρ : Nat → Nat → Option Loc) (r : Bool → Nat → Prop), All2 (VC w ρ r) (ds.map (LV.ofD b)) vs
  | [], [], _, _, _, _, _ => .nil
  | v :: vs, d :: ds, h, b, w, ρ, r => by
    simp only [dvsAre, Bool.and_eq_true] at h
    exact .cons (dvIs_ok h.1 b w ρ r) (dvsAre_ok h.2 b w ρ r)
structure TyF (P : Program) (t : TypeId) (y : TyI) (u : TypeDesc) (i : TypeInfo) (z : Value) : Prop where
  und : P.underlying t = some u
  is : tyIs u y.ty = true
  info : P.info? t = some i
  size : i.size = y.size
  bytes : i.bytes = y.bytes
  zero : i.zero = some z
  zs : dvsAre z.cells.toList y.z = true
  zn : z.cells.size = y.size
theorem Env.facts (E : Env) {t : TypeId} {y : TyI} (h : E.T t = some y) : ∃ u i z, TyF E.P t y u i z := by
  have h := E.ok t y h
  unfold tyChk at h
  simp only [Bool.and_eq_true] at h
  obtain ⟨h1, h2⟩ := h
  split at h1
  case h_2 => cases h1
  rename_i u hu
  split at h2
  case h_2 => cases h2
  rename_i i hi
  simp only [Bool.and_eq_true, beq_iff_eq] at h2
  obtain ⟨⟨h3, h4⟩, h5⟩ := h2
  split at h5
  case h_2 => cases h5
  rename_i z hz
  simp only [Bool.and_eq_true, beq_iff_eq] at h5
  exact ⟨u, i, z, hu, h1, hi, h3, h4, hz, h5.1, h5.2⟩
section
variable {P : Program} {t : TypeId} {y : TyI} {u : TypeDesc} {i : TypeInfo} {z : Value} (w : World)
theorem TyF.sizeOf (h : TyF P t y u i z) : (sizeOf t).run P w = .ok y.size w := by simp [Go.sizeOf, typeInfo, h.info, h.size]
theorem TyF.zeroValue (h : TyF P t y u i z) : (zeroValue t).run P w = .ok z w := by simp [Go.zeroValue, typeInfo, h.info, h.zero]
theorem TyF.isAgg (h : TyF P t y u i z) : (isAgg t).run P w = .ok y.agg w := by
  have h1 := h.is
  unfold Go.isAgg
  rw [Sem.run_bind, run_underlying h.und w]
  unfold TyI.agg
  cases u <;> cases hy : y.ty <;> simp_all [tyIs]
theorem TyF.map_size (h : TyF P t y u i z) : (P.info? t).map (·.size) = some y.size := by rw [h.info, Option.map_some, h.size]
theorem TyF.isRow (h : TyF P t y u i z) : u.isRow = y.agg := by
  have h1 := h.is
  unfold TyI.agg
  cases u <;> cases hy : y.ty <;> simp_all [tyIs]
end
theorem Grow.alloc (w : World) (o : Obj) (may : Nat → Prop) : Grow w (w.alloc o) may := ⟨rfl, rfl, rfl, by simp, fun b hb _ => Below.heap_alloc w o b hb⟩
theorem alloc_get (w : World) (o : Obj) : (w.alloc o).heap[w.heap.size]? = some o := by show (w.heap.push o)[w.heap.size]? = _; simp
theorem cells_ok {w : World} {ρ : Nat → Nat → Option Loc} {r : Bool → Nat → Prop} {x : AV} {v : Value} {cs : List LV} (hv : VA w ρ r x v) (hc : x.cells = some cs) : All2 (VC w ρ r) cs v.cells.toList := by
  cases x with
  | l x =>
    simp only [AV.cells] at hc
    split at hc
    case isFalse => cases hc
    rename_i hx
    simp at hc; subst hc
    have h1 : v.oneCell' = true := by
      cases x with
      | dead => cases hx
      | sc u => have : v = u := hv; subst this; exact hx
      | nils => have : v = .slice none 0 0 := hv; subst this; rfl
      | dsl b len cs => exact VD.one hv
      | obj => obtain ⟨l, a, cap, _, rfl, _⟩ := hv; rfl
      | ptr => obtain ⟨l, _, rfl, _⟩ := hv; rfl
      | dptr => obtain ⟨l, rfl, _⟩ := hv; rfl
      | clo => obtain ⟨l, rfl, _⟩ := hv; rfl
      | mp => obtain ⟨l, _, rfl, _⟩ := hv; rfl
      | mpc => exact hv.elim
    have h2 : v.cells.toList = [v] := by cases v <;> simp_all [Value.oneCell', Value.cells]
    rw [h2]
    exact .cons ⟨hv, h1⟩ .nil
  | agg cs =>
    simp only [AV.cells] at hc
    simp at hc; subst hc
    obtain ⟨vs, rfl, h⟩ := hv
    exact h
  | tup ts => simp [AV.cells] at hc

section
variable {E : Env} {B : Base} {K : St → Prop} {st : St} {d : Option Tmp}

/-- A new variable. -/
theorem newVar_ok {w : World} {cx : Cx} {cs : List LV} (e : TypeId) (v : Value) (hM : MemOk w cx st.ob) (hv : All2 (VC w cx.ρ (RO w cx st.ob)) cs v.cells.toList) :
    ∃ cx', Ext w cx st.ob (w.alloc (.cells v.cells e)) cx' (st.ob ++ [some ⟨0, cs⟩]) ∧ MemOk (w.alloc (.cells v.cells e)) cx' (st.ob ++ [some ⟨0, cs⟩]) ∧
      VA (w.alloc (.cells v.cells e)) cx'.ρ (RO (w.alloc (.cells v.cells e)) cx' (st.ob ++ [some ⟨0, cs⟩])) (.l (.ptr st.ob.length 0 0)) (.pointer (some ⟨w.heap.size, 0, none⟩)) := by
  obtain ⟨cx', hE, hM', hρ⟩ := mem_new (e := e) (c := v.cells) hM (Grow.alloc w _ _) (alloc_get w _) v.cells.toList (by rw [List.take_of_length_le (Nat.le_refl _)]) hv
  exact ⟨cx', hE, hM', _, hρ, rfl, rfl⟩
theorem alloc_ok {o : Oper} {e : TypeId} (ho : o.op = .alloc e) (h : allocF E K st o.dst e) : OpB E.P B o K st := by
  unfold allocF at h
  split at h
  case h_2 => exact h.elim
  rename_i y hy
  obtain ⟨u, i, z, F⟩ := E.facts hy
  refine OpB.new h fun a w cx hM ht => ?_
  obtain ⟨cx', hE, hM', hv⟩ := newVar_ok (st := st) e z hM (dvsAre_ok F.zs false w _ _)
  refine ⟨_, _, cx', ?_, hE, hM', hv⟩
  simp [execOp, ho, Instr.alloc, F.zeroValue w, newVar, newRow]
theorem box_ok {o : Oper} {e : TypeId} {x : Operand} (ho : o.op = .box e x) (h : boxF K st o.dst (rd st.tm x)) : OpB E.P B o K st := by
  unfold boxF at h
  split at h
  case h_2 => exact h.elim
  rename_i cs hc
  refine OpB.new h fun a w cx hM ht => ?_
  obtain ⟨cx', hE, hM', hv⟩ := newVar_ok (st := st) e (a.eval x) hM (cells_ok (rd_ok ht x) hc)
  refine ⟨_, _, cx', ?_, hE, hM', hv⟩
  simp [execOp, ho, Instr.box, newVar, newRow]
theorem move_ok {o : Oper} {x : Operand} (ho : o.op = .move x ∨ o.op = .assign x) (h : fin K st o.dst (rd st.tm x)) : OpB E.P B o K st :=
  OpB.val h fun a w cx hM ht => ⟨_, by rcases ho with ho | ho <;> simp [execOp, ho], rd_ok ht x⟩
theorem pick_ok {o : Oper} {c x y : Operand} (ho : o.op = .pick c x y) (h : pickF K st o.dst (rd st.tm c) (rd st.tm x) (rd st.tm y)) : OpB E.P B o K st := by
  unfold pickF at h
  split at h
  case h_2 => exact h.elim
  rename_i _ _ _ b hb
  cases b with
  | true =>
    refine OpB.val (h.1 rfl) fun a w cx hM ht => ⟨_, ?_, rd_ok ht x⟩
    have := rd_ok ht c
    rw [hb] at this
    have : a.eval c = .bool true := this
    simp [execOp, ho, this, asBool]
  | false =>
    refine OpB.val (h.2 rfl) fun a w cx hM ht => ⟨_, ?_, rd_ok ht y⟩
    have := rd_ok ht c
    rw [hb] at this
    have : a.eval c = .bool false := this
    simp [execOp, ho, this, asBool]
/-- The row of a place that an own row has. -/
theorem MemOk.at {w : World} {cx : Cx} {ob : Obs} (hM : MemOk w cx ob) {o g : Nat} {x : Ob} (hx : ob.getD o none = some x) (hg : x.g = g) {off : Nat} {v : Value} (hv : VL w cx.ρ (RO w cx ob) (.ptr o g off) v) :
    ob[o]? = some (some x) ∧ ∃ l, (cx.ρ o x.g = some l ∧ l.mp = false) ∧ v = .pointer (some ⟨l.b, l.o + off, none⟩) ∧ RowRep w cx.ρ (RO w cx ob) l x.cs := by
  subst hg
  have h1 : ob[o]? = some (some x) := by
    rw [List.getD_eq_getElem?_getD] at hx
    cases h : ob[o]? with
    | none => rw [h] at hx; simp at hx
    | some q => rw [h] at hx; simp at hx; rw [hx]
  obtain ⟨l, h2, h3, hm⟩ := hv
  obtain ⟨l', h4, h5⟩ := hM.rep o x h1
  rw [h2] at h4; simp at h4; subst h4
  exact ⟨h1, l, ⟨h2, hm⟩, h3, h5.row hm⟩
theorem range_part {w : World} {b o : Nat} {vs : List Value} (h : w.rangeAt b o vs) (off n : Nat) : w.rangeAt b (o + off) ((vs.drop off).take n) := fun j v hv => by
  rw [List.getElem?_take] at hv
  split at hv
  · rw [List.getElem?_drop] at hv
    have := h _ _ hv
    rwa [Nat.add_assoc]
  · cases hv
theorem loadAt_ok {y : TyI} {t : TypeId} {u : TypeDesc} {i : TypeInfo} {z : Value} (F : TyF E.P t y u i z) {w : World} {cx : Cx} {ρ : Nat → Nat → Option Loc} {r : Bool → Nat → Prop} {b o off : Nat} {cs : List LV} {vs : List Value} (hr : w.rangeAt b o vs) (hv : All2 (VC w ρ r) cs vs)
    (h : partF K st d y.agg y.size cs off) : ∃ x v, fin K st d x ∧ (Instr.loadAt t (.pointer (some ⟨b, o + off, none⟩))).run E.P w = .ok v w ∧ VA w ρ r x v := by
  have hlen := hv.len
  unfold partF at h
  by_cases ha : y.agg = true
  · rw [if_pos ha] at h
    obtain ⟨h1, h2⟩ := h
    have hl : ((vs.drop off).take y.size).length = y.size := by rw [List.length_take, List.length_drop]; omega
    refine ⟨_, _, h2, run_loadAt_mid (P := E.P) w b (o + off) t ((vs.drop off).take y.size) u (range_part hr off _) F.und (by rw [F.isRow]; exact ha) (by rw [hl]; exact F.map_size), _, rfl, ?_⟩
    simpa using (hv.drop off).take y.size
  · rw [if_neg ha] at h
    obtain ⟨h1, h2⟩ := h
    obtain ⟨v, hv1, hv2⟩ := hv.get (i := off) (a := cs.getD off .dead) (by rw [List.getD_eq_getElem?_getD, List.getElem?_eq_getElem h1]; rfl)
    have hc := hr off v hv1
    refine ⟨_, v, h2, ?_, hv2.1⟩
    have hagg := F.isAgg w
    rw [show y.agg = false by simpa using ha] at hagg
    simp [Instr.loadAt, Instr.sureAddr, loadVar, hagg, hc]
theorem dloadAt_ok {y : TyI} {t : TypeId} {u : TypeDesc} {i : TypeInfo} {z : Value} (F : TyF E.P t y u i z) {w : World} {ρ : Nat → Nat → Option Loc} {r : Bool → Nat → Prop} {b : Bool} {cs : List DV} {ad : Addr} (hr : RowD w (r b) cs ad)
    (h : dpartF K st d y.agg y.size b cs) : ∃ x v, fin K st d x ∧ (Instr.loadAt t (.pointer (some ad))).run E.P w = .ok v w ∧ VA w ρ r x v := by
  obtain ⟨hs, us, hu⟩ := hr
  obtain ⟨ab, ao, asp⟩ := ad
  obtain rfl : asp = none := hs
  have vc : ∀ i, i < cs.length → VC w ρ r (LV.ofD b (cs.getD i .nils)) (us i) := by
    intro i hi
    have h1 := (hu i hi).2.2
    refine ⟨?_, h1.one⟩
    revert h1
    generalize cs.getD i .nils = x
    generalize us i = ui
    intro h1
    cases x with
    | sc v => cases h1; rfl
    | nils => cases h1; rfl
    | dsl len c => exact h1
  unfold dpartF at h
  by_cases ha : y.agg = true
  · rw [if_pos ha] at h
    obtain ⟨h1, h2⟩ := h
    have hl : ((List.range y.size).map us).length = y.size := by simp
    have hra : w.rangeAt ab ao ((List.range y.size).map us) := fun j v hj => by
      have hjl := (List.getElem?_eq_some_iff.1 hj).1
      rw [hl] at hjl
      have := (hu j (by omega)).2.1
      rw [Addr.add_mid] at this
      rw [this]
      simp [hjl] at hj
      simpa using hj
    refine ⟨_, _, h2, run_loadAt_mid (P := E.P) w ab ao t _ u hra F.und (by rw [F.isRow]; exact ha) (by rw [hl]; exact F.map_size), _, rfl, ?_⟩
    refine All2.of (by simp; omega) fun i x v hx hv => ?_
    have hi : i < y.size := by
      have := (List.getElem?_eq_some_iff.1 hv).1
      simpa using this
    simp [hi] at hv
    subst hv
    have := vc i (by omega)
    simp only [List.getElem?_map, List.getElem?_take, hi, if_true] at hx
    rw [List.getD_eq_getElem?_getD] at this
    rw [List.getElem?_eq_getElem (by omega)] at hx this
    simp at hx
    subst hx
    exact this
  · rw [if_neg ha] at h
    obtain ⟨h1, h2⟩ := h
    have hc := (hu 0 h1).2.1
    have hagg := F.isAgg w
    rw [show y.agg = false by simpa using ha] at hagg
    refine ⟨_, us 0, h2, ?_, (vc 0 h1).1⟩
    simp [Addr.add] at hc
    simp [Instr.loadAt, Instr.sureAddr, loadVar, hagg, hc]
theorem load_ok {o : Oper} {t : TypeId} {x : Operand} (ho : o.op = .load t x) (h : loadF E K st o.dst t (rd st.tm x)) : OpB E.P B o K st := by
  unfold loadF at h
  split at h
  · rename_i o1 g off hx
    split at h
    case h_2 => exact h.elim
    rename_i y q hy hq
    obtain ⟨hg, h⟩ := h
    obtain ⟨u, i, z, F⟩ := E.facts hy
    rintro a w Q ⟨cx, hB, hM, hd, hl, ht⟩
    have hp := rd_ok ht x
    rw [hx] at hp
    obtain ⟨_, l, _, hv, _, _, vs, hra, hvs⟩ := hM.at hq hg hp
    obtain ⟨r, v, hK, hr, hv'⟩ := loadAt_ok (E := E) (cx := cx) F hra hvs h
    unfold Oper.wp
    simp only [execOp, ho, hv, Sem.run_bind, hr, Result.andThen_ok, Sem.run_pure]
    exact ⟨_, hK, Rel.same hB hM hd hl ht hv'⟩
  · rename_i b cs hx
    split at h
    case h_2 => exact h.elim
    rename_i y hy
    obtain ⟨u, i, z, F⟩ := E.facts hy
    rintro a w Q ⟨cx, hB, hM, hd, hl, ht⟩
    have hp := rd_ok ht x
    rw [hx] at hp
    obtain ⟨ad, hv, hra⟩ := hp
    obtain ⟨r, v, hK, hr, hv'⟩ := dloadAt_ok (E := E) (ρ := cx.ρ) F hra h
    unfold Oper.wp
    simp only [execOp, ho, hv, Sem.run_bind, hr, Result.andThen_ok, Sem.run_pure]
    exact ⟨_, hK, Rel.same hB hM hd hl ht hv'⟩
  · exact h.elim
/-- Cells of a row are written: what the row is then. -/
theorem range_spl {w : World} {b o : Nat} {vs us : List Value} (h : w.rangeAt b o vs) (off : Nat) (hle : off + us.length ≤ vs.length) (ht : w.there b (o + off) us.length) :
    (w.setCells b (o + off) us).rangeAt b o (vs.take off ++ us ++ vs.drop (off + us.length)) := fun j v hv => by
  by_cases h1 : j < off
  · rw [World.cell?_setCells_out b us (o + off) w ⟨b, o + j, none⟩ (fun _ _ => .inl (by simp; omega))]
    rw [List.append_assoc, List.getElem?_append_left (by simp; omega), List.getElem?_take, if_pos h1] at hv
    exact h j v hv
  · by_cases h2 : j < off + us.length
    · have h3 : j - off < us.length := by omega
      have := World.cell?_setCells_in b us (o + off) w (fun i hi => (ht i hi).1) (j - off) h3
      rw [show o + off + (j - off) = o + j by omega] at this
      rw [this]
      rw [List.append_assoc, List.getElem?_append_right (by simp; omega), List.getElem?_append_left (by simp; omega)] at hv
      rw [show (vs.take off).length = off by simp; omega, List.getElem?_eq_getElem h3] at hv
      exact hv
    · rw [World.cell?_setCells_out b us (o + off) w ⟨b, o + j, none⟩ (fun _ _ => .inr (by simp; omega))]
      rw [List.getElem?_append_right (by simp; omega), List.getElem?_drop] at hv
      refine h j v ?_
      rw [← hv]
      congr 1
      simp
      omega
theorem setCells_heap (w : World) (b : Nat) : ∀ (us : List Value) (o : Nat) (w : World), (w.setCells b o us).heap.size = w.heap.size ∧ (∀ k, k ≠ b → (w.setCells b o us).heap[k]? = w.heap[k]?) ∧ (w.setCells b o us).os = w.os ∧ (w.setCells b o us).tape = w.tape ∧ (w.setCells b o us).output = w.output
  | [], _, _ => ⟨rfl, fun _ _ => rfl, rfl, rfl, rfl⟩
  | v :: r, o, w => by
    obtain ⟨h1, h2, h3, h4, h5⟩ := setCells_heap w b r (o + 1) (w.setCell ⟨b, o, none⟩ v)
    refine ⟨by rw [World.setCells, h1]; simp [World.setCell], fun k hk => ?_, h3, h4, h5⟩
    rw [World.setCells, h2 k hk, Below.heap_setCell _ _ _ _ hk]
theorem grow_setCells (w : World) (b o : Nat) (us : List Value) (may : Nat → Prop) (hm : may b) : Grow w (w.setCells b o us) may := by
  obtain ⟨h1, h2, h3, h4, h5⟩ := setCells_heap w b us o w
  exact ⟨h3, h4, h5, by omega, fun k _ hk => h2 k (fun e => hk (e ▸ hm))⟩
theorem there_setCells' {w : World} {b o n b' o' : Nat} (us : List Value) (h : w.there b o n) (h' : w.there b' o' us.length) : (w.setCells b' o' us).there b o n := fun j hj => by
  refine ⟨?_, by rw [World.frozen?_setCells]; exact (h j hj).2⟩
  by_cases hin : b = b' ∧ o' ≤ o + j ∧ o + j < o' + us.length
  · obtain ⟨rfl, h1, h2⟩ := hin
    have := World.cell?_setCells_in b us o' w (fun i hi => (h' i hi).1) (o + j - o') (by omega)
    rw [show o' + (o + j - o') = o + j by omega] at this
    rw [this]; rfl
  · rw [World.cell?_setCells_out b' us o' w ⟨b, o + j, none⟩ (fun hb _ => by simp at hb ⊢; omega)]
    exact (h j hj).1
theorem ObRep.write {w : World} {cx : Cx} {ob : Obs} {l : Loc} {o : Nat} {x : Ob} {cs : List LV} {us : List Value} (hM : MemOk w cx ob) (h1 : ob[o]? = some (some x)) (hl : cx.ρ o x.g = some l) (hm : l.mp = false) (hR : RowRep w cx.ρ (RO w cx ob) l x.cs) (off : Nat) (hu : All2 (VC w cx.ρ (RO w cx ob)) cs us) (hle : off + cs.length ≤ x.cs.length) (hp : 0 < us.length) :
    Ext w cx ob (w.setCells l.b (l.o + off) us) cx (ob.set o (some ⟨x.g, spl x.cs off cs⟩)) ∧ MemOk (w.setCells l.b (l.o + off) us) cx (ob.set o (some ⟨x.g, spl x.cs off cs⟩)) := by
  obtain ⟨h2, h3, vs, h4, h5⟩ := hR
  have hn := hu.len
  have hn5 := h5.len
  have h6 : w.there l.b (l.o + off) us.length := fun j hj => by
    have := h3 (off + j) (by omega)
    rwa [← Nat.add_assoc] at this
  refine mem_set hM h1 hl (grow_setCells w l.b _ us _ ⟨by omega, rfl⟩) (there_setCells' us h3 h6) (range_spl h4 off (by omega) h6) ?_ ?_ hm
  · unfold spl
    rw [hn]
    exact ((h5.take off).app hu).app (h5.drop _)
  · unfold spl
    simp
    omega
theorem store_ok {o : Oper} {t : TypeId} {x v : Operand} (ho : o.op = .store t x v) (h : storeF E K st o.dst t (rd st.tm x) (rd st.tm v)) : OpB E.P B o K st := by
  unfold storeF at h
  split at h
  case h_2 => exact h.elim
  rename_i _ vv o1 g off hx
  split at h
  case h_2 => exact h.elim
  rename_i y q cs hy hq hc
  obtain ⟨hg, hs, hle, hK⟩ := h
  obtain ⟨u, i, z, F⟩ := E.facts hy
  refine OpB.act hK fun a w cx hM ht => ?_
  have hp := rd_ok ht x
  rw [hx] at hp
  obtain ⟨h1, l, ⟨hρ, hm⟩, hv, hR⟩ := hM.at hq hg hp
  have hcs := cells_ok (rd_ok ht v) hc
  have hn := hcs.len
  have one : ∀ u ∈ (a.eval v).cells.toList, u.oneCell' = true := fun u hu => by
    obtain ⟨j, hj⟩ := List.getElem?_of_mem hu
    obtain ⟨_, _, h⟩ := hcs.get' hj
    exact h.2
  have th : w.there l.b (l.o + off) (a.eval v).cells.toList.length := fun j hj => by
    have := hR.2.1 (off + j) (by have := hR.1; omega)
    rwa [← Nat.add_assoc] at this
  have hrun : (execOp a.eval o).run E.P w = .ok .skip (w.setCells l.b (l.o + off) (a.eval v).cells.toList) := by
    have := run_storeCells_cells (P := E.P) l.b (l.o + off) (a.eval v).cells.toList 0 w (fun j hj => by simpa using (th j hj).1) (fun j hj => by simpa using (th j hj).2) one
    simp only [Nat.add_zero] at this
    have hsz : (a.eval v).cells.size = y.size := by rw [← hs, hn]; simp
    simp [execOp, ho, hv, Instr.storeAt, Instr.sureAddr, storeVar, F.sizeOf w, hsz, this]
  refine ⟨_, cx, hrun, ?_⟩
  by_cases h0 : 0 < (a.eval v).cells.toList.length
  · exact ObRep.write hM h1 hρ hm hR off hcs hle h0
  · have hnil : (a.eval v).cells.toList = [] := List.eq_nil_of_length_eq_zero (by omega)
    have hcn : cs = [] := List.eq_nil_of_length_eq_zero (by omega)
    rw [hnil, hcn]
    have : spl q.cs off [] = q.cs := by simp [spl]
    rw [this]
    have e : st.ob.set o1 (some ⟨q.g, q.cs⟩) = st.ob := by
      apply List.ext_getElem?
      intro j
      by_cases hj : j = o1
      · subst hj; rw [List.getElem?_set_self (List.getElem?_eq_some_iff.1 h1).1, h1]
      · rw [List.getElem?_set_ne (Ne.symm hj)]
    rw [e]
    exact ⟨Ext.refl _ _ _, hM⟩
end
end Go.Proofs.YtkdkbnacelnljaaGreat.RE
