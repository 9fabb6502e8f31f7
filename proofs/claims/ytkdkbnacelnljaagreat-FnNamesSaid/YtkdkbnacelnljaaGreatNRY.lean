/- A row that is written no more becomes fixed: from then on it is only read. Conditions: those that a theorem names. -/
import Derived.Test.YtkdkbnacelnljaaGreatNRX
set_option linter.unusedVariables false
set_option linter.unusedSimpArgs false
namespace Go.Proofs.YtkdkbnacelnljaaGreat.RE
open Go Go.RowKit

def LV.fz (o g : Nat) (ds : List DV) : LV → LV
  | .obj o' g' sz off len => if o' = o ∧ g' = g then .dsl false len ((ds.drop off).take (len * sz)) else .obj o' g' sz off len
  | x => x
def TV.fz (o g : Nat) (ds : List DV) : TV → TV
  | .l x => .l (x.fz o g ds)
  | .agg cs => .agg (cs.map (LV.fz o g ds))
def AV.fz (o g : Nat) (ds : List DV) : AV → AV
  | .l x => .l (x.fz o g ds)
  | .agg cs => .agg (cs.map (LV.fz o g ds))
  | .tup ts => .tup (ts.map (TV.fz o g ds))
def Ob.fz (o g : Nat) (ds : List DV) (x : Ob) : Ob := ⟨x.g, x.cs.map (LV.fz o g ds)⟩
def St.fz (o g : Nat) (ds : List DV) (st : St) : St := ⟨st.tm.map (AV.fz o g ds), (st.ob.set o none).map (Option.map (Ob.fz o g ds))⟩
theorem freeze_ok {w : World} {cx : Cx} {ob : Obs} {o g : Nat} {cs : List LV} {ds : List DV} (hM : MemOk w cx ob) (ho : ob.getD o none = some ⟨g, cs⟩) (hcs : cs = ds.map (LV.ofD false)) :
    ∃ cx', Ext w cx ob w cx' ((ob.set o none).map (Option.map (Ob.fz o g ds))) ∧ MemOk w cx' ((ob.set o none).map (Option.map (Ob.fz o g ds))) ∧
      ∀ x v, VA w cx.ρ (RO w cx ob) x v → VA w cx'.ρ (RO w cx' ((ob.set o none).map (Option.map (Ob.fz o g ds)))) (x.fz o g ds) v := by
  have hx := getD_some ho
  obtain ⟨l, hl, hrow⟩ := hM.rep o _ hx
  have hmp : l.mp = false := by
    rcases hrow with h | ⟨_, _, es, clock, h, _⟩
    · exact h.1
    · simp only [hcs] at h
      cases ds with
      | nil => cases h
      | cons d ds => cases d <;> simp [LV.ofD] at h
  obtain ⟨hroom, hth, us, hrg, hall⟩ := hrow.row hmp
  simp only at hl hroom hth hrg hall
  let ob' : Obs := (ob.set o none).map (Option.map (Ob.fz o g ds))
  let cx' : Cx := { ρ := cx.ρ, pm := fun b => cx.pm b ∨ 0 < l.room ∧ l.b = b, bs := cx.bs }
  have back : ∀ {j : Nat} {y : Ob}, ob'[j]? = some (some y) → j ≠ o ∧ ∃ x : Ob, ob[j]? = some (some x) ∧ y = x.fz o g ds := by
    intro j y hj
    simp only [ob', List.getElem?_map, Option.map_eq_some_iff] at hj
    obtain ⟨z, h1, h2⟩ := hj
    by_cases hjo : j = o
    · subst hjo
      rw [List.getElem?_set_self (List.getElem?_eq_some_iff.1 hx).1] at h1
      cases h1; simp at h2
    · rw [List.getElem?_set_ne (Ne.symm hjo)] at h1
      cases z with
      | none => simp at h2
      | some x => simp at h2; exact ⟨hjo, x, h1, h2.symm⟩
  have hlv : ∀ b, Live cx' ob' b → Live cx ob b ∧ ¬ (0 < l.room ∧ l.b = b) := by
    rintro b ⟨j, y, l', h1, h2, h3, h4⟩
    obtain ⟨hj, x, h5, rfl⟩ := back h1
    refine ⟨⟨j, x, l', h5, h2, h3, h4⟩, fun ⟨h6, h7⟩ => hj (hM.dis j o x _ l' l h5 hx h2 hl h3 h6 (by omega))⟩
  have hro : ∀ b x, RO w cx ob b x → RO w cx' ob' b x := fun b x h => ⟨h.1, h.2.imp .inl id⟩
  have hfro : ∀ x, 0 < l.room → x = l.b → RO w cx' ob' false x := fun x h1 h2 => ⟨by subst h2; exact World.there_lt hth h1, .inl (.inr ⟨h1, h2.symm⟩)⟩
  have hE : Ext w cx ob w cx' ob' := ⟨rfl, rfl, rfl, Nat.le_refl _, fun b hb h => ⟨rfl, fun h1 => h (hlv b h1).1⟩, fun b h => .inl h, fun b hb h => by
    rcases h with h | ⟨h1, h2⟩
    · exact .inl h
    · exact .inr ⟨o, _, l, hx, hl, h1, h2⟩, fun _ _ _ h => h, fun _ => Iff.rfl⟩
  have hroB : ∀ bo x, RO w cx ob bo x → RO w cx' ob' bo x := hro
  have fzL : ∀ x v, VL w cx.ρ (RO w cx ob) x v → VL w cx'.ρ (RO w cx' ob') (x.fz o g ds) v := by
    intro x v hv
    cases x with
    | obj o' g' sz off len =>
      simp only [LV.fz]
      split
      · rename_i hog
        obtain ⟨rfl, rfl⟩ := hog
        obtain ⟨l', a, cap, h4, rfl, h5, h6, h7, h8, _⟩ := hv
        rw [hl] at h4; cases h4
        have hl13 := hall.len
        have hcs' : cs.length = ds.length := by rw [hcs]; simp
        show VD w _ (.dsl len _) _
        refine .dsl len _ a cap (fun i => us.getD (off + i) undef) h5 h8 (fun i hi => ?_) (fun i hi => ?_)
        · rw [List.length_take, List.length_drop] at hi
          have hlen0 : 0 < len := by
            rcases Nat.eq_zero_or_pos len with h0 | h0
            · subst h0; simp at hi
            · exact h0
          refine ⟨_, h7 (by omega), rfl, hfro _ (by omega) rfl, ?_⟩
          rw [Addr.add_mid, Nat.add_assoc]
          refine hrg (off + i) _ ?_
          rw [List.getD_eq_getElem?_getD, List.getElem?_eq_getElem (by omega)]; rfl
        · rw [List.length_take, List.length_drop] at hi
          obtain ⟨u, h14, h15⟩ := hall.get (i := off + i) (a := LV.ofD false ds[off + i]) (by rw [hcs, List.getElem?_map, List.getElem?_eq_getElem (by omega)]; rfl)
          have e1 : us.getD (off + i) undef = u := by rw [List.getD_eq_getElem?_getD, h14]; rfl
          rw [e1, List.getD_eq_getElem?_getD, List.getElem?_take, if_pos (by omega), List.getElem?_drop, List.getElem?_eq_getElem (by omega)]
          have h16 := h15
          generalize hd : ds[off + i] = dd at h16 ⊢
          cases dd with
          | sc x => have e : u = x := h16.1; subst e; exact .sc _ h16.2
          | nils => have e : u = .slice none 0 0 := h16.1; subst e; exact .nils
          | dsl n2 c2 => exact VD.mono (fun x hx => ⟨hro _ _ hx, rfl⟩) h16.1
      · exact VL.mono (fun b x h => ⟨hro b x h, rfl⟩) (fun _ _ _ h => h) hv
    | _ => exact VL.mono (fun b x h => ⟨hro b x h, rfl⟩) (fun _ _ _ h => h) hv
  have fzT : ∀ x v, VT w cx.ρ (RO w cx ob) x v → VT w cx'.ρ (RO w cx' ob') (x.fz o g ds) v := by
    intro x v hv
    cases x with
    | l x => exact fzL x v hv
    | agg cs => obtain ⟨us, h1, h2⟩ := hv; exact ⟨us, h1, All2.map_l (h2.imp fun _ _ h => ⟨fzL _ _ h.1, h.2⟩)⟩
  refine ⟨cx', hE, ⟨?_, ?_, ?_, ?_, ?_, ?_⟩, ?_⟩
  · intro j y hj
    obtain ⟨hjo, x, h1, rfl⟩ := back hj
    obtain ⟨l', h2, hR⟩ := hM.rep j x h1
    exact ⟨l', h2, hR.move (fun _ => rfl) (fun us h6 => All2.map_l (h6.imp fun _ _ h => ⟨fzL _ _ h.1, h.2⟩)) (by simp [Ob.fz]) (fun es clock h => by simp only [Ob.fz, h]; rfl)⟩
  · intro j y g' hj hg
    obtain ⟨hjo, x, h1, rfl⟩ := back hj
    exact hM.gen j x g' h1 hg
  · intro j g' hj
    exact hM.top j g' (by simpa [ob'] using hj)
  · intro j k y z l1 l2 h1 h2 h3 h4 h5 h6 h7
    obtain ⟨_, x, a1, rfl⟩ := back h1
    obtain ⟨_, x', a2, rfl⟩ := back h2
    exact hM.dis j k x x' l1 l2 a1 a2 h3 h4 h5 h6 h7
  · rintro b (hb | ⟨h1, h2⟩)
    · obtain ⟨h1, h2⟩ := hM.pml b hb
      exact ⟨h1, fun h => h2 (hlv b h).1⟩
    · exact ⟨by rw [← h2]; exact World.there_lt hth h1, fun h => (hlv b h).2 ⟨h1, h2⟩⟩
  · intro b hb
    obtain ⟨h1, h2⟩ := hM.bsl b hb
    exact ⟨h1, fun h => h2 (hlv b h).1⟩
  · intro x v hv
    cases x with
    | l x => exact fzL x v hv
    | agg cs => obtain ⟨us, h1, h2⟩ := hv; exact ⟨us, h1, All2.map_l (h2.imp fun _ _ h => ⟨fzL _ _ h.1, h.2⟩)⟩
    | tup ts => obtain ⟨us, h1, h2⟩ := hv; exact ⟨us, h1, All2.map_l (h2.imp fun _ _ h => fzT _ _ h)⟩
section
variable {P : Program} {B : Base} {Q : Exit → St → Prop} {st : St}
/-- A row becomes fixed. -/
theorem Wp.freeze {c : Code} (o g : Nat) (ds : List DV) {cs : List LV} (ho : st.ob.getD o none = some ⟨g, cs⟩) (hcs : cs = ds.map (LV.ofD false)) (h : Wp P B c Q (st.fz o g ds)) : Wp P B c Q st := by
  rintro a w ⟨cx, hE, hM, hd, hlen, ht⟩
  obtain ⟨cx', hE', hM', hv⟩ := freeze_ok hM ho hcs
  refine h a w ⟨cx', hE.trans hE', hM', hd, by simpa [St.fz] using hlen, fun i => ?_⟩
  have := hv _ _ (ht i)
  simp only [St.fz, List.getD_eq_getElem?_getD, List.getElem?_map] at this ⊢
  cases hi : st.tm[i]? with
  | none => rw [hi] at this; simp only [Option.map_none, Option.getD_none] at this ⊢; trivial
  | some x => rw [hi] at this; simpa using this
end
section
variable {o g : Nat} {ds : List DV}
theorem afz_l {x : LV} : AV.fz o g ds (.l x) = .l (x.fz o g ds) := rfl
theorem afz_a {x : List LV} : AV.fz o g ds (.agg x) = .agg (x.map (LV.fz o g ds)) := rfl
theorem afz_t {x : List TV} : AV.fz o g ds (.tup x) = .tup (x.map (TV.fz o g ds)) := rfl
theorem tfz_l {x : LV} : TV.fz o g ds (.l x) = .l (x.fz o g ds) := rfl
theorem tfz_a {x : List LV} : TV.fz o g ds (.agg x) = .agg (x.map (LV.fz o g ds)) := rfl
theorem lfz_dead : LV.fz o g ds .dead = .dead := rfl
theorem lfz_sc {x : Value} : LV.fz o g ds (.sc x) = .sc x := rfl
theorem lfz_nils : LV.fz o g ds .nils = .nils := rfl
theorem lfz_dsl {b : Bool} {n : Nat} {cs : List DV} : LV.fz o g ds (.dsl b n cs) = .dsl b n cs := rfl
theorem lfz_dptr {b : Bool} {cs : List DV} : LV.fz o g ds (.dptr b cs) = .dptr b cs := rfl
theorem lfz_ptr {a b c : Nat} : LV.fz o g ds (.ptr a b c) = .ptr a b c := rfl
theorem lfz_clo {f : FuncId} {c : List (Nat × Nat × Nat)} : LV.fz o g ds (.clo f c) = .clo f c := rfl
theorem lfz_mp {a b : Nat} : LV.fz o g ds (.mp a b) = .mp a b := rfl
theorem lfz_mpc {a : Array MapEntry} {b : Nat} : LV.fz o g ds (.mpc a b) = .mpc a b := rfl
theorem lfz_obj {o' g' sz off len : Nat} : LV.fz o g ds (.obj o' g' sz off len) = if o' = o ∧ g' = g then .dsl false len ((ds.drop off).take (len * sz)) else .obj o' g' sz off len := rfl
theorem obfz {x : Ob} : Ob.fz o g ds x = ⟨x.g, x.cs.map (LV.fz o g ds)⟩ := rfl
theorem map_fz {cs : List LV} (h : cs.all LV.flat = true) : cs.map (LV.fz o g ds) = cs :=
  (List.map_congr_left (f := LV.fz o g ds) (g := id) fun x hx => by
    have := List.all_eq_true.1 h x hx
    cases x <;> first | rfl | simp [LV.flat] at this).trans (List.map_id cs)
theorem fzI (l : List Int) : (l.map ci).map (LV.fz o g ds) = l.map ci := map_fz (flatI l)
theorem fzB (l : List Bool) : (l.map cb).map (LV.fz o g ds) = l.map cb := map_fz (flatB l)
theorem fzS (l : List Sn) : (lS l).map (LV.fz o g ds) = lS l := map_fz (lS_flat l)
theorem fzT (l : List ByteArray) : (l.map ct).map (LV.fz o g ds) = l.map ct := map_fz (flatT l)
theorem fzU (l : List UInt8) : (l.map cu).map (LV.fz o g ds) = l.map cu := map_fz (flatU l)
theorem fzN (l : List Nd) : (lN l).map (LV.fz o g ds) = lN l := map_fz (lN_flat l)
end
attribute [go_sem] St.fz afz_l afz_a afz_t tfz_l tfz_a lfz_dead lfz_sc lfz_nils lfz_dsl lfz_dptr lfz_ptr lfz_clo lfz_mp lfz_mpc lfz_obj obfz fzI fzB fzN fzS fzT fzU
/-! ### A nil slice as an empty row of one's own -/
theorem nilRow_ok {w : World} {cx : Cx} {ob : Obs} (hM : MemOk w cx ob) : ∃ cx', Ext w cx ob w cx' (ob ++ [some ⟨0, []⟩]) ∧ MemOk w cx' (ob ++ [some ⟨0, []⟩]) ∧ ∃ l : Loc, cx'.ρ ob.length 0 = some l ∧ l.mp = false := by
  obtain ⟨cx', h1, h2, h3⟩ := mem_put (o := ob.length) (x := ⟨0, []⟩) (ob' := ob ++ [some ⟨0, []⟩]) (l := ⟨0, 0, 0, false⟩) (vs := []) hM (by simp) (fun j hj => by
    by_cases hj' : j < ob.length
    · rw [List.getElem?_append_left hj']
    · rw [List.getElem?_append_right (by omega), List.getElem?_eq_none (by simp; omega), List.getElem?_eq_none (by omega)]) (fun g _ => hM.top _ _ (Nat.le_refl _)) (by simp)
    (w' := w) ⟨rfl, rfl, rfl, Nat.le_refl _, fun _ _ _ => rfl⟩ (fun h => absurd h (by simp)) (fun i hi => absurd hi (by simp)) (fun i v hi => by simp at hi) .nil (Nat.le_refl _)
  exact ⟨cx', h1, h2, _, h3, rfl⟩
section
variable {P : Program} {B : Base} {Q : Exit → St → Prop} {st : St}
theorem Wp.nilRow {c : Code} (t sz : Nat) (ht : st.tm.getD t (.l .dead) = .l .nils) (h : Wp P B c Q ⟨st.tm.set t (.l (.obj st.ob.length 0 sz 0 0)), st.ob ++ [some ⟨0, []⟩]⟩) : Wp P B c Q st := by
  rintro a w ⟨cx, hE, hM, hd, hlen, hv⟩
  obtain ⟨cx', hE', hM', l, hl, hmp⟩ := nilRow_ok hM
  refine h a w ⟨cx', hE.trans hE', hM', hd, by simpa using hlen, fun i => ?_⟩
  have h0 := hE'.va hM (hv i)
  by_cases hi : i = t
  · subst hi
    by_cases hlt : i < st.tm.length
    · simp only [List.getD_eq_getElem?_getD, List.getElem?_set_self hlt, Option.getD_some]
      have h1 := hv i
      rw [ht] at h1
      exact ⟨l, none, 0, hl, h1, Nat.le_refl _, by simp, fun h => absurd h (by simp), Nat.zero_le _, hmp⟩
    · simp only [List.getD_eq_getElem?_getD, List.getElem?_eq_none (l := st.tm.set i (.l (.obj st.ob.length 0 sz 0 0))) (by simpa using hlt), Option.getD_none]
      trivial
  · simp only [List.getD_eq_getElem?_getD, List.getElem?_set_ne (Ne.symm hi)] at h0 ⊢
    exact h0
end
section
variable {st : St}
/-- A row and a value are answered. -/
theorem retRB {fn : Func} {o g sz n n' : Nat} {cs cs' : List LV} {v v' : Value} (hn : n = n') (hcs : cs = cs') (hv : v = v') (h : resA st.tm st.ob E fn.results.toList = some (.tup [.l (.obj o g sz 0 n), .l (.sc v)]) := by rfl) (ho : st.ob.getD o none = some ⟨g, cs⟩ := by rfl) (hf : cs.all LV.flat = true := by first | exact lN_flat _ | exact flatI _ | exact flatB _ | exact lS_flat _ | exact flatT _ | exact flatU _ | rfl) :
    retQ E fn 0 (fun r ob => r = .tup [.l (.obj 0 0 sz 0 n'), .l (.sc v')] ∧ ob = [some ⟨0, cs'⟩]) .ret st := by
  subst hn; subst hcs; subst hv
  refine ⟨_, [o], h, Nat.zero_le _, by simp, by simp, ?_, (ret_row (sz := sz) (n := n) ho hf).2⟩
  have := (ret_row (sz := sz) (n := n) ho hf).1
  simp only [AV.ren] at this
  simp only [AV.ren, List.map_cons, List.map_nil, TV.ren, LV.ren] at this ⊢
  simp only [AV.l.injEq] at this
  rw [this]
end
/-! ### Rows that are handed over -/
def LV.inert : LV → Bool
  | .obj _ _ _ _ _ => false
  | .ptr _ _ _ => false
  | .clo _ _ => false
  | .mp _ _ => false
  | _ => true
theorem LV.inert_ren {m : Nat → Nat → Option (Nat × Nat)} {x : LV} (h : x.inert = true) : x.ren m = x := by
  cases x <;> first | rfl | simp [LV.inert] at h
theorem map_inert {m : Nat → Nat → Option (Nat × Nat)} {cs : List LV} (h : cs.all LV.inert = true) : cs.map (LV.ren m) = cs :=
  (List.map_congr_left (f := LV.ren m) (g := id) fun x hx => LV.inert_ren (List.all_eq_true.1 h x hx)).trans (List.map_id cs)
section
variable {P : Program} {f : FuncId} {args args' : List AV} {st : St} {d : Option Tmp} {K : St → Prop}
end
/-! ### Rows written from the front on -/
theorem lN_set {n' : Nd} {c : LV} {j : Nat} (hj : j < 6) : ∀ {l : List Nd} {i : Nat}, i < l.length → nl n' = (nl (l.getD i default)).set j c → (lN l).set (i * 6 + j) c = lN (l.set i n')
  | n :: l, 0, _, h => by
    simp only [lN, List.flatMap_cons, List.set_cons_zero, Nat.zero_mul, Nat.zero_add]
    rw [List.set_append_left _ _ (by simp [nl]; omega)]
    rw [h]; rfl
  | n :: l, i + 1, hi, h => by
    have ih := lN_set (n' := n') (c := c) hj (l := l) (i := i) (by simpa using hi) (by simpa using h)
    simp only [lN, List.flatMap_cons, List.set_cons_succ] at ih ⊢
    rw [List.set_append_right _ _ (by simp [nl]; omega), ← ih]
    congr 2
    simp [nl]; omega
theorem cell_set {l : List LV} {k : Nat} {c : LV} (h : k < l.length) : List.take k l ++ [c] ++ List.drop (k + 1) l = l.set k c := by
  rw [List.set_eq_take_append_cons_drop, if_pos h]; simp
section
variable {l : List Nd} {i : Nat} {v : Int}
theorem setF0 (h : i < l.length) : List.take (i * 6) (lN l) ++ [.sc (.int .i64 v)] ++ List.drop (i * 6 + 1) (lN l) = lN (l.set i { l.getD i default with op := v }) := by
  rw [cell_set (by rw [lN_len]; omega)]; exact lN_set (j := 0) (by omega) h rfl
theorem setF1 (h : i < l.length) : List.take (i * 6 + 1) (lN l) ++ [.sc (.int .i64 v)] ++ List.drop (i * 6 + 2) (lN l) = lN (l.set i { l.getD i default with w := v }) := by
  rw [show i * 6 + 2 = i * 6 + 1 + 1 from rfl, cell_set (by rw [lN_len]; omega)]; exact lN_set (j := 1) (by omega) h rfl
theorem setF2 (h : i < l.length) : List.take (i * 6 + 2) (lN l) ++ [.sc (.int .i64 v)] ++ List.drop (i * 6 + 3) (lN l) = lN (l.set i { l.getD i default with k := v }) := by
  rw [show i * 6 + 3 = i * 6 + 2 + 1 from rfl, cell_set (by rw [lN_len]; omega)]; exact lN_set (j := 2) (by omega) h rfl
theorem setF3 (h : i < l.length) : List.take (i * 6 + 3) (lN l) ++ [.sc (.int .i64 v)] ++ List.drop (i * 6 + 4) (lN l) = lN (l.set i { l.getD i default with a := v }) := by
  rw [show i * 6 + 4 = i * 6 + 3 + 1 from rfl, cell_set (by rw [lN_len]; omega)]; exact lN_set (j := 3) (by omega) h rfl
theorem setF4 (h : i < l.length) : List.take (i * 6 + 4) (lN l) ++ [.sc (.int .i64 v)] ++ List.drop (i * 6 + 5) (lN l) = lN (l.set i { l.getD i default with b := v }) := by
  rw [show i * 6 + 5 = i * 6 + 4 + 1 from rfl, cell_set (by rw [lN_len]; omega)]; exact lN_set (j := 4) (by omega) h rfl
theorem setF5 (h : i < l.length) : List.take (i * 6 + 5) (lN l) ++ [.sc (.int .i64 v)] ++ List.drop (i * 6 + 6) (lN l) = lN (l.set i { l.getD i default with c := v }) := by
  rw [show i * 6 + 6 = i * 6 + 5 + 1 from rfl, cell_set (by rw [lN_len]; omega)]; exact lN_set (j := 5) (by omega) h rfl
theorem get_set {α : Type} {l : List α} {i : Nat} {a d : α} (h : i < l.length) : (l.set i a).getD i d = a := by simp [List.getD_eq_getElem?_getD, h]
end
/-! ### The first rows are handed over -/
def LV.shut (m : Nat) : LV → Bool
  | .obj o _ _ _ _ => decide (o < m)
  | .ptr o _ _ => decide (o < m)
  | .clo _ caps => caps.all fun c => decide (c.1 < m)
  | .mp o _ => decide (o < m)
  | _ => true
theorem LV.flat_shut {m : Nat} {x : LV} (h : x.flat = true) : x.shut m = true := by
  cases x <;> first | rfl | simp [LV.flat] at h
theorem flat_shut {m : Nat} {cs : List LV} (h : cs.all LV.flat = true) : cs.all (LV.shut m) = true := List.all_eq_true.2 fun x hx => LV.flat_shut (List.all_eq_true.1 h x hx)
def obShut (m : Nat) (ob : Obs) : Bool := ob.all fun x => match x with
  | some x => x.cs.all (LV.shut m)
  | none => true
def sameBelow (m : Nat) (f : Nat → Nat → Option (Nat × Nat)) : Prop := ∀ o g, o < m → f o g = some (o, g)
theorem LV.shut_ren {m : Nat} {f : Nat → Nat → Option (Nat × Nat)} (hf : sameBelow m f) {x : LV} (h : x.shut m = true) : x.ren f = x := by
  cases x with
  | obj o g sz off len => simp only [LV.shut, decide_eq_true_eq] at h; simp only [LV.ren, hf o g h]
  | ptr o g off => simp only [LV.shut, decide_eq_true_eq] at h; simp only [LV.ren, hf o g h]
  | mp o g => simp only [LV.shut, decide_eq_true_eq] at h; simp only [LV.ren, hf o g h]
  | clo fn caps =>
    have e : caps.mapM (fun c => (f c.1 c.2.1).map fun p => (p.1, p.2, c.2.2)) = some caps := by
      induction caps with
      | nil => rfl
      | cons c r ih =>
        simp only [LV.shut, List.all_cons, Bool.and_eq_true, decide_eq_true_eq] at h
        rw [List.mapM_cons, hf c.1 c.2.1 h.1, ih (by simpa [LV.shut] using h.2)]
        rfl
    simp only [LV.ren]
    first | rw [e] | (simp only [e])
  | _ => rfl
def shm (m n o g : Nat) : Option (Nat × Nat) := if o < m then some (o, g) else some (n + (o - m), g)
theorem mB_range (m n : Nat) : mB (List.range m) n = shm m n := by
  funext o g
  unfold mB shm
  by_cases h : o < m
  · simp [h]
  · rw [if_neg h, List.getElem?_eq_none (by simpa using h)]; simp
theorem shm_below (m n : Nat) : sameBelow m (shm m n) := fun o g h => if_pos h
theorem idx_range {m o : Nat} (h : o < m) : (List.range m).idxOf? o = some o := get_idx List.nodup_range (by simp [h])
theorem idx_range_no {m o : Nat} (h : ¬ o < m) : (List.range m).idxOf? o = none := by
  cases hh : (List.range m).idxOf? o with
  | none => rfl
  | some i => have := idx_get hh; rw [List.getElem?_range] at this
              · simp at this; have h2 := (List.idxOf?_eq_some_iff.1 hh).1; simp at h2; omega
              · have h2 := (List.idxOf?_eq_some_iff.1 hh).1; simpa using h2
theorem mC_below (m : Nat) : sameBelow m (mC (List.range m)) := fun o g h => by simp only [mC, idx_range h, Option.map_some]
theorem shut_map {m : Nat} {f : Nat → Nat → Option (Nat × Nat)} (hf : sameBelow m f) {cs : List LV} (h : cs.all (LV.shut m) = true) : cs.map (LV.ren f) = cs :=
  (List.map_congr_left (f := LV.ren f) (g := id) fun x hx => LV.shut_ren hf (List.all_eq_true.1 h x hx)).trans (List.map_id cs)
theorem shut_at {m : Nat} {ob : Obs} (h : obShut m ob = true) {i : Nat} {x : Ob} (hx : ob[i]? = some (some x)) : x.cs.all (LV.shut m) = true :=
  List.all_eq_true.1 h (some x) (List.mem_of_getElem? hx)
theorem obC_range {m : Nat} {ob : Obs} (hm : m ≤ ob.length) (h : obShut m (ob.take m) = true) : obC (List.range m) ob = ob.take m := by
  apply List.ext_getElem?
  intro i
  by_cases hi : i < m
  · simp only [obC, List.getElem?_map, List.getElem?_range hi, Option.map_some, List.getElem?_take_of_lt hi, List.getD_eq_getElem?_getD]
    have hl : i < ob.length := by omega
    rw [List.getElem?_eq_getElem hl]
    cases hx : ob[i] with
    | none => rfl
    | some x =>
      have := shut_at h (i := i) (x := x) (by rw [List.getElem?_take_of_lt hi, List.getElem?_eq_getElem hl, hx])
      simp only [Option.getD_some, Option.map_some, shut_map (mC_below m) this]
  · rw [List.getElem?_eq_none (by simp [obC]; omega), List.getElem?_eq_none (by simp; omega)]
theorem obB_range {m : Nat} {ob o1 new : Obs} (hm : m ≤ ob.length) (h1 : o1.length = m) (h : obShut m o1 = true) : obB (List.range m) ob (o1 ++ new) = o1 ++ ob.drop m ++ new.map (Option.map (Ob.ren (shm m ob.length))) := by
  unfold obB
  rw [mB_range]
  congr 1
  · apply List.ext_getElem?
    intro i
    rw [mrg_get]
    simp only [Nat.zero_add]
    by_cases hi : i < m
    · rw [idx_range hi, List.getElem?_append_left (by omega)]
      simp only [Option.bind_some]
      rw [List.getElem?_append_left (by omega), List.getElem?_eq_getElem (show i < ob.length by omega), List.getElem?_eq_getElem (show i < o1.length by omega)]
      simp only [Option.map_some, Option.getD_some]
      cases hx : o1[i] with
      | none => rfl
      | some x =>
        have := shut_at h (i := i) (x := x) (by rw [List.getElem?_eq_getElem (show i < o1.length by omega), hx])
        simp only [Option.map_some, Ob.ren, shut_map (shm_below m ob.length) this]
    · rw [idx_range_no hi, List.getElem?_append_right (by omega), List.getElem?_drop, h1, show m + (i - m) = i by omega]
      simp
  · rw [List.length_range, List.drop_append, List.drop_of_length_le (by omega), List.nil_append, h1, Nat.sub_self, List.drop_zero]
section
variable {P : Program} {f : FuncId} {args args' : List AV} {st : St} {d : Option Tmp} {K : St → Prop}
/-- A call that is handed the first m rows; it may write them, and leaves new ones. -/
theorem CallK.handA (m : Nat) {r0 : AV} {obm o1 new : Obs} (h : CallsA P f args' obm fun r ob => r = r0 ∧ ob = o1 ++ new) (k : K ⟨putT st.tm d (r0.ren (shm m st.ob.length)), o1 ++ st.ob.drop m ++ new.map (Option.map (Ob.ren (shm m st.ob.length)))⟩) (ho : st.ob.take m = obm := by rfl) (ha : args.map (AV.toC (List.range m) []) = args' := by rfl)
    (hs : obShut m obm = true := by (simp only [obShut, List.all_cons, List.all_nil, flat_shut (lN_flat _), flat_shut (flatI _), flat_shut (flatB _), flat_shut (lS_flat _), flat_shut (flatT _), flat_shut (flatU _), Bool.and_true]) <;> rfl) (hs1 : obShut m o1 = true := by (simp only [obShut, List.all_cons, List.all_nil, flat_shut (lN_flat _), flat_shut (flatI _), flat_shut (flatB _), flat_shut (lS_flat _), flat_shut (flatT _), flat_shut (flatU _), Bool.and_true]) <;> rfl)
    (hl : o1.length = m := by rfl) (hm : m ≤ st.ob.length := by simp) : CallK P f args st d K :=
  CallK.use (Q := fun r ob => r = r0 ∧ ob = o1 ++ new) (List.range m) [] ⟨List.nodup_range, fun s hs => by rw [List.mem_range] at hs; omega, by simp, by simp⟩ (by rw [obC_range hm (by rw [ho]; exact hs), ho, ha]; exact h) fun r ob1 ⟨h1, h2⟩ => by
    subst h1; subst h2
    refine ⟨by simp [hl], .inl rfl, ?_⟩
    rw [obB_range hm hl hs1, mB_range]
    exact k
end
section
variable {st : St}
theorem keepM_below (n : Nat) (ob : Obs) : sameBelow n (keepM n [] ob) := fun o g h => by rw [keepM_nil, if_pos h]
/-- A value is answered, the rows that were handed over are told. -/
theorem retH {fn : Func} {n : Nat} {x v : AV} {ob' : Obs} (hx : x = v) (hob : st.ob.take n = ob') (h : resA st.tm st.ob E fn.results.toList = some x := by rfl) (hi : obShut n ob' = true := by (simp only [obShut, List.all_cons, List.all_nil, flat_shut (lN_flat _), flat_shut (flatI _), flat_shut (flatB _), flat_shut (lS_flat _), flat_shut (flatT _), flat_shut (flatU _), Bool.and_true]) <;> rfl) (hf : v.flat = true := by rfl) (hn : n ≤ st.ob.length := by simp) : retQ E fn n (fun r ob => r = v ∧ ob = ob') .ret st := by
  subst hx
  refine ⟨x, [], h, hn, List.nodup_nil, by simp, AV.flat_ren hf, ?_⟩
  simp only [keepO, List.map_nil, List.append_nil]
  rw [hob]
  apply List.ext_getElem?
  intro i
  rw [List.getElem?_map]
  cases hx : ob'[i]? with
  | none => rfl
  | some y => cases y with
    | none => rfl
    | some y => simp only [Option.map_some, shut_map (keepM_below n st.ob) (shut_at hi hx)]
end
/-! ### Any rows are handed over, and stay as they are -/
def LV.within (σ : List Nat) : LV → Bool
  | .obj o _ _ _ _ => σ.contains o
  | .ptr o _ _ => σ.contains o
  | .clo _ caps => caps.all fun c => σ.contains c.1
  | .mp o _ => σ.contains o
  | _ => true
theorem LV.flat_within {σ : List Nat} {x : LV} (h : x.flat = true) : x.within σ = true := by
  cases x <;> first | rfl | simp [LV.flat] at h
theorem flat_within {σ : List Nat} {cs : List LV} (h : cs.all LV.flat = true) : cs.all (LV.within σ) = true := List.all_eq_true.2 fun x hx => LV.flat_within (List.all_eq_true.1 h x hx)
theorem mBC {σ : List Nat} (hn : σ.Nodup) {n o g : Nat} (h : σ.contains o = true) : ∃ i, mC σ o g = some (i, g) ∧ mB σ n i g = some (o, g) := by
  have hm : o ∈ σ := by simpa using h
  obtain ⟨i, hi, rfl⟩ := List.getElem_of_mem hm
  refine ⟨i, ?_, ?_⟩
  · simp only [mC, get_idx hn (List.getElem?_eq_getElem hi), Option.map_some]
  · simp only [mB, List.getElem?_eq_getElem hi]
theorem LV.within_ren {σ : List Nat} (hn : σ.Nodup) {n : Nat} {x : LV} (h : x.within σ = true) : (x.ren (mC σ)).ren (mB σ n) = x := by
  cases x with
  | obj o g sz off len =>
    obtain ⟨i, h1, h2⟩ := mBC hn (n := n) (g := g) (show σ.contains o = true from h)
    simp only [LV.ren, h1, h2]
  | ptr o g off =>
    obtain ⟨i, h1, h2⟩ := mBC hn (n := n) (g := g) (show σ.contains o = true from h)
    simp only [LV.ren, h1, h2]
  | mp o g =>
    obtain ⟨i, h1, h2⟩ := mBC hn (n := n) (g := g) (show σ.contains o = true from h)
    simp only [LV.ren, h1, h2]
  | clo fn caps =>
    have key : ∀ caps : List (Nat × Nat × Nat), (caps.all fun c => σ.contains c.1) = true → ∃ cs, caps.mapM (fun c => (mC σ c.1 c.2.1).map fun p => (p.1, p.2, c.2.2)) = some cs ∧ cs.mapM (fun c => (mB σ n c.1 c.2.1).map fun p => (p.1, p.2, c.2.2)) = some caps := by
      intro caps
      induction caps with
      | nil => intro _; exact ⟨[], rfl, rfl⟩
      | cons c r ih =>
        intro h
        simp only [List.all_cons, Bool.and_eq_true] at h
        obtain ⟨cs, h1, h2⟩ := ih h.2
        obtain ⟨i, h3, h4⟩ := mBC hn (n := n) (g := c.2.1) h.1
        refine ⟨(i, c.2.1, c.2.2) :: cs, ?_, ?_⟩
        · rw [List.mapM_cons, h3, h1]; rfl
        · rw [List.mapM_cons]
          simp only [h4, h2]; rfl
    obtain ⟨cs, h1, h2⟩ := key caps h
    simp only [LV.ren, h1, h2]
  | _ => rfl
theorem within_map {σ : List Nat} (hn : σ.Nodup) {n : Nat} {cs : List LV} (h : cs.all (LV.within σ) = true) : (cs.map (LV.ren (mC σ))).map (LV.ren (mB σ n)) = cs := by
  rw [List.map_map]
  exact (List.map_congr_left (g := id) fun x hx => LV.within_ren hn (List.all_eq_true.1 h x hx)).trans (List.map_id cs)
theorem obB_same {σ : List Nat} {ob : Obs} (hn : σ.Nodup) (hlt : ∀ s ∈ σ, s < ob.length) (h : ∀ s ∈ σ, ∀ x, ob.getD s none = some x → x.cs.all (LV.within σ) = true) : obB σ ob (obC σ ob) = ob := by
  unfold obB
  rw [List.drop_of_length_le (by simp [obC]), List.map_nil, List.append_nil]
  apply List.ext_getElem?
  intro j
  rw [mrg_get]
  simp only [Nat.zero_add]
  cases hj : ob[j]? with
  | none => rfl
  | some x =>
    simp only [Option.map_some]
    cases hi : σ.idxOf? j with
    | none => rfl
    | some i =>
      have hσ := idx_get hi
      have hm : j ∈ σ := List.mem_of_getElem? hσ
      simp only [Option.bind_some, obC, List.getElem?_map, hσ, Option.map_some, List.getD_eq_getElem?_getD, hj, Option.getD_some]
      cases x with
      | none => rfl
      | some x =>
        have := h j hm x (by rw [List.getD_eq_getElem?_getD, hj]; rfl)
        simp only [Option.map_some, Ob.ren, within_map hn this]
def sigOk (σ : List Nat) (ob : Obs) : Bool := σ.all fun s => decide (s < ob.length) && match ob.getD s none with
  | some x => x.cs.all (LV.within σ)
  | none => true
section
variable {P : Program} {f : FuncId} {args args' : List AV} {st : St} {d : Option Tmp} {K : St → Prop}
theorem CallK.passS (σ : List Nat) {v : AV} {obm : Obs} (h : CallsA P f args' obm fun r ob => r = v ∧ ob = obm) (k : K ⟨putT st.tm d v, st.ob⟩) (ha : args.map (AV.toC σ []) = args' := by rfl) (ho : obC σ st.ob = obm := by (simp only [obC, List.map_cons, List.map_nil, List.getD_cons_zero, List.getD_cons_succ, Option.map_some, renB, renI, renN]) <;> rfl)
    (hs : sigOk σ st.ob = true := by (simp only [sigOk, List.all_cons, List.all_nil, List.getD_cons_zero, List.getD_cons_succ, List.length_cons, List.length_nil, flat_within (lN_flat _), flat_within (flatI _), flat_within (flatB _), flat_within (lS_flat _), flat_within (flatT _), flat_within (flatU _), Bool.and_true]) <;> rfl) (hn : σ.Nodup := by decide) (hv : v.flat = true := by rfl) : CallK P f args st d K := by
  have hs' : ∀ s ∈ σ, s < st.ob.length ∧ ∀ x, st.ob.getD s none = some x → x.cs.all (LV.within σ) = true := fun s hm => by
    have := List.all_eq_true.1 hs s hm
    simp only [Bool.and_eq_true, decide_eq_true_eq] at this
    refine ⟨this.1, fun x hx => ?_⟩
    have h2 := this.2
    rw [hx] at h2; exact h2
  refine CallK.use (Q := fun r ob => r = v ∧ ob = obm) σ [] ⟨hn, fun s hm => (hs' s hm).1, by simp, by simp⟩ (by rw [ho, ha]; exact h) fun r ob1 ⟨h1, h2⟩ => ?_
  subst h1; subst h2
  refine ⟨by rw [← ho]; simp [obC], .inl rfl, ?_⟩
  rw [← ho, obB_same hn (fun s hm => (hs' s hm).1) (fun s hm => (hs' s hm).2), AV.flat_ren hv]
  exact k
end
attribute [go_sem] shm Ob.ren
end Go.Proofs.YtkdkbnacelnljaaGreat.RE
