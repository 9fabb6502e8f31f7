/- A region, a branch, a body of the abstract memory; what is forgotten. Conditions: those that a theorem names. -/
import Derived.Test.YtkdkbnacelnljaaGreatNRK
set_option linter.unusedVariables false
set_option linter.unusedSimpArgs false
namespace Go.Proofs.YtkdkbnacelnljaaGreat.RE
open Go Go.RowKit

/-- What a temporary holds whose operation was passed over. -/
abbrev uA : AV := .l (.sc undef)
/-- What a guard reads. -/
def gA : Option Bool → AV
  | some b => .l (.sc (.bool b))
  | none => uA
def gV : Option Bool → Value
  | some b => .bool b
  | none => undef
theorem gA_val {w : World} {ρ : Nat → Nat → Option Loc} {r : Bool → Nat → Prop} {b : Option Bool} {v : Value} (h : VA w ρ r (gA b) v) : v = gV b := by
  cases b <;> exact h
theorem gA_yield {ops : Array Oper} {tmps : Array Value} {j : Nat} {t : Tmp} {b : Option Bool} (htt : (ops[j]?).bind (·.dst) = some t) (hv : tmps.getD t undef = gV b) : yielded ops tmps j = b := by
  unfold yielded
  rw [htt]
  cases b with
  | some b =>
    have hlt : t < tmps.size := by
      rcases Nat.lt_or_ge t tmps.size with h | h
      · exact h
      · rw [Array.getD_eq_getD_getElem?, Array.getElem?_eq_none h] at hv; cases hv
    have : tmps[t]? = some (.bool b) := by
      rw [Array.getD_eq_getD_getElem?, Array.getElem?_eq_getElem hlt] at hv
      rw [Array.getElem?_eq_getElem hlt]
      simpa [gV] using hv
    simp [this]
  | none =>
    cases h : tmps[t]? with
    | none => simp [h]
    | some v =>
      have : v = undef := by rw [Array.getD_eq_getD_getElem?, h] at hv; exact hv
      simp [h, this, undef]
/-- The operations of a region in their order (ds: where each one answers). -/
def regF (E : Env) (ds : List (Option Tmp)) : List Oper → (St → Prop) → St → Prop
  | [], K, st => K st
  | o :: rest, K, st => match o.guard with
    | none => opF E o (regF E ds rest K) st
    | some (j, want) => match ds.getD j none with
      | some t => ∃ b : Option Bool, st.tm.getD t (.l .dead) = gA b ∧ (b = some want → opF E o (regF E ds rest K) st) ∧ (b ≠ some want → fin (regF E ds rest K) st o.dst uA)
      | none => False
/-- A guarded operation: stays until the guard's value is known. -/
def grdA (E : Env) (o : Oper) (C : St → Prop) (st : St) (want : Bool) (t : Tmp) (v : AV) : Prop :=
  ∃ b : Option Bool, v = gA b ∧ (b = some want → opF E o C st) ∧ (b ≠ some want → fin C st o.dst uA)
def grdT (E : Env) (o : Oper) (C : St → Prop) (st : St) (want : Bool) (t : Option Tmp) : Prop := match t with
  | some t => grdA E o C st want t (st.tm.getD t (.l .dead))
  | none => False
section
variable {E : Env} {ds : List (Option Tmp)} {rest : List Oper} {K C : St → Prop} {st : St} {d : Option Tmp} {op : Op} {ty : TypeId} {pos : String} {after : Array Edge} {o : Oper}
theorem grdT_iff {want : Bool} {t : Option Tmp} : grdT E o C st want t ↔ (match t with
      | some t => ∃ b : Option Bool, st.tm.getD t (.l .dead) = gA b ∧ (b = some want → opF E o C st) ∧ (b ≠ some want → fin C st o.dst uA)
      | none => False) := by
  cases t <;> rfl
theorem regF_nil : regF E ds [] K st = K st := rfl
theorem regF_none : regF E ds (⟨d, op, ty, pos, after, none⟩ :: rest) K st = opF E ⟨d, op, ty, pos, after, none⟩ (regF E ds rest K) st := rfl
theorem regF_some {j : Nat} {want : Bool} : regF E ds (⟨d, op, ty, pos, after, some (j, want)⟩ :: rest) K st = grdT E ⟨d, op, ty, pos, after, none⟩ (regF E ds rest K) st want (ds.getD j none) := by
  apply propext
  rw [grdT_iff]
  rfl
theorem grdT_some {want : Bool} {t : Tmp} : grdT E o C st want (some t) = grdA E o C st want t (st.tm.getD t (.l .dead)) := rfl
theorem gA_bool {b : Bool} {x : Option Bool} (h : AV.l (.sc (.bool b)) = gA x) : x = some b := by
  cases x with
  | none => simp [gA, undef] at h
  | some c => simp [gA] at h; rw [h]
theorem grdA_b {want b : Bool} {t : Tmp} : grdA E o C st want t (.l (.sc (.bool b))) = ((b = want → opF E o C st) ∧ (b ≠ want → fin C st o.dst uA)) := by
  apply propext
  constructor
  · rintro ⟨x, hx, h1, h2⟩
    obtain rfl := gA_bool hx
    exact ⟨fun e => h1 (by rw [e]), fun e => h2 fun h => e (by simpa using h)⟩
  · rintro ⟨h1, h2⟩
    exact ⟨some b, rfl, fun e => h1 (by simpa using e), fun e => h2 fun h => e (by rw [h])⟩
theorem grdA_u {want : Bool} {t : Tmp} : grdA E o C st want t (.l (.sc undef)) = fin C st o.dst uA := by
  apply propext
  constructor
  · rintro ⟨x, hx, h1, h2⟩
    cases x with
    | none => exact h2 (by simp)
    | some c => simp [gA, undef] at hx
  · intro h
    exact ⟨none, rfl, ⟨(fun e => absurd e (by simp)), fun _ => h⟩⟩
theorem grdA_tt {t : Tmp} : grdA E o C st true t (.l (.sc (.bool true))) = opF E o C st := by simp [grdA_b]
theorem grdA_ff {t : Tmp} : grdA E o C st false t (.l (.sc (.bool false))) = opF E o C st := by simp [grdA_b]
theorem grdA_tf {t : Tmp} : grdA E o C st true t (.l (.sc (.bool false))) = fin C st o.dst uA := by simp [grdA_b]
theorem grdA_ft {t : Tmp} : grdA E o C st false t (.l (.sc (.bool true))) = fin C st o.dst uA := by simp [grdA_b]
/-- The guard's two ways: in each its value is written out. -/
theorem grdA_split {want b : Bool} {t : Tmp} (ht : st.tm.getD t (.l .dead) = .l (.sc (.bool b))) (h1 : b = true → grdA E o C ⟨st.tm.set t (.l (.sc (.bool true))), st.ob⟩ want t (.l (.sc (.bool true))))
    (h2 : b = false → grdA E o C ⟨st.tm.set t (.l (.sc (.bool false))), st.ob⟩ want t (.l (.sc (.bool false)))) : grdA E o C st want t (.l (.sc (.bool b))) := by
  have hs : st.tm.set t (.l (.sc (.bool b))) = st.tm := by
    apply List.ext_getElem?
    intro i
    by_cases hi : i = t
    · subst hi
      by_cases hl : i < st.tm.length
      · rw [List.getElem?_set_self hl, ← ht, List.getD_eq_getElem?_getD, List.getElem?_eq_getElem hl]; rfl
      · rw [List.getElem?_eq_none (by simpa using hl), List.getElem?_eq_none (by omega)]
    · rw [List.getElem?_set_ne (Ne.symm hi)]
  cases b with
  | true => have := h1 rfl; rwa [hs] at this
  | false => have := h2 rfl; rwa [hs] at this
end

section
variable {E : Env} {B : Base} {Q : Exit → St → Prop} {st : St}
theorem reg_list {ops : Array Oper} {Q' : Exit → Act → World → Prop} {ds : List (Option Tmp)} (hds : ∀ j : Nat, ds.getD j none = (ops[j]?).bind (·.dst)) : ∀ (l : List Oper) (K : St → Prop) (st : St), regF E ds l K st → (∀ s, K s → ∀ a w, Rel B s a w → Q' .normal a w) → ∀ a w, Rel B st a w → wpList E.P ops Q' l a w
  | [], K, st, h, hK, a, w, hr => hK st h a w hr
  | o :: rest, K, st, h, hK, a, w, hr => by
    have ih := reg_list (Q' := Q') hds rest K
    simp only [wpList]
    simp only [regF] at h
    cases hg : o.guard with
    | none =>
      rw [hg] at h
      have hw : Region.wanted o (yielded ops a.tmps) = true := by simp [Region.wanted, hg]
      rw [if_pos hw]
      refine .inl ?_
      have := opF_ok (B := B) h a w Q' hr
      exact Oper.wp_mono (fun a' w' ⟨s, h1, h2⟩ => ih s h1 hK a' w' h2) this
    | some gw =>
      obtain ⟨j, want⟩ := gw
      rw [hg] at h
      simp only at h
      split at h
      case h_2 => exact h.elim
      rename_i t htt
      obtain ⟨b, hb, h1, h2⟩ := h
      obtain ⟨cx, hB, hM, hd, hl, htm⟩ := hr
      have hv := htm t
      rw [hb] at hv
      have hv := gA_val hv
      have hy : yielded ops a.tmps j = b := gA_yield (by rw [← hds j, htt]) hv
      have hw : Region.wanted o (yielded ops a.tmps) = (b == some want) := by simp [Region.wanted, hg, hy]
      have hr : Rel B st a w := ⟨cx, hB, hM, hd, hl, htm⟩
      by_cases hbw : b = some want
      · subst hbw
        rw [if_pos (by rw [hw]; simp)]
        refine .inl ?_
        have := opF_ok (B := B) (h1 rfl) a w Q' hr
        exact Oper.wp_mono (fun a' w' ⟨s, h1, h2⟩ => ih s h1 hK a' w' h2) this
      · rw [if_neg (by rw [hw]; simpa using hbw)]
        exact ih _ (h2 hbw) hK _ _ (Rel.same hB hM hd hl htm (r := uA) (v := undef) rfl)
theorem dst_list (ops : Array Oper) (j : Nat) : (ops.toList.map (·.dst)).getD j none = (ops[j]?).bind (·.dst) := by
  rw [List.getD_eq_getElem?_getD, List.getElem?_map, Array.getElem?_toList]
  cases ops[j]? <;> rfl
theorem Wp.region {id : Nat} {l : List Oper} (h : regF E (l.map (·.dst)) l (Q .normal) st) : Wp E.P B (.region id l.toArray false) Q st := fun a w hr =>
  wp_region_list (reg_list (fun j => by have := dst_list l.toArray j; simpa using this) l _ st h (fun s hs a w hr => ⟨s, hs, hr⟩) a w hr)
theorem Wp.seqK {x y : Code} (h : ∀ K : St → Prop, (∀ s, Wp E.P B y Q s → K s) → Wp E.P B x (thn K Q) st) : Wp E.P B (.seq x y) Q st :=
  Wp.seq (h _ fun _ h => h)
theorem Wp.cond {c : Operand} {x y : Code} {b : Bool} (hc : rd st.tm c = .l (.sc (.bool b))) (h1 : b = true → Wp E.P B x Q st) (h2 : b = false → Wp E.P B y Q st) : Wp E.P B (.cond c x y) Q st := by
  rintro a w ⟨cx, hB, hM, hd, hl, ht⟩
  have he : a.eval c = .bool b := rd_sc ht hc
  cases b with
  | true => exact wp_cond_true he (h1 rfl a w ⟨cx, hB, hM, hd, hl, ht⟩)
  | false => exact wp_cond_false he (h2 rfl a w ⟨cx, hB, hM, hd, hl, ht⟩)
end

/-! ### What a function answers -/
def resT (tm : List AV) (ob : Obs) (E : Env) : ResultVar → Option AV
  | .tmp t => some (tm.getD t (.l .dead))
  | .cell a t => match tm.getD a (.l .dead), E.T t with
    | .l (.ptr o g off), some y => match ob.getD o none with
      | some x => if x.g = g then (if y.agg then (if off + y.size ≤ x.cs.length then some (.agg ((x.cs.drop off).take y.size)) else none) else (if off < x.cs.length then some (.l (x.cs.getD off .dead)) else none)) else none
      | none => none
    | _, _ => none
def AV.down : AV → Option TV
  | .l x => some (.l x)
  | .agg cs => some (.agg cs)
  | .tup _ => none
def resA (tm : List AV) (ob : Obs) (E : Env) : List ResultVar → Option AV
  | [r] => resT tm ob E r
  | rs => (rs.mapM fun r => (resT tm ob E r).bind AV.down).map .tup

/-! ### Renaming: what is kept of the rows, and under which number -/
def LV.ren (m : Nat → Nat → Option (Nat × Nat)) : LV → LV
  | .obj o g sz off len => match m o g with
    | some p => .obj p.1 p.2 sz off len
    | none => .dead
  | .ptr o g off => match m o g with
    | some p => .ptr p.1 p.2 off
    | none => .dead
  | .clo f caps => match caps.mapM (fun c => (m c.1 c.2.1).map fun p => (p.1, p.2, c.2.2)) with
    | some cs => .clo f cs
    | none => .dead
  | .mp o g => match m o g with
    | some p => .mp p.1 p.2
    | none => .dead
  | x => x
def TV.ren (m : Nat → Nat → Option (Nat × Nat)) : TV → TV
  | .l x => .l (x.ren m)
  | .agg cs => .agg (cs.map (LV.ren m))
def AV.ren (m : Nat → Nat → Option (Nat × Nat)) : AV → AV
  | .l x => .l (x.ren m)
  | .agg cs => .agg (cs.map (LV.ren m))
  | .tup ts => .tup (ts.map (TV.ren m))
section
variable {w : World} {ρ ρ' : Nat → Nat → Option Loc} {r r' : Bool → Nat → Prop} {m : Nat → Nat → Option (Nat × Nat)}
theorem PtrV.ren (hm : ∀ o g p l, m o g = some p → ρ o g = some l → ρ' p.1 p.2 = some l) {c : Nat × Nat × Nat} {p : Nat × Nat} {u : Value} (hp : m c.1 c.2.1 = some p) (h : PtrV ρ c u) : PtrV ρ' (p.1, p.2, c.2.2) u := by
  obtain ⟨l, h1, h2⟩ := h
  exact ⟨l, hm _ _ _ _ hp h1, h2⟩
theorem VL.ren (hm : ∀ o g p l, m o g = some p → ρ o g = some l → ρ' p.1 p.2 = some l) (hr : ∀ b x, r b x → r' b x) {x : LV} {v : Value} (h : VL w ρ r x v) : VL w ρ' r' (x.ren m) v := by
  cases x with
  | dead => trivial
  | sc x => exact h
  | nils => exact h
  | dsl b len cs => exact VD.mono (fun x hx => ⟨hr _ _ hx, rfl⟩) h
  | obj o g sz off len =>
    simp only [LV.ren]
    cases hp : m o g with
    | none => trivial
    | some p => obtain ⟨l, a, cap, h1, h2⟩ := h; exact ⟨l, a, cap, hm _ _ _ _ hp h1, h2⟩
  | ptr o g off =>
    simp only [LV.ren]
    cases hp : m o g with
    | none => trivial
    | some p => exact PtrV.ren (c := (o, g, off)) hm hp h
  | dptr b cs => obtain ⟨ad, h1, h2⟩ := h; exact ⟨ad, h1, h2.mono fun x hx => ⟨hr _ _ hx, rfl⟩⟩
  | clo f caps =>
    simp only [LV.ren]
    cases hp : caps.mapM (fun c => (m c.1 c.2.1).map fun p => (p.1, p.2, c.2.2)) with
    | none => trivial
    | some cs =>
      obtain ⟨vs, h1, h2⟩ := h
      refine ⟨vs, h1, ?_⟩
      clear h1
      revert h2 hp
      generalize vs.toList = us
      intro hp h2
      induction h2 generalizing cs with
      | nil => simp at hp; subst hp; exact .nil
      | @cons c u caps us a1 a2 ih =>
        simp only [List.mapM_cons, Option.bind_eq_bind, Option.pure_def, Option.bind_eq_some_iff, Option.map_eq_some_iff] at hp
        obtain ⟨q, ⟨p, h3, h4⟩, cs', h5, h6⟩ := hp
        cases h6
        subst h4
        exact .cons (PtrV.ren hm h3 a1) (ih _ h5)
  | mp o g =>
    simp only [LV.ren]
    cases hp : m o g with
    | none => trivial
    | some p => obtain ⟨l, h1, h2⟩ := h; exact ⟨l, hm _ _ _ _ hp h1, h2⟩
  | mpc => exact h
theorem VC.ren (hm : ∀ o g p l, m o g = some p → ρ o g = some l → ρ' p.1 p.2 = some l) (hr : ∀ b x, r b x → r' b x) {x : LV} {v : Value} (h : VC w ρ r x v) : VC w ρ' r' (x.ren m) v := ⟨h.1.ren hm hr, h.2⟩
theorem VT.ren (hm : ∀ o g p l, m o g = some p → ρ o g = some l → ρ' p.1 p.2 = some l) (hr : ∀ b x, r b x → r' b x) {x : TV} {v : Value} (h : VT w ρ r x v) : VT w ρ' r' (x.ren m) v := by
  cases x with
  | l x => exact VL.ren hm hr h
  | agg cs => obtain ⟨vs, h1, h2⟩ := h; exact ⟨vs, h1, All2.map_l (h2.imp fun _ _ h => h.ren hm hr)⟩
theorem VA.ren (hm : ∀ o g p l, m o g = some p → ρ o g = some l → ρ' p.1 p.2 = some l) (hr : ∀ b x, r b x → r' b x) {x : AV} {v : Value} (h : VA w ρ r x v) : VA w ρ' r' (x.ren m) v := by
  cases x with
  | l x => exact VL.ren hm hr h
  | agg cs => obtain ⟨vs, h1, h2⟩ := h; exact ⟨vs, h1, All2.map_l (h2.imp fun _ _ h => h.ren hm hr)⟩
  | tup ts => obtain ⟨vs, h1, h2⟩ := h; exact ⟨vs, h1, All2.map_l (h2.imp fun _ _ h => h.ren hm hr)⟩
end
/-- The first n rows stay, those of π follow, under new numbers. -/
def keepM (n : Nat) (π : List Nat) (ob : Obs) (o g : Nat) : Option (Nat × Nat) :=
  if o < n then some (o, g) else match π.idxOf? o, ob.getD o none with
    | some i, some x => if x.g = g then some (n + i, 0) else none
    | _, _ => none
def keepI (n : Nat) (π : List Nat) (ob : Obs) (o g : Nat) : Option (Nat × Nat) :=
  if o < n then some (o, g) else match π[o - n]? with
    | some p => match ob.getD p none with
      | some x => if g = 0 then some (p, x.g) else none
      | none => none
    | none => none
def keepO (n : Nat) (π : List Nat) (ob : Obs) : Obs :=
  (ob.take n).map (fun x => x.map fun x => ⟨x.g, x.cs.map (LV.ren (keepM n π ob))⟩) ++ π.map fun o => (ob.getD o none).map fun x => ⟨0, x.cs.map (LV.ren (keepM n π ob))⟩
def St.keep (n : Nat) (π : List Nat) (st : St) : St := ⟨st.tm.map (AV.ren (keepM n π st.ob)), keepO n π st.ob⟩
theorem keepMI {n : Nat} {π : List Nat} {ob : Obs} (hn : π.Nodup) {o g : Nat} {p : Nat × Nat} (h : keepM n π ob o g = some p) : keepI n π ob p.1 p.2 = some (o, g) := by
  unfold keepM at h
  split at h
  · rename_i hlt
    cases h
    simp [keepI, hlt]
  · rename_i hlt
    split at h
    case h_2 => cases h
    rename_i i x hi hx
    split at h
    case isFalse => cases h
    rename_i hg
    cases h
    have hi' : π[i]? = some o := by
      rw [List.idxOf?_eq_some_iff] at hi
      obtain ⟨h1, h2, _⟩ := hi
      rw [List.getElem?_eq_getElem h1, h2]
    have hni : ¬ n + i < n := by omega
    rw [List.getD_eq_getElem?_getD] at hx
    simp [keepI, hi', hni, hx, hg]
theorem keepIM {n : Nat} {π : List Nat} {ob : Obs} {o' : Nat} {x' : Ob} (h : (keepO n π ob)[o']? = some (some x')) (hl : n ≤ ob.length) : ∃ o x, ob[o]? = some (some x) ∧ keepI n π ob o' x'.g = some (o, x.g) ∧ x'.cs = x.cs.map (LV.ren (keepM n π ob)) := by
  unfold keepO at h
  by_cases hlt : o' < n
  · rw [List.getElem?_append_left (by simp; omega)] at h
    simp only [List.getElem?_map, List.getElem?_take, hlt, if_true, Option.map_eq_some_iff] at h
    obtain ⟨y, h1, h2⟩ := h
    cases y with
    | none => simp at h2
    | some x =>
      simp at h2
      subst h2
      exact ⟨o', x, h1, by simp [keepI, hlt], rfl⟩
  · rw [List.getElem?_append_right (by simp; omega)] at h
    have e : (List.map (fun x => Option.map (fun x => ({ g := x.g, cs := x.cs.map (LV.ren (keepM n π ob)) } : Ob)) x) (List.take n ob)).length = n := by simp; omega
    rw [e] at h
    simp only [List.getElem?_map, Option.map_eq_some_iff] at h
    obtain ⟨p, h1, x, h2, h3⟩ := h
    subst h3
    refine ⟨p, x, ?_, ?_, rfl⟩
    · rw [List.getD_eq_getElem?_getD] at h2
      cases hq : ob[p]? with
      | none => rw [hq] at h2; simp at h2
      | some y => rw [hq] at h2; simp at h2; rw [h2]
    · simp only [keepI, hlt, if_false, h1, h2, if_true]
theorem nodup_inj {π : List Nat} (hn : π.Nodup) {i j : Nat} (hi : i < π.length) (hj : j < π.length) (h : π[i] = π[j]) : i = j := by
  have h1 := List.pairwise_iff_getElem.1 hn
  rcases Nat.lt_trichotomy i j with h2 | h2 | h2
  · exact absurd h (h1 i j hi hj h2)
  · exact h2
  · exact absurd h.symm (h1 j i hj hi h2)
/-- What is kept is related as it was. -/
theorem keep_ok {B : Base} {st : St} {n : Nat} {π : List Nat} {w : World} {cx : Cx} (hE : Ext B.w B.cx B.ob w cx st.ob) (hM : MemOk w cx st.ob) (h0 : B.ob.length ≤ n) (hl : n ≤ st.ob.length) (hn : π.Nodup) (hπ : ∀ q ∈ π, n ≤ q) :
    ∃ cx', Ext B.w B.cx B.ob w cx' (keepO n π st.ob) ∧ MemOk w cx' (keepO n π st.ob) ∧ ∀ x v, VA w cx.ρ (RO w cx st.ob) x v → VA w cx'.ρ (RO w cx' (keepO n π st.ob)) (x.ren (keepM n π st.ob)) v := by
  let cx' : Cx := { ρ := fun o g => (keepI n π st.ob o g).bind fun p => cx.ρ p.1 p.2, pm := cx.pm, bs := cx.bs }
  have hm : ∀ o g (p : Nat × Nat) l, keepM n π st.ob o g = some p → cx.ρ o g = some l → cx'.ρ p.1 p.2 = some l := by
    intro o g p l hp hl
    show (keepI n π st.ob p.1 p.2).bind _ = _
    rw [keepMI hn hp]; exact hl
  have hr : ∀ b x, RO w cx st.ob b x → RO w cx' (keepO n π st.ob) b x := fun b x h => h
  have hlen : (keepO n π st.ob).length = n + π.length := by simp [keepO]; omega
  have back : ∀ {o' x' l}, (keepO n π st.ob)[o']? = some (some x') → cx'.ρ o' x'.g = some l → ∃ o x, st.ob[o]? = some (some x) ∧ cx.ρ o x.g = some l ∧ keepI n π st.ob o' x'.g = some (o, x.g) ∧ x'.cs = x.cs.map (LV.ren (keepM n π st.ob)) := by
    intro o' x' l h1 h2
    obtain ⟨o, x, h3, h4, h5⟩ := keepIM h1 hl
    refine ⟨o, x, h3, ?_, h4, h5⟩
    have : (keepI n π st.ob o' x'.g).bind (fun p => cx.ρ p.1 p.2) = some l := h2
    rw [h4] at this
    exact this
  have hlv : ∀ b, Live cx' (keepO n π st.ob) b → Live cx st.ob b := by
    rintro b ⟨o', x', l, h1, h2, h3, h4⟩
    obtain ⟨o, x, h5, h6, _⟩ := back h1 h2
    exact ⟨o, x, l, h5, h6, h3, h4⟩
  have hE' : Ext B.w B.cx B.ob w cx' (keepO n π st.ob) := by
    refine ⟨hE.os, hE.tape, hE.output, hE.size, fun b hb hlive => ⟨(hE.keep b hb hlive).1, fun h => (hE.keep b hb hlive).2 (hlv b h)⟩, hE.pmm, hE.pmn, fun o g l h => ?_, hE.bse⟩
    have := B.top o g l h
    show (keepI n π st.ob o g).bind _ = _
    rw [show keepI n π st.ob o g = some (o, g) by simp [keepI, show o < n by omega]]
    exact hE.rho o g l h
  refine ⟨cx', hE', ⟨?_, ?_, ?_, ?_, ?_, ?_⟩, fun x v h => VA.ren hm hr h⟩
  · intro o' x' h
    obtain ⟨o, x, h3, h4, h5⟩ := keepIM h hl
    obtain ⟨l, h6, hR⟩ := hM.rep o x h3
    refine ⟨l, ?_, ?_⟩
    · show (keepI n π st.ob o' x'.g).bind _ = _
      rw [h4]; exact h6
    · rw [h5]
      exact hR.move (fun _ => rfl) (fun vs h => All2.map_l (h.imp fun _ _ h => VC.ren hm hr h)) (by simp) (fun es clock h => by rw [h]; rfl)
  · intro o' x' g' h hg
    show (keepI n π st.ob o' g').bind _ = none
    by_cases hlt : o' < n
    · rw [show keepI n π st.ob o' g' = some (o', g') by simp [keepI, hlt]]
      obtain ⟨o, x, h3, h4, h5⟩ := keepIM h hl
      simp only [keepI, hlt, if_true, Option.some.injEq, Prod.mk.injEq] at h4
      obtain ⟨rfl, h6⟩ := h4
      exact hM.gen _ x g' h3 (by omega)
    · have : keepI n π st.ob o' g' = none := by
        simp only [keepI, hlt, if_false]
        split
        · split
          · rw [if_neg (by omega)]
          · rfl
        · rfl
      rw [this]; rfl
  · intro o' g' ho
    rw [hlen] at ho
    show (keepI n π st.ob o' g').bind _ = none
    have : keepI n π st.ob o' g' = none := by
      simp [keepI, show ¬ o' < n by omega, List.getElem?_eq_none (show π.length ≤ o' - n by omega)]
    rw [this]; rfl
  · intro a b x1 x2 l1 l2 h1 h2 h3 h4 h5 h6 h7
    obtain ⟨o1, y1, a1, a2, a3, _⟩ := back h1 h3
    obtain ⟨o2, y2, b1, b2, b3, _⟩ := back h2 h4
    have hoo := hM.dis o1 o2 y1 y2 l1 l2 a1 b1 a2 b2 h5 h6 h7
    subst hoo
    have hk : ∀ {o' g' p q}, keepI n π st.ob o' g' = some (p, q) → (o' < n ∧ p = o') ∨ (n ≤ o' ∧ π[o' - n]? = some p) := by
      intro o' g' p q h
      unfold keepI at h
      split at h
      · rename_i hlt; cases h; exact .inl ⟨hlt, rfl⟩
      · rename_i hlt
        split at h
        · rename_i p' hp
          split at h
          · split at h
            · cases h; exact .inr ⟨by omega, hp⟩
            · cases h
          · cases h
        · cases h
    rcases hk a3 with ⟨c1, rfl⟩ | ⟨c1, c2⟩ <;> rcases hk b3 with ⟨d1, d2⟩ | ⟨d1, d2⟩
    · exact d2
    · have := hπ _ (List.mem_of_getElem? d2); omega
    · have := hπ _ (List.mem_of_getElem? c2); omega
    · have e1 := List.getElem?_eq_some_iff.1 c2
      obtain ⟨e3, e4⟩ := e1
      obtain ⟨e5, e6⟩ := List.getElem?_eq_some_iff.1 d2
      have := nodup_inj hn e3 e5 (e4.trans e6.symm)
      omega
  · intro b hb
    obtain ⟨h1, h2⟩ := hM.pml b hb
    exact ⟨h1, fun h => h2 (hlv b h)⟩
  · intro b hb
    obtain ⟨h1, h2⟩ := hM.bsl b hb
    exact ⟨h1, fun h => h2 (hlv b h)⟩
theorem Rel.keep {B : Base} {st : St} {n : Nat} {π : List Nat} {a : Act} {w : World} (h : Rel B st a w) (h0 : B.ob.length ≤ n) (hl : n ≤ st.ob.length) (hn : π.Nodup) (hπ : ∀ q ∈ π, n ≤ q) : Rel B (st.keep n π) a w := by
  obtain ⟨cx, hE, hM, hd, hlen, ht⟩ := h
  obtain ⟨cx', hE', hM', hv⟩ := keep_ok hE hM h0 hl hn hπ
  refine ⟨cx', hE', hM', hd, by simpa [St.keep] using hlen, fun i => ?_⟩
  have := hv _ _ (ht i)
  simp only [St.keep, List.getD_eq_getElem?_getD, List.getElem?_map] at this ⊢
  cases hi : st.tm[i]? with
  | none => trivial
  | some x => rw [hi] at this; exact this
section
variable {P : Program} {B : Base} {Q : Exit → St → Prop} {st : St}
/-- Rows beyond the first n are forgotten. -/
theorem Wp.keep {c : Code} (n : Nat) (h0 : B.ob.length ≤ n) (hl : n ≤ st.ob.length) (h : Wp P B c Q (st.keep n [])) : Wp P B c Q st :=
  fun a w hr => h a w (hr.keep h0 hl List.nodup_nil (by simp))
end
def rvS (tmps : Array Value) : ResultVar → Sem Value
  | .tmp t => pure (tmps.getD t undef)
  | .cell a t => do loadVar t (← asAddr (tmps.getD a undef))
theorem results_eq (fn : Func) (tmps : Array Value) : results fn tmps = (do let vs ← fn.results.mapM (rvS tmps); pure (if h : vs.size = 1 then vs[0] else .tuple vs)) := by
  unfold results
  congr 1
theorem res_ok {E : Env} {tm : List AV} {ob : Obs} {a : Act} {w : World} {cx : Cx} (hM : MemOk w cx ob) (ht : ∀ i, VA w cx.ρ (RO w cx ob) (tm.getD i (.l .dead)) (a.tmps.getD i undef)) : ∀ {r : ResultVar} {x : AV}, resT tm ob E r = some x →
    ∃ v, (rvS a.tmps r).run E.P w = .ok v w ∧ VA w cx.ρ (RO w cx ob) x v := by
  intro r x h
  cases r with
  | tmp t => simp [resT] at h; subst h; exact ⟨_, rfl, ht t⟩
  | cell c t =>
    simp only [resT] at h
    split at h
    case h_2 => cases h
    rename_i o g off y hc hy
    split at h
    case h_2 => cases h
    rename_i q hq
    split at h
    case isFalse => cases h
    rename_i hg
    obtain ⟨u, i, z, F⟩ := E.facts hy
    have hp := ht c
    rw [hc] at hp
    obtain ⟨_, l, hρ, hv, hR⟩ := hM.at hq hg hp
    obtain ⟨_, _, vs, hra, hvs⟩ := hR
    have hh : ∃ xx, xx = x ∧ partF (fun s => s = ⟨[x], []⟩) ⟨[.l .dead], []⟩ (some 0) y.agg y.size q.cs off := by
      refine ⟨x, rfl, ?_⟩
      unfold partF fin
      by_cases ha : y.agg = true
      · rw [if_pos ha] at h ⊢
        split at h
        · rename_i hle; cases h; exact ⟨hle, by simp [putT]⟩
        · cases h
      · rw [if_neg ha] at h ⊢
        split at h
        · rename_i hle; cases h; exact ⟨hle, by simp [putT]⟩
        · cases h
    obtain ⟨_, _, hpf⟩ := hh
    obtain ⟨x', v, h1, h2, h3⟩ := loadAt_ok (E := E) (cx := cx) F hra hvs hpf
    have : x' = x := by simp [fin, putT] at h1; exact h1
    subst this
    refine ⟨v, ?_, h3⟩
    simp only [Instr.loadAt, Instr.sureAddr, Sem.run_bind, Sem.run_pure, Result.andThen_ok] at h2
    simp only [rvS, hv, asAddr, Sem.run_bind, Sem.run_pure, Result.andThen_ok]
    exact h2
theorem results_ok {E : Env} {fn : Func} {tm : List AV} {ob : Obs} {a : Act} {w : World} {cx : Cx} {x : AV} (hM : MemOk w cx ob) (ht : ∀ i, VA w cx.ρ (RO w cx ob) (tm.getD i (.l .dead)) (a.tmps.getD i undef)) (h : resA tm ob E fn.results.toList = some x) :
    ∃ v, (results fn a.tmps).run E.P w = .ok v w ∧ VA w cx.ρ (RO w cx ob) x v := by
  have main : ∀ (rs : List ResultVar) (ts : List TV), (rs.mapM fun r => (resT tm ob E r).bind AV.down) = some ts → ∃ vs : List Value, (rs.mapM (rvS a.tmps)).run E.P w = .ok vs w ∧ All2 (VT w cx.ρ (RO w cx ob)) ts vs ∧ vs.length = rs.length := by
    intro rs
    induction rs with
    | nil => intro ts h; simp at h; subst h; exact ⟨[], by simp, .nil, rfl⟩
    | cons r rs ih =>
      intro ts h
      simp only [List.mapM_cons, Option.bind_eq_bind, Option.pure_def, Option.bind_eq_some_iff] at h
      obtain ⟨t, ⟨y, h1, h2⟩, ts', h3, h4⟩ := h
      cases h4
      obtain ⟨v, h5, h6⟩ := res_ok hM ht h1
      obtain ⟨vs, h7, h8, h9⟩ := ih _ h3
      refine ⟨v :: vs, ?_, .cons ?_ h8, by simp [h9]⟩
      · simp only [List.mapM_cons, Sem.run_bind, h5, h7, Result.andThen_ok, Sem.run_pure]
      · cases y with
        | l y => simp [AV.down] at h2; subst h2; exact h6
        | agg y => simp [AV.down] at h2; subst h2; exact h6
        | tup y => simp [AV.down] at h2
  rw [results_eq, Array.mapM_eq_mapM_toList]
  unfold resA at h
  split at h
  · rename_i r hr
    obtain ⟨v, h1, h2⟩ := res_ok hM ht h
    refine ⟨v, ?_, h2⟩
    rw [hr]
    simp [List.mapM_cons, h1]
  · rename_i rs hne
    simp only [Option.map_eq_some_iff] at h
    obtain ⟨ts, h1, h2⟩ := h
    subst h2
    obtain ⟨vs, h3, h4, h5⟩ := main _ _ h1
    have hlen : ¬ vs.length = 1 := by
      intro h6
      have : fn.results.toList.length = 1 := by omega
      obtain ⟨r, hr⟩ := List.length_eq_one_iff.1 this
      exact hne r hr
    refine ⟨.tuple vs.toArray, ?_, vs.toArray, rfl, by simpa using h4⟩
    simp [h3, hlen]
end Go.Proofs.YtkdkbnacelnljaaGreat.RE
