/- An abstract memory over the model: values, rows and the relation to a world. Conditions: those that a theorem names. -/
import Derived.Deep.MidRow
import Derived.ArgAppend
import Derived.Laws.MakeOwn
import Derived.RowKit3
import Derived.WalkKit
import Derived.Below
import Derived.Deep.LoopGhost
set_option linter.unusedVariables false
set_option linter.unusedSimpArgs false
namespace Go.Proofs.YtkdkbnacelnljaaGreat.RE
open Go

/-- What is read whole and never written: a cell, or a row of such. -/
inductive DV where
  | sc (v : Value)
  | nils
  | dsl (len : Nat) (cs : List DV)
  deriving Inhabited
/-- One cell: dead (nothing is known), a plain value, a slice that is only read (b: lent), a slice of an own row, a place of an own row, a place that is only read, a function with what it captured, a map of one's own (mp; its row holds one cell mpc: what the map's block holds). -/
inductive LV where
  | dead
  | sc (v : Value)
  | nils
  | dsl (b : Bool) (len : Nat) (cs : List DV)
  | obj (o g sz off len : Nat)
  | ptr (o g off : Nat)
  | dptr (b : Bool) (cs : List DV)
  | clo (f : FuncId) (caps : List (Nat × Nat × Nat))
  | mp (o g : Nat)
  | mpc (es : Array MapEntry) (clock : Nat)
  deriving Inhabited
inductive TV where
  | l (x : LV)
  | agg (cs : List LV)
  deriving Inhabited
inductive AV where
  | l (x : LV)
  | agg (cs : List LV)
  | tup (vs : List TV)
  deriving Inhabited
def LV.ofD (b : Bool) : DV → LV
  | .sc v => .sc v
  | .nils => .nils
  | .dsl len cs => .dsl b len cs
def TV.up : TV → AV
  | .l x => .l x
  | .agg cs => .agg cs

structure Loc where
  b : Nat
  o : Nat
  room : Nat
  mp : Bool
structure Ob where
  g : Nat
  cs : List LV
abbrev Obs := List (Option Ob)
structure St where
  tm : List AV
  ob : Obs
structure Cx where
  ρ : Nat → Nat → Option Loc
  pm : Nat → Prop
  bs : Nat → Prop

inductive All2 {α β : Type} (R : α → β → Prop) : List α → List β → Prop
  | nil : All2 R [] []
  | cons {a b as bs} : R a b → All2 R as bs → All2 R (a :: as) (b :: bs)

inductive VD (w : World) (r : Nat → Prop) : DV → Value → Prop
  | sc (v : Value) : v.oneCell' = true → VD w r (.sc v) v
  | nils : VD w r .nils (.slice none 0 0)
  | dsl (len : Nat) (cs : List DV) (a : Option Addr) (cap : Nat) (us : Nat → Value) : len ≤ cap → cap ≤ maxLen →
      (∀ i, i < cs.length → ∃ ad, a = some ad ∧ ad.spot = none ∧ r ad.block ∧ w.cell? (ad.add i) = some (us i)) →
      (∀ i, i < cs.length → VD w r (cs.getD i .nils) (us i)) → VD w r (.dsl len cs) (.slice a len cap)
def RowD (w : World) (r : Nat → Prop) (cs : List DV) (ad : Addr) : Prop :=
  ad.spot = none ∧ ∃ us : Nat → Value, ∀ i, i < cs.length → r ad.block ∧ w.cell? (ad.add i) = some (us i) ∧ VD w r (cs.getD i .nils) (us i)
def PtrV (ρ : Nat → Nat → Option Loc) (c : Nat × Nat × Nat) (u : Value) : Prop := ∃ l, ρ c.1 c.2.1 = some l ∧ u = .pointer (some ⟨l.b, l.o + c.2.2, none⟩) ∧ l.mp = false

def VL (w : World) (ρ : Nat → Nat → Option Loc) (r : Bool → Nat → Prop) : LV → Value → Prop
  | .dead, _ => True
  | .sc x, v => v = x
  | .nils, v => v = .slice none 0 0
  | .dsl b len cs, v => VD w (r b) (.dsl len cs) v
  | .obj o g sz off len, v => ∃ l a cap, ρ o g = some l ∧ v = .slice a len cap ∧ len ≤ cap ∧ off + cap * sz ≤ l.room ∧ (0 < cap → a = some ⟨l.b, l.o + off, none⟩) ∧ cap ≤ maxLen ∧ l.mp = false
  | .ptr o g off, v => PtrV ρ (o, g, off) v
  | .dptr b cs, v => ∃ ad, v = .pointer (some ad) ∧ RowD w (r b) cs ad
  | .clo f caps, v => ∃ vs, v = .func (.func f) #[] vs ∧ All2 (PtrV ρ) caps vs.toList
  | .mp o g, v => ∃ l, ρ o g = some l ∧ v = .map (some l.b) ∧ l.mp = true
  | .mpc .., _ => False
/-- A cell of a row: of one cell. -/
def VC (w : World) (ρ : Nat → Nat → Option Loc) (r : Bool → Nat → Prop) (c : LV) (v : Value) : Prop := VL w ρ r c v ∧ v.oneCell' = true
def VT (w : World) (ρ : Nat → Nat → Option Loc) (r : Bool → Nat → Prop) : TV → Value → Prop
  | .l x, v => VL w ρ r x v
  | .agg cs, v => ∃ vs, v = .agg vs ∧ All2 (VC w ρ r) cs vs.toList
def VA (w : World) (ρ : Nat → Nat → Option Loc) (r : Bool → Nat → Prop) : AV → Value → Prop
  | .l x, v => VL w ρ r x v
  | .agg cs, v => ∃ vs, v = .agg vs ∧ All2 (VC w ρ r) cs vs.toList
  | .tup ts, v => ∃ vs, v = .tuple vs ∧ All2 (VT w ρ r) ts vs.toList

def Live (cx : Cx) (ob : Obs) (b : Nat) : Prop := ∃ o x l, ob[o]? = some (some x) ∧ cx.ρ o x.g = some l ∧ 0 < l.room ∧ l.b = b
def RO (w : World) (cx : Cx) (ob : Obs) (bo : Bool) (b : Nat) : Prop := b < w.heap.size ∧ (cx.pm b ∨ bo = true ∧ cx.bs b)
def RowRep (w : World) (ρ : Nat → Nat → Option Loc) (r : Bool → Nat → Prop) (l : Loc) (cs : List LV) : Prop :=
  cs.length ≤ l.room ∧ w.there l.b l.o l.room ∧ ∃ vs, w.rangeAt l.b l.o vs ∧ All2 (VC w ρ r) cs vs
def MapRep (w : World) (l : Loc) (cs : List LV) : Prop := l.room = 1 ∧ ∃ es clock, cs = [.mpc es clock] ∧ w.heap[l.b]? = some (.map es clock)
def ObRep (w : World) (ρ : Nat → Nat → Option Loc) (r : Bool → Nat → Prop) (l : Loc) (cs : List LV) : Prop :=
  (l.mp = false ∧ RowRep w ρ r l cs) ∨ (l.mp = true ∧ MapRep w l cs)
theorem ObRep.row {w : World} {ρ : Nat → Nat → Option Loc} {r : Bool → Nat → Prop} {l : Loc} {cs : List LV} (h : ObRep w ρ r l cs) (hm : l.mp = false) : RowRep w ρ r l cs := by
  rcases h with h | h
  · exact h.2
  · rw [hm] at h; cases h.1
theorem ObRep.map {w : World} {ρ : Nat → Nat → Option Loc} {r : Bool → Nat → Prop} {l : Loc} {cs : List LV} (h : ObRep w ρ r l cs) (hm : l.mp = true) : MapRep w l cs := by
  rcases h with h | h
  · rw [hm] at h; cases h.1
  · exact h.2

structure MemOk (w : World) (cx : Cx) (ob : Obs) : Prop where
  rep : ∀ o x, ob[o]? = some (some x) → ∃ l, cx.ρ o x.g = some l ∧ ObRep w cx.ρ (RO w cx ob) l x.cs
  gen : ∀ o x g, ob[o]? = some (some x) → x.g < g → cx.ρ o g = none
  top : ∀ o g, ob.length ≤ o → cx.ρ o g = none
  dis : ∀ o o' x x' l l', ob[o]? = some (some x) → ob[o']? = some (some x') → cx.ρ o x.g = some l → cx.ρ o' x'.g = some l' → 0 < l.room → 0 < l'.room → l.b = l'.b → o = o'
  pml : ∀ b, cx.pm b → b < w.heap.size ∧ ¬ Live cx ob b
  bsl : ∀ b, cx.bs b → b < w.heap.size ∧ ¬ Live cx ob b

structure Ext (w : World) (cx : Cx) (ob : Obs) (w' : World) (cx' : Cx) (ob' : Obs) : Prop where
  os : w'.os = w.os
  tape : w'.tape = w.tape
  output : w'.output = w.output
  size : w.heap.size ≤ w'.heap.size
  keep : ∀ b, b < w.heap.size → ¬ Live cx ob b → w'.heap[b]? = w.heap[b]? ∧ ¬ Live cx' ob' b
  pmm : ∀ b, cx.pm b → cx'.pm b
  pmn : ∀ b, b < w.heap.size → cx'.pm b → cx.pm b ∨ Live cx ob b
  rho : ∀ o g l, cx.ρ o g = some l → cx'.ρ o g = some l
  bse : ∀ b, cx'.bs b ↔ cx.bs b

/-! ### All2 -/
section
variable {α β : Type} {R S : α → β → Prop}
theorem All2.len {as : List α} {bs : List β} (h : All2 R as bs) : as.length = bs.length := by
  induction h with
  | nil => rfl
  | cons _ _ ih => simp [ih]
theorem All2.imp {as : List α} {bs : List β} (h : All2 R as bs) (f : ∀ a b, R a b → S a b) : All2 S as bs := by
  induction h with
  | nil => exact .nil
  | cons h _ ih => exact .cons (f _ _ h) ih
theorem All2.get {as : List α} {bs : List β} (h : All2 R as bs) : ∀ {i : Nat} {a : α}, as[i]? = some a → ∃ b, bs[i]? = some b ∧ R a b := by
  induction h with
  | nil => intro i a h; simp at h
  | cons h _ ih =>
    intro i a hi
    cases i with
    | zero => simp at hi; subst hi; exact ⟨_, by simp, h⟩
    | succ i => simp at hi; simpa using ih hi
theorem All2.get' {as : List α} {bs : List β} (h : All2 R as bs) : ∀ {i : Nat} {b : β}, bs[i]? = some b → ∃ a, as[i]? = some a ∧ R a b := by
  induction h with
  | nil => intro i a h; simp at h
  | cons h _ ih =>
    intro i a hi
    cases i with
    | zero => simp at hi; subst hi; exact ⟨_, by simp, h⟩
    | succ i => simp at hi; simpa using ih hi
theorem All2.of {as : List α} : ∀ {bs : List β}, as.length = bs.length → (∀ (i : Nat) a b, as[i]? = some a → bs[i]? = some b → R a b) → All2 R as bs := by
  induction as with
  | nil => intro bs hl _; cases bs with | nil => exact .nil | cons => simp at hl
  | cons a as ih =>
    intro bs hl h
    cases bs with
    | nil => simp at hl
    | cons b bs =>
      exact .cons (h 0 a b (by simp) (by simp)) (ih (by simpa using hl) (fun i x y hx hy => h (i + 1) x y (by simpa using hx) (by simpa using hy)))
theorem All2.app {as : List α} {bs : List β} {as' : List α} {bs' : List β} (h : All2 R as bs) (h' : All2 R as' bs') : All2 R (as ++ as') (bs ++ bs') := by
  induction h with
  | nil => exact h'
  | cons h _ ih => exact .cons h ih
theorem All2.take {as : List α} {bs : List β} (h : All2 R as bs) : ∀ (n : Nat), All2 R (as.take n) (bs.take n) := by
  induction h with
  | nil => intro n; simp; exact .nil
  | cons h _ ih => intro n; cases n with | zero => simp; exact .nil | succ n => simp; exact .cons h (ih n)
theorem All2.drop {as : List α} {bs : List β} (h : All2 R as bs) : ∀ (n : Nat), All2 R (as.drop n) (bs.drop n) := by
  induction h with
  | nil => intro n; simp; exact .nil
  | cons h t ih => intro n; cases n with | zero => simp; exact .cons h t | succ n => simpa using ih n
theorem All2.set {as : List α} {bs : List β} (h : All2 R as bs) {a : α} {b : β} (hab : R a b) : ∀ (n : Nat), All2 R (as.set n a) (bs.set n b) := by
  induction h with
  | nil => intro n; simp; exact .nil
  | cons h t ih => intro n; cases n with | zero => simp; exact .cons hab t | succ n => simp; exact .cons h (ih n)
theorem All2.map_l {γ : Type} {f : γ → α} {as : List γ} {bs : List β} (h : All2 (fun x y => R (f x) y) as bs) : All2 R (as.map f) bs := by
  induction h with
  | nil => exact .nil
  | cons h _ ih => exact .cons h ih
theorem All2.rep {a : α} {b : β} (h : R a b) : ∀ n, All2 R (List.replicate n a) (List.replicate n b)
  | 0 => .nil
  | n + 1 => by simp only [List.replicate_succ]; exact .cons h (All2.rep h n)
end

/-! ### What the relation keeps -/
theorem VD.one {w : World} {r : Nat → Prop} {d : DV} {v : Value} (h : VD w r d v) : v.oneCell' = true := by
  cases h with
  | sc _ h => exact h
  | nils => rfl
  | dsl => rfl
theorem VD.mono {w w' : World} {r r' : Nat → Prop} (hr : ∀ b, r b → r' b ∧ w'.heap[b]? = w.heap[b]?) {d : DV} {v : Value} (h : VD w r d v) : VD w' r' d v := by
  induction h with
  | sc v h => exact .sc v h
  | nils => exact .nils
  | dsl len cs a cap us h1 h1' h2 h3 ih =>
    refine .dsl len cs a cap us h1 h1' (fun i hi => ?_) ih
    obtain ⟨ad, ha, hs, hb, hc⟩ := h2 i hi
    refine ⟨ad, ha, hs, (hr _ hb).1, ?_⟩
    rw [World.cell?_of_block (w := w) (by
      have : (ad.add i).block = ad.block := by unfold Addr.add; split <;> rfl
      rw [this]; exact (hr _ hb).2)]
    exact hc
theorem RowD.mono {w w' : World} {r r' : Nat → Prop} (hr : ∀ b, r b → r' b ∧ w'.heap[b]? = w.heap[b]?) {cs : List DV} {ad : Addr} (h : RowD w r cs ad) : RowD w' r' cs ad := by
  obtain ⟨hs, us, h⟩ := h
  refine ⟨hs, us, fun i hi => ?_⟩
  obtain ⟨hb, hc, hv⟩ := h i hi
  refine ⟨(hr _ hb).1, ?_, hv.mono hr⟩
  rw [World.cell?_of_block (w := w) (by
    have : (ad.add i).block = ad.block := by unfold Addr.add; split <;> rfl
    rw [this]; exact (hr _ hb).2)]
  exact hc
section
variable {w w' : World} {ρ ρ' : Nat → Nat → Option Loc} {r r' : Bool → Nat → Prop}
theorem PtrV.mono (hρ : ∀ o g l, ρ o g = some l → ρ' o g = some l) {c : Nat × Nat × Nat} {u : Value} (h : PtrV ρ c u) : PtrV ρ' c u := by
  obtain ⟨l, h1, h2⟩ := h; exact ⟨l, hρ _ _ _ h1, h2⟩
theorem VL.mono (hr : ∀ b x, r b x → r' b x ∧ w'.heap[x]? = w.heap[x]?) (hρ : ∀ o g l, ρ o g = some l → ρ' o g = some l) {x : LV} {v : Value} (h : VL w ρ r x v) : VL w' ρ' r' x v := by
  cases x with
  | dead => trivial
  | sc x => exact h
  | nils => exact h
  | dsl b len cs => exact VD.mono (hr b) h
  | obj o g sz off len => obtain ⟨l, a, cap, h1, h2⟩ := h; exact ⟨l, a, cap, hρ _ _ _ h1, h2⟩
  | ptr o g off => exact PtrV.mono hρ h
  | dptr b cs => obtain ⟨ad, h1, h2⟩ := h; exact ⟨ad, h1, h2.mono (hr b)⟩
  | clo f caps => obtain ⟨vs, h1, h2⟩ := h; exact ⟨vs, h1, h2.imp fun _ _ => PtrV.mono hρ⟩
  | mp o g => obtain ⟨l, h1, h2⟩ := h; exact ⟨l, hρ _ _ _ h1, h2⟩
  | mpc => exact h
theorem VC.mono (hr : ∀ b x, r b x → r' b x ∧ w'.heap[x]? = w.heap[x]?) (hρ : ∀ o g l, ρ o g = some l → ρ' o g = some l) {x : LV} {v : Value} (h : VC w ρ r x v) : VC w' ρ' r' x v := ⟨h.1.mono hr hρ, h.2⟩
theorem VT.mono (hr : ∀ b x, r b x → r' b x ∧ w'.heap[x]? = w.heap[x]?) (hρ : ∀ o g l, ρ o g = some l → ρ' o g = some l) {x : TV} {v : Value} (h : VT w ρ r x v) : VT w' ρ' r' x v := by
  cases x with
  | l x => exact VL.mono hr hρ h
  | agg cs => obtain ⟨vs, h1, h2⟩ := h; exact ⟨vs, h1, h2.imp fun _ _ => VC.mono hr hρ⟩
theorem VA.mono (hr : ∀ b x, r b x → r' b x ∧ w'.heap[x]? = w.heap[x]?) (hρ : ∀ o g l, ρ o g = some l → ρ' o g = some l) {x : AV} {v : Value} (h : VA w ρ r x v) : VA w' ρ' r' x v := by
  cases x with
  | l x => exact VL.mono hr hρ h
  | agg cs => obtain ⟨vs, h1, h2⟩ := h; exact ⟨vs, h1, h2.imp fun _ _ => VC.mono hr hρ⟩
  | tup ts => obtain ⟨vs, h1, h2⟩ := h; exact ⟨vs, h1, h2.imp fun _ _ => VT.mono hr hρ⟩
end

theorem Ext.refl (w : World) (cx : Cx) (ob : Obs) : Ext w cx ob w cx ob :=
  ⟨rfl, rfl, rfl, Nat.le_refl _, fun _ _ h => ⟨rfl, h⟩, fun _ h => h, fun _ _ h => .inl h, fun _ _ _ h => h, fun _ => Iff.rfl⟩
theorem Ext.trans {w0 w1 w2 : World} {c0 c1 c2 : Cx} {b0 b1 b2 : Obs} (h : Ext w0 c0 b0 w1 c1 b1) (k : Ext w1 c1 b1 w2 c2 b2) : Ext w0 c0 b0 w2 c2 b2 where
  os := k.os.trans h.os
  tape := k.tape.trans h.tape
  output := k.output.trans h.output
  size := Nat.le_trans h.size k.size
  keep := fun b hb hl => by
    have h1 := h.keep b hb hl
    have h2 := k.keep b (Nat.lt_of_lt_of_le hb h.size) h1.2
    exact ⟨h2.1.trans h1.1, h2.2⟩
  pmm := fun b hb => k.pmm b (h.pmm b hb)
  pmn := fun b hb hp => by
    rcases k.pmn b (Nat.lt_of_lt_of_le hb h.size) hp with h1 | h1
    · exact h.pmn b hb h1
    · right
      exact Classical.byContradiction fun hn => (h.keep b hb hn).2 h1
  rho := fun o g l hl => k.rho o g l (h.rho o g l hl)
  bse := fun b => (k.bse b).trans (h.bse b)
/-- What was read of fixed rows reads on. -/
theorem Ext.ro {w w' : World} {cx cx' : Cx} {ob ob' : Obs} (h : Ext w cx ob w' cx' ob') (hM : MemOk w cx ob) : ∀ b x, RO w cx ob b x → RO w' cx' ob' b x ∧ w'.heap[x]? = w.heap[x]? := by
  intro b x hx
  have hl : ¬ Live cx ob x := by
    rcases hx.2 with h1 | ⟨_, h1⟩
    · exact (hM.pml x h1).2
    · exact (hM.bsl x h1).2
  have hk := h.keep x hx.1 hl
  refine ⟨⟨Nat.lt_of_lt_of_le hx.1 h.size, ?_⟩, hk.1⟩
  rcases hx.2 with h1 | ⟨h2, h1⟩
  · exact .inl (h.pmm x h1)
  · exact .inr ⟨h2, (h.bse x).2 h1⟩
theorem Ext.va {w w' : World} {cx cx' : Cx} {ob ob' : Obs} (h : Ext w cx ob w' cx' ob') (hM : MemOk w cx ob) {x : AV} {v : Value} (hv : VA w cx.ρ (RO w cx ob) x v) : VA w' cx'.ρ (RO w' cx' ob') x v :=
  hv.mono (h.ro hM) h.rho
theorem Ext.vc {w w' : World} {cx cx' : Cx} {ob ob' : Obs} (h : Ext w cx ob w' cx' ob') (hM : MemOk w cx ob) {x : LV} {v : Value} (hv : VC w cx.ρ (RO w cx ob) x v) : VC w' cx'.ρ (RO w' cx' ob') x v :=
  hv.mono (h.ro hM) h.rho

/-! ### The judgement -/
structure Base where
  w : World
  cx : Cx
  ob : Obs
  top : ∀ o g l, cx.ρ o g = some l → o < ob.length
def Rel (B : Base) (st : St) (a : Act) (w : World) : Prop :=
  ∃ cx, Ext B.w B.cx B.ob w cx st.ob ∧ MemOk w cx st.ob ∧ a.defers = [] ∧ st.tm.length ≤ a.tmps.size ∧ ∀ i, VA w cx.ρ (RO w cx st.ob) (st.tm.getD i (.l .dead)) (a.tmps.getD i undef)
/-- From every state that fits the code comes to a state that fits one of Q. -/
def Wp (P : Program) (B : Base) (c : Code) (Q : Exit → St → Prop) (st : St) : Prop :=
  ∀ a w, Rel B st a w → c.wp P (fun e a' w' => ∃ st', Q e st' ∧ Rel B st' a' w') a w
def CallsA (P : Program) (f : FuncId) (args : List AV) (ob : Obs) (Q : AV → Obs → Prop) : Prop :=
  ∀ w cx vs, MemOk w cx ob → All2 (VA w cx.ρ (RO w cx ob)) args vs → Calls P f vs.toArray w fun e w' =>
    ∃ v r ob' cx', e = .returned v ∧ Q r ob' ∧ Ext w cx ob w' cx' ob' ∧ MemOk w' cx' ob' ∧ VA w' cx'.ρ (RO w' cx' ob') r v

section
variable {P : Program} {B : Base} {Q : Exit → St → Prop} {st : St}
theorem Wp.mono {c : Code} {Q' : Exit → St → Prop} (h : Wp P B c Q st) (hq : ∀ e s, Q e s → Q' e s) : Wp P B c Q' st :=
  fun a w hr => wp_mono (h a w hr) fun e a' w' ⟨s, h1, h2⟩ => ⟨s, hq _ _ h1, h2⟩
def thn (K : St → Prop) (Q : Exit → St → Prop) : Exit → St → Prop
  | .normal, s => K s
  | e, s => Q e s
def inB (id : Nat) (Q : Exit → St → Prop) : Exit → St → Prop
  | .exit j, s => if j = id then Q .normal s else Q (.exit j) s
  | e, s => Q e s
theorem Wp.skip (h : Q .normal st) : Wp P B .skip Q st := fun a w hr => wp_skip ⟨st, h, hr⟩
theorem Wp.ret (h : Q .ret st) : Wp P B .ret Q st := fun a w hr => wp_ret ⟨st, h, hr⟩
theorem Wp.exit {id : Nat} (h : Q (.exit id) st) : Wp P B (.exit id) Q st := fun a w hr => wp_exit ⟨st, h, hr⟩
theorem Wp.seq {x y : Code} (h : Wp P B x (thn (Wp P B y Q) Q) st) : Wp P B (.seq x y) Q st := fun a w hr =>
  wp_seq (wp_mono (h a w hr) fun e a' w' ⟨s, h1, h2⟩ => by
    cases e <;> first | exact h1 a' w' h2 | exact ⟨s, h1, h2⟩)
theorem Wp.block {id : Nat} {c : Code} (h : Wp P B c (inB id Q) st) : Wp P B (.block id c) Q st := fun a w hr =>
  wp_block (wp_mono (h a w hr) fun e a' w' ⟨s, h1, h2⟩ => by
    cases e with
    | exit j =>
      simp only [inB] at h1
      simp only [Exit.inBlock]
      by_cases hj : j = id
      · rw [if_pos hj] at h1 ⊢; exact ⟨s, h1, h2⟩
      · rw [if_neg hj] at h1 ⊢; exact ⟨s, h1, h2⟩
    | _ => exact ⟨s, h1, h2⟩)
theorem Wp.loop {α : Type} {c : Code} (I : α → St → Prop) (μ : α → Nat) (x : α) (h0 : I x st)
    (hr : ∀ x s, I x s → Wp P B c (thn (fun s' => ∃ y, I y s' ∧ μ y < μ x) Q) s) : Wp P B (.loop c) Q st := by
  intro a w hrel
  refine wp_loop_ghost (P := P) (Q := fun e a' w' => ∃ st', Q e st' ∧ Rel B st' a' w') (fun n a w => ∃ x s, I x s ∧ Rel B s a w ∧ μ x = n) (μ x) ⟨x, st, h0, hrel, rfl⟩ ?_
  rintro n a w ⟨x, s, hI, hrel, rfl⟩
  refine wp_mono (hr x s hI a w hrel) fun e a' w' ⟨s', h1, h2⟩ => ?_
  cases e with
  | normal => obtain ⟨y, hy, hlt⟩ := h1; exact ⟨_, hlt, y, s', hy, h2, rfl⟩
  | _ => exact ⟨s', h1, h2⟩
end
end Go.Proofs.YtkdkbnacelnljaaGreat.RE
