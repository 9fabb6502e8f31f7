/- How rows are made, written and read in the abstract memory. Conditions: those that a theorem names. -/
import Derived.Test.YtkdkbnacelnljaaGreatNRA
set_option linter.unusedVariables false
set_option linter.unusedSimpArgs false
namespace Go.Proofs.YtkdkbnacelnljaaGreat.RE
open Go

theorem World.there_lt {w : World} {b o n : Nat} (h : w.there b o n) (hn : 0 < n) : b < w.heap.size := by
  obtain ⟨v, hv⟩ := Option.isSome_iff_exists.1 (h 0 hn).1
  exact World.block_lt_of_cell? w _ hv
theorem there_of_block {w w' : World} {b o n : Nat} (h : w.there b o n) (hb : w'.heap[b]? = w.heap[b]?) : w'.there b o n := fun j hj => by
  have := h j hj
  rw [World.cell?_of_block (w := w) (a := ⟨b, o + j, none⟩) hb, World.frozen?_of_block (w := w) (a := ⟨b, o + j, none⟩) hb]
  exact this
theorem rangeAt_of_block {w w' : World} {b o : Nat} {vs : List Value} (h : w.rangeAt b o vs) (hb : w'.heap[b]? = w.heap[b]?) : w'.rangeAt b o vs := fun j v hv => by
  rw [World.cell?_of_block (w := w) (a := ⟨b, o + j, none⟩) hb]; exact h j v hv
theorem there_of_cells {w : World} {b : Nat} {c : Array Value} {e : TypeId} (h : w.heap[b]? = some (.cells c e (0, 0))) {n : Nat} (hn : n ≤ c.size) : w.there b 0 n := fun j hj => by
  constructor
  · simp [World.cell?, h, Nat.zero_add, show j < c.size by omega]
  · simp [World.frozen?, h]
theorem rangeAt_of_cells {w : World} {b : Nat} {c : Array Value} {e : TypeId} {f : Nat × Nat} (h : w.heap[b]? = some (.cells c e f)) : w.rangeAt b 0 c.toList := fun j v hv => by
  simp [World.cell?, h, Nat.zero_add]; simpa using hv
theorem rangeAt_left {w : World} {b o : Nat} {vs us : List Value} (h : w.rangeAt b o (vs ++ us)) : w.rangeAt b o vs := fun j v hv => h j v (by
  rw [List.getElem?_append_left (List.getElem?_eq_some_iff.1 hv).1]; exact hv)

/-- What a step does to the world, but for the one block that it may write. -/
structure Grow (w w' : World) (may : Nat → Prop) : Prop where
  os : w'.os = w.os
  tape : w'.tape = w.tape
  output : w'.output = w.output
  size : w.heap.size ≤ w'.heap.size
  keep : ∀ b, b < w.heap.size → ¬ may b → w'.heap[b]? = w.heap[b]?

/-- What holds of a row's or a map's block holds on where the block stays. -/
theorem ObRep.lt {w : World} {ρ : Nat → Nat → Option Loc} {r : Bool → Nat → Prop} {l : Loc} {cs : List LV} (h : ObRep w ρ r l cs) (hz : 0 < l.room) : l.b < w.heap.size := by
  rcases h with ⟨_, h⟩ | ⟨_, _, es, clock, _, h⟩
  · exact World.there_lt h.2.1 hz
  · exact (Array.getElem?_eq_some_iff.1 h).1
theorem ObRep.move {w w' : World} {ρ ρ' : Nat → Nat → Option Loc} {r r' : Bool → Nat → Prop} {l : Loc} {cs cs' : List LV} (h : ObRep w ρ r l cs) (hb : 0 < l.room → w'.heap[l.b]? = w.heap[l.b]?)
    (hv : ∀ vs, All2 (VC w ρ r) cs vs → All2 (VC w' ρ' r') cs' vs) (hl : cs'.length = cs.length) (hm : ∀ es clock, cs = [.mpc es clock] → cs' = [.mpc es clock]) : ObRep w' ρ' r' l cs' := by
  rcases h with ⟨h0, h1, h2, vs, h3, h4⟩ | ⟨h0, h1, es, clock, h2, h3⟩
  · refine .inl ⟨h0, by omega, ?_⟩
    have hl4 := h4.len
    by_cases hz : 0 < l.room
    · exact ⟨there_of_block h2 (hb hz), vs, rangeAt_of_block h3 (hb hz), hv _ h4⟩
    · refine ⟨fun i hi => absurd hi (by omega), vs, fun i v hi => ?_, hv _ h4⟩
      have := (List.getElem?_eq_some_iff.1 hi).1
      omega
  · exact .inr ⟨h0, h1, es, clock, hm _ _ h2, by rw [hb (by omega)]; exact h3⟩
/-- A row takes its place (a new one, or the next state of an elder one). -/
theorem mem_putG {w w' : World} {cx : Cx} {ob ob' : Obs} {o : Nat} {x : Ob} {l : Loc} (hM : MemOk w cx ob)
    (h1 : ob'[o]? = some (some x)) (h2 : ∀ j, j ≠ o → ob'[j]? = ob[j]?) (hg : ∀ g, x.g ≤ g → cx.ρ o g = none) (hlen : ob.length ≤ ob'.length)
    (hw : Grow w w' (fun b => 0 < l.room ∧ b = l.b))
    (hl : 0 < l.room → w.heap.size ≤ l.b ∨ ∃ x0 l0, ob[o]? = some (some x0) ∧ cx.ρ o x0.g = some l0 ∧ 0 < l0.room ∧ l0.b = l.b)
    (hrep : ∀ cx', Ext w cx ob w' cx' ob' → ObRep w' cx'.ρ (RO w' cx' ob') l x.cs) :
    ∃ cx', Ext w cx ob w' cx' ob' ∧ MemOk w' cx' ob' ∧ cx'.ρ o x.g = some l := by
  let cx' : Cx := { ρ := fun i g => if i = o ∧ g = x.g then some l else cx.ρ i g, pm := cx.pm, bs := cx.bs }
  have hne : ∀ {j x1 l1}, j ≠ o → ob'[j]? = some (some x1) → cx'.ρ j x1.g = some l1 → ob[j]? = some (some x1) ∧ cx.ρ j x1.g = some l1 := by
    intro j x1 l1 hj h3 h4
    rw [h2 j hj] at h3
    simp only [cx', hj, false_and, if_false] at h4
    exact ⟨h3, h4⟩
  have hself : cx'.ρ o x.g = some l := by simp [cx']
  have hold : ∀ b, b < w.heap.size → ¬ Live cx ob b → ¬ (0 < l.room ∧ b = l.b) := by
    rintro b hb hlive ⟨h3, rfl⟩
    rcases hl h3 with h4 | ⟨x0, l0, h5, h6, h7, h8⟩
    · omega
    · exact hlive ⟨o, x0, l0, h5, h6, h7, h8⟩
  have hnl : ∀ b, b < w.heap.size → ¬ Live cx ob b → ¬ Live cx' ob' b := by
    rintro b hb hlive ⟨j, x1, l1, h3, h4, h5, h6⟩
    by_cases hj : j = o
    · subst hj
      rw [h1] at h3; simp at h3; subst h3
      rw [hself] at h4; simp at h4; subst h4
      exact hold b hb hlive ⟨h5, h6.symm⟩
    · obtain ⟨h7, h8⟩ := hne hj h3 h4
      exact hlive ⟨j, x1, l1, h7, h8, h5, h6⟩
  have hE : Ext w cx ob w' cx' ob' := by
    refine ⟨hw.os, hw.tape, hw.output, hw.size, fun b hb hlive => ⟨hw.keep b hb (hold b hb hlive), hnl b hb hlive⟩, fun _ h => h, fun _ _ h => .inl h, ?_, fun _ => Iff.rfl⟩
    intro j g l1 h3
    show (if j = o ∧ g = x.g then some l else cx.ρ j g) = some l1
    by_cases hj : j = o ∧ g = x.g
    · obtain ⟨rfl, rfl⟩ := hj
      rw [hg _ (Nat.le_refl _)] at h3; cases h3
    · rw [if_neg hj]; exact h3
  have ho : o < ob'.length := (List.getElem?_eq_some_iff.1 h1).1
  refine ⟨cx', hE, ⟨?_, ?_, ?_, ?_, ?_, ?_⟩, hself⟩
  · intro j x1 h3
    by_cases hj : j = o
    · subst hj
      rw [h1] at h3; simp at h3; subst h3
      exact ⟨l, hself, hrep _ hE⟩
    · have h3' := h3
      rw [h2 j hj] at h3'
      obtain ⟨l1, h4, hR⟩ := hM.rep j x1 h3'
      refine ⟨l1, hE.rho _ _ _ h4, hR.move (fun hz => hw.keep l1.b (hR.lt hz) ?_) (fun vs h => h.imp fun _ _ h => hE.vc hM h) rfl (fun _ _ h => h)⟩
      rintro ⟨h9, h10⟩
      rcases hl h9 with h11 | ⟨x0, l0, h12, h13, h14, h15⟩
      · have := hR.lt hz; omega
      · exact hj (hM.dis j o x1 x0 l1 l0 h3' h12 h4 h13 hz h14 (by omega))
  · intro j x1 g h3 h4
    show (if j = o ∧ g = x.g then some l else cx.ρ j g) = none
    by_cases hj : j = o
    · subst hj
      rw [h1] at h3; simp at h3; subst h3
      rw [if_neg (by omega)]
      exact hg g (by omega)
    · rw [if_neg (fun h => hj h.1)]
      rw [h2 j hj] at h3
      exact hM.gen j x1 g h3 h4
  · intro j g hj
    show (if j = o ∧ g = x.g then some l else cx.ρ j g) = none
    rw [if_neg (by omega)]
    exact hM.top j g (by omega)
  · intro i j x1 x2 l1 l2 h3 h4 h5 h6 h7 h8 h9
    by_cases hi : i = o
    · by_cases hj : j = o
      · rw [hi, hj]
      · exfalso
        subst hi
        rw [h1] at h3; simp at h3; subst h3
        rw [hself] at h5; simp at h5; subst h5
        obtain ⟨h10, h11⟩ := hne hj h4 h6
        obtain ⟨l3, h12, hR⟩ := hM.rep j x2 h10
        rw [h11] at h12; simp at h12; subst h12
        rcases hl h7 with h15 | ⟨x0, l0, h16, h17, h18, h19⟩
        · have := hR.lt h8; omega
        · exact hj (hM.dis j i x2 x0 l2 l0 h10 h16 h11 h17 h8 h18 (by omega))
    · by_cases hj : j = o
      · exfalso
        subst hj
        rw [h1] at h4; simp at h4; subst h4
        rw [hself] at h6; simp at h6; subst h6
        obtain ⟨h10, h11⟩ := hne hi h3 h5
        obtain ⟨l3, h12, hR⟩ := hM.rep i x1 h10
        rw [h11] at h12; simp at h12; subst h12
        rcases hl h8 with h15 | ⟨x0, l0, h16, h17, h18, h19⟩
        · have := hR.lt h7; omega
        · exact hi (hM.dis i j x1 x0 l1 l0 h10 h16 h11 h17 h7 h18 (by omega))
      · obtain ⟨h10, h11⟩ := hne hi h3 h5
        obtain ⟨h12, h13⟩ := hne hj h4 h6
        exact hM.dis i j x1 x2 l1 l2 h10 h12 h11 h13 h7 h8 h9
  · intro b hb
    obtain ⟨h3, h4⟩ := hM.pml b hb
    exact ⟨Nat.lt_of_lt_of_le h3 hw.size, hnl b h3 h4⟩
  · intro b hb
    obtain ⟨h3, h4⟩ := hM.bsl b hb
    exact ⟨Nat.lt_of_lt_of_le h3 hw.size, hnl b h3 h4⟩

theorem mem_put {w w' : World} {cx : Cx} {ob ob' : Obs} {o : Nat} {x : Ob} {l : Loc} {vs : List Value} (hM : MemOk w cx ob)
    (h1 : ob'[o]? = some (some x)) (h2 : ∀ j, j ≠ o → ob'[j]? = ob[j]?) (hg : ∀ g, x.g ≤ g → cx.ρ o g = none) (hlen : ob.length ≤ ob'.length)
    (hw : Grow w w' (fun b => 0 < l.room ∧ b = l.b))
    (hl : 0 < l.room → w.heap.size ≤ l.b ∨ ∃ x0 l0, ob[o]? = some (some x0) ∧ cx.ρ o x0.g = some l0 ∧ 0 < l0.room ∧ l0.b = l.b)
    (ht : w'.there l.b l.o l.room) (hr : w'.rangeAt l.b l.o vs) (hv : All2 (VC w cx.ρ (RO w cx ob)) x.cs vs) (hroom : x.cs.length ≤ l.room) (hm : l.mp = false := by rfl) :
    ∃ cx', Ext w cx ob w' cx' ob' ∧ MemOk w' cx' ob' ∧ cx'.ρ o x.g = some l :=
  mem_putG hM h1 h2 hg hlen hw hl fun cx' hE => .inl ⟨hm, hroom, ht, vs, hr, hv.imp fun _ _ h => hE.vc hM h⟩

/-- A row is written in its place. -/
theorem mem_setG {w w' : World} {cx : Cx} {ob : Obs} {o : Nat} {x : Ob} {cs : List LV} {l : Loc} (hM : MemOk w cx ob)
    (h1 : ob[o]? = some (some x)) (hl : cx.ρ o x.g = some l) (hw : Grow w w' (fun b => 0 < l.room ∧ b = l.b))
    (hrep : Ext w cx ob w' cx (ob.set o (some ⟨x.g, cs⟩)) → ObRep w' cx.ρ (RO w' cx (ob.set o (some ⟨x.g, cs⟩))) l cs) :
    Ext w cx ob w' cx (ob.set o (some ⟨x.g, cs⟩)) ∧ MemOk w' cx (ob.set o (some ⟨x.g, cs⟩)) := by
  have ho : o < ob.length := (List.getElem?_eq_some_iff.1 h1).1
  have hs : (ob.set o (some ⟨x.g, cs⟩))[o]? = some (some ⟨x.g, cs⟩) := by simp [ho]
  have hn : ∀ j, j ≠ o → (ob.set o (some ⟨x.g, cs⟩))[j]? = ob[j]? := fun j hj => by rw [List.getElem?_set_ne (Ne.symm hj)]
  have hlv : ∀ b, Live cx (ob.set o (some ⟨x.g, cs⟩)) b → Live cx ob b := by
    rintro b ⟨j, x1, l1, h3, h4, h5, h6⟩
    by_cases hj : j = o
    · subst hj
      rw [hs] at h3; simp at h3; subst h3
      exact ⟨j, x, l1, h1, h4, h5, h6⟩
    · exact ⟨j, x1, l1, by rw [← hn j hj]; exact h3, h4, h5, h6⟩
  have hold : ∀ b, ¬ Live cx ob b → ¬ (0 < l.room ∧ b = l.b) := by
    rintro b hlive ⟨h3, rfl⟩
    exact hlive ⟨o, x, l, h1, hl, h3, rfl⟩
  have hE : Ext w cx ob w' cx (ob.set o (some ⟨x.g, cs⟩)) :=
    ⟨hw.os, hw.tape, hw.output, hw.size, fun b hb hlive => ⟨hw.keep b hb (hold b hlive), fun h => hlive (hlv b h)⟩, fun _ h => h, fun _ _ h => .inl h, fun _ _ _ h => h, fun _ => Iff.rfl⟩
  refine ⟨hE, ?_, ?_, ?_, ?_, ?_, ?_⟩
  · intro j x1 h3
    by_cases hj : j = o
    · subst hj
      rw [hs] at h3; simp at h3; subst h3
      exact ⟨l, hl, hrep hE⟩
    · have h3' := h3
      rw [hn j hj] at h3'
      obtain ⟨l1, h4, hR⟩ := hM.rep j x1 h3'
      refine ⟨l1, h4, hR.move (fun hz => hw.keep l1.b (hR.lt hz) ?_) (fun vs h => h.imp fun _ _ h => hE.vc hM h) rfl (fun _ _ h => h)⟩
      rintro ⟨h9, h10⟩
      exact hj (hM.dis j o x1 x l1 l h3' h1 h4 hl hz h9 h10)
  · intro j x1 g h3 h4
    by_cases hj : j = o
    · subst hj
      rw [hs] at h3; simp at h3; subst h3
      exact hM.gen j x g h1 h4
    · rw [hn j hj] at h3; exact hM.gen j x1 g h3 h4
  · intro j g hj; exact hM.top j g (by simpa using hj)
  · intro i j x1 x2 l1 l2 h3 h4 h5 h6 h7 h8 h9
    have go : ∀ {i : Nat} {x1 : Ob}, (ob.set o (some ⟨x.g, cs⟩))[i]? = some (some x1) → ∃ x1' : Ob, ob[i]? = some (some x1') ∧ x1'.g = x1.g := by
      intro i x1 h3
      by_cases hi : i = o
      · subst hi; rw [hs] at h3; simp at h3; subst h3; exact ⟨x, h1, rfl⟩
      · rw [hn i hi] at h3; exact ⟨x1, h3, rfl⟩
    obtain ⟨y1, a1, a2⟩ := go h3
    obtain ⟨y2, a3, a4⟩ := go h4
    exact hM.dis i j y1 y2 l1 l2 a1 a3 (by rw [a2]; exact h5) (by rw [a4]; exact h6) h7 h8 h9
  · intro b hb
    obtain ⟨h3, h4⟩ := hM.pml b hb
    exact ⟨Nat.lt_of_lt_of_le h3 hw.size, fun h => h4 (hlv b h)⟩
  · intro b hb
    obtain ⟨h3, h4⟩ := hM.bsl b hb
    exact ⟨Nat.lt_of_lt_of_le h3 hw.size, fun h => h4 (hlv b h)⟩

theorem mem_set {w w' : World} {cx : Cx} {ob : Obs} {o : Nat} {x : Ob} {cs : List LV} {l : Loc} {vs : List Value} (hM : MemOk w cx ob)
    (h1 : ob[o]? = some (some x)) (hl : cx.ρ o x.g = some l) (hw : Grow w w' (fun b => 0 < l.room ∧ b = l.b))
    (ht : w'.there l.b l.o l.room) (hr : w'.rangeAt l.b l.o vs) (hv : All2 (VC w cx.ρ (RO w cx ob)) cs vs) (hroom : cs.length ≤ l.room) (hm : l.mp = false) :
    Ext w cx ob w' cx (ob.set o (some ⟨x.g, cs⟩)) ∧ MemOk w' cx (ob.set o (some ⟨x.g, cs⟩)) :=
  mem_setG hM h1 hl hw fun hE => .inl ⟨hm, hroom, ht, vs, hr, hv.imp fun _ _ h => hE.vc hM h⟩

/-- A new block holds a new row. -/
theorem mem_new {w w' : World} {cx : Cx} {ob : Obs} {cs : List LV} {c : Array Value} {e : TypeId} (hM : MemOk w cx ob)
    (hw : Grow w w' (fun b => b = w.heap.size)) (hb : w'.heap[w.heap.size]? = some (.cells c e (0, 0))) (vs : List Value) (hc : c.toList.take vs.length = vs) (hv : All2 (VC w cx.ρ (RO w cx ob)) cs vs) :
    ∃ cx', Ext w cx ob w' cx' (ob ++ [some ⟨0, cs⟩]) ∧ MemOk w' cx' (ob ++ [some ⟨0, cs⟩]) ∧ cx'.ρ ob.length 0 = some ⟨w.heap.size, 0, c.size, false⟩ := by
  have hle : vs.length ≤ c.size := by
    have := congrArg List.length hc
    simp only [List.length_take, Array.length_toList] at this
    omega
  refine mem_put (o := ob.length) (x := ⟨0, cs⟩) (l := ⟨w.heap.size, 0, c.size, false⟩) (vs := vs) hM (by simp) (fun j hj => ?_) (fun g _ => hM.top _ _ (Nat.le_refl _)) (by simp)
    ⟨hw.os, hw.tape, hw.output, hw.size, fun b hb _ => hw.keep b hb (by omega)⟩ (fun _ => .inl (Nat.le_refl _)) (there_of_cells hb (Nat.le_refl _)) ?_ hv (by rw [hv.len]; exact hle)
  · by_cases hj' : j < ob.length
    · rw [List.getElem?_append_left hj']
    · rw [List.getElem?_append_right (by omega), List.getElem?_eq_none (by simp; omega), List.getElem?_eq_none (by omega)]
  · have := rangeAt_of_cells hb
    rw [← List.take_append_drop vs.length c.toList, hc] at this
    exact rangeAt_left this

/-- A new block holds a new map. -/
theorem mem_newM {w : World} {cx : Cx} {ob : Obs} {es : Array MapEntry} {clock : Nat} (hM : MemOk w cx ob) :
    ∃ cx', Ext w cx ob (w.alloc (.map es clock)) cx' (ob ++ [some ⟨0, [.mpc es clock]⟩]) ∧ MemOk (w.alloc (.map es clock)) cx' (ob ++ [some ⟨0, [.mpc es clock]⟩]) ∧ cx'.ρ ob.length 0 = some ⟨w.heap.size, 0, 1, true⟩ := by
  refine mem_putG (o := ob.length) (x := ⟨0, [.mpc es clock]⟩) (l := ⟨w.heap.size, 0, 1, true⟩) hM (by simp) (fun j hj => ?_) (fun g _ => hM.top _ _ (Nat.le_refl _)) (by simp)
    ⟨rfl, rfl, rfl, by simp, fun b hb _ => RowKit.Below.heap_alloc w _ b hb⟩ (fun _ => .inl (Nat.le_refl _)) fun cx' hE => .inr ⟨rfl, rfl, es, clock, rfl, by show (w.heap.push _)[w.heap.size]? = _; simp⟩
  by_cases hj' : j < ob.length
  · rw [List.getElem?_append_left hj']
  · rw [List.getElem?_append_right (by omega), List.getElem?_eq_none (by simp; omega), List.getElem?_eq_none (by omega)]

/-! ### The relation of a frame -/
theorem Rel.step {B : Base} {st : St} {a : Act} {w w' : World} {cx cx' : Cx} {ob' : Obs} {d : Option Tmp} {r : AV} {v : Value}
    (hB : Ext B.w B.cx B.ob w cx st.ob) (hM : MemOk w cx st.ob) (hd : a.defers = []) (hl : st.tm.length ≤ a.tmps.size) (ht : ∀ i, VA w cx.ρ (RO w cx st.ob) (st.tm.getD i (.l .dead)) (a.tmps.getD i undef))
    (hE : Ext w cx st.ob w' cx' ob') (hM' : MemOk w' cx' ob') (hv : VA w' cx'.ρ (RO w' cx' ob') r v) :
    Rel B ⟨match d with | some t => st.tm.set t r | none => st.tm, ob'⟩ (a.put d v) w' := by
  refine ⟨cx', hB.trans hE, hM', by cases d <;> exact hd, ?_, fun i => ?_⟩
  · cases d with
    | none => exact hl
    | some t => simpa [Act.put] using hl
  · have h0 := hE.va hM (ht i)
    cases d with
    | none => exact h0
    | some t =>
      simp only [Act.put]
      by_cases hi : i = t
      · subst hi
        by_cases hlt : i < st.tm.length
        · have : i < a.tmps.size := by omega
          simp [List.getD_eq_getElem?_getD, hlt, this]
          exact hv
        · simp only [List.getD_eq_getElem?_getD, List.getElem?_eq_none (l := st.tm.set i r) (by simpa using hlt), Option.getD_none]
          trivial
      · simp only [List.getD_eq_getElem?_getD, List.getElem?_set_ne (Ne.symm hi)] at h0 ⊢
        rw [show (a.tmps.setIfInBounds t v).getD i undef = a.tmps.getD i undef by simp [Array.getD_eq_getD_getElem?, Array.getElem?_setIfInBounds_ne (Ne.symm hi)]]
        exact h0
theorem Rel.same {B : Base} {st : St} {a : Act} {w : World} {cx : Cx} {d : Option Tmp} {r : AV} {v : Value}
    (hB : Ext B.w B.cx B.ob w cx st.ob) (hM : MemOk w cx st.ob) (hd : a.defers = []) (hl : st.tm.length ≤ a.tmps.size) (ht : ∀ i, VA w cx.ρ (RO w cx st.ob) (st.tm.getD i (.l .dead)) (a.tmps.getD i undef))
    (hv : VA w cx.ρ (RO w cx st.ob) r v) : Rel B ⟨match d with | some t => st.tm.set t r | none => st.tm, st.ob⟩ (a.put d v) w :=
  Rel.step hB hM hd hl ht (Ext.refl _ _ _) hM hv
/-- What an operand is. -/
def ofV (v : Value) : LV := match v with
  | .slice none 0 0 => .nils
  | v => .sc v
def rd (tm : List AV) : Operand → AV
  | .tmp t => tm.getD t (.l .dead)
  | .const v => .l (ofV v)
  | .func f => .l (.clo f [])
  | .global _ => .l .dead
theorem ofV_ok (w : World) (ρ : Nat → Nat → Option Loc) (r : Bool → Nat → Prop) (v : Value) : VL w ρ r (ofV v) v := by
  unfold ofV
  split
  · rfl
  · rfl
theorem rd_ok {w : World} {ρ : Nat → Nat → Option Loc} {r : Bool → Nat → Prop} {tm : List AV} {a : Act} (h : ∀ i, VA w ρ r (tm.getD i (.l .dead)) (a.tmps.getD i undef)) (x : Operand) : VA w ρ r (rd tm x) (a.eval x) := by
  cases x with
  | tmp t => exact h t
  | const v => exact ofV_ok w ρ r v
  | global g => trivial
  | func f => exact ⟨#[], rfl, .nil⟩
end Go.Proofs.YtkdkbnacelnljaaGreat.RE
