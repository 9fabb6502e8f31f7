/- What is handed over as an argument, opened as lent rows; a contract as the row asks for it. Conditions: those that a theorem names. -/
import Derived.Test.YtkdkbnacelnljaaGreatNRU
import Derived.Deep.Slices
import Derived.Below
import Derived.ChangeArms
set_option linter.unusedVariables false
set_option linter.unusedSimpArgs false
namespace Go.Proofs.YtkdkbnacelnljaaGreat.RE
open Go Go.RowKit Go.ChangeShapes Go.WideShapes Go.Deep

abbrev rB (W : World) (b : Nat) : Prop := b < W.heap.size
/-- Whatever is read by the type is cells of this form. -/
def OpD {α : Type} (P : Program) (W : World) (t : TypeId) (e : α → List DV) : Prop :=
  ∀ (H : Type) (enc : TypeId × Value → H) (base : Nat) (held : Bool) (fuel : Nat) (cs : List Value) (x : DataW H × List MemPlace), DataW.trod enc P W base (fun _ => true) held fuel t cs = some x → ∃ v, All2 (VD W (rB W)) (e v) cs
variable {P : Program} {W : World}
theorem flat_len {α : Type} {sz : Nat} {e : α → List DV} (he : ∀ v, (e v).length = sz) (xs : List α) : (xs.flatMap e).length = xs.length * sz := by
  induction xs with
  | nil => simp
  | cons x xs ih => simp only [List.flatMap_cons, List.length_append, he, ih, List.length_cons]; rw [Nat.add_mul]; omega
theorem flat_drop {α : Type} {sz : Nat} {e : α → List DV} (he : ∀ v, (e v).length = sz) (xs : List α) (j : Nat) : (xs.flatMap e).drop (j * sz) = (xs.drop j).flatMap e := by
  induction xs generalizing j with
  | nil => simp
  | cons x xs ih =>
    cases j with
    | zero => simp
    | succ j =>
      simp only [List.flatMap_cons, List.drop_succ_cons]
      have h1 : sz ≤ (j + 1) * sz := Nat.le_mul_of_pos_left _ (by omega)
      rw [List.drop_append, List.drop_of_length_le (by rw [he]; exact h1), List.nil_append, he, ← ih j]
      congr 1
      rw [Nat.add_mul]; omega
theorem flat_get {α : Type} {sz : Nat} {e : α → List DV} (he : ∀ v, (e v).length = sz) (xs : List α) (i : Nat) (hi : i < (xs.flatMap e).length) : ∃ h : i / sz < xs.length, (xs.flatMap e).getD i .nils = (e xs[i / sz]).getD (i % sz) .nils ∧ i % sz < sz := by
  rw [flat_len he] at hi
  have hz : 0 < sz := by
    rcases Nat.eq_zero_or_pos sz with h | h
    · subst h; simp at hi
    · exact h
  have h1 : i / sz < xs.length := Nat.div_lt_of_lt_mul (by rw [Nat.mul_comm]; exact hi)
  refine ⟨h1, ?_, Nat.mod_lt _ hz⟩
  have h2 := flat_drop he xs (i / sz)
  rw [List.drop_eq_getElem_cons h1, List.flatMap_cons] at h2
  have h3 : (xs.flatMap e).getD i .nils = ((xs.flatMap e).drop (i / sz * sz)).getD (i % sz) .nils := by
    simp only [List.getD_eq_getElem?_getD, List.getElem?_drop]
    rw [Nat.mul_comm, Nat.div_add_mod]
  rw [h3, h2]
  simp only [List.getD_eq_getElem?_getD]
  rw [List.getElem?_append_left (by rw [he]; exact Nat.mod_lt _ hz)]
theorem open_rowD {α : Type} {t et : TypeId} {sz : Nat} {e : α → List DV} (ht : P.underlying t = some (.slice et)) (hc : P.cellsOf et = sz) (he : ∀ v, (e v).length = sz) (h : OpD P W et e) {H : Type} {enc : TypeId × Value → H} {base : Nat} {held : Bool} {fuel : Nat} {cs : List Value} {x : DataW H × List MemPlace}
    (hx : DataW.trod enc P W base (fun _ => true) held fuel t cs = some x) : ∃ (xs : List α) (v : Value), cs = [v] ∧ xs.length ≤ maxLen ∧ VD W (rB W) (.dsl xs.length (xs.flatMap e)) v := by
  rcases open_slice ht hx with ⟨rfl, rfl⟩ | ⟨a, len, cap, m, n, D, Pl, rfl, hb, hl, hm, hmm, rfl, hall⟩
  · exact ⟨[], _, rfl, Nat.zero_le _, .dsl 0 [] none 0 (fun _ => undef) (Nat.le_refl _) (Nat.zero_le _) (fun i hi => by simp at hi) (fun i hi => by simp at hi)⟩
  simp only [if_true] at hmm
  subst hmm
  by_cases h0 : len = 0
  · subst h0
    exact ⟨[], _, rfl, Nat.zero_le _, .dsl 0 [] (some a) m (fun _ => undef) (Nat.zero_le _) hm (fun i hi => by simp at hi) (fun i hi => by simp at hi)⟩
  have each : ∀ i, i < m → ∃ v c, W.cells? base (a.add (i * P.cellsOf et)) (P.cellsOf et) = some c ∧ All2 (VD W (rB W)) (e v) c := by
    intro i hi
    obtain ⟨c, h1, h2⟩ := hall i hi
    obtain ⟨v, hv⟩ := h H enc base held n c _ h2
    exact ⟨v, c, h1, hv⟩
  have : Inhabited α := ⟨(each 0 (by omega)).choose⟩
  obtain ⟨V, hV⟩ := choose_lt each
  have hlen : ((List.range len).map V).length = len := by simp
  have key : ∀ i, i < (((List.range len).map V).flatMap e).length → ∃ u, W.cell? (a.add i) = some u ∧ VD W (rB W) ((((List.range len).map V).flatMap e).getD i .nils) u := by
    intro i hi
    obtain ⟨h1, h2, h3⟩ := flat_get he _ i hi
    rw [hlen] at h1
    obtain ⟨c, h4, h5⟩ := hV (i / sz) (by omega)
    obtain ⟨_, hcl, hcell⟩ := World.cells?_some h4
    rw [hc] at hcl hcell
    have h6 := hcell (i % sz) h3
    rw [Go.Deep.add_add, Nat.mul_comm, Nat.div_add_mod] at h6
    rw [h2]
    simp only [List.getElem_map, List.getElem_range]
    have h7 : i % sz < (e (V (i / sz))).length := by rw [he]; exact h3
    obtain ⟨v, h8, h9⟩ := h5.get (List.getElem?_eq_getElem h7)
    refine ⟨v, by rw [h6, h8], ?_⟩
    rw [← getD_at h7]; exact h9
  refine ⟨(List.range len).map V, _, rfl, by rw [hlen]; omega, ?_⟩
  rw [hlen]
  refine .dsl len _ (some a) m (fun i => (W.cell? (a.add i)).getD undef) hl hm (fun i hi => ?_) (fun i hi => ?_)
  · obtain ⟨u, h1, _⟩ := key i hi
    have hs : a.spot = none ∧ a.block < W.heap.size := by
      obtain ⟨u0, h1, _⟩ := key 0 (by omega)
      rw [show a.add 0 = a from if_pos rfl] at h1
      unfold World.cell? at h1
      split at h1
      · rename_i c el fr hblk
        split at h1
        · cases h1
        · rename_i hsp
          refine ⟨by simpa using hsp, ?_⟩
          rcases Nat.lt_or_ge a.block W.heap.size with h | h
          · exact h
          · rw [Array.getElem?_eq_none h] at hblk; cases hblk
      · cases h1
    exact ⟨a, rfl, hs.1, hs.2, by rw [h1]; rfl⟩
  · obtain ⟨u, h1, h2⟩ := key i hi
    rw [h1]; exact h2

/-! ### A contract as the row asks for it -/
def cx0 (W : World) : Cx := ⟨fun _ _ => none, fun _ => False, rB W⟩
theorem mem0 (W : World) : MemOk W (cx0 W) [] where
  rep o x h := by simp at h
  gen o x g h := by simp at h
  top _ _ _ := rfl
  dis o o' x x' l l' h := by simp at h
  pml b h := h.elim
  bsl b h := ⟨h, fun ⟨o, x, l, h, _⟩ => by simp at h⟩
theorem ro0 {W : World} (b : Nat) (h : rB W b) : RO W (cx0 W) [] true b := ⟨h, .inr ⟨rfl, h⟩⟩
theorem arg_dsl {W : World} {n : Nat} {ds : List DV} {v : Value} (h : VD W (rB W) (.dsl n ds) v) : VA W (cx0 W).ρ (RO W (cx0 W) []) (.l (.dsl true n ds)) v :=
  h.mono fun b hb => ⟨ro0 b hb, rfl⟩
theorem Val.row {f : FuncId} {args : List AV} {vs : List Value} (h : Val P f args (T true)) (hv : All2 (VA W (cx0 W).ρ (RO W (cx0 W) [])) args vs) : Calls P f vs.toArray W fun e W' => e = .returned (.bool true) ∧ Below W.heap.size W W' :=
  (h W (cx0 W) vs (mem0 W) hv).mono fun e W' ⟨v, r, ob', cx', he, ⟨hr, ho⟩, hE, hM, hva⟩ => by
    subst hr; subst ho; subst he
    refine ⟨by rw [show v = .bool true from hva], hE.os, hE.tape, hE.output, hE.size, fun k hk => (hE.keep k hk ?_).1⟩
    rintro ⟨o, x, l, h, _⟩
    simp at h
end Go.Proofs.YtkdkbnacelnljaaGreat.RE

/-! Bytes that are handed over, as bytes. Conditions: those that a theorem names. -/
set_option linter.unusedVariables false
set_option linter.unusedSimpArgs false
namespace Go.Proofs.YtkdkbnacelnljaaGreat.RE
open Go Go.RowKit Go.ChangeShapes Go.WideShapes Go.Deep
theorem opd_byte {P : Program} {W : World} {t : TypeId} (ht : P.underlying t = some (.int .u8)) : OpD P W t fun n : UInt8 => [DV.sc (.int .u8 (n.toNat : Int))] := by
  intro H enc base held fuel cs x h
  obtain ⟨n, rfl, _, hw⟩ := DataW.trod_int ht h
  have hr : 0 ≤ n ∧ n ≤ 255 := by
    simp only [Lit.wf, Bool.and_eq_true, decide_eq_true_eq] at hw
    exact hw
  have e : (UInt8.ofNat n.toNat).toNat = n.toNat := by
    simp only [UInt8.toNat_ofNat']
    omega
  refine ⟨UInt8.ofNat n.toNat, ?_⟩
  simp only [e, Int.toNat_of_nonneg hr.1]
  exact .cons (.sc _ rfl) .nil
end Go.Proofs.YtkdkbnacelnljaaGreat.RE
