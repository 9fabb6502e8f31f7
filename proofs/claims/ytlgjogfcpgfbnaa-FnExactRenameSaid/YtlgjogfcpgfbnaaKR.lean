/- What is handed over as an argument, opened as a row, a record or a value of its kind. Conditions: those that a theorem names. -/
import Derived.Test.YtlgjogfcpgfbnaaWMore
import Derived.Deep.Slices
set_option linter.unusedVariables false
namespace Go.Proofs.Ytlgjogfcpgfbnaa.KR
open Go.ChangeShapes Go.WideShapes Go.RowKit Go.Deep Go.Proofs.YtlgjogfcpgfbnaaW.PrintWords

/-- Whatever is read by the type is a value of the kind. -/
def Opn {α : Type} (P : Program) (W : World) (t : TypeId) (d : Kd α) : Prop :=
  ∀ (H : Type) (enc : TypeId × Value → H) (base : Nat) (held : Bool) (fuel : Nat) (cs : List Value) (x : DataW H × List MemPlace), DataW.trod enc P W base (fun _ => true) held fuel t cs = some x → ∃ v, d.K W v cs
variable {P : Program} {W : World}
theorem opn_int {t : TypeId} {k : IntKind} (ht : P.underlying t = some (.int k)) : Opn P W t (Kd.int k) := by
  intro H enc base held fuel cs x h
  obtain ⟨n, rfl, _⟩ := DataW.trod_int ht h
  exact ⟨n, rfl⟩
theorem opn_bool {t : TypeId} (ht : P.underlying t = some .bool) : Opn P W t Kd.bool := by
  intro H enc base held fuel cs x h
  obtain ⟨n, rfl, _⟩ := DataW.trod_bool ht h
  exact ⟨n, rfl⟩
theorem opn_string {t : TypeId} (ht : P.underlying t = some .string) : Opn P W t Kd.string := by
  intro H enc base held fuel cs x h
  obtain ⟨n, rfl, _⟩ := DataW.trod_string ht h
  exact ⟨n, rfl⟩
theorem opn_iso {α β : Type} {t : TypeId} {d : Kd α} (f : β → α) (g : α → β) (hfg : ∀ x, f (g x) = x) (h : Opn P W t d) : Opn P W t (Kd.iso d f) := by
  intro H enc base held fuel cs x hx
  obtain ⟨v, hv⟩ := h H enc base held fuel cs x hx
  refine ⟨g v, ?_⟩
  show d.K W (f (g v)) cs
  rw [hfg]; exact hv
/-- .. a record's fields from a cell on. -/
def OpnL {α : Type} (P : Program) (W : World) (off : Nat) (fs : List Field) (d : Kd α) : Prop :=
  ∀ (H : Type) (enc : TypeId × Value → H) (base : Nat) (held : Bool) (cs : List Value), cs.length = d.sz →
    (∀ f ∈ fs, ∃ n x, DataW.trod enc P W base (fun _ => true) held n f.type ((cs.drop (f.offset - off)).take (P.cellsOf f.type)) = some x) → ∃ v, d.K W v cs
theorem opnL_one {α : Type} {off : Nat} {f : Field} {d : Kd α} (ho : f.offset = off) (hc : P.cellsOf f.type = d.sz) (h : Opn P W f.type d) : OpnL P W off [f] d := by
  intro H enc base held cs hl hf
  obtain ⟨n, x, hx⟩ := hf f List.mem_cons_self
  rw [ho, Nat.sub_self, List.drop_zero, hc, List.take_of_length_le (by omega)] at hx
  exact h H enc base held n cs x hx
theorem opnL_cons {α β : Type} {off : Nat} {f : Field} {fs : List Field} {a : Kd α} {b : Kd β} (ho : f.offset = off) (hc : P.cellsOf f.type = a.sz) (h : Opn P W f.type a) (hs : OpnL P W (off + a.sz) fs b)
    (hge : ∀ g ∈ fs, off + a.sz ≤ g.offset) : OpnL P W off (f :: fs) (Kd.pair a b) := by
  intro H enc base held cs hl hf
  have hl' : cs.length = a.sz + b.sz := hl
  obtain ⟨n, x, hx⟩ := hf f List.mem_cons_self
  rw [ho, Nat.sub_self, List.drop_zero, hc] at hx
  obtain ⟨v, hv⟩ := h H enc base held n _ x hx
  obtain ⟨u, hu⟩ := hs H enc base held (cs.drop a.sz) (by rw [List.length_drop]; omega) (fun g hg => by
    obtain ⟨n, x, hx⟩ := hf g (List.mem_cons_of_mem _ hg)
    have := hge g hg
    refine ⟨n, x, ?_⟩
    rw [List.drop_drop, show a.sz + (g.offset - (off + a.sz)) = g.offset - off by omega]
    exact hx)
  exact ⟨(v, u), cs.take a.sz, cs.drop a.sz, (List.take_append_drop _ _).symm, hv, hu⟩
theorem opn_struct {α : Type} {t : TypeId} {fs : Array Field} {d : Kd α} (ht : P.underlying t = some (.struct fs)) (hc : P.cellsOf t = d.sz) (h : OpnL P W 0 fs.toList d) : Opn P W t d := by
  intro H enc base held fuel cs x hx
  obtain ⟨xs, n, rfl, _, hl, hxl, hf⟩ := DataW.trod_struct ht hx
  refine h H enc base held cs (by omega) (fun f hm => ?_)
  obtain ⟨i, hi, rfl⟩ := List.getElem_of_mem hm
  have hi' : i < fs.size := by simpa using hi
  have := hf i (fs.toList[i]) (by simp [hi'])
  rw [List.getElem?_eq_getElem (by omega)] at this
  rw [Nat.sub_zero]
  exact ⟨n, _, this⟩
theorem open_row {α : Type} {t e : TypeId} {d : Kd α} (ht : P.underlying t = some (.slice e)) (hc : P.cellsOf e = d.sz) (h : Opn P W e d) {H : Type} {enc : TypeId × Value → H} {base : Nat} {held : Bool} {fuel : Nat} {cs : List Value} {x : DataW H × List MemPlace}
    (hx : DataW.trod enc P W base (fun _ => true) held fuel t cs = some x) : ∃ A c xs, cs = [.slice A xs.length c] ∧ xs.length ≤ c ∧ d.C W A xs.length xs := by
  rcases open_slice ht hx with ⟨rfl, rfl⟩ | ⟨a, len, cap, m, n, D, Pl, rfl, hb, hl, hm, hmm, rfl, hall⟩
  · exact ⟨none, 0, [], rfl, Nat.le_refl _, rfl, by simp, fun hh => absurd hh (by simp)⟩
  simp only [if_true] at hmm
  subst hmm
  by_cases h0 : len = 0
  · subst h0
    exact ⟨some a, m, [], rfl, Nat.zero_le _, rfl, by simp, fun hh => absurd hh (by simp)⟩
  have each : ∀ i, i < m → ∃ v c, W.cells? base (a.add (i * P.cellsOf e)) (P.cellsOf e) = some c ∧ d.K W v c := by
    intro i hi
    obtain ⟨c, h1, h2⟩ := hall i hi
    obtain ⟨v, hv⟩ := h H enc base held n c _ h2
    exact ⟨v, c, h1, hv⟩
  have : Inhabited α := ⟨(each 0 (by omega)).choose⟩
  obtain ⟨V, hV⟩ := choose_lt each
  have hlen : ((List.range len).map V).length = len := by simp
  refine ⟨some a, m, (List.range len).map V, by rw [hlen], by rw [hlen]; exact hl, rfl, ?_, fun _ => ⟨a, rfl, fun j p hj => ?_⟩⟩
  · rw [hlen]; unfold maxLen at hm; omega
  · obtain ⟨hjl, rfl⟩ := List.getElem?_eq_some_iff.1 hj
    rw [hlen] at hjl
    obtain ⟨c, h1, h2⟩ := hV j (by omega)
    obtain ⟨_, hcl, hcell⟩ := World.cells?_some h1
    rw [hc] at hcl
    refine ⟨c, hcl, by simpa using h2, fun i u hu => ?_⟩
    obtain ⟨hil, rfl⟩ := List.getElem?_eq_some_iff.1 hu
    have := hcell i (by omega)
    rw [Go.Deep.add_add, hc] at this
    rw [this, List.getElem?_eq_getElem hil]
theorem opn_slice {α : Type} {t e : TypeId} {d : Kd α} (ht : P.underlying t = some (.slice e)) (hc : P.cellsOf e = d.sz) (h : Opn P W e d) : Opn P W t (Kd.slice e d) := by
  intro H enc base held fuel cs x hx
  obtain ⟨A, c, xs, rfl, hl, hC⟩ := open_row ht hc h hx
  exact ⟨xs, A, c, rfl, hl, hC⟩
end Go.Proofs.Ytlgjogfcpgfbnaa.KR
