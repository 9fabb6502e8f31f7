/- strings.Join by the kit's shelf of contracts. Conditions: those that a theorem names. -/
import Derived.Test.YtbhlegobhidgkaaDoorRS
import Derived.Test.YtbhlegobhidgkaaDoorShelf
set_option linter.unusedVariables false
set_option linter.unusedSimpArgs false
namespace Go.Proofs.YtbhlegobhidgkaaDoor.RE
open Go Go.RowKit
theorem below_ext {w w' : World} {cx : Cx} (h : Below w.heap.size w w') : Ext w cx [] w' cx [] :=
  ⟨h.os, h.tape, h.output, h.size, fun b hb _ => ⟨h.block b hb, fun ⟨o, x, l, h, _⟩ => by simp at h⟩, fun _ h => h, fun _ _ h => .inl h, fun _ _ _ h => h, fun _ => Iff.rfl⟩
theorem below_mem {w w' : World} {cx : Cx} (hM : MemOk w cx []) (h : Below w.heap.size w w') : MemOk w' cx [] where
  rep o x h := by simp at h
  gen o x g h := by simp at h
  top := hM.top
  dis o o' x x' l l' h := by simp at h
  pml b hb := ⟨Nat.lt_of_lt_of_le (hM.pml b hb).1 h.size, fun ⟨o, x, l, h, _⟩ => by simp at h⟩
  bsl b hb := ⟨Nat.lt_of_lt_of_le (hM.bsl b hb).1 h.size, fun ⟨o, x, l, h, _⟩ => by simp at h⟩
def joinB (xs : List ByteArray) (sep : ByteArray) : ByteArray := ⟨(Lib.join (xs.map (·.data.toList)) sep.data.toList).toArray⟩
theorem vd_str {w : World} {r : Nat → Prop} {x : ByteArray} {v : Value} (h : VD w r (.sc (.string x)) v) : v = .string x := by cases h; rfl
theorem join_c (xs : List ByteArray) (sep : ByteArray) (hN : xs.length ≤ 140737488355328) (hlen : (Lib.join (xs.map (·.data.toList)) sep.data.toList).length ≤ 140737488355328) : Val E.P 30 [dT xs, S sep] (S (joinB xs sep)) := by
  intro w cx vs hM hv
  cases hv with
  | cons h1 h2 =>
    cases h2 with
    | cons h3 h4 =>
      cases h4
      cases h3
      obtain ⟨a, cap, rfl, hcap, _, hrow⟩ := VD.row h1
      have fin : ∀ e w', e = Ending.returned (.string (joinB xs sep)) ∧ Below w.heap.size w w' → ∃ v r ob' cx', e = .returned v ∧ (r = S (joinB xs sep) ∧ ob' = []) ∧ Ext w cx [] w' cx' ob' ∧ MemOk w' cx' ob' ∧ VA w' cx'.ρ (RO w' cx' ob') r v := by
        rintro e w' ⟨rfl, hb⟩
        exact ⟨_, _, [], cx, rfl, ⟨rfl, rfl⟩, below_ext hb, below_mem hM hb, rfl⟩
      by_cases h0 : xs = []
      · subst h0
        refine (Tryd.strings_Join_none a cap sep w).mono fun e w' ⟨he, hw⟩ => fin e w' ⟨he, ?_⟩
        subst hw
        exact Below.refl _ _
      · have hl : 0 < (encT xs).length := by rw [encT_len]; exact List.length_pos_iff.2 h0
        obtain ⟨ad, rfl, hs, us, hu⟩ := hrow hl
        obtain ⟨ab, ao, asp⟩ := ad
        obtain rfl : asp = none := hs
        refine (Tryd.strings_Join ab ao cap xs sep w (fun j x hj => ?_) (hu 0 hl).1.1 hN hcap hlen).mono fun e w' h => fin e w' h
        have hj2 := (List.getElem?_eq_some_iff.1 hj).1
        obtain ⟨_, hc, hv⟩ := hu j (by rw [encT_len]; exact hj2)
        rw [Addr.add_mid] at hc
        rw [hc]
        congr 1
        have : (encT xs).getD j .nils = .sc (.string x) := by
          rw [List.getD_eq_getElem?_getD]
          simp [encT, hj]
        rw [this] at hv
        exact vd_str hv
end Go.Proofs.YtbhlegobhidgkaaDoor.RE
