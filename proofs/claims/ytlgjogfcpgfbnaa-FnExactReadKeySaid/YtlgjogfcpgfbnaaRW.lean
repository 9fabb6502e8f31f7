/- More words for contracts: a row that is handed over, rows of numbers. Conditions: those that a theorem names. -/
import Derived.Test.YtlgjogfcpgfbnaaRU
set_option linter.unusedVariables false
set_option linter.unusedSimpArgs false
namespace Go.Proofs.Ytlgjogfcpgfbnaa.RE
open Go Go.RowKit
variable {P : Program} {f : FuncId} {args : List AV} {st : St} {d : Option Tmp} {K : St → Prop}

theorem obC_one {k g : Nat} {cs : List LV} {ob : Obs} (hk : ob.getD k none = some ⟨g, cs⟩) (hf : cs.all LV.flat = true) : obC [k] ob = [some ⟨g, cs⟩] := by
  simp only [obC, List.map_cons, List.map_nil, hk, Option.map_some, map_flat hf]
theorem obB_one {k g : Nat} {cs : List LV} {ob : Obs} (hk : k < ob.length) (hf : cs.all LV.flat = true) : obB [k] ob [some ⟨g, cs⟩] = ob.set k (some ⟨g, cs⟩) := by
  unfold obB
  simp only [List.length_cons, List.length_nil, List.drop_succ_cons, List.drop_zero, List.map_nil, List.append_nil, Nat.zero_add]
  apply List.ext_getElem?
  intro j
  rw [mrg_get]
  by_cases hj : j = k
  · subst hj
    rw [List.getElem?_set_self hk, List.getElem?_eq_getElem hk]
    simp [List.idxOf?, Ob.ren, map_flat hf]
  · rw [List.getElem?_set_ne (Ne.symm hj)]
    have : ([k] : List Nat).idxOf? j = none := by
      simp [List.idxOf?, List.findIdx?_cons]
      exact fun h => hj h.symm
    simp only [Nat.zero_add, this, Option.bind_none, Option.getD_none]
    cases ob[j]? <;> rfl
/-- A call that is handed one row, and writes it. -/
theorem CallK.give {k g g' : Nat} {cs cs' : List LV} {v : AV} (hk : st.ob.getD k none = some ⟨g, cs⟩) (hf : cs.all LV.flat = true) (hf' : cs'.all LV.flat = true) (hv : v.flat = true) (L : List (Nat × Nat × List DV)) (hL : LendOk [k] st.ob L) (h : CallsA P f (args.map (AV.toC [k] L)) [some ⟨g, cs⟩] fun r ob => r = v ∧ ob = [some ⟨g', cs'⟩])
    (kk : K ⟨putT st.tm d v, st.ob.set k (some ⟨g', cs'⟩)⟩) : CallK P f args st d K :=
  CallK.use (Q := fun r ob => r = v ∧ ob = [some ⟨g', cs'⟩]) [k] L hL (by rw [obC_one hk hf]; exact h) fun r ob1 ⟨h1, h2⟩ => by
    subst h1; subst h2
    refine ⟨by simp, .inr ⟨AV.flat_noB hv, ?_⟩, ?_⟩
    · simp only [obNoB, List.all_cons, List.all_nil, Bool.and_true]
      exact List.all_eq_true.2 fun x hx => LV.flat_noB (List.all_eq_true.1 hf' x hx)
    · have hlt : k < st.ob.length := by
        rcases Nat.lt_or_ge k st.ob.length with h | h
        · exact h
        · rw [List.getD_eq_getElem?_getD, List.getElem?_eq_none h] at hk; cases hk
      rw [AV.flat_ren hv, obB_one hlt hf']
      exact kk
theorem LendOk.one {ob : Obs} {k : Nat} (h : k < ob.length) : LendOk [k] ob [] := ⟨by simp, by simpa using h, by simp, by simp⟩
/-- Rows of ints that are lent. -/
def encI (l : List Int) : List DV := l.map fun x => .sc (.int .i64 x)
abbrev dI (l : List Int) : AV := .l (.dsl true l.length (encI l))
theorem encI_len (l : List Int) : (encI l).length = l.length := by simp [encI]
theorem lI_encI (l : List Int) (b : Bool) : (encI l).map (LV.ofD b) = l.map ci := by
  simp only [encI, List.map_map]; rfl
theorem atDI {l : List Int} {i : Nat} (h : i < l.length) : ((encI l).drop i).getD 0 .nils = .sc (.int .i64 (l.getD i 0)) := by
  rw [List.getD_eq_getElem?_getD, List.getElem?_drop, Nat.add_zero]
  simp [encI, List.getD_eq_getElem?_getD, h]
theorem lendI {k g : Nat} {l : List Int} {σ : List Nat} {L : List (Nat × Nat × List DV)} (h : lk L k g = some (encI l)) : AV.toC σ L (.l (.obj k g 1 0 l.length)) = dI l := by
  simp only [AV.toC, LV.toC, h, List.drop_zero, Nat.mul_one]
  rw [List.take_of_length_le (by simp [encI])]
end Go.Proofs.Ytlgjogfcpgfbnaa.RE
