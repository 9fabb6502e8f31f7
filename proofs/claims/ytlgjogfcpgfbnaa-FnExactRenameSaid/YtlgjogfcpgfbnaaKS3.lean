/- When a row of nodes is a term: what both TermOk tell. Conditions: those that a theorem names. -/
import Derived.Test.YtlgjogfcpgfbnaaKc
import Derived.Test.YtlgjogfcpgfbnaaKS2
set_option linter.unusedVariables false
set_option linter.unusedSimpArgs false
namespace Go.Proofs.Ytlgjogfcpgfbnaa.K
open Go.RowKit Go.Proofs.YtlgjogfcpgfbnaaW.PrintWords Go.Proofs.Ytlgjogfcpgfbnaa.KM Go.Proofs.Ytlgjogfcpgfbnaa.Lib0

theorem rdE {l : List Nd} {i : Nat} (h : i < l.length) : rd_T99 l (i : Int) = l[i] := by
  show l.getD (i : Int).toNat _ = _
  rw [Int.toNat_natCast, List.getD_eq_getElem?_getD, List.getElem?_eq_getElem h]; rfl
instance (t : List Nd) : Decidable (TermP t) := by unfold TermP; infer_instance
theorem rightAt_eq {t : List Nd} {n : Nat} (h : n < t.length) : rightAt t n = decide (RightP (t.take n) t[n]) := by
  unfold rightAt
  rw [List.getD_eq_getElem?_getD, List.getElem?_eq_getElem h]; rfl
theorem TermP_iff (t : List Nd) : TermP t ↔ (1 ≤ t.length ∧ t.length ≤ 80) ∧ ∀ i, i < t.length → rightAt t i = true := by
  unfold TermP
  constructor
  · rintro ⟨h1, h2, h3⟩
    refine ⟨⟨h1, h2⟩, fun i hi => ?_⟩
    rw [rightAt_eq hi]; exact decide_eq_true (h3 i hi)
  · rintro ⟨⟨h1, h2⟩, h3⟩
    refine ⟨h1, h2, fun i hi => ?_⟩
    have := h3 i hi
    rw [rightAt_eq hi] at this; exact of_decide_eq_true this
theorem len_dec {α : Type} (t : List α) : decide ((1 : Int) ≤ (t.length : Int) ∧ (t.length : Int) ≤ 80) = decide (1 ≤ t.length ∧ t.length ≤ 80) := by
  apply decide_eq_decide.2; omega
theorem specTermOk_l0 (l : List Nd) (h1 : 1 ≤ l.length) (h80 : l.length ≤ 80) : ∀ (d i : Nat) (x : Int), i + d = l.length → x = (i : Int) → (∀ j, j < i → rightAt l j = true) → Ev (fun k => spec_TermOk.l0 k l x) (decide (TermP l)) := by
  intro d
  induction d with
  | zero =>
    intro i x hi hx ha
    refine Ev.step (fun _ => rfl) ?_
    simp only [spec_TermOk.l0]
    refine Ev.neg (by omega) ?_
    rw [decide_eq_true ((TermP_iff l).2 ⟨⟨h1, h80⟩, fun j hj => ha j (by omega)⟩)]
    exact Ev.now _
  | succ d ih =>
    intro i x hi hx ha
    subst hx
    refine Ev.step (fun _ => rfl) ?_
    simp only [spec_TermOk.l0]
    refine Ev.pos (by omega) (Ev.bindc (a := rightAt l i) ?_ ?_)
    · unfold y_l02Node.f; rw [if_pos (by omega), if_pos (by omega), Int.toNat_natCast]
    · by_cases he : rightAt l i = true
      · refine Ev.pos he (ih (i + 1) _ (by omega) ?_ ?_)
        · rw [wrap64_id (by omega) (by omega)]; omega
        · intro j hj
          by_cases hji : j = i
          · rw [hji]; exact he
          · exact ha j (by omega)
      · refine Ev.neg he ?_
        rw [decide_eq_false]
        · exact Ev.now _
        · intro ht; exact he (((TermP_iff l).1 ht).2 i (by omega))
theorem implTermOk_l0 (l : List Nd) (h1 : 1 ≤ l.length) (h80 : l.length ≤ 80) : ∀ (d i : Nat) (x : Int), i + d = l.length → x = (i : Int) → (∀ j, j < i → rightAt l j = true) → Ev (fun k => impl_TermOk.l0 k l l (l.length : Int) x) (decide (TermP l)) := by
  intro d
  induction d with
  | zero =>
    intro i x hi hx ha
    refine Ev.step (fun _ => rfl) ?_
    simp only [impl_TermOk.l0]
    refine Ev.neg (by omega) ?_
    rw [decide_eq_true ((TermP_iff l).2 ⟨⟨h1, h80⟩, fun j hj => ha j (by omega)⟩)]
    exact Ev.now _
  | succ d ih =>
    intro i x hi hx ha
    subst hx
    have hil : i < l.length := by omega
    refine Ev.step (fun _ => rfl) ?_
    simp only [impl_TermOk.l0]
    refine Ev.pos (by omega) (Ev.pos (by omega) (Ev.pos (by omega) (Ev.pos (by omega) (Ev.bindc (a := rightAt l i) ?_ ?_))))
    · unfold y_isRight.f; rw [rdE hil, Int.toNat_natCast, rightAt_eq hil]
    · by_cases he : rightAt l i = true
      · refine Ev.pos he (ih (i + 1) _ (by omega) ?_ ?_)
        · rw [wrap64_id (by omega) (by omega)]; omega
        · intro j hj
          by_cases hji : j = i
          · rw [hji]; exact he
          · exact ha j (by omega)
      · refine Ev.neg he ?_
        rw [decide_eq_false]
        · exact Ev.now _
        · intro ht; exact he (((TermP_iff l).1 ht).2 i (by omega))
theorem specTermOk_ev (l : List Nd) : Ev (fun k => spec_TermOk.f k l) (decide (TermP l)) := by
  unfold spec_TermOk.f
  refine Ev.bindc ((KS.l01In_eq _ _ _).trans (congrArg some (len_dec l))) ?_
  by_cases h : 1 ≤ l.length ∧ l.length ≤ 80
  · exact Ev.pos (decide_eq_true h) (specTermOk_l0 l h.1 h.2 l.length 0 0 (by omega) rfl (fun j hj => absurd hj (by omega)))
  · refine Ev.neg (fun hh => h (of_decide_eq_true hh)) ?_
    rw [decide_eq_false]
    · exact Ev.now _
    · intro ht; exact h ((TermP_iff l).1 ht).1
theorem implTermOk_ev (l : List Nd) : Ev (fun k => impl_TermOk.f k l) (decide (TermP l)) := by
  unfold impl_TermOk.f
  refine Ev.bindc ((KS.within_eq _ _ _).trans (congrArg some (len_dec l))) ?_
  by_cases h : 1 ≤ l.length ∧ l.length ≤ 80
  · exact Ev.pos (decide_eq_true h) (implTermOk_l0 l h.1 h.2 l.length 0 0 (by omega) rfl (fun j hj => absurd hj (by omega)))
  · refine Ev.neg (fun hh => h (of_decide_eq_true hh)) ?_
    rw [decide_eq_false]
    · exact Ev.now _
    · intro ht; exact h ((TermP_iff l).1 ht).1
def y_TermOk.f (l : List Nd) : Option Bool := some (decide (TermP l))
theorem y_TermOk.calls (A0 : Option Addr) (c0 : Nat) (l0 : List Nd) (r : Bool) (w : World) (hr0 : Kd.C k99 w A0 l0.length l0) (hc0 : l0.length ≤ c0) (h : y_TermOk.f l0 = some r) :
    Calls Try.prog 86 #[.slice A0 l0.length c0] w fun e w' => e = .returned (.bool r) ∧ Below w.heap.size w w' := by
  obtain ⟨K, hK⟩ := implTermOk_ev l0
  exact impl_TermOk.calls K A0 c0 l0 r w hr0 hc0 ((hK K (Nat.le_refl _)).trans h)
def y_sTermOk.f (l : List Nd) : Option Bool := some (decide (TermP l))
theorem y_sTermOk.calls (A0 : Option Addr) (c0 : Nat) (l0 : List Nd) (r : Bool) (w : World) (hr0 : Kd.C k99 w A0 l0.length l0) (hc0 : l0.length ≤ c0) (h : y_sTermOk.f l0 = some r) :
    Calls Try.prog 83 #[.slice A0 l0.length c0] w fun e w' => e = .returned (.bool r) ∧ Below w.heap.size w w' := by
  obtain ⟨K, hK⟩ := specTermOk_ev l0
  exact spec_TermOk.calls K A0 c0 l0 r w hr0 hc0 ((hK K (Nat.le_refl _)).trans h)
def y_Parts.f (a0 a1 a2 a3 a4 a5 : Int) : Option (List Int) := some (partsL a0 a3 a4 a5)
theorem y_Parts.calls (a0 a1 a2 a3 a4 a5 : Int) (r : List Int) (w : World) (h : y_Parts.f a0 a1 a2 a3 a4 a5 = some r) :
    Calls Try.prog 87 #[.agg #[.int .i64 a0, .int .i64 a1, .int .i64 a2, .int .i64 a3, .int .i64 a4, .int .i64 a5]] w fun e w' => ∃ v0_ : Value, e = .returned (v0_) ∧ Kd.R (Kd.int .i64) 3 w' w.heap.size (fun _ => True) v0_ r ∧ Below w.heap.size w w' := by
  obtain ⟨K, hK⟩ := KS.Parts_ev a0 a1 a2 a3 a4 a5
  exact impl_Parts.calls K a0 a1 a2 a3 a4 a5 r w ((hK K (Nat.le_refl _)).trans h)
def y_sParts.f (a0 a1 a2 a3 a4 a5 : Int) : Option (List Int) := some (partsL a0 a3 a4 a5)
theorem y_sParts.calls (a0 a1 a2 a3 a4 a5 : Int) (r : List Int) (w : World) (h : y_sParts.f a0 a1 a2 a3 a4 a5 = some r) :
    Calls Try.prog 84 #[.agg #[.int .i64 a0, .int .i64 a1, .int .i64 a2, .int .i64 a3, .int .i64 a4, .int .i64 a5]] w fun e w' => ∃ v0_ : Value, e = .returned (v0_) ∧ Kd.R (Kd.int .i64) 3 w' w.heap.size (fun _ => True) v0_ r ∧ Below w.heap.size w w' := by
  obtain ⟨K, hK⟩ := KS.specParts_ev a0 a1 a2 a3 a4 a5
  exact spec_Parts.calls K a0 a1 a2 a3 a4 a5 r w ((hK K (Nat.le_refl _)).trans h)
end Go.Proofs.Ytlgjogfcpgfbnaa.K
