/- Small contracts: what parts, widths, words and variables are told to be. -/
import Derived.Test.YtlgjogfcpgfbnaaKa
import Derived.Test.YtlgjogfcpgfbnaaKM
import Derived.Test.YtlgjogfcpgfbnaaLib
set_option linter.unusedVariables false
set_option linter.unusedSimpArgs false
namespace Go.Proofs.Ytlgjogfcpgfbnaa.KS
open Go.RowKit Go.Proofs.YtlgjogfcpgfbnaaW.PrintWords Go.Proofs.YtlgjogfcpgfbnaaW.PrintLast Go.Proofs.YtlgjogfcpgfbnaaW.PrintMore Go.Proofs.Ytlgjogfcpgfbnaa.Lib0 Go.Proofs.Ytlgjogfcpgfbnaa.K Go.Proofs.Ytlgjogfcpgfbnaa.KM

theorem within_eq (a b c : Int) : impl_within.f a b c = some (decide (b ≤ a ∧ a ≤ c)) := by
  unfold impl_within.f
  by_cases h : b ≤ a
  · rw [if_pos h]; simp [h]
  · rw [if_neg h]; simp [h]
theorem l01In_eq (a b c : Int) : spec_l01In.f a b c = some (decide (b ≤ a ∧ a ≤ c)) := by
  unfold spec_l01In.f
  by_cases h : b ≤ a
  · rw [if_pos h]; simp [h]
  · rw [if_neg h]; simp [h]
theorem isWidth_eq (a : Int) : impl_isWidth.f a = some (decide (1 ≤ a ∧ a ≤ 8)) := by
  unfold impl_isWidth.f; rw [within_eq]; rfl
theorem isVar_eq (a : Int) : impl_isVar.f a = some (decide (0 ≤ a ∧ a ≤ 7)) := by
  unfold impl_isVar.f; rw [within_eq]; rfl
theorem isQuant_eq (a0 a1 a2 a3 a4 a5 : Int) : impl_isQuant.f a0 a1 a2 a3 a4 a5 = some (decide (IsQ a0)) := by
  unfold impl_isQuant.f IsQ
  by_cases h : a0 = 19
  · rw [if_pos h]; simp [h]
  · rw [if_neg h]; simp [h]; rfl
theorem l02Quant_eq (a0 : Int) : spec_l02Quant.f a0 = some (decide (IsQ a0)) := by
  unfold spec_l02Quant.f IsQ
  by_cases h : a0 = 19
  · rw [if_pos h]; simp [h]
  · rw [if_neg h]; simp [h]; rfl
theorem pow_le8 {w : Nat} (h : w ≤ 8) : (2 ^ w : Nat) ≤ 256 := by
  have : w = 0 ∨ w = 1 ∨ w = 2 ∨ w = 3 ∨ w = 4 ∨ w = 5 ∨ w = 6 ∨ w = 7 ∨ w = 8 := by omega
  rcases this with rfl | rfl | rfl | rfl | rfl | rfl | rfl | rfl | rfl <;> decide
theorem shl_one {w : Int} (h0 : 0 ≤ w) (h8 : w ≤ 8) : shl .i64 1 (IntKind.u64.wrap w) = ((2 ^ w.toNat : Nat) : Int) := by
  rw [wrapu64_id (by omega) (by omega)]
  have hp := pow_le8 (w := w.toNat) (by omega)
  unfold shl
  have hb : IntKind.i64.bits = 64 := rfl
  rw [hb, Nat.min_eq_left (by omega), Int.one_mul, i64_w]
  have : ((2 : Int) ^ w.toNat) = ((2 ^ w.toNat : Nat) : Int) := by simp
  rw [this]
  generalize (2 ^ w.toNat : Nat) = P at hp
  exact wrap64_id (by omega) (by omega)
theorem WordOk_eq (w a : Int) : impl_WordOk.f w a = some (decide (WordP w a)) := by
  unfold impl_WordOk.f
  rw [isWidth_eq, Option.bind_some]
  by_cases h : 1 ≤ w ∧ w ≤ 8
  · have hp := pow_le8 (w := w.toNat) (by omega)
    rw [if_pos (by simpa using h), if_pos (by rw [wrapu64_id (by omega) (by omega)]; omega), within_eq, Option.bind_some, shl_one (by omega) h.2]
    obtain ⟨P, hP⟩ : ∃ P : Nat, 2 ^ w.toNat = P := ⟨_, rfl⟩
    have e : wrap64 (((2 ^ w.toNat : Nat) : Int) - 1) = ((2 ^ w.toNat : Nat) : Int) - 1 := by rw [hP] at hp ⊢; exact wrap64_id (by omega) (by omega)
    rw [e]
    congr 1
    apply decide_eq_decide.2
    unfold WordP
    rw [hP]
    omega
  · rw [if_neg (by simpa using h)]
    congr 1
    symm
    apply decide_eq_false
    unfold WordP
    intro h'; exact h ⟨h'.1, h'.2.1⟩
theorem Parts_ev (a0 a1 a2 a3 a4 a5 : Int) : Ev (fun k => impl_Parts.f k a0 a1 a2 a3 a4 a5) (partsL a0 a3 a4 a5) := by
  unfold impl_Parts.f partsL
  have one : ∀ r, r = [a3] → Ev (fun k => impl_Parts.j0 k true a0 a1 a2 a3 a4 a5) r := by
    rintro r rfl
    refine Ev.step (fun _ => rfl) ?_
    simp only [impl_Parts.j0]
    exact Ev.pos (by simp) (Ev.now _)
  by_cases h2 : a0 = 2
  · exact Ev.pos h2 (one _ (by rw [if_pos (.inl h2)]))
  · refine Ev.neg h2 ?_
    by_cases h17 : a0 = 17
    · exact Ev.pos h17 (one _ (by rw [if_pos (.inr (.inl h17))]))
    · refine Ev.neg h17 (Ev.bindc (isQuant_eq _ _ _ _ _ _) ?_)
      by_cases hq : IsQ a0
      · rw [decide_eq_true hq]
        refine one _ (by rw [if_pos (.inr (.inr hq))])
      · rw [decide_eq_false hq]
        have hn : ¬ (a0 = 2 ∨ a0 = 17 ∨ a0 = 19 ∨ a0 = 20) := by unfold IsQ at hq; omega
        refine Ev.eq ?_ (if_neg hn).symm
        refine Ev.step (fun _ => rfl) ?_
        simp only [impl_Parts.j0]
        refine Ev.neg (by simp) (Ev.bindc (within_eq _ _ _) ?_)
        by_cases h3 : 3 ≤ a0 ∧ a0 ≤ 16
        · exact Ev.pos (by simpa using h3) (Ev.eq (Ev.now _) (if_pos h3).symm)
        · refine Ev.neg (by simpa using h3) (Ev.eq ?_ (if_neg h3).symm)
          by_cases h18 : a0 = 18
          · exact Ev.pos h18 (Ev.eq (Ev.now _) (if_pos h18).symm)
          · exact Ev.neg h18 (Ev.eq (Ev.now _) (if_neg h18).symm)
theorem specParts_ev (a0 a1 a2 a3 a4 a5 : Int) : Ev (fun k => spec_Parts.f k a0 a1 a2 a3 a4 a5) (partsL a0 a3 a4 a5) := by
  unfold spec_Parts.f partsL
  have one : ∀ r, r = [a3] → Ev (fun k => spec_Parts.j0 k true a0 a1 a2 a3 a4 a5) r := by
    rintro r rfl
    refine Ev.step (fun _ => rfl) ?_
    simp only [spec_Parts.j0]
    exact Ev.pos (by simp) (Ev.now _)
  by_cases h2 : a0 = 2
  · exact Ev.pos h2 (one _ (by rw [if_pos (.inl h2)]))
  · refine Ev.neg h2 ?_
    by_cases h17 : a0 = 17
    · exact Ev.pos h17 (one _ (by rw [if_pos (.inr (.inl h17))]))
    · refine Ev.neg h17 ?_
      by_cases h19 : a0 = 19
      · exact Ev.pos h19 (one _ (by rw [if_pos (.inr (.inr (.inl h19)))]))
      · refine Ev.neg h19 ?_
        by_cases h20 : a0 = 20
        · rw [show (a0 == 20) = true by simp [h20]]
          exact one _ (by rw [if_pos (.inr (.inr (.inr h20)))])
        · rw [show (a0 == 20) = false by simp [h20]]
          have hn : ¬ (a0 = 2 ∨ a0 = 17 ∨ a0 = 19 ∨ a0 = 20) := by omega
          refine Ev.eq ?_ (if_neg hn).symm
          refine Ev.step (fun _ => rfl) ?_
          simp only [spec_Parts.j0]
          refine Ev.neg (by simp) (Ev.bindc (l01In_eq _ _ _) ?_)
          by_cases h3 : 3 ≤ a0 ∧ a0 ≤ 16
          · exact Ev.pos (by simpa using h3) (Ev.eq (Ev.now _) (if_pos h3).symm)
          · refine Ev.neg (by simpa using h3) (Ev.eq ?_ (if_neg h3).symm)
            by_cases h18 : a0 = 18
            · exact Ev.pos h18 (Ev.eq (Ev.now _) (if_pos h18).symm)
            · exact Ev.neg h18 (Ev.eq (Ev.now _) (if_neg h18).symm)
/-! ### contracts -/
theorem Parts (a0 a1 a2 a3 a4 a5 : Int) (w : World) : Calls Try.prog 87 #[.agg #[.int .i64 a0, .int .i64 a1, .int .i64 a2, .int .i64 a3, .int .i64 a4, .int .i64 a5]] w fun e w' =>
    ∃ v0_ : Value, e = .returned (v0_) ∧ Kd.R (Kd.int .i64) 3 w' w.heap.size (fun _ => True) v0_ (partsL a0 a3 a4 a5) ∧ Below w.heap.size w w' := by
  obtain ⟨k, hk⟩ := (Parts_ev a0 a1 a2 a3 a4 a5).rounds
  exact impl_Parts.calls k _ _ _ _ _ _ _ w hk
theorem specParts (a0 a1 a2 a3 a4 a5 : Int) (w : World) : Calls Try.prog 84 #[.agg #[.int .i64 a0, .int .i64 a1, .int .i64 a2, .int .i64 a3, .int .i64 a4, .int .i64 a5]] w fun e w' =>
    ∃ v0_ : Value, e = .returned (v0_) ∧ Kd.R (Kd.int .i64) 3 w' w.heap.size (fun _ => True) v0_ (partsL a0 a3 a4 a5) ∧ Below w.heap.size w w' := by
  obtain ⟨k, hk⟩ := (specParts_ev a0 a1 a2 a3 a4 a5).rounds
  exact spec_Parts.calls k _ _ _ _ _ _ _ w hk
theorem isQuant (a0 a1 a2 a3 a4 a5 : Int) (w : World) : Calls Try.prog 166 #[.agg #[.int .i64 a0, .int .i64 a1, .int .i64 a2, .int .i64 a3, .int .i64 a4, .int .i64 a5]] w fun e w' => e = .returned (.bool (decide (IsQ a0))) ∧ Below w.heap.size w w' :=
  impl_isQuant.calls _ _ _ _ _ _ _ w (isQuant_eq a0 a1 a2 a3 a4 a5)
theorem within (a b c : Int) (w : World) : Calls Try.prog 100 #[.int .i64 a, .int .i64 b, .int .i64 c] w fun e w' => e = .returned (.bool (decide (b ≤ a ∧ a ≤ c))) ∧ Drawn0 w w' := impl_within.calls _ _ _ _ w (within_eq a b c)
theorem isWidth (a : Int) (w : World) : Calls Try.prog 226 #[.int .i64 a] w fun e w' => e = .returned (.bool (decide (1 ≤ a ∧ a ≤ 8))) ∧ Drawn0 w w' := impl_isWidth.calls _ _ w (isWidth_eq a)
theorem isVar (a : Int) (w : World) : Calls Try.prog 96 #[.int .i64 a] w fun e w' => e = .returned (.bool (decide (0 ≤ a ∧ a ≤ 7))) ∧ Drawn0 w w' := impl_isVar.calls _ _ w (isVar_eq a)
theorem WordOk (a b : Int) (w : World) : Calls Try.prog 219 #[.int .i64 a, .int .i64 b] w fun e w' => e = .returned (.bool (decide (WordP a b))) ∧ Drawn0 w w' := impl_WordOk.calls _ _ _ w (WordOk_eq a b)
end Go.Proofs.Ytlgjogfcpgfbnaa.KS
