/- A machine's step, what is left, verdicts; the program. Conditions: those that a theorem names. -/
import Derived.Test.YtonacngeaknlcaaGreatDoorM4
set_option linter.unusedVariables false
set_option linter.unusedSimpArgs false
namespace Go.Proofs.YtonacngeaknlcaaGreatDoor.RE
open Go Go.RowKit
set_option maxRecDepth 100000
set_option maxHeartbeats 8000000
theorem verd_true {r : List Bool} {o : ByteArray} : verd (true :: r) o = if verd r (halfB 0 o) = 1 ∧ verd r (halfB 1 o) = 1 then 1 else 0 := rfl
theorem verd_false {r : List Bool} {o : ByteArray} : verd (false :: r) o = if verd r (halfB 0 o) = 1 ∨ verd r (halfB 1 o) = 1 then 1 else 0 := rfl
theorem verd_first {b : Bool} {r : List Bool} {o : ByteArray} (ht : tabN (r.length + 1) o) (h : b = decide (verd r (halfB 0 o) = 0)) : verd (b :: r) o = verd r (halfB 0 o) := by
  have h0 := verd_bit (half_tab (v := 0) ht rfl)
  rcases h0 with e | e
  · have hb : b = true := by rw [h, e]; rfl
    subst hb
    rw [verd_true, e, if_neg (by simp)]
  · have hb : b = false := by rw [h, e]; rfl
    subst hb
    rw [verd_false, e, if_pos (.inl rfl)]
theorem verd_second {b : Bool} {r : List Bool} {o : ByteArray} (ht : tabN (r.length + 1) o) (h : ¬ b = decide (verd r (halfB 0 o) = 0)) : verd (b :: r) o = verd r (halfB 1 o) := by
  have h0 := verd_bit (half_tab (v := 0) ht rfl)
  have h1 := verd_bit (half_tab (v := 1) ht rfl)
  rcases h0 with e | e
  · have hb : b = false := by cases b with
      | false => rfl
      | true => exact absurd (by rw [e]; rfl) h
    subst hb
    rw [verd_false, e]
    rcases h1 with e1 | e1 <;> rw [e1] <;> simp
  · have hb : b = true := by cases b with
      | true => rfl
      | false => exact absurd (by rw [e]; rfl) h
    subst hb
    rw [verd_true, e]
    rcases h1 with e1 | e1 <;> rw [e1] <;> simp
end Go.Proofs.YtonacngeaknlcaaGreatDoor.RE
