/- Sentences, the program. Conditions: those that a theorem names. -/
import Derived.Test.YtkdkbnacelnljaaQF7
import Derived.Test.YtkdkbnacelnljaaQDQ
import Derived.Test.YtkdkbnacelnljaaQV1
set_option linter.unusedVariables false
set_option linter.unusedSimpArgs false
namespace Go.Proofs.Ytkdkbnacelnljaa.RE
open Go Go.RowKit
set_option maxRecDepth 100000
set_option maxHeartbeats 8000000

/-! ### Sentences, the program, plain -/
end Go.Proofs.Ytkdkbnacelnljaa.RE

/-! Sentences of both sides, plain. Conditions: those that a theorem names. -/
set_option linter.unusedVariables false
set_option linter.unusedSimpArgs false
namespace Go.Proofs.Ytkdkbnacelnljaa.RE
open Go Go.RowKit
set_option maxRecDepth 100000
set_option maxHeartbeats 8000000

/-! ### A term closed above an equality -/
end Go.Proofs.Ytkdkbnacelnljaa.RE

/-! Equal terms, plain: both sides answer alike. Conditions: those that a theorem names. -/
set_option linter.unusedVariables false
set_option linter.unusedSimpArgs false
namespace Go.Proofs.Ytkdkbnacelnljaa.RE
open Go Go.RowKit
set_option maxRecDepth 100000
set_option maxHeartbeats 8000000
theorem val_no {t : List Nd} {env : List Int} (h : vOkI t env = false) : valI t env = 0 := if_neg (by rw [h]; decide)
end Go.Proofs.Ytkdkbnacelnljaa.RE

/-! What it means that two terms are told to be equal, plain. Conditions: those that a theorem names. -/
set_option linter.unusedVariables false
set_option linter.unusedSimpArgs false
namespace Go.Proofs.Ytkdkbnacelnljaa.RE
open Go Go.RowKit
set_option maxRecDepth 100000
set_option maxHeartbeats 8000000
/-! ### What does not count -/
/-! ### Free variables -/
theorem val_at {c : List Nd} {e : List Int} (h : vOkI c e = true) : okT c = true ∧ e.length = 8 ∧ Fit c e (c.length - 1) ∧ valI c e = evT quI c e (c.length - 1) := by
  refine ⟨?_, ?_, ?_, if_pos h⟩ <;>
  · unfold vOkI at h
    simp only [Bool.and_eq_true, decide_eq_true_eq] at h
    obtain ⟨⟨⟨hok, he⟩, hs⟩, _⟩ := h
    first | exact hok | exact he | exact (suits_iff hok e).1 hs
/-! ### Two terms and a node of both -/
section
variable {a b : List Nd}
end
end Go.Proofs.Ytkdkbnacelnljaa.RE
