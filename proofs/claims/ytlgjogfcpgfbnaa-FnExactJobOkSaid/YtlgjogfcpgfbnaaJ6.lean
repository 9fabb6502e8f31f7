/- The laws over jobs and machines, with the bounds that an argument has. Conditions: those that a theorem names. -/
import Derived.Test.YtlgjogfcpgfbnaaJ4
import Derived.Test.YtlgjogfcpgfbnaaJ5
set_option linter.unusedVariables false
set_option linter.unusedSimpArgs false
namespace Go.Proofs.Ytlgjogfcpgfbnaa.RE
open Go Go.RowKit
theorem lawJobOk_b (j : Jb) (hb : MBd j.m ∧ j.journal.size ≤ maxLen) : Val E.P 9 [.agg (jD j)] (T true) := by
  obtain ⟨⟨h1, h2, h3, h4, h5⟩, h6⟩ := hb
  unfold maxLen at *
  exact lawJobOk_c j (by omega) (by omega) (by omega) (by omega) (fun s hs => by have := h5 s hs; unfold maxLen at this; omega) (by omega)
end Go.Proofs.Ytlgjogfcpgfbnaa.RE
