/- What the form asks of the program as a whole: once for all rows of this seat. Conditions: none. -/
import Derived.Test.YtkdkbnacelnljaaRows
import Derived.WalkKit
import Derived.ProofKit
import Derived.OpenShut
namespace Go.Proofs.Ytkdkbnacelnljaa.KJ
set_option maxRecDepth 100000
set_option maxHeartbeats 0
theorem own : ownKnob Try.prog.godebug = none := by kernel_rfl
theorem pLaid : laidOutB Try.prog = true := by kernel_rfl
theorem pMaps : mapsRowed Try.prog = true := by kernel_rfl
theorem pMay : Try.prog.mayEnter = true := by kernel_rfl
theorem pHeard : Try.prog.stopsHeard = true := by kernel_rfl
theorem pLift0 : (Rows.fnFoldRow.lifted == Try.prog.liftsFinal) = true := by kernel_rfl
theorem pMake0 : (Try.prog.make == some Rows.fnFoldRow.make) = true := by kernel_rfl
theorem pKeys0 : (Rows.fnFoldRow.plainKeys == Try.prog.plainKeys) = true := by kernel_rfl
theorem pLift {c : OpenClaim} (h : c.lifted = Rows.fnFoldRow.lifted) : (c.lifted == Try.prog.liftsFinal) = true := by rw [h]; exact pLift0
theorem pMake {c : OpenClaim} (h : c.make = Rows.fnFoldRow.make) : (Try.prog.make == some c.make) = true := by rw [h]; exact pMake0
theorem pKeys {c : OpenClaim} (h : c.plainKeys = Rows.fnFoldRow.plainKeys) : (c.plainKeys == Try.prog.plainKeys) = true := by rw [h]; exact pKeys0
end Go.Proofs.Ytkdkbnacelnljaa.KJ
