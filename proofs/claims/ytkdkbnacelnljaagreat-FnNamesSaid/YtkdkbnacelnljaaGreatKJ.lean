/- What the form asks of the program as a whole: once for all rows of this seat. Conditions: none. -/
import Derived.Test.YtkdkbnacelnljaaGreatRows
import Derived.WalkKit
import Derived.ProofKit
import Derived.OpenShut
namespace Go.Proofs.YtkdkbnacelnljaaGreat.KJ
set_option maxRecDepth 100000
set_option maxHeartbeats 0
theorem own : ownKnob Tryz.prog.godebug = none := by kernel_rfl
theorem pLaid : laidOutB Tryz.prog = true := by kernel_rfl
theorem pMaps : mapsRowed Tryz.prog = true := by kernel_rfl
theorem pMay : Tryz.prog.mayEnter = true := by kernel_rfl
theorem pHeard : Tryz.prog.stopsHeard = true := by kernel_rfl
theorem pLift0 : (Rows.fnExactEqualRow.lifted == Tryz.prog.liftsFinal) = true := by kernel_rfl
theorem pMake0 : (Tryz.prog.make == some Rows.fnExactEqualRow.make) = true := by kernel_rfl
theorem pKeys0 : (Rows.fnExactEqualRow.plainKeys == Tryz.prog.plainKeys) = true := by kernel_rfl
theorem pLift {c : OpenClaim} (h : c.lifted = Rows.fnExactEqualRow.lifted) : (c.lifted == Tryz.prog.liftsFinal) = true := by rw [h]; exact pLift0
theorem pMake {c : OpenClaim} (h : c.make = Rows.fnExactEqualRow.make) : (Tryz.prog.make == some c.make) = true := by rw [h]; exact pMake0
theorem pKeys {c : OpenClaim} (h : c.plainKeys = Rows.fnExactEqualRow.plainKeys) : (c.plainKeys == Tryz.prog.plainKeys) = true := by rw [h]; exact pKeys0
end Go.Proofs.YtkdkbnacelnljaaGreat.KJ
