/- What the form asks of the program as a whole: once for all rows of this seat. Conditions: none. -/
import Derived.Test.YtbhlegobhidgkaaDoorRows
import Derived.WalkKit
import Derived.ProofKit
import Derived.OpenShut
namespace Go.Proofs.YtbhlegobhidgkaaDoor.KJ
set_option maxRecDepth 100000
set_option maxHeartbeats 0
theorem own : ownKnob Tryd.prog.godebug = none := by kernel_rfl
theorem pLaid : laidOutB Tryd.prog = true := by kernel_rfl
theorem pMaps : mapsRowed Tryd.prog = true := by kernel_rfl
theorem pMay : Tryd.prog.mayEnter = true := by kernel_rfl
theorem pHeard : Tryd.prog.stopsHeard = true := by kernel_rfl
theorem pLift0 : (Rows.fnExactLoadMachineRow.lifted == Tryd.prog.liftsFinal) = true := by kernel_rfl
theorem pMake0 : (Tryd.prog.make == some Rows.fnExactLoadMachineRow.make) = true := by kernel_rfl
theorem pKeys0 : (Rows.fnExactLoadMachineRow.plainKeys == Tryd.prog.plainKeys) = true := by kernel_rfl
theorem pLift {c : OpenClaim} (h : c.lifted = Rows.fnExactLoadMachineRow.lifted) : (c.lifted == Tryd.prog.liftsFinal) = true := by rw [h]; exact pLift0
theorem pMake {c : OpenClaim} (h : c.make = Rows.fnExactLoadMachineRow.make) : (Tryd.prog.make == some c.make) = true := by rw [h]; exact pMake0
theorem pKeys {c : OpenClaim} (h : c.plainKeys = Rows.fnExactLoadMachineRow.plainKeys) : (c.plainKeys == Tryd.prog.plainKeys) = true := by rw [h]; exact pKeys0
end Go.Proofs.YtbhlegobhidgkaaDoor.KJ
