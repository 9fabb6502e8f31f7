/- The law FnExactLoadMachine: the program's LoadMachine returns what the reference's returns, for all arguments. Conditions: none. -/
import Derived.Test.YtbhlegobhidgkaaDoorRows
import Derived.Test.YtbhlegobhidgkaaDoorLAX
import Derived.Test.YtbhlegobhidgkaaDoorXB
import Derived.Test.YtbhlegobhidgkaaDoorRV
import Derived.Test.YtbhlegobhidgkaaDoorKJ
import Derived.WalkKit
import Derived.ProofKit
import Derived.OpenShut
import Derived.ShutString
import Derived.ChangeOld
import Derived.Below
import Derived.SizedLaws
import Derived.Deep.Grids
import Derived.Test.YtbhlegobhidgkaaDoorCards
import Derived.Test.YtbhlegobhidgkaaDoorTie
import Derived.LaidMore
import Derived.Lay
import Derived.SevenTiedAt
import Derived.Stop.Joined
namespace Go.Proofs.YtbhlegobhidgkaaDoor.fnExactLoadMachine
open Go.ChangeShapes Go.WideShapes Go.ChangeAt Go.RowKit Go.Deep Go.Proofs.YtbhlegobhidgkaaDoor.RE
open Go.ChangeMaps (open_string shut_string)
set_option linter.unusedVariables false
open KJ (own)
theorem laidOut : laidOutB Tryd.prog = true := KJ.pLaid
set_option maxRecDepth 100000 in
set_option maxHeartbeats 0 in
theorem closed : joinedFacts Tryd.prog 4 Tryd.f4 Rows.fnExactLoadMachineSpec Rows.fnExactLoadMachineRow = true := by
  unfold joinedFacts
  simp only [Bool.and_eq_true]
  repeat' apply And.intro
  all_goals first | (with_reducible exact KJ.pLaid) | (with_reducible exact KJ.pMaps) | (with_reducible exact KJ.pMay) | (with_reducible exact KJ.pHeard) | ((with_reducible apply KJ.pLift); rfl) | ((with_reducible apply KJ.pMake); rfl) | ((with_reducible apply KJ.pKeys); rfl) | as_aux_lemma => kernel_rfl
set_option maxRecDepth 100000 in
theorem lifted (os : Os) (started : os.Started) (H : Type) (enc : TypeId × Value → H) :
    ReturnsInHanded {} Tryd.checked os 4 .any (fun w args => (Rows.fnExactLoadMachineSpec.pre enc Tryd.prog Tryd.f4 Rows.fnExactLoadMachineRow.domain false w args ∧ laidMetH Tryd.prog Rows.fnExactLoadMachineRow.laid w) ∧ sizedMet enc Tryd.prog Tryd.f4 (OpenSpec.ofChange Rows.fnExactLoadMachineSpec) false w args) (Rows.fnExactLoadMachineSpec.post enc Tryd.prog Tryd.f4 false true false false) := by
  refine returnsInHanded_of_change_and (C := Tryd.checked) (X := fun w _ => laidMetH Tryd.prog Rows.fnExactLoadMachineRow.laid w) (fun _ _ _ hh h => h.of_heap hh) own started (by kernel_rfl) Tryd.func4
    (ChangeSpec.witness_shaped (enc := enc) (C := Tryd.checked) (os := os) (X := fun w _ => laidMetH Tryd.prog Rows.fnExactLoadMachineRow.laid w) false (World.laidAll Tryd.prog os Rows.fnExactLoadMachineRow.laid) #[.string ByteArray.empty] 8 (World.laidAll_os _ _ _)
      (World.shaped_of_ZipB (by kernel_rfl) (by kernel_rfl)) (by kernel_rfl) (by kernel_rfl) (by kernel_rfl)
      (by rw [MakeChecks.laidMetH_plain _ _ _ (by kernel_rfl)]; exact laidMet_laidAll _ (by kernel_rfl) (by kernel_rfl))) ?_
  intro W base args ds gs before hval0 hW hcnd hsz0 hL _
  have hval : ∀ (j : Nat) t v, Tryd.f4.params[j]? = some t → args[j]? = some v → Value.okWide Tryd.prog W .any base t v := hval0
  have hW' := hW
  obtain ⟨p, q, hA0, hV, rfl, hfz, hnd⟩ := hW
  have hA : DataW.TrodAll enc Tryd.prog W 0 (fun _ => true) true Tryd.f4.params.toList args.toList ds p := hA0
  rw [Tryd.params4] at hA hval
  obtain ⟨v0, vs0, d0, ds0, p0, q0, hargs, rfl, rfl, h0, r0⟩ := trodAll_cons hA
  obtain ⟨rfl, rfl, rfl⟩ := trodAll_nil r0
  obtain rfl : args = #[v0] := by cases args; simp_all
  obtain ⟨rfl, rfl⟩ := trodVars_none hV
  obtain ⟨a0, rfl, rfl, rfl, y0⟩ := open_string Tryd.underlying9 (hval 0 9 v0 rfl rfl) h0
  clear hA0 hval0 hsz0
  refine (Val.row (lawLoadMachine_c a0 ) (vs := [.string a0]) (.cons arg_sc .nil)).mono fun e W' ⟨he, bel⟩ => ?_
  subst he
  exact ⟨_, rfl, _, _, _, [], _, [], hW', trodAll_mk1 (shut_bool Tryd.underlying4 _), (trodAll_cons_mk (shut_string Tryd.underlying9 y0) trodAll_mk0), rfl, bel.frame _, fun h => by cases h⟩
theorem over : Rows.fnExactLoadMachineRow.holds Tryd.pinned (OpenSpec.ofChange Rows.fnExactLoadMachineSpec) :=
  OpenClaim.holds_of_wide 4 Tryd.f4 rfl rfl rfl rfl rfl rfl rfl ⟨rfl, rfl, rfl, rfl, rfl⟩ rfl rfl rfl rfl rfl (by kernel_rfl) Tryd.func4 closed
    (of_decide_eq_true (by kernel_rfl)) (by unfold Func.isWrapper; first | (rw [if_pos (by decide +kernel)]; kernel_rfl) | (rw [if_neg (by decide +kernel)]; exact ⟨rfl, rfl⟩))
    (fun os started H enc _ => lifted os started H enc)
end Go.Proofs.YtbhlegobhidgkaaDoor.fnExactLoadMachine
namespace Go.Proofs.YtbhlegobhidgkaaDoor
/-- The tied card. -/
theorem fnExactLoadMachine_holds : Rows.FnExactLoadMachineCardSaid :=
  Claim7.holds_tied_plain_at .later [] [.data, .pinned] true (true, "8b48fb72126d8dd11080fe75b280d3230b66933db6d504af97fd88b20ce842db") false fnExactLoadMachine.over (fun _ h => by cases h) (by kernel_rfl) (fun _ h => by cases h) fnExactLoadMachine_row_tie rfl ⟨rfl, rfl⟩ (by kernel_rfl) rfl
    (fun f fn hf hfn => by
      obtain rfl : f = 4 := Option.some.inj ((show Tryd.prog.funcNamed Rows.fnExactLoadMachineRow.func = some 4 by kernel_rfl).symm.trans hf) |>.symm
      obtain rfl : fn = Tryd.f4 := (Option.some.inj (Tryd.func4.symm.trans hfn)).symm
      exact ⟨by kernel_rfl, fun j t ht => by
        rw [Tryd.params4] at ht
        have hm : t ∈ [9] := by simpa using Array.mem_of_getElem? ht
        have hall : ([9].all fun u => !Tryd.prog.wantsStandIn u) = true := by kernel_rfl
        exact (show Tryd.prog.wantsStandIn t = false by simpa using List.all_eq_true.1 hall t hm)⟩)
    (by kernel_rfl)
#print axioms fnExactLoadMachine_holds
end Go.Proofs.YtbhlegobhidgkaaDoor
