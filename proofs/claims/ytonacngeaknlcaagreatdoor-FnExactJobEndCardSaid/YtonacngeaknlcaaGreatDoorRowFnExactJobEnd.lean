/- The law FnExactJobEnd: the program's JobEnd returns what the reference's returns, for all arguments. Conditions: none. -/
import Derived.Test.YtonacngeaknlcaaGreatDoorRows
import Derived.Test.YtonacngeaknlcaaGreatDoorJX
import Derived.Test.YtonacngeaknlcaaGreatDoorRV
import Derived.Test.YtonacngeaknlcaaGreatDoorKJ
import Derived.WalkKit
import Derived.ProofKit
import Derived.OpenShut
import Derived.ShutString
import Derived.ChangeOld
import Derived.Below
import Derived.SizedLaws
import Derived.Deep.Grids
import Derived.Test.YtonacngeaknlcaaGreatDoorCards
import Derived.Test.YtonacngeaknlcaaGreatDoorTie
import Derived.LaidMore
import Derived.Lay
import Derived.SevenTiedAt
import Derived.Stop.Joined
namespace Go.Proofs.YtonacngeaknlcaaGreatDoor.fnExactJobEnd
open Go.ChangeShapes Go.WideShapes Go.ChangeAt Go.RowKit Go.Deep Go.Proofs.YtonacngeaknlcaaGreatDoor.RE
open Go.ChangeMaps (open_string shut_string)
set_option linter.unusedVariables false
open KJ (own)
theorem laidOut : laidOutB Tryz.prog = true := KJ.pLaid
set_option maxRecDepth 100000 in
set_option maxHeartbeats 0 in
theorem closed : joinedFacts Tryz.prog 3 Tryz.f3 Rows.fnExactJobEndSpec Rows.fnExactJobEndRow = true := by
  unfold joinedFacts
  simp only [Bool.and_eq_true]
  repeat' apply And.intro
  all_goals first | (with_reducible exact KJ.pLaid) | (with_reducible exact KJ.pMaps) | (with_reducible exact KJ.pMay) | (with_reducible exact KJ.pHeard) | ((with_reducible apply KJ.pLift); rfl) | ((with_reducible apply KJ.pMake); rfl) | ((with_reducible apply KJ.pKeys); rfl) | as_aux_lemma => kernel_rfl
set_option maxRecDepth 100000 in
theorem lifted (os : Os) (started : os.Started) (H : Type) (enc : TypeId × Value → H) :
    ReturnsInHanded {} Tryz.checked os 3 .any (fun w args => (Rows.fnExactJobEndSpec.pre enc Tryz.prog Tryz.f3 Rows.fnExactJobEndRow.domain false w args ∧ laidMetH Tryz.prog Rows.fnExactJobEndRow.laid w) ∧ sizedMet enc Tryz.prog Tryz.f3 (OpenSpec.ofChange Rows.fnExactJobEndSpec) false w args) (Rows.fnExactJobEndSpec.post enc Tryz.prog Tryz.f3 false true false false) := by
  refine returnsInHanded_of_change_and (C := Tryz.checked) (X := fun w _ => laidMetH Tryz.prog Rows.fnExactJobEndRow.laid w) (fun _ _ _ hh h => h.of_heap hh) own started (by kernel_rfl) Tryz.func3
    (ChangeSpec.witness_shaped (enc := enc) (C := Tryz.checked) (os := os) (X := fun w _ => laidMetH Tryz.prog Rows.fnExactJobEndRow.laid w) false (World.laidAll Tryz.prog os Rows.fnExactJobEndRow.laid) #[.agg #[.int .i64 0, .slice none 0 0, .int .i64 0, .string ByteArray.empty, .int .i64 0, .slice none 0 0, .int .i64 0, .bool false, .int .i64 0, .int .i64 0, .int .i64 0, .slice none 0 0, .string ByteArray.empty, .int .i64 0]] 8 (World.laidAll_os _ _ _)
      (World.shaped_of_ZipB (by kernel_rfl) (by kernel_rfl)) (by kernel_rfl) (by kernel_rfl) (by kernel_rfl)
      (by rw [MakeChecks.laidMetH_plain _ _ _ (by kernel_rfl)]; exact laidMet_laidAll _ (by kernel_rfl) (by kernel_rfl))) ?_
  intro W base args ds gs before hval0 hW hcnd hsz0 hL _
  have hval : ∀ (j : Nat) t v, Tryz.f3.params[j]? = some t → args[j]? = some v → Value.okWide Tryz.prog W .any base t v := hval0
  have hW' := hW
  obtain ⟨p, q, hA0, hV, rfl, hfz, hnd⟩ := hW
  have hA : DataW.TrodAll enc Tryz.prog W 0 (fun _ => true) true Tryz.f3.params.toList args.toList ds p := hA0
  rw [Tryz.params3] at hA hval
  obtain ⟨v0, vs0, d0, ds0, p0, q0, hargs, rfl, rfl, h0, r0⟩ := trodAll_cons hA
  obtain ⟨rfl, rfl, rfl⟩ := trodAll_nil r0
  obtain rfl : args = #[v0] := by cases args; simp_all
  obtain ⟨rfl, rfl⟩ := trodVars_none hV
  have k0 := h0
  have lt0 : ∀ x ∈ p0, x.block < W.heap.size := by obtain ⟨m, hm⟩ := k0; exact DataW.trod_lt m _ _ _ hm
  obtain ⟨⟨a0, hb0⟩, cs0, rfl, hD0⟩ := open_rec Tryz.underlying30 oJob (hval 0 30 v0 rfl rfl) h0
  clear hA0 hval0 hsz0
  refine (Val.row (lawJobEnd_b a0 hb0) (vs := [.agg cs0]) (.cons (arg_agg (jV_jD a0) hD0) .nil)).mono fun e W' ⟨he, bel⟩ => ?_
  subst he
  exact ⟨_, rfl, _, _, _, [], _, [], hW', trodAll_mk1 (shut_bool Tryz.underlying4 _), (trodAll_cons_mk (Below.trod laidOut (by kernel_rfl) (of_decide_eq_true (by kernel_rfl)) k0 bel lt0) trodAll_mk0), rfl, bel.frame _, fun h => by cases h⟩
theorem over : Rows.fnExactJobEndRow.holds Tryz.pinned (OpenSpec.ofChange Rows.fnExactJobEndSpec) :=
  OpenClaim.holds_of_wide 3 Tryz.f3 rfl rfl rfl rfl rfl rfl rfl ⟨rfl, rfl, rfl, rfl, rfl⟩ rfl rfl rfl rfl rfl (by kernel_rfl) Tryz.func3 closed
    (of_decide_eq_true (by kernel_rfl)) (by unfold Func.isWrapper; first | (rw [if_pos (by decide +kernel)]; kernel_rfl) | (rw [if_neg (by decide +kernel)]; exact ⟨rfl, rfl⟩))
    (fun os started H enc _ => lifted os started H enc)
end Go.Proofs.YtonacngeaknlcaaGreatDoor.fnExactJobEnd
namespace Go.Proofs.YtonacngeaknlcaaGreatDoor
/-- The tied card. -/
theorem fnExactJobEnd_holds : Rows.FnExactJobEndCardSaid :=
  Claim7.holds_tied_plain_at .later [] [.data, .pinned] true (true, "593b4e1328041a39b3473b375673f6cec0eb92209c302253bcac7733ee970d80") false fnExactJobEnd.over (fun _ h => by cases h) (by kernel_rfl) (fun _ h => by cases h) fnExactJobEnd_row_tie rfl ⟨rfl, rfl⟩ (by kernel_rfl) rfl
    (fun f fn hf hfn => by
      obtain rfl : f = 3 := Option.some.inj ((show Tryz.prog.funcNamed Rows.fnExactJobEndRow.func = some 3 by kernel_rfl).symm.trans hf) |>.symm
      obtain rfl : fn = Tryz.f3 := (Option.some.inj (Tryz.func3.symm.trans hfn)).symm
      exact ⟨by kernel_rfl, fun j t ht => by
        rw [Tryz.params3] at ht
        have hm : t ∈ [30] := by simpa using Array.mem_of_getElem? ht
        have hall : ([30].all fun u => !Tryz.prog.wantsStandIn u) = true := by kernel_rfl
        exact (show Tryz.prog.wantsStandIn t = false by simpa using List.all_eq_true.1 hall t hm)⟩)
    (by kernel_rfl)
#print axioms fnExactJobEnd_holds
end Go.Proofs.YtonacngeaknlcaaGreatDoor
