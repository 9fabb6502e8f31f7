/- The law FnLoad: a text that is read as a machine is just the text of that machine. Conditions: none. -/
import Derived.Test.YtbhlegobhidgkaaDoorRows
import Derived.Test.YtbhlegobhidgkaaDoorLAX
import Derived.Test.YtbhlegobhidgkaaDoorXB
import Derived.Test.YtbhlegobhidgkaaDoorRV
import Derived.Test.YtbhlegobhidgkaaDoorKJ
import Derived.WalkKit
import Derived.ProofKit
import Derived.OpenShut
import Derived.ShutString
import Derived.ChangeOld
import Derived.Below
import Derived.SizedLaws
import Derived.Deep.Grids
import Derived.Test.YtbhlegobhidgkaaDoorCards
import Derived.Test.YtbhlegobhidgkaaDoorTie
import Derived.LaidMore
import Derived.Lay
import Derived.SevenTiedAt
import Derived.Stop.Joined
namespace Go.Proofs.YtbhlegobhidgkaaDoor.fnLoad
open Go.ChangeShapes Go.WideShapes Go.ChangeAt Go.RowKit Go.Deep Go.Proofs.YtbhlegobhidgkaaDoor.RE
open Go.ChangeMaps (open_string shut_string)
set_option linter.unusedVariables false
open KJ (own)
theorem laidOut : laidOutB Tryd.prog = true := KJ.pLaid
set_option maxRecDepth 100000 in
set_option maxHeartbeats 0 in
theorem closed : joinedFacts Tryd.prog 5 Tryd.f5 Rows.fnLoadSpec Rows.fnLoadRow = true := by
  unfold joinedFacts
  simp only [Bool.and_eq_true]
  repeat' apply And.intro
  all_goals first | (with_reducible exact KJ.pLaid) | (with_reducible exact KJ.pMaps) | (with_reducible exact KJ.pMay) | (with_reducible exact KJ.pHeard) | ((with_reducible apply KJ.pLift); rfl) | ((with_reducible apply KJ.pMake); rfl) | ((with_reducible apply KJ.pKeys); rfl) | as_aux_lemma => kernel_rfl
set_option maxRecDepth 100000 in
theorem lifted (os : Os) (started : os.Started) (H : Type) (enc : TypeId × Value → H) :
    ReturnsInHanded {} Tryd.checked os 5 .any (fun w args => (Rows.fnLoadSpec.pre enc Tryd.prog Tryd.f5 Rows.fnLoadRow.domain false w args ∧ laidMetH Tryd.prog Rows.fnLoadRow.laid w) ∧ sizedMet enc Tryd.prog Tryd.f5 (OpenSpec.ofChange Rows.fnLoadSpec) false w args) (Rows.fnLoadSpec.post enc Tryd.prog Tryd.f5 false true false false) := by
  refine returnsInHanded_of_change_and (C := Tryd.checked) (X := fun w _ => laidMetH Tryd.prog Rows.fnLoadRow.laid w) (fun _ _ _ hh h => h.of_heap hh) own started (by kernel_rfl) Tryd.func5
    (ChangeSpec.witness_shaped (enc := enc) (C := Tryd.checked) (os := os) (X := fun w _ => laidMetH Tryd.prog Rows.fnLoadRow.laid w) false (World.laidAll Tryd.prog os Rows.fnLoadRow.laid) #[.slice none 0 0] 8 (World.laidAll_os _ _ _)
      (World.shaped_of_ZipB (by kernel_rfl) (by kernel_rfl)) (by kernel_rfl) (by kernel_rfl) (by kernel_rfl)
      (by rw [MakeChecks.laidMetH_plain _ _ _ (by kernel_rfl)]; exact laidMet_laidAll _ (by kernel_rfl) (by kernel_rfl))) ?_
  intro W base args ds gs before hval0 hW hcnd hsz0 hL _
  have hval : ∀ (j : Nat) t v, Tryd.f5.params[j]? = some t → args[j]? = some v → Value.okWide Tryd.prog W .any base t v := hval0
  have hW' := hW
  obtain ⟨p, q, hA0, hV, rfl, hfz, hnd⟩ := hW
  have hA : DataW.TrodAll enc Tryd.prog W 0 (fun _ => true) true Tryd.f5.params.toList args.toList ds p := hA0
  rw [Tryd.params5] at hA hval
  obtain ⟨v0, vs0, d0, ds0, p0, q0, hargs, rfl, rfl, h0, r0⟩ := trodAll_cons hA
  obtain ⟨rfl, rfl, rfl⟩ := trodAll_nil r0
  obtain rfl : args = #[v0] := by cases args; simp_all
  obtain ⟨rfl, rfl⟩ := trodVars_none hV
  obtain ⟨a0, len0, cap0, rfl⟩ := okWide_slice Tryd.underlying22 (hval 0 22 v0 rfl rfl)
  have k0 := h0
  have lt0 : ∀ x ∈ p0, x.block < W.heap.size := by obtain ⟨m, hm⟩ := k0; exact DataW.trod_lt m _ _ _ hm
  obtain ⟨xs0, hl0, hD0⟩ : ∃ xs : List UInt8, xs.length ≤ maxLen ∧ VD W (rB W) (.dsl xs.length (xs.flatMap fun n : UInt8 => [DV.sc (.int .u8 (n.toNat : Int))])) (.slice a0 len0 cap0) := by
    obtain ⟨fuel, hf⟩ := h0
    obtain ⟨xs, w, hcs, hl, hC⟩ := open_rowD (sz := 1) (e := fun n : UInt8 => [DV.sc (.int .u8 (n.toNat : Int))]) Tryd.underlying22 (by kernel_rfl) (fun _ => rfl) (opd_byte Tryd.underlying5) hf
    simp [Value.cells] at hcs
    subst hcs
    exact ⟨xs, hl, hC⟩
  clear hA0 hval0 hsz0
  refine (Val.row (lawLoad_b xs0 (by have := hl0; unfold maxLen at this; omega)) (vs := [.slice a0 len0 cap0]) (.cons (arg_dsl hD0) .nil)).mono fun e W' ⟨he, bel⟩ => ?_
  subst he
  exact ⟨_, rfl, _, _, _, [], _, [], hW', trodAll_mk1 (shut_bool Tryd.underlying4 _), (trodAll_cons_mk (Below.trod laidOut (by kernel_rfl) (of_decide_eq_true (by kernel_rfl)) k0 bel lt0) trodAll_mk0), rfl, bel.frame _, fun h => by cases h⟩
theorem over : Rows.fnLoadRow.holds Tryd.pinned (OpenSpec.ofChange Rows.fnLoadSpec) :=
  OpenClaim.holds_of_wide 5 Tryd.f5 rfl rfl rfl rfl rfl rfl rfl ⟨rfl, rfl, rfl, rfl, rfl⟩ rfl rfl rfl rfl rfl (by kernel_rfl) Tryd.func5 closed
    (of_decide_eq_true (by kernel_rfl)) (by unfold Func.isWrapper; first | (rw [if_pos (by decide +kernel)]; kernel_rfl) | (rw [if_neg (by decide +kernel)]; exact ⟨rfl, rfl⟩))
    (fun os started H enc _ => lifted os started H enc)
end Go.Proofs.YtbhlegobhidgkaaDoor.fnLoad
namespace Go.Proofs.YtbhlegobhidgkaaDoor
/-- The tied card. -/
theorem fnLoad_holds : Rows.FnLoadCardSaid :=
  Claim7.holds_tied_plain_at .later [] [.data, .pinned] true (true, "8b48fb72126d8dd11080fe75b280d3230b66933db6d504af97fd88b20ce842db") false fnLoad.over (fun _ h => by cases h) (by kernel_rfl) (fun _ h => by cases h) fnLoad_row_tie rfl ⟨rfl, rfl⟩ (by kernel_rfl) rfl
    (fun f fn hf hfn => by
      obtain rfl : f = 5 := Option.some.inj ((show Tryd.prog.funcNamed Rows.fnLoadRow.func = some 5 by kernel_rfl).symm.trans hf) |>.symm
      obtain rfl : fn = Tryd.f5 := (Option.some.inj (Tryd.func5.symm.trans hfn)).symm
      exact ⟨by kernel_rfl, fun j t ht => by
        rw [Tryd.params5] at ht
        have hm : t ∈ [22] := by simpa using Array.mem_of_getElem? ht
        have hall : ([22].all fun u => !Tryd.prog.wantsStandIn u) = true := by kernel_rfl
        exact (show Tryd.prog.wantsStandIn t = false by simpa using List.all_eq_true.1 hall t hm)⟩)
    (by kernel_rfl)
#print axioms fnLoad_holds
end Go.Proofs.YtbhlegobhidgkaaDoor
