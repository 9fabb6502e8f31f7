/- A term whose constants are put together is worth the same, has no more nodes, and cannot be put together farther. Conditions: none. -/
import Derived.Test.YtkdkbnacelnljaaRows
import Derived.Test.YtkdkbnacelnljaaQGG
import Derived.Test.YtkdkbnacelnljaaQRV
import Derived.Test.YtkdkbnacelnljaaKJ
import Derived.WalkKit
import Derived.ProofKit
import Derived.OpenShut
import Derived.ShutString
import Derived.ChangeOld
import Derived.Below
import Derived.SizedLaws
import Derived.Deep.Grids
namespace Go.Proofs.Ytkdkbnacelnljaa.fnFold
open Go.ChangeShapes Go.WideShapes Go.ChangeAt Go.RowKit Go.Deep Go.Proofs.Ytkdkbnacelnljaa.RE
open Go.ChangeMaps (open_string shut_string)
set_option linter.unusedVariables false
open KJ (own)
theorem laidOut : laidOutB Try.prog = true := KJ.pLaid
set_option maxRecDepth 100000 in
set_option maxHeartbeats 0 in
theorem closed : joinedFacts Try.prog 3 Try.f3 Rows.fnFoldSpec Rows.fnFoldRow = true := by
  unfold joinedFacts
  simp only [Bool.and_eq_true]
  repeat' apply And.intro
  all_goals first | (with_reducible exact KJ.pLaid) | (with_reducible exact KJ.pMaps) | (with_reducible exact KJ.pMay) | (with_reducible exact KJ.pHeard) | ((with_reducible apply KJ.pLift); rfl) | ((with_reducible apply KJ.pMake); rfl) | ((with_reducible apply KJ.pKeys); rfl) | as_aux_lemma => kernel_rfl
set_option maxRecDepth 100000 in
theorem lifted (os : Os) (started : os.Started) (H : Type) (enc : TypeId × Value → H) :
    ReturnsInHanded {} Try.checked os 3 .any (Rows.fnFoldSpec.pre6 enc Try.prog Try.f3 Rows.fnFoldRow.domain false) (Rows.fnFoldSpec.post enc Try.prog Try.f3 false true false false) := by
  refine returnsInHanded_of_change_sized (C := Try.checked) own started (by kernel_rfl) Try.func3
    (ChangeSpec.witness6 (enc := enc) (C := Try.checked) false ⟨#[], #[.slice none 0 0], []⟩ 8 (by kernel_rfl) (by kernel_rfl) (by kernel_rfl) (by kernel_rfl)) ?_
  intro W base args ds gs before hval0 hW hcnd hsz0 _
  have hval : ∀ (j : Nat) t v, Try.f3.params[j]? = some t → args[j]? = some v → Value.okWide Try.prog W .any base t v := hval0
  have hW' := hW
  obtain ⟨p, q, hA0, hV, rfl, hfz, hnd⟩ := hW
  have hA : DataW.TrodAll enc Try.prog W 0 (fun _ => true) true Try.f3.params.toList args.toList ds p := hA0
  rw [Try.params3] at hA hval
  obtain ⟨v0, vs0, d0, ds0, p0, q0, hargs, rfl, rfl, h0, r0⟩ := trodAll_cons hA
  obtain ⟨rfl, rfl, rfl⟩ := trodAll_nil r0
  obtain rfl : args = #[v0] := by cases args; simp_all
  obtain ⟨rfl, rfl⟩ := trodVars_none hV
  obtain ⟨a0, len0, cap0, rfl⟩ := okWide_slice Try.underlying22 (hval 0 22 v0 rfl rfl)
  have k0 := h0
  have lt0 : ∀ x ∈ p0, x.block < W.heap.size := by obtain ⟨m, hm⟩ := k0; exact DataW.trod_lt m _ _ _ hm
  obtain ⟨xs0, hl0, hD0⟩ : ∃ xs : List Int, xs.length ≤ maxLen ∧ VD W (rB W) (.dsl xs.length (xs.flatMap fun n : Int => [DV.sc (.int .u8 n)])) (.slice a0 len0 cap0) := by
    obtain ⟨fuel, hf⟩ := h0
    obtain ⟨xs, w, hcs, hl, hC⟩ := open_rowD (sz := 1) (e := fun n : Int => [DV.sc (.int .u8 n)]) Try.underlying22 (by kernel_rfl) (fun _ => rfl) (opd_int Try.underlying5) hf
    simp [Value.cells] at hcs
    subst hcs
    exact ⟨xs, hl, hC⟩
  clear hA0 hval0 hsz0
  refine (Val.row (lawFnFold_b xs0 (by have := hl0; unfold maxLen at this; omega)) (vs := [.slice a0 len0 cap0]) (.cons (arg_dsl hD0) .nil)).mono fun e W' ⟨he, bel⟩ => ?_
  subst he
  exact ⟨_, rfl, _, _, _, [], _, [], hW', trodAll_mk1 (shut_bool Try.underlying4 _), (trodAll_cons_mk (Below.trod laidOut (by kernel_rfl) (of_decide_eq_true (by kernel_rfl)) k0 bel lt0) trodAll_mk0), rfl, bel.frame _, fun h => by cases h⟩
theorem over : Rows.fnFoldRow.holds Try.pinned (OpenSpec.ofChange Rows.fnFoldSpec) :=
  OpenClaim.holds_of_wide 3 Try.f3 rfl rfl rfl rfl rfl rfl rfl ⟨rfl, rfl, rfl, rfl, rfl⟩ rfl rfl rfl rfl rfl (by kernel_rfl) Try.func3 closed
    (of_decide_eq_true (by kernel_rfl)) (by unfold Func.isWrapper; first | (rw [if_pos (by decide +kernel)]; kernel_rfl) | (rw [if_neg (by decide +kernel)]; exact ⟨rfl, rfl⟩))
    (fun os started H enc _ => lifted os started H enc)
end Go.Proofs.Ytkdkbnacelnljaa.fnFold
namespace Go.Proofs.Ytkdkbnacelnljaa
/-- The row, under a short name, for the claim. -/
theorem fnFold_holds : Rows.FnFoldSaid := fnFold.over
#print axioms fnFold_holds
end Go.Proofs.Ytkdkbnacelnljaa
