/- Fold of the program answers as the reference's does. Conditions: none. -/
import Derived.Test.YtlgjogfcpgfbnaaRows
import Derived.Test.YtlgjogfcpgfbnaaD15
import Derived.Test.YtlgjogfcpgfbnaaRV
import Derived.Test.YtlgjogfcpgfbnaaKJ
import Derived.WalkKit
import Derived.ProofKit
import Derived.OpenShut
import Derived.ShutString
import Derived.ChangeOld
import Derived.Below
import Derived.SizedLaws
import Derived.Deep.Grids
namespace Go.Proofs.Ytlgjogfcpgfbnaa.fnExactFold
open Go.ChangeShapes Go.WideShapes Go.ChangeAt Go.RowKit Go.Deep Go.Proofs.Ytlgjogfcpgfbnaa.RE
open Go.ChangeMaps (open_string shut_string)
set_option linter.unusedVariables false
open KJ (own)
theorem laidOut : laidOutB Try.prog = true := KJ.pLaid
set_option maxRecDepth 100000 in
set_option maxHeartbeats 0 in
theorem closed : joinedFacts Try.prog 16 Try.f16 Rows.fnExactFoldSpec Rows.fnExactFoldRow = true := by
  unfold joinedFacts
  simp only [Bool.and_eq_true]
  repeat' apply And.intro
  all_goals first | (with_reducible exact KJ.pLaid) | (with_reducible exact KJ.pMaps) | (with_reducible exact KJ.pMay) | (with_reducible exact KJ.pHeard) | ((with_reducible apply KJ.pLift); rfl) | ((with_reducible apply KJ.pMake); rfl) | ((with_reducible apply KJ.pKeys); rfl) | as_aux_lemma => kernel_rfl
set_option maxRecDepth 100000 in
theorem lifted (os : Os) (started : os.Started) (H : Type) (enc : TypeId × Value → H) :
    ReturnsInHanded {} Try.checked os 16 .any (Rows.fnExactFoldSpec.pre6 enc Try.prog Try.f16 Rows.fnExactFoldRow.domain false) (Rows.fnExactFoldSpec.post enc Try.prog Try.f16 false true false false) := by
  refine returnsInHanded_of_change_sized (C := Try.checked) own started (by kernel_rfl) Try.func16
    (ChangeSpec.witness6 (enc := enc) (C := Try.checked) false ⟨#[], #[.slice none 0 0], []⟩ 8 (by kernel_rfl) (by kernel_rfl) (by kernel_rfl) (by kernel_rfl)) ?_
  intro W base args ds gs before hval0 hW hcnd hsz0 _
  have hval : ∀ (j : Nat) t v, Try.f16.params[j]? = some t → args[j]? = some v → Value.okWide Try.prog W .any base t v := hval0
  have hW' := hW
  obtain ⟨p, q, hA0, hV, rfl, hfz, hnd⟩ := hW
  have hA : DataW.TrodAll enc Try.prog W 0 (fun _ => true) true Try.f16.params.toList args.toList ds p := hA0
  rw [Try.params16] at hA hval
  obtain ⟨v0, vs0, d0, ds0, p0, q0, hargs, rfl, rfl, h0, r0⟩ := trodAll_cons hA
  obtain ⟨rfl, rfl, rfl⟩ := trodAll_nil r0
  obtain rfl : args = #[v0] := by cases args; simp_all
  obtain ⟨rfl, rfl⟩ := trodVars_none hV
  obtain ⟨a0, len0, cap0, rfl⟩ := okWide_slice Try.underlying28 (hval 0 28 v0 rfl rfl)
  have k0 := h0
  have lt0 : ∀ x ∈ p0, x.block < W.heap.size := by obtain ⟨m, hm⟩ := k0; exact DataW.trod_lt m _ _ _ hm
  obtain ⟨xs0, hl0, hD0⟩ : ∃ xs : List Nd, xs.length ≤ maxLen ∧ VD W (rB W) (.dsl xs.length (xs.flatMap nd)) (.slice a0 len0 cap0) := by
    obtain ⟨fuel, hf⟩ := h0
    obtain ⟨xs, w, hcs, hl, hC⟩ := open_rowD (sz := 6) (e := nd) Try.underlying28 (by kernel_rfl) (fun _ => rfl) (opd_six Try.underlying101 (by kernel_rfl) Try.underlying3 (by kernel_rfl) ⟨rfl, rfl, rfl, rfl, rfl, rfl⟩ ⟨rfl, rfl, rfl, rfl, rfl, rfl⟩) hf
    simp [Value.cells] at hcs
    subst hcs
    exact ⟨xs, hl, hC⟩
  clear hA0 hval0 hsz0
  refine (Val.row (lawFold_c xs0 (by have := hl0; unfold maxLen at this; omega)) (vs := [.slice a0 len0 cap0]) (.cons (arg_dsl hD0) .nil)).mono fun e W' ⟨he, bel⟩ => ?_
  subst he
  exact ⟨_, rfl, _, _, _, [], _, [], hW', trodAll_mk1 (shut_bool Try.underlying4 _), (trodAll_cons_mk (Below.trod laidOut (by kernel_rfl) (of_decide_eq_true (by kernel_rfl)) k0 bel lt0) trodAll_mk0), rfl, bel.frame _, fun h => by cases h⟩
theorem over : Rows.fnExactFoldRow.holds Try.pinned (OpenSpec.ofChange Rows.fnExactFoldSpec) :=
  OpenClaim.holds_of_wide 16 Try.f16 rfl rfl rfl rfl rfl rfl rfl ⟨rfl, rfl, rfl, rfl, rfl⟩ rfl rfl rfl rfl rfl (by kernel_rfl) Try.func16 closed
    (of_decide_eq_true (by kernel_rfl)) (by unfold Func.isWrapper; first | (rw [if_pos (by decide +kernel)]; kernel_rfl) | (rw [if_neg (by decide +kernel)]; exact ⟨rfl, rfl⟩))
    (fun os started H enc _ => lifted os started H enc)
end Go.Proofs.Ytlgjogfcpgfbnaa.fnExactFold
namespace Go.Proofs.Ytlgjogfcpgfbnaa
/-- The row, under a short name, for the claim. -/
theorem fnExactFold_holds : Rows.FnExactFoldSaid := fnExactFold.over
#print axioms fnExactFold_holds
end Go.Proofs.Ytlgjogfcpgfbnaa
