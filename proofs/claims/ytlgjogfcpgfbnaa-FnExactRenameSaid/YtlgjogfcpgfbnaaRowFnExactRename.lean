/- The law FnExactRename: for every row of nodes and two numbers of variables the program's Rename answers what the reference's Rename answers, and leaves the row as it was. Conditions: none. -/
import Derived.Test.YtlgjogfcpgfbnaaRows
import Derived.Test.YtlgjogfcpgfbnaaPRename
import Derived.Test.YtlgjogfcpgfbnaaKR
import Derived.Test.YtlgjogfcpgfbnaaKJ
import Derived.WalkKit
import Derived.ProofKit
import Derived.OpenShut
import Derived.ShutString
import Derived.ChangeOld
import Derived.Below
import Derived.SizedLaws
import Derived.Deep.Grids
namespace Go.Proofs.Ytlgjogfcpgfbnaa.fnExactRename
open Go.ChangeShapes Go.WideShapes Go.ChangeAt Go.RowKit Go.Deep Go.Proofs.YtlgjogfcpgfbnaaW.PrintWords
open Go.ChangeMaps (open_string shut_string)
set_option linter.unusedVariables false
open KJ (own)
theorem laidOut : laidOutB Try.prog = true := KJ.pLaid
set_option maxRecDepth 100000 in
set_option maxHeartbeats 0 in
theorem closed : joinedFacts Try.prog 8 Try.f8 Rows.fnExactRenameSpec Rows.fnExactRenameRow = true := by
  unfold joinedFacts
  simp only [Bool.and_eq_true]
  repeat' apply And.intro
  all_goals first | (with_reducible exact KJ.pLaid) | (with_reducible exact KJ.pMaps) | (with_reducible exact KJ.pMay) | (with_reducible exact KJ.pHeard) | ((with_reducible apply KJ.pLift); rfl) | ((with_reducible apply KJ.pMake); rfl) | ((with_reducible apply KJ.pKeys); rfl) | as_aux_lemma => kernel_rfl
set_option maxRecDepth 100000 in
theorem lifted (os : Os) (started : os.Started) (H : Type) (enc : TypeId × Value → H) :
    ReturnsInHanded {} Try.checked os 8 .any (Rows.fnExactRenameSpec.pre6 enc Try.prog Try.f8 Rows.fnExactRenameRow.domain false) (Rows.fnExactRenameSpec.post enc Try.prog Try.f8 false true false false) := by
  refine returnsInHanded_of_change_sized (C := Try.checked) own started (by kernel_rfl) Try.func8
    (ChangeSpec.witness6 (enc := enc) (C := Try.checked) false ⟨#[], #[.slice none 0 0, .int .i64 0, .int .i64 0], []⟩ 8 (by kernel_rfl) (by kernel_rfl) (by kernel_rfl) (by kernel_rfl)) ?_
  intro W base args ds gs before hval0 hW hcnd hsz0 _
  have hval : ∀ (j : Nat) t v, Try.f8.params[j]? = some t → args[j]? = some v → Value.okWide Try.prog W .any base t v := hval0
  have hW' := hW
  obtain ⟨p, q, hA0, hV, rfl, hfz, hnd⟩ := hW
  have hA : DataW.TrodAll enc Try.prog W 0 (fun _ => true) true Try.f8.params.toList args.toList ds p := hA0
  rw [Try.params8] at hA hval
  obtain ⟨v0, vs0, d0, ds0, p0, q0, hargs, rfl, rfl, h0, r0⟩ := trodAll_cons hA
  obtain ⟨v1, vs1, d1, ds1, p1, q1, rfl, rfl, rfl, h1, r1⟩ := trodAll_cons r0
  obtain ⟨v2, vs2, d2, ds2, p2, q2, rfl, rfl, rfl, h2, r2⟩ := trodAll_cons r1
  obtain ⟨rfl, rfl, rfl⟩ := trodAll_nil r2
  obtain rfl : args = #[v0, v1, v2] := by cases args; simp_all
  obtain ⟨rfl, rfl⟩ := trodVars_none hV
  obtain ⟨a0, len0, cap0, rfl⟩ := okWide_slice Try.underlying28 (hval 0 28 v0 rfl rfl)
  have k0 := h0
  have lt0 : ∀ x ∈ p0, x.block < W.heap.size := by obtain ⟨m, hm⟩ := k0; exact DataW.trod_lt m _ _ _ hm
  obtain ⟨xs0, hx0, hcap0, hC0⟩ : ∃ xs : List K.S101, xs.length = len0 ∧ xs.length ≤ cap0 ∧ Kd.C K.k101 W a0 xs.length xs := by
    obtain ⟨fuel, hf⟩ := h0
    obtain ⟨A, c, xs, hcs, hl, hC⟩ := KR.open_row Try.underlying28 (by kernel_rfl) (KR.opn_iso (f := fun x : K.S101 => (x.f0, x.f1, x.f2, x.f3, x.f4, x.f5)) (g := fun x => ⟨x.1, x.2.1, x.2.2.1, x.2.2.2.1, x.2.2.2.2.1, x.2.2.2.2.2⟩) (hfg := fun _ => rfl) (h := KR.opn_struct Try.underlying101 (by kernel_rfl) (KR.opnL_cons rfl (by kernel_rfl) (KR.opn_int Try.underlying3) (KR.opnL_cons rfl (by kernel_rfl) (KR.opn_int Try.underlying3) (KR.opnL_cons rfl (by kernel_rfl) (KR.opn_int Try.underlying3) (KR.opnL_cons rfl (by kernel_rfl) (KR.opn_int Try.underlying3) (KR.opnL_cons rfl (by kernel_rfl) (KR.opn_int Try.underlying3) (KR.opnL_one rfl (by kernel_rfl) (KR.opn_int Try.underlying3)) (by decide)) (by decide)) (by decide)) (by decide)) (by decide)))) hf
    simp [Value.cells] at hcs
    obtain ⟨rfl, rfl, rfl⟩ := hcs
    exact ⟨xs, rfl, hl, hC⟩
  obtain ⟨a1, rfl, rfl, rfl, w1⟩ := open_int Try.underlying3 (hval 1 3 v1 rfl rfl) h1
  obtain ⟨a2, rfl, rfl, rfl, w2⟩ := open_int Try.underlying3 (hval 2 3 v2 rfl rfl) h2
  clear hA0 hval0 hsz0
  subst hx0
  obtain ⟨k, hk⟩ := K.fnExactRename_ev xs0 a1 a2 hC0.2.1 w1 w2
  refine (K.laws_FnExactRename.calls k a0 cap0 xs0 a1 a2 true W hC0 hcap0 (hk k (Nat.le_refl _))).mono fun e W' ⟨he, bel⟩ => ?_
  subst he
  exact ⟨_, rfl, _, _, _, [], _, [], hW', trodAll_mk1 (shut_bool Try.underlying4 _), (trodAll_cons_mk (Below.trod laidOut (by kernel_rfl) (of_decide_eq_true (by kernel_rfl)) k0 bel lt0) (trodAll_cons_mk (shut_int Try.underlying3 w1) (trodAll_cons_mk (shut_int Try.underlying3 w2) trodAll_mk0))), rfl, bel.frame _, fun h => by cases h⟩
theorem over : Rows.fnExactRenameRow.holds Try.pinned (OpenSpec.ofChange Rows.fnExactRenameSpec) :=
  OpenClaim.holds_of_wide 8 Try.f8 rfl rfl rfl rfl rfl rfl rfl ⟨rfl, rfl, rfl, rfl, rfl⟩ rfl rfl rfl rfl rfl (by kernel_rfl) Try.func8 closed
    (of_decide_eq_true (by kernel_rfl)) (by unfold Func.isWrapper; first | (rw [if_pos (by decide +kernel)]; kernel_rfl) | (rw [if_neg (by decide +kernel)]; exact ⟨rfl, rfl⟩))
    (fun os started H enc _ => lifted os started H enc)
end Go.Proofs.Ytlgjogfcpgfbnaa.fnExactRename
namespace Go.Proofs.Ytlgjogfcpgfbnaa
/-- The row, under a short name, for the claim. -/
theorem fnExactRename_holds : Rows.FnExactRenameSaid := fnExactRename.over
#print axioms fnExactRename_holds
end Go.Proofs.Ytlgjogfcpgfbnaa
