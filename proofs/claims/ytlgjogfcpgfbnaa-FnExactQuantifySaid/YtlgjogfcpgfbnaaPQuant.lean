/- The law FnExactQuantify, over the functions that the walks show. Conditions: those that a theorem names. -/
import Derived.Test.YtlgjogfcpgfbnaaPB
import Derived.Test.YtlgjogfcpgfbnaaPX
import Derived.Test.YtlgjogfcpgfbnaaKh
set_option linter.unusedVariables false
set_option linter.unusedSimpArgs false
namespace Go.Proofs.Ytlgjogfcpgfbnaa.K
open Go.RowKit Go.Proofs.YtlgjogfcpgfbnaaW.PrintWords Go.Proofs.YtlgjogfcpgfbnaaW.PrintMore Go.Proofs.Ytlgjogfcpgfbnaa.KM Go.Proofs.Ytlgjogfcpgfbnaa.Lib0

theorem fnExactQuantify_ev (l : List Ld) (a : Bool) (v w : Int) (hl : l.length ≤ 9223372036854775807) (hv : (Lit.int .i64 v).wf = true) (hw : (Lit.int .i64 w).wf = true) : Ev (fun k => laws_FnExactQuantify.f k l a v w) true := by
  unfold laws_FnExactQuantify.f
  refine Ev.bindc (szN' l hl) ?_
  by_cases h : l.length ≤ 1048576
  · rw [if_pos h]
    have ht : y_toNodeS.f l = some (l.map cvN) := if_pos h
    have hm : (l.map cvN).length ≤ 1048576 := by rw [List.length_map]; exact h
    generalize l.map cvN = t at ht hm
    have hs := specQuant_eq t (by omega) a v w
    have hi := implQuant_eq t (by omega) a v w
    have hR : (quantOf t a v w).1.length ≤ 1048576 := behindOf_size _ _
    generalize quantOf t a v w = R at hs hi hR
    refine Ev.neg (by omega) (Ev.bindc ht (Ev.bindc hs (Ev.bindc ht (Ev.bindc hi (Ev.bindc (eqN_self _ hR) (Ev.pos rfl ?_))))))
    refine Ev.step (fun _ => rfl) ?_
    simp only [laws_FnExactQuantify.j0]
    refine Ev.neg (by simp) (Ev.bindc ht (Ev.bindc (eqN_self _ hm) (Ev.pos rfl (Ev.bind (mark_ev t hm) (Ev.neg (by simp only; omega) (Ev.bindc (eqN_self _ hR) (Ev.pos rfl ?_)))))))
    refine Ev.step (fun _ => rfl) ?_
    simp only [laws_FnExactQuantify.j1]
    refine Ev.neg (by simp) (Ev.bind (mark_ev R.1 hR) (Ev.bind (held_ev R.1.length hR) (Ev.neg (by omega) (Ev.pos rfl (Ev.bindc ht (Ev.bindc hi (Ev.bindc (eqN_self _ hR) (Ev.pos rfl ?_))))))))
    refine Ev.step (fun _ => rfl) ?_
    simp only [laws_FnExactQuantify.j2]
    exact Ev.neg (by simp) (Ev.bind (held_ev R.1.length hR) (Ev.neg (by omega) (Ev.pos rfl (Ev.now _))))
  · rw [if_neg h]
    exact Ev.pos (by omega) (Ev.now _)
end Go.Proofs.Ytlgjogfcpgfbnaa.K
