/- The law FnExactRename, over the functions that the walks show. Conditions: those that a theorem names. -/
import Derived.Test.YtlgjogfcpgfbnaaPN
import Derived.Test.YtlgjogfcpgfbnaaPX
import Derived.Test.YtlgjogfcpgfbnaaKj
set_option linter.unusedVariables false
set_option linter.unusedSimpArgs false
namespace Go.Proofs.Ytlgjogfcpgfbnaa.K
open Go.RowKit Go.Proofs.YtlgjogfcpgfbnaaW.PrintWords Go.Proofs.YtlgjogfcpgfbnaaW.PrintMore Go.Proofs.Ytlgjogfcpgfbnaa.KM Go.Proofs.Ytlgjogfcpgfbnaa.Lib0

theorem fnExactRename_ev (l : List Ld) (v u : Int) (hl : l.length ≤ 9223372036854775807) (hv : (Lit.int .i64 v).wf = true) (hu : (Lit.int .i64 u).wf = true) : Ev (fun k => laws_FnExactRename.f k l v u) true := by
  unfold laws_FnExactRename.f
  refine Ev.bindc (szN' l hl) ?_
  by_cases h : l.length ≤ 1048576
  · rw [if_pos h]
    have ht : y_toNodeS.f l = some (l.map cvN) := if_pos h
    have hm : (l.map cvN).length ≤ 1048576 := by rw [List.length_map]; exact h
    generalize l.map cvN = t at ht hm
    have hs := specRename_ev t (by omega) v u
    have hi := implRename_ev t (by omega) v u
    have hR : (renameOf t v u).1.length ≤ 1048576 := renameOf_size _ _ _
    generalize renameOf t v u = R at hs hi hR
    refine Ev.neg (by omega) (Ev.bindc ht (Ev.bind hs (Ev.bindc ht (Ev.bind hi (Ev.bindc (eqN_self _ hR) (Ev.pos rfl ?_))))))
    refine Ev.step (fun _ => rfl) ?_
    simp only [laws_FnExactRename.j0]
    refine Ev.neg (by simp) (Ev.bindc ht (Ev.bindc (eqN_self _ hm) (Ev.pos rfl (Ev.bind (mark_ev t hm) (Ev.neg (by simp only; omega) (Ev.bindc (eqN_self _ hR) (Ev.pos rfl ?_)))))))
    refine Ev.step (fun _ => rfl) ?_
    simp only [laws_FnExactRename.j1]
    refine Ev.neg (by simp) (Ev.bind (mark_ev R.1 hR) (Ev.bind (held_ev R.1.length hR) (Ev.neg (by omega) (Ev.pos rfl (Ev.bindc ht (Ev.bind hi (Ev.bindc (eqN_self _ hR) (Ev.pos rfl ?_))))))))
    refine Ev.step (fun _ => rfl) ?_
    simp only [laws_FnExactRename.j2]
    exact Ev.neg (by simp) (Ev.bind (held_ev R.1.length hR) (Ev.neg (by omega) (Ev.pos rfl (Ev.now _))))
  · rw [if_neg h]
    exact Ev.pos (by omega) (Ev.now _)
end Go.Proofs.Ytlgjogfcpgfbnaa.K
