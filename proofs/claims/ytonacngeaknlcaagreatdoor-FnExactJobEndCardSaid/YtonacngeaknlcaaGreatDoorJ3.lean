/- Jobs that are right. Conditions: those that a theorem names. -/
import Derived.Test.YtonacngeaknlcaaGreatDoorJ2
set_option linter.unusedVariables false
set_option linter.unusedSimpArgs false
namespace Go.Proofs.YtonacngeaknlcaaGreatDoor.RE
open Go Go.RowKit
set_option maxRecDepth 100000
set_option maxHeartbeats 8000000

theorem j_le {a b : Int} : (!decide (b ≤ a)) = decide (a < b) := by
  by_cases h : a < b
  · rw [decide_eq_true h, decide_eq_false (by omega)]; rfl
  · rw [decide_eq_false h, decide_eq_true (by omega)]; rfl
theorem l13Bare_c (m : Mc) (hr : m.row.length ≤ 1048576) (hv : m.vals.length ≤ 1048576) (hm : m.memo.length ≤ 1048576) : Val E.P 49 [.agg (mD m)] (T (mZero m)) := by
  refine CallsA.body (E := E) (fn := Tryz.f49) Tryz.func49 rfl fun B hB => ?_
  simp only [Tryz.ntmps49, go_sem, nl, Nat.reduceSub, Nat.reduceAdd, List.reduceReplicate]
  refine Wp.seqK fun K1 hK1 => ?_
  refine rg ?_
  refine hK1 _ ?_
  clear hK1 K1
  refine Wp.seqK fun K2 hK2 => ?_
  refine rg ?_
  refine grdA_split rfl (fun g1_5 => ?_) (fun g1_5 => ?_)
  · try simp only [Bool.not_eq_true', Bool.not_eq_false', decide_eq_true_eq, decide_eq_false_iff_not] at g1_5
    try refine evd ?_
    refine grdA_split rfl (fun g1_11 => ?_) (fun g1_11 => ?_)
    · try simp only [Bool.not_eq_true', Bool.not_eq_false', decide_eq_true_eq, decide_eq_false_iff_not] at g1_11
      try refine evd ?_
      refine grdA_split rfl (fun g1_17 => ?_) (fun g1_17 => ?_)
      · try simp only [Bool.not_eq_true', Bool.not_eq_false', decide_eq_true_eq, decide_eq_false_iff_not] at g1_17
        try refine evd ?_
        refine grdA_split rfl (fun g1_22 => ?_) (fun g1_22 => ?_)
        · try simp only [Bool.not_eq_true', Bool.not_eq_false', decide_eq_true_eq, decide_eq_false_iff_not] at g1_22
          try refine evd ?_
          refine grdA_split rfl (fun g1_28 => ?_) (fun g1_28 => ?_)
          · try simp only [Bool.not_eq_true', Bool.not_eq_false', decide_eq_true_eq, decide_eq_false_iff_not] at g1_28
            try refine evd ?_
            refine grdA_split rfl (fun g1_33 => ?_) (fun g1_33 => ?_)
            · try simp only [Bool.not_eq_true', Bool.not_eq_false', decide_eq_true_eq, decide_eq_false_iff_not] at g1_33
              try refine evd ?_
              refine grdA_split rfl (fun g1_38 => ?_) (fun g1_38 => ?_)
              · try simp only [Bool.not_eq_true', Bool.not_eq_false', decide_eq_true_eq, decide_eq_false_iff_not] at g1_38
                try refine evd ?_
                refine grdA_split rfl (fun g1_43 => ?_) (fun g1_43 => ?_)
                · try simp only [Bool.not_eq_true', Bool.not_eq_false', decide_eq_true_eq, decide_eq_false_iff_not] at g1_43
                  try refine evd ?_
                  refine grdA_split rfl (fun g1_48 => ?_) (fun g1_48 => ?_)
                  · try simp only [Bool.not_eq_true', Bool.not_eq_false', decide_eq_true_eq, decide_eq_false_iff_not] at g1_48
                    try refine evd ?_
                    refine grdA_split rfl (fun g1_53 => ?_) (fun g1_53 => ?_)
                    · try simp only [Bool.not_eq_true', Bool.not_eq_false', decide_eq_true_eq, decide_eq_false_iff_not] at g1_53
                      try refine evd ?_
                      refine hK2 _ ?_
                      clear hK2 K2
                      refine Wp.ret (retV ?_)
                      try simp only [List.getD_cons_zero, List.getD_cons_succ]
                      show T _ = T (mZero m)
                      unfold mZero
                      congr 1
                      by_cases h : (m.memo.length : Int) = 0
                      · rw [decide_eq_true h, decide_eq_true]
                        exact ⟨by omega, by omega, g1_17, by omega, by omega, by omega, g1_38, by omega, by omega, by omega, by omega⟩
                      · rw [decide_eq_false h, decide_eq_false]
                        rintro ⟨_, _, _, _, _, _, _, _, _, _, h2⟩
                        omega
                    · try simp only [Bool.not_eq_true', Bool.not_eq_false', decide_eq_true_eq, decide_eq_false_iff_not] at g1_53
                      try refine evd ?_
                      refine hK2 _ ?_
                      clear hK2 K2
                      refine Wp.ret (retV ?_)
                      try simp only [List.getD_cons_zero, List.getD_cons_succ]
                      show T false = T (mZero m)
                      rw [show mZero m = false from decide_eq_false (fun h => by obtain ⟨a1, a2, a3, a4, a5, a6, a7, a8, a9, a10, a11⟩ := h; first | omega | (simp_all; done) | (rw [a2, a3] at *; simp_all; done))]
                  · try simp only [Bool.not_eq_true', Bool.not_eq_false', decide_eq_true_eq, decide_eq_false_iff_not] at g1_48
                    try refine evd ?_
                    refine hK2 _ ?_
                    clear hK2 K2
                    refine Wp.ret (retV ?_)
                    try simp only [List.getD_cons_zero, List.getD_cons_succ]
                    show T false = T (mZero m)
                    rw [show mZero m = false from decide_eq_false (fun h => by obtain ⟨a1, a2, a3, a4, a5, a6, a7, a8, a9, a10, a11⟩ := h; first | omega | (simp_all; done) | (rw [a2, a3] at *; simp_all; done))]
                · try simp only [Bool.not_eq_true', Bool.not_eq_false', decide_eq_true_eq, decide_eq_false_iff_not] at g1_43
                  try refine evd ?_
                  refine hK2 _ ?_
                  clear hK2 K2
                  refine Wp.ret (retV ?_)
                  try simp only [List.getD_cons_zero, List.getD_cons_succ]
                  show T false = T (mZero m)
                  rw [show mZero m = false from decide_eq_false (fun h => by obtain ⟨a1, a2, a3, a4, a5, a6, a7, a8, a9, a10, a11⟩ := h; first | omega | (simp_all; done) | (rw [a2, a3] at *; simp_all; done))]
              · try simp only [Bool.not_eq_true', Bool.not_eq_false', decide_eq_true_eq, decide_eq_false_iff_not] at g1_38
                try refine evd ?_
                refine hK2 _ ?_
                clear hK2 K2
                refine Wp.ret (retV ?_)
                try simp only [List.getD_cons_zero, List.getD_cons_succ]
                show T false = T (mZero m)
                rw [show mZero m = false from decide_eq_false (fun h => by obtain ⟨a1, a2, a3, a4, a5, a6, a7, a8, a9, a10, a11⟩ := h; first | omega | (simp_all; done) | (rw [a2, a3] at *; simp_all; done))]
            · try simp only [Bool.not_eq_true', Bool.not_eq_false', decide_eq_true_eq, decide_eq_false_iff_not] at g1_33
              try refine evd ?_
              refine hK2 _ ?_
              clear hK2 K2
              refine Wp.ret (retV ?_)
              try simp only [List.getD_cons_zero, List.getD_cons_succ]
              show T false = T (mZero m)
              rw [show mZero m = false from decide_eq_false (fun h => by obtain ⟨a1, a2, a3, a4, a5, a6, a7, a8, a9, a10, a11⟩ := h; first | omega | (simp_all; done) | (rw [a2, a3] at *; simp_all; done))]
          · try simp only [Bool.not_eq_true', Bool.not_eq_false', decide_eq_true_eq, decide_eq_false_iff_not] at g1_28
            try refine evd ?_
            refine hK2 _ ?_
            clear hK2 K2
            refine Wp.ret (retV ?_)
            try simp only [List.getD_cons_zero, List.getD_cons_succ]
            show T false = T (mZero m)
            rw [show mZero m = false from decide_eq_false (fun h => by obtain ⟨a1, a2, a3, a4, a5, a6, a7, a8, a9, a10, a11⟩ := h; first | omega | (simp_all; done) | (rw [a2, a3] at *; simp_all; done))]
        · try simp only [Bool.not_eq_true', Bool.not_eq_false', decide_eq_true_eq, decide_eq_false_iff_not] at g1_22
          try refine evd ?_
          refine hK2 _ ?_
          clear hK2 K2
          refine Wp.ret (retV ?_)
          try simp only [List.getD_cons_zero, List.getD_cons_succ]
          show T false = T (mZero m)
          rw [show mZero m = false from decide_eq_false (fun h => by obtain ⟨a1, a2, a3, a4, a5, a6, a7, a8, a9, a10, a11⟩ := h; first | omega | (simp_all; done) | (rw [a2, a3] at *; simp_all; done))]
      · try simp only [Bool.not_eq_true', Bool.not_eq_false', decide_eq_true_eq, decide_eq_false_iff_not] at g1_17
        try refine evd ?_
        refine hK2 _ ?_
        clear hK2 K2
        refine Wp.ret (retV ?_)
        try simp only [List.getD_cons_zero, List.getD_cons_succ]
        show T false = T (mZero m)
        rw [show mZero m = false from decide_eq_false (fun h => by obtain ⟨a1, a2, a3, a4, a5, a6, a7, a8, a9, a10, a11⟩ := h; first | omega | (simp_all; done) | (rw [a2, a3] at *; simp_all; done))]
    · try simp only [Bool.not_eq_true', Bool.not_eq_false', decide_eq_true_eq, decide_eq_false_iff_not] at g1_11
      try refine evd ?_
      refine hK2 _ ?_
      clear hK2 K2
      refine Wp.ret (retV ?_)
      try simp only [List.getD_cons_zero, List.getD_cons_succ]
      show T false = T (mZero m)
      rw [show mZero m = false from decide_eq_false (fun h => by obtain ⟨a1, a2, a3, a4, a5, a6, a7, a8, a9, a10, a11⟩ := h; first | omega | (simp_all; done) | (rw [a2, a3] at *; simp_all; done))]
  · try simp only [Bool.not_eq_true', Bool.not_eq_false', decide_eq_true_eq, decide_eq_false_iff_not] at g1_5
    try refine evd ?_
    refine hK2 _ ?_
    clear hK2 K2
    refine Wp.ret (retV ?_)
    try simp only [List.getD_cons_zero, List.getD_cons_succ]
    show T false = T (mZero m)
    rw [show mZero m = false from decide_eq_false (fun h => by obtain ⟨a1, a2, a3, a4, a5, a6, a7, a8, a9, a10, a11⟩ := h; first | omega | (simp_all; done) | (rw [a2, a3] at *; simp_all; done))]
end Go.Proofs.YtonacngeaknlcaaGreatDoor.RE
