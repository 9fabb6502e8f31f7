/- Jobs that are right. Conditions: those that a theorem names. -/
import Derived.Test.YtonacngeaknlcaaGreatDoorJ3
set_option linter.unusedVariables false
set_option linter.unusedSimpArgs false
namespace Go.Proofs.YtonacngeaknlcaaGreatDoor.RE
open Go Go.RowKit
set_option maxRecDepth 100000
set_option maxHeartbeats 8000000
def cz (m : Mc) : Bool := decide (m.steps = 0 ∧ m.looks = 0 ∧ m.hits = 0)
theorem isZero_c (m : Mc) (hr : m.row.length ≤ 1048576) (hv : m.vals.length ≤ 1048576) (hm : m.memo.length ≤ 1048576) : Val E.P 66 [.agg (mD m)] (T (mZero m)) := by
  refine CallsA.body (E := E) (fn := Tryz.f66) Tryz.func66 rfl fun B hB => ?_
  simp only [Tryz.ntmps66, go_sem, nl, Nat.reduceSub, Nat.reduceAdd, List.reduceReplicate]
  refine Wp.seqK fun K1 hK1 => ?_
  refine rg ?_
  refine hK1 _ ?_
  clear hK1 K1
  refine Wp.seqK fun K2 hK2 => ?_
  refine rg ?_
  refine hK2 _ ?_
  clear hK2 K2
  refine Wp.seqU0 [.d, .k, .d, .k, .v (T (!cz m)), .d5, .d5, .d5, .d5, .d5, .d5, .d5, .d5, .d5, .d5, .d] (fun K3 hK3 => ?_) ?_
  · refine rg ?_
    refine grdA_split rfl (fun g2_4 => ?_) (fun g2_4 => ?_)
    · try simp only [Bool.not_eq_true', Bool.not_eq_false', decide_eq_true_eq, decide_eq_false_iff_not] at g2_4
      try refine evd ?_
      exact hK3 _ (anyS (h := by rw [show cz m = false from decide_eq_false (by omega)]; rfl))
    · try simp only [Bool.not_eq_true', Bool.not_eq_false', decide_eq_true_eq, decide_eq_false_iff_not] at g2_4
      try refine evd ?_
      refine grdA_split rfl (fun g2_9 => ?_) (fun g2_9 => ?_)
      · try simp only [Bool.not_eq_true', Bool.not_eq_false', decide_eq_true_eq, decide_eq_false_iff_not] at g2_9
        try refine evd ?_
        exact hK3 _ (anyS (h := by rw [show cz m = false from decide_eq_false (by omega)]; rfl))
      · try simp only [Bool.not_eq_true', Bool.not_eq_false', decide_eq_true_eq, decide_eq_false_iff_not] at g2_9
        try refine evd ?_
        exact hK3 _ (anyS (h := by rw [show cz m = decide (m.hits = 0) from (decide_eq_decide.2 ⟨fun h => h.2.2, fun h => ⟨by omega, by omega, h⟩⟩)]; rfl))
  rintro f3
  simp only [updT_k, updT_d, updT_d5, updT_v, updT_nil, Nat.reduceAdd]
  refine Wp.seqK fun K4 hK4 => ?_
  refine rg ?_
  refine grdA_split rfl (fun g3_3 => ?_) (fun g3_3 => ?_)
  · try simp only [Bool.not_eq_true', Bool.not_eq_false', decide_eq_true_eq, decide_eq_false_iff_not] at g3_3
    try refine evd ?_
    refine ⟨by rw [E_eqo]; rfl, ?_⟩
    try refine evd ?_
    refine grdA_split rfl (fun g3_9 => ?_) (fun g3_9 => ?_)
    · try simp only [Bool.not_eq_true', Bool.not_eq_false', decide_eq_true_eq, decide_eq_false_iff_not] at g3_9
      try refine evd ?_
      refine grdA_split rfl (fun g3_14 => ?_) (fun g3_14 => ?_)
      · try simp only [Bool.not_eq_true', Bool.not_eq_false', decide_eq_true_eq, decide_eq_false_iff_not] at g3_14
        try refine evd ?_
        refine grdA_split rfl (fun g3_19 => ?_) (fun g3_19 => ?_)
        · try simp only [Bool.not_eq_true', Bool.not_eq_false', decide_eq_true_eq, decide_eq_false_iff_not] at g3_19
          try refine evd ?_
          refine grdA_split rfl (fun g3_24 => ?_) (fun g3_24 => ?_)
          · try simp only [Bool.not_eq_true', Bool.not_eq_false', decide_eq_true_eq, decide_eq_false_iff_not] at g3_24
            try refine evd ?_
            refine hK4 _ ?_
            clear hK4 K4
            refine Wp.ret (retV ?_)
            try simp only [List.getD_cons_zero, List.getD_cons_succ]
            show T _ = T (mZero m)
            rw [Bool.not_not]
            unfold mZero cz
            simp only [Bool.and_eq_true, decide_eq_true_eq] at g3_9
            congr 1
            by_cases h : m.steps = 0 ∧ m.looks = 0 ∧ m.hits = 0
            · rw [decide_eq_true h, decide_eq_true]
              exact ⟨by omega, by omega, by simp_all, by omega, by omega, by omega, g3_24, by omega, by omega, by omega, by omega⟩
            · rw [decide_eq_false h, decide_eq_false]
              rintro ⟨_, _, _, _, _, _, _, h1, h2, h3, _⟩
              exact h ⟨h1, h2, h3⟩
          · try simp only [Bool.not_eq_true', Bool.not_eq_false', decide_eq_true_eq, decide_eq_false_iff_not] at g3_24
            try refine evd ?_
            refine hK4 _ ?_
            clear hK4 K4
            refine Wp.ret (retV ?_)
            try simp only [List.getD_cons_zero, List.getD_cons_succ]
            show T false = T (mZero m)
            rw [show mZero m = false from decide_eq_false (fun h => by obtain ⟨a1, a2, a3, a4, a5, a6, a7, a8, a9, a10, a11⟩ := h; first | omega | (simp [a1, a2, a3, a7] at g3_3; done) | (simp [a1, a2, a3, a7] at g3_9; done) | (simp [a7] at g3_24; done))]
        · try simp only [Bool.not_eq_true', Bool.not_eq_false', decide_eq_true_eq, decide_eq_false_iff_not] at g3_19
          try refine evd ?_
          refine hK4 _ ?_
          clear hK4 K4
          refine Wp.ret (retV ?_)
          try simp only [List.getD_cons_zero, List.getD_cons_succ]
          show T false = T (mZero m)
          rw [show mZero m = false from decide_eq_false (fun h => by obtain ⟨a1, a2, a3, a4, a5, a6, a7, a8, a9, a10, a11⟩ := h; first | omega | (simp [a1, a2, a3, a7] at g3_3; done) | (simp [a1, a2, a3, a7] at g3_9; done) | (simp [a7] at g3_24; done))]
      · try simp only [Bool.not_eq_true', Bool.not_eq_false', decide_eq_true_eq, decide_eq_false_iff_not] at g3_14
        try refine evd ?_
        refine hK4 _ ?_
        clear hK4 K4
        refine Wp.ret (retV ?_)
        try simp only [List.getD_cons_zero, List.getD_cons_succ]
        show T false = T (mZero m)
        rw [show mZero m = false from decide_eq_false (fun h => by obtain ⟨a1, a2, a3, a4, a5, a6, a7, a8, a9, a10, a11⟩ := h; first | omega | (simp [a1, a2, a3, a7] at g3_3; done) | (simp [a1, a2, a3, a7] at g3_9; done) | (simp [a7] at g3_24; done))]
    · try simp only [Bool.not_eq_true', Bool.not_eq_false', decide_eq_true_eq, decide_eq_false_iff_not] at g3_9
      try refine evd ?_
      refine hK4 _ ?_
      clear hK4 K4
      refine Wp.ret (retV ?_)
      try simp only [List.getD_cons_zero, List.getD_cons_succ]
      show T false = T (mZero m)
      rw [show mZero m = false from decide_eq_false (fun h => by obtain ⟨a1, a2, a3, a4, a5, a6, a7, a8, a9, a10, a11⟩ := h; first | omega | (simp [a1, a2, a3, a7] at g3_3; done) | (simp [a1, a2, a3, a7] at g3_9; done) | (simp [a7] at g3_24; done))]
  · try simp only [Bool.not_eq_true', Bool.not_eq_false', decide_eq_true_eq, decide_eq_false_iff_not] at g3_3
    try refine evd ?_
    refine hK4 _ ?_
    clear hK4 K4
    refine Wp.ret (retV ?_)
    try simp only [List.getD_cons_zero, List.getD_cons_succ]
    show T false = T (mZero m)
    rw [show mZero m = false from decide_eq_false (fun h => by obtain ⟨a1, a2, a3, a4, a5, a6, a7, a8, a9, a10, a11⟩ := h; first | omega | (simp [a1, a2, a3, a7] at g3_3; done) | (simp [a1, a2, a3, a7] at g3_9; done) | (simp [a7] at g3_24; done))]
def jA (j : Jb) : Bool := decide ((j.journal.size : Int) ≤ 2000000) && inI j.synced 0 j.journal.size
def jB (j : Jb) : Bool := jA j && (if j.state = 0 then mZero j.m else if j.state = 1 then mOk j.m && !j.m.over else if j.state = 2 then mOk j.m && j.m.over else false)
theorem iJobOk_c (j : Jb) (hf : j.m.Fits) (hj : j.journal.size ≤ 9223372036854775807) : Val E.P 35 [.agg (jD j)] (T (jB j)) := by
  refine CallsA.body (E := E) (fn := Tryz.f35) Tryz.func35 rfl fun B hB => ?_
  simp only [Tryz.ntmps35, go_sem, nl, Nat.reduceSub, Nat.reduceAdd, List.reduceReplicate]
  have hr0 := hf.row
  have ho0 := hf.ones
  have hv0 := hf.vals
  have hm0 := hf.memo
  refine Wp.seqK fun K1 hK1 => ?_
  refine rg ?_
  refine hK1 _ ?_
  clear hK1 K1
  refine Wp.seqK fun K2 hK2 => ?_
  refine Wp.seqU0 [.d, .k, .d5, .d5, .d, .d, .d, .v (T (!jA j)), .d5, .d5, .d5, .d5, .d5, .d, .d, .d] (fun K3 hK3 => ?_) ?_
  · refine rg ?_
    refine grdA_split rfl (fun g1_5 => ?_) (fun g1_5 => ?_)
    · try simp only [Bool.not_eq_true', Bool.not_eq_false', decide_eq_true_eq, decide_eq_false_iff_not] at g1_5
      try refine evd ?_
      exact hK3 _ (anyS (h := by rw [show jA j = false from (by unfold jA; rw [decide_eq_false (by omega)]; rfl)]; rfl))
    · try simp only [Bool.not_eq_true', Bool.not_eq_false', decide_eq_true_eq, decide_eq_false_iff_not] at g1_5
      try refine evd ?_
      refine ⟨rfl, CallK.valA (h := within_c _ _ _) (k := ?_)⟩
      refine evd ?_
      exact hK3 _ (anyS (h := by rw [show jA j = inI j.synced 0 j.journal.size from (by unfold jA; rw [decide_eq_true (show (j.journal.size : Int) ≤ 2000000 by omega)]; rfl)]; rfl))
  rintro f3
  simp only [updT_k, updT_d, updT_d5, updT_v, updT_nil, Nat.reduceAdd]
  refine Wp.condS (fun h15 => ?_) (fun h15 => ?_)
  · refine Wp.seqK fun K4 hK4 => ?_
    refine rg ?_
    refine hK4 _ ?_
    clear hK4 K4
    refine Wp.ret (retV ?_)
    try simp only [List.getD_cons_zero, List.getD_cons_succ]
    show T _ = T (jB j)
    unfold jB
    rw [h15]; rfl
  · have hA : jA j = true := h15
    refine Wp.skip ?_
    refine hK2 _ ?_
    clear hK2 K2
    refine Wp.seqK fun K5 hK5 => ?_
    refine Wp.seqK fun K6 hK6 => ?_
    refine rg ?_
    refine hK6 _ ?_
    clear hK6 K6
    refine Wp.block ?_
    refine Wp.seqK fun K7 hK7 => ?_
    refine rg ?_
    refine hK7 _ ?_
    clear hK7 K7
    refine Wp.condS (fun h18 => ?_) (fun h18 => ?_)
    · refine Wp.seqK fun K8 hK8 => ?_
      refine rg ?_
      refine ⟨rfl, CallK.valA (h := isZero_c _ (by omega) (by omega) (by omega)) (k := ?_)⟩
      refine evd ?_
      refine hK8 _ ?_
      clear hK8 K8
      refine Wp.ret (retV ?_)
      try simp only [List.getD_cons_zero, List.getD_cons_succ]
      show T _ = T (jB j)
      unfold jB
      rw [hA, if_pos h18]; rfl
    · refine Wp.seqK fun K9 hK9 => ?_
      refine rg ?_
      refine hK9 _ ?_
      clear hK9 K9
      refine Wp.condS (fun h23 => ?_) (fun h23 => ?_)
      · refine Wp.seqK fun K10 hK10 => ?_
        refine rg ?_
        refine ⟨rfl, CallK.valA (h := iMachineOk_c _ hf) (k := ?_)⟩
        refine evd ?_
        refine grdA_split rfl (fun g7_4 => ?_) (fun g7_4 => ?_)
        · try simp only [Bool.not_eq_true', Bool.not_eq_false', decide_eq_true_eq, decide_eq_false_iff_not] at g7_4
          try refine evd ?_
          refine hK10 _ ?_
          clear hK10 K10
          refine Wp.ret (retV ?_)
          try simp only [List.getD_cons_zero, List.getD_cons_succ]
          show T _ = T (jB j)
          unfold jB
          rw [hA, if_neg (by omega), if_pos h23, g7_4]; rfl
        · try simp only [Bool.not_eq_true', Bool.not_eq_false', decide_eq_true_eq, decide_eq_false_iff_not] at g7_4
          try refine evd ?_
          refine hK10 _ ?_
          clear hK10 K10
          refine Wp.ret (retV ?_)
          try simp only [List.getD_cons_zero, List.getD_cons_succ]
          show T _ = T (jB j)
          unfold jB
          rw [hA, if_neg (by omega), if_pos h23, g7_4]; rfl
      · refine Wp.seqK fun K11 hK11 => ?_
        refine rg ?_
        refine hK11 _ ?_
        clear hK11 K11
        refine Wp.condS (fun h34 => ?_) (fun h34 => ?_)
        · refine Wp.seqK fun K12 hK12 => ?_
          refine rg ?_
          refine ⟨rfl, CallK.valA (h := iMachineOk_c _ hf) (k := ?_)⟩
          refine evd ?_
          refine grdA_split rfl (fun g9_4 => ?_) (fun g9_4 => ?_)
          · try simp only [Bool.not_eq_true', Bool.not_eq_false', decide_eq_true_eq, decide_eq_false_iff_not] at g9_4
            try refine evd ?_
            refine hK12 _ ?_
            clear hK12 K12
            refine Wp.ret (retV ?_)
            try simp only [List.getD_cons_zero, List.getD_cons_succ]
            show T _ = T (jB j)
            unfold jB
            rw [hA, if_neg (by omega), if_neg (by omega), if_pos h34, g9_4]; simp
          · try simp only [Bool.not_eq_true', Bool.not_eq_false', decide_eq_true_eq, decide_eq_false_iff_not] at g9_4
            try refine evd ?_
            refine hK12 _ ?_
            clear hK12 K12
            refine Wp.ret (retV ?_)
            try simp only [List.getD_cons_zero, List.getD_cons_succ]
            show T _ = T (jB j)
            unfold jB
            rw [hA, if_neg (by omega), if_neg (by omega), if_pos h34, g9_4]; rfl
        · refine Wp.skip ?_
          try simp only [thn, inB, if_true, reduceIte]
          refine hK5 _ ?_
          clear hK5 K5
          refine Wp.seqK fun K13 hK13 => ?_
          refine rg ?_
          refine hK13 _ ?_
          clear hK13 K13
          refine Wp.ret (retV ?_)
          try simp only [List.getD_cons_zero, List.getD_cons_succ]
          show T _ = T (jB j)
          unfold jB
          rw [hA, if_neg (by omega), if_neg (by omega), if_neg (by omega)]; rfl
theorem sJobOk_c (j : Jb) (hf : j.m.Fits) (hj : j.journal.size ≤ 9223372036854775807) : Val E.P 23 [.agg (jD j)] (T (jB j)) := by
  refine CallsA.body (E := E) (fn := Tryz.f23) Tryz.func23 rfl fun B hB => ?_
  simp only [Tryz.ntmps23, go_sem, nl, Nat.reduceSub, Nat.reduceAdd, List.reduceReplicate]
  have hr0 := hf.row
  have ho0 := hf.ones
  have hv0 := hf.vals
  have hm0 := hf.memo
  refine Wp.seqK fun K1 hK1 => ?_
  refine rg ?_
  refine hK1 _ ?_
  clear hK1 K1
  refine Wp.seqK fun K2 hK2 => ?_
  refine Wp.seqU0 [.d, .k, .d5, .d5, .d, .d, .d, .v (T (!jA j)), .d5, .d5, .d5, .d5, .d5, .d, .d, .d] (fun K3 hK3 => ?_) ?_
  · refine rg ?_
    refine grdA_split rfl (fun g1_5 => ?_) (fun g1_5 => ?_)
    · try simp only [Bool.not_eq_true', Bool.not_eq_false', decide_eq_true_eq, decide_eq_false_iff_not] at g1_5
      try refine evd ?_
      exact hK3 _ (anyS (h := by rw [show jA j = false from (by unfold jA; rw [decide_eq_false (by omega)]; rfl)]; rfl))
    · try simp only [Bool.not_eq_true', Bool.not_eq_false', decide_eq_true_eq, decide_eq_false_iff_not] at g1_5
      try refine evd ?_
      refine ⟨rfl, CallK.valA (h := l01In_c _ _ _) (k := ?_)⟩
      refine evd ?_
      exact hK3 _ (anyS (h := by rw [show jA j = inI j.synced 0 j.journal.size from (by unfold jA; rw [decide_eq_true (show (j.journal.size : Int) ≤ 2000000 by omega)]; rfl)]; rfl))
  rintro f3
  simp only [updT_k, updT_d, updT_d5, updT_v, updT_nil, Nat.reduceAdd]
  refine Wp.condS (fun h15 => ?_) (fun h15 => ?_)
  · refine Wp.seqK fun K4 hK4 => ?_
    refine rg ?_
    refine hK4 _ ?_
    clear hK4 K4
    refine Wp.ret (retV ?_)
    try simp only [List.getD_cons_zero, List.getD_cons_succ]
    show T _ = T (jB j)
    unfold jB
    rw [h15]; rfl
  · have hA : jA j = true := h15
    refine Wp.skip ?_
    refine hK2 _ ?_
    clear hK2 K2
    refine Wp.seqK fun K5 hK5 => ?_
    refine Wp.seqK fun K6 hK6 => ?_
    refine rg ?_
    refine hK6 _ ?_
    clear hK6 K6
    refine Wp.block ?_
    refine Wp.seqK fun K7 hK7 => ?_
    refine rg ?_
    refine hK7 _ ?_
    clear hK7 K7
    refine Wp.condS (fun h18 => ?_) (fun h18 => ?_)
    · refine Wp.seqK fun K8 hK8 => ?_
      refine rg ?_
      refine ⟨rfl, CallK.valA (h := l13Bare_c _ (by omega) (by omega) (by omega)) (k := ?_)⟩
      refine evd ?_
      refine hK8 _ ?_
      clear hK8 K8
      refine Wp.ret (retV ?_)
      try simp only [List.getD_cons_zero, List.getD_cons_succ]
      show T _ = T (jB j)
      unfold jB
      rw [hA, if_pos h18]; rfl
    · refine Wp.seqK fun K9 hK9 => ?_
      refine rg ?_
      refine hK9 _ ?_
      clear hK9 K9
      refine Wp.condS (fun h23 => ?_) (fun h23 => ?_)
      · refine Wp.seqK fun K10 hK10 => ?_
        refine rg ?_
        refine ⟨rfl, CallK.valA (h := sMachineOk_c _ hf) (k := ?_)⟩
        refine evd ?_
        refine grdA_split rfl (fun g7_4 => ?_) (fun g7_4 => ?_)
        · try simp only [Bool.not_eq_true', Bool.not_eq_false', decide_eq_true_eq, decide_eq_false_iff_not] at g7_4
          try refine evd ?_
          refine hK10 _ ?_
          clear hK10 K10
          refine Wp.ret (retV ?_)
          try simp only [List.getD_cons_zero, List.getD_cons_succ]
          show T _ = T (jB j)
          unfold jB
          rw [hA, if_neg (by omega), if_pos h23, g7_4]; rfl
        · try simp only [Bool.not_eq_true', Bool.not_eq_false', decide_eq_true_eq, decide_eq_false_iff_not] at g7_4
          try refine evd ?_
          refine hK10 _ ?_
          clear hK10 K10
          refine Wp.ret (retV ?_)
          try simp only [List.getD_cons_zero, List.getD_cons_succ]
          show T _ = T (jB j)
          unfold jB
          rw [hA, if_neg (by omega), if_pos h23, g7_4]; rfl
      · refine Wp.seqK fun K11 hK11 => ?_
        refine rg ?_
        refine hK11 _ ?_
        clear hK11 K11
        refine Wp.condS (fun h34 => ?_) (fun h34 => ?_)
        · refine Wp.seqK fun K12 hK12 => ?_
          refine rg ?_
          refine ⟨rfl, CallK.valA (h := sMachineOk_c _ hf) (k := ?_)⟩
          refine evd ?_
          refine grdA_split rfl (fun g9_4 => ?_) (fun g9_4 => ?_)
          · try simp only [Bool.not_eq_true', Bool.not_eq_false', decide_eq_true_eq, decide_eq_false_iff_not] at g9_4
            try refine evd ?_
            refine hK12 _ ?_
            clear hK12 K12
            refine Wp.ret (retV ?_)
            try simp only [List.getD_cons_zero, List.getD_cons_succ]
            show T _ = T (jB j)
            unfold jB
            rw [hA, if_neg (by omega), if_neg (by omega), if_pos h34, g9_4]; simp
          · try simp only [Bool.not_eq_true', Bool.not_eq_false', decide_eq_true_eq, decide_eq_false_iff_not] at g9_4
            try refine evd ?_
            refine hK12 _ ?_
            clear hK12 K12
            refine Wp.ret (retV ?_)
            try simp only [List.getD_cons_zero, List.getD_cons_succ]
            show T _ = T (jB j)
            unfold jB
            rw [hA, if_neg (by omega), if_neg (by omega), if_pos h34, g9_4]; rfl
        · refine Wp.skip ?_
          try simp only [thn, inB, if_true, reduceIte]
          refine hK5 _ ?_
          clear hK5 K5
          refine Wp.seqK fun K13 hK13 => ?_
          refine rg ?_
          refine hK13 _ ?_
          clear hK13 K13
          refine Wp.ret (retV ?_)
          try simp only [List.getD_cons_zero, List.getD_cons_succ]
          show T _ = T (jB j)
          unfold jB
          rw [hA, if_neg (by omega), if_neg (by omega), if_neg (by omega)]; rfl

theorem argC {ob : Obs} {L : Lend} {al al' : List AV} {M : Lend} {a b c g1 g2 g3 : Nat} {m : Mc} {nr nv nm : Nat} {pre suf : List LV} (h : ArgsL ob L al al' M) (e1 : ob.getD a none = some ⟨g1, m.row.map cb⟩) (e2 : ob.getD b none = some ⟨g2, m.vals.map ci⟩) (e3 : ob.getD c none = some ⟨g3, lS m.memo⟩) (l1 : lk L a g1 = some (encB m.row)) (l2 : lk L b g2 = some (encI m.vals)) (l3 : lk L c g3 = some (encS m.memo))
    (hp : CellsL ob L M pre pre M) (hs : CellsL ob L M suf suf M) (n1 : nr = m.row.length := by rfl) (n2 : nv = m.vals.length := by rfl) (n3 : nm = m.memo.length := by rfl) :
    CellsL ob L M (mCells (.obj a g1 1 0 nr) (.obj b g2 1 0 nv) (.obj c g3 2 0 nm) m ++ suf) (mD m ++ suf) ((a, g1, encB m.row) :: (b, g2, encI m.vals) :: (c, g3, encS m.memo) :: M) := by
  subst n1; subst n2; subst n3
  exact .row e1 (lB_encB _ false).symm (by rw [List.drop_zero, Nat.mul_one, ← encB_len, List.take_length]) l1 (.same rfl (.same rfl (.same rfl (.row e2 (lI_encI _ false).symm (by rw [List.drop_zero, Nat.mul_one, ← encI_len, List.take_length]) l2 (.same rfl (.same rfl (.same rfl (.same rfl (.same rfl (.row e3 (lS_encS _ false).symm (by rw [List.drop_zero, ← encS_len, List.take_length]) l3 hs))))))))))
theorem argM {ob : Obs} {L : Lend} {al al' : List AV} {M : Lend} {a b c g1 g2 g3 : Nat} {m : Mc} (h : ArgsL ob L al al' M) (e1 : ob.getD a none = some ⟨g1, m.row.map cb⟩) (e2 : ob.getD b none = some ⟨g2, m.vals.map ci⟩) (e3 : ob.getD c none = some ⟨g3, lS m.memo⟩) (l1 : lk L a g1 = some (encB m.row)) (l2 : lk L b g2 = some (encI m.vals)) (l3 : lk L c g3 = some (encS m.memo)) :
    ArgsL ob L (.agg (mCells (.obj a g1 1 0 m.row.length) (.obj b g2 1 0 m.vals.length) (.obj c g3 2 0 m.memo.length) m) :: al) (.agg (mD m) :: al') ((a, g1, encB m.row) :: (b, g2, encI m.vals) :: (c, g3, encS m.memo) :: M) := by
  have := ArgsL.agg h (argC (pre := []) (suf := []) h e1 e2 e3 l1 l2 l3 .nil .nil)
  rwa [List.append_nil, List.append_nil] at this
theorem argJ {ob : Obs} {L : Lend} {al al' : List AV} {M : Lend} {a b c g1 g2 g3 : Nat} {j : Jb} (h : ArgsL ob L al al' M) (e1 : ob.getD a none = some ⟨g1, j.m.row.map cb⟩) (e2 : ob.getD b none = some ⟨g2, j.m.vals.map ci⟩) (e3 : ob.getD c none = some ⟨g3, lS j.m.memo⟩) (l1 : lk L a g1 = some (encB j.m.row)) (l2 : lk L b g2 = some (encI j.m.vals)) (l3 : lk L c g3 = some (encS j.m.memo)) :
    ArgsL ob L (.agg (jCells (mCells (.obj a g1 1 0 j.m.row.length) (.obj b g2 1 0 j.m.vals.length) (.obj c g3 2 0 j.m.memo.length) j.m) j) :: al) (.agg (jD j) :: al') ((a, g1, encB j.m.row) :: (b, g2, encI j.m.vals) :: (c, g3, encS j.m.memo) :: M) :=
  ArgsL.agg h (.same rfl (argC (pre := []) (suf := [.sc (.string j.journal), .sc (.int .i64 j.synced)]) h e1 e2 e3 l1 l2 l3 .nil (.same rfl (.same rfl .nil))))
end Go.Proofs.YtonacngeaknlcaaGreatDoor.RE
