/- Verdicts of jobs. Conditions: those that a theorem names. -/
import Derived.Test.YtlgjogfcpgfbnaaJ4
import Derived.Test.YtlgjogfcpgfbnaaJ5
set_option linter.unusedVariables false
set_option linter.unusedSimpArgs false
namespace Go.Proofs.Ytlgjogfcpgfbnaa.RE
open Go Go.RowKit
set_option maxRecDepth 100000
set_option maxHeartbeats 8000000

def vB (m : Mc) : Bool := mOk m && m.over
def vI (m : Mc) : Int := if vB m = true then m.ret else 0
def jvB (j : Jb) : Bool := jB j && decide (j.state = 2)
def jrB (j : Jb) : Bool := jvB j && vB j.m
def jrI (j : Jb) : Int := if jvB j = true then vI j.m else 0
theorem iMVerdict_c (m : Mc) (hf : m.Fits) : Val E.P 105 [.agg (mD m)] (.tup [TI (vI m), TB (vB m)]) := by
  refine CallsA.body (E := E) (fn := Try.f105) Try.func105 rfl fun B hB => ?_
  simp only [Try.ntmps105, go_sem, nl, Nat.reduceSub, Nat.reduceAdd, List.reduceReplicate]
  have hr0 := hf.row
  have ho0 := hf.ones
  have hv0 := hf.vals
  have hm0 := hf.memo
  refine Wp.seqK fun K1 hK1 => ?_
  refine rg ?_
  refine hK1 _ ?_
  clear hK1 K1
  refine Wp.seqK fun K2 hK2 => ?_
  refine Wp.seqU0 [.d, .k, .d5, .d, .d, .d, .d, .v (T (!vB m)), .d, .d] (fun K3 hK3 => ?_) ?_
  · refine rg ?_
    refine ⟨rfl, CallK.valA (h := iMachineOk_c _ hf) (k := ?_)⟩
    refine evd ?_
    refine grdA_split rfl (fun g1_4 => ?_) (fun g1_4 => ?_)
    · try simp only [Bool.not_eq_true', Bool.not_eq_false', decide_eq_true_eq, decide_eq_false_iff_not] at g1_4
      try refine evd ?_
      exact hK3 _ (anyS (h := by rw [show vB m = false from (by unfold vB; rw [g1_4]; rfl)]; rfl))
    · try simp only [Bool.not_eq_true', Bool.not_eq_false', decide_eq_true_eq, decide_eq_false_iff_not] at g1_4
      try refine evd ?_
      exact hK3 _ (anyS (h := by rw [show vB m = m.over from (by unfold vB; rw [g1_4]; rfl)]; rfl))
  rintro f3
  simp only [updT_k, updT_d, updT_d5, updT_v, updT_nil, Nat.reduceAdd]
  refine Wp.condS (fun h11 => ?_) (fun h11 => ?_)
  · refine Wp.seqK fun K4 hK4 => ?_
    refine rg ?_
    refine hK4 _ ?_
    clear hK4 K4
    refine Wp.ret (retV ?_)
    try simp only [List.getD_cons_zero, List.getD_cons_succ]
    show _ = AV.tup [TI (vI m), TB (vB m)]
    unfold vI
    rw [h11]; rfl
  · refine Wp.skip ?_
    refine hK2 _ ?_
    clear hK2 K2
    refine Wp.seqK fun K5 hK5 => ?_
    refine rg ?_
    refine hK5 _ ?_
    clear hK5 K5
    refine Wp.ret (retV ?_)
    try simp only [List.getD_cons_zero, List.getD_cons_succ]
    show _ = AV.tup [TI (vI m), TB (vB m)]
    unfold vI
    rw [h11]; rfl
theorem sMVerdict_c (m : Mc) (hf : m.Fits) : Val E.P 104 [.agg (mD m)] (.tup [TI (vI m), TB (vB m)]) := by
  refine CallsA.body (E := E) (fn := Try.f104) Try.func104 rfl fun B hB => ?_
  simp only [Try.ntmps104, go_sem, nl, Nat.reduceSub, Nat.reduceAdd, List.reduceReplicate]
  have hr0 := hf.row
  have ho0 := hf.ones
  have hv0 := hf.vals
  have hm0 := hf.memo
  refine Wp.seqK fun K1 hK1 => ?_
  refine rg ?_
  refine hK1 _ ?_
  clear hK1 K1
  refine Wp.seqK fun K2 hK2 => ?_
  refine Wp.seqU0 [.d, .k, .d5, .d, .d, .d, .d, .v (T (!vB m)), .d, .d] (fun K3 hK3 => ?_) ?_
  · refine rg ?_
    refine ⟨rfl, CallK.valA (h := sMachineOk_c _ hf) (k := ?_)⟩
    refine evd ?_
    refine grdA_split rfl (fun g1_4 => ?_) (fun g1_4 => ?_)
    · try simp only [Bool.not_eq_true', Bool.not_eq_false', decide_eq_true_eq, decide_eq_false_iff_not] at g1_4
      try refine evd ?_
      exact hK3 _ (anyS (h := by rw [show vB m = false from (by unfold vB; rw [g1_4]; rfl)]; rfl))
    · try simp only [Bool.not_eq_true', Bool.not_eq_false', decide_eq_true_eq, decide_eq_false_iff_not] at g1_4
      try refine evd ?_
      exact hK3 _ (anyS (h := by rw [show vB m = m.over from (by unfold vB; rw [g1_4]; rfl)]; rfl))
  rintro f3
  simp only [updT_k, updT_d, updT_d5, updT_v, updT_nil, Nat.reduceAdd]
  refine Wp.condS (fun h11 => ?_) (fun h11 => ?_)
  · refine Wp.seqK fun K4 hK4 => ?_
    refine rg ?_
    refine hK4 _ ?_
    clear hK4 K4
    refine Wp.ret (retV ?_)
    try simp only [List.getD_cons_zero, List.getD_cons_succ]
    show _ = AV.tup [TI (vI m), TB (vB m)]
    unfold vI
    rw [h11]; rfl
  · refine Wp.skip ?_
    refine hK2 _ ?_
    clear hK2 K2
    refine Wp.seqK fun K5 hK5 => ?_
    refine rg ?_
    refine hK5 _ ?_
    clear hK5 K5
    refine Wp.ret (retV ?_)
    try simp only [List.getD_cons_zero, List.getD_cons_succ]
    show _ = AV.tup [TI (vI m), TB (vB m)]
    unfold vI
    rw [h11]; rfl
theorem iJVerdict_c (j : Jb) (hf : j.m.Fits) (hj : j.journal.size ≤ 9223372036854775807) : Val E.P 49 [.agg (jD j)] (.tup [TI (jrI j), TB (jrB j)]) := by
  refine CallsA.body (E := E) (fn := Try.f49) Try.func49 rfl fun B hB => ?_
  simp only [Try.ntmps49, go_sem, nl, Nat.reduceSub, Nat.reduceAdd, List.reduceReplicate]
  have hr0 := hf.row
  have ho0 := hf.ones
  have hv0 := hf.vals
  have hm0 := hf.memo
  refine Wp.seqK fun K1 hK1 => ?_
  refine rg ?_
  refine hK1 _ ?_
  clear hK1 K1
  refine Wp.seqK fun K2 hK2 => ?_
  refine Wp.seqU0 [.d, .k, .d5, .d, .d, .d, .d, .v (T (!jvB j)), .d5] (fun K3 hK3 => ?_) ?_
  · refine rg ?_
    refine ⟨rfl, CallK.valA (h := iJobOk_c _ hf (by omega)) (k := ?_)⟩
    refine evd ?_
    refine grdA_split rfl (fun g1_4 => ?_) (fun g1_4 => ?_)
    · try simp only [Bool.not_eq_true', Bool.not_eq_false', decide_eq_true_eq, decide_eq_false_iff_not] at g1_4
      try refine evd ?_
      exact hK3 _ (anyS (h := by rw [show jvB j = false from (by unfold jvB; rw [g1_4]; rfl)]; rfl))
    · try simp only [Bool.not_eq_true', Bool.not_eq_false', decide_eq_true_eq, decide_eq_false_iff_not] at g1_4
      try refine evd ?_
      exact hK3 _ (anyS (h := by rw [show jvB j = decide (j.state = 2) from (by unfold jvB; rw [g1_4]; rfl)]; rfl))
  rintro f3
  simp only [updT_k, updT_d, updT_d5, updT_v, updT_nil, Nat.reduceAdd]
  refine Wp.condS (fun h11 => ?_) (fun h11 => ?_)
  · refine Wp.seqK fun K4 hK4 => ?_
    refine rg ?_
    refine hK4 _ ?_
    clear hK4 K4
    refine Wp.ret (retV ?_)
    try simp only [List.getD_cons_zero, List.getD_cons_succ]
    show _ = AV.tup [TI (jrI j), TB (jrB j)]
    unfold jrI jrB
    rw [h11]; rfl
  · refine Wp.skip ?_
    refine hK2 _ ?_
    clear hK2 K2
    refine Wp.seqK fun K5 hK5 => ?_
    refine rg ?_
    refine ⟨rfl, CallK.valA (h := iMVerdict_c _ hf) (k := ?_)⟩
    refine evd ?_
    refine hK5 _ ?_
    clear hK5 K5
    refine Wp.ret (retV ?_)
    try simp only [List.getD_cons_zero, List.getD_cons_succ]
    show _ = AV.tup [TI (jrI j), TB (jrB j)]
    unfold jrI jrB
    rw [h11]; rfl
theorem sJVerdict_c (j : Jb) (hf : j.m.Fits) (hj : j.journal.size ≤ 9223372036854775807) : Val E.P 48 [.agg (jD j)] (.tup [TI (jrI j), TB (jrB j)]) := by
  refine CallsA.body (E := E) (fn := Try.f48) Try.func48 rfl fun B hB => ?_
  simp only [Try.ntmps48, go_sem, nl, Nat.reduceSub, Nat.reduceAdd, List.reduceReplicate]
  have hr0 := hf.row
  have ho0 := hf.ones
  have hv0 := hf.vals
  have hm0 := hf.memo
  refine Wp.seqK fun K1 hK1 => ?_
  refine rg ?_
  refine hK1 _ ?_
  clear hK1 K1
  refine Wp.seqK fun K2 hK2 => ?_
  refine Wp.seqU0 [.d, .k, .d5, .d, .d, .d, .d, .v (T (!jvB j)), .d5] (fun K3 hK3 => ?_) ?_
  · refine rg ?_
    refine ⟨rfl, CallK.valA (h := sJobOk_c _ hf (by omega)) (k := ?_)⟩
    refine evd ?_
    refine grdA_split rfl (fun g1_4 => ?_) (fun g1_4 => ?_)
    · try simp only [Bool.not_eq_true', Bool.not_eq_false', decide_eq_true_eq, decide_eq_false_iff_not] at g1_4
      try refine evd ?_
      exact hK3 _ (anyS (h := by rw [show jvB j = false from (by unfold jvB; rw [g1_4]; rfl)]; rfl))
    · try simp only [Bool.not_eq_true', Bool.not_eq_false', decide_eq_true_eq, decide_eq_false_iff_not] at g1_4
      try refine evd ?_
      exact hK3 _ (anyS (h := by rw [show jvB j = decide (j.state = 2) from (by unfold jvB; rw [g1_4]; rfl)]; rfl))
  rintro f3
  simp only [updT_k, updT_d, updT_d5, updT_v, updT_nil, Nat.reduceAdd]
  refine Wp.condS (fun h11 => ?_) (fun h11 => ?_)
  · refine Wp.seqK fun K4 hK4 => ?_
    refine rg ?_
    refine hK4 _ ?_
    clear hK4 K4
    refine Wp.ret (retV ?_)
    try simp only [List.getD_cons_zero, List.getD_cons_succ]
    show _ = AV.tup [TI (jrI j), TB (jrB j)]
    unfold jrI jrB
    rw [h11]; rfl
  · refine Wp.skip ?_
    refine hK2 _ ?_
    clear hK2 K2
    refine Wp.seqK fun K5 hK5 => ?_
    refine rg ?_
    refine ⟨rfl, CallK.valA (h := sMVerdict_c _ hf) (k := ?_)⟩
    refine evd ?_
    refine hK5 _ ?_
    clear hK5 K5
    refine Wp.ret (retV ?_)
    try simp only [List.getD_cons_zero, List.getD_cons_succ]
    show _ = AV.tup [TI (jrI j), TB (jrB j)]
    unfold jrI jrB
    rw [h11]; rfl
theorem lawJobVerdict_c (j : Jb) (hr : j.m.row.length ≤ 9223372036854775807) (ho : j.m.ones.size ≤ 9223372036854775807) (hv : j.m.vals.length ≤ 9223372036854775807) (hm : j.m.memo.length ≤ 9223372036854775807) (hk : ∀ s ∈ j.m.memo, s.key.size ≤ 9223372036854775807) (hj : j.journal.size ≤ 9223372036854775807) : Val E.P 11 [.agg (jD j)] (T true) := by
  refine CallsA.body (E := E) (fn := Try.f11) Try.func11 rfl fun B hB => ?_
  simp only [Try.ntmps11, go_sem, nl, Nat.reduceSub, Nat.reduceAdd, List.reduceReplicate]
  refine Wp.seqK fun K1 hK1 => ?_
  refine rg ?_
  refine hK1 _ ?_
  clear hK1 K1
  refine Wp.seqK fun K2 hK2 => ?_
  refine rg ?_
  refine hK2 _ ?_
  clear hK2 K2
  refine Wp.seqK fun K3 hK3 => ?_
  refine rg ?_
  refine ⟨rfl, CallK.valA (h := szJob_c _ _ (by omega) (by omega) (by omega) (by omega) (by omega) (by omega) hk (by omega)) (k := ?_)⟩
  refine evd ?_
  refine hK3 _ ?_
  clear hK3 K3
  refine Wp.seqK fun K4 hK4 => ?_
  refine Wp.seqK fun K5 hK5 => ?_
  refine rg ?_
  refine hK5 _ ?_
  clear hK5 K5
  refine Wp.condS (fun h13 => ?_) (fun h13 => ?_)
  · refine Wp.seqK fun K6 hK6 => ?_
    refine rg ?_
    refine hK6 _ ?_
    clear hK6 K6
    refine Wp.ret (retV ?_)
    try simp only [List.getD_cons_zero, List.getD_cons_succ]
    try rfl
  · have hs := szJ_le (l := 1048576) (by omega) h13
    have hf := hs.1
    have hr0 := hf.row
    have ho0 := hf.ones
    have hv0 := hf.vals
    have hm0 := hf.memo
    have hj2 := hs.2
    refine Wp.skip ?_
    refine hK4 _ ?_
    clear hK4 K4
    refine Wp.seqK fun K7 hK7 => ?_
    refine rg ?_
    refine ⟨rfl, CallK.retA (h := toJob_c _ (by omega) (by omega) (by omega)) (k := ?_) (hf := mR_flat _)⟩
    refine evd ?_
    refine ⟨rfl, CallK.valA (h := sJVerdict_c j hf (by omega)) (k := ?_) (ha := argJ (j := j) ArgsL.nil rfl rfl rfl rfl rfl rfl)⟩
    refine evd ?_
    refine hK7 _ ?_
    clear hK7 K7
    refine Wp.seqK fun K8 hK8 => ?_
    refine rg ?_
    refine ⟨rfl, CallK.retA (h := toJob_c _ (by omega) (by omega) (by omega)) (k := ?_) (hf := mR_flat _)⟩
    refine evd ?_
    refine hK8 _ ?_
    clear hK8 K8
    refine Wp.seqK fun K9 hK9 => ?_
    refine rg ?_
    refine ⟨rfl, CallK.valA (h := iJVerdict_c j hf (by omega)) (k := ?_) (ha := argJ (j := j) ArgsL.nil rfl rfl rfl rfl rfl rfl)⟩
    refine evd ?_
    refine hK9 _ ?_
    clear hK9 K9
    refine Wp.seqK fun K10 hK10 => ?_
    refine Wp.seqK fun K11 hK11 => ?_
    refine rg ?_
    refine hK11 _ ?_
    clear hK11 K11
    refine Wp.condS (fun h34 => ?_) (fun h34 => ?_)
    · first | exact h34.elim | exact absurd h34 (by decide) | omega | simp at h34
    · refine Wp.skip ?_
      refine hK10 _ ?_
      clear hK10 K10
      refine Wp.seqK fun K12 hK12 => ?_
      refine Wp.seqK fun K13 hK13 => ?_
      refine Wp.drawI [0, 1, 2, 3, 4, 5, 6, 7] [2, 3] (by kernel_rfl) ?_
      refine evd ?_
      refine ⟨rfl, CallK.retA (h := toJob_c _ (by omega) (by omega) (by omega)) (k := ?_) (hf := mR_flat _)⟩
      refine evd ?_
      refine ⟨rfl, CallK.valA (h := eqJob_c j (by omega) (by omega) (by omega)) (k := ?_) (ha := argJ (j := j) (argJ (j := j) ArgsL.nil rfl rfl rfl rfl rfl rfl) rfl rfl rfl rfl rfl rfl)⟩
      refine evd ?_
      refine hK13 _ ?_
      clear hK13 K13
      refine Wp.condS (fun h39 => ?_) (fun h39 => ?_)
      · first | exact h39.elim | exact absurd h39 (by decide) | omega | simp at h39
      · refine Wp.skip ?_
        refine hK12 _ ?_
        clear hK12 K12
        refine Wp.seqK fun K14 hK14 => ?_
        refine rg ?_
        refine hK14 _ ?_
        clear hK14 K14
        refine Wp.ret (retV ?_)
        try simp only [List.getD_cons_zero, List.getD_cons_succ]
        try rfl
theorem lawJobVerdict_b (j : Jb) (hb : MBd j.m ∧ j.journal.size ≤ maxLen) : Val E.P 11 [.agg (jD j)] (T true) := by
  obtain ⟨⟨h1, h2, h3, h4, h5⟩, h6⟩ := hb
  unfold maxLen at *
  exact lawJobVerdict_c j (by omega) (by omega) (by omega) (by omega) (fun s hs => by have := h5 s hs; unfold maxLen at this; omega) (by omega)
end Go.Proofs.Ytlgjogfcpgfbnaa.RE
