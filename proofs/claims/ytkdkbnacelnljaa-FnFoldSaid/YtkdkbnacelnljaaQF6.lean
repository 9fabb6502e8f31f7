/- Who holds a quantifier. Conditions: those that a theorem names. -/
import Derived.Test.YtkdkbnacelnljaaQDQ
set_option linter.unusedVariables false
set_option linter.unusedSimpArgs false
namespace Go.Proofs.Ytkdkbnacelnljaa.RE
open Go Go.RowKit
set_option maxRecDepth 100000
set_option maxHeartbeats 8000000

def outQ (op : Int) : Bool := decide (op = 2) || (decide (op = 3) || (decide (op = 4) || isQ op))
def hasH (b : List Bool) (ps : List Int) : Bool := ps.any fun p => b.getD p.toNat false
def holdL (t : List Nd) : Nat → List Bool
  | 0 => []
  | x + 1 => holdL t x ++ [isQ (t.getD x default).op || hasH (holdL t x) (parts (t.getD x default))]
theorem holdL_len (t : List Nd) : ∀ x, (holdL t x).length = x
  | 0 => rfl
  | x + 1 => by simp [holdL, holdL_len t x]
theorem holdL_push (t : List Nd) (x : Nat) : holdL t x ++ [isQ (t.getD x default).op || hasH (holdL t x) (parts (t.getD x default))] = holdL t (x + 1) := rfl
theorem hasH_push {b : List Bool} {ps : List Int} {k : Nat} (h : k < ps.length) : hasH b (ps.take (k + 1)) = (hasH b (ps.take k) || b.getD (ps.getD k 0).toNat false) := by
  unfold hasH
  rw [take_push 0 h, List.any_append]; simp
attribute [go_sem] holdL_len
theorem l02Outer_c (op : Int) : Val E.P 96 [I op] (T (outQ op)) := by
  refine CallsA.body (E := E) (fn := Try.f96) Try.func96 rfl fun B hB => ?_
  simp only [Try.ntmps96, go_sem, nl, Nat.reduceSub, Nat.reduceAdd, List.reduceReplicate]
  refine Wp.seqK fun K1 hK1 => ?_
  refine rg ?_
  refine hK1 _ ?_
  clear hK1 K1
  refine Wp.seqK fun K2 hK2 => ?_
  refine rg ?_
  refine grdA_split rfl (fun g1_3 => ?_) (fun g1_3 => ?_)
  · try simp only [decide_eq_true_eq, decide_eq_false_iff_not] at g1_3
    try refine evd ?_
    refine hK2 _ ?_
    clear hK2 K2
    refine Wp.ret (retV ?_)
    try simp only [List.getD_cons_zero, List.getD_cons_succ]
    first | rfl | (simp [outQ, *])
  · try simp only [decide_eq_true_eq, decide_eq_false_iff_not] at g1_3
    try refine evd ?_
    refine grdA_split rfl (fun g1_7 => ?_) (fun g1_7 => ?_)
    · try simp only [decide_eq_true_eq, decide_eq_false_iff_not] at g1_7
      try refine evd ?_
      refine hK2 _ ?_
      clear hK2 K2
      refine Wp.ret (retV ?_)
      try simp only [List.getD_cons_zero, List.getD_cons_succ]
      first | rfl | (simp [outQ, *])
    · try simp only [decide_eq_true_eq, decide_eq_false_iff_not] at g1_7
      try refine evd ?_
      refine grdA_split rfl (fun g1_11 => ?_) (fun g1_11 => ?_)
      · try simp only [decide_eq_true_eq, decide_eq_false_iff_not] at g1_11
        try refine evd ?_
        refine hK2 _ ?_
        clear hK2 K2
        refine Wp.ret (retV ?_)
        try simp only [List.getD_cons_zero, List.getD_cons_succ]
        first | rfl | (simp [outQ, *])
      · try simp only [decide_eq_true_eq, decide_eq_false_iff_not] at g1_11
        try refine evd ?_
        refine ⟨rfl, CallK.valA (h := l02Quant_c _) (k := ?_)⟩
        refine evd ?_
        refine hK2 _ ?_
        clear hK2 K2
        refine Wp.ret (retV ?_)
        try simp only [List.getD_cons_zero, List.getD_cons_succ]
        first | rfl | (simp [outQ, *])
theorem l02Holder_c (t : List Nd) (hp : PartsOk t) (hl : t.length ≤ 1048576) : Row E.P 95 [dN t] 1 t.length ((holdL t t.length).map cb) := by
  refine CallsA.body (E := E) (fn := Try.f95) Try.func95 rfl fun B hB => ?_
  simp only [Try.ntmps95, go_sem, nl, Nat.reduceSub, Nat.reduceAdd, List.reduceReplicate]
  refine Wp.seqK fun K1 hK1 => ?_
  refine rg ?_
  refine hK1 _ ?_
  clear hK1 K1
  refine Wp.seqK fun K2 hK2 => ?_
  refine rg ?_
  refine hK2 _ ?_
  clear hK2 K2
  refine Wp.seqK fun K3 hK3 => ?_
  refine Wp.seqK fun K4 hK4 => ?_
  refine rg ?_
  refine hK4 _ ?_
  clear hK4 K4
  refine Wp.block ?_
  refine Wp.loopU (α := Nat) (fun x => [.k, .d, .d, .v (.l (.obj 0 x 1 0 x)), .v (I x), .d5, .d5, .d5, .d5, .d5, .d5, .d5, .d5, .d, .d]) (fun x => [some ⟨x, (holdL t x).map cb⟩]) (fun x => x ≤ t.length) (fun x => t.length - x) 0 (by omega) (anyS) ?_
  rintro x f5 K5 hx hK5
  simp only [updT_k, updT_d, updT_d5, updT_v, updT_nil, Nat.reduceAdd]
  have hhl := holdL_len t x
  refine Wp.seqK fun K6 hK6 => ?_
  refine Wp.seqK fun K7 hK7 => ?_
  refine rg ?_
  refine hK7 _ ?_
  clear hK7 K7
  refine Wp.condS (fun h12 => ?_) (fun h12 => ?_)
  · have hxl : x < t.length := by omega
    have hpp := hp x hxl
    have hpl := parts_len (t.getD x default)
    refine Wp.skip ?_
    refine hK6 _ ?_
    clear hK6 K6
    refine Wp.seqK fun K8 hK8 => ?_
    refine Wp.block ?_
    refine Wp.seqK fun K9 hK9 => ?_
    refine rg ?_
    refine ⟨rfl, CallK.valA (h := l02Quant_c _) (k := ?_)⟩
    refine evd ?_
    refine hK9 _ ?_
    clear hK9 K9
    refine Wp.seqK fun K10 hK10 => ?_
    refine rg ?_
    refine ⟨rfl, CallK.rowA (h := sParts_c _) (k := ?_)⟩
    refine evd ?_
    refine hK10 _ ?_
    clear hK10 K10
    refine Wp.seqK fun K11 hK11 => ?_
    refine Wp.seqK fun K12 hK12 => ?_
    refine rg ?_
    refine hK12 _ ?_
    clear hK12 K12
    refine Wp.block ?_
    refine Wp.loopU (α := Nat) (fun k => [.k, .d, .d, .k, .k, .v (T (isQ (t.getD x default).op || hasH (holdL t x) ((parts (t.getD x default)).take k))), .k, .v (I k), .d5, .d5, .d5, .d5, .d5, .d5, .d5, .d, .d, .d, .d]) (fun k => [some ⟨x, (holdL t x).map cb⟩, some ⟨0, (parts (t.getD x default)).map ci⟩]) (fun k => k ≤ (parts (t.getD x default)).length) (fun k => (parts (t.getD x default)).length - k) 0 (by omega) (anyS (h := by rw [List.take_zero]; simp only [hasH, List.any_nil, Bool.or_false] <;> rfl)) ?_
    rintro k f13 K13 hk hK13
    simp only [updT_k, updT_d, updT_d5, updT_v, updT_nil, Nat.reduceAdd]
    refine Wp.seqK fun K14 hK14 => ?_
    refine Wp.seqK fun K15 hK15 => ?_
    refine rg ?_
    refine hK15 _ ?_
    clear hK15 K15
    refine Wp.condS (fun h29 => ?_) (fun h29 => ?_)
    · have hkl : k < (parts (t.getD x default)).length := by omega
      have hpk := hpp ((parts (t.getD x default)).getD k 0) (by rw [← getD_at hkl]; exact List.getElem_mem hkl)
      refine Wp.skip ?_
      refine hK14 _ ?_
      clear hK14 K14
      refine Wp.seqU0 [.k, .d, .d, .k, .k, .v (T ((isQ (t.getD x default).op || hasH (holdL t x) ((parts (t.getD x default)).take k)) || (holdL t x).getD ((parts (t.getD x default)).getD k 0).toNat false)), .k, .k, .d5, .d5, .d5, .d5, .d5, .d5, .d5, .d, .d, .d, .d] (fun K16 hK16 => ?_) ?_
      · refine Wp.block ?_
        refine rg ?_
        refine grdA_split rfl (fun g10_2 => ?_) (fun g10_2 => ?_)
        · try simp only [decide_eq_true_eq, decide_eq_false_iff_not] at g10_2
          try refine evd ?_
          try simp only [thn, inB, if_true, reduceIte]
          exact hK16 _ (anyS (h := by first | rfl | (simp only [g10_2, Bool.true_or, Bool.or_true, Bool.false_or, Bool.or_false, Bool.true_and, Bool.and_true, Bool.false_and, Bool.and_false, Bool.not_true, Bool.not_false, decide_true, decide_false, eq_self, Int.reduceEq] <;> rfl)))
        · try simp only [decide_eq_true_eq, decide_eq_false_iff_not] at g10_2
          try refine evd ?_
          try simp only [thn, inB, if_true, reduceIte]
          exact hK16 _ (anyS (h := by first | rfl | (simp only [g10_2, Bool.true_or, Bool.or_true, Bool.false_or, Bool.or_false, Bool.true_and, Bool.and_true, Bool.false_and, Bool.and_false, Bool.not_true, Bool.not_false, decide_true, decide_false, eq_self, Int.reduceEq] <;> rfl)))
      rintro f16
      simp only [updT_k, updT_d, updT_d5, updT_v, updT_nil, Nat.reduceAdd]
      refine rg ?_
      exact hK13 (k + 1) _ (by omega) (by omega) (anyS (h := by rw [hasH_push hkl] <;> simp only [Bool.or_assoc] <;> rfl))
    · have hkl : k = (parts (t.getD x default)).length := by omega
      subst hkl
      simp only [List.take_length]
      refine Wp.exit ?_
      try simp only [thn, inB, if_true, reduceIte]
      clear hK14 K14
      clear hK13 K13
      refine hK11 _ ?_
      clear hK11 K11
      refine rg ?_
      try simp only [thn, inB, if_true, reduceIte]
      refine hK8 _ ?_
      clear hK8 K8
      refine Wp.keep 1 (by simp [hB]) (by simp) ?_
      refine evd ?_
      refine rg ?_
      exact hK5 (x + 1) _ (by omega) (by omega) (anyS (ho := by rw [← holdL_push] <;> rfl))
  · have hxl : x = t.length := by omega
    subst hxl
    refine Wp.exit ?_
    try simp only [thn, inB, if_true, reduceIte]
    clear hK6 K6
    clear hK5 K5
    refine hK3 _ ?_
    clear hK3 K3
    refine Wp.seqK fun K17 hK17 => ?_
    refine rg ?_
    refine hK17 _ ?_
    clear hK17 K17
    refine Wp.ret (retR ?_ ?_ ?_)
    · rfl
    · rfl
    · exact flatB _
end Go.Proofs.Ytkdkbnacelnljaa.RE
