/- Who holds a quantifier. Conditions: those that a theorem names. -/
import Derived.Test.YtkdkbnacelnljaaGreatNDQ
import Derived.Test.YtkdkbnacelnljaaGreatNCX
set_option linter.unusedVariables false
set_option linter.unusedSimpArgs false
namespace Go.Proofs.YtkdkbnacelnljaaGreat.RE
open Go Go.RowKit
set_option maxRecDepth 100000
set_option maxHeartbeats 8000000

def outQ (op : Int) : Bool := decide (op = 2) || (decide (op = 3) || (decide (op = 4) || isQ op))
def hasH (b : List Bool) (ps : List Int) : Bool := ps.any fun p => b.getD p.toNat false
def holdL (t : List Nd) : Nat → List Bool
  | 0 => []
  | x + 1 => holdL t x ++ [isQ (t.getD x default).op || hasH (holdL t x) (parts (t.getD x default))]
theorem holdL_len (t : List Nd) : ∀ x, (holdL t x).length = x
  | 0 => rfl
  | x + 1 => by simp [holdL, holdL_len t x]
theorem holdL_push (t : List Nd) (x : Nat) : holdL t x ++ [isQ (t.getD x default).op || hasH (holdL t x) (parts (t.getD x default))] = holdL t (x + 1) := rfl
theorem hasH_push {b : List Bool} {ps : List Int} {k : Nat} (h : k < ps.length) : hasH b (ps.take (k + 1)) = (hasH b (ps.take k) || b.getD (ps.getD k 0).toNat false) := by
  unfold hasH
  rw [take_push 0 h, List.any_append]; simp
attribute [go_sem] holdL_len
theorem l02Outer_c (op : Int) : Val E.P 73 [I op] (T (outQ op)) := by
  refine CallsA.body (E := E) (fn := Tryz.f73) Tryz.func73 rfl fun B hB => ?_
  simp only [Tryz.ntmps73, go_sem, nl, Nat.reduceSub, Nat.reduceAdd, List.reduceReplicate]
  refine Wp.seqK fun K1 hK1 => ?_
  refine rg ?_
  refine hK1 _ ?_
  clear hK1 K1
  refine Wp.seqK fun K2 hK2 => ?_
  refine rg ?_
  refine grdA_split rfl (fun g1_3 => ?_) (fun g1_3 => ?_)
  · try simp only [decide_eq_true_eq, decide_eq_false_iff_not] at g1_3
    try refine evd ?_
    refine hK2 _ ?_
    clear hK2 K2
    refine Wp.ret (retV ?_)
    try simp only [List.getD_cons_zero, List.getD_cons_succ]
    first | rfl | (simp [outQ, *])
  · try simp only [decide_eq_true_eq, decide_eq_false_iff_not] at g1_3
    try refine evd ?_
    refine grdA_split rfl (fun g1_7 => ?_) (fun g1_7 => ?_)
    · try simp only [decide_eq_true_eq, decide_eq_false_iff_not] at g1_7
      try refine evd ?_
      refine hK2 _ ?_
      clear hK2 K2
      refine Wp.ret (retV ?_)
      try simp only [List.getD_cons_zero, List.getD_cons_succ]
      first | rfl | (simp [outQ, *])
    · try simp only [decide_eq_true_eq, decide_eq_false_iff_not] at g1_7
      try refine evd ?_
      refine grdA_split rfl (fun g1_11 => ?_) (fun g1_11 => ?_)
      · try simp only [decide_eq_true_eq, decide_eq_false_iff_not] at g1_11
        try refine evd ?_
        refine hK2 _ ?_
        clear hK2 K2
        refine Wp.ret (retV ?_)
        try simp only [List.getD_cons_zero, List.getD_cons_succ]
        first | rfl | (simp [outQ, *])
      · try simp only [decide_eq_true_eq, decide_eq_false_iff_not] at g1_11
        try refine evd ?_
        refine ⟨rfl, CallK.valA (h := l02Quant_c _) (k := ?_)⟩
        refine evd ?_
        refine hK2 _ ?_
        clear hK2 K2
        refine Wp.ret (retV ?_)
        try simp only [List.getD_cons_zero, List.getD_cons_succ]
        first | rfl | (simp [outQ, *])
theorem l02Holder_c (t : List Nd) (hp : PartsOk t) (hl : t.length ≤ 1048576) : Row E.P 71 [dN t] 1 t.length ((holdL t t.length).map cb) := by
  refine CallsA.body (E := E) (fn := Tryz.f71) Tryz.func71 rfl fun B hB => ?_
  simp only [Tryz.ntmps71, go_sem, nl, Nat.reduceSub, Nat.reduceAdd, List.reduceReplicate]
  refine Wp.seqK fun K1 hK1 => ?_
  refine rg ?_
  refine hK1 _ ?_
  clear hK1 K1
  refine Wp.seqK fun K2 hK2 => ?_
  refine rg ?_
  refine hK2 _ ?_
  clear hK2 K2
  refine Wp.seqK fun K3 hK3 => ?_
  refine Wp.seqK fun K4 hK4 => ?_
  refine rg ?_
  refine hK4 _ ?_
  clear hK4 K4
  refine Wp.block ?_
  refine Wp.loopU (α := Nat) (fun x => [.k, .d, .d, .v (.l (.obj 0 x 1 0 x)), .v (I x), .d5, .d5, .d5, .d5, .d5, .d5, .d5, .d5, .d, .d]) (fun x => [some ⟨x, (holdL t x).map cb⟩]) (fun x => x ≤ t.length) (fun x => t.length - x) 0 (by omega) (anyS) ?_
  rintro x f5 K5 hx hK5
  simp only [updT_k, updT_d, updT_d5, updT_v, updT_nil, Nat.reduceAdd]
  have hhl := holdL_len t x
  refine Wp.seqK fun K6 hK6 => ?_
  refine Wp.seqK fun K7 hK7 => ?_
  refine rg ?_
  refine hK7 _ ?_
  clear hK7 K7
  refine Wp.condS (fun h12 => ?_) (fun h12 => ?_)
  · have hxl : x < t.length := by omega
    have hpp := hp x hxl
    have hpl := parts_len (t.getD x default)
    refine Wp.skip ?_
    refine hK6 _ ?_
    clear hK6 K6
    refine Wp.seqK fun K8 hK8 => ?_
    refine Wp.block ?_
    refine Wp.seqK fun K9 hK9 => ?_
    refine rg ?_
    refine ⟨rfl, CallK.valA (h := l02Quant_c _) (k := ?_)⟩
    refine evd ?_
    refine hK9 _ ?_
    clear hK9 K9
    refine Wp.seqK fun K10 hK10 => ?_
    refine rg ?_
    refine ⟨rfl, CallK.rowA (h := sParts_c _) (k := ?_)⟩
    refine evd ?_
    refine hK10 _ ?_
    clear hK10 K10
    refine Wp.seqK fun K11 hK11 => ?_
    refine Wp.seqK fun K12 hK12 => ?_
    refine rg ?_
    refine hK12 _ ?_
    clear hK12 K12
    refine Wp.block ?_
    refine Wp.loopU (α := Nat) (fun k => [.k, .d, .d, .k, .k, .v (T (isQ (t.getD x default).op || hasH (holdL t x) ((parts (t.getD x default)).take k))), .k, .v (I k), .d5, .d5, .d5, .d5, .d5, .d5, .d5, .d, .d, .d, .d]) (fun k => [some ⟨x, (holdL t x).map cb⟩, some ⟨0, (parts (t.getD x default)).map ci⟩]) (fun k => k ≤ (parts (t.getD x default)).length) (fun k => (parts (t.getD x default)).length - k) 0 (by omega) (anyS (h := by rw [List.take_zero]; simp only [hasH, List.any_nil, Bool.or_false] <;> rfl)) ?_
    rintro k f13 K13 hk hK13
    simp only [updT_k, updT_d, updT_d5, updT_v, updT_nil, Nat.reduceAdd]
    refine Wp.seqK fun K14 hK14 => ?_
    refine Wp.seqK fun K15 hK15 => ?_
    refine rg ?_
    refine hK15 _ ?_
    clear hK15 K15
    refine Wp.condS (fun h29 => ?_) (fun h29 => ?_)
    · have hkl : k < (parts (t.getD x default)).length := by omega
      have hpk := hpp ((parts (t.getD x default)).getD k 0) (by rw [← getD_at hkl]; exact List.getElem_mem hkl)
      refine Wp.skip ?_
      refine hK14 _ ?_
      clear hK14 K14
      refine Wp.seqU0 [.k, .d, .d, .k, .k, .v (T ((isQ (t.getD x default).op || hasH (holdL t x) ((parts (t.getD x default)).take k)) || (holdL t x).getD ((parts (t.getD x default)).getD k 0).toNat false)), .k, .k, .d5, .d5, .d5, .d5, .d5, .d5, .d5, .d, .d, .d, .d] (fun K16 hK16 => ?_) ?_
      · refine Wp.block ?_
        refine rg ?_
        refine grdA_split rfl (fun g10_2 => ?_) (fun g10_2 => ?_)
        · try simp only [decide_eq_true_eq, decide_eq_false_iff_not] at g10_2
          try refine evd ?_
          try simp only [thn, inB, if_true, reduceIte]
          exact hK16 _ (anyS (h := by first | rfl | (simp only [g10_2, Bool.true_or, Bool.or_true, Bool.false_or, Bool.or_false, Bool.true_and, Bool.and_true, Bool.false_and, Bool.and_false, Bool.not_true, Bool.not_false, decide_true, decide_false, eq_self, Int.reduceEq] <;> rfl)))
        · try simp only [decide_eq_true_eq, decide_eq_false_iff_not] at g10_2
          try refine evd ?_
          try simp only [thn, inB, if_true, reduceIte]
          exact hK16 _ (anyS (h := by first | rfl | (simp only [g10_2, Bool.true_or, Bool.or_true, Bool.false_or, Bool.or_false, Bool.true_and, Bool.and_true, Bool.false_and, Bool.and_false, Bool.not_true, Bool.not_false, decide_true, decide_false, eq_self, Int.reduceEq] <;> rfl)))
      rintro f16
      simp only [updT_k, updT_d, updT_d5, updT_v, updT_nil, Nat.reduceAdd]
      refine rg ?_
      exact hK13 (k + 1) _ (by omega) (by omega) (anyS (h := by rw [hasH_push hkl] <;> simp only [Bool.or_assoc] <;> rfl))
    · have hkl : k = (parts (t.getD x default)).length := by omega
      subst hkl
      simp only [List.take_length]
      refine Wp.exit ?_
      try simp only [thn, inB, if_true, reduceIte]
      clear hK14 K14
      clear hK13 K13
      refine hK11 _ ?_
      clear hK11 K11
      refine rg ?_
      try simp only [thn, inB, if_true, reduceIte]
      refine hK8 _ ?_
      clear hK8 K8
      refine Wp.keep 1 (by simp [hB]) (by simp) ?_
      refine evd ?_
      refine rg ?_
      exact hK5 (x + 1) _ (by omega) (by omega) (anyS (ho := by rw [← holdL_push] <;> rfl))
  · have hxl : x = t.length := by omega
    subst hxl
    refine Wp.exit ?_
    try simp only [thn, inB, if_true, reduceIte]
    clear hK6 K6
    clear hK5 K5
    refine hK3 _ ?_
    clear hK3 K3
    refine Wp.seqK fun K17 hK17 => ?_
    refine rg ?_
    refine hK17 _ ?_
    clear hK17 K17
    refine Wp.ret (retR ?_ ?_ ?_)
    · rfl
    · rfl
    · exact flatB _
end Go.Proofs.YtkdkbnacelnljaaGreat.RE

/-! Sentences, the reference. Conditions: those that a theorem names. -/
set_option linter.unusedVariables false
set_option linter.unusedSimpArgs false
namespace Go.Proofs.YtkdkbnacelnljaaGreat.RE
open Go Go.RowKit
set_option maxRecDepth 100000
set_option maxHeartbeats 8000000

def wN (t : List Nd) : Nat → List Int
  | 0 => List.replicate 8 0
  | x + 1 => if ((reachT t).getD x false && isQ (t.getD x default).op) = true then (wN t x).set (t.getD x default).k.toNat (t.getD x default).b else wN t x
def twice (t : List Nd) (x : Nat) : Bool := ((reachT t).getD x false && isQ (t.getD x default).op) && !decide ((wN t x).getD (t.getD x default).k.toNat 0 = 0)
def badB (t : List Nd) (x : Nat) : Bool := (reachT t).getD x false && ((decide ((t.getD x default).op = 1) && !decide ((wN t t.length).getD (t.getD x default).k.toNat 0 = (t.getD x default).w)) || ((holdL t t.length).getD x false && !outQ (t.getD x default).op))
def badX (t : List Nd) (x : Nat) : Bool := (decide ((t.getD x default).op = 1) && !decide ((wN t t.length).getD (t.getD x default).k.toNat 0 = (t.getD x default).w)) || ((holdL t t.length).getD x false && !outQ (t.getD x default).op)
theorem badB_x {t : List Nd} {x : Nat} (h : (reachT t).getD x false = true) : badB t x = badX t x := by unfold badB badX; rw [h, Bool.true_and]
def uadd (u ps : List Int) : List Int := ps.foldl (fun u p => u.set p.toNat (u.getD p.toNat 0 + 1)) u
def uN (t : List Nd) : Nat → List Int
  | 0 => List.replicate t.length 0
  | x + 1 => if (reachT t).getD x false = true then uadd (uN t x) (parts (t.getD x default)) else uN t x
def badC (t : List Nd) (x : Nat) : Bool := ((reachT t).getD x false && (holdL t t.length).getD x false) && decide (1 < (uN t t.length).getD x 0)
def sentA (t : List Nd) : Bool := (okT t && decide ((t.getD (t.length - 1) default).w = 1)) && !decide (0 < (freeL t).length)
def sentT (t : List Nd) : Bool := sentA t && !(List.range t.length).any (twice t) && !(List.range t.length).any (badB t) && !(List.range t.length).any (badC t)
theorem any_at {n x : Nat} {f : Nat → Bool} (hx : x < n) (h : f x = true) : (List.range n).any f = true := List.any_eq_true.2 ⟨x, by simpa using hx, h⟩
theorem any_none {n : Nat} {f : Nat → Bool} (h : ∀ j, j < n → f j = false) : (List.range n).any f = false := by
  rw [List.any_eq_false]
  intro x hx
  rw [h x (by simpa using hx)]; decide
theorem sent_1 {t : List Nd} {x : Nat} (hx : x < t.length) (h : twice t x = true) : sentT t = false := by
  unfold sentT; rw [any_at hx h]; simp
theorem sent_2 {t : List Nd} {x : Nat} (hx : x < t.length) (h : badB t x = true) : sentT t = false := by
  unfold sentT; rw [any_at hx h]; simp
theorem sent_3 {t : List Nd} {x : Nat} (hx : x < t.length) (h : badC t x = true) : sentT t = false := by
  unfold sentT; rw [any_at hx h]; simp
theorem sent_y {t : List Nd} (h0 : sentA t = true) (h1 : ∀ j, j < t.length → twice t j = false) (h2 : ∀ j, j < t.length → badB t j = false) (h3 : ∀ j, j < t.length → badC t j = false) : sentT t = true := by
  unfold sentT; rw [h0, any_none h1, any_none h2, any_none h3]; rfl
theorem wN_len (t : List Nd) : ∀ x, (wN t x).length = 8
  | 0 => rfl
  | x + 1 => by
    simp only [wN]
    split
    · rw [List.length_set, wN_len t x]
    · exact wN_len t x
theorem wN_yes {t : List Nd} {x : Nat} (h1 : (reachT t).getD x false = true) (h2 : isQ (t.getD x default).op = true) : wN t (x + 1) = (wN t x).set (t.getD x default).k.toNat (t.getD x default).b := by
  simp only [wN]; rw [if_pos (by rw [h1, h2]; rfl)]
theorem wN_no {t : List Nd} {x : Nat} (h : ((reachT t).getD x false && isQ (t.getD x default).op) = false) : wN t (x + 1) = wN t x := by
  simp only [wN]; rw [if_neg (by rw [h]; decide)]
theorem uadd_len : ∀ (ps u : List Int), (uadd u ps).length = u.length
  | [], _ => rfl
  | p :: ps, u => by
    show (uadd (u.set p.toNat (u.getD p.toNat 0 + 1)) ps).length = _
    rw [uadd_len ps, List.length_set]
theorem uadd_push {u ps : List Int} {k : Nat} (h : k < ps.length) : uadd u (ps.take (k + 1)) = (uadd u (ps.take k)).set (ps.getD k 0).toNat ((uadd u (ps.take k)).getD (ps.getD k 0).toNat 0 + 1) := by
  unfold uadd
  rw [take_push 0 h, List.foldl_append]; rfl
def uB (u : List Int) (c : Int) : Prop := ∀ i, 0 ≤ u.getD i 0 ∧ u.getD i 0 ≤ c
theorem uB_set {u : List Int} {c : Int} (h : uB u c) (p : Nat) : uB (u.set p (u.getD p 0 + 1)) (c + 1) := by
  intro i
  have h1 := h i
  have h2 := h p
  simp only [List.getD_eq_getElem?_getD, List.getElem?_set] at *
  split
  · split
    · simp only [Option.getD_some]; omega
    · simp only [Option.getD_none]; omega
  · omega
theorem uadd_b : ∀ (ps u : List Int) (c : Int), uB u c → uB (uadd u ps) (c + ps.length)
  | [], u, c, h => by intro i; have := h i; show _ ∧ (uadd u []).getD i 0 ≤ _; simpa [uadd] using this
  | p :: ps, u, c, h => by
    have := uadd_b ps _ _ (uB_set h p.toNat)
    intro i
    have hi := this i
    show 0 ≤ (uadd (u.set p.toNat (u.getD p.toNat 0 + 1)) ps).getD i 0 ∧ (uadd (u.set p.toNat (u.getD p.toNat 0 + 1)) ps).getD i 0 ≤ _
    simp only [List.length_cons]
    omega
theorem uN_len (t : List Nd) : ∀ x, (uN t x).length = t.length
  | 0 => by simp [uN]
  | x + 1 => by
    simp only [uN]
    split
    · rw [uadd_len, uN_len t x]
    · exact uN_len t x
theorem uN_b (t : List Nd) : ∀ x, uB (uN t x) (3 * (x : Int))
  | 0 => by
    intro i
    simp only [uN, List.getD_eq_getElem?_getD, List.getElem?_replicate]
    split <;> simp
  | x + 1 => by
    have ih := uN_b t x
    have hp := parts_len (t.getD x default)
    simp only [uN]
    intro i
    split
    · have := uadd_b (parts (t.getD x default)) _ _ ih i
      omega
    · have := ih i
      omega
theorem uN_yes {t : List Nd} {x : Nat} (h : (reachT t).getD x false = true) : uN t (x + 1) = uadd (uN t x) (parts (t.getD x default)) := by
  simp only [uN]; rw [if_pos h]
theorem uN_no {t : List Nd} {x : Nat} (h : (reachT t).getD x false = false) : uN t (x + 1) = uN t x := by
  simp only [uN]; rw [if_neg (by rw [h]; decide)]
theorem ub_next {f : Nat → Bool} {x : Nat} (hb : ∀ j, j < x → f j = false) (h : f x = false) : ∀ j, j < x + 1 → f j = false := fun j hj => by
  rcases Nat.lt_succ_iff_lt_or_eq.1 hj with h1 | h1
  · exact hb j h1
  · rw [h1]; exact h
theorem repZ (x : Nat) : (List.replicate x (0 : Int)) ++ [0] = List.replicate (x + 1) 0 := by rw [List.replicate_succ']
attribute [go_sem] repZ List.length_replicate
theorem okT_qb {t : List Nd} (h : okT t = true) {i : Nat} (hi : i < t.length) (hq : isQ (t.getD i default).op = true) : 1 ≤ (t.getD i default).b ∧ (t.getD i default).b ≤ 8 := by
  have hs := okT_at h hi
  simp only [sRight, Bool.and_eq_true] at hs
  have hr := hs.2.2
  simp only [isQ, Bool.or_eq_true, decide_eq_true_eq] at hq
  rw [rule_q hq] at hr
  simp only [Bool.and_eq_true, decide_eq_true_eq] at hr
  omega
theorem named_1 {n : Nd} (h : n.op = 1) : named n = true := by unfold named; rw [decide_eq_true h]; rfl
theorem named_q {n : Nd} (h : isQ n.op = true) : named n = true := by unfold named; rw [h]; simp
theorem sSentence_c (t : List Nd) : Val E.P 40 [dN t] (T (sentT t)) := by
  refine CallsA.body (E := E) (fn := Tryz.f40) Tryz.func40 rfl fun B hB => ?_
  simp only [Tryz.ntmps40, go_sem, nl, Nat.reduceSub, Nat.reduceAdd, List.reduceReplicate]
  refine Wp.seqK fun K1 hK1 => ?_
  refine rg ?_
  refine hK1 _ ?_
  clear hK1 K1
  refine Wp.seqK fun K2 hK2 => ?_
  refine Wp.seqU (α := Obs) (fun o => [.k, .d5, .d5, .d5, .d5, .d5, .d5, .d, .v (T (!sentA t)), .d5, .d5, .d5, .d5, .d5, .d5, .d5, .d5, .d5, .d5, .d5, .d5, .d5, .d5, .d5, .d5, .d5, .d5, .d5, .d5, .d5, .d5, .d5, .d5, .d5, .d5, .d5, .d5, .d5, .d5, .d5, .d, .d]) (fun o => o) (fun o => True) (fun K3 hK3 => ?_) ?_
  · refine rg ?_
    refine ⟨rfl, CallK.valA (h := sTermOk_c _) (k := ?_)⟩
    refine evd ?_
    refine grdA_split rfl (fun g1_4 => ?_) (fun g1_4 => ?_)
    · try simp only [decide_eq_true_eq, decide_eq_false_iff_not] at g1_4
      try refine evd ?_
      have e : sentA t = false := by unfold sentA; rw [nT g1_4]; rfl
      exact hK3 [] _ trivial (anyS (h := by rw [e] <;> rfl))
    · try simp only [decide_eq_true_eq, decide_eq_false_iff_not] at g1_4
      have hok := nF g1_4
      have hl := okT_len hok
      try refine evd ?_
      refine grdA_split rfl (fun g1_14 => ?_) (fun g1_14 => ?_)
      · try simp only [decide_eq_true_eq, decide_eq_false_iff_not] at g1_14
        try refine evd ?_
        have ei : ((t.length : Int) - 1).toNat = t.length - 1 := by omega
        rw [ei] at g1_14
        have e : sentA t = false := by unfold sentA; rw [hok, nT g1_14]; rfl
        exact hK3 [] _ trivial (anyS (h := by rw [e] <;> rfl))
      · try simp only [decide_eq_true_eq, decide_eq_false_iff_not] at g1_14
        try refine evd ?_
        refine ⟨rfl, CallK.rowA (h := sFree_c _) (k := ?_)⟩
        refine evd ?_
        have ei : ((t.length : Int) - 1).toNat = t.length - 1 := by omega
        rw [ei] at g1_14
        have e : sentA t = (!decide (0 < (freeL t).length)) := by unfold sentA; rw [hok, nF g1_14]; rfl
        exact hK3 [some ⟨0, (freeL t).map ci⟩] _ trivial (anyS (h := by rw [e, Bool.not_not] <;> first | rfl | (simp only [Int.natCast_pos] <;> rfl)))
  rintro o f3 _
  simp only [updT_k, updT_d, updT_d5, updT_v, updT_nil, Nat.reduceAdd]
  refine Wp.condS (fun h32 => ?_) (fun h32 => ?_)
  · have hs : sentT t = false := by unfold sentT; rw [h32]; rfl
    refine Wp.seqK fun K4 hK4 => ?_
    refine Wp.keep 0 (by simp [hB]) (by simp) ?_
    refine evd ?_
    refine rg ?_
    refine hK4 _ ?_
    clear hK4 K4
    refine Wp.ret (retV ?_)
    try simp only [List.getD_cons_zero, List.getD_cons_succ]
    rw [hs]
  · have hsa := h32
    have hok : okT t = true := by
      simp only [sentA, Bool.and_eq_true] at hsa
      exact hsa.1.1
    have hl := okT_len hok
    have hpo := okT_parts hok
    have hno := okT_nums hok
    have hrl := reachT_len t
    have hhl := holdL_len t t.length
    refine Wp.skip ?_
    refine hK2 _ ?_
    clear hK2 K2
    refine Wp.seqK fun K5 hK5 => ?_
    refine Wp.keep 0 (by simp [hB]) (by simp) ?_
    refine evd ?_
    refine rg ?_
    refine ⟨rfl, CallK.rowA (h := l02Reach_c _ (by assumption) (by omega)) (k := ?_)⟩
    refine evd ?_
    refine ⟨rfl, CallK.rowA (h := l02Holder_c _ hpo (by omega)) (k := ?_)⟩
    refine evd ?_
    refine hK5 _ ?_
    clear hK5 K5
    refine Wp.seqK fun K6 hK6 => ?_
    refine rg ?_
    refine hK6 _ ?_
    clear hK6 K6
    refine Wp.seqK fun K7 hK7 => ?_
    refine Wp.seqK fun K8 hK8 => ?_
    refine rg ?_
    refine hK8 _ ?_
    clear hK8 K8
    refine Wp.block ?_
    refine Wp.loopU (α := Nat) (fun x => [.k, .d, .d, .k, .k, .v (.l (.obj 2 x 1 0 x)), .v (I x), .d5, .d5, .d5, .d5, .d5, .d5, .d5, .d5, .d5, .d5, .d5, .d5, .d5, .d5, .d5, .d5, .d5, .d5, .d5, .d5, .d5, .d5, .d5, .d5, .d5, .d5, .d5, .d5, .d5, .d5, .d5, .d5, .d5, .d5, .d5, .d5, .d, .d, .d]) (fun x => [some ⟨0, (reachT t).map cb⟩, some ⟨0, (holdL t t.length).map cb⟩, some ⟨x, (List.replicate x 0).map ci⟩]) (fun x => x ≤ 8) (fun x => 8 - x) 0 (by omega) (anyS) ?_
    rintro x f9 K9 hx hK9
    simp only [updT_k, updT_d, updT_d5, updT_v, updT_nil, Nat.reduceAdd]
    refine Wp.seqK fun K10 hK10 => ?_
    refine Wp.seqK fun K11 hK11 => ?_
    refine rg ?_
    refine hK11 _ ?_
    clear hK11 K11
    refine Wp.condS (fun h39 => ?_) (fun h39 => ?_)
    · refine Wp.skip ?_
      refine hK10 _ ?_
      clear hK10 K10
      refine Wp.seqK fun K12 hK12 => ?_
      refine Wp.block ?_
      refine rg ?_
      try simp only [thn, inB, if_true, reduceIte]
      refine hK12 _ ?_
      clear hK12 K12
      refine Wp.keep 3 (by simp [hB]) (by simp) ?_
      refine evd ?_
      refine rg ?_
      refine hK9 (x + 1) _ ?_ ?_ anyS <;> omega
    · have hx8 : x = 8 := by omega
      subst hx8
      refine Wp.exit ?_
      try simp only [thn, inB, if_true, reduceIte]
      clear hK10 K10
      clear hK9 K9
      refine hK7 _ ?_
      clear hK7 K7
      refine Wp.seqK fun K13 hK13 => ?_
      refine Wp.seqK fun K14 hK14 => ?_
      refine rg ?_
      refine hK14 _ ?_
      clear hK14 K14
      refine Wp.block ?_
      refine Wp.loopU (α := Nat) (fun x => [.k, .d, .d, .k, .k, .k, .d, .v (I x), .d5, .d5, .d5, .d5, .d5, .d5, .d5, .d5, .d5, .d5, .d5, .d5, .d5, .d5, .d5, .d5, .d5, .d5, .d5, .d5, .d5, .d5, .d5, .d5, .d5, .d5, .d5, .d5, .d5, .d5, .d5, .d5, .d5, .d5, .d5, .d5, .d, .d]) (fun x => [some ⟨0, (reachT t).map cb⟩, some ⟨0, (holdL t t.length).map cb⟩, some ⟨8, (wN t x).map ci⟩]) (fun x => x ≤ t.length ∧ (∀ j, j < x → twice t j = false)) (fun x => t.length - x) 0 (⟨Nat.zero_le _, fun j h => absurd h (Nat.not_lt_zero j)⟩) (anyS) ?_
      rintro x f15 K15 ⟨hx, htb⟩ hK15
      simp only [updT_k, updT_d, updT_d5, updT_v, updT_nil, Nat.reduceAdd]
      have hwl := wN_len t x
      refine Wp.seqK fun K16 hK16 => ?_
      refine Wp.seqK fun K17 hK17 => ?_
      refine rg ?_
      refine hK17 _ ?_
      clear hK17 K17
      refine Wp.condS (fun h48 => ?_) (fun h48 => ?_)
      · have hxl : x < t.length := by omega
        refine Wp.skip ?_
        refine hK16 _ ?_
        clear hK16 K16
        refine Wp.seqU (α := Unit) (fun u => [.k, .d, .d, .k, .k, .k, .d, .k, .d5, .d5, .d5, .d5, .d5, .d5, .d5, .d5, .d5, .d5, .d5, .d5, .d5, .d5, .d5, .d5, .d5, .d5, .d5, .d5, .d5, .d5, .d5, .d5, .d5, .d5, .d5, .d5, .d5, .d5, .d5, .d5, .d5, .d5, .d5, .d5, .d, .d]) (fun u => [some ⟨0, (reachT t).map cb⟩, some ⟨0, (holdL t t.length).map cb⟩, some ⟨8, (wN t (x + 1)).map ci⟩]) (fun u => twice t x = false) (fun K18 hK18 => ?_) ?_
        · refine Wp.block ?_
          refine Wp.seqU0 [.k, .d, .d, .k, .k, .k, .d, .k, .d5, .d5, .d5, .d5, .d5, .d5, .d5, .d5, .d5, .d5, .d, .d, .d, .d, .v (T (((reachT t).getD x false) && isQ (t.getD x default).op)), .d5, .d5, .d5, .d5, .d5, .d5, .d5, .d5, .d5, .d5, .d5, .d5, .d5, .d5, .d5, .d5, .d5, .d5, .d5, .d5, .d5, .d5, .d5, .d5, .d5, .d, .d] (fun K19 hK19 => ?_) ?_
          · refine rg ?_
            refine grdA_split rfl (fun g12_5 => ?_) (fun g12_5 => ?_)
            · try simp only [decide_eq_true_eq, decide_eq_false_iff_not] at g12_5
              try refine evd ?_
              refine ⟨rfl, CallK.valA (h := l02Quant_c _) (k := ?_)⟩
              refine evd ?_
              exact hK19 _ (anyS (h := by first | rfl | (simp only [g12_5, Bool.true_or, Bool.or_true, Bool.false_or, Bool.or_false, Bool.true_and, Bool.and_true, Bool.false_and, Bool.and_false, Bool.not_true, Bool.not_false, decide_true, decide_false, eq_self, Int.reduceEq] <;> rfl)))
            · try simp only [decide_eq_true_eq, decide_eq_false_iff_not] at g12_5
              try refine evd ?_
              exact hK19 _ (anyS (h := by first | rfl | (simp only [g12_5, Bool.true_or, Bool.or_true, Bool.false_or, Bool.or_false, Bool.true_and, Bool.and_true, Bool.false_and, Bool.and_false, Bool.not_true, Bool.not_false, decide_true, decide_false, eq_self, Int.reduceEq] <;> rfl)))
          rintro f19
          simp only [updT_k, updT_d, updT_d5, updT_v, updT_nil, Nat.reduceAdd]
          refine Wp.condS (fun h62 => ?_) (fun h62 => ?_)
          · have hkk := hno x hxl (named_q h62.2)
            have hqb := okT_qb hok hxl h62.2
            refine Wp.seqK fun K20 hK20 => ?_
            refine Wp.seqK fun K21 hK21 => ?_
            refine rg ?_
            refine hK21 _ ?_
            clear hK21 K21
            refine Wp.condS (fun h71 => ?_) (fun h71 => ?_)
            · have hs := sent_1 hxl (by unfold twice; rw [h62.1, h62.2, decide_eq_false h71]; rfl)
              refine Wp.seqK fun K22 hK22 => ?_
              refine rg ?_
              refine hK22 _ ?_
              clear hK22 K22
              refine Wp.ret (retV ?_)
              try simp only [List.getD_cons_zero, List.getD_cons_succ]
              rw [hs]
            · have htw : twice t x = false := by unfold twice; rw [decide_eq_true h71]; simp
              refine Wp.skip ?_
              refine hK20 _ ?_
              clear hK20 K20
              refine Wp.drawI [0, 1, 2] [] (by kernel_rfl) ?_
              refine evd ?_
              try simp only [thn, inB, if_true, reduceIte]
              exact hK18 () _ htw (anyS (ho := by rw [wN_yes h62.1 h62.2] <;> rfl))
          · have htw : twice t x = false := by unfold twice; rw [h62]; rfl
            refine Wp.skip ?_
            try simp only [thn, inB, if_true, reduceIte]
            exact hK18 () _ htw (anyS (ho := by rw [wN_no h62] <;> rfl))
        rintro _ f18 htw
        simp only [updT_k, updT_d, updT_d5, updT_v, updT_nil, Nat.reduceAdd]
        refine rg ?_
        exact hK15 (x + 1) _ ⟨by omega, ub_next htb htw⟩ (by omega) anyS
      · have hxl : x = t.length := by omega
        subst hxl
        refine Wp.exit ?_
        try simp only [thn, inB, if_true, reduceIte]
        clear hK16 K16
        clear hK15 K15
        refine hK13 _ ?_
        clear hK13 K13
        refine Wp.seqK fun K23 hK23 => ?_
        refine rg ?_
        refine hK23 _ ?_
        clear hK23 K23
        refine Wp.seqK fun K24 hK24 => ?_
        refine Wp.seqK fun K25 hK25 => ?_
        refine rg ?_
        refine hK25 _ ?_
        clear hK25 K25
        refine Wp.block ?_
        refine Wp.loopU (α := Nat) (fun x => [.k, .d, .d, .k, .k, .k, .d, .d, .v (.l (.obj 3 x 1 0 x)), .v (I x), .d5, .d5, .d5, .d5, .d5, .d5, .d5, .d5, .d5, .d5, .d5, .d5, .d5, .d5, .d5, .d5, .d5, .d5, .d5, .d5, .d5, .d5, .d5, .d5, .d5, .d5, .d5, .d5, .d5, .d5, .d5, .d5, .d5, .d5, .d5, .d5]) (fun x => [some ⟨0, (reachT t).map cb⟩, some ⟨0, (holdL t t.length).map cb⟩, some ⟨8, (wN t t.length).map ci⟩, some ⟨x, (List.replicate x 0).map ci⟩]) (fun x => x ≤ t.length) (fun x => t.length - x) 0 (by omega) (anyS) ?_
        rintro x f26 K26 hx hK26
        simp only [updT_k, updT_d, updT_d5, updT_v, updT_nil, Nat.reduceAdd]
        refine Wp.seqK fun K27 hK27 => ?_
        refine Wp.seqK fun K28 hK28 => ?_
        refine rg ?_
        refine hK28 _ ?_
        clear hK28 K28
        refine Wp.condS (fun h88 => ?_) (fun h88 => ?_)
        · have hxl : x < t.length := by omega
          refine Wp.skip ?_
          refine hK27 _ ?_
          clear hK27 K27
          refine Wp.seqK fun K29 hK29 => ?_
          refine Wp.block ?_
          refine rg ?_
          try simp only [thn, inB, if_true, reduceIte]
          refine hK29 _ ?_
          clear hK29 K29
          refine Wp.keep 4 (by simp [hB]) (by simp) ?_
          refine evd ?_
          refine rg ?_
          refine hK26 (x + 1) _ ?_ ?_ anyS <;> omega
        · have hxl : x = t.length := by omega
          subst hxl
          refine Wp.exit ?_
          try simp only [thn, inB, if_true, reduceIte]
          clear hK27 K27
          clear hK26 K26
          refine hK24 _ ?_
          clear hK24 K24
          refine Wp.seqK fun K30 hK30 => ?_
          refine Wp.seqK fun K31 hK31 => ?_
          refine rg ?_
          refine hK31 _ ?_
          clear hK31 K31
          refine Wp.block ?_
          refine Wp.loopU (α := Nat) (fun x => [.k, .d, .d, .k, .k, .k, .d, .d, .k, .d, .v (I x), .d5, .d5, .d5, .d5, .d5, .d5, .d5, .d5, .d5, .d5, .d5, .d5, .d5, .d5, .d5, .d5, .d5, .d5, .d5, .d5, .d5, .d5, .d5, .d5, .d5, .d5, .d5, .d5, .d5, .d5, .d5, .d5, .d5, .d5, .d5, .d, .d, .d, .d]) (fun x => [some ⟨0, (reachT t).map cb⟩, some ⟨0, (holdL t t.length).map cb⟩, some ⟨8, (wN t t.length).map ci⟩, some ⟨t.length, (uN t x).map ci⟩]) (fun x => x ≤ t.length ∧ (∀ j, j < x → badB t j = false)) (fun x => t.length - x) 0 (⟨Nat.zero_le _, fun j h => absurd h (Nat.not_lt_zero j)⟩) (anyS) ?_
          rintro x f32 K32 ⟨hx, hbb⟩ hK32
          simp only [updT_k, updT_d, updT_d5, updT_v, updT_nil, Nat.reduceAdd]
          have hwl := wN_len t t.length
          have hul := uN_len t x
          refine Wp.seqK fun K33 hK33 => ?_
          refine Wp.seqK fun K34 hK34 => ?_
          refine rg ?_
          refine hK34 _ ?_
          clear hK34 K34
          refine Wp.condS (fun h97 => ?_) (fun h97 => ?_)
          · have hxl : x < t.length := by omega
            have hpp := hpo x hxl
            have hpl := parts_len (t.getD x default)
            refine Wp.skip ?_
            refine hK33 _ ?_
            clear hK33 K33
            refine Wp.seqU (α := Obs) (fun o => [.k, .d, .d, .k, .k, .k, .d, .d, .k, .d, .k, .d5, .d5, .d5, .d5, .d5, .d5, .d5, .d5, .d5, .d5, .d5, .d5, .d5, .d5, .d5, .d5, .d5, .d5, .d5, .d5, .d5, .d5, .d5, .d5, .d5, .d5, .d5, .d5, .d5, .d5, .d5, .d5, .d5, .d5, .d5, .d, .d, .d, .d]) (fun o => (some ⟨0, (reachT t).map cb⟩ :: some ⟨0, (holdL t t.length).map cb⟩ :: some ⟨8, (wN t t.length).map ci⟩ :: some ⟨t.length, (uN t (x + 1)).map ci⟩ :: o)) (fun o => badB t x = false) (fun K35 hK35 => ?_) ?_
            · refine Wp.block ?_
              refine Wp.seqK fun K36 hK36 => ?_
              refine Wp.seqK fun K37 hK37 => ?_
              refine rg ?_
              refine hK37 _ ?_
              clear hK37 K37
              refine Wp.condS (fun h104 => ?_) (fun h104 => ?_)
              · refine Wp.exit ?_
                try simp only [thn, inB, if_true, reduceIte]
                clear hK36 K36
                exact hK35 [] _ (by unfold badB; rw [h104]; rfl) (anyS (ho := by rw [uN_no h104] <;> rfl))
              · refine Wp.skip ?_
                refine hK36 _ ?_
                clear hK36 K36
                refine Wp.seqK fun K38 hK38 => ?_
                refine Wp.seqU0 [.k, .d, .d, .k, .k, .k, .d, .d, .k, .d, .k, .d5, .d5, .d5, .d5, .d5, .d5, .d5, .d5, .d5, .d5, .d5, .d5, .d5, .d5, .d5, .d5, .d5, .d5, .d5, .d5, .d5, .d5, .d5, .d5, .d5, .d5, .v (T (badX t x)), .d5, .d5, .d5, .d5, .d5, .d5, .d5, .d5, .d5, .d, .d, .d] (fun K39 hK39 => ?_) ?_
                · refine Wp.drawI [0, 1, 2, 3, 4, 5, 6, 7] [33] (by kernel_rfl) ?_
                  refine evd ?_
                  refine grdA_split rfl (fun g25_7 => ?_) (fun g25_7 => ?_)
                  · try simp only [decide_eq_true_eq, decide_eq_false_iff_not] at g25_7
                    have hkk := hno x hxl (named_1 g25_7)
                    try refine evd ?_
                    refine grdA_split rfl (fun g25_23 => ?_) (fun g25_23 => ?_)
                    · try simp only [decide_eq_true_eq, decide_eq_false_iff_not] at g25_23
                      try refine evd ?_
                      exact hK39 _ (anyS (h := by first | rfl | (simp only [badX, g25_7, g25_23, Bool.true_or, Bool.or_true, Bool.false_or, Bool.or_false, Bool.true_and, Bool.and_true, Bool.false_and, Bool.and_false, Bool.not_true, Bool.not_false, decide_true, decide_false, eq_self, Int.reduceEq] <;> rfl)))
                    · try simp only [decide_eq_true_eq, decide_eq_false_iff_not] at g25_23
                      try refine evd ?_
                      refine grdA_split rfl (fun g25_28 => ?_) (fun g25_28 => ?_)
                      · try simp only [decide_eq_true_eq, decide_eq_false_iff_not] at g25_28
                        try refine evd ?_
                        refine ⟨rfl, CallK.valA (h := l02Outer_c _) (k := ?_)⟩
                        refine evd ?_
                        exact hK39 _ (anyS (h := by first | rfl | (simp only [badX, g25_7, g25_23, g25_28, Bool.true_or, Bool.or_true, Bool.false_or, Bool.or_false, Bool.true_and, Bool.and_true, Bool.false_and, Bool.and_false, Bool.not_true, Bool.not_false, decide_true, decide_false, eq_self, Int.reduceEq] <;> rfl)))
                      · try simp only [decide_eq_true_eq, decide_eq_false_iff_not] at g25_28
                        try refine evd ?_
                        exact hK39 _ (anyS (h := by first | rfl | (simp only [badX, g25_7, g25_23, g25_28, Bool.true_or, Bool.or_true, Bool.false_or, Bool.or_false, Bool.true_and, Bool.and_true, Bool.false_and, Bool.and_false, Bool.not_true, Bool.not_false, decide_true, decide_false, eq_self, Int.reduceEq] <;> rfl)))
                  · try simp only [decide_eq_true_eq, decide_eq_false_iff_not] at g25_7
                    try refine evd ?_
                    refine grdA_split rfl (fun g25_28 => ?_) (fun g25_28 => ?_)
                    · try simp only [decide_eq_true_eq, decide_eq_false_iff_not] at g25_28
                      try refine evd ?_
                      refine ⟨rfl, CallK.valA (h := l02Outer_c _) (k := ?_)⟩
                      refine evd ?_
                      exact hK39 _ (anyS (h := by first | rfl | (simp only [badX, g25_7, g25_28, Bool.true_or, Bool.or_true, Bool.false_or, Bool.or_false, Bool.true_and, Bool.and_true, Bool.false_and, Bool.and_false, Bool.not_true, Bool.not_false, decide_true, decide_false, eq_self, Int.reduceEq] <;> rfl)))
                    · try simp only [decide_eq_true_eq, decide_eq_false_iff_not] at g25_28
                      try refine evd ?_
                      exact hK39 _ (anyS (h := by first | rfl | (simp only [badX, g25_7, g25_28, Bool.true_or, Bool.or_true, Bool.false_or, Bool.or_false, Bool.true_and, Bool.and_true, Bool.false_and, Bool.and_false, Bool.not_true, Bool.not_false, decide_true, decide_false, eq_self, Int.reduceEq] <;> rfl)))
                rintro f39
                simp only [updT_k, updT_d, updT_d5, updT_v, updT_nil, Nat.reduceAdd]
                refine Wp.condS (fun h141 => ?_) (fun h141 => ?_)
                · have hs := sent_2 hxl (by rw [badB_x h104]; exact h141)
                  refine Wp.seqK fun K40 hK40 => ?_
                  refine rg ?_
                  refine hK40 _ ?_
                  clear hK40 K40
                  refine Wp.ret (retV ?_)
                  try simp only [List.getD_cons_zero, List.getD_cons_succ]
                  rw [hs]
                · have hbx : badB t x = false := by rw [badB_x h104]; exact h141
                  refine Wp.skip ?_
                  refine hK38 _ ?_
                  clear hK38 K38
                  refine Wp.seqK fun K41 hK41 => ?_
                  refine rg ?_
                  refine ⟨rfl, CallK.rowA (h := sParts_c _) (k := ?_)⟩
                  refine evd ?_
                  refine hK41 _ ?_
                  clear hK41 K41
                  refine Wp.seqK fun K42 hK42 => ?_
                  refine rg ?_
                  refine hK42 _ ?_
                  clear hK42 K42
                  refine Wp.block ?_
                  refine Wp.loopU (α := Nat) (fun k => [.k, .d, .d, .k, .k, .k, .d, .d, .k, .d, .k, .k, .v (I k), .d5, .d5, .d5, .d5, .d5, .d5, .d5, .d5, .d5, .d5, .d5, .d5, .d5, .d5, .d5, .d5, .d5, .d5, .d5, .d5, .d5, .d5, .d5, .d5, .d5, .d5, .d5, .d5, .d5, .d5, .d5, .d5, .d5, .d5, .d5, .d, .d]) (fun k => [some ⟨0, (reachT t).map cb⟩, some ⟨0, (holdL t t.length).map cb⟩, some ⟨8, (wN t t.length).map ci⟩, some ⟨t.length, (uadd (uN t x) ((parts (t.getD x default)).take k)).map ci⟩, some ⟨0, (parts (t.getD x default)).map ci⟩]) (fun k => k ≤ (parts (t.getD x default)).length) (fun k => (parts (t.getD x default)).length - k) 0 (by omega) (anyS) ?_
                  rintro k f43 K43 hk hK43
                  simp only [updT_k, updT_d, updT_d5, updT_v, updT_nil, Nat.reduceAdd]
                  have hal := uadd_len ((parts (t.getD x default)).take k) (uN t x)
                  have hub := uadd_b ((parts (t.getD x default)).take k) _ _ (uN_b t x) ((parts (t.getD x default)).getD k 0).toNat
                  have htk : (((parts (t.getD x default)).take k).length : Int) ≤ 3 := by rw [List.length_take]; omega
                  refine Wp.seqK fun K44 hK44 => ?_
                  refine Wp.seqK fun K45 hK45 => ?_
                  refine rg ?_
                  refine hK45 _ ?_
                  clear hK45 K45
                  refine Wp.condS (fun h150 => ?_) (fun h150 => ?_)
                  · have hkl : k < (parts (t.getD x default)).length := by omega
                    have hpk := hpp ((parts (t.getD x default)).getD k 0) (by rw [← getD_at hkl]; exact List.getElem_mem hkl)
                    refine Wp.skip ?_
                    refine hK44 _ ?_
                    clear hK44 K44
                    refine Wp.seqK fun K46 hK46 => ?_
                    refine Wp.block ?_
                    refine Wp.drawI [0, 1, 2, 3, 4] [] (by kernel_rfl) ?_
                    refine evd ?_
                    try simp only [thn, inB, if_true, reduceIte]
                    refine hK46 _ ?_
                    clear hK46 K46
                    refine rg ?_
                    exact hK43 (k + 1) _ (by omega) (by omega) (anyS (ho := by rw [uadd_push hkl] <;> rfl))
                  · have hkl : k = (parts (t.getD x default)).length := by omega
                    subst hkl
                    simp only [List.take_length]
                    refine Wp.exit ?_
                    try simp only [thn, inB, if_true, reduceIte]
                    clear hK44 K44
                    clear hK43 K43
                    try simp only [thn, inB, if_true, reduceIte]
                    exact hK35 [some ⟨0, (parts (t.getD x default)).map ci⟩] _ hbx (anyS (ho := by rw [uN_yes h104] <;> rfl))
            rintro o f35 hbx
            simp only [updT_k, updT_d, updT_d5, updT_v, updT_nil, Nat.reduceAdd]
            refine Wp.keep 4 (by simp [hB]) (by simp) ?_
            refine evd ?_
            refine rg ?_
            exact hK32 (x + 1) _ ⟨by omega, ub_next hbb hbx⟩ (by omega) anyS
          · have hxl : x = t.length := by omega
            subst hxl
            refine Wp.exit ?_
            try simp only [thn, inB, if_true, reduceIte]
            clear hK33 K33
            clear hK32 K32
            refine hK30 _ ?_
            clear hK30 K30
            refine Wp.seqK fun K47 hK47 => ?_
            refine Wp.seqK fun K48 hK48 => ?_
            refine rg ?_
            refine hK48 _ ?_
            clear hK48 K48
            refine Wp.block ?_
            refine Wp.loopU (α := Nat) (fun x => [.k, .d, .d, .k, .k, .d, .d, .d, .k, .d, .d, .d, .d, .v (I x), .d5, .d5, .d5, .d5, .d5, .d5, .d5, .d5, .d5, .d5, .d5, .d5, .d5, .d5, .d5, .d5, .d5, .d5, .d5, .d5, .d5, .d5, .d5, .d5, .d5, .d5, .d5, .d5, .d5, .d5, .d5, .d5, .d5, .d5, .d5, .d]) (fun x => [some ⟨0, (reachT t).map cb⟩, some ⟨0, (holdL t t.length).map cb⟩, some ⟨8, (wN t t.length).map ci⟩, some ⟨t.length, (uN t t.length).map ci⟩]) (fun x => x ≤ t.length ∧ (∀ j, j < x → badC t j = false)) (fun x => t.length - x) 0 (⟨Nat.zero_le _, fun j h => absurd h (Nat.not_lt_zero j)⟩) (anyS) ?_
            rintro x f49 K49 ⟨hx, hcb⟩ hK49
            simp only [updT_k, updT_d, updT_d5, updT_v, updT_nil, Nat.reduceAdd]
            have hul := uN_len t t.length
            refine Wp.seqK fun K50 hK50 => ?_
            refine Wp.seqK fun K51 hK51 => ?_
            refine rg ?_
            refine hK51 _ ?_
            clear hK51 K51
            refine Wp.condS (fun h170 => ?_) (fun h170 => ?_)
            · have hxl : x < t.length := by omega
              refine Wp.skip ?_
              refine hK50 _ ?_
              clear hK50 K50
              refine Wp.seqK fun K52 hK52 => ?_
              refine Wp.block ?_
              refine Wp.seqU0 [.k, .d, .d, .k, .k, .d, .d, .d, .k, .d, .d, .d, .d, .k, .d5, .d5, .d5, .d5, .d5, .d5, .d5, .d5, .d5, .d5, .d5, .d5, .d5, .d5, .d5, .d5, .d5, .d5, .d5, .d5, .d5, .d5, .d5, .d5, .d5, .d5, .d5, .d5, .d5, .d5, .d5, .d5, .d5, .d5, .d5, .v (T (badC t x))] (fun K53 hK53 => ?_) ?_
              · refine rg ?_
                refine grdA_split rfl (fun g35_5 => ?_) (fun g35_5 => ?_)
                · try simp only [decide_eq_true_eq, decide_eq_false_iff_not] at g35_5
                  try refine evd ?_
                  refine grdA_split rfl (fun g35_11 => ?_) (fun g35_11 => ?_)
                  · try simp only [decide_eq_true_eq, decide_eq_false_iff_not] at g35_11
                    try refine evd ?_
                    exact hK53 _ (anyS (h := by first | rfl | (simp only [badC, g35_5, g35_11, Bool.true_or, Bool.or_true, Bool.false_or, Bool.or_false, Bool.true_and, Bool.and_true, Bool.false_and, Bool.and_false, Bool.not_true, Bool.not_false, decide_true, decide_false, eq_self, Int.reduceEq] <;> rfl)))
                  · try simp only [decide_eq_true_eq, decide_eq_false_iff_not] at g35_11
                    try refine evd ?_
                    exact hK53 _ (anyS (h := by first | rfl | (simp only [badC, g35_5, g35_11, Bool.true_or, Bool.or_true, Bool.false_or, Bool.or_false, Bool.true_and, Bool.and_true, Bool.false_and, Bool.and_false, Bool.not_true, Bool.not_false, decide_true, decide_false, eq_self, Int.reduceEq] <;> rfl)))
                · try simp only [decide_eq_true_eq, decide_eq_false_iff_not] at g35_5
                  try refine evd ?_
                  exact hK53 _ (anyS (h := by first | rfl | (simp only [badC, g35_5, Bool.true_or, Bool.or_true, Bool.false_or, Bool.or_false, Bool.true_and, Bool.and_true, Bool.false_and, Bool.and_false, Bool.not_true, Bool.not_false, decide_true, decide_false, eq_self, Int.reduceEq] <;> rfl)))
              rintro f53
              simp only [updT_k, updT_d, updT_d5, updT_v, updT_nil, Nat.reduceAdd]
              refine Wp.condS (fun h189 => ?_) (fun h189 => ?_)
              · have hs := sent_3 hxl h189
                refine Wp.seqK fun K54 hK54 => ?_
                refine rg ?_
                refine hK54 _ ?_
                clear hK54 K54
                refine Wp.ret (retV ?_)
                try simp only [List.getD_cons_zero, List.getD_cons_succ]
                rw [hs]
              · refine Wp.skip ?_
                try simp only [thn, inB, if_true, reduceIte]
                refine hK52 _ ?_
                clear hK52 K52
                refine rg ?_
                exact hK49 (x + 1) _ ⟨by omega, ub_next hcb h189⟩ (by omega) anyS
            · have hxl : x = t.length := by omega
              subst hxl
              refine Wp.exit ?_
              try simp only [thn, inB, if_true, reduceIte]
              clear hK50 K50
              clear hK49 K49
              refine hK47 _ ?_
              clear hK47 K47
              refine Wp.seqK fun K55 hK55 => ?_
              refine rg ?_
              refine hK55 _ ?_
              clear hK55 K55
              refine Wp.ret (retV ?_)
              try simp only [List.getD_cons_zero, List.getD_cons_succ]
              rw [sent_y hsa htb hbb hcb]
end Go.Proofs.YtkdkbnacelnljaaGreat.RE
