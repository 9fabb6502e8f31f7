/- Sentences, the program. Conditions: those that a theorem names. -/
import Derived.Test.YtkdkbnacelnljaaGreatNF6
import Derived.Test.YtkdkbnacelnljaaGreatNDQ
import Derived.Test.YtkdkbnacelnljaaGreatNV1
set_option linter.unusedVariables false
set_option linter.unusedSimpArgs false
namespace Go.Proofs.YtkdkbnacelnljaaGreat.RE
open Go Go.RowKit
set_option maxRecDepth 100000
set_option maxHeartbeats 8000000

/-! ### Sentences, the program, plain -/
def hasI (t : List Nd) (b : List Bool) (ps : List Int) : Bool := ps.any fun p => b.getD p.toNat false || isQ (t.getD p.toNat default).op
def hI (t : List Nd) : Nat → List Bool
  | 0 => []
  | x + 1 => hI t x ++ [(reachT t).getD x false && hasI t (hI t x) (parts (t.getD x default))]
def badV (t : List Nd) (x : Nat) : Bool := (reachT t).getD x false && (decide ((t.getD x default).op = 1) && !decide ((t.getD x default).w = (wN t t.length).getD (t.getD x default).k.toNat 0))
def badI (t : List Nd) (x : Nat) : Bool := (reachT t).getD x false && (hasI t (hI t x) (parts (t.getD x default)) && !outQ (t.getD x default).op)
def badQ (t : List Nd) (x : Nat) : Bool := ((reachT t).getD x false && isQ (t.getD x default).op) && decide (1 < (uN t t.length).getD x 0)
def szT (t : List Nd) : Bool := !(List.range t.length).any (twice t) && !(List.range t.length).any (badV t)
def owT (t : List Nd) : Bool := !(List.range t.length).any (badI t) && !(List.range t.length).any (badQ t)
def isenT (t : List Nd) : Bool := sentA t && (szT t && owT t)
theorem sz_1 {t : List Nd} {x : Nat} (hx : x < t.length) (h : twice t x = true) : szT t = false := by unfold szT; rw [any_at hx h]; rfl
theorem sz_2 {t : List Nd} {x : Nat} (hx : x < t.length) (h : badV t x = true) : szT t = false := by unfold szT; rw [any_at hx h]; simp
theorem sz_y {t : List Nd} (h1 : ∀ j, j < t.length → twice t j = false) (h2 : ∀ j, j < t.length → badV t j = false) : szT t = true := by unfold szT; rw [any_none h1, any_none h2]; rfl
theorem ow_1 {t : List Nd} {x : Nat} (hx : x < t.length) (h : badI t x = true) : owT t = false := by unfold owT; rw [any_at hx h]; rfl
theorem ow_2 {t : List Nd} {x : Nat} (hx : x < t.length) (h : badQ t x = true) : owT t = false := by unfold owT; rw [any_at hx h]; simp
theorem ow_y {t : List Nd} (h1 : ∀ j, j < t.length → badI t j = false) (h2 : ∀ j, j < t.length → badQ t j = false) : owT t = true := by unfold owT; rw [any_none h1, any_none h2]; rfl
theorem wN_nn {t : List Nd} (hok : okT t = true) : ∀ x, x ≤ t.length → ∀ i, 0 ≤ (wN t x).getD i 0
  | 0, _, i => by simp only [wN, List.getD_eq_getElem?_getD, List.getElem?_replicate]; split <;> simp
  | x + 1, hx, i => by
    have ih := wN_nn hok x (by omega)
    simp only [wN]
    split
    · rename_i h
      rw [Bool.and_eq_true] at h
      have hb := okT_qb hok (show x < t.length by omega) h.2
      have := ih i
      simp only [List.getD_eq_getElem?_getD, List.getElem?_set] at *
      split
      · split
        · simp only [Option.getD_some]; omega
        · simp
      · exact this
    · exact ih i
theorem hI_len (t : List Nd) : ∀ x, (hI t x).length = x
  | 0 => rfl
  | x + 1 => by simp only [hI, List.length_append, hI_len t x, List.length_cons, List.length_nil]
def hZ (t : List Nd) (x : Nat) : List Bool := hI t x ++ List.replicate (t.length - x) false
theorem hZ_len {t : List Nd} {x : Nat} (h : x ≤ t.length) : (hZ t x).length = t.length := by simp [hZ, hI_len]; omega
theorem hZ_0 (t : List Nd) : hZ t 0 = List.replicate t.length false := by simp [hZ, hI]
theorem hZ_set {t : List Nd} {x : Nat} (h : x < t.length) : (hZ t x).set x ((reachT t).getD x false && hasI t (hI t x) (parts (t.getD x default))) = hZ t (x + 1) := by
  unfold hZ
  obtain ⟨k, hk⟩ : ∃ k, t.length - x = k + 1 := ⟨t.length - x - 1, by omega⟩
  rw [hk, List.set_append_right _ _ (by rw [hI_len]; exact Nat.le_refl _), hI_len, Nat.sub_self, List.replicate_succ, List.set_cons_zero]
  rw [show t.length - (x + 1) = k by omega]
  simp only [hI, List.append_assoc]; rfl
theorem hZ_no {t : List Nd} {x : Nat} (h : x < t.length) (hr : (reachT t).getD x false = false) : hZ t (x + 1) = hZ t x := by
  unfold hZ
  obtain ⟨k, hk⟩ : ∃ k, t.length - x = k + 1 := ⟨t.length - x - 1, by omega⟩
  rw [hk, List.replicate_succ, show t.length - (x + 1) = k by omega]
  simp only [hI, hr, Bool.false_and, List.append_assoc]; rfl
theorem hX_at {t : List Nd} {x p : Nat} (h : p < x) (v : Bool) : ((hZ t x).set x v).getD p false = (hI t x).getD p false := by
  unfold hZ
  rw [List.getD_eq_getElem?_getD, List.getElem?_set_ne (by omega), List.getElem?_append_left (by rw [hI_len]; exact h), ← List.getD_eq_getElem?_getD]
theorem hX_x {t : List Nd} {x : Nat} (h : x < t.length) (v : Bool) : ((hZ t x).set x v).getD x false = v := by
  rw [List.getD_eq_getElem?_getD, List.getElem?_set_self (by rw [hZ_len (by omega)]; exact h)]; rfl
theorem hX_0 {t : List Nd} {x : Nat} (h : x < t.length) : (hZ t x).set x false = hZ t x := by
  apply List.ext_getElem?
  intro i
  rw [List.getElem?_set]
  split
  · rename_i e
    subst e
    unfold hZ
    rw [List.getElem?_append_right (by rw [hI_len]; exact Nat.le_refl _), hI_len, Nat.sub_self]
    obtain ⟨k, hk⟩ : ∃ k, t.length - x = k + 1 := ⟨t.length - x - 1, by omega⟩
    rw [hk, List.replicate_succ]
    simp [hI_len]
  · rfl
theorem hasI_push {t : List Nd} {b : List Bool} {ps : List Int} {k : Nat} (h : k < ps.length) : hasI t b (ps.take (k + 1)) = (hasI t b (ps.take k) || (b.getD (ps.getD k 0).toNat false || isQ (t.getD (ps.getD k 0).toNat default).op)) := by
  unfold hasI
  rw [take_push 0 h, List.any_append]
  simp
theorem hasI_mem {t : List Nd} {b : List Bool} {ps : List Int} {k : Nat} (h : k < ps.length) (h2 : (b.getD (ps.getD k 0).toNat false || isQ (t.getD (ps.getD k 0).toNat default).op) = true) : hasI t b ps = true := by
  unfold hasI
  exact List.any_eq_true.2 ⟨ps.getD k 0, by rw [← getD_at h]; exact List.getElem_mem h, h2⟩
theorem leads_c (n : Nd) : Val E.P 100 [.agg (nl n)] (T (outQ n.op)) := by
  refine CallsA.body (E := E) (fn := Tryz.f100) Tryz.func100 rfl fun B hB => ?_
  simp only [Tryz.ntmps100, go_sem, nl, Nat.reduceSub, Nat.reduceAdd, List.reduceReplicate]
  refine Wp.seqK fun K1 hK1 => ?_
  refine rg ?_
  refine hK1 _ ?_
  clear hK1 K1
  refine Wp.seqU0 [.d, .d, .v (T (outQ n.op)), .d5, .d5, .d5, .d, .d] (fun K2 hK2 => ?_) ?_
  · refine rg ?_
    refine grdA_split rfl (fun g1_4 => ?_) (fun g1_4 => ?_)
    · try simp only [decide_eq_true_eq, decide_eq_false_iff_not] at g1_4
      try refine evd ?_
      exact hK2 _ (anyS (h := by first | rfl | (simp only [outQ, g1_4, Bool.true_or, Bool.or_true, Bool.false_or, Bool.or_false, Bool.true_and, Bool.and_true, Bool.false_and, Bool.and_false, Bool.not_true, Bool.not_false, decide_true, decide_false, eq_self, Int.reduceEq] <;> rfl)))
    · try simp only [decide_eq_true_eq, decide_eq_false_iff_not] at g1_4
      try refine evd ?_
      refine grdA_split rfl (fun g1_9 => ?_) (fun g1_9 => ?_)
      · try simp only [decide_eq_true_eq, decide_eq_false_iff_not] at g1_9
        try refine evd ?_
        exact hK2 _ (anyS (h := by first | rfl | (simp only [outQ, g1_4, g1_9, Bool.true_or, Bool.or_true, Bool.false_or, Bool.or_false, Bool.true_and, Bool.and_true, Bool.false_and, Bool.and_false, Bool.not_true, Bool.not_false, decide_true, decide_false, eq_self, Int.reduceEq] <;> rfl)))
      · try simp only [decide_eq_true_eq, decide_eq_false_iff_not] at g1_9
        try refine evd ?_
        refine grdA_split rfl (fun g1_14 => ?_) (fun g1_14 => ?_)
        · try simp only [decide_eq_true_eq, decide_eq_false_iff_not] at g1_14
          try refine evd ?_
          exact hK2 _ (anyS (h := by first | rfl | (simp only [outQ, g1_4, g1_9, g1_14, Bool.true_or, Bool.or_true, Bool.false_or, Bool.or_false, Bool.true_and, Bool.and_true, Bool.false_and, Bool.and_false, Bool.not_true, Bool.not_false, decide_true, decide_false, eq_self, Int.reduceEq] <;> rfl)))
        · try simp only [decide_eq_true_eq, decide_eq_false_iff_not] at g1_14
          try refine evd ?_
          refine ⟨rfl, CallK.valA (h := isQuant_c _) (k := ?_)⟩
          refine evd ?_
          exact hK2 _ (anyS (h := by first | rfl | (simp only [outQ, g1_4, g1_9, g1_14, Bool.true_or, Bool.or_true, Bool.false_or, Bool.or_false, Bool.true_and, Bool.and_true, Bool.false_and, Bool.and_false, Bool.not_true, Bool.not_false, decide_true, decide_false, eq_self, Int.reduceEq] <;> rfl)))
  rintro f2
  simp only [updT_k, updT_d, updT_d5, updT_v, updT_nil, Nat.reduceAdd]
  refine Wp.ret (retV ?_)
  try simp only [List.getD_cons_zero, List.getD_cons_succ]
theorem iFree_c (t : List Nd) (hlb : t.length ≤ 1048576) : Row E.P 66 [dN t] 1 (freeL t).length ((freeL t).map ci) := by
  refine CallsA.body (E := E) (fn := Tryz.f66) Tryz.func66 rfl fun B hB => ?_
  simp only [Tryz.ntmps66, go_sem, nl, Nat.reduceSub, Nat.reduceAdd, List.reduceReplicate]
  refine Wp.seqK fun K1 hK1 => ?_
  refine rg ?_
  refine hK1 _ ?_
  clear hK1 K1
  refine Wp.seqK fun K2 hK2 => ?_
  refine rg ?_
  refine hK2 _ ?_
  clear hK2 K2
  refine Wp.seqK fun K3 hK3 => ?_
  refine Wp.seqK fun K4 hK4 => ?_
  refine rg ?_
  refine ⟨rfl, CallK.valA (h := iTermOk_c _) (k := ?_)⟩
  refine evd ?_
  refine hK4 _ ?_
  clear hK4 K4
  refine Wp.condS (fun h8 => ?_) (fun h8 => ?_)
  · have hf0 : freeL t = [] := if_neg (by rw [show okT t = false by simpa using h8]; decide)
    refine Wp.seqK fun K5 hK5 => ?_
    refine rg ?_
    refine hK5 _ ?_
    clear hK5 K5
    refine Wp.ret (retR ?_ ?_ ?_)
    · rw [hf0] <;> rfl
    · rw [hf0] <;> rfl
    · rfl
  · have hok : okT t = true := by simpa using h8
    have hl := okT_len hok
    have hf0 : freeL t = varsL (rowF t (t.length - 1)) 8 := if_pos hok
    refine Wp.skip ?_
    refine hK3 _ ?_
    clear hK3 K3
    refine Wp.seqK fun K6 hK6 => ?_
    refine Wp.seqK fun K7 hK7 => ?_
    refine rg ?_
    refine hK7 _ ?_
    clear hK7 K7
    refine Wp.block ?_
    refine Wp.loopU (α := Nat) (fun x => [.k, .d, .d, .v (.l (.obj 0 (varsL (rowF t (t.length - 1)) x).length 1 0 (varsL (rowF t (t.length - 1)) x).length)), .d5, .d, .v (I x), .d5, .d5, .d, .d]) (fun x => [some ⟨(varsL (rowF t (t.length - 1)) x).length, (varsL (rowF t (t.length - 1)) x).map ci⟩]) (fun x => x ≤ 8) (fun x => 8 - x) 0 (by omega) (anyS) ?_
    rintro x f8 K8 hx hK8
    simp only [updT_k, updT_d, updT_d5, updT_v, updT_nil, Nat.reduceAdd]
    have hvl := varsL_len (rowF t (t.length - 1)) x
    refine Wp.seqK fun K9 hK9 => ?_
    refine rg ?_
    refine hK9 _ ?_
    clear hK9 K9
    refine Wp.seqK fun K10 hK10 => ?_
    refine Wp.condS (fun h11 => ?_) (fun h11 => ?_)
    · have hx8 : x < 8 := by omega
      have hrx : (rowF t (t.length - 1)).getD x false = fr t (x : Int) (t.length - 1) := by simp [rowF, List.getD_eq_getElem?_getD, hx8]
      rw [free_place hok] at hrx
      refine Wp.skip ?_
      refine hK10 _ ?_
      clear hK10 K10
      refine Wp.seqU (α := Obs) (fun o => [.k, .d, .d, .v (.l (.obj 0 (varsL (rowF t (t.length - 1)) (x + 1)).length 1 0 (varsL (rowF t (t.length - 1)) (x + 1)).length)), .d5, .d, .k, .d5, .d5, .d, .d]) (fun o => (some ⟨(varsL (rowF t (t.length - 1)) (x + 1)).length, (varsL (rowF t (t.length - 1)) (x + 1)).map ci⟩ :: o)) (fun o => True) (fun K11 hK11 => ?_) ?_
      · refine Wp.block ?_
        refine Wp.seqK fun K12 hK12 => ?_
        refine rg ?_
        refine hK12 _ ?_
        clear hK12 K12
        refine Wp.seqK fun K13 hK13 => ?_
        refine rg ?_
        refine ⟨rfl, CallK.valA (h := firstFree_c _ hok (by omega) _) (k := ?_)⟩
        refine evd ?_
        refine hK13 _ ?_
        clear hK13 K13
        refine Wp.condS (fun h16 => ?_) (fun h16 => ?_)
        · have hf := varsL_yes (hrx.trans (decide_eq_true (by omega)))
          refine rg ?_
          try simp only [thn, inB, if_true, reduceIte]
          exact hK11 [some ⟨0, [ci (x : Int)]⟩] _ trivial (anyS (h := by rw [hf, List.length_append] <;> rfl) (ho := by rw [hf, List.length_append] <;> first | rfl | (simp only [List.map_append] <;> rfl)))
        · have hf := varsL_no (hrx.trans (decide_eq_false (by omega)))
          refine Wp.skip ?_
          try simp only [thn, inB, if_true, reduceIte]
          exact hK11 [] _ trivial (anyS (h := by rw [hf] <;> rfl) (ho := by rw [hf] <;> rfl))
      rintro o f11 _
      simp only [updT_k, updT_d, updT_d5, updT_v, updT_nil, Nat.reduceAdd]
      refine Wp.keep 1 (by simp [hB]) (by simp) ?_
      refine evd ?_
      refine rg ?_
      exact hK8 (x + 1) _ (by omega) (by omega) anyS
    · have hx8 : x = 8 := by omega
      subst hx8
      refine Wp.exit ?_
      try simp only [thn, inB, if_true, reduceIte]
      clear hK10 K10
      clear hK8 K8
      refine hK6 _ ?_
      clear hK6 K6
      refine Wp.seqK fun K14 hK14 => ?_
      refine rg ?_
      refine hK14 _ ?_
      clear hK14 K14
      refine Wp.ret (retR (cs := (freeL t).map ci) ?_ rfl (flatI _) (ho := ?_))
      · rw [hf0]
      · rw [hf0]; rfl
theorem sized_c (t : List Nd) (hok : okT t = true) (hl : 1 ≤ t.length ∧ t.length ≤ 80) : Val E.P 67 [dN t, dB (reachT t)] (T (szT t)) := by
  refine CallsA.body (E := E) (fn := Tryz.f67) Tryz.func67 rfl fun B hB => ?_
  simp only [Tryz.ntmps67, go_sem, nl, Nat.reduceSub, Nat.reduceAdd, List.reduceReplicate]
  have hpo := okT_parts hok
  have hno := okT_nums hok
  have hrl := reachT_len t
  refine Wp.seqK fun K1 hK1 => ?_
  refine rg ?_
  refine hK1 _ ?_
  clear hK1 K1
  refine Wp.seqK fun K2 hK2 => ?_
  refine rg ?_
  refine hK2 _ ?_
  clear hK2 K2
  refine Wp.seqK fun K3 hK3 => ?_
  refine Wp.seqK fun K4 hK4 => ?_
  refine rg ?_
  refine hK4 _ ?_
  clear hK4 K4
  refine Wp.block ?_
  refine Wp.loopU (α := Nat) (fun x => [.k, .k, .d, .d, .d, .k, .d5, .k, .k, .v (I x), .d5, .d5, .d5, .d5, .d5, .d5, .d5, .d5, .d5, .d, .d, .d, .d]) (fun x => [some ⟨0, (wN t x).map ci⟩]) (fun x => x ≤ t.length ∧ (∀ j, j < x → twice t j = false)) (fun x => t.length - x) 0 (⟨Nat.zero_le _, fun j h => absurd h (Nat.not_lt_zero j)⟩) (anyS) ?_
  rintro x f5 K5 ⟨hx, htb⟩ hK5
  simp only [updT_k, updT_d, updT_d5, updT_v, updT_nil, Nat.reduceAdd]
  have hwl := wN_len t x
  refine Wp.seqK fun K6 hK6 => ?_
  refine rg ?_
  refine hK6 _ ?_
  clear hK6 K6
  refine Wp.seqK fun K7 hK7 => ?_
  refine Wp.condS (fun h14 => ?_) (fun h14 => ?_)
  · have hxl : x < t.length := by omega
    refine Wp.skip ?_
    refine hK7 _ ?_
    clear hK7 K7
    refine Wp.seqU (α := Unit) (fun u => [.k, .k, .d, .d, .d, .k, .d5, .k, .k, .k, .d5, .d5, .d5, .d5, .d5, .d5, .d5, .d5, .d5, .d, .d, .d, .d]) (fun u => [some ⟨0, (wN t (x + 1)).map ci⟩, some ⟨0, nl (t.getD x default)⟩]) (fun u => twice t x = false) (fun K8 hK8 => ?_) ?_
    · refine Wp.block ?_
      refine Wp.seqK fun K9 hK9 => ?_
      refine rg ?_
      refine hK9 _ ?_
      clear hK9 K9
      refine Wp.seqU0 [.k, .k, .d, .d, .d, .k, .d, .k, .d, .d, .d, .k, .k, .k, .d5, .d5, .d, .v (T (((reachT t).getD x false) && isQ (t.getD x default).op)), .d5, .d5, .d5, .d5, .d5, .d5, .d5, .d, .d] (fun K10 hK10 => ?_) ?_
      · refine rg ?_
        refine grdA_split rfl (fun g5_5 => ?_) (fun g5_5 => ?_)
        · try simp only [decide_eq_true_eq, decide_eq_false_iff_not] at g5_5
          try refine evd ?_
          refine ⟨rfl, CallK.valA (h := isQuant_c _) (k := ?_)⟩
          refine evd ?_
          exact hK10 _ (anyS (h := by first | rfl | (simp only [g5_5, Bool.true_or, Bool.or_true, Bool.false_or, Bool.or_false, Bool.true_and, Bool.and_true, Bool.false_and, Bool.and_false, Bool.not_true, Bool.not_false, decide_true, decide_false, eq_self, Int.reduceEq] <;> rfl)))
        · try simp only [decide_eq_true_eq, decide_eq_false_iff_not] at g5_5
          try refine evd ?_
          exact hK10 _ (anyS (h := by first | rfl | (simp only [g5_5, Bool.true_or, Bool.or_true, Bool.false_or, Bool.or_false, Bool.true_and, Bool.and_true, Bool.false_and, Bool.and_false, Bool.not_true, Bool.not_false, decide_true, decide_false, eq_self, Int.reduceEq] <;> rfl)))
      rintro f10
      simp only [updT_k, updT_d, updT_d5, updT_v, updT_nil, Nat.reduceAdd]
      refine Wp.condS (fun h25 => ?_) (fun h25 => ?_)
      · have hkk := hno x hxl (named_q h25.2)
        have hqb := okT_qb hok hxl h25.2
        have hwn := wN_nn hok x (by omega) (t.getD x default).k.toNat
        refine Wp.seqK fun K11 hK11 => ?_
        refine Wp.seqK fun K12 hK12 => ?_
        refine rg ?_
        refine hK12 _ ?_
        clear hK12 K12
        refine Wp.condS (fun h30 => ?_) (fun h30 => ?_)
        · have hs := sz_1 hxl (by unfold twice; rw [h25.1, h25.2, decide_eq_false (by omega)]; rfl)
          refine Wp.seqK fun K13 hK13 => ?_
          refine rg ?_
          refine hK13 _ ?_
          clear hK13 K13
          refine Wp.ret (retV ?_)
          try simp only [List.getD_cons_zero, List.getD_cons_succ]
          rw [hs]
        · have htw : twice t x = false := by unfold twice; rw [decide_eq_true (show (wN t x).getD (t.getD x default).k.toNat 0 = 0 by omega)]; simp
          refine Wp.skip ?_
          refine hK11 _ ?_
          clear hK11 K11
          refine rg ?_
          try simp only [thn, inB, if_true, reduceIte]
          exact hK8 () _ htw (anyS (ho := by rw [wN_yes h25.1 h25.2] <;> rfl))
      · have htw : twice t x = false := by unfold twice; rw [h25]; rfl
        refine Wp.skip ?_
        try simp only [thn, inB, if_true, reduceIte]
        exact hK8 () _ htw (anyS (ho := by rw [wN_no h25] <;> rfl))
    rintro _ f8 htw
    simp only [updT_k, updT_d, updT_d5, updT_v, updT_nil, Nat.reduceAdd]
    refine Wp.keep 1 (by simp [hB]) (by simp) ?_
    refine evd ?_
    refine rg ?_
    exact hK5 (x + 1) _ ⟨by omega, ub_next htb htw⟩ (by omega) anyS
  · have hxl : x = t.length := by omega
    subst hxl
    refine Wp.exit ?_
    try simp only [thn, inB, if_true, reduceIte]
    clear hK7 K7
    clear hK5 K5
    refine hK3 _ ?_
    clear hK3 K3
    refine Wp.seqK fun K14 hK14 => ?_
    refine Wp.seqK fun K15 hK15 => ?_
    refine rg ?_
    refine hK15 _ ?_
    clear hK15 K15
    refine Wp.block ?_
    refine Wp.loopU (α := Nat) (fun x => [.d, .k, .d, .d, .d, .k, .d5, .d5, .d5, .d5, .d5, .d5, .d, .k, .k, .v (I x), .d5, .d5, .d5, .d5, .d, .d, .d]) (fun x => [some ⟨0, (wN t t.length).map ci⟩]) (fun x => x ≤ t.length ∧ (∀ j, j < x → badV t j = false)) (fun x => t.length - x) 0 (⟨Nat.zero_le _, fun j h => absurd h (Nat.not_lt_zero j)⟩) (anyS) ?_
    rintro x f16 K16 ⟨hx, hvb⟩ hK16
    simp only [updT_k, updT_d, updT_d5, updT_v, updT_nil, Nat.reduceAdd]
    have hwl := wN_len t t.length
    refine Wp.seqK fun K17 hK17 => ?_
    refine rg ?_
    refine hK17 _ ?_
    clear hK17 K17
    refine Wp.seqK fun K18 hK18 => ?_
    refine Wp.condS (fun h40 => ?_) (fun h40 => ?_)
    · have hxl : x < t.length := by omega
      refine Wp.skip ?_
      refine hK18 _ ?_
      clear hK18 K18
      refine Wp.seqK fun K19 hK19 => ?_
      refine Wp.block ?_
      refine Wp.seqK fun K20 hK20 => ?_
      refine rg ?_
      refine hK20 _ ?_
      clear hK20 K20
      refine Wp.seqU0 [.d, .k, .d, .d, .d, .k, .d5, .d5, .d5, .d5, .d5, .d5, .d, .k, .k, .k, .d5, .d5, .d5, .d5, .d, .v (T (badV t x)), .d] (fun K21 hK21 => ?_) ?_
      · refine Wp.drawI [0, 1] [] (by kernel_rfl) ?_
        refine evd ?_
        refine grdA_split rfl (fun g13_5 => ?_) (fun g13_5 => ?_)
        · try simp only [decide_eq_true_eq, decide_eq_false_iff_not] at g13_5
          try refine evd ?_
          refine grdA_split rfl (fun g13_10 => ?_) (fun g13_10 => ?_)
          · try simp only [decide_eq_true_eq, decide_eq_false_iff_not] at g13_10
            have hkk := hno x hxl (named_1 g13_10)
            try refine evd ?_
            exact hK21 _ (anyS (h := by first | rfl | (simp only [badV, g13_5, g13_10, Bool.true_or, Bool.or_true, Bool.false_or, Bool.or_false, Bool.true_and, Bool.and_true, Bool.false_and, Bool.and_false, Bool.not_true, Bool.not_false, decide_true, decide_false, eq_self, Int.reduceEq] <;> rfl)))
          · try simp only [decide_eq_true_eq, decide_eq_false_iff_not] at g13_10
            try refine evd ?_
            exact hK21 _ (anyS (h := by first | rfl | (simp only [badV, g13_5, g13_10, Bool.true_or, Bool.or_true, Bool.false_or, Bool.or_false, Bool.true_and, Bool.and_true, Bool.false_and, Bool.and_false, Bool.not_true, Bool.not_false, decide_true, decide_false, eq_self, Int.reduceEq] <;> rfl)))
        · try simp only [decide_eq_true_eq, decide_eq_false_iff_not] at g13_5
          try refine evd ?_
          exact hK21 _ (anyS (h := by first | rfl | (simp only [badV, g13_5, Bool.true_or, Bool.or_true, Bool.false_or, Bool.or_false, Bool.true_and, Bool.and_true, Bool.false_and, Bool.and_false, Bool.not_true, Bool.not_false, decide_true, decide_false, eq_self, Int.reduceEq] <;> rfl)))
      rintro f21
      simp only [updT_k, updT_d, updT_d5, updT_v, updT_nil, Nat.reduceAdd]
      refine Wp.condS (fun h61 => ?_) (fun h61 => ?_)
      · have hs := sz_2 hxl h61
        refine Wp.seqK fun K22 hK22 => ?_
        refine rg ?_
        refine hK22 _ ?_
        clear hK22 K22
        refine Wp.ret (retV ?_)
        try simp only [List.getD_cons_zero, List.getD_cons_succ]
        rw [hs]
      · have hbv : badV t x = false := h61
        refine Wp.skip ?_
        try simp only [thn, inB, if_true, reduceIte]
        refine hK19 _ ?_
        clear hK19 K19
        refine Wp.keep 1 (by simp [hB]) (by simp) ?_
        refine evd ?_
        refine rg ?_
        exact hK16 (x + 1) _ ⟨by omega, ub_next hvb hbv⟩ (by omega) anyS
    · have hxl : x = t.length := by omega
      subst hxl
      refine Wp.exit ?_
      try simp only [thn, inB, if_true, reduceIte]
      clear hK18 K18
      clear hK16 K16
      refine hK14 _ ?_
      clear hK14 K14
      refine Wp.seqK fun K23 hK23 => ?_
      refine rg ?_
      refine hK23 _ ?_
      clear hK23 K23
      refine Wp.ret (retV ?_)
      try simp only [List.getD_cons_zero, List.getD_cons_succ]
      rw [sz_y htb hvb]
theorem onWay_c (t : List Nd) (hok : okT t = true) (hl : 1 ≤ t.length ∧ t.length ≤ 80) : Val E.P 68 [dN t, dB (reachT t)] (T (owT t)) := by
  refine CallsA.body (E := E) (fn := Tryz.f68) Tryz.func68 rfl fun B hB => ?_
  simp only [Tryz.ntmps68, go_sem, nl, Nat.reduceSub, Nat.reduceAdd, List.reduceReplicate]
  have hpo := okT_parts hok
  have hno := okT_nums hok
  have hrl := reachT_len t
  refine Wp.seqK fun K1 hK1 => ?_
  refine rg ?_
  refine hK1 _ ?_
  clear hK1 K1
  refine Wp.seqK fun K2 hK2 => ?_
  refine rg ?_
  refine hK2 _ ?_
  clear hK2 K2
  refine Wp.seqK fun K3 hK3 => ?_
  refine rg ?_
  refine hK3 _ ?_
  clear hK3 K3
  refine Wp.seqK fun K4 hK4 => ?_
  refine Wp.seqK fun K5 hK5 => ?_
  refine rg ?_
  refine hK5 _ ?_
  clear hK5 K5
  refine Wp.block ?_
  refine Wp.loopU (α := Nat) (fun x => [.k, .k, .d, .d, .d, .k, .k, .d5, .d5, .d, .d, .d, .k, .k, .v (I x), .d5, .d5, .d5, .d5, .d5, .d5, .d5, .d5, .d5, .d5, .d5, .d5, .d5, .d5, .d, .d, .d, .d]) (fun x => [some ⟨0, (uN t x).map ci⟩, some ⟨0, (hZ t x).map cb⟩]) (fun x => x ≤ t.length ∧ (∀ j, j < x → badI t j = false)) (fun x => t.length - x) 0 (⟨Nat.zero_le _, fun j h => absurd h (Nat.not_lt_zero j)⟩) (anyS (ho := by rw [hZ_0] <;> first | rfl | (simp [uN, ci, cb] <;> rfl))) ?_
  rintro x f6 K6 ⟨hx, hib⟩ hK6
  simp only [updT_k, updT_d, updT_d5, updT_v, updT_nil, Nat.reduceAdd]
  have hul := uN_len t x
  have hzl := hZ_len hx
  refine Wp.seqK fun K7 hK7 => ?_
  refine rg ?_
  refine hK7 _ ?_
  clear hK7 K7
  refine Wp.seqK fun K8 hK8 => ?_
  refine Wp.condS (fun h23 => ?_) (fun h23 => ?_)
  · have hxl : x < t.length := by omega
    have hpp := hpo x hxl
    have hpl := parts_len (t.getD x default)
    refine Wp.skip ?_
    refine hK8 _ ?_
    clear hK8 K8
    refine Wp.seqU (α := Obs) (fun o => [.k, .k, .d, .d, .d, .k, .k, .d5, .d5, .d, .d, .d, .k, .k, .k, .d5, .d5, .d5, .d5, .d5, .d5, .d5, .d5, .d5, .d5, .d5, .d5, .d5, .d5, .d, .d, .d, .d]) (fun o => (some ⟨0, (uN t (x + 1)).map ci⟩ :: some ⟨0, (hZ t (x + 1)).map cb⟩ :: o)) (fun o => badI t x = false) (fun K9 hK9 => ?_) ?_
    · refine Wp.block ?_
      refine Wp.seqK fun K10 hK10 => ?_
      refine rg ?_
      refine hK10 _ ?_
      clear hK10 K10
      refine Wp.seqK fun K11 hK11 => ?_
      refine Wp.seqK fun K12 hK12 => ?_
      refine rg ?_
      refine hK12 _ ?_
      clear hK12 K12
      refine Wp.condS (fun h31 => ?_) (fun h31 => ?_)
      · have hme : (reachT t).getD x false = false := by simpa using h31
        refine Wp.exit ?_
        try simp only [thn, inB, if_true, reduceIte]
        clear hK11 K11
        exact hK9 [some ⟨0, nl (t.getD x default)⟩] _ (by unfold badI; rw [hme]; rfl) (anyS (ho := by rw [uN_no hme, hZ_no hxl hme] <;> rfl))
      · have hme : (reachT t).getD x false = true := by simpa using h31
        refine Wp.skip ?_
        refine hK11 _ ?_
        clear hK11 K11
        refine Wp.seqK fun K13 hK13 => ?_
        refine rg ?_
        refine ⟨rfl, CallK.rowA (h := iParts_c _) (k := ?_)⟩
        refine evd ?_
        refine hK13 _ ?_
        clear hK13 K13
        refine Wp.block ?_
        refine Wp.loopU (α := Nat) (fun k => [.k, .k, .d, .d, .d, .k, .k, .k, .k, .d5, .d5, .d, .k, .k, .k, .d5, .d5, .k, .k, .v (I k), .d5, .d5, .d5, .d5, .d5, .d5, .d5, .d5, .d5, .d5, .d5, .d5, .d]) (fun k => [some ⟨0, (uadd (uN t x) ((parts (t.getD x default)).take k)).map ci⟩, some ⟨0, ((hZ t x).set x (hasI t (hI t x) ((parts (t.getD x default)).take k))).map cb⟩, some ⟨0, nl (t.getD x default)⟩, some ⟨0, (parts (t.getD x default)).map ci⟩]) (fun k => k ≤ (parts (t.getD x default)).length ∧ (hasI t (hI t x) ((parts (t.getD x default)).take k) && !outQ (t.getD x default).op) = false) (fun k => (parts (t.getD x default)).length - k) 0 (⟨Nat.zero_le _, rfl⟩) (anyS (ho := by rw [show hasI t (hI t x) (List.take 0 (parts (t.getD x default))) = false from rfl, hX_0 hxl] <;> rfl)) ?_
        rintro k f14 K14 ⟨hk, hnb⟩ hK14
        simp only [updT_k, updT_d, updT_d5, updT_v, updT_nil, Nat.reduceAdd]
        have hal := uadd_len ((parts (t.getD x default)).take k) (uN t x)
        have hxl2 : (((hZ t x).set x (hasI t (hI t x) ((parts (t.getD x default)).take k)))).length = t.length := by rw [List.length_set, hzl]
        have hub := uadd_b ((parts (t.getD x default)).take k) _ _ (uN_b t x) ((parts (t.getD x default)).getD k 0).toNat
        have htk : (((parts (t.getD x default)).take k).length : Int) ≤ 3 := by rw [List.length_take]; omega
        refine Wp.seqK fun K15 hK15 => ?_
        refine rg ?_
        refine hK15 _ ?_
        clear hK15 K15
        refine Wp.seqK fun K16 hK16 => ?_
        refine Wp.condS (fun h36 => ?_) (fun h36 => ?_)
        · have hkl : k < (parts (t.getD x default)).length := by omega
          have hpk := hpp ((parts (t.getD x default)).getD k 0) (by rw [← getD_at hkl]; exact List.getElem_mem hkl)
          have hpx : ((parts (t.getD x default)).getD k 0).toNat < x := by omega
          have ea := hX_at (t := t) hpx (hasI t (hI t x) ((parts (t.getD x default)).take k))
          have ex := hX_x hxl (hasI t (hI t x) ((parts (t.getD x default)).take k))
          have hip := hasI_push (t := t) (b := hI t x) hkl
          refine Wp.skip ?_
          refine hK16 _ ?_
          clear hK16 K16
          refine Wp.seqU (α := Unit) (fun u => [.k, .k, .d, .d, .d, .k, .k, .k, .k, .d5, .d5, .d, .k, .k, .k, .d5, .d5, .k, .k, .k, .d5, .d5, .d5, .d5, .d5, .d5, .d5, .d5, .d5, .d5, .d5, .d5, .d]) (fun u => [some ⟨0, (uadd (uN t x) ((parts (t.getD x default)).take (k + 1))).map ci⟩, some ⟨0, ((hZ t x).set x (hasI t (hI t x) ((parts (t.getD x default)).take (k + 1)))).map cb⟩, some ⟨0, nl (t.getD x default)⟩, some ⟨0, (parts (t.getD x default)).map ci⟩]) (fun u => (hasI t (hI t x) ((parts (t.getD x default)).take (k + 1)) && !outQ (t.getD x default).op) = false) (fun K17 hK17 => ?_) ?_
          · refine Wp.block ?_
            refine Wp.seqK fun K18 hK18 => ?_
            refine rg ?_
            refine hK18 _ ?_
            clear hK18 K18
            refine Wp.seqK fun K19 hK19 => ?_
            refine rg ?_
            
            refine hK19 _ ?_
            clear hK19 K19
            refine Wp.seqU0 [.k, .k, .d, .d, .d, .k, .k, .k, .k, .d, .d, .v (T ((hI t x).getD ((parts (t.getD x default)).getD k 0).toNat false || isQ (t.getD ((parts (t.getD x default)).getD k 0).toNat default).op)), .d5, .d, .d, .d, .k, .k, .k, .d5, .d5, .k, .k, .k, .d5, .d5, .d5, .d5, .d5, .d5, .d5, .d5, .d5, .d5, .d5, .d5, .d] (fun K20 hK20 => ?_) ?_
            · refine rg ?_
              refine grdA_split rfl (fun g11_5 => ?_) (fun g11_5 => ?_)
              · try simp only [decide_eq_true_eq, decide_eq_false_iff_not] at g11_5
                try refine evd ?_
                have e11 := ea.symm.trans g11_5
                exact hK20 _ (anyS (h := by rw [e11] <;> rfl))
              · try simp only [decide_eq_true_eq, decide_eq_false_iff_not] at g11_5
                try refine evd ?_
                refine ⟨rfl, CallK.valA (h := isQuant_c _) (k := ?_)⟩
                refine evd ?_
                have e11 := ea.symm.trans g11_5
                exact hK20 _ (anyS (h := by rw [e11] <;> rfl))
            rintro f20
            simp only [updT_k, updT_d, updT_d5, updT_v, updT_nil, Nat.reduceAdd]
            refine Wp.seqK fun K21 hK21 => ?_
            refine Wp.seqU0 [.k, .k, .d, .d, .d, .k, .k, .k, .k, .d, .d, .k, .d5, .d, .d, .d, .k, .k, .k, .d5, .d5, .k, .k, .k, .d5, .d5, .d5, .d5, .d5, .v (T (((hI t x).getD ((parts (t.getD x default)).getD k 0).toNat false || isQ (t.getD ((parts (t.getD x default)).getD k 0).toNat default).op) && !outQ (t.getD x default).op)), .d5, .d5, .d5, .d5, .d5, .d5, .d5] (fun K22 hK22 => ?_) ?_
            · refine rg ?_
              refine grdA_split rfl (fun g12_2 => ?_) (fun g12_2 => ?_)
              · try simp only [decide_eq_true_eq, decide_eq_false_iff_not] at g12_2
                try refine evd ?_
                refine ⟨rfl, CallK.valA (h := leads_c _) (k := ?_)⟩
                refine evd ?_
                exact hK22 _ (anyS (h := by first | rfl | (simp only [g12_2, Bool.true_or, Bool.or_true, Bool.false_or, Bool.or_false, Bool.true_and, Bool.and_true, Bool.false_and, Bool.and_false, Bool.not_true, Bool.not_false, decide_true, decide_false, eq_self, Int.reduceEq] <;> rfl)))
              · try simp only [decide_eq_true_eq, decide_eq_false_iff_not] at g12_2
                try refine evd ?_
                exact hK22 _ (anyS (h := by first | rfl | (simp only [g12_2, Bool.true_or, Bool.or_true, Bool.false_or, Bool.or_false, Bool.true_and, Bool.and_true, Bool.false_and, Bool.and_false, Bool.not_true, Bool.not_false, decide_true, decide_false, eq_self, Int.reduceEq] <;> rfl)))
            rintro f22
            simp only [updT_k, updT_d, updT_d5, updT_v, updT_nil, Nat.reduceAdd]
            refine Wp.condS (fun h61 => ?_) (fun h61 => ?_)
            · have hs := ow_1 hxl (by
                have h61 : ((hI t x).getD ((parts (t.getD x default)).getD k 0).toNat false || isQ (t.getD ((parts (t.getD x default)).getD k 0).toNat default).op) = true ∧ outQ (t.getD x default).op = false := by simpa using h61
                unfold badI
                rw [hme, hasI_mem hkl h61.1, h61.2]; rfl)
              refine Wp.seqK fun K23 hK23 => ?_
              refine rg ?_
              refine hK23 _ ?_
              clear hK23 K23
              refine Wp.ret (retV ?_)
              try simp only [List.getD_cons_zero, List.getD_cons_succ]
              rw [hs]
            · have hnb2 : (hasI t (hI t x) ((parts (t.getD x default)).take (k + 1)) && !outQ (t.getD x default).op) = false := by
                rw [hip, Bool.and_or_distrib_right, hnb, Bool.false_or]; exact h61
              refine Wp.skip ?_
              refine hK21 _ ?_
              clear hK21 K21
              refine rg ?_
              
              refine grdA_split rfl (fun g14_7 => ?_) (fun g14_7 => ?_)
              · try simp only [decide_eq_true_eq, decide_eq_false_iff_not] at g14_7
                try refine evd ?_
                try simp only [thn, inB, if_true, reduceIte]
                have e14 := g14_7
                exact hK17 () _ hnb2 (anyS (ho := by rw [uadd_push hkl, hip, e14, Bool.true_or] <;> simp only [List.set_set] <;> rfl))
              · try simp only [decide_eq_true_eq, decide_eq_false_iff_not] at g14_7
                try refine evd ?_
                try simp only [thn, inB, if_true, reduceIte]
                have e14 := g14_7
                exact hK17 () _ hnb2 (anyS (ho := by rw [uadd_push hkl, hip, e14, Bool.false_or] <;> simp only [List.set_set] <;> rfl))
          rintro _ f17 hnb3
          simp only [updT_k, updT_d, updT_d5, updT_v, updT_nil, Nat.reduceAdd]
          refine rg ?_
          exact hK14 (k + 1) _ ⟨by omega, hnb3⟩ (by omega) anyS
        · have hkl : k = (parts (t.getD x default)).length := by omega
          subst hkl
          simp only [List.take_length] at hnb ⊢
          refine Wp.exit ?_
          try simp only [thn, inB, if_true, reduceIte]
          clear hK16 K16
          clear hK14 K14
          try simp only [thn, inB, if_true, reduceIte]
          exact hK9 [some ⟨0, nl (t.getD x default)⟩, some ⟨0, (parts (t.getD x default)).map ci⟩] _ (by unfold badI; rw [hme, hnb]; rfl) (anyS (ho := by rw [uN_yes hme, ← hZ_set hxl, hme, Bool.true_and] <;> rfl))
    rintro o f9 hbx
    simp only [updT_k, updT_d, updT_d5, updT_v, updT_nil, Nat.reduceAdd]
    refine Wp.keep 2 (by simp [hB]) (by simp) ?_
    refine evd ?_
    refine rg ?_
    exact hK6 (x + 1) _ ⟨by omega, ub_next hib hbx⟩ (by omega) anyS
  · have hxl : x = t.length := by omega
    subst hxl
    refine Wp.exit ?_
    try simp only [thn, inB, if_true, reduceIte]
    clear hK8 K8
    clear hK6 K6
    refine hK4 _ ?_
    clear hK4 K4
    refine Wp.seqK fun K24 hK24 => ?_
    refine Wp.seqK fun K25 hK25 => ?_
    refine rg ?_
    refine hK25 _ ?_
    clear hK25 K25
    refine Wp.block ?_
    refine Wp.loopU (α := Nat) (fun x => [.d, .k, .d, .d, .d, .k, .d5, .d5, .d5, .d5, .d5, .d5, .d5, .d5, .d5, .d5, .d5, .d5, .d5, .d, .d, .d, .k, .k, .v (I x), .d5, .d5, .d5, .d5]) (fun x => [some ⟨0, (uN t t.length).map ci⟩, some ⟨0, (hZ t t.length).map cb⟩]) (fun x => x ≤ t.length ∧ (∀ j, j < x → badQ t j = false)) (fun x => t.length - x) 0 (⟨Nat.zero_le _, fun j h => absurd h (Nat.not_lt_zero j)⟩) (anyS) ?_
    rintro x f26 K26 ⟨hx, hqb⟩ hK26
    simp only [updT_k, updT_d, updT_d5, updT_v, updT_nil, Nat.reduceAdd]
    have hul := uN_len t t.length
    refine Wp.seqK fun K27 hK27 => ?_
    refine rg ?_
    refine hK27 _ ?_
    clear hK27 K27
    refine Wp.seqK fun K28 hK28 => ?_
    refine Wp.condS (fun h77 => ?_) (fun h77 => ?_)
    · have hxl : x < t.length := by omega
      refine Wp.skip ?_
      refine hK28 _ ?_
      clear hK28 K28
      refine Wp.seqK fun K29 hK29 => ?_
      refine Wp.block ?_
      refine Wp.seqK fun K30 hK30 => ?_
      refine rg ?_
      refine hK30 _ ?_
      clear hK30 K30
      refine Wp.seqU0 [.d, .k, .d, .d, .d, .k, .d5, .d5, .d5, .d5, .d5, .d5, .d5, .d5, .d5, .d5, .d5, .d5, .d5, .d, .d, .d, .k, .k, .k, .d5, .d5, .d5, .d, .d, .d, .v (T (badQ t x)), .d] (fun K31 hK31 => ?_) ?_
      · refine rg ?_
        refine grdA_split rfl (fun g20_5 => ?_) (fun g20_5 => ?_)
        · try simp only [decide_eq_true_eq, decide_eq_false_iff_not] at g20_5
          try refine evd ?_
          refine ⟨rfl, CallK.valA (h := isQuant_c _) (k := ?_)⟩
          refine evd ?_
          refine grdA_split rfl (fun g20_9 => ?_) (fun g20_9 => ?_)
          · try simp only [decide_eq_true_eq, decide_eq_false_iff_not] at g20_9
            try refine evd ?_
            exact hK31 _ (anyS (h := by first | rfl | (simp only [badQ, g20_5, g20_9, Bool.true_or, Bool.or_true, Bool.false_or, Bool.or_false, Bool.true_and, Bool.and_true, Bool.false_and, Bool.and_false, Bool.not_true, Bool.not_false, decide_true, decide_false, eq_self, Int.reduceEq] <;> rfl)))
          · try simp only [decide_eq_true_eq, decide_eq_false_iff_not] at g20_9
            try refine evd ?_
            exact hK31 _ (anyS (h := by first | rfl | (simp only [badQ, g20_5, g20_9, Bool.true_or, Bool.or_true, Bool.false_or, Bool.or_false, Bool.true_and, Bool.and_true, Bool.false_and, Bool.and_false, Bool.not_true, Bool.not_false, decide_true, decide_false, eq_self, Int.reduceEq] <;> rfl)))
        · try simp only [decide_eq_true_eq, decide_eq_false_iff_not] at g20_5
          try refine evd ?_
          exact hK31 _ (anyS (h := by first | rfl | (simp only [badQ, g20_5, Bool.true_or, Bool.or_true, Bool.false_or, Bool.or_false, Bool.true_and, Bool.and_true, Bool.false_and, Bool.and_false, Bool.not_true, Bool.not_false, decide_true, decide_false, eq_self, Int.reduceEq] <;> rfl)))
      rintro f31
      simp only [updT_k, updT_d, updT_d5, updT_v, updT_nil, Nat.reduceAdd]
      refine Wp.condS (fun h95 => ?_) (fun h95 => ?_)
      · have hs := ow_2 hxl h95
        refine Wp.seqK fun K32 hK32 => ?_
        refine rg ?_
        refine hK32 _ ?_
        clear hK32 K32
        refine Wp.ret (retV ?_)
        try simp only [List.getD_cons_zero, List.getD_cons_succ]
        rw [hs]
      · have hbq : badQ t x = false := h95
        refine Wp.skip ?_
        try simp only [thn, inB, if_true, reduceIte]
        refine hK29 _ ?_
        clear hK29 K29
        refine Wp.keep 2 (by simp [hB]) (by simp) ?_
        refine evd ?_
        refine rg ?_
        exact hK26 (x + 1) _ ⟨by omega, ub_next hqb hbq⟩ (by omega) anyS
    · have hxl : x = t.length := by omega
      subst hxl
      refine Wp.exit ?_
      try simp only [thn, inB, if_true, reduceIte]
      clear hK28 K28
      clear hK26 K26
      refine hK24 _ ?_
      clear hK24 K24
      refine Wp.seqK fun K33 hK33 => ?_
      refine rg ?_
      refine hK33 _ ?_
      clear hK33 K33
      refine Wp.ret (retV ?_)
      try simp only [List.getD_cons_zero, List.getD_cons_succ]
      rw [ow_y hib hqb]
theorem iSentence_c (t : List Nd) (hlb : t.length ≤ 1048576) : Val E.P 38 [dN t] (T (isenT t)) := by
  refine CallsA.body (E := E) (fn := Tryz.f38) Tryz.func38 rfl fun B hB => ?_
  simp only [Tryz.ntmps38, go_sem, nl, Nat.reduceSub, Nat.reduceAdd, List.reduceReplicate]
  refine Wp.seqK fun K1 hK1 => ?_
  refine rg ?_
  refine hK1 _ ?_
  clear hK1 K1
  refine Wp.seqK fun K2 hK2 => ?_
  refine Wp.seqU (α := Obs) (fun o => [.k, .d5, .d5, .d5, .d5, .d, .v (T (!sentA t)), .d5, .d5]) (fun o => o) (fun o => True) (fun K3 hK3 => ?_) ?_
  · refine rg ?_
    refine ⟨rfl, CallK.valA (h := iTermOk_c _) (k := ?_)⟩
    refine evd ?_
    refine grdA_split rfl (fun g1_4 => ?_) (fun g1_4 => ?_)
    · try simp only [decide_eq_true_eq, decide_eq_false_iff_not] at g1_4
      try refine evd ?_
      have e : sentA t = false := by unfold sentA; rw [show okT t = false by simpa using g1_4]; rfl
      exact hK3 [] _ trivial (anyS (h := by rw [e] <;> rfl))
    · try simp only [decide_eq_true_eq, decide_eq_false_iff_not] at g1_4
      have hok : okT t = true := by simpa using g1_4
      have hl := okT_len hok
      try refine evd ?_
      refine grdA_split rfl (fun g1_14 => ?_) (fun g1_14 => ?_)
      · try simp only [decide_eq_true_eq, decide_eq_false_iff_not] at g1_14
        try refine evd ?_
        have ei : ((t.length : Int) - 1).toNat = t.length - 1 := by omega
        rw [ei] at g1_14
        have e : sentA t = false := by unfold sentA; rw [hok, show decide ((t.getD (t.length - 1) default).w = 1) = false by simpa using g1_14]; rfl
        exact hK3 [] _ trivial (anyS (h := by rw [e] <;> rfl))
      · try simp only [decide_eq_true_eq, decide_eq_false_iff_not] at g1_14
        try refine evd ?_
        refine ⟨rfl, CallK.rowA (h := iFree_c _ hlb) (k := ?_)⟩
        refine evd ?_
        have ei : ((t.length : Int) - 1).toNat = t.length - 1 := by omega
        rw [ei] at g1_14
        have e : sentA t = (!decide (0 < (freeL t).length)) := by unfold sentA; rw [hok, show decide ((t.getD (t.length - 1) default).w = 1) = true by simpa using g1_14]; rfl
        exact hK3 [some ⟨0, (freeL t).map ci⟩] _ trivial (anyS (h := by rw [e, Bool.not_not] <;> first | rfl | (simp only [Int.natCast_pos] <;> rfl)))
  rintro o f3 _
  simp only [updT_k, updT_d, updT_d5, updT_v, updT_nil, Nat.reduceAdd]
  refine Wp.condS (fun h22 => ?_) (fun h22 => ?_)
  · have hs : isenT t = false := by unfold isenT; rw [show sentA t = false by simpa using h22]; rfl
    refine Wp.seqK fun K4 hK4 => ?_
    refine rg ?_
    refine hK4 _ ?_
    clear hK4 K4
    refine Wp.ret (retV ?_)
    try simp only [List.getD_cons_zero, List.getD_cons_succ]
    rw [hs]
  · have hsa : sentA t = true := by simpa using h22
    have hok : okT t = true := by
      have h := hsa
      simp only [sentA, Bool.and_eq_true] at h
      exact h.1.1
    have hl := okT_len hok
    have hrl := reachT_len t
    refine Wp.skip ?_
    refine hK2 _ ?_
    clear hK2 K2
    refine Wp.seqK fun K5 hK5 => ?_
    refine Wp.keep 0 (by simp [hB]) (by simp) ?_
    refine evd ?_
    refine rg ?_
    refine ⟨rfl, CallK.rowA (h := reached_c _ hok (by omega)) (k := ?_)⟩
    refine evd ?_
    refine hK5 _ ?_
    clear hK5 K5
    refine Wp.seqU0 [.d, .d, .v (T (szT t && owT t)), .d5, .d5, .d5, .d5, .d5, .d5] (fun K6 hK6 => ?_) ?_
    · refine rg ?_
      refine ⟨rfl, CallK.valA (h := sized_c _ hok (by omega)) (k := ?_)⟩
      refine evd ?_
      refine grdA_split rfl (fun g4_4 => ?_) (fun g4_4 => ?_)
      · try simp only [decide_eq_true_eq, decide_eq_false_iff_not] at g4_4
        try refine evd ?_
        refine ⟨rfl, CallK.valA (h := onWay_c _ hok (by omega)) (k := ?_)⟩
        refine evd ?_
        exact hK6 _ (anyS (h := by first | rfl | (simp only [g4_4, Bool.true_or, Bool.or_true, Bool.false_or, Bool.or_false, Bool.true_and, Bool.and_true, Bool.false_and, Bool.and_false, Bool.not_true, Bool.not_false, decide_true, decide_false, eq_self, Int.reduceEq] <;> rfl)))
      · try simp only [decide_eq_true_eq, decide_eq_false_iff_not] at g4_4
        try refine evd ?_
        exact hK6 _ (anyS (h := by first | rfl | (simp only [g4_4, Bool.true_or, Bool.or_true, Bool.false_or, Bool.or_false, Bool.true_and, Bool.and_true, Bool.false_and, Bool.and_false, Bool.not_true, Bool.not_false, decide_true, decide_false, eq_self, Int.reduceEq] <;> rfl)))
    rintro f6
    simp only [updT_k, updT_d, updT_d5, updT_v, updT_nil, Nat.reduceAdd]
    refine Wp.ret (retV ?_)
    try simp only [List.getD_cons_zero, List.getD_cons_succ]
    unfold isenT
    rw [hsa, Bool.true_and]
end Go.Proofs.YtkdkbnacelnljaaGreat.RE

/-! Sentences of both sides, plain. Conditions: those that a theorem names. -/
set_option linter.unusedVariables false
set_option linter.unusedSimpArgs false
namespace Go.Proofs.YtkdkbnacelnljaaGreat.RE
open Go Go.RowKit
set_option maxRecDepth 100000
set_option maxHeartbeats 8000000

theorem holdL_get (t : List Nd) : ∀ {n x : Nat}, x < n → (holdL t n).getD x false = (isQ (t.getD x default).op || hasH (holdL t x) (parts (t.getD x default)))
  | n + 1, x, h => by
    show (holdL t n ++ [isQ (t.getD n default).op || hasH (holdL t n) (parts (t.getD n default))]).getD x false = _
    rcases Nat.lt_succ_iff_lt_or_eq.1 h with h1 | h1
    · rw [List.getD_eq_getElem?_getD, List.getElem?_append_left (by rw [holdL_len]; exact h1), ← List.getD_eq_getElem?_getD, holdL_get t h1]
    · subst h1
      rw [List.getD_eq_getElem?_getD, List.getElem?_append_right (by rw [holdL_len]; exact Nat.le_refl _), holdL_len, Nat.sub_self]; rfl
theorem hI_get (t : List Nd) : ∀ {n x : Nat}, x < n → (hI t n).getD x false = ((reachT t).getD x false && hasI t (hI t x) (parts (t.getD x default)))
  | n + 1, x, h => by
    show (hI t n ++ [(reachT t).getD n false && hasI t (hI t n) (parts (t.getD n default))]).getD x false = _
    rcases Nat.lt_succ_iff_lt_or_eq.1 h with h1 | h1
    · rw [List.getD_eq_getElem?_getD, List.getElem?_append_left (by rw [hI_len]; exact h1), ← List.getD_eq_getElem?_getD, hI_get t h1]
    · subst h1
      rw [List.getD_eq_getElem?_getD, List.getElem?_append_right (by rw [hI_len]; exact Nat.le_refl _), hI_len, Nat.sub_self]; rfl
theorem any_cong {α : Type} {l : List α} {f g : α → Bool} (h : ∀ x ∈ l, f x = g x) : l.any f = l.any g := by
  induction l with
  | nil => rfl
  | cons a l ih => rw [List.any_cons, List.any_cons, h a List.mem_cons_self, ih fun x hx => h x (List.mem_cons_of_mem _ hx)]
theorem part_reach {t : List Nd} (hok : okT t = true) {x : Nat} (h : (reachT t).getD x false = true) {p : Int} (hp : p ∈ parts (t.getD x default)) : (reachT t).getD p.toNat false = true :=
  (rch_iff hok).2 (((rch_iff hok).1 h).tail rfl hp)
/-- A quantifier below, told by both sides. -/
theorem hold_I {t : List Nd} (hok : okT t = true) : ∀ (m x : Nat), x < m → x < t.length → (reachT t).getD x false = true → (holdL t (x + 1)).getD x false = (isQ (t.getD x default).op || hasI t (hI t x) (parts (t.getD x default)))
  | m + 1, x, hm, hx, hr => by
    rw [holdL_get t (Nat.lt_succ_self x)]
    congr 1
    unfold hasH hasI
    refine any_cong fun p hp => ?_
    have hpp := okT_parts hok x hx p hp
    have hlt : p.toNat < x := by omega
    have hpr := part_reach hok hr hp
    rw [hI_get t hlt, hpr, Bool.true_and, Bool.or_comm, ← hold_I hok m p.toNat (by omega) (by omega) hpr, holdL_get t hlt, holdL_get t (Nat.lt_succ_self _)]
theorem hold_R {t : List Nd} (hok : okT t = true) {x : Nat} (hx : x < t.length) (hr : (reachT t).getD x false = true) : (holdL t t.length).getD x false = (isQ (t.getD x default).op || hasI t (hI t x) (parts (t.getD x default))) := by
  rw [← hold_I hok (x + 1) x (Nat.lt_succ_self x) hx hr, holdL_get t hx, holdL_get t (Nat.lt_succ_self x)]
theorem out_q {op : Int} (h : isQ op = true) : outQ op = true := by unfold outQ; rw [h]; simp
theorem bad_eq {t : List Nd} (hok : okT t = true) {x : Nat} (hx : x < t.length) : badB t x = (badV t x || badI t x) := by
  unfold badB badV badI
  cases hr : (reachT t).getD x false with
  | false => rfl
  | true =>
    rw [hold_R hok hx hr]
    have e : decide ((wN t t.length).getD (t.getD x default).k.toNat 0 = (t.getD x default).w) = decide ((t.getD x default).w = (wN t t.length).getD (t.getD x default).k.toNat 0) := decide_eq_decide.2 ⟨Eq.symm, Eq.symm⟩
    rw [e]
    cases hq : isQ (t.getD x default).op with
    | false => simp
    | true => rw [out_q hq]; simp
theorem badQ_C {t : List Nd} (hok : okT t = true) {x : Nat} (hx : x < t.length) (h : badQ t x = true) : badC t x = true := by
  unfold badQ at h
  simp only [Bool.and_eq_true] at h
  unfold badC
  rw [hold_R hok hx h.1.1, h.1.1, h.1.2, h.2]; rfl
theorem any_range {n : Nat} {f : Nat → Bool} : (List.range n).any f = true ↔ ∃ x, x < n ∧ f x = true := by
  rw [List.any_eq_true]
  simp
theorem any_no {n : Nat} {f : Nat → Bool} (h : (List.range n).any f = false) {x : Nat} (hx : x < n) : f x = false := by
  rw [List.any_eq_false] at h
  have := h x (by simpa using hx)
  simpa using this
theorem sentA_ok {t : List Nd} (h : sentA t = true) : okT t = true := by
  simp only [sentA, Bool.and_eq_true] at h
  exact h.1.1
theorem sen_eq {t : List Nd} (hc : okT t = true → (List.range t.length).any (badB t) = false → (List.range t.length).any (badC t) = false) : isenT t = sentT t := by
  unfold isenT sentT szT owT
  cases hs : sentA t with
  | false => rfl
  | true =>
    have hok := sentA_ok hs
    simp only [Bool.true_and]
    cases htw : (List.range t.length).any (twice t) with
    | true => rfl
    | false =>
      simp only [Bool.not_false, Bool.true_and]
      cases hb : (List.range t.length).any (badB t) with
      | true =>
        obtain ⟨x, hx, h⟩ := any_range.1 hb
        rw [bad_eq hok hx, Bool.or_eq_true] at h
        rcases h with h | h
        · rw [any_at hx h]; rfl
        · rw [any_at hx h]; simp
      | false =>
        have hC := hc hok hb
        have hV : (List.range t.length).any (badV t) = false := any_none fun j hj => by
          have := any_no hb hj
          rw [bad_eq hok hj, Bool.or_eq_false_iff] at this
          exact this.1
        have hI' : (List.range t.length).any (badI t) = false := any_none fun j hj => by
          have := any_no hb hj
          rw [bad_eq hok hj, Bool.or_eq_false_iff] at this
          exact this.2
        have hQ : (List.range t.length).any (badQ t) = false := any_none fun j hj => by
          have h1 := any_no hC hj
          cases hq : badQ t j with
          | false => rfl
          | true => rw [badQ_C hok hj hq] at h1; cases h1
        rw [hV, hI', hQ, hC]; rfl
/-- A sentence of the reference is one of the program. -/
theorem sen_isen {t : List Nd} (h : sentT t = true) : isenT t = true := by
  have h0 := h
  unfold sentT at h
  simp only [Bool.and_eq_true, Bool.not_eq_true'] at h
  rw [sen_eq fun _ _ => h.2]
  exact h0
/-! ### A term closed above an equality -/
end Go.Proofs.YtkdkbnacelnljaaGreat.RE

/-! Equal terms, plain: both sides answer alike. Conditions: those that a theorem names. -/
set_option linter.unusedVariables false
set_option linter.unusedSimpArgs false
namespace Go.Proofs.YtkdkbnacelnljaaGreat.RE
open Go Go.RowKit
set_option maxRecDepth 100000
set_option maxHeartbeats 8000000
def zer8 : List Int := [0, 0, 0, 0, 0, 0, 0, 0]
def holdsI (t : List Nd) : Int × Bool := if (isenT t && decide (qbT t ≤ 12)) = true then (valI t zer8, vOkI t zer8) else (0, false)
def holdsS (t : List Nd) : Int × Bool := if sentT t = true then (valS t zer8, vOkS t zer8) else (0, false)
theorem val_no {t : List Nd} {env : List Int} (h : vOkI t env = false) : valI t env = 0 := if_neg (by rw [h]; decide)
end Go.Proofs.YtkdkbnacelnljaaGreat.RE

/-! What it means that two terms are told to be equal, plain. Conditions: those that a theorem names. -/
set_option linter.unusedVariables false
set_option linter.unusedSimpArgs false
namespace Go.Proofs.YtkdkbnacelnljaaGreat.RE
open Go Go.RowKit
set_option maxRecDepth 100000
set_option maxHeartbeats 8000000
/-! ### What does not count -/
theorem Fit.other {t : List Nd} {e e' : List Int} {i : Nat} (h : Fit t e i) (h2 : ∀ j, Pth t (passV t (t.getD j default).k) i j → (t.getD j default).op = 1 → e.getD (t.getD j default).k.toNat 0 = e'.getD (t.getD j default).k.toNat 0) : Fit t e' i :=
  ⟨fun j hj ho => by rw [← h2 j hj ho]; exact h.free j hj ho, h.bound⟩
/-! ### Free variables -/
structure FreeV (t : List Nd) (v : Int) (j : Nat) : Prop where
  p : Pth t (passV t v) (t.length - 1) j
  o : (t.getD j default).op = 1
  k : (t.getD j default).k = v
theorem freeP_iff {t : List Nd} (hok : okT t = true) (v : Int) (j : Nat) : (freeR t v).getD j false = true ↔ Pth t (passV t v) (t.length - 1) j := by
  have h0 := (okT_len hok).1
  unfold freeR
  rw [reachP_at h0]
  exact reachR_iff (okT_parts hok) _ (by omega) j
theorem plc_yes {t : List Nd} (hok : okT t = true) {v : Int} (h : 0 ≤ placeT t v (freeR t v)) : FreeV t v (placeT t v (freeR t v)).toNat := by
  unfold placeT at h ⊢
  cases hf : (List.range t.length).find? (fun i => ((freeR t v).getD i false && decide ((t.getD i default).op = 1)) && decide ((t.getD i default).k = v)) with
  | none => rw [hf] at h; simp at h
  | some i =>
    have h1 := (List.find?_range_eq_some.1 hf).1
    simp only [Bool.and_eq_true, decide_eq_true_eq] at h1
    exact ⟨(freeP_iff hok v i).1 h1.1.1, h1.1.2, h1.2⟩
theorem plc_has {t : List Nd} (hok : okT t = true) {v : Int} {j : Nat} (h : FreeV t v j) : 0 ≤ placeT t v (freeR t v) := by
  have h0 := (okT_len hok).1
  have hj := h.p.le (okT_parts hok) (by omega)
  unfold placeT
  cases hf : (List.range t.length).find? (fun i => ((freeR t v).getD i false && decide ((t.getD i default).op = 1)) && decide ((t.getD i default).k = v)) with
  | none =>
    have := List.find?_eq_none.1 hf j (List.mem_range.2 (by omega))
    simp only [Bool.and_eq_true, decide_eq_true_eq] at this
    exact absurd ⟨⟨(freeP_iff hok v j).2 h.p, h.o⟩, h.k⟩ this
  | some i => exact Int.natCast_nonneg i
theorem val_at {c : List Nd} {e : List Int} (h : vOkI c e = true) : okT c = true ∧ e.length = 8 ∧ Fit c e (c.length - 1) ∧ valI c e = evT quI c e (c.length - 1) := by
  refine ⟨?_, ?_, ?_, if_pos h⟩ <;>
  · unfold vOkI at h
    simp only [Bool.and_eq_true, decide_eq_true_eq] at h
    obtain ⟨⟨⟨hok, he⟩, hs⟩, _⟩ := h
    first | exact hok | exact he | exact (suits_iff hok e).1 hs
theorem zer_at (x : Nat) : zer8.getD x 0 = 0 := by
  unfold zer8
  rcases Nat.lt_or_ge x 8 with h | h
  · have : x = 0 ∨ x = 1 ∨ x = 2 ∨ x = 3 ∨ x = 4 ∨ x = 5 ∨ x = 6 ∨ x = 7 := by omega
    rcases this with h | h | h | h | h | h | h | h <;> subst h <;> rfl
  · rw [List.getD_eq_getElem?_getD, List.getElem?_eq_none (by simpa using h)]; rfl
/-! ### Two terms and a node of both -/
section
variable {a b : List Nd}
end
end Go.Proofs.YtkdkbnacelnljaaGreat.RE
