/- Drawing terms with constants. Conditions: those that a theorem names. -/
import Derived.Test.YtkdkbnacelnljaaGreatNF9
import Derived.Test.YtkdkbnacelnljaaGreatNGC
import Derived.Test.YtkdkbnacelnljaaGreatNGE
set_option linter.unusedVariables false
set_option linter.unusedSimpArgs false
namespace Go.Proofs.YtkdkbnacelnljaaGreat.RE
open Go Go.RowKit
set_option maxRecDepth 100000
set_option maxHeartbeats 8000000
/-! ### A part of a row lent, wherever it lies -/
section
variable {P : Program} {f : FuncId} {st : St} {d : Option Tmp} {K : St → Prop} {t : List Nd} {o n g : Nat} {al : List AV}
end
/-! ### A variable replaced by a number -/
theorem nd_eq {a b : Nd} (h : a.op = b.op ∧ a.w = b.w ∧ a.k = b.k ∧ a.a = b.a ∧ a.b = b.b ∧ a.c = b.c) : a = b := by
  obtain ⟨h1, h2, h3, h4, h5, h6⟩ := h
  cases a; cases b; simp_all
theorem take_extN {a b : List Nd} {x : Nat} (hl : a.length = b.length) (hx : x < a.length) (h : a.take x = b.take x) (he : a.getD x default = b.getD x default) : a.take (x + 1) = b.take (x + 1) := by
  rw [take_push default hx, take_push default (by omega), h, he]
theorem sameNodes_c (a b : List Nd) (ha : a.length ≤ 1048576) (hb : b.length ≤ 1048576) : Val E.P 20 [dN a, dN b] (T (decide (a = b))) := by
  refine CallsA.body (E := E) (fn := Tryz.f20) Tryz.func20 rfl fun B hB => ?_
  simp only [Tryz.ntmps20, go_sem, nl, Nat.reduceSub, Nat.reduceAdd, List.reduceReplicate]
  refine Wp.seqK fun K1 hK1 => ?_
  refine rg ?_
  refine hK1 _ ?_
  clear hK1 K1
  refine Wp.seqK fun K2 hK2 => ?_
  refine Wp.seqK fun K3 hK3 => ?_
  refine rg ?_
  refine hK3 _ ?_
  clear hK3 K3
  refine Wp.condS (fun h10 => ?_) (fun h10 => ?_)
  · refine Wp.seqK fun K4 hK4 => ?_
    refine rg ?_
    refine hK4 _ ?_
    clear hK4 K4
    refine Wp.ret (retV ?_)
    try simp only [List.getD_cons_zero, List.getD_cons_succ]
    rw [decide_eq_false (fun e => h10 (by rw [e]))]
  · have hl : a.length = b.length := by omega
    refine Wp.skip ?_
    refine hK2 _ ?_
    clear hK2 K2
    refine Wp.seqK fun K5 hK5 => ?_
    refine Wp.seqK fun K6 hK6 => ?_
    refine rg ?_
    refine hK6 _ ?_
    clear hK6 K6
    refine Wp.block ?_
    refine Wp.loopU0 (α := Nat) (fun x => [.k, .k, .d, .d, .d, .v (I x), .d5, .d5, .d5, .d5]) (fun x => x ≤ a.length ∧ a.take x = b.take x) (fun x => a.length - x) 0 (⟨Nat.zero_le _, rfl⟩) anyS ?_
    rintro x f7 K7 ⟨hx, he⟩ hK7
    simp only [updT_k, updT_d, updT_d5, updT_v, updT_nil, Nat.reduceAdd]
    refine Wp.seqK fun K8 hK8 => ?_
    refine Wp.seqK fun K9 hK9 => ?_
    refine rg ?_
    refine hK9 _ ?_
    clear hK9 K9
    refine Wp.condS (fun h14 => ?_) (fun h14 => ?_)
    · have hxl : x < a.length := by omega
      refine Wp.skip ?_
      refine hK8 _ ?_
      clear hK8 K8
      refine Wp.seqK fun K10 hK10 => ?_
      refine Wp.block ?_
      refine Wp.seqK fun K11 hK11 => ?_
      refine Wp.drawI [0, 1, 2, 3, 4, 5, 6, 7] [] (by kernel_rfl) ?_
      refine evd ?_
      refine ⟨rfl, ?_⟩
      refine hK11 _ ?_
      clear hK11 K11
      refine Wp.condS (fun h25 => ?_) (fun h25 => ?_)
      · have hne : ¬ a.getD x default = b.getD x default := fun e => by rw [e] at h25; simp at h25
        refine Wp.seqK fun K12 hK12 => ?_
        refine rg ?_
        refine hK12 _ ?_
        clear hK12 K12
        refine Wp.ret (retV ?_)
        try simp only [List.getD_cons_zero, List.getD_cons_succ]
        rw [decide_eq_false (fun e => hne (by rw [e]))]
      · have hee : a.getD x default = b.getD x default := nd_eq h25
        refine Wp.skip ?_
        try simp only [thn, inB, if_true, reduceIte]
        refine hK10 _ ?_
        clear hK10 K10
        refine rg ?_
        exact hK7 (x + 1) _ ⟨by omega, take_extN hl hxl he hee⟩ (by omega) anyS
    · have hxl : x = a.length := by omega
      refine Wp.exit ?_
      try simp only [thn, inB, if_true, reduceIte]
      clear hK8 K8
      clear hK7 K7
      refine hK5 _ ?_
      clear hK5 K5
      refine Wp.seqK fun K13 hK13 => ?_
      refine rg ?_
      refine hK13 _ ?_
      clear hK13 K13
      refine Wp.ret (retV ?_)
      try simp only [List.getD_cons_zero, List.getD_cons_succ]
      rw [hxl, List.take_length, hl, List.take_length] at he
      simp [he]
end Go.Proofs.YtkdkbnacelnljaaGreat.RE

/-! Renaming, both sides. Conditions: those that a theorem names. -/
set_option linter.unusedVariables false
set_option linter.unusedSimpArgs false
namespace Go.Proofs.YtkdkbnacelnljaaGreat.RE
open Go Go.RowKit
set_option maxRecDepth 100000
set_option maxHeartbeats 8000000
/-! ### Renaming, both sides -/
def badR (t : List Nd) (v u : Int) (i : Nat) : Bool := (named (t.getD i default) && decide ((t.getD i default).k = u)) && !decide (u = v)
theorem numB_any (t : List Nd) (u : Int) : numB t u = (List.range t.length).any fun i => named (t.getD i default) && decide ((t.getD i default).k = u) := by
  rw [Bool.eq_iff_iff]
  unfold numB
  rw [List.any_eq_true, List.any_eq_true]
  constructor
  · rintro ⟨n, hn, h⟩
    obtain ⟨j, hj, rfl⟩ := List.mem_iff_getElem.1 hn
    exact ⟨j, List.mem_range.2 hj, by rw [getD_at (d := default) hj] at h; exact h⟩
  · rintro ⟨j, hj, h⟩
    exact ⟨t.getD j default, mem_gV (List.mem_range.1 hj), h⟩
theorem rnm_bad {t : List Nd} {v u : Int} {i : Nat} (hi : i < t.length) (h : badR t v u i = true) : rnmT t v u = ([], false) := by
  unfold badR at h
  rw [Bool.and_eq_true] at h
  unfold rnmT
  rw [if_neg]
  rw [h.2, numB_any, any_at hi h.1]
  simp
theorem rnm_no {t : List Nd} {v u : Int} (h : (okT t && (decide (0 ≤ u) && decide (u ≤ 7))) = false) : rnmT t v u = ([], false) := by
  unfold rnmT
  rw [h]; rfl
theorem rnm_yes {t : List Nd} {v u : Int} (h : (okT t && (decide (0 ≤ u) && decide (u ≤ 7))) = true) (h2 : (!decide (u = v) && numB t u) = false) : rnmT t v u = (turnL t v u, true) := by
  unfold rnmT
  rw [h, h2]; rfl
theorem rnm_none {t : List Nd} {v u : Int} (h : ∀ j, j < t.length → badR t v u j = false) : (!decide (u = v) && numB t u) = false := by
  rw [numB_any]
  cases hd : decide (u = v) with
  | true => rfl
  | false =>
    rw [Bool.not_false, Bool.true_and]
    refine any_none fun j hj => ?_
    have := h j hj
    unfold badR at this
    rw [hd] at this
    simpa using this
/-- The nodes ahead of x under the new number, the others as they were. -/
def rnN (t : List Nd) (v u : Int) (x : Nat) : List Nd := (t.take x).map (turnN v u) ++ t.drop x
theorem rnN_0 (t : List Nd) (v u : Int) : rnN t v u 0 = t := by simp [rnN]
theorem rnN_end (t : List Nd) (v u : Int) : rnN t v u t.length = turnL t v u := by simp [rnN, turnL]
theorem rnN_len {t : List Nd} {v u : Int} {x : Nat} (h : x ≤ t.length) : (rnN t v u x).length = t.length := by simp [rnN]; omega
theorem rnN_set {t : List Nd} {v u : Int} {x : Nat} (h : x < t.length) : (rnN t v u x).set x (turnN v u (t.getD x default)) = rnN t v u (x + 1) := by
  unfold rnN
  have hl : ((t.take x).map (turnN v u)).length = x := by simp; omega
  rw [List.set_append_right _ _ (by omega), hl, Nat.sub_self, take_push default h, List.map_append, List.drop_eq_getElem_cons h, List.set_cons_zero]
  simp
theorem rnN_at {t : List Nd} {v u : Int} {x : Nat} (h : x < t.length) : (rnN t v u x).getD x default = t.getD x default := by
  unfold rnN
  have hl : ((t.take x).map (turnN v u)).length = x := by simp; omega
  rw [List.getD_eq_getElem?_getD, List.getElem?_append_right (by omega), hl, Nat.sub_self, List.getElem?_drop, Nat.add_zero, ← List.getD_eq_getElem?_getD]
theorem rnN_same {t : List Nd} {v u : Int} {x : Nat} (h : x < t.length) (e : turnN v u (t.getD x default) = t.getD x default) : rnN t v u (x + 1) = rnN t v u x := by
  rw [← rnN_set h, e]
  apply List.ext_getElem?
  intro j
  by_cases hj : x = j
  · subst hj
    have hl := rnN_len (t := t) (v := v) (u := u) (Nat.le_of_lt h)
    rw [List.getElem?_set_self (by omega), ← rnN_at (v := v) (u := u) h, List.getElem?_eq_getElem (by omega), ← getD_at (d := default) (by omega)]
  · rw [List.getElem?_set_ne hj]
theorem iRename_c (t : List Nd) (v u : Int) (hlb : t.length ≤ 1048576) : Ret E.P 14 [dN t, I v, I u] (.tup [.l (.obj 0 0 6 0 (rnmT t v u).1.length), TB (rnmT t v u).2]) [some ⟨0, lN (rnmT t v u).1⟩] := by
  refine CallsA.body (E := E) (fn := Tryz.f14) Tryz.func14 rfl fun B hB => ?_
  simp only [Tryz.ntmps14, go_sem, nl, Nat.reduceSub, Nat.reduceAdd, List.reduceReplicate]
  refine Wp.seqK fun K1 hK1 => ?_
  refine rg ?_
  refine hK1 _ ?_
  clear hK1 K1
  refine Wp.seqK fun K2 hK2 => ?_
  refine Wp.seqU0 [.k, .k, .k, .d5, .d5, .d5, .v (T (!(okT t && (decide (0 ≤ u) && decide (u ≤ 7))))), .d5, .d5, .d5, .d5, .d5, .d5, .d5, .d, .d] (fun K3 hK3 => ?_) ?_
  · refine rg ?_
    refine ⟨rfl, CallK.valA (h := iTermOk_c _) (k := ?_)⟩
    refine evd ?_
    refine grdA_split rfl (fun g1_4 => ?_) (fun g1_4 => ?_)
    · try simp only [decide_eq_true_eq, decide_eq_false_iff_not] at g1_4
      try refine evd ?_
      have e : okT t = false := by simpa using g1_4
      exact hK3 _ (anyS (h := by rw [e] <;> rfl))
    · try simp only [decide_eq_true_eq, decide_eq_false_iff_not] at g1_4
      try refine evd ?_
      refine ⟨rfl, CallK.valA (h := isVar_c _) (k := ?_)⟩
      refine evd ?_
      have e : okT t = true := by simpa using g1_4
      exact hK3 _ (anyS (h := by rw [e] <;> rfl))
  rintro f3
  simp only [updT_k, updT_d, updT_d5, updT_v, updT_nil, Nat.reduceAdd]
  refine Wp.condS (fun h18 => ?_) (fun h18 => ?_)
  · have ha : (okT t && (decide (0 ≤ u) && decide (u ≤ 7))) = false := by simpa using h18
    have hr := rnm_no (v := v) ha
    refine Wp.seqK fun K4 hK4 => ?_
    refine rg ?_
    refine hK4 _ ?_
    clear hK4 K4
    refine Wp.nilRow 6 6 rfl ?_
    simp only [List.set_cons_zero, List.set_cons_succ, List.cons_append, List.nil_append, List.length_cons, List.length_nil]
    refine Wp.ret (retRB ?_ ?_ ?_)
    all_goals rw [hr]
    all_goals rfl
  · have ha : (okT t && (decide (0 ≤ u) && decide (u ≤ 7))) = true := by simpa using h18
    have hok : okT t = true := ((Bool.and_eq_true _ _).mp ha).1
    have hl := okT_len hok
    refine Wp.skip ?_
    refine hK2 _ ?_
    clear hK2 K2
    refine Wp.seqK fun K5 hK5 => ?_
    refine rg ?_
    refine hK5 _ ?_
    clear hK5 K5
    refine Wp.seqK fun K6 hK6 => ?_
    refine Wp.seqK fun K7 hK7 => ?_
    refine rg ?_
    refine hK7 _ ?_
    clear hK7 K7
    refine Wp.block ?_
    refine Wp.loopU (α := Nat) (fun x => [.d, .k, .k, .d5, .k, .d5, .d5, .d, .d, .k, .k, .v (I x), .d5, .d5, .d5, .d5, .d5, .d5, .d, .d]) (fun x => [some ⟨0, lN (rnN t v u x)⟩]) (fun x => x ≤ t.length ∧ ∀ j, j < x → badR t v u j = false) (fun x => t.length - x) 0 (⟨Nat.zero_le _, fun j h => absurd h (Nat.not_lt_zero j)⟩) (anyS (ho := by rw [rnN_0] <;> rfl)) ?_
    rintro x f8 K8 ⟨hx, hib⟩ hK8
    simp only [updT_k, updT_d, updT_d5, updT_v, updT_nil, Nat.reduceAdd]
    have hrl := rnN_len (v := v) (u := u) hx
    refine Wp.seqK fun K9 hK9 => ?_
    refine rg ?_
    refine hK9 _ ?_
    clear hK9 K9
    refine Wp.seqK fun K10 hK10 => ?_
    refine Wp.condS (fun h24 => ?_) (fun h24 => ?_)
    · have hxl : x < t.length := by omega
      refine Wp.skip ?_
      refine hK10 _ ?_
      clear hK10 K10
      refine Wp.seqU (α := Unit) (fun u_ => [.d, .k, .k, .d5, .k, .d5, .d5, .d, .d, .k, .k, .k, .d5, .d5, .d5, .d5, .d5, .d5, .d, .d]) (fun u_ => [some ⟨0, lN (rnN t v u (x + 1))⟩, some ⟨0, nl (t.getD x default)⟩]) (fun u_ => badR t v u x = false) (fun K11 hK11 => ?_) ?_
      · refine Wp.block ?_
        refine Wp.seqK fun K12 hK12 => ?_
        refine rg ?_
        refine hK12 _ ?_
        clear hK12 K12
        refine Wp.seqK fun K13 hK13 => ?_
        refine Wp.seqU0 [.d, .k, .k, .d5, .k, .k, .k, .d5, .d5, .k, .k, .k, .d5, .d5, .d5, .d, .v (T (badR t v u x)), .d5, .d5, .d5] (fun K14 hK14 => ?_) ?_
        · refine rg ?_
          refine ⟨rfl, CallK.valA (h := ofVar_c _) (k := ?_)⟩
          refine evd ?_
          refine grdA_split rfl (fun g7_3 => ?_) (fun g7_3 => ?_)
          · try simp only [decide_eq_true_eq, decide_eq_false_iff_not] at g7_3
            try refine evd ?_
            refine grdA_split rfl (fun g7_9 => ?_) (fun g7_9 => ?_)
            · try simp only [decide_eq_true_eq, decide_eq_false_iff_not] at g7_9
              try refine evd ?_
              exact hK14 _ (anyS (h := by first | rfl | (simp only [badR, g7_3, g7_9, Bool.true_or, Bool.or_true, Bool.false_or, Bool.or_false, Bool.true_and, Bool.and_true, Bool.false_and, Bool.and_false, Bool.not_true, Bool.not_false, decide_true, decide_false, eq_self, Int.reduceEq] <;> rfl)))
            · try simp only [decide_eq_true_eq, decide_eq_false_iff_not] at g7_9
              try refine evd ?_
              exact hK14 _ (anyS (h := by first | rfl | (simp only [badR, g7_3, g7_9, Bool.true_or, Bool.or_true, Bool.false_or, Bool.or_false, Bool.true_and, Bool.and_true, Bool.false_and, Bool.and_false, Bool.not_true, Bool.not_false, decide_true, decide_false, eq_self, Int.reduceEq] <;> rfl)))
          · try simp only [decide_eq_true_eq, decide_eq_false_iff_not] at g7_3
            try refine evd ?_
            exact hK14 _ (anyS (h := by first | rfl | (simp only [badR, g7_3, Bool.true_or, Bool.or_true, Bool.false_or, Bool.or_false, Bool.true_and, Bool.and_true, Bool.false_and, Bool.and_false, Bool.not_true, Bool.not_false, decide_true, decide_false, eq_self, Int.reduceEq] <;> rfl)))
        rintro f14
        simp only [updT_k, updT_d, updT_d5, updT_v, updT_nil, Nat.reduceAdd]
        refine Wp.condS (fun h40 => ?_) (fun h40 => ?_)
        · have hr := rnm_bad hxl h40
          refine Wp.seqK fun K15 hK15 => ?_
          refine rg ?_
          refine hK15 _ ?_
          clear hK15 K15
          refine Wp.nilRow 6 6 rfl ?_
          simp only [List.set_cons_zero, List.set_cons_succ, List.cons_append, List.nil_append, List.length_cons, List.length_nil]
          refine Wp.ret (retRB ?_ ?_ ?_)
          all_goals rw [hr]
          all_goals rfl
        · have hbn : badR t v u x = false := h40
          refine Wp.skip ?_
          refine hK13 _ ?_
          clear hK13 K13
          refine Wp.seqU0 [.d, .k, .k, .d5, .k, .k, .d5, .d5, .d, .k, .k, .k, .d5, .d5, .d5, .d5, .d, .d, .d, .d, .v (T (named (t.getD x default) && decide ((t.getD x default).k = v))), .d5, .d, .d] (fun K16 hK16 => ?_) ?_
          · refine rg ?_
            refine ⟨rfl, CallK.valA (h := ofVar_c _) (k := ?_)⟩
            refine evd ?_
            refine grdA_split rfl (fun g9_3 => ?_) (fun g9_3 => ?_)
            · try simp only [decide_eq_true_eq, decide_eq_false_iff_not] at g9_3
              try refine evd ?_
              exact hK16 _ (anyS (h := by first | rfl | (simp only [g9_3, Bool.true_or, Bool.or_true, Bool.false_or, Bool.or_false, Bool.true_and, Bool.and_true, Bool.false_and, Bool.and_false, Bool.not_true, Bool.not_false, decide_true, decide_false, eq_self, Int.reduceEq] <;> rfl)))
            · try simp only [decide_eq_true_eq, decide_eq_false_iff_not] at g9_3
              try refine evd ?_
              exact hK16 _ (anyS (h := by first | rfl | (simp only [g9_3, Bool.true_or, Bool.or_true, Bool.false_or, Bool.or_false, Bool.true_and, Bool.and_true, Bool.false_and, Bool.and_false, Bool.not_true, Bool.not_false, decide_true, decide_false, eq_self, Int.reduceEq] <;> rfl)))
          rintro f16
          simp only [updT_k, updT_d, updT_d5, updT_v, updT_nil, Nat.reduceAdd]
          refine Wp.condS (fun h48 => ?_) (fun h48 => ?_)
          · have hk4 := rnN_at (v := v) (u := u) hxl
            have ht : turnN v u (t.getD x default) = ⟨(t.getD x default).op, (t.getD x default).w, u, (t.getD x default).a, (t.getD x default).b, (t.getD x default).c⟩ := if_pos (by rw [Bool.and_eq_true, decide_eq_true_eq]; exact h48)
            refine rg ?_
            try simp only [thn, inB, if_true, reduceIte]
            exact hK11 () _ hbn (anyS (ho := by rw [← rnN_set hxl, ht] <;> first | rfl | (rw [hk4] <;> rfl)))
          · have ht : turnN v u (t.getD x default) = (t.getD x default) := if_neg (by rw [h48]; decide)
            refine Wp.skip ?_
            try simp only [thn, inB, if_true, reduceIte]
            exact hK11 () _ hbn (anyS (ho := by rw [rnN_same hxl ht] <;> rfl))
      rintro _ f11 hbn
      simp only [updT_k, updT_d, updT_d5, updT_v, updT_nil, Nat.reduceAdd]
      refine Wp.keep 1 (by simp [hB]) (by simp) ?_
      refine evd ?_
      refine rg ?_
      exact hK8 (x + 1) _ ⟨by omega, ub_next hib hbn⟩ (by omega) anyS
    · have hxl : x = t.length := by omega
      subst hxl
      simp only [rnN_end]
      have htl := turnL_len t v u
      have hr := rnm_yes ha (rnm_none hib)
      refine Wp.exit ?_
      try simp only [thn, inB, if_true, reduceIte]
      clear hK10 K10
      clear hK8 K8
      refine hK6 _ ?_
      clear hK6 K6
      refine Wp.seqK fun K17 hK17 => ?_
      refine rg ?_
      refine hK17 _ ?_
      clear hK17 K17
      refine Wp.ret (retRB (cs := lN (turnL t v u)) ?_ ?_ ?_)
      · rw [hr, htl]
      · rw [hr]
      · rw [hr]
theorem trn_push {t : List Nd} {v u : Int} {x : Nat} (h : x < t.length) : (t.take x).map (turnN v u) ++ [turnN v u (t.getD x default)] = (t.take (x + 1)).map (turnN v u) := by
  rw [take_push default h, List.map_append]; rfl
theorem l15Turn_c (t : List Nd) (v u : Int) (hlb : t.length ≤ 1048576) : Row E.P 37 [dN t, I v, I u] 6 (turnL t v u).length (lN (turnL t v u)) := by
  refine CallsA.body (E := E) (fn := Tryz.f37) Tryz.func37 rfl fun B hB => ?_
  simp only [Tryz.ntmps37, go_sem, nl, Nat.reduceSub, Nat.reduceAdd, List.reduceReplicate]
  refine Wp.seqK fun K1 hK1 => ?_
  refine rg ?_
  refine hK1 _ ?_
  clear hK1 K1
  refine Wp.seqK fun K2 hK2 => ?_
  refine rg ?_
  refine hK2 _ ?_
  clear hK2 K2
  refine Wp.seqK fun K3 hK3 => ?_
  refine Wp.seqK fun K4 hK4 => ?_
  refine rg ?_
  refine hK4 _ ?_
  clear hK4 K4
  refine Wp.block ?_
  refine Wp.loopU (α := Nat) (fun x => [.k, .k, .k, .d, .d, .d, .d, .v (.l (.obj 0 x 6 0 x)), .v (I x), .d5, .d5, .d5, .d5, .d5, .d, .d]) (fun x => [some ⟨x, lN ((t.take x).map (turnN v u))⟩]) (fun x => x ≤ t.length) (fun x => t.length - x) 0 (Nat.zero_le _) (anyS) ?_
  rintro x f5 K5 hx hK5
  simp only [updT_k, updT_d, updT_d5, updT_v, updT_nil, Nat.reduceAdd]
  have hml : ((t.take x).map (turnN v u)).length = x := by simp; omega
  refine Wp.seqK fun K6 hK6 => ?_
  refine Wp.seqK fun K7 hK7 => ?_
  refine rg ?_
  refine hK7 _ ?_
  clear hK7 K7
  refine Wp.condS (fun h14 => ?_) (fun h14 => ?_)
  · have hxl : x < t.length := by omega
    refine Wp.skip ?_
    refine hK6 _ ?_
    clear hK6 K6
    refine Wp.seqK fun K8 hK8 => ?_
    refine Wp.block ?_
    refine Wp.seqK fun K9 hK9 => ?_
    refine rg ?_
    refine hK9 _ ?_
    clear hK9 K9
    refine Wp.seqU (α := Unit) (fun u_ => [.k, .k, .k, .d, .d, .d, .d, .k, .k, .k, .d5, .d5, .d5, .d5, .d5, .d]) (fun u_ => [some ⟨x, lN ((t.take x).map (turnN v u))⟩, some ⟨0, nl (turnN v u (t.getD x default))⟩]) (fun u_ => True) (fun K10 hK10 => ?_) ?_
    · refine Wp.seqU0 [.k, .k, .k, .d, .d, .d, .d, .k, .k, .k, .d5, .d5, .d5, .d, .d, .d, .v (T (named (t.getD x default) && decide ((t.getD x default).k = v))), .d5, .d, .d] (fun K11 hK11 => ?_) ?_
      · refine rg ?_
        refine ⟨rfl, CallK.valA (h := l15Named_c _) (k := ?_)⟩
        refine evd ?_
        refine grdA_split rfl (fun g6_3 => ?_) (fun g6_3 => ?_)
        · try simp only [decide_eq_true_eq, decide_eq_false_iff_not] at g6_3
          try refine evd ?_
          exact hK11 _ (anyS (h := by first | rfl | (simp only [g6_3, Bool.true_or, Bool.or_true, Bool.false_or, Bool.or_false, Bool.true_and, Bool.and_true, Bool.false_and, Bool.and_false, Bool.not_true, Bool.not_false, decide_true, decide_false, eq_self, Int.reduceEq] <;> rfl)))
        · try simp only [decide_eq_true_eq, decide_eq_false_iff_not] at g6_3
          try refine evd ?_
          exact hK11 _ (anyS (h := by first | rfl | (simp only [g6_3, Bool.true_or, Bool.or_true, Bool.false_or, Bool.or_false, Bool.true_and, Bool.and_true, Bool.false_and, Bool.and_false, Bool.not_true, Bool.not_false, decide_true, decide_false, eq_self, Int.reduceEq] <;> rfl)))
      rintro f11
      simp only [updT_k, updT_d, updT_d5, updT_v, updT_nil, Nat.reduceAdd]
      refine Wp.condS (fun h28 => ?_) (fun h28 => ?_)
      · have ht : turnN v u (t.getD x default) = ⟨(t.getD x default).op, (t.getD x default).w, u, (t.getD x default).a, (t.getD x default).b, (t.getD x default).c⟩ := if_pos (by rw [Bool.and_eq_true, decide_eq_true_eq]; exact h28)
        refine rg ?_
        exact hK10 () _ trivial (anyS (ho := by rw [ht] <;> rfl))
      · have ht : turnN v u (t.getD x default) = (t.getD x default) := if_neg (by rw [h28]; decide)
        refine Wp.skip ?_
        exact hK10 () _ trivial (anyS (ho := by rw [ht] <;> rfl))
    rintro _ f10 _
    simp only [updT_k, updT_d, updT_d5, updT_v, updT_nil, Nat.reduceAdd]
    refine rg ?_
    try simp only [thn, inB, if_true, reduceIte]
    refine hK8 _ ?_
    clear hK8 K8
    refine Wp.keep 1 (by simp [hB]) (by simp) ?_
    refine evd ?_
    refine rg ?_
    exact hK5 (x + 1) _ (by omega) (by omega) (anyS (ho := by rw [← trn_push hxl] <;> rfl))
  · have hxl : x = t.length := by omega
    subst hxl
    simp only [List.take_length]
    refine Wp.exit ?_
    try simp only [thn, inB, if_true, reduceIte]
    clear hK6 K6
    clear hK5 K5
    refine hK3 _ ?_
    clear hK3 K3
    refine Wp.seqK fun K12 hK12 => ?_
    refine rg ?_
    refine hK12 _ ?_
    clear hK12 K12
    refine Wp.ret (retR (cs := lN (turnL t v u)) (by rw [turnL_len]) rfl (lN_flat _))
theorem nums_at {t : List Nd} {u : Int} (h : 0 ≤ u ∧ u ≤ 7) : (numsT t).getD u.toNat false = numB t u := by
  have : u.toNat < 8 := by omega
  simp [numsT, List.getD_eq_getElem?_getD, this]
  rw [Int.max_eq_left h.1]
def rnmB (t : List Nd) (v u : Int) : Bool := (okT t && (decide (0 ≤ u) && decide (u ≤ 7))) && !(!decide (u = v) && numB t u)
theorem sRename_c (t : List Nd) (v u : Int) (hlb : t.length ≤ 1048576) : Ret E.P 15 [dN t, I v, I u] (.tup [.l (.obj 0 0 6 0 (rnmT t v u).1.length), TB (rnmT t v u).2]) [some ⟨0, lN (rnmT t v u).1⟩] := by
  refine CallsA.body (E := E) (fn := Tryz.f15) Tryz.func15 rfl fun B hB => ?_
  simp only [Tryz.ntmps15, go_sem, nl, Nat.reduceSub, Nat.reduceAdd, List.reduceReplicate]
  have hnl := numsT_len t
  refine Wp.seqK fun K1 hK1 => ?_
  refine rg ?_
  refine hK1 _ ?_
  clear hK1 K1
  refine Wp.seqK fun K2 hK2 => ?_
  refine Wp.seqU (α := Obs) (fun o => [.k, .k, .k, .d5, .d5, .d5, .d5, .d, .d, .d, .d, .v (T (!rnmB t v u)), .d5]) (fun o => o) (fun o => True) (fun K3 hK3 => ?_) ?_
  · refine rg ?_
    refine ⟨rfl, CallK.valA (h := sTermOk_c _) (k := ?_)⟩
    refine evd ?_
    refine grdA_split rfl (fun g1_4 => ?_) (fun g1_4 => ?_)
    · try simp only [decide_eq_true_eq, decide_eq_false_iff_not] at g1_4
      try refine evd ?_
      have e : okT t = false := by simpa using g1_4
      exact hK3 [] _ trivial (anyS (h := by unfold rnmB; rw [e] <;> rfl))
    · try simp only [decide_eq_true_eq, decide_eq_false_iff_not] at g1_4
      try refine evd ?_
      refine ⟨rfl, CallK.valA (h := l01In_c _ _ _) (k := ?_)⟩
      refine evd ?_
      refine grdA_split rfl (fun g1_9 => ?_) (fun g1_9 => ?_)
      · try simp only [decide_eq_true_eq, decide_eq_false_iff_not] at g1_9
        try refine evd ?_
        have e : okT t = true := by simpa using g1_4
        have e2 : (decide (0 ≤ u) && decide (u ≤ 7)) = false := by simpa only [Bool.not_eq_true'] using g1_9
        exact hK3 [] _ trivial (anyS (h := by unfold rnmB; rw [e, e2] <;> rfl))
      · try simp only [decide_eq_true_eq, decide_eq_false_iff_not] at g1_9
        have hu7 : 0 ≤ u ∧ u ≤ 7 := by simpa using g1_9
        try refine evd ?_
        refine grdA_split rfl (fun g1_13 => ?_) (fun g1_13 => ?_)
        · try simp only [decide_eq_true_eq, decide_eq_false_iff_not] at g1_13
          try refine evd ?_
          refine ⟨rfl, CallK.rowA (h := l15Nums_c _ (by omega)) (k := ?_)⟩
          refine evd ?_
          have e : okT t = true := by simpa using g1_4
          have e2 : (decide (0 ≤ u) && decide (u ≤ 7)) = true := by simpa using g1_9
          have e3 : decide (u = v) = false := by simpa using g1_13
          have e4 := nums_at (t := t) hu7
          exact hK3 [some ⟨0, (numsT t).map cb⟩] _ trivial (anyS (h := by unfold rnmB; rw [e, e2, e3, ← e4] <;> first | rfl | (simp only [Bool.true_and, Bool.not_false, Bool.not_not] <;> rfl)))
        · try simp only [decide_eq_true_eq, decide_eq_false_iff_not] at g1_13
          try refine evd ?_
          have e : okT t = true := by simpa using g1_4
          have e2 : (decide (0 ≤ u) && decide (u ≤ 7)) = true := by simpa using g1_9
          have e3 : decide (u = v) = true := by simpa using g1_13
          exact hK3 [] _ trivial (anyS (h := by unfold rnmB; rw [e, e2, e3] <;> rfl))
  rintro o f3 _
  simp only [updT_k, updT_d, updT_d5, updT_v, updT_nil, Nat.reduceAdd]
  refine Wp.condS (fun h27 => ?_) (fun h27 => ?_)
  · have hb : rnmB t v u = false := by simpa using h27
    have hr : rnmT t v u = ([], false) := if_neg (by show ¬ rnmB t v u = true; rw [hb]; decide)
    refine Wp.seqK fun K4 hK4 => ?_
    refine Wp.keep 0 (by simp [hB]) (by simp) ?_
    refine evd ?_
    refine rg ?_
    refine hK4 _ ?_
    clear hK4 K4
    refine Wp.ret (retRB (cs := lN []) ?_ ?_ ?_)
    · rw [hr] <;> rfl
    · rw [hr] <;> rfl
    · rw [hr] <;> rfl
  · have hb : rnmB t v u = true := by simpa using h27
    have hr : rnmT t v u = (turnL t v u, true) := if_pos hb
    refine Wp.skip ?_
    refine hK2 _ ?_
    clear hK2 K2
    refine Wp.seqK fun K5 hK5 => ?_
    refine Wp.keep 0 (by simp [hB]) (by simp) ?_
    refine evd ?_
    refine rg ?_
    refine ⟨rfl, CallK.rowA (h := l15Turn_c _ _ _ (by omega)) (k := ?_)⟩
    refine evd ?_
    refine hK5 _ ?_
    clear hK5 K5
    refine Wp.ret (retRB (cs := lN (turnL t v u)) ?_ ?_ ?_)
    · rw [hr]
    · rw [hr]
    · rw [hr]
end Go.Proofs.YtkdkbnacelnljaaGreat.RE

/-! A renamed sentence, the law. Conditions: those that a theorem names. -/
set_option linter.unusedVariables false
set_option linter.unusedSimpArgs false
namespace Go.Proofs.YtkdkbnacelnljaaGreat.RE
open Go Go.RowKit
set_option maxRecDepth 100000
set_option maxHeartbeats 8000000
/-! ### A drawn sentence -/
def QDs (p : List Nd → Nat → Prop) : AV → Obs → Prop := fun r ob => ∃ (t : List Nd) (n : Nat), p t n ∧ r = .l (.obj 0 0 6 0 n) ∧ ob = [some ⟨0, lN t⟩]
theorem retDs {p : List Nd → Nat → Prop} {st : St} {fn : Func} {c : Ob} {t : List Nd} {n : Nat} (hp : p t n) (h : resA st.tm st.ob E fn.results.toList = some (.l (.obj 1 0 6 0 n)) := by rfl) (hob : st.ob = [some c, some ⟨0, lN t⟩] := by rfl) : retQ E fn 0 (QDs p) .ret st := by
  refine ⟨_, [1], h, Nat.zero_le _, by simp, by simp, t, n, hp, ?_, ?_⟩
  · rw [hob]; rfl
  · rw [hob]
    simp only [keepO, List.take_zero, List.map_cons, List.map_nil, List.nil_append, List.getD_cons_succ, List.getD_cons_zero, Option.map_some, map_flat (lN_flat _)]
theorem CallK.drawS {p : List Nd → Nat → Prop} {P : Program} {f : FuncId} {args args' : List AV} {st : St} {d : Option Tmp} {K : St → Prop} (h : CallsA P f args' [] (QDs p))
    (k : ∀ (t : List Nd) (n : Nat), p t n → K ⟨putT st.tm d (.l (.obj st.ob.length 0 6 0 n)), st.ob ++ [some ⟨0, lN t⟩]⟩) (ha : args.map (AV.toC (List.range 0) []) = args' := by rfl) : CallK P f args st d K :=
  CallK.handE 0 (obm := []) h (fun r ob1 ⟨t, n, hp, e1, e2⟩ => ⟨[], [some ⟨0, lN t⟩], e2, rfl, rfl, by
    have := k t n hp
    rw [e1]
    simpa [AV.ren, TV.ren, LV.ren, shm, Ob.ren, map_flat (lN_flat t)] using this⟩) rfl ha rfl (Nat.zero_le _)
theorem DrawSaid_c (l : List Int) (hl : l.length ≤ 1048576) : CallsA E.P 12 [dY l] [] (QDs (pSent 8)) := by
  refine CallsA.body (E := E) (fn := Tryz.f12) Tryz.func12 rfl fun B hB => ?_
  simp only [Tryz.ntmps12, go_sem, nl, Nat.reduceSub, Nat.reduceAdd, List.reduceReplicate]
  refine Wp.seqK fun K1 hK1 => ?_
  refine rg ?_
  refine hK1 _ ?_
  clear hK1 K1
  refine Wp.seqK fun K2 hK2 => ?_
  refine rg ?_
  refine ⟨rfl, CallK.new0 (h := l01New_c l hl) (fun s1_1 => ?_)⟩
  refine evd ?_
  refine hK2 _ ?_
  clear hK2 K2
  refine Wp.seqK fun K3 hK3 => ?_
  refine rg ?_
  refine ⟨rfl, CallK.t1 (h := l02Sentence_c l hl 0 s1_1 (by omega) 8 (by omega)) (fun i2_1 s2_1 t2_1 n2_1 hi2_1 hp2_1 => ?_)⟩
  refine evd ?_
  refine hK3 _ ?_
  clear hK3 K3
  refine Wp.ret (retDs (t := t2_1) hp2_1)
theorem atT_nn {l : List Int} {k : Int} (hk : 0 ≤ k) (h : ∀ x ∈ l, 0 ≤ x ∧ x ≤ 255) : 0 ≤ atT l k := by
  unfold atT
  split
  · have h1 := h _ (mem_getD (l := l) (i := k.toNat) (d := 0) (by omega))
    rw [wr (by omega) (by omega)]
    exact h1.1
  · exact Int.tmod_nonneg _ (by omega)
theorem qb_qsum {t : List Nd} (hok : okT t = true) : qbT t ≤ qsum t := by
  have key : ∀ x, x ≤ t.length → qbN t x ≤ qsum (t.take x) := by
    intro x
    induction x with
    | zero => intro _; simp [qbN, qsum]
    | succ x ih =>
      intro hx
      have h1 := ih (by omega)
      have h2 := qbit_pos hok (show x < t.length by omega)
      have e : qsb (t.getD x default) = qbit (t.getD x default) := rfl
      rw [take_push default (show x < t.length by omega), qsum_app, e]
      show qbN t x + _ ≤ _
      split <;> omega
  have := key t.length (Nat.le_refl _)
  rwa [List.take_length] at this
structure Names (t : List Nd) (v u : Int) (w : Int) : Prop where
  a : holdsI t = (w, true)
  b : holdsI (rnmT t v u).1 = (w, true)
  c : (holdsS t).1 = w
  n : (varsT (rnmT t v u).1).length = (varsT t).length
  l : levelT (rnmT t v u).1 = levelT t
  k : u ≠ v → rnmT (rnmT t v u).1 u v = (t, true)
  len : (rnmT t v u).1.length = t.length
theorem names_all {t : List Nd} {v u : Int} (hs : sentT t = true) (hq : qsum t ≤ 9) (hv : 0 ≤ v ∧ v < 8) (h : (rnmT t v u).2 = true) : ∃ w, Names t v u w := by
  obtain ⟨hok, hu, hR, he⟩ := rnmT_ok h
  have hb : qbT t ≤ 12 := by have := qb_qsum hok; omega
  obtain ⟨h1, h2, h3⟩ := sent_worth hs hb
  refine ⟨evT quI t zer8 (t.length - 1), ?_⟩
  by_cases e : u = v
  · have er : (rnmT t v u).1 = t := by rw [he, e, turn_same]
    refine ⟨h2, by rw [er]; exact h2, h3, by rw [er], by rw [er], fun hne => absurd e hne, by rw [er]⟩
  · have r := hR e
    refine ⟨h2, by rw [he]; exact r.worth h1 hb, h3, by rw [he]; exact r.vars hv e, by rw [he]; exact r.level, fun _ => by rw [he]; exact r.back hv e, by rw [he, turnL_len]⟩
theorem rnm_zero {t : List Nd} {v u : Int} (h : (rnmT t v u).2 = false) : (rnmT t v u).1 = [] := by
  unfold rnmT at h ⊢
  split
  · rename_i h1; rw [if_pos h1] at h; cases h
  · rfl
theorem rnm_le (t : List Nd) (v u : Int) : (rnmT t v u).1.length ≤ t.length := by
  unfold rnmT
  split
  · rw [turnL_len]; exact Nat.le_refl _
  · exact Nat.zero_le _
theorem lawNames_c (l : List Int) (hlen : (l.length : Int) ≤ 9223372036854775807) (hby : ∀ x ∈ l, 0 ≤ x ∧ x ≤ 255) : Val E.P 4 [dY l] (T true) := by
  refine CallsA.body (E := E) (fn := Tryz.f4) Tryz.func4 rfl fun B hB => ?_
  simp only [Tryz.ntmps4, go_sem, nl, Nat.reduceSub, Nat.reduceAdd, List.reduceReplicate]
  have ha3 := atT_nn (l := l) (k := 3) (by omega) hby
  have ha4 := atT_nn (l := l) (k := 4) (by omega) hby
  have hv0 := Int.tmod_nonneg 4 ha3
  have hv1 := Int.tmod_lt_of_pos (atT l 3) (show (0 : Int) < 4 by omega)
  have hu0 := Int.tmod_nonneg 8 ha4
  have hu1 := Int.tmod_lt_of_pos (atT l 4) (show (0 : Int) < 8 by omega)
  refine Wp.seqK fun K1 hK1 => ?_
  refine rg ?_
  refine hK1 _ ?_
  clear hK1 K1
  refine Wp.seqK fun K2 hK2 => ?_
  refine Wp.seqK fun K3 hK3 => ?_
  refine rg ?_
  refine ⟨rfl, CallK.valA (h := big_c _) (k := ?_)⟩
  refine evd ?_
  refine hK3 _ ?_
  clear hK3 K3
  refine Wp.condS (fun h19 => ?_) (fun h19 => ?_)
  · refine Wp.seqK fun K4 hK4 => ?_
    refine rg ?_
    refine hK4 _ ?_
    clear hK4 K4
    refine Wp.ret (retV ?_)
    try simp only [List.getD_cons_zero, List.getD_cons_succ]
  · have hl : l.length ≤ 1048576 := by omega
    refine Wp.skip ?_
    refine hK2 _ ?_
    clear hK2 K2
    refine Wp.seqK fun K5 hK5 => ?_
    refine rg ?_
    refine ⟨rfl, CallK.drawS (h := DrawSaid_c l hl) (fun t n hp3_1 => ?_)⟩
    obtain ⟨rfl, hp1, hst, hqs⟩ := hp3_1
    have hrl := rnm_le t ((atT l 3).tmod 4) ((atT l 4).tmod 8)
    have hrl2 := rnm_le (rnmT t ((atT l 3).tmod 4) ((atT l 4).tmod 8)).1 ((atT l 4).tmod 8) ((atT l 3).tmod 4)
    refine evd ?_
    refine hK5 _ ?_
    clear hK5 K5
    refine Wp.seqK fun K6 hK6 => ?_
    refine rg ?_
    refine ⟨rfl, CallK.valA (h := at_c _ _ (by omega) (by omega)) (k := ?_)⟩
    refine evd ?_
    refine ⟨rfl, CallK.valA (h := at_c _ _ (by omega) (by omega)) (k := ?_)⟩
    refine evd ?_
    refine hK6 _ ?_
    clear hK6 K6
    refine Wp.seqK fun K7 hK7 => ?_
    refine rg ?_
    refine ⟨rfl, CallK.retA (h := iRename_c _ _ _ (by omega)) (k := ?_)⟩
    refine evd ?_
    refine hK7 _ ?_
    clear hK7 K7
    refine Wp.seqK fun K8 hK8 => ?_
    refine rg ?_
    refine ⟨rfl, CallK.retA (h := sRename_c _ _ _ (by omega)) (k := ?_)⟩
    refine evd ?_
    refine hK8 _ ?_
    clear hK8 K8
    refine Wp.seqK fun K9 hK9 => ?_
    refine Wp.seqK fun K10 hK10 => ?_
    refine rg ?_
    refine hK10 _ ?_
    clear hK10 K10
    refine Wp.condS (fun h44 => ?_) (fun h44 => ?_)
    · first | exact h44.elim | exact absurd h44 (by decide) | omega | simp at h44
    · refine Wp.skip ?_
      refine hK9 _ ?_
      clear hK9 K9
      refine Wp.seqK fun K11 hK11 => ?_
      refine Wp.seqK fun K12 hK12 => ?_
      refine rg ?_
      refine hK12 _ ?_
      clear hK12 K12
      refine Wp.condS (fun h46 => ?_) (fun h46 => ?_)
      · have hz := rnm_zero h46
        rw [hz]
        refine Wp.seqK fun K13 hK13 => ?_
        refine rg ?_
        refine hK13 _ ?_
        clear hK13 K13
        refine Wp.ret (retV ?_)
        try simp only [List.getD_cons_zero, List.getD_cons_succ]
        try first | rfl | (rw [nk g15_32, decide_eq_true rfl])
      · obtain ⟨w, hN⟩ := names_all (v := ((atT l 3).tmod 4)) (u := ((atT l 4).tmod 8)) hst (by omega) ⟨hv0, by omega⟩ h46
        obtain ⟨na, nb, nc, nn, nl, nk, nlen⟩ := hN
        refine Wp.skip ?_
        refine hK11 _ ?_
        clear hK11 K11
        refine Wp.seqK fun K14 hK14 => ?_
        refine rg ?_
        refine ⟨rfl, CallK.valA (h := iHolds_c _ (by omega)) (k := ?_)⟩
        refine evd ?_
        refine hK14 _ ?_
        clear hK14 K14
        refine Wp.seqK fun K15 hK15 => ?_
        refine rg ?_
        refine ⟨rfl, CallK.valA (h := iHolds_c _ (by omega)) (k := ?_)⟩
        refine evd ?_
        refine hK15 _ ?_
        clear hK15 K15
        refine Wp.seqK fun K16 hK16 => ?_
        refine rg ?_
        refine ⟨rfl, CallK.valA (h := sHolds_c _ (by omega)) (k := ?_)⟩
        refine evd ?_
        refine hK16 _ ?_
        clear hK16 K16
        refine Wp.seqK fun K17 hK17 => ?_
        refine rg ?_
        refine ⟨rfl, CallK.retA (h := iRename_c _ _ _ (by omega)) (k := ?_)⟩
        refine evd ?_
        refine hK17 _ ?_
        clear hK17 K17
        refine Wp.seqK fun K18 hK18 => ?_
        simp only [na, nb, nc]
        refine rg ?_
        refine ⟨rfl, CallK.rowA (h := iVars_c _) (k := ?_)⟩
        refine evd ?_
        refine ⟨rfl, CallK.rowA (h := iVars_c _) (k := ?_)⟩
        refine evd ?_
        refine grdA_split rfl (fun g15_21 => ?_) (fun g15_21 => ?_)
        · try simp only [decide_eq_true_eq, decide_eq_false_iff_not] at g15_21
          try refine evd ?_
          refine ⟨rfl, CallK.valA (h := iLevel_c _ (by omega)) (k := ?_)⟩
          refine evd ?_
          refine ⟨rfl, CallK.valA (h := iLevel_c _ (by omega)) (k := ?_)⟩
          refine evd ?_
          refine grdA_split rfl (fun g15_32 => ?_) (fun g15_32 => ?_)
          · try simp only [decide_eq_true_eq, decide_eq_false_iff_not] at g15_32
            try refine evd ?_
            refine hK18 _ ?_
            clear hK18 K18
            refine Wp.ret (retV ?_)
            try simp only [List.getD_cons_zero, List.getD_cons_succ]
            try first | rfl | (rw [nk g15_32, decide_eq_true rfl])
          · try simp only [decide_eq_true_eq, decide_eq_false_iff_not] at g15_32
            try refine evd ?_
            refine grdA_split rfl (fun g15_34 => ?_) (fun g15_34 => ?_)
            · try simp only [decide_eq_true_eq, decide_eq_false_iff_not] at g15_34
              try refine evd ?_
              refine ⟨rfl, CallK.valA (h := sameNodes_c _ _ (by omega) (by omega)) (k := ?_)⟩
              refine evd ?_
              refine hK18 _ ?_
              clear hK18 K18
              refine Wp.ret (retV ?_)
              try simp only [List.getD_cons_zero, List.getD_cons_succ]
              try first | rfl | (rw [nk g15_32, decide_eq_true rfl])
            · try simp only [decide_eq_true_eq, decide_eq_false_iff_not] at g15_34
              exfalso
              rw [nk g15_32] at g15_34
              cases g15_34
        · try simp only [decide_eq_true_eq, decide_eq_false_iff_not] at g15_21
          exfalso; omega
theorem bytesYn (l : List UInt8) : (l.flatMap fun n : UInt8 => [DV.sc (.int .u8 (n.toNat : Int))]) = encY (l.map fun n => (n.toNat : Int)) := by
  unfold encY
  induction l with
  | nil => rfl
  | cons a l ih => simp only [List.flatMap_cons, List.map_cons, List.cons_append, List.nil_append]; rw [ih]
theorem lawNames_b (l : List UInt8) (hlen : (l.length : Int) ≤ 9223372036854775807) : Val E.P 4 [.l (.dsl true l.length (l.flatMap fun n : UInt8 => [DV.sc (.int .u8 (n.toNat : Int))]))] (T true) := by
  rw [bytesYn]
  have := lawNames_c (l.map fun n => (n.toNat : Int)) (by rw [List.length_map]; exact hlen) (fun x hx => by
    obtain ⟨b, _, rfl⟩ := List.mem_map.1 hx
    have := b.toNat_lt
    omega)
  simp only [dY, List.length_map] at this
  exact this
end Go.Proofs.YtkdkbnacelnljaaGreat.RE
