/- Right nodes, the program. Conditions: those that a theorem names. -/
import Derived.Test.YtkdkbnacelnljaaGreatNCG
set_option linter.unusedVariables false
set_option linter.unusedSimpArgs false
namespace Go.Proofs.YtkdkbnacelnljaaGreat.RE
open Go Go.RowKit
set_option maxRecDepth 100000
set_option maxHeartbeats 8000000

def rightP (t : List Nd) (n : Nd) : Bool := (parts n).all (fun p => decide (0 ≤ p ∧ p < (t.length : Int))) && ((decide (1 ≤ n.w) && decide (n.w ≤ 8)) && rule n ((parts n).map (wAt t)))
def irule (n : Nd) (w : List Int) : Bool :=
  if n.op = 0 then wordOk n.w n.k
  else if n.op = 1 then decide (0 ≤ n.k) && decide (n.k ≤ 7)
  else if n.op = 2 then decide (w.getD 0 0 = n.w)
  else if (decide (3 ≤ n.op) && decide (n.op ≤ 12)) = true then decide (w.getD 0 0 = n.w) && decide (w.getD 1 0 = n.w)
  else if (decide (13 ≤ n.op) && decide (n.op ≤ 15)) = true then decide (w.getD 0 0 = w.getD 1 0) && decide (n.w = 1)
  else if n.op = 16 then decide (IntKind.i64.wrap (w.getD 0 0 + w.getD 1 0) = n.w)
  else if n.op = 17 then decide (0 ≤ n.k) && decide (n.k ≤ IntKind.i64.wrap (w.getD 0 0 - n.w))
  else if n.op = 18 then (decide (w.getD 0 0 = 1) && decide (w.getD 1 0 = n.w)) && decide (w.getD 2 0 = n.w)
  else (((decide (0 ≤ n.k) && decide (n.k ≤ 7)) && (decide (1 ≤ n.b) && decide (n.b ≤ 8))) && decide (w.getD 0 0 = 1)) && decide (n.w = 1)
theorem irule_q {n : Nd} {w : List Int} (h : n.op = 19 ∨ n.op = 20) : irule n w = ((((decide (0 ≤ n.k) && decide (n.k ≤ 7)) && (decide (1 ≤ n.b) && decide (n.b ≤ 8))) && decide (w.getD 0 0 = 1)) && decide (n.w = 1)) := by
  unfold irule
  rw [if_neg (by omega), if_neg (by omega), if_neg (by omega), if_neg (by simp; omega), if_neg (by simp; omega), if_neg (by omega), if_neg (by omega), if_neg (by omega)]
theorem uses_0 {n : Nd} (h : n.op = 0 ∨ n.op = 1) : uses n = (decide (n.a = 0) && (decide (n.b = 0) && decide (n.c = 0))) := by
  unfold uses; rw [if_pos (by simp; omega)]
theorem uses_1 {n : Nd} (h : n.op = 2) : uses n = (decide (n.k = 0) && (decide (n.b = 0) && decide (n.c = 0))) := by
  unfold uses isQ; rw [parts_1 (by omega), if_neg (by simp; omega), if_neg (by omega), if_neg (by simp; omega)]; rfl
theorem uses_2 {n : Nd} (h : 3 ≤ n.op ∧ n.op ≤ 16) : uses n = (decide (n.k = 0) && decide (n.c = 0)) := by
  unfold uses isQ; rw [parts_2 (by omega), if_neg (by simp; omega), if_neg (by omega), if_neg (by simp; omega)]; rfl
theorem uses_3 {n : Nd} (h : n.op = 18) : uses n = decide (n.k = 0) := by
  unfold uses isQ; rw [parts_3 (by omega), if_neg (by simp; omega), if_neg (by omega), if_neg (by simp; omega)]; rfl
theorem uses_s {n : Nd} (h : n.op = 17) : uses n = (decide (n.b = 0) && decide (n.c = 0)) := by
  unfold uses; rw [if_neg (by simp; omega), if_pos h]
theorem uses_q {n : Nd} (h : n.op = 19 ∨ n.op = 20) : uses n = decide (n.c = 0) := by
  unfold uses isQ; rw [if_neg (by simp; omega), if_neg (by omega), if_pos (by simp; omega)]
theorem rule_eq (n : Nd) (w : List Int) : rule n w = (((decide (0 ≤ n.op) && decide (n.op ≤ 20)) && uses n) && irule n w) := by
  by_cases hr : 0 ≤ n.op ∧ n.op ≤ 20
  · have hb : (decide (0 ≤ n.op) && decide (n.op ≤ 20)) = true := by simp; omega
    rw [hb, Bool.true_and]
    unfold rule irule
    by_cases h0 : n.op = 0
    · rw [if_pos h0, if_pos h0, uses_0 (by omega)]
      simp only [Bool.and_assoc, Bool.and_comm, Bool.and_left_comm]
    rw [if_neg h0, if_neg h0]
    by_cases h1 : n.op = 1
    · rw [if_pos h1, if_pos h1, uses_0 (by omega)]
      simp only [Bool.and_assoc, Bool.and_comm, Bool.and_left_comm]
    rw [if_neg h1, if_neg h1]
    by_cases h2 : n.op = 2
    · rw [if_pos h2, if_pos h2, uses_1 (by omega)]
      simp only [Bool.and_assoc, Bool.and_comm, Bool.and_left_comm]
    rw [if_neg h2, if_neg h2]
    by_cases h3 : 3 ≤ n.op ∧ n.op ≤ 12
    · have b3 : (decide (3 ≤ n.op) && decide (n.op ≤ 12)) = true := by simp; omega
      rw [if_pos b3, if_pos b3, uses_2 (by omega)]
      simp only [Bool.and_assoc, Bool.and_comm, Bool.and_left_comm]
    have b3 : ¬ (decide (3 ≤ n.op) && decide (n.op ≤ 12)) = true := by simp; omega
    rw [if_neg b3, if_neg b3]
    by_cases h4 : 13 ≤ n.op ∧ n.op ≤ 15
    · have b4 : (decide (13 ≤ n.op) && decide (n.op ≤ 15)) = true := by simp; omega
      rw [if_pos b4, if_pos b4, uses_2 (by omega)]
      simp only [Bool.and_assoc, Bool.and_comm, Bool.and_left_comm]
    have b4 : ¬ (decide (13 ≤ n.op) && decide (n.op ≤ 15)) = true := by simp; omega
    rw [if_neg b4, if_neg b4]
    by_cases h5 : n.op = 16
    · rw [if_pos h5, if_pos h5, uses_2 (by omega)]
      simp only [Bool.and_assoc, Bool.and_comm, Bool.and_left_comm]
    rw [if_neg h5, if_neg h5]
    by_cases h6 : n.op = 17
    · rw [if_pos h6, if_pos h6, uses_s (by omega)]
      simp only [Bool.and_assoc, Bool.and_comm, Bool.and_left_comm]
    rw [if_neg h6, if_neg h6]
    by_cases h7 : n.op = 18
    · rw [if_pos h7, if_pos h7, uses_3 (by omega)]
      simp only [Bool.and_assoc, Bool.and_comm, Bool.and_left_comm]
    rw [if_neg h7, if_neg h7, if_pos (by simp [isQ]; omega), uses_q (by omega)]
    simp only [Bool.and_assoc, Bool.and_comm, Bool.and_left_comm]
  · have hb : (decide (0 ≤ n.op) && decide (n.op ≤ 20)) = false := by simp; omega
    rw [hb, rule_no (by omega)]; rfl
def w3 (l : List Int) : List Int := l ++ List.replicate (3 - l.length) 0
theorem w3_len {l : List Int} (h : l.length ≤ 3) : (w3 l).length = 3 := by simp [w3]; omega
theorem w3_set {l : List Int} {x : Nat} (h : l.length = x) (hx : x < 3) (v : Int) : (w3 l).set x v = w3 (l ++ [v]) := by
  unfold w3
  rw [List.set_append_right _ _ (by omega), h, Nat.sub_self, List.append_assoc]
  congr 1
  rw [show 3 - x = (3 - (x + 1)) + 1 by omega, List.replicate_succ, List.set_cons_zero]
  simp [h]
theorem rightP_no {t : List Nd} {n : Nd} {x : Nat} (hx : x < (parts n).length) (h : (decide (0 ≤ (parts n).getD x 0) && decide ((parts n).getD x 0 ≤ (t.length : Int) - 1)) = false) : rightP t n = false := by
  have : (parts n).all (fun p => decide (0 ≤ p ∧ p < (t.length : Int))) = false := by
    cases hh : (parts n).all (fun p => decide (0 ≤ p ∧ p < (t.length : Int))) with
    | false => rfl
    | true =>
      have := all_get hh hx
      simp at this h
      omega
  simp only [rightP, this, Bool.false_and]
theorem rightP_bad {t : List Nd} {n : Nd} (h : ((!(decide (1 ≤ n.w) && decide (n.w ≤ 8)) || !(decide (0 ≤ n.op) && decide (n.op ≤ 20))) || !uses n) = true) : rightP t n = false := by
  unfold rightP
  rw [rule_eq]
  revert h
  cases (decide (1 ≤ n.w) && decide (n.w ≤ 8)) <;> cases (decide (0 ≤ n.op) && decide (n.op ≤ 20)) <;> cases uses n <;> simp
theorem rightP_good {t : List Nd} {n : Nd} (h : ((!(decide (1 ≤ n.w) && decide (n.w ≤ 8)) || !(decide (0 ≤ n.op) && decide (n.op ≤ 20))) || !uses n) = false) (ha : (parts n).all (fun p => decide (0 ≤ p ∧ p < (t.length : Int))) = true) : rightP t n = irule n ((parts n).map (wAt t)) := by
  unfold rightP
  rw [rule_eq, ha]
  revert h
  cases (decide (1 ≤ n.w) && decide (n.w ≤ 8)) <;> cases (decide (0 ≤ n.op) && decide (n.op ≤ 20)) <;> cases uses n <;> simp
theorem op_good {n : Nd} (h : ((!(decide (1 ≤ n.w) && decide (n.w ≤ 8)) || !(decide (0 ≤ n.op) && decide (n.op ≤ 20))) || !uses n) = false) : 0 ≤ n.op ∧ n.op ≤ 20 := by
  simp at h; omega
theorem isRight_c (t : List Nd) (ht : t.length ≤ 80) (n : Nd) : Val E.P 63 [dN t, .agg (nl n)] (T (rightP t n)) := by
  refine CallsA.body (E := E) (fn := Tryz.f63) Tryz.func63 rfl fun B hB => ?_
  simp only [Tryz.ntmps63, go_sem, nl, Nat.mul_one, Nat.one_mul, Nat.reducePow, Nat.reduceAdd, Nat.reduceMul, Nat.reduceSub, Nat.reduceLeDiff, Nat.reduceEqDiff, Nat.reduceLT, reduceIte, Int.reduceToNat, Int.reduceLE, Int.reduceLT, reduceCtorEq, List.contains_cons, List.contains_nil, Nat.reduceBEq, Bool.or_false, Bool.false_or, Bool.or_true, Bool.true_or, forall_eq, forall_eq_or_imp, List.mem_cons, List.not_mem_nil, or_false, false_or, List.reduceReplicate]
  refine Wp.seqK fun K1 hK1 => ?_
  refine Wp.regionS ?_
  refine evc ?_
  repeat (refine And.intro (by first | omega | (refine ⟨?_, ?_⟩ <;> omega)) ?_)
  refine hK1 _ ?_
  clear hK1 K1
  refine Wp.seqK fun K2 hK2 => ?_
  refine Wp.seqM (fun s => ∃ f : Nat → AV, s = ⟨[dN t, f 1, f 2, .l (.ptr 0 0 0), T false, f 5, f 6, f 7, f 8, f 9, f 10, f 11, f 12, f 13, f 14, f 15, f 16, f 17, f 18, f 19, f 20, f 21, T (((!(decide (1 ≤ n.w) && decide (n.w ≤ 8)) || !(decide (0 ≤ n.op) && decide (n.op ≤ 20))) || !uses n)), f 23, f 24, f 25, f 26, f 27, f 28, f 29, f 30, f 31, f 32, f 33, f 34, f 35, f 36, f 37, f 38, f 39, f 40, f 41, f 42, f 43, f 44, f 45, f 46, f 47, f 48, f 49, f 50, f 51, f 52, f 53, f 54, f 55, f 56, f 57, f 58, f 59, f 60, f 61, f 62, f 63, f 64, f 65, f 66, f 67, f 68, f 69, f 70, f 71, f 72, f 73, f 74, f 75, f 76, f 77, f 78, f 79, f 80, f 81, f 82, f 83, f 84, f 85, f 86, f 87, f 88, f 89, f 90, f 91, f 92, f 93, f 94, f 95, f 96, f 97, f 98, f 99, f 100, f 101, f 102, f 103, f 104, f 105, f 106, f 107, f 108, f 109, f 110, f 111, f 112, f 113, f 114, f 115, f 116, f 117, f 118, f 119, f 120, f 121, f 122, f 123, f 124, f 125, f 126, f 127, f 128, f 129, f 130, f 131, f 132, f 133, f 134, f 135, f 136, f 137, f 138, f 139, f 140, f 141, f 142, f 143, f 144, f 145, f 146, f 147, f 148, f 149, f 150, f 151, f 152, f 153, f 154, f 155, f 156, f 157, f 158, f 159, f 160, f 161, f 162, f 163], [some ⟨0, nl n⟩]⟩) ?_ ?_
  · refine Wp.regionS ?_
    refine evc ?_
    repeat (refine And.intro (by first | omega | (refine ⟨?_, ?_⟩ <;> omega)) ?_)
    refine ⟨rfl, CallK.val [] LendOk.nil (isWidth_c _) rfl ?_⟩
    refine evc ?_
    repeat (refine And.intro (by first | omega | (refine ⟨?_, ?_⟩ <;> omega)) ?_)
    refine grdA_split rfl (fun g1 => ?_) (fun g1 => ?_)
    · simp only [go_sem, nl, Nat.mul_one, Nat.one_mul, Nat.reducePow, Nat.reduceAdd, Nat.reduceMul, Nat.reduceSub, Nat.reduceLeDiff, Nat.reduceEqDiff, Nat.reduceLT, reduceIte, Int.reduceToNat, Int.reduceLE, Int.reduceLT, reduceCtorEq, List.contains_cons, List.contains_nil, Nat.reduceBEq, Bool.or_false, Bool.false_or, Bool.or_true, Bool.true_or, forall_eq, forall_eq_or_imp, List.mem_cons, List.not_mem_nil, or_false, false_or]
      repeat (refine And.intro (by first | omega | (refine ⟨?_, ?_⟩ <;> omega)) ?_)
      simp only [g1, Bool.true_or, Bool.or_true, Bool.false_or, Bool.or_false, Bool.true_and, Bool.and_true, Bool.false_and, Bool.and_false, Bool.not_true, Bool.not_false]
      exact anyT rfl rfl
    · simp only [go_sem, nl, Nat.mul_one, Nat.one_mul, Nat.reducePow, Nat.reduceAdd, Nat.reduceMul, Nat.reduceSub, Nat.reduceLeDiff, Nat.reduceEqDiff, Nat.reduceLT, reduceIte, Int.reduceToNat, Int.reduceLE, Int.reduceLT, reduceCtorEq, List.contains_cons, List.contains_nil, Nat.reduceBEq, Bool.or_false, Bool.false_or, Bool.or_true, Bool.true_or, forall_eq, forall_eq_or_imp, List.mem_cons, List.not_mem_nil, or_false, false_or]
      repeat (refine And.intro (by first | omega | (refine ⟨?_, ?_⟩ <;> omega)) ?_)
      refine ⟨rfl, CallK.val [] LendOk.nil (within_c _ _ _) rfl ?_⟩
      refine evc ?_
      repeat (refine And.intro (by first | omega | (refine ⟨?_, ?_⟩ <;> omega)) ?_)
      refine grdA_split rfl (fun g2 => ?_) (fun g2 => ?_)
      · simp only [go_sem, nl, Nat.mul_one, Nat.one_mul, Nat.reducePow, Nat.reduceAdd, Nat.reduceMul, Nat.reduceSub, Nat.reduceLeDiff, Nat.reduceEqDiff, Nat.reduceLT, reduceIte, Int.reduceToNat, Int.reduceLE, Int.reduceLT, reduceCtorEq, List.contains_cons, List.contains_nil, Nat.reduceBEq, Bool.or_false, Bool.false_or, Bool.or_true, Bool.true_or, forall_eq, forall_eq_or_imp, List.mem_cons, List.not_mem_nil, or_false, false_or]
        repeat (refine And.intro (by first | omega | (refine ⟨?_, ?_⟩ <;> omega)) ?_)
        simp only [g1, g2, Bool.true_or, Bool.or_true, Bool.false_or, Bool.or_false, Bool.true_and, Bool.and_true, Bool.false_and, Bool.and_false, Bool.not_true, Bool.not_false]
        exact anyT rfl rfl
      · simp only [go_sem, nl, Nat.mul_one, Nat.one_mul, Nat.reducePow, Nat.reduceAdd, Nat.reduceMul, Nat.reduceSub, Nat.reduceLeDiff, Nat.reduceEqDiff, Nat.reduceLT, reduceIte, Int.reduceToNat, Int.reduceLE, Int.reduceLT, reduceCtorEq, List.contains_cons, List.contains_nil, Nat.reduceBEq, Bool.or_false, Bool.false_or, Bool.or_true, Bool.true_or, forall_eq, forall_eq_or_imp, List.mem_cons, List.not_mem_nil, or_false, false_or]
        repeat (refine And.intro (by first | omega | (refine ⟨?_, ?_⟩ <;> omega)) ?_)
        refine ⟨rfl, CallK.val [] LendOk.nil (usesOnly_c _) rfl ?_⟩
        refine evc ?_
        repeat (refine And.intro (by first | omega | (refine ⟨?_, ?_⟩ <;> omega)) ?_)
        simp only [g1, g2, Bool.true_or, Bool.or_true, Bool.false_or, Bool.or_false, Bool.true_and, Bool.and_true, Bool.false_and, Bool.and_false, Bool.not_true, Bool.not_false]
        exact anyT rfl rfl
  rintro _ ⟨f, rfl⟩
  refine Wp.cond rfl (fun h22 => ?_) (fun h22 => ?_)
  · skip
    refine Wp.seqK fun K3 hK3 => ?_
    refine Wp.regionS ?_
    refine evc ?_
    repeat (refine And.intro (by first | omega | (refine ⟨?_, ?_⟩ <;> omega)) ?_)
    refine hK3 _ ?_
    clear hK3 K3
    refine Wp.ret ?_
    simp only [thn, inB, retQ]
    clear hK2 K2
    refine ⟨_, [], rfl, Nat.zero_le _, by decide, by simp, ?_⟩
    simp only [go_sem, nl, Nat.mul_one, Nat.one_mul, Nat.reducePow, Nat.reduceAdd, Nat.reduceMul, Nat.reduceSub, Nat.reduceLeDiff, Nat.reduceEqDiff, Nat.reduceLT, reduceIte, Int.reduceToNat, Int.reduceLE, Int.reduceLT, reduceCtorEq, List.contains_cons, List.contains_nil, Nat.reduceBEq, Bool.or_false, Bool.false_or, Bool.or_true, Bool.true_or, forall_eq, forall_eq_or_imp, List.mem_cons, List.not_mem_nil, or_false, false_or]
    all_goals
      rw [rightP_bad h22]
  · have hop := op_good h22
    refine Wp.skip ?_
    refine hK2 _ ?_
    clear hK2 K2
    refine Wp.seqK fun K4 hK4 => ?_
    refine Wp.regionS ?_
    refine evc ?_
    repeat (refine And.intro (by first | omega | (refine ⟨?_, ?_⟩ <;> omega)) ?_)
    refine hK4 _ ?_
    clear hK4 K4
    refine Wp.seqK fun K5 hK5 => ?_
    refine Wp.seqK fun K6 hK6 => ?_
    refine Wp.regionS ?_
    refine evc ?_
    repeat (refine And.intro (by first | omega | (refine ⟨?_, ?_⟩ <;> omega)) ?_)
    refine ⟨rfl, CallK.row [] LendOk.nil (iParts_c _) (flatI _) ?_⟩
    refine evc ?_
    repeat (refine And.intro (by first | omega | (refine ⟨?_, ?_⟩ <;> omega)) ?_)
    refine hK6 _ ?_
    clear hK6 K6
    refine Wp.block ?_
    skip
    refine Wp.loop (α := Nat) (fun x s => x ≤ (parts n).length ∧ ((parts n).take x).all (fun p => decide (0 ≤ p ∧ p < (t.length : Int))) = true ∧ ∃ f : Nat → AV, s = ⟨[dN t, f 1, f 2, .l (.ptr 0 0 0), T false, .l (.ptr 1 0 0), f 6, f 7, f 8, f 9, f 10, f 11, f 12, f 13, f 14, f 15, f 16, f 17, f 18, f 19, f 20, f 21, f 22, f 23, f 24, .l (.obj 2 0 1 0 (parts n).length), I (parts n).length, I x, f 28, f 29, f 30, f 31, f 32, f 33, f 34, f 35, f 36, f 37, f 38, f 39, f 40, f 41, f 42, f 43, f 44, f 45, f 46, f 47, f 48, f 49, f 50, f 51, f 52, f 53, f 54, f 55, f 56, f 57, f 58, f 59, f 60, f 61, f 62, f 63, f 64, f 65, f 66, f 67, f 68, f 69, f 70, f 71, f 72, f 73, f 74, f 75, f 76, f 77, f 78, f 79, f 80, f 81, f 82, f 83, f 84, f 85, f 86, f 87, f 88, f 89, f 90, f 91, f 92, f 93, f 94, f 95, f 96, f 97, f 98, f 99, f 100, f 101, f 102, f 103, f 104, f 105, f 106, f 107, f 108, f 109, f 110, f 111, f 112, f 113, f 114, f 115, f 116, f 117, f 118, f 119, f 120, f 121, f 122, f 123, f 124, f 125, f 126, f 127, f 128, f 129, f 130, f 131, f 132, f 133, f 134, f 135, f 136, f 137, f 138, f 139, f 140, f 141, f 142, f 143, f 144, f 145, f 146, f 147, f 148, f 149, f 150, f 151, f 152, f 153, f 154, f 155, f 156, f 157, f 158, f 159, f 160, f 161, f 162, f 163], [some ⟨0, nl n⟩, some ⟨0, (w3 (((parts n).take x).map (wAt t))).map ci⟩, some ⟨0, (parts n).map ci⟩]⟩) (fun x => (parts n).length - x) 0 ⟨Nat.zero_le _, rfl, anyT rfl rfl⟩ ?_
    rintro x _ ⟨hx, hall, f, rfl⟩
    have hpl := parts_len n
    refine Wp.seqK fun K7 hK7 => ?_
    refine Wp.regionS ?_
    refine evc ?_
    repeat (refine And.intro (by first | omega | (refine ⟨?_, ?_⟩ <;> omega)) ?_)
    refine hK7 _ ?_
    clear hK7 K7
    refine Wp.seqK fun K8 hK8 => ?_
    refine Wp.cond rfl (fun h28 => ?_) (fun h28 => ?_)
    · have hxl : x < (parts n).length := by have := of_decide_eq_true h28; omega
      refine Wp.skip ?_
      refine hK8 _ ?_
      clear hK8 K8
      refine Wp.seqK fun K9 hK9 => ?_
      refine Wp.block ?_
      refine Wp.seqK fun K10 hK10 => ?_
      refine Wp.regionS ?_
      simp only [go_sem, atI hxl, encN_len, lN_len, List.length_drop, List.length_map, List.length_take, List.length_append, Int.toNat_natCast, nl, Nat.mul_one, Nat.one_mul, Nat.reducePow, Nat.reduceAdd, Nat.reduceMul, Nat.reduceSub, Nat.reduceLeDiff, Nat.reduceEqDiff, Nat.reduceLT, reduceIte, Int.reduceToNat, Int.reduceLE, Int.reduceLT, reduceCtorEq, List.contains_cons, List.contains_nil, Nat.reduceBEq, Bool.or_false, Bool.false_or, Bool.or_true, Bool.true_or, forall_eq, forall_eq_or_imp, List.mem_cons, List.not_mem_nil, or_false, false_or]
      repeat (refine And.intro (by first | omega | (refine ⟨?_, ?_⟩ <;> omega)) ?_)
      refine hK10 _ ?_
      clear hK10 K10
      refine Wp.seqK fun K11 hK11 => ?_
      refine Wp.seqK fun K12 hK12 => ?_
      refine Wp.regionS ?_
      refine evc ?_
      repeat (refine And.intro (by first | omega | (refine ⟨?_, ?_⟩ <;> omega)) ?_)
      refine ⟨rfl, CallK.val [] LendOk.nil (within_c _ _ _) rfl ?_⟩
      refine evc ?_
      repeat (refine And.intro (by first | omega | (refine ⟨?_, ?_⟩ <;> omega)) ?_)
      refine hK12 _ ?_
      clear hK12 K12
      refine Wp.cond rfl (fun h37 => ?_) (fun h37 => ?_)
      · rw [wr (by omega) (by omega)] at h37
        refine Wp.seqK fun K13 hK13 => ?_
        refine Wp.regionS ?_
        refine evc ?_
        repeat (refine And.intro (by first | omega | (refine ⟨?_, ?_⟩ <;> omega)) ?_)
        refine hK13 _ ?_
        clear hK13 K13
        refine Wp.ret ?_
        simp only [thn, inB, retQ]
        clear hK11 K11
        clear hK9 K9
        clear hK5 K5
        refine ⟨_, [], rfl, Nat.zero_le _, by decide, by simp, ?_⟩
        simp only [go_sem, nl, Nat.mul_one, Nat.one_mul, Nat.reducePow, Nat.reduceAdd, Nat.reduceMul, Nat.reduceSub, Nat.reduceLeDiff, Nat.reduceEqDiff, Nat.reduceLT, reduceIte, Int.reduceToNat, Int.reduceLE, Int.reduceLT, reduceCtorEq, List.contains_cons, List.contains_nil, Nat.reduceBEq, Bool.or_false, Bool.false_or, Bool.or_true, Bool.true_or, forall_eq, forall_eq_or_imp, List.mem_cons, List.not_mem_nil, or_false, false_or]
        all_goals
          rw [rightP_no hxl (nT h37)]
      · rw [wr (by omega) (by omega)] at h37
        have h37 := nF h37
        have hpx : 0 ≤ (parts n).getD x 0 ∧ (parts n).getD x 0 ≤ (t.length : Int) - 1 := by simp only [Bool.and_eq_true, decide_eq_true_eq] at h37; exact h37
        refine Wp.skip ?_
        refine hK11 _ ?_
        clear hK11 K11
        refine Wp.regionS ?_
        simp only [go_sem, fN1 (show ((parts n).getD x 0).toNat < t.length by omega), w3_len (show (((parts n).take x).map (wAt t)).length ≤ 3 by rw [List.length_map, List.length_take]; omega), encN_len, lN_len, List.length_drop, List.length_map, List.length_take, List.length_append, Int.toNat_natCast, nl, Nat.mul_one, Nat.one_mul, Nat.reducePow, Nat.reduceAdd, Nat.reduceMul, Nat.reduceSub, Nat.reduceLeDiff, Nat.reduceEqDiff, Nat.reduceLT, reduceIte, Int.reduceToNat, Int.reduceLE, Int.reduceLT, reduceCtorEq, List.contains_cons, List.contains_nil, Nat.reduceBEq, Bool.or_false, Bool.false_or, Bool.or_true, Bool.true_or, forall_eq, forall_eq_or_imp, List.mem_cons, List.not_mem_nil, or_false, false_or]
        repeat (refine And.intro (by first | omega | (refine ⟨?_, ?_⟩ <;> omega)) ?_)
        rw [setI (by rw [w3_len (by rw [List.length_map, List.length_take]; omega)]; omega), w3_set (by rw [List.length_map, List.length_take]; omega) (by omega)]
        try simp only [thn, inB, if_true, reduceIte]
        refine hK9 _ ?_
        clear hK9 K9
        refine Wp.regionS ?_
        refine evc ?_
        repeat (refine And.intro (by first | omega | (refine ⟨?_, ?_⟩ <;> omega)) ?_)
        rw [up (by omega)]
        refine ⟨x + 1, ⟨by omega, ?_, ?_⟩, by omega⟩
        · rw [take_push 0 hxl, List.all_append, hall, List.all_cons, decide_eq_true (by omega)]; rfl
        · rw [take_push 0 hxl]
          simp only [List.map_append, List.map_cons, List.map_nil]
          exact anyT rfl rfl
    · have hxl : x = (parts n).length := by have := of_decide_eq_false h28; omega
      subst hxl
      simp only [List.take_length] at hall ⊢
      have hs := rightP_good h22 hall
      refine Wp.exit ?_
      simp only [thn, inB, if_true, reduceIte]
      clear hK8 K8
      refine hK5 _ ?_
      clear hK5 K5
      refine Wp.seqK fun K14 hK14 => ?_
      refine Wp.block ?_
      refine Wp.seqK fun K15 hK15 => ?_
      refine Wp.regionS ?_
      refine evc ?_
      repeat (refine And.intro (by first | omega | (refine ⟨?_, ?_⟩ <;> omega)) ?_)
      refine hK15 _ ?_
      clear hK15 K15
      refine Wp.cond rfl (fun h46 => ?_) (fun h46 => ?_)
      · skip
        refine Wp.seqK fun K16 hK16 => ?_
        refine Wp.regionS ?_
        refine evc ?_
        repeat (refine And.intro (by first | omega | (refine ⟨?_, ?_⟩ <;> omega)) ?_)
        refine ⟨rfl, CallK.val [] LendOk.nil (iWordOk_c _ _) rfl ?_⟩
        refine evc ?_
        repeat (refine And.intro (by first | omega | (refine ⟨?_, ?_⟩ <;> omega)) ?_)
        refine hK16 _ ?_
        clear hK16 K16
        refine Wp.ret ?_
        simp only [thn, inB, retQ]
        clear hK14 K14
        refine ⟨_, [], rfl, Nat.zero_le _, by decide, by simp, ?_⟩
        simp only [go_sem, nl, Nat.mul_one, Nat.one_mul, Nat.reducePow, Nat.reduceAdd, Nat.reduceMul, Nat.reduceSub, Nat.reduceLeDiff, Nat.reduceEqDiff, Nat.reduceLT, reduceIte, Int.reduceToNat, Int.reduceLE, Int.reduceLT, reduceCtorEq, List.contains_cons, List.contains_nil, Nat.reduceBEq, Bool.or_false, Bool.false_or, Bool.or_true, Bool.true_or, forall_eq, forall_eq_or_imp, List.mem_cons, List.not_mem_nil, or_false, false_or]
        all_goals
          rw [hs]
          clear hs h22
          simp_all [irule] <;> first | omega | (intros; omega)
      · skip
        refine Wp.seqK fun K17 hK17 => ?_
        refine Wp.regionS ?_
        refine evc ?_
        repeat (refine And.intro (by first | omega | (refine ⟨?_, ?_⟩ <;> omega)) ?_)
        refine hK17 _ ?_
        clear hK17 K17
        refine Wp.cond rfl (fun h55 => ?_) (fun h55 => ?_)
        · skip
          refine Wp.seqK fun K18 hK18 => ?_
          refine Wp.regionS ?_
          refine evc ?_
          repeat (refine And.intro (by first | omega | (refine ⟨?_, ?_⟩ <;> omega)) ?_)
          refine ⟨rfl, CallK.val [] LendOk.nil (isVar_c _) rfl ?_⟩
          refine evc ?_
          repeat (refine And.intro (by first | omega | (refine ⟨?_, ?_⟩ <;> omega)) ?_)
          refine hK18 _ ?_
          clear hK18 K18
          refine Wp.ret ?_
          simp only [thn, inB, retQ]
          clear hK14 K14
          refine ⟨_, [], rfl, Nat.zero_le _, by decide, by simp, ?_⟩
          simp only [go_sem, nl, Nat.mul_one, Nat.one_mul, Nat.reducePow, Nat.reduceAdd, Nat.reduceMul, Nat.reduceSub, Nat.reduceLeDiff, Nat.reduceEqDiff, Nat.reduceLT, reduceIte, Int.reduceToNat, Int.reduceLE, Int.reduceLT, reduceCtorEq, List.contains_cons, List.contains_nil, Nat.reduceBEq, Bool.or_false, Bool.false_or, Bool.or_true, Bool.true_or, forall_eq, forall_eq_or_imp, List.mem_cons, List.not_mem_nil, or_false, false_or]
          all_goals
            rw [hs]
            clear hs h22
            simp_all [irule] <;> first | omega | (intros; omega)
        · skip
          refine Wp.seqK fun K19 hK19 => ?_
          refine Wp.regionS ?_
          refine evc ?_
          repeat (refine And.intro (by first | omega | (refine ⟨?_, ?_⟩ <;> omega)) ?_)
          refine hK19 _ ?_
          clear hK19 K19
          refine Wp.cond rfl (fun h62 => ?_) (fun h62 => ?_)
          · have hp := parts_1 (n := n) (by simp at h62; omega)
            simp only [hp, w3, List.map_cons, List.map_nil, List.length_cons, List.length_nil, Nat.zero_add, Nat.reduceAdd, Nat.reduceSub, List.replicate_succ, List.replicate_zero, List.cons_append, List.nil_append] at hs ⊢
            refine Wp.seqK fun K20 hK20 => ?_
            refine Wp.regionS ?_
            refine evc ?_
            repeat (refine And.intro (by first | omega | (refine ⟨?_, ?_⟩ <;> omega)) ?_)
            refine hK20 _ ?_
            clear hK20 K20
            refine Wp.ret ?_
            simp only [thn, inB, retQ]
            clear hK14 K14
            refine ⟨_, [], rfl, Nat.zero_le _, by decide, by simp, ?_⟩
            simp only [go_sem, nl, Nat.mul_one, Nat.one_mul, Nat.reducePow, Nat.reduceAdd, Nat.reduceMul, Nat.reduceSub, Nat.reduceLeDiff, Nat.reduceEqDiff, Nat.reduceLT, reduceIte, Int.reduceToNat, Int.reduceLE, Int.reduceLT, reduceCtorEq, List.contains_cons, List.contains_nil, Nat.reduceBEq, Bool.or_false, Bool.false_or, Bool.or_true, Bool.true_or, forall_eq, forall_eq_or_imp, List.mem_cons, List.not_mem_nil, or_false, false_or]
            all_goals
              rw [hs]
              clear hs h22
              simp_all [irule] <;> first | omega | (intros; omega)
          · skip
            refine Wp.seqK fun K21 hK21 => ?_
            refine Wp.regionS ?_
            refine evc ?_
            repeat (refine And.intro (by first | omega | (refine ⟨?_, ?_⟩ <;> omega)) ?_)
            refine ⟨rfl, CallK.val [] LendOk.nil (within_c _ _ _) rfl ?_⟩
            refine evc ?_
            repeat (refine And.intro (by first | omega | (refine ⟨?_, ?_⟩ <;> omega)) ?_)
            refine hK21 _ ?_
            clear hK21 K21
            refine Wp.cond rfl (fun h71 => ?_) (fun h71 => ?_)
            · have hp := parts_2 (n := n) (by simp at h71; omega)
              simp only [hp, w3, List.map_cons, List.map_nil, List.length_cons, List.length_nil, Nat.zero_add, Nat.reduceAdd, Nat.reduceSub, List.replicate_succ, List.replicate_zero, List.cons_append, List.nil_append] at hs ⊢
              refine Wp.seqK fun K22 hK22 => ?_
              refine Wp.regionS ?_
              refine evc ?_
              repeat (refine And.intro (by first | omega | (refine ⟨?_, ?_⟩ <;> omega)) ?_)
              refine grdA_split rfl (fun g1 => ?_) (fun g1 => ?_)
              · simp only [go_sem, nl, Nat.mul_one, Nat.one_mul, Nat.reducePow, Nat.reduceAdd, Nat.reduceMul, Nat.reduceSub, Nat.reduceLeDiff, Nat.reduceEqDiff, Nat.reduceLT, reduceIte, Int.reduceToNat, Int.reduceLE, Int.reduceLT, reduceCtorEq, List.contains_cons, List.contains_nil, Nat.reduceBEq, Bool.or_false, Bool.false_or, Bool.or_true, Bool.true_or, forall_eq, forall_eq_or_imp, List.mem_cons, List.not_mem_nil, or_false, false_or]
                repeat (refine And.intro (by first | omega | (refine ⟨?_, ?_⟩ <;> omega)) ?_)
                refine hK22 _ ?_
                clear hK22 K22
                refine Wp.ret ?_
                simp only [thn, inB, retQ]
                clear hK14 K14
                refine ⟨_, [], rfl, Nat.zero_le _, by decide, by simp, ?_⟩
                simp only [go_sem, nl, Nat.mul_one, Nat.one_mul, Nat.reducePow, Nat.reduceAdd, Nat.reduceMul, Nat.reduceSub, Nat.reduceLeDiff, Nat.reduceEqDiff, Nat.reduceLT, reduceIte, Int.reduceToNat, Int.reduceLE, Int.reduceLT, reduceCtorEq, List.contains_cons, List.contains_nil, Nat.reduceBEq, Bool.or_false, Bool.false_or, Bool.or_true, Bool.true_or, forall_eq, forall_eq_or_imp, List.mem_cons, List.not_mem_nil, or_false, false_or]
                all_goals
                  rw [hs]
                  clear hs h22
                  simp_all [irule] <;> first | omega | (intros; omega)
              · simp only [go_sem, nl, Nat.mul_one, Nat.one_mul, Nat.reducePow, Nat.reduceAdd, Nat.reduceMul, Nat.reduceSub, Nat.reduceLeDiff, Nat.reduceEqDiff, Nat.reduceLT, reduceIte, Int.reduceToNat, Int.reduceLE, Int.reduceLT, reduceCtorEq, List.contains_cons, List.contains_nil, Nat.reduceBEq, Bool.or_false, Bool.false_or, Bool.or_true, Bool.true_or, forall_eq, forall_eq_or_imp, List.mem_cons, List.not_mem_nil, or_false, false_or]
                repeat (refine And.intro (by first | omega | (refine ⟨?_, ?_⟩ <;> omega)) ?_)
                refine hK22 _ ?_
                clear hK22 K22
                refine Wp.ret ?_
                simp only [thn, inB, retQ]
                clear hK14 K14
                refine ⟨_, [], rfl, Nat.zero_le _, by decide, by simp, ?_⟩
                simp only [go_sem, nl, Nat.mul_one, Nat.one_mul, Nat.reducePow, Nat.reduceAdd, Nat.reduceMul, Nat.reduceSub, Nat.reduceLeDiff, Nat.reduceEqDiff, Nat.reduceLT, reduceIte, Int.reduceToNat, Int.reduceLE, Int.reduceLT, reduceCtorEq, List.contains_cons, List.contains_nil, Nat.reduceBEq, Bool.or_false, Bool.false_or, Bool.or_true, Bool.true_or, forall_eq, forall_eq_or_imp, List.mem_cons, List.not_mem_nil, or_false, false_or]
                all_goals
                  rw [hs]
                  clear hs h22
                  simp_all [irule] <;> first | omega | (intros; omega)
            · skip
              refine Wp.seqK fun K23 hK23 => ?_
              refine Wp.regionS ?_
              refine evc ?_
              repeat (refine And.intro (by first | omega | (refine ⟨?_, ?_⟩ <;> omega)) ?_)
              refine ⟨rfl, CallK.val [] LendOk.nil (within_c _ _ _) rfl ?_⟩
              refine evc ?_
              repeat (refine And.intro (by first | omega | (refine ⟨?_, ?_⟩ <;> omega)) ?_)
              refine hK23 _ ?_
              clear hK23 K23
              refine Wp.cond rfl (fun h87 => ?_) (fun h87 => ?_)
              · have hp := parts_2 (n := n) (by simp at h87; omega)
                simp only [hp, w3, List.map_cons, List.map_nil, List.length_cons, List.length_nil, Nat.zero_add, Nat.reduceAdd, Nat.reduceSub, List.replicate_succ, List.replicate_zero, List.cons_append, List.nil_append] at hs ⊢
                refine Wp.seqK fun K24 hK24 => ?_
                refine Wp.regionS ?_
                refine evc ?_
                repeat (refine And.intro (by first | omega | (refine ⟨?_, ?_⟩ <;> omega)) ?_)
                refine grdA_split rfl (fun g1 => ?_) (fun g1 => ?_)
                · simp only [go_sem, nl, Nat.mul_one, Nat.one_mul, Nat.reducePow, Nat.reduceAdd, Nat.reduceMul, Nat.reduceSub, Nat.reduceLeDiff, Nat.reduceEqDiff, Nat.reduceLT, reduceIte, Int.reduceToNat, Int.reduceLE, Int.reduceLT, reduceCtorEq, List.contains_cons, List.contains_nil, Nat.reduceBEq, Bool.or_false, Bool.false_or, Bool.or_true, Bool.true_or, forall_eq, forall_eq_or_imp, List.mem_cons, List.not_mem_nil, or_false, false_or]
                  repeat (refine And.intro (by first | omega | (refine ⟨?_, ?_⟩ <;> omega)) ?_)
                  refine hK24 _ ?_
                  clear hK24 K24
                  refine Wp.ret ?_
                  simp only [thn, inB, retQ]
                  clear hK14 K14
                  refine ⟨_, [], rfl, Nat.zero_le _, by decide, by simp, ?_⟩
                  simp only [go_sem, nl, Nat.mul_one, Nat.one_mul, Nat.reducePow, Nat.reduceAdd, Nat.reduceMul, Nat.reduceSub, Nat.reduceLeDiff, Nat.reduceEqDiff, Nat.reduceLT, reduceIte, Int.reduceToNat, Int.reduceLE, Int.reduceLT, reduceCtorEq, List.contains_cons, List.contains_nil, Nat.reduceBEq, Bool.or_false, Bool.false_or, Bool.or_true, Bool.true_or, forall_eq, forall_eq_or_imp, List.mem_cons, List.not_mem_nil, or_false, false_or]
                  all_goals
                    rw [hs]
                    clear hs h22
                    simp_all [irule] <;> first | omega | (intros; omega)
                · simp only [go_sem, nl, Nat.mul_one, Nat.one_mul, Nat.reducePow, Nat.reduceAdd, Nat.reduceMul, Nat.reduceSub, Nat.reduceLeDiff, Nat.reduceEqDiff, Nat.reduceLT, reduceIte, Int.reduceToNat, Int.reduceLE, Int.reduceLT, reduceCtorEq, List.contains_cons, List.contains_nil, Nat.reduceBEq, Bool.or_false, Bool.false_or, Bool.or_true, Bool.true_or, forall_eq, forall_eq_or_imp, List.mem_cons, List.not_mem_nil, or_false, false_or]
                  repeat (refine And.intro (by first | omega | (refine ⟨?_, ?_⟩ <;> omega)) ?_)
                  refine hK24 _ ?_
                  clear hK24 K24
                  refine Wp.ret ?_
                  simp only [thn, inB, retQ]
                  clear hK14 K14
                  refine ⟨_, [], rfl, Nat.zero_le _, by decide, by simp, ?_⟩
                  simp only [go_sem, nl, Nat.mul_one, Nat.one_mul, Nat.reducePow, Nat.reduceAdd, Nat.reduceMul, Nat.reduceSub, Nat.reduceLeDiff, Nat.reduceEqDiff, Nat.reduceLT, reduceIte, Int.reduceToNat, Int.reduceLE, Int.reduceLT, reduceCtorEq, List.contains_cons, List.contains_nil, Nat.reduceBEq, Bool.or_false, Bool.false_or, Bool.or_true, Bool.true_or, forall_eq, forall_eq_or_imp, List.mem_cons, List.not_mem_nil, or_false, false_or]
                  all_goals
                    rw [hs]
                    clear hs h22
                    simp_all [irule] <;> first | omega | (intros; omega)
              · skip
                refine Wp.seqK fun K25 hK25 => ?_
                refine Wp.regionS ?_
                refine evc ?_
                repeat (refine And.intro (by first | omega | (refine ⟨?_, ?_⟩ <;> omega)) ?_)
                refine hK25 _ ?_
                clear hK25 K25
                refine Wp.cond rfl (fun h101 => ?_) (fun h101 => ?_)
                · have hp := parts_2 (n := n) (by simp at h101; omega)
                  simp only [hp, w3, List.map_cons, List.map_nil, List.length_cons, List.length_nil, Nat.zero_add, Nat.reduceAdd, Nat.reduceSub, List.replicate_succ, List.replicate_zero, List.cons_append, List.nil_append] at hs ⊢
                  refine Wp.seqK fun K26 hK26 => ?_
                  refine Wp.regionS ?_
                  refine evc ?_
                  repeat (refine And.intro (by first | omega | (refine ⟨?_, ?_⟩ <;> omega)) ?_)
                  refine hK26 _ ?_
                  clear hK26 K26
                  refine Wp.ret ?_
                  simp only [thn, inB, retQ]
                  clear hK14 K14
                  refine ⟨_, [], rfl, Nat.zero_le _, by decide, by simp, ?_⟩
                  simp only [go_sem, nl, Nat.mul_one, Nat.one_mul, Nat.reducePow, Nat.reduceAdd, Nat.reduceMul, Nat.reduceSub, Nat.reduceLeDiff, Nat.reduceEqDiff, Nat.reduceLT, reduceIte, Int.reduceToNat, Int.reduceLE, Int.reduceLT, reduceCtorEq, List.contains_cons, List.contains_nil, Nat.reduceBEq, Bool.or_false, Bool.false_or, Bool.or_true, Bool.true_or, forall_eq, forall_eq_or_imp, List.mem_cons, List.not_mem_nil, or_false, false_or]
                  all_goals
                    rw [hs]
                    clear hs h22
                    simp_all [irule] <;> first | omega | (intros; omega)
                · skip
                  refine Wp.seqK fun K27 hK27 => ?_
                  refine Wp.regionS ?_
                  refine evc ?_
                  repeat (refine And.intro (by first | omega | (refine ⟨?_, ?_⟩ <;> omega)) ?_)
                  refine hK27 _ ?_
                  clear hK27 K27
                  refine Wp.cond rfl (fun h113 => ?_) (fun h113 => ?_)
                  · have hp := parts_1 (n := n) (by simp at h113; omega)
                    simp only [hp, w3, List.map_cons, List.map_nil, List.length_cons, List.length_nil, Nat.zero_add, Nat.reduceAdd, Nat.reduceSub, List.replicate_succ, List.replicate_zero, List.cons_append, List.nil_append] at hs ⊢
                    refine Wp.seqK fun K28 hK28 => ?_
                    refine Wp.regionS ?_
                    refine evc ?_
                    repeat (refine And.intro (by first | omega | (refine ⟨?_, ?_⟩ <;> omega)) ?_)
                    refine ⟨rfl, CallK.val [] LendOk.nil (within_c _ _ _) rfl ?_⟩
                    refine evc ?_
                    repeat (refine And.intro (by first | omega | (refine ⟨?_, ?_⟩ <;> omega)) ?_)
                    refine hK28 _ ?_
                    clear hK28 K28
                    refine Wp.ret ?_
                    simp only [thn, inB, retQ]
                    clear hK14 K14
                    refine ⟨_, [], rfl, Nat.zero_le _, by decide, by simp, ?_⟩
                    simp only [go_sem, nl, Nat.mul_one, Nat.one_mul, Nat.reducePow, Nat.reduceAdd, Nat.reduceMul, Nat.reduceSub, Nat.reduceLeDiff, Nat.reduceEqDiff, Nat.reduceLT, reduceIte, Int.reduceToNat, Int.reduceLE, Int.reduceLT, reduceCtorEq, List.contains_cons, List.contains_nil, Nat.reduceBEq, Bool.or_false, Bool.false_or, Bool.or_true, Bool.true_or, forall_eq, forall_eq_or_imp, List.mem_cons, List.not_mem_nil, or_false, false_or]
                    all_goals
                      rw [hs]
                      clear hs h22
                      simp_all [irule] <;> first | omega | (intros; omega)
                  · skip
                    refine Wp.seqK fun K29 hK29 => ?_
                    refine Wp.regionS ?_
                    refine evc ?_
                    repeat (refine And.intro (by first | omega | (refine ⟨?_, ?_⟩ <;> omega)) ?_)
                    refine hK29 _ ?_
                    clear hK29 K29
                    refine Wp.cond rfl (fun h125 => ?_) (fun h125 => ?_)
                    · have hp := parts_3 (n := n) (by simp at h125; omega)
                      simp only [hp, w3, List.map_cons, List.map_nil, List.length_cons, List.length_nil, Nat.zero_add, Nat.reduceAdd, Nat.reduceSub, List.replicate_succ, List.replicate_zero, List.cons_append, List.nil_append] at hs ⊢
                      refine Wp.seqK fun K30 hK30 => ?_
                      refine Wp.regionS ?_
                      refine evc ?_
                      repeat (refine And.intro (by first | omega | (refine ⟨?_, ?_⟩ <;> omega)) ?_)
                      refine grdA_split rfl (fun g1 => ?_) (fun g1 => ?_)
                      · simp only [go_sem, nl, Nat.mul_one, Nat.one_mul, Nat.reducePow, Nat.reduceAdd, Nat.reduceMul, Nat.reduceSub, Nat.reduceLeDiff, Nat.reduceEqDiff, Nat.reduceLT, reduceIte, Int.reduceToNat, Int.reduceLE, Int.reduceLT, reduceCtorEq, List.contains_cons, List.contains_nil, Nat.reduceBEq, Bool.or_false, Bool.false_or, Bool.or_true, Bool.true_or, forall_eq, forall_eq_or_imp, List.mem_cons, List.not_mem_nil, or_false, false_or]
                        repeat (refine And.intro (by first | omega | (refine ⟨?_, ?_⟩ <;> omega)) ?_)
                        refine grdA_split rfl (fun g2 => ?_) (fun g2 => ?_)
                        · simp only [go_sem, nl, Nat.mul_one, Nat.one_mul, Nat.reducePow, Nat.reduceAdd, Nat.reduceMul, Nat.reduceSub, Nat.reduceLeDiff, Nat.reduceEqDiff, Nat.reduceLT, reduceIte, Int.reduceToNat, Int.reduceLE, Int.reduceLT, reduceCtorEq, List.contains_cons, List.contains_nil, Nat.reduceBEq, Bool.or_false, Bool.false_or, Bool.or_true, Bool.true_or, forall_eq, forall_eq_or_imp, List.mem_cons, List.not_mem_nil, or_false, false_or]
                          repeat (refine And.intro (by first | omega | (refine ⟨?_, ?_⟩ <;> omega)) ?_)
                          refine hK30 _ ?_
                          clear hK30 K30
                          refine Wp.ret ?_
                          simp only [thn, inB, retQ]
                          clear hK14 K14
                          refine ⟨_, [], rfl, Nat.zero_le _, by decide, by simp, ?_⟩
                          simp only [go_sem, nl, Nat.mul_one, Nat.one_mul, Nat.reducePow, Nat.reduceAdd, Nat.reduceMul, Nat.reduceSub, Nat.reduceLeDiff, Nat.reduceEqDiff, Nat.reduceLT, reduceIte, Int.reduceToNat, Int.reduceLE, Int.reduceLT, reduceCtorEq, List.contains_cons, List.contains_nil, Nat.reduceBEq, Bool.or_false, Bool.false_or, Bool.or_true, Bool.true_or, forall_eq, forall_eq_or_imp, List.mem_cons, List.not_mem_nil, or_false, false_or]
                          all_goals
                            rw [hs]
                            clear hs h22
                            simp_all [irule] <;> first | omega | (intros; omega)
                        · simp only [go_sem, nl, Nat.mul_one, Nat.one_mul, Nat.reducePow, Nat.reduceAdd, Nat.reduceMul, Nat.reduceSub, Nat.reduceLeDiff, Nat.reduceEqDiff, Nat.reduceLT, reduceIte, Int.reduceToNat, Int.reduceLE, Int.reduceLT, reduceCtorEq, List.contains_cons, List.contains_nil, Nat.reduceBEq, Bool.or_false, Bool.false_or, Bool.or_true, Bool.true_or, forall_eq, forall_eq_or_imp, List.mem_cons, List.not_mem_nil, or_false, false_or]
                          repeat (refine And.intro (by first | omega | (refine ⟨?_, ?_⟩ <;> omega)) ?_)
                          refine hK30 _ ?_
                          clear hK30 K30
                          refine Wp.ret ?_
                          simp only [thn, inB, retQ]
                          clear hK14 K14
                          refine ⟨_, [], rfl, Nat.zero_le _, by decide, by simp, ?_⟩
                          simp only [go_sem, nl, Nat.mul_one, Nat.one_mul, Nat.reducePow, Nat.reduceAdd, Nat.reduceMul, Nat.reduceSub, Nat.reduceLeDiff, Nat.reduceEqDiff, Nat.reduceLT, reduceIte, Int.reduceToNat, Int.reduceLE, Int.reduceLT, reduceCtorEq, List.contains_cons, List.contains_nil, Nat.reduceBEq, Bool.or_false, Bool.false_or, Bool.or_true, Bool.true_or, forall_eq, forall_eq_or_imp, List.mem_cons, List.not_mem_nil, or_false, false_or]
                          all_goals
                            rw [hs]
                            clear hs h22
                            simp_all [irule] <;> first | omega | (intros; omega)
                      · simp only [go_sem, nl, Nat.mul_one, Nat.one_mul, Nat.reducePow, Nat.reduceAdd, Nat.reduceMul, Nat.reduceSub, Nat.reduceLeDiff, Nat.reduceEqDiff, Nat.reduceLT, reduceIte, Int.reduceToNat, Int.reduceLE, Int.reduceLT, reduceCtorEq, List.contains_cons, List.contains_nil, Nat.reduceBEq, Bool.or_false, Bool.false_or, Bool.or_true, Bool.true_or, forall_eq, forall_eq_or_imp, List.mem_cons, List.not_mem_nil, or_false, false_or]
                        repeat (refine And.intro (by first | omega | (refine ⟨?_, ?_⟩ <;> omega)) ?_)
                        refine hK30 _ ?_
                        clear hK30 K30
                        refine Wp.ret ?_
                        simp only [thn, inB, retQ]
                        clear hK14 K14
                        refine ⟨_, [], rfl, Nat.zero_le _, by decide, by simp, ?_⟩
                        simp only [go_sem, nl, Nat.mul_one, Nat.one_mul, Nat.reducePow, Nat.reduceAdd, Nat.reduceMul, Nat.reduceSub, Nat.reduceLeDiff, Nat.reduceEqDiff, Nat.reduceLT, reduceIte, Int.reduceToNat, Int.reduceLE, Int.reduceLT, reduceCtorEq, List.contains_cons, List.contains_nil, Nat.reduceBEq, Bool.or_false, Bool.false_or, Bool.or_true, Bool.true_or, forall_eq, forall_eq_or_imp, List.mem_cons, List.not_mem_nil, or_false, false_or]
                        all_goals
                          rw [hs]
                          clear hs h22
                          simp_all [irule] <;> first | omega | (intros; omega)
                    · have hp := parts_1 (n := n) (by simp at h46 h55 h62 h71 h87 h101 h113 h125; omega)
                      simp only [hp, w3, List.map_cons, List.map_nil, List.length_cons, List.length_nil, Nat.zero_add, Nat.reduceAdd, Nat.reduceSub, List.replicate_succ, List.replicate_zero, List.cons_append, List.nil_append] at hs ⊢
                      rw [irule_q (by simp at h46 h55 h62 h71 h87 h101 h113 h125; omega)] at hs
                      refine Wp.skip ?_
                      try simp only [thn, inB, if_true, reduceIte]
                      refine hK14 _ ?_
                      clear hK14 K14
                      refine Wp.seqK fun K31 hK31 => ?_
                      refine Wp.regionS ?_
                      refine evc ?_
                      repeat (refine And.intro (by first | omega | (refine ⟨?_, ?_⟩ <;> omega)) ?_)
                      refine ⟨rfl, CallK.val [] LendOk.nil (isVar_c _) rfl ?_⟩
                      refine evc ?_
                      repeat (refine And.intro (by first | omega | (refine ⟨?_, ?_⟩ <;> omega)) ?_)
                      refine grdA_split rfl (fun g1 => ?_) (fun g1 => ?_)
                      · simp only [go_sem, nl, Nat.mul_one, Nat.one_mul, Nat.reducePow, Nat.reduceAdd, Nat.reduceMul, Nat.reduceSub, Nat.reduceLeDiff, Nat.reduceEqDiff, Nat.reduceLT, reduceIte, Int.reduceToNat, Int.reduceLE, Int.reduceLT, reduceCtorEq, List.contains_cons, List.contains_nil, Nat.reduceBEq, Bool.or_false, Bool.false_or, Bool.or_true, Bool.true_or, forall_eq, forall_eq_or_imp, List.mem_cons, List.not_mem_nil, or_false, false_or]
                        repeat (refine And.intro (by first | omega | (refine ⟨?_, ?_⟩ <;> omega)) ?_)
                        refine ⟨rfl, CallK.val [] LendOk.nil (isWidth_c _) rfl ?_⟩
                        refine evc ?_
                        repeat (refine And.intro (by first | omega | (refine ⟨?_, ?_⟩ <;> omega)) ?_)
                        refine grdA_split rfl (fun g2 => ?_) (fun g2 => ?_)
                        · simp only [go_sem, nl, Nat.mul_one, Nat.one_mul, Nat.reducePow, Nat.reduceAdd, Nat.reduceMul, Nat.reduceSub, Nat.reduceLeDiff, Nat.reduceEqDiff, Nat.reduceLT, reduceIte, Int.reduceToNat, Int.reduceLE, Int.reduceLT, reduceCtorEq, List.contains_cons, List.contains_nil, Nat.reduceBEq, Bool.or_false, Bool.false_or, Bool.or_true, Bool.true_or, forall_eq, forall_eq_or_imp, List.mem_cons, List.not_mem_nil, or_false, false_or]
                          repeat (refine And.intro (by first | omega | (refine ⟨?_, ?_⟩ <;> omega)) ?_)
                          refine grdA_split rfl (fun g3 => ?_) (fun g3 => ?_)
                          · simp only [go_sem, nl, Nat.mul_one, Nat.one_mul, Nat.reducePow, Nat.reduceAdd, Nat.reduceMul, Nat.reduceSub, Nat.reduceLeDiff, Nat.reduceEqDiff, Nat.reduceLT, reduceIte, Int.reduceToNat, Int.reduceLE, Int.reduceLT, reduceCtorEq, List.contains_cons, List.contains_nil, Nat.reduceBEq, Bool.or_false, Bool.false_or, Bool.or_true, Bool.true_or, forall_eq, forall_eq_or_imp, List.mem_cons, List.not_mem_nil, or_false, false_or]
                            repeat (refine And.intro (by first | omega | (refine ⟨?_, ?_⟩ <;> omega)) ?_)
                            refine hK31 _ ?_
                            clear hK31 K31
                            refine Wp.ret ?_
                            simp only [thn, inB, retQ]
                            refine ⟨_, [], rfl, Nat.zero_le _, by decide, by simp, ?_⟩
                            simp only [go_sem, nl, Nat.mul_one, Nat.one_mul, Nat.reducePow, Nat.reduceAdd, Nat.reduceMul, Nat.reduceSub, Nat.reduceLeDiff, Nat.reduceEqDiff, Nat.reduceLT, reduceIte, Int.reduceToNat, Int.reduceLE, Int.reduceLT, reduceCtorEq, List.contains_cons, List.contains_nil, Nat.reduceBEq, Bool.or_false, Bool.false_or, Bool.or_true, Bool.true_or, forall_eq, forall_eq_or_imp, List.mem_cons, List.not_mem_nil, or_false, false_or]
                            all_goals
                              rw [hs]
                              clear hs h22
                              simp_all [irule] <;> first | omega | (intros; omega)
                          · simp only [go_sem, nl, Nat.mul_one, Nat.one_mul, Nat.reducePow, Nat.reduceAdd, Nat.reduceMul, Nat.reduceSub, Nat.reduceLeDiff, Nat.reduceEqDiff, Nat.reduceLT, reduceIte, Int.reduceToNat, Int.reduceLE, Int.reduceLT, reduceCtorEq, List.contains_cons, List.contains_nil, Nat.reduceBEq, Bool.or_false, Bool.false_or, Bool.or_true, Bool.true_or, forall_eq, forall_eq_or_imp, List.mem_cons, List.not_mem_nil, or_false, false_or]
                            repeat (refine And.intro (by first | omega | (refine ⟨?_, ?_⟩ <;> omega)) ?_)
                            refine hK31 _ ?_
                            clear hK31 K31
                            refine Wp.ret ?_
                            simp only [thn, inB, retQ]
                            refine ⟨_, [], rfl, Nat.zero_le _, by decide, by simp, ?_⟩
                            simp only [go_sem, nl, Nat.mul_one, Nat.one_mul, Nat.reducePow, Nat.reduceAdd, Nat.reduceMul, Nat.reduceSub, Nat.reduceLeDiff, Nat.reduceEqDiff, Nat.reduceLT, reduceIte, Int.reduceToNat, Int.reduceLE, Int.reduceLT, reduceCtorEq, List.contains_cons, List.contains_nil, Nat.reduceBEq, Bool.or_false, Bool.false_or, Bool.or_true, Bool.true_or, forall_eq, forall_eq_or_imp, List.mem_cons, List.not_mem_nil, or_false, false_or]
                            all_goals
                              rw [hs]
                              clear hs h22
                              simp_all [irule] <;> first | omega | (intros; omega)
                        · simp only [go_sem, nl, Nat.mul_one, Nat.one_mul, Nat.reducePow, Nat.reduceAdd, Nat.reduceMul, Nat.reduceSub, Nat.reduceLeDiff, Nat.reduceEqDiff, Nat.reduceLT, reduceIte, Int.reduceToNat, Int.reduceLE, Int.reduceLT, reduceCtorEq, List.contains_cons, List.contains_nil, Nat.reduceBEq, Bool.or_false, Bool.false_or, Bool.or_true, Bool.true_or, forall_eq, forall_eq_or_imp, List.mem_cons, List.not_mem_nil, or_false, false_or]
                          repeat (refine And.intro (by first | omega | (refine ⟨?_, ?_⟩ <;> omega)) ?_)
                          refine hK31 _ ?_
                          clear hK31 K31
                          refine Wp.ret ?_
                          simp only [thn, inB, retQ]
                          refine ⟨_, [], rfl, Nat.zero_le _, by decide, by simp, ?_⟩
                          simp only [go_sem, nl, Nat.mul_one, Nat.one_mul, Nat.reducePow, Nat.reduceAdd, Nat.reduceMul, Nat.reduceSub, Nat.reduceLeDiff, Nat.reduceEqDiff, Nat.reduceLT, reduceIte, Int.reduceToNat, Int.reduceLE, Int.reduceLT, reduceCtorEq, List.contains_cons, List.contains_nil, Nat.reduceBEq, Bool.or_false, Bool.false_or, Bool.or_true, Bool.true_or, forall_eq, forall_eq_or_imp, List.mem_cons, List.not_mem_nil, or_false, false_or]
                          all_goals
                            rw [hs]
                            clear hs h22
                            simp_all [irule] <;> first | omega | (intros; omega)
                      · simp only [go_sem, nl, Nat.mul_one, Nat.one_mul, Nat.reducePow, Nat.reduceAdd, Nat.reduceMul, Nat.reduceSub, Nat.reduceLeDiff, Nat.reduceEqDiff, Nat.reduceLT, reduceIte, Int.reduceToNat, Int.reduceLE, Int.reduceLT, reduceCtorEq, List.contains_cons, List.contains_nil, Nat.reduceBEq, Bool.or_false, Bool.false_or, Bool.or_true, Bool.true_or, forall_eq, forall_eq_or_imp, List.mem_cons, List.not_mem_nil, or_false, false_or]
                        repeat (refine And.intro (by first | omega | (refine ⟨?_, ?_⟩ <;> omega)) ?_)
                        refine hK31 _ ?_
                        clear hK31 K31
                        refine Wp.ret ?_
                        simp only [thn, inB, retQ]
                        refine ⟨_, [], rfl, Nat.zero_le _, by decide, by simp, ?_⟩
                        simp only [go_sem, nl, Nat.mul_one, Nat.one_mul, Nat.reducePow, Nat.reduceAdd, Nat.reduceMul, Nat.reduceSub, Nat.reduceLeDiff, Nat.reduceEqDiff, Nat.reduceLT, reduceIte, Int.reduceToNat, Int.reduceLE, Int.reduceLT, reduceCtorEq, List.contains_cons, List.contains_nil, Nat.reduceBEq, Bool.or_false, Bool.false_or, Bool.or_true, Bool.true_or, forall_eq, forall_eq_or_imp, List.mem_cons, List.not_mem_nil, or_false, false_or]
                        all_goals
                          rw [hs]
                          clear hs h22
                          simp_all [irule] <;> first | omega | (intros; omega)
end Go.Proofs.YtkdkbnacelnljaaGreat.RE
