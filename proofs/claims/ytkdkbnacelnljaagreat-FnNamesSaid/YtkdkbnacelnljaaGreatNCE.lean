/- Reaching, the reference. Conditions: those that a theorem names. -/
import Derived.Test.YtkdkbnacelnljaaGreatNCC
set_option linter.unusedVariables false
set_option linter.unusedSimpArgs false
namespace Go.Proofs.YtkdkbnacelnljaaGreat.RE
open Go Go.RowKit
set_option maxRecDepth 100000
set_option maxHeartbeats 8000000

def okT (t : List Nd) : Bool := (decide (1 ≤ (t.length : Int)) && decide ((t.length : Int) ≤ 80)) && (List.range t.length).all (sRight t)
theorem okT_len {t : List Nd} (h : okT t = true) : 1 ≤ t.length ∧ t.length ≤ 80 := by
  simp [okT] at h; omega
theorem okT_at {t : List Nd} (h : okT t = true) {i : Nat} (hi : i < t.length) : sRight t i = true := by
  simp only [okT, Bool.and_eq_true] at h
  exact List.all_eq_true.1 h.2 i (List.mem_range.2 hi)
theorem okT_no {t : List Nd} {i : Nat} (hi : i < t.length) (h : sRight t i = false) : okT t = false := by
  cases hh : okT t with
  | false => rfl
  | true => rw [okT_at hh hi] at h; cases h
theorem okT_part {t : List Nd} (h : okT t = true) {i : Nat} (hi : i < t.length) : ∀ p ∈ parts (t.getD i default), 0 ≤ p ∧ p < i := by
  have := okT_at h hi
  simp only [sRight, Bool.and_eq_true] at this
  exact fun p hp => by simpa using List.all_eq_true.1 this.1 p hp
theorem sTermOk_c (t : List Nd) : Val E.P 23 [dN t] (T (okT t)) := by
  refine CallsA.body (E := E) (fn := Tryz.f23) Tryz.func23 rfl fun B hB => ?_
  simp only [Tryz.ntmps23, go_sem, nl, Nat.mul_one, Nat.one_mul, Nat.reducePow, Nat.reduceAdd, Nat.reduceMul, Nat.reduceSub, Nat.reduceLeDiff, Nat.reduceEqDiff, Nat.reduceLT, reduceIte, Int.reduceToNat, Int.reduceLE, Int.reduceLT, reduceCtorEq, List.contains_cons, List.contains_nil, Nat.reduceBEq, Bool.or_false, Bool.false_or, Bool.or_true, Bool.true_or, forall_eq, forall_eq_or_imp, List.mem_cons, List.not_mem_nil, or_false, false_or, List.reduceReplicate]
  refine Wp.seqK fun K1 hK1 => ?_
  refine Wp.regionS ?_
  refine evc ?_
  repeat (refine And.intro (by first | omega | (refine ⟨?_, ?_⟩ <;> omega)) ?_)
  refine hK1 _ ?_
  clear hK1 K1
  refine Wp.seqK fun K2 hK2 => ?_
  refine Wp.seqK fun K3 hK3 => ?_
  refine Wp.regionS ?_
  refine evc ?_
  repeat (refine And.intro (by first | omega | (refine ⟨?_, ?_⟩ <;> omega)) ?_)
  refine ⟨rfl, CallK.val [] LendOk.nil (l01In_c _ _ _) rfl ?_⟩
  refine evc ?_
  repeat (refine And.intro (by first | omega | (refine ⟨?_, ?_⟩ <;> omega)) ?_)
  refine hK3 _ ?_
  clear hK3 K3
  refine Wp.cond rfl (fun h7 => ?_) (fun h7 => ?_)
  · skip
    refine Wp.seqK fun K4 hK4 => ?_
    refine Wp.regionS ?_
    refine evc ?_
    repeat (refine And.intro (by first | omega | (refine ⟨?_, ?_⟩ <;> omega)) ?_)
    refine hK4 _ ?_
    clear hK4 K4
    refine Wp.ret ?_
    simp only [thn, inB, retQ]
    clear hK2 K2
    refine ⟨_, [], rfl, Nat.zero_le _, by decide, by simp, ?_⟩
    simp only [go_sem, nl, Nat.mul_one, Nat.one_mul, Nat.reducePow, Nat.reduceAdd, Nat.reduceMul, Nat.reduceSub, Nat.reduceLeDiff, Nat.reduceEqDiff, Nat.reduceLT, reduceIte, Int.reduceToNat, Int.reduceLE, Int.reduceLT, reduceCtorEq, List.contains_cons, List.contains_nil, Nat.reduceBEq, Bool.or_false, Bool.false_or, Bool.or_true, Bool.true_or, forall_eq, forall_eq_or_imp, List.mem_cons, List.not_mem_nil, or_false, false_or]
    all_goals
      simp only [okT, nT h7, Bool.false_and]
  · have hl := nF h7
    have hl2 : 1 ≤ t.length ∧ t.length ≤ 80 := by simp at hl; omega
    refine Wp.skip ?_
    refine hK2 _ ?_
    clear hK2 K2
    refine Wp.seqK fun K5 hK5 => ?_
    refine Wp.seqK fun K6 hK6 => ?_
    refine Wp.regionS ?_
    refine evc ?_
    repeat (refine And.intro (by first | omega | (refine ⟨?_, ?_⟩ <;> omega)) ?_)
    refine hK6 _ ?_
    clear hK6 K6
    refine Wp.block ?_
    skip
    refine Wp.loop (α := Nat) (fun x s => x ≤ t.length ∧ (List.range x).all (sRight t) = true ∧ ∃ f : Nat → AV, s = ⟨[dN t, f 1, T false, I x, f 4, f 5, f 6, f 7, f 8, f 9, f 10, f 11, f 12, f 13, f 14, f 15, f 16, f 17], []⟩) (fun x => t.length - x) 0 ⟨Nat.zero_le _, rfl, anyT rfl rfl⟩ ?_
    rintro x _ ⟨hx, ha, f, rfl⟩
    refine Wp.seqK fun K7 hK7 => ?_
    refine Wp.seqK fun K8 hK8 => ?_
    refine Wp.regionS ?_
    refine evc ?_
    repeat (refine And.intro (by first | omega | (refine ⟨?_, ?_⟩ <;> omega)) ?_)
    refine hK8 _ ?_
    clear hK8 K8
    refine Wp.cond rfl (fun h11 => ?_) (fun h11 => ?_)
    · have hxl : x < t.length := by simpa using h11
      refine Wp.skip ?_
      refine hK7 _ ?_
      clear hK7 K7
      refine Wp.seqK fun K9 hK9 => ?_
      refine Wp.block ?_
      refine Wp.seqK fun K10 hK10 => ?_
      refine Wp.regionS ?_
      refine evc ?_
      repeat (refine And.intro (by first | omega | (refine ⟨?_, ?_⟩ <;> omega)) ?_)
      refine ⟨rfl, CallK.val [] LendOk.nil (l02Node_c _ _ (by omega) (by omega)) rfl ?_⟩
      refine evc ?_
      repeat (refine And.intro (by first | omega | (refine ⟨?_, ?_⟩ <;> omega)) ?_)
      refine hK10 _ ?_
      clear hK10 K10
      refine Wp.cond rfl (fun h17 => ?_) (fun h17 => ?_)
      · skip
        refine Wp.seqK fun K11 hK11 => ?_
        refine Wp.regionS ?_
        refine evc ?_
        repeat (refine And.intro (by first | omega | (refine ⟨?_, ?_⟩ <;> omega)) ?_)
        refine hK11 _ ?_
        clear hK11 K11
        refine Wp.ret ?_
        simp only [thn, inB, retQ]
        clear hK9 K9
        clear hK5 K5
        refine ⟨_, [], rfl, Nat.zero_le _, by decide, by simp, ?_⟩
        simp only [go_sem, nl, Nat.mul_one, Nat.one_mul, Nat.reducePow, Nat.reduceAdd, Nat.reduceMul, Nat.reduceSub, Nat.reduceLeDiff, Nat.reduceEqDiff, Nat.reduceLT, reduceIte, Int.reduceToNat, Int.reduceLE, Int.reduceLT, reduceCtorEq, List.contains_cons, List.contains_nil, Nat.reduceBEq, Bool.or_false, Bool.false_or, Bool.or_true, Bool.true_or, forall_eq, forall_eq_or_imp, List.mem_cons, List.not_mem_nil, or_false, false_or]
        all_goals
          rw [okT_no hxl (nT h17)]
      · skip
        refine Wp.skip ?_
        try simp only [thn, inB, if_true, reduceIte]
        refine hK9 _ ?_
        clear hK9 K9
        refine Wp.regionS ?_
        refine evc ?_
        repeat (refine And.intro (by first | omega | (refine ⟨?_, ?_⟩ <;> omega)) ?_)
        rw [up (by omega)]
        exact ⟨x + 1, ⟨by omega, by rw [List.range_succ, List.all_append, ha, List.all_cons, nF h17]; rfl, anyT rfl rfl⟩, by omega⟩
    · have hxl : x = t.length := by
        have : ¬ x < t.length := by simpa using h11
        omega
      refine Wp.exit ?_
      simp only [thn, inB, if_true, reduceIte]
      clear hK7 K7
      refine hK5 _ ?_
      clear hK5 K5
      refine Wp.seqK fun K12 hK12 => ?_
      refine Wp.regionS ?_
      refine evc ?_
      repeat (refine And.intro (by first | omega | (refine ⟨?_, ?_⟩ <;> omega)) ?_)
      refine hK12 _ ?_
      clear hK12 K12
      refine Wp.ret ?_
      simp only [thn, inB, retQ]
      refine ⟨_, [], rfl, Nat.zero_le _, by decide, by simp, ?_⟩
      simp only [go_sem, nl, Nat.mul_one, Nat.one_mul, Nat.reducePow, Nat.reduceAdd, Nat.reduceMul, Nat.reduceSub, Nat.reduceLeDiff, Nat.reduceEqDiff, Nat.reduceLT, reduceIte, Int.reduceToNat, Int.reduceLE, Int.reduceLT, reduceCtorEq, List.contains_cons, List.contains_nil, Nat.reduceBEq, Bool.or_false, Bool.false_or, Bool.or_true, Bool.true_or, forall_eq, forall_eq_or_imp, List.mem_cons, List.not_mem_nil, or_false, false_or]
      all_goals
        subst hxl
        simp only [okT, hl, ha, Bool.and_self]

/-! ### What the root reaches -/
def mark (b : List Bool) (ps : List Int) : List Bool := ps.foldl (fun b p => b.set p.toNat true) b
theorem mark_len (ps : List Int) (b : List Bool) : (mark b ps).length = b.length := by
  unfold mark
  induction ps generalizing b with
  | nil => rfl
  | cons p ps ih => simp only [List.foldl_cons]; rw [ih]; simp
theorem mark_push (b : List Bool) (ps : List Int) (p : Int) : mark b (ps ++ [p]) = (mark b ps).set p.toNat true := by simp [mark]
theorem mark_get (ps : List Int) (b : List Bool) (i : Nat) : i < b.length → (mark b ps).getD i false = (b.getD i false || ps.any fun p => decide (p.toNat = i)) := by
  unfold mark
  induction ps generalizing b with
  | nil => simp
  | cons p ps ih =>
    intro h
    simp only [List.foldl_cons, List.any_cons]
    rw [ih _ (by simpa using h)]
    rw [← Bool.or_assoc]
    congr 1
    by_cases hp : p.toNat = i
    · subst hp; simp [List.getD_eq_getElem?_getD, h]
    · simp [List.getD_eq_getElem?_getD, hp]
def stepR (t : List Nd) (ps : Nat → Bool) (i : Nat) (b : List Bool) : List Bool := if (b.getD i false && ps i) = true then mark b (parts (t.getD i default)) else b
theorem stepR_len (t : List Nd) (ps : Nat → Bool) (i : Nat) (b : List Bool) : (stepR t ps i b).length = b.length := by
  unfold stepR; split
  · exact mark_len _ _
  · rfl
def runR (t : List Nd) (ps : Nat → Bool) : Nat → List Bool → List Bool
  | 0, b => b
  | i + 1, b => runR t ps i (stepR t ps i b)
theorem runR_len (t : List Nd) (ps : Nat → Bool) (i : Nat) (b : List Bool) : (runR t ps i b).length = b.length := by
  induction i generalizing b with
  | zero => rfl
  | succ i ih => rw [runR, ih, stepR_len]
def rootR (n : Nat) : List Bool := (List.range n).map fun i => decide (i + 1 = n)
def reachT (t : List Nd) : List Bool := runR t (fun _ => true) t.length (rootR t.length)
theorem reachT_len (t : List Nd) : (reachT t).length = t.length := by simp [reachT, runR_len, rootR]
theorem mark_i {b : List Bool} {ps : List Int} {i : Nat} (hi : i < b.length) (hp : ∀ p ∈ ps, 0 ≤ p ∧ p < (i : Int)) : (mark b ps).getD i false = b.getD i false := by
  rw [mark_get _ _ _ hi]
  have : (ps.any fun p => decide (p.toNat = i)) = false := by
    rw [List.any_eq_false]
    intro p h
    have := hp p h
    simp; omega
  rw [this, Bool.or_false]
theorem reach_fin {t : List Nd} {i k : Nat} {b : List Bool} (hi : i < b.length) (hp : ∀ p ∈ parts (t.getD i default), 0 ≤ p ∧ p < (i : Int)) (hk : k ≤ (parts (t.getD i default)).length) (hb : k = 0 ∨ b.getD i false = true) (h : (decide ((k : Int) < ((parts (t.getD i default)).length : Nat)) && (mark b ((parts (t.getD i default)).take k)).getD i false) = false) : mark b ((parts (t.getD i default)).take k) = stepR t (fun _ => true) i b := by
  rw [mark_i hi (fun p h => hp p (List.mem_of_mem_take h))] at h
  unfold stepR
  rw [Bool.and_true]
  cases hh : b.getD i false with
  | false =>
    rw [hh] at hb
    have : k = 0 := by simpa using hb
    subst this
    simp [mark]
  | true =>
    rw [hh, Bool.and_true] at h
    have : k = (parts (t.getD i default)).length := by simp only [decide_eq_false_iff_not] at h; omega
    rw [this, List.take_length, if_pos rfl]
theorem root_eq (n : Nat) : ((List.range n).map fun (i : Nat) => decide ((i : Int) = n - 1)) = rootR n := by
  unfold rootR
  apply List.map_congr_left
  intro i _
  exact decide_eq_decide.2 (by omega)
theorem l02Reach_c (t : List Nd) (hok : okT t = true) (hl : 1 ≤ t.length ∧ t.length ≤ 80) : Row E.P 70 [dN t] 1 t.length ((reachT t).map cb) := by
  refine CallsA.body (E := E) (fn := Tryz.f70) Tryz.func70 rfl fun B hB => ?_
  simp only [Tryz.ntmps70, go_sem, nl, Nat.mul_one, Nat.one_mul, Nat.reducePow, Nat.reduceAdd, Nat.reduceMul, Nat.reduceSub, Nat.reduceLeDiff, Nat.reduceEqDiff, Nat.reduceLT, reduceIte, Int.reduceToNat, Int.reduceLE, Int.reduceLT, reduceCtorEq, List.contains_cons, List.contains_nil, Nat.reduceBEq, Bool.or_false, Bool.false_or, Bool.or_true, Bool.true_or, forall_eq, forall_eq_or_imp, List.mem_cons, List.not_mem_nil, or_false, false_or, List.reduceReplicate]
  refine Wp.seqK fun K1 hK1 => ?_
  refine Wp.regionS ?_
  refine evc ?_
  repeat (refine And.intro (by first | omega | (refine ⟨?_, ?_⟩ <;> omega)) ?_)
  refine hK1 _ ?_
  clear hK1 K1
  refine Wp.seqK fun K2 hK2 => ?_
  refine Wp.regionS ?_
  refine evc ?_
  repeat (refine And.intro (by first | omega | (refine ⟨?_, ?_⟩ <;> omega)) ?_)
  refine hK2 _ ?_
  clear hK2 K2
  refine Wp.seqK fun K3 hK3 => ?_
  refine Wp.seqK fun K4 hK4 => ?_
  refine Wp.regionS ?_
  refine evc ?_
  repeat (refine And.intro (by first | omega | (refine ⟨?_, ?_⟩ <;> omega)) ?_)
  refine hK4 _ ?_
  clear hK4 K4
  refine Wp.block ?_
  skip
  refine Wp.loop (α := Nat) (fun x s => x ≤ t.length ∧ ∃ f : Nat → AV, s = ⟨[dN t, f 1, f 2, .l (.obj 0 x 1 0 x), I x, f 5, f 6, f 7, f 8, f 9, f 10, f 11, f 12, f 13, f 14, f 15, f 16, f 17, f 18, f 19, f 20, f 21, f 22, f 23, f 24, f 25, f 26, f 27, f 28, f 29, f 30, f 31, f 32, f 33, f 34, f 35, f 36, f 37, f 38, f 39, f 40, f 41, f 42, f 43, f 44, f 45, f 46, f 47, f 48, f 49, f 50, f 51, f 52, f 53], [some ⟨x, ((List.range x).map fun (i : Nat) => decide ((i : Int) = t.length - 1)).map cb⟩]⟩) (fun x => t.length - x) 0 ⟨Nat.zero_le _, anyT rfl rfl⟩ ?_
  rintro x _ ⟨hx, f, rfl⟩
  refine Wp.seqK fun K5 hK5 => ?_
  refine Wp.seqK fun K6 hK6 => ?_
  refine Wp.regionS ?_
  refine evc ?_
  repeat (refine And.intro (by first | omega | (refine ⟨?_, ?_⟩ <;> omega)) ?_)
  refine hK6 _ ?_
  clear hK6 K6
  refine Wp.cond rfl (fun h12 => ?_) (fun h12 => ?_)
  · have hxl : x < t.length := by simpa using h12
    refine Wp.skip ?_
    refine hK5 _ ?_
    clear hK5 K5
    refine Wp.seqK fun K7 hK7 => ?_
    refine Wp.block ?_
    refine Wp.regionS ?_
    simp only [go_sem, List.length_range, encN_len, lN_len, List.length_drop, List.length_map, List.length_take, List.length_append, Int.toNat_natCast, nl, Nat.mul_one, Nat.one_mul, Nat.reducePow, Nat.reduceAdd, Nat.reduceMul, Nat.reduceSub, Nat.reduceLeDiff, Nat.reduceEqDiff, Nat.reduceLT, reduceIte, Int.reduceToNat, Int.reduceLE, Int.reduceLT, reduceCtorEq, List.contains_cons, List.contains_nil, Nat.reduceBEq, Bool.or_false, Bool.false_or, Bool.or_true, Bool.true_or, forall_eq, forall_eq_or_imp, List.mem_cons, List.not_mem_nil, or_false, false_or]
    repeat (refine And.intro (by first | omega | (refine ⟨?_, ?_⟩ <;> omega)) ?_)
    rw [wr (by omega) (by omega)]
    rw [pushB _ x (by simp)]
    try simp only [thn, inB, if_true, reduceIte]
    refine hK7 _ ?_
    clear hK7 K7
    refine Wp.keep 1 (by simp [hB]) (by simp) ?_
    simp only [go_sem, renI, renB, renN, renn, nl, Nat.mul_one, Nat.one_mul, Nat.reducePow, Nat.reduceAdd, Nat.reduceMul, Nat.reduceSub, Nat.reduceLeDiff, Nat.reduceEqDiff, Nat.reduceLT, reduceIte, Int.reduceToNat, Int.reduceLE, Int.reduceLT, reduceCtorEq, List.contains_cons, List.contains_nil, Nat.reduceBEq, Bool.or_false, Bool.false_or, Bool.or_true, Bool.true_or, forall_eq, forall_eq_or_imp, List.mem_cons, List.not_mem_nil, or_false, false_or]
    refine Wp.regionS ?_
    refine evc ?_
    repeat (refine And.intro (by first | omega | (refine ⟨?_, ?_⟩ <;> omega)) ?_)
    rw [up (by omega)]
    refine ⟨x + 1, ⟨by omega, ?_⟩, by omega⟩
    simp only [List.range_succ, List.map_append, List.map_cons, List.map_nil]
    exact anyT rfl rfl
  · have hxl : x = t.length := by
      have : ¬ x < t.length := by simpa using h12
      omega
    subst hxl
    refine Wp.exit ?_
    simp only [thn, inB, if_true, reduceIte]
    clear hK5 K5
    refine hK3 _ ?_
    clear hK3 K3
    refine Wp.seqK fun K8 hK8 => ?_
    refine Wp.seqK fun K9 hK9 => ?_
    refine Wp.regionS ?_
    refine evc ?_
    repeat (refine And.intro (by first | omega | (refine ⟨?_, ?_⟩ <;> omega)) ?_)
    rw [wr (by omega) (by omega)]
    refine hK9 _ ?_
    clear hK9 K9
    refine Wp.block ?_
    simp only [root_eq]
    refine Wp.loop (α := Nat) (fun x s => x ≤ t.length ∧ ∃ b : List Bool, b.length = t.length ∧ runR t (fun _ => true) x b = reachT t ∧ ∃ f : Nat → AV, s = ⟨[dN t, f 1, f 2, .l (.obj 0 t.length 1 0 t.length), f 4, I ((x : Int) - 1), f 6, f 7, f 8, f 9, f 10, f 11, f 12, f 13, f 14, f 15, f 16, f 17, f 18, f 19, f 20, f 21, f 22, f 23, f 24, f 25, f 26, f 27, f 28, f 29, f 30, f 31, f 32, f 33, f 34, f 35, f 36, f 37, f 38, f 39, f 40, f 41, f 42, f 43, f 44, f 45, f 46, f 47, f 48, f 49, f 50, f 51, f 52, f 53], [some ⟨t.length, b.map cb⟩]⟩) (fun x => x) t.length ⟨Nat.le_refl _, rootR t.length, by simp [rootR], rfl, anyT rfl rfl⟩ ?_
    rintro x _ ⟨hx, b, hb, hr, f, rfl⟩
    refine Wp.seqK fun K10 hK10 => ?_
    refine Wp.seqK fun K11 hK11 => ?_
    refine Wp.regionS ?_
    refine evc ?_
    repeat (refine And.intro (by first | omega | (refine ⟨?_, ?_⟩ <;> omega)) ?_)
    refine hK11 _ ?_
    clear hK11 K11
    refine Wp.cond rfl (fun h27 => ?_) (fun h27 => ?_)
    · obtain ⟨i, rfl⟩ : ∃ i, x = i + 1 := ⟨x - 1, by simp at h27; omega⟩
      simp only [show ((i + 1 : Nat) : Int) - 1 = (i : Int) by omega]
      have hi : i < t.length := by omega
      have hp := okT_part hok hi
      have hpl := parts_len (t.getD i default)
      refine Wp.skip ?_
      refine hK10 _ ?_
      clear hK10 K10
      refine Wp.seqK fun K12 hK12 => ?_
      refine Wp.block ?_
      refine Wp.seqK fun K13 hK13 => ?_
      refine Wp.regionS ?_
      simp only [go_sem, atN _ hi, encN_len, lN_len, List.length_drop, List.length_map, List.length_take, List.length_append, Int.toNat_natCast, nl, Nat.mul_one, Nat.one_mul, Nat.reducePow, Nat.reduceAdd, Nat.reduceMul, Nat.reduceSub, Nat.reduceLeDiff, Nat.reduceEqDiff, Nat.reduceLT, reduceIte, Int.reduceToNat, Int.reduceLE, Int.reduceLT, reduceCtorEq, List.contains_cons, List.contains_nil, Nat.reduceBEq, Bool.or_false, Bool.false_or, Bool.or_true, Bool.true_or, forall_eq, forall_eq_or_imp, List.mem_cons, List.not_mem_nil, or_false, false_or]
      repeat (refine And.intro (by first | omega | (refine ⟨?_, ?_⟩ <;> omega)) ?_)
      refine ⟨rfl, CallK.row [] LendOk.nil (sParts_c _) (flatI _) ?_⟩
      simp only [go_sem, atN _ hi, encN_len, lN_len, List.length_drop, List.length_map, List.length_take, List.length_append, Int.toNat_natCast, nl, Nat.mul_one, Nat.one_mul, Nat.reducePow, Nat.reduceAdd, Nat.reduceMul, Nat.reduceSub, Nat.reduceLeDiff, Nat.reduceEqDiff, Nat.reduceLT, reduceIte, Int.reduceToNat, Int.reduceLE, Int.reduceLT, reduceCtorEq, List.contains_cons, List.contains_nil, Nat.reduceBEq, Bool.or_false, Bool.false_or, Bool.or_true, Bool.true_or, forall_eq, forall_eq_or_imp, List.mem_cons, List.not_mem_nil, or_false, false_or]
      repeat (refine And.intro (by first | omega | (refine ⟨?_, ?_⟩ <;> omega)) ?_)
      refine hK13 _ ?_
      clear hK13 K13
      refine Wp.seqK fun K14 hK14 => ?_
      refine Wp.regionS ?_
      refine evc ?_
      repeat (refine And.intro (by first | omega | (refine ⟨?_, ?_⟩ <;> omega)) ?_)
      refine hK14 _ ?_
      clear hK14 K14
      refine Wp.block ?_
      skip
      refine Wp.loop (α := Nat) (fun x s => x ≤ (parts (t.getD i default)).length ∧ (x = 0 ∨ b.getD i false = true) ∧ ∃ f : Nat → AV, s = ⟨[dN t, f 1, f 2, .l (.obj 0 t.length 1 0 t.length), f 4, I i, .l (.obj 1 0 1 0 (parts (t.getD i default)).length), I x, f 8, f 9, f 10, f 11, f 12, f 13, f 14, f 15, f 16, f 17, f 18, f 19, f 20, f 21, f 22, f 23, f 24, f 25, f 26, f 27, f 28, f 29, f 30, f 31, f 32, f 33, f 34, f 35, f 36, f 37, f 38, f 39, f 40, f 41, f 42, f 43, f 44, f 45, f 46, f 47, f 48, f 49, f 50, f 51, f 52, f 53], [some ⟨t.length, (mark b ((parts (t.getD i default)).take x)).map cb⟩, some ⟨0, (parts (t.getD i default)).map ci⟩]⟩) (fun x => (parts (t.getD i default)).length - x) 0 ⟨Nat.zero_le _, .inl rfl, anyT rfl rfl⟩ ?_
      rintro k _ ⟨hk, hkb, f, rfl⟩
      refine Wp.seqK fun K15 hK15 => ?_
      refine Wp.seqM (fun s => ∃ f : Nat → AV, s = ⟨[dN t, f 1, f 2, .l (.obj 0 t.length 1 0 t.length), f 4, I i, .l (.obj 1 0 1 0 (parts (t.getD i default)).length), I k, f 8, f 9, f 10, f 11, f 12, f 13, f 14, f 15, f 16, f 17, f 18, f 19, f 20, f 21, f 22, f 23, f 24, f 25, f 26, f 27, f 28, f 29, f 30, f 31, f 32, f 33, f 34, f 35, f 36, f 37, f 38, f 39, f 40, f 41, f 42, f 43, T (decide ((k : Int) < ((parts (t.getD i default)).length : Nat)) && (mark b ((parts (t.getD i default)).take k)).getD i false), f 45, f 46, f 47, f 48, f 49, f 50, f 51, f 52, f 53], [some ⟨t.length, (mark b ((parts (t.getD i default)).take k)).map cb⟩, some ⟨0, (parts (t.getD i default)).map ci⟩]⟩) ?_ ?_
      · refine Wp.regionS ?_
        simp only [go_sem, mark_len, atB (show i < (mark b ((parts (t.getD i default)).take k)).length by rw [mark_len]; omega), encN_len, lN_len, List.length_drop, List.length_map, List.length_take, List.length_append, Int.toNat_natCast, nl, Nat.mul_one, Nat.one_mul, Nat.reducePow, Nat.reduceAdd, Nat.reduceMul, Nat.reduceSub, Nat.reduceLeDiff, Nat.reduceEqDiff, Nat.reduceLT, reduceIte, Int.reduceToNat, Int.reduceLE, Int.reduceLT, reduceCtorEq, List.contains_cons, List.contains_nil, Nat.reduceBEq, Bool.or_false, Bool.false_or, Bool.or_true, Bool.true_or, forall_eq, forall_eq_or_imp, List.mem_cons, List.not_mem_nil, or_false, false_or]
        repeat (refine And.intro (by first | omega | (refine ⟨?_, ?_⟩ <;> omega)) ?_)
        refine grdA_split rfl (fun g1 => ?_) (fun g1 => ?_)
        · simp only [go_sem, mark_len, atB (show i < (mark b ((parts (t.getD i default)).take k)).length by rw [mark_len]; omega), encN_len, lN_len, List.length_drop, List.length_map, List.length_take, List.length_append, Int.toNat_natCast, nl, Nat.mul_one, Nat.one_mul, Nat.reducePow, Nat.reduceAdd, Nat.reduceMul, Nat.reduceSub, Nat.reduceLeDiff, Nat.reduceEqDiff, Nat.reduceLT, reduceIte, Int.reduceToNat, Int.reduceLE, Int.reduceLT, reduceCtorEq, List.contains_cons, List.contains_nil, Nat.reduceBEq, Bool.or_false, Bool.false_or, Bool.or_true, Bool.true_or, forall_eq, forall_eq_or_imp, List.mem_cons, List.not_mem_nil, or_false, false_or]
          repeat (refine And.intro (by first | omega | (refine ⟨?_, ?_⟩ <;> omega)) ?_)
          simp only [g1, Bool.true_or, Bool.or_true, Bool.false_or, Bool.or_false, Bool.true_and, Bool.and_true, Bool.false_and, Bool.and_false, Bool.not_true, Bool.not_false]
          exact anyT rfl rfl
        · simp only [go_sem, mark_len, atB (show i < (mark b ((parts (t.getD i default)).take k)).length by rw [mark_len]; omega), encN_len, lN_len, List.length_drop, List.length_map, List.length_take, List.length_append, Int.toNat_natCast, nl, Nat.mul_one, Nat.one_mul, Nat.reducePow, Nat.reduceAdd, Nat.reduceMul, Nat.reduceSub, Nat.reduceLeDiff, Nat.reduceEqDiff, Nat.reduceLT, reduceIte, Int.reduceToNat, Int.reduceLE, Int.reduceLT, reduceCtorEq, List.contains_cons, List.contains_nil, Nat.reduceBEq, Bool.or_false, Bool.false_or, Bool.or_true, Bool.true_or, forall_eq, forall_eq_or_imp, List.mem_cons, List.not_mem_nil, or_false, false_or]
          repeat (refine And.intro (by first | omega | (refine ⟨?_, ?_⟩ <;> omega)) ?_)
          simp only [g1, Bool.true_or, Bool.or_true, Bool.false_or, Bool.or_false, Bool.true_and, Bool.and_true, Bool.false_and, Bool.and_false, Bool.not_true, Bool.not_false]
          exact anyT rfl rfl
      rintro _ ⟨f, rfl⟩
      refine Wp.cond rfl (fun h44 => ?_) (fun h44 => ?_)
      · simp only [Bool.and_eq_true] at h44
        have hkl : k < (parts (t.getD i default)).length := by simpa using h44.1
        have hbi : b.getD i false = true := by rw [← mark_i (by omega) (fun p h => hp p (List.mem_of_mem_take h))]; exact h44.2
        have hpk := hp ((parts (t.getD i default)).getD k 0) (by rw [← getD_at hkl]; exact List.getElem_mem hkl)
        refine Wp.skip ?_
        refine hK15 _ ?_
        clear hK15 K15
        refine Wp.seqK fun K16 hK16 => ?_
        refine Wp.block ?_
        refine Wp.regionS ?_
        simp only [go_sem, atI hkl, mark_len, encN_len, lN_len, List.length_drop, List.length_map, List.length_take, List.length_append, Int.toNat_natCast, nl, Nat.mul_one, Nat.one_mul, Nat.reducePow, Nat.reduceAdd, Nat.reduceMul, Nat.reduceSub, Nat.reduceLeDiff, Nat.reduceEqDiff, Nat.reduceLT, reduceIte, Int.reduceToNat, Int.reduceLE, Int.reduceLT, reduceCtorEq, List.contains_cons, List.contains_nil, Nat.reduceBEq, Bool.or_false, Bool.false_or, Bool.or_true, Bool.true_or, forall_eq, forall_eq_or_imp, List.mem_cons, List.not_mem_nil, or_false, false_or]
        repeat (refine And.intro (by first | omega | (refine ⟨?_, ?_⟩ <;> omega)) ?_)
        rw [setB (by rw [mark_len]; omega)]
        try simp only [thn, inB, if_true, reduceIte]
        refine hK16 _ ?_
        clear hK16 K16
        refine Wp.regionS ?_
        refine evc ?_
        repeat (refine And.intro (by first | omega | (refine ⟨?_, ?_⟩ <;> omega)) ?_)
        rw [up (by omega)]
        refine ⟨k + 1, ⟨by omega, .inr hbi, ?_⟩, by omega⟩
        rw [take_push 0 hkl, mark_push]
        exact anyT rfl rfl
      · have hfin := reach_fin (by omega) hp hk hkb h44
        refine Wp.exit ?_
        simp only [thn, inB, if_true, reduceIte]
        clear hK15 K15
        try simp only [thn, inB, if_true, reduceIte]
        refine hK12 _ ?_
        clear hK12 K12
        rw [hfin]
        refine Wp.keep 1 (by simp [hB]) (by simp) ?_
        simp only [go_sem, renI, renB, renN, renn, nl, Nat.mul_one, Nat.one_mul, Nat.reducePow, Nat.reduceAdd, Nat.reduceMul, Nat.reduceSub, Nat.reduceLeDiff, Nat.reduceEqDiff, Nat.reduceLT, reduceIte, Int.reduceToNat, Int.reduceLE, Int.reduceLT, reduceCtorEq, List.contains_cons, List.contains_nil, Nat.reduceBEq, Bool.or_false, Bool.false_or, Bool.or_true, Bool.true_or, forall_eq, forall_eq_or_imp, List.mem_cons, List.not_mem_nil, or_false, false_or]
        refine Wp.regionS ?_
        refine evc ?_
        repeat (refine And.intro (by first | omega | (refine ⟨?_, ?_⟩ <;> omega)) ?_)
        rw [wr (by omega) (by omega)]
        exact ⟨i, ⟨by omega, _, by rw [stepR_len, hb], hr, anyT rfl rfl⟩, by omega⟩
    · have hx0 : x = 0 := by simp at h27; omega
      refine Wp.exit ?_
      simp only [thn, inB, if_true, reduceIte]
      clear hK10 K10
      refine hK8 _ ?_
      clear hK8 K8
      refine Wp.seqK fun K17 hK17 => ?_
      refine Wp.regionS ?_
      refine evc ?_
      repeat (refine And.intro (by first | omega | (refine ⟨?_, ?_⟩ <;> omega)) ?_)
      refine hK17 _ ?_
      clear hK17 K17
      refine Wp.ret ?_
      simp only [thn, inB, retQ]
      refine ⟨_, [0], rfl, Nat.zero_le _, by decide, by simp, ?_⟩
      have e : b = reachT t := by rw [hx0] at hr; exact hr
      subst e
      exact ret_row rfl (flatB _)
end Go.Proofs.YtkdkbnacelnljaaGreat.RE
