/- Right nodes, the reference. Conditions: those that a theorem names. -/
import Derived.Test.YtkdkbnacelnljaaGreatNCD
set_option linter.unusedVariables false
set_option linter.unusedSimpArgs false
namespace Go.Proofs.YtkdkbnacelnljaaGreat.RE
open Go Go.RowKit
set_option maxRecDepth 100000
set_option maxHeartbeats 8000000
theorem l02Node_c (t : List Nd) (i : Nat) (hi : i < t.length) (ht : t.length ≤ 1000) : Val E.P 54 [dN t, I i] (T (sRight t i)) := by
  refine CallsA.body (E := E) (fn := Tryz.f54) Tryz.func54 rfl fun B hB => ?_
  simp only [Tryz.ntmps54, go_sem, nl, Nat.mul_one, Nat.one_mul, Nat.reducePow, Nat.reduceAdd, Nat.reduceMul, Nat.reduceSub, Nat.reduceLeDiff, Nat.reduceEqDiff, Nat.reduceLT, reduceIte, Int.reduceToNat, Int.reduceLE, Int.reduceLT, reduceCtorEq, List.contains_cons, List.contains_nil, Nat.reduceBEq, Bool.or_false, Bool.false_or, Bool.or_true, Bool.true_or, forall_eq, forall_eq_or_imp, List.mem_cons, List.not_mem_nil, or_false, false_or, List.reduceReplicate]
  obtain ⟨n, hn⟩ : ∃ n, n = t.getD i default := ⟨_, rfl⟩
  refine Wp.seqK fun K1 hK1 => ?_
  refine Wp.regionS ?_
  refine evc ?_
  repeat (refine And.intro (by first | omega | (refine ⟨?_, ?_⟩ <;> omega)) ?_)
  refine hK1 _ ?_
  clear hK1 K1
  refine Wp.seqK fun K2 hK2 => ?_
  refine Wp.regionS ?_
  simp only [go_sem, atN _ hi, ← hn, encN_len, lN_len, List.length_drop, List.length_map, List.length_take, List.length_append, Int.toNat_natCast, nl, Nat.mul_one, Nat.one_mul, Nat.reducePow, Nat.reduceAdd, Nat.reduceMul, Nat.reduceSub, Nat.reduceLeDiff, Nat.reduceEqDiff, Nat.reduceLT, reduceIte, Int.reduceToNat, Int.reduceLE, Int.reduceLT, reduceCtorEq, List.contains_cons, List.contains_nil, Nat.reduceBEq, Bool.or_false, Bool.false_or, Bool.or_true, Bool.true_or, forall_eq, forall_eq_or_imp, List.mem_cons, List.not_mem_nil, or_false, false_or]
  repeat (refine And.intro (by first | omega | (refine ⟨?_, ?_⟩ <;> omega)) ?_)
  refine hK2 _ ?_
  clear hK2 K2
  refine Wp.seqK fun K3 hK3 => ?_
  refine Wp.regionS ?_
  refine evc ?_
  repeat (refine And.intro (by first | omega | (refine ⟨?_, ?_⟩ <;> omega)) ?_)
  refine ⟨rfl, CallK.row [] LendOk.nil (sParts_c _) (flatI _) ?_⟩
  refine evc ?_
  repeat (refine And.intro (by first | omega | (refine ⟨?_, ?_⟩ <;> omega)) ?_)
  refine hK3 _ ?_
  clear hK3 K3
  refine Wp.seqK fun K4 hK4 => ?_
  refine Wp.seqK fun K5 hK5 => ?_
  refine Wp.regionS ?_
  refine evc ?_
  repeat (refine And.intro (by first | omega | (refine ⟨?_, ?_⟩ <;> omega)) ?_)
  refine hK5 _ ?_
  clear hK5 K5
  refine Wp.block ?_
  skip
  refine Wp.loop (α := Nat) (fun x s => x ≤ (parts n).length ∧ ((parts n).take x).all (fun p => decide (0 ≤ p ∧ p < (i : Int))) = true ∧ ∃ f : Nat → AV, s = ⟨[dN t, I i, f 2, f 3, T false, .l (.ptr 0 0 0), .l (.obj 1 0 1 0 (parts n).length), I x, f 8, f 9, f 10, f 11, f 12, f 13, f 14, f 15, f 16, f 17, f 18, f 19, f 20, f 21, f 22, f 23, f 24, f 25, f 26, f 27, f 28, f 29, f 30, f 31, f 32, f 33, f 34, f 35, f 36, f 37, f 38, f 39, f 40, f 41, f 42, f 43, f 44, f 45, f 46, f 47, f 48, f 49, f 50, f 51, f 52, f 53, f 54, f 55, f 56, f 57, f 58, f 59, f 60, f 61, f 62, f 63, f 64, f 65, f 66, f 67, f 68, f 69, f 70, f 71, f 72, f 73, f 74, f 75, f 76, f 77, f 78, f 79, f 80, f 81, f 82, f 83, f 84, f 85, f 86, f 87, f 88, f 89, f 90, f 91, f 92, f 93, f 94, f 95, f 96, f 97, f 98, f 99, f 100, f 101, f 102, f 103, f 104, f 105, f 106, f 107, f 108, f 109, f 110, f 111, f 112, f 113, f 114, f 115, f 116, f 117, f 118, f 119, f 120, f 121, f 122, f 123, f 124, f 125, f 126, f 127, f 128, f 129, f 130, f 131, f 132, f 133, f 134, f 135, f 136, f 137, f 138, f 139, f 140, f 141, f 142, f 143, f 144, f 145, f 146, f 147, f 148, f 149, f 150, f 151, f 152, f 153, f 154, f 155, f 156, f 157, f 158, f 159, f 160, f 161, f 162, f 163, f 164, f 165, f 166, f 167, f 168, f 169, f 170, f 171, f 172, f 173, f 174, f 175, f 176, f 177, f 178, f 179, f 180, f 181, f 182, f 183, f 184, f 185, f 186, f 187, f 188, f 189, f 190, f 191, f 192, f 193, f 194, f 195, f 196, f 197, f 198, f 199, f 200, f 201, f 202, f 203, f 204, f 205, f 206, f 207, f 208, f 209, f 210, f 211, f 212, f 213, f 214, f 215, f 216, f 217, f 218, f 219, f 220, f 221, f 222, f 223, f 224, f 225, f 226, f 227, f 228, f 229, f 230, f 231, f 232, f 233, f 234, f 235, f 236, f 237, f 238, f 239, f 240, f 241, f 242, f 243, f 244, f 245, f 246, f 247, f 248, f 249, f 250, f 251, f 252, f 253, f 254, f 255, f 256, f 257, f 258, f 259, f 260, f 261, f 262, f 263, f 264, f 265, f 266, f 267, f 268, f 269, f 270, f 271, f 272, f 273, f 274, f 275, f 276, f 277, f 278, f 279, f 280, f 281, f 282, f 283, f 284, f 285, f 286, f 287, f 288, f 289, f 290], [some ⟨0, nl n⟩, some ⟨0, (parts n).map ci⟩]⟩) (fun x => (parts n).length - x) 0 ⟨Nat.zero_le _, rfl, anyT rfl rfl⟩ ?_
  rintro x _ ⟨hx, hall, f, rfl⟩
  have hpl := parts_len n
  refine Wp.seqK fun K6 hK6 => ?_
  refine Wp.seqK fun K7 hK7 => ?_
  refine Wp.regionS ?_
  refine evc ?_
  repeat (refine And.intro (by first | omega | (refine ⟨?_, ?_⟩ <;> omega)) ?_)
  refine hK7 _ ?_
  clear hK7 K7
  refine Wp.cond rfl (fun h19 => ?_) (fun h19 => ?_)
  · have hxl : x < (parts n).length := by simpa using h19
    refine Wp.skip ?_
    refine hK6 _ ?_
    clear hK6 K6
    refine Wp.seqK fun K8 hK8 => ?_
    refine Wp.block ?_
    refine Wp.seqK fun K9 hK9 => ?_
    refine Wp.regionS ?_
    simp only [go_sem, atI hxl, encN_len, lN_len, List.length_drop, List.length_map, List.length_take, List.length_append, Int.toNat_natCast, nl, Nat.mul_one, Nat.one_mul, Nat.reducePow, Nat.reduceAdd, Nat.reduceMul, Nat.reduceSub, Nat.reduceLeDiff, Nat.reduceEqDiff, Nat.reduceLT, reduceIte, Int.reduceToNat, Int.reduceLE, Int.reduceLT, reduceCtorEq, List.contains_cons, List.contains_nil, Nat.reduceBEq, Bool.or_false, Bool.false_or, Bool.or_true, Bool.true_or, forall_eq, forall_eq_or_imp, List.mem_cons, List.not_mem_nil, or_false, false_or]
    repeat (refine And.intro (by first | omega | (refine ⟨?_, ?_⟩ <;> omega)) ?_)
    refine ⟨rfl, CallK.val [] LendOk.nil (l01In_c _ _ _) rfl ?_⟩
    simp only [go_sem, atI hxl, encN_len, lN_len, List.length_drop, List.length_map, List.length_take, List.length_append, Int.toNat_natCast, nl, Nat.mul_one, Nat.one_mul, Nat.reducePow, Nat.reduceAdd, Nat.reduceMul, Nat.reduceSub, Nat.reduceLeDiff, Nat.reduceEqDiff, Nat.reduceLT, reduceIte, Int.reduceToNat, Int.reduceLE, Int.reduceLT, reduceCtorEq, List.contains_cons, List.contains_nil, Nat.reduceBEq, Bool.or_false, Bool.false_or, Bool.or_true, Bool.true_or, forall_eq, forall_eq_or_imp, List.mem_cons, List.not_mem_nil, or_false, false_or]
    repeat (refine And.intro (by first | omega | (refine ⟨?_, ?_⟩ <;> omega)) ?_)
    refine hK9 _ ?_
    clear hK9 K9
    refine Wp.cond rfl (fun h29 => ?_) (fun h29 => ?_)
    · rw [wr (by omega) (by omega)] at h29
      refine Wp.seqK fun K10 hK10 => ?_
      refine Wp.regionS ?_
      refine evc ?_
      repeat (refine And.intro (by first | omega | (refine ⟨?_, ?_⟩ <;> omega)) ?_)
      refine hK10 _ ?_
      clear hK10 K10
      refine Wp.ret ?_
      simp only [thn, inB, retQ]
      clear hK8 K8
      clear hK4 K4
      refine ⟨_, [], rfl, Nat.zero_le _, by decide, by simp, ?_⟩
      simp only [go_sem, nl, Nat.mul_one, Nat.one_mul, Nat.reducePow, Nat.reduceAdd, Nat.reduceMul, Nat.reduceSub, Nat.reduceLeDiff, Nat.reduceEqDiff, Nat.reduceLT, reduceIte, Int.reduceToNat, Int.reduceLE, Int.reduceLT, reduceCtorEq, List.contains_cons, List.contains_nil, Nat.reduceBEq, Bool.or_false, Bool.false_or, Bool.or_true, Bool.true_or, forall_eq, forall_eq_or_imp, List.mem_cons, List.not_mem_nil, or_false, false_or]
      all_goals
        rw [sRight_no hn hxl (nT h29)]
    · rw [wr (by omega) (by omega)] at h29
      refine Wp.skip ?_
      try simp only [thn, inB, if_true, reduceIte]
      refine hK8 _ ?_
      clear hK8 K8
      refine Wp.regionS ?_
      refine evc ?_
      repeat (refine And.intro (by first | omega | (refine ⟨?_, ?_⟩ <;> omega)) ?_)
      refine ⟨x + 1, ⟨by omega, ?_, ?_⟩, by omega⟩
      · rw [take_push 0 hxl, List.all_append, hall]; simp at h29 ⊢; omega
      · rw [show IntKind.i64.wrap ((x : Int) + 1) = ((x + 1 : Nat) : Int) from wr (by omega) (by omega)]
        exact anyT rfl rfl
  · have hxl : x = (parts n).length := by
      have : ¬ x < (parts n).length := by simpa using h19
      omega
    subst hxl
    simp only [List.take_length] at hall
    refine Wp.exit ?_
    simp only [thn, inB, if_true, reduceIte]
    clear hK6 K6
    refine hK4 _ ?_
    clear hK4 K4
    refine Wp.seqK fun K11 hK11 => ?_
    refine Wp.seqK fun K12 hK12 => ?_
    refine Wp.regionS ?_
    refine evc ?_
    repeat (refine And.intro (by first | omega | (refine ⟨?_, ?_⟩ <;> omega)) ?_)
    refine ⟨rfl, CallK.val [] LendOk.nil (l01In_c _ _ _) rfl ?_⟩
    refine evc ?_
    repeat (refine And.intro (by first | omega | (refine ⟨?_, ?_⟩ <;> omega)) ?_)
    refine hK12 _ ?_
    clear hK12 K12
    refine Wp.cond rfl (fun h33 => ?_) (fun h33 => ?_)
    · skip
      refine Wp.seqK fun K13 hK13 => ?_
      refine Wp.regionS ?_
      refine evc ?_
      repeat (refine And.intro (by first | omega | (refine ⟨?_, ?_⟩ <;> omega)) ?_)
      refine hK13 _ ?_
      clear hK13 K13
      refine Wp.ret ?_
      simp only [thn, inB, retQ]
      clear hK11 K11
      refine ⟨_, [], rfl, Nat.zero_le _, by decide, by simp, ?_⟩
      simp only [go_sem, nl, Nat.mul_one, Nat.one_mul, Nat.reducePow, Nat.reduceAdd, Nat.reduceMul, Nat.reduceSub, Nat.reduceLeDiff, Nat.reduceEqDiff, Nat.reduceLT, reduceIte, Int.reduceToNat, Int.reduceLE, Int.reduceLT, reduceCtorEq, List.contains_cons, List.contains_nil, Nat.reduceBEq, Bool.or_false, Bool.false_or, Bool.or_true, Bool.true_or, forall_eq, forall_eq_or_imp, List.mem_cons, List.not_mem_nil, or_false, false_or]
      all_goals
        rw [sRight_now hn (nT h33)]
    · have hs := sRight_yes hn (nF h33) hall
      refine Wp.skip ?_
      refine hK11 _ ?_
      clear hK11 K11
      refine Wp.seqK fun K14 hK14 => ?_
      refine Wp.regionS ?_
      refine evc ?_
      repeat (refine And.intro (by first | omega | (refine ⟨?_, ?_⟩ <;> omega)) ?_)
      refine hK14 _ ?_
      clear hK14 K14
      refine Wp.seqK fun K15 hK15 => ?_
      refine Wp.seqK fun K16 hK16 => ?_
      refine Wp.regionS ?_
      refine evc ?_
      repeat (refine And.intro (by first | omega | (refine ⟨?_, ?_⟩ <;> omega)) ?_)
      refine hK16 _ ?_
      clear hK16 K16
      refine Wp.block ?_
      skip
      refine Wp.loop (α := Nat) (fun x s => x ≤ (parts n).length ∧ ∃ f : Nat → AV, s = ⟨[dN t, I i, f 2, f 3, T false, .l (.ptr 0 0 0), .l (.obj 1 0 1 0 (parts n).length), f 7, .l (.obj 2 x 1 0 x), I x, f 10, f 11, f 12, f 13, f 14, f 15, f 16, f 17, f 18, f 19, f 20, f 21, f 22, f 23, f 24, f 25, f 26, f 27, f 28, f 29, f 30, f 31, f 32, f 33, f 34, f 35, f 36, f 37, f 38, f 39, f 40, f 41, f 42, f 43, f 44, f 45, f 46, f 47, f 48, f 49, f 50, f 51, f 52, f 53, f 54, f 55, f 56, f 57, f 58, f 59, f 60, f 61, f 62, f 63, f 64, f 65, f 66, f 67, f 68, f 69, f 70, f 71, f 72, f 73, f 74, f 75, f 76, f 77, f 78, f 79, f 80, f 81, f 82, f 83, f 84, f 85, f 86, f 87, f 88, f 89, f 90, f 91, f 92, f 93, f 94, f 95, f 96, f 97, f 98, f 99, f 100, f 101, f 102, f 103, f 104, f 105, f 106, f 107, f 108, f 109, f 110, f 111, f 112, f 113, f 114, f 115, f 116, f 117, f 118, f 119, f 120, f 121, f 122, f 123, f 124, f 125, f 126, f 127, f 128, f 129, f 130, f 131, f 132, f 133, f 134, f 135, f 136, f 137, f 138, f 139, f 140, f 141, f 142, f 143, f 144, f 145, f 146, f 147, f 148, f 149, f 150, f 151, f 152, f 153, f 154, f 155, f 156, f 157, f 158, f 159, f 160, f 161, f 162, f 163, f 164, f 165, f 166, f 167, f 168, f 169, f 170, f 171, f 172, f 173, f 174, f 175, f 176, f 177, f 178, f 179, f 180, f 181, f 182, f 183, f 184, f 185, f 186, f 187, f 188, f 189, f 190, f 191, f 192, f 193, f 194, f 195, f 196, f 197, f 198, f 199, f 200, f 201, f 202, f 203, f 204, f 205, f 206, f 207, f 208, f 209, f 210, f 211, f 212, f 213, f 214, f 215, f 216, f 217, f 218, f 219, f 220, f 221, f 222, f 223, f 224, f 225, f 226, f 227, f 228, f 229, f 230, f 231, f 232, f 233, f 234, f 235, f 236, f 237, f 238, f 239, f 240, f 241, f 242, f 243, f 244, f 245, f 246, f 247, f 248, f 249, f 250, f 251, f 252, f 253, f 254, f 255, f 256, f 257, f 258, f 259, f 260, f 261, f 262, f 263, f 264, f 265, f 266, f 267, f 268, f 269, f 270, f 271, f 272, f 273, f 274, f 275, f 276, f 277, f 278, f 279, f 280, f 281, f 282, f 283, f 284, f 285, f 286, f 287, f 288, f 289, f 290], [some ⟨0, nl n⟩, some ⟨0, (parts n).map ci⟩, some ⟨x, (((parts n).take x).map (wAt t)).map ci⟩]⟩) (fun x => (parts n).length - x) 0 ⟨Nat.zero_le _, anyT rfl rfl⟩ ?_
      rintro x _ ⟨hx, f, rfl⟩
      have hpl := parts_len n
      refine Wp.seqK fun K17 hK17 => ?_
      refine Wp.seqK fun K18 hK18 => ?_
      refine Wp.regionS ?_
      refine evc ?_
      repeat (refine And.intro (by first | omega | (refine ⟨?_, ?_⟩ <;> omega)) ?_)
      refine hK18 _ ?_
      clear hK18 K18
      refine Wp.cond rfl (fun h38 => ?_) (fun h38 => ?_)
      · have hxl : x < (parts n).length := by simpa using h38
        refine Wp.skip ?_
        refine hK17 _ ?_
        clear hK17 K17
        refine Wp.seqK fun K19 hK19 => ?_
        refine Wp.block ?_
        have hpx := of_decide_eq_true (all_get hall hxl)
        have hpt : ((parts n).getD x 0).toNat < t.length := by omega
        have hpl := parts_len n
        refine Wp.regionS ?_
        simp only [go_sem, atI hxl, fN1 hpt, encN_len, lN_len, List.length_drop, List.length_map, List.length_take, List.length_append, Int.toNat_natCast, nl, Nat.mul_one, Nat.one_mul, Nat.reducePow, Nat.reduceAdd, Nat.reduceMul, Nat.reduceSub, Nat.reduceLeDiff, Nat.reduceEqDiff, Nat.reduceLT, reduceIte, Int.reduceToNat, Int.reduceLE, Int.reduceLT, reduceCtorEq, List.contains_cons, List.contains_nil, Nat.reduceBEq, Bool.or_false, Bool.false_or, Bool.or_true, Bool.true_or, forall_eq, forall_eq_or_imp, List.mem_cons, List.not_mem_nil, or_false, false_or]
        repeat (refine And.intro (by first | omega | (refine ⟨?_, ?_⟩ <;> omega)) ?_)
        rw [pushI _ x (by simp; omega)]
        try simp only [thn, inB, if_true, reduceIte]
        refine hK19 _ ?_
        clear hK19 K19
        refine Wp.keep 3 (by simp [hB]) (by simp) ?_
        simp only [go_sem, renI, renB, renN, renn, nl, Nat.mul_one, Nat.one_mul, Nat.reducePow, Nat.reduceAdd, Nat.reduceMul, Nat.reduceSub, Nat.reduceLeDiff, Nat.reduceEqDiff, Nat.reduceLT, reduceIte, Int.reduceToNat, Int.reduceLE, Int.reduceLT, reduceCtorEq, List.contains_cons, List.contains_nil, Nat.reduceBEq, Bool.or_false, Bool.false_or, Bool.or_true, Bool.true_or, forall_eq, forall_eq_or_imp, List.mem_cons, List.not_mem_nil, or_false, false_or]
        refine Wp.regionS ?_
        refine evc ?_
        repeat (refine And.intro (by first | omega | (refine ⟨?_, ?_⟩ <;> omega)) ?_)
        refine ⟨x + 1, ⟨by omega, ?_⟩, by omega⟩
        rw [show IntKind.i64.wrap ((x : Int) + 1) = ((x + 1 : Nat) : Int) from wr (by omega) (by omega)]
        rw [take_push 0 hxl]
        simp only [List.map_append, List.map_cons, List.map_nil]
        exact anyT rfl rfl
      · have hxl : x = (parts n).length := by
          have : ¬ x < (parts n).length := by simpa using h38
          omega
        subst hxl
        simp only [List.take_length] at *
        refine Wp.exit ?_
        simp only [thn, inB, if_true, reduceIte]
        clear hK17 K17
        refine hK15 _ ?_
        clear hK15 K15
        refine Wp.seqK fun K20 hK20 => ?_
        refine Wp.block ?_
        refine Wp.seqK fun K21 hK21 => ?_
        refine Wp.regionS ?_
        refine evc ?_
        repeat (refine And.intro (by first | omega | (refine ⟨?_, ?_⟩ <;> omega)) ?_)
        refine hK21 _ ?_
        clear hK21 K21
        refine Wp.cond rfl (fun h52 => ?_) (fun h52 => ?_)
        · skip
          refine Wp.seqK fun K22 hK22 => ?_
          refine Wp.regionS ?_
          refine evc ?_
          repeat (refine And.intro (by first | omega | (refine ⟨?_, ?_⟩ <;> omega)) ?_)
          refine ⟨rfl, CallK.val [] LendOk.nil (sWordOk_c _ _) rfl ?_⟩
          refine evc ?_
          repeat (refine And.intro (by first | omega | (refine ⟨?_, ?_⟩ <;> omega)) ?_)
          refine grdA_split rfl (fun g1 => ?_) (fun g1 => ?_)
          · simp only [go_sem, nl, Nat.mul_one, Nat.one_mul, Nat.reducePow, Nat.reduceAdd, Nat.reduceMul, Nat.reduceSub, Nat.reduceLeDiff, Nat.reduceEqDiff, Nat.reduceLT, reduceIte, Int.reduceToNat, Int.reduceLE, Int.reduceLT, reduceCtorEq, List.contains_cons, List.contains_nil, Nat.reduceBEq, Bool.or_false, Bool.false_or, Bool.or_true, Bool.true_or, forall_eq, forall_eq_or_imp, List.mem_cons, List.not_mem_nil, or_false, false_or]
            repeat (refine And.intro (by first | omega | (refine ⟨?_, ?_⟩ <;> omega)) ?_)
            refine grdA_split rfl (fun g2 => ?_) (fun g2 => ?_)
            · simp only [go_sem, nl, Nat.mul_one, Nat.one_mul, Nat.reducePow, Nat.reduceAdd, Nat.reduceMul, Nat.reduceSub, Nat.reduceLeDiff, Nat.reduceEqDiff, Nat.reduceLT, reduceIte, Int.reduceToNat, Int.reduceLE, Int.reduceLT, reduceCtorEq, List.contains_cons, List.contains_nil, Nat.reduceBEq, Bool.or_false, Bool.false_or, Bool.or_true, Bool.true_or, forall_eq, forall_eq_or_imp, List.mem_cons, List.not_mem_nil, or_false, false_or]
              repeat (refine And.intro (by first | omega | (refine ⟨?_, ?_⟩ <;> omega)) ?_)
              refine grdA_split rfl (fun g3 => ?_) (fun g3 => ?_)
              · simp only [go_sem, nl, Nat.mul_one, Nat.one_mul, Nat.reducePow, Nat.reduceAdd, Nat.reduceMul, Nat.reduceSub, Nat.reduceLeDiff, Nat.reduceEqDiff, Nat.reduceLT, reduceIte, Int.reduceToNat, Int.reduceLE, Int.reduceLT, reduceCtorEq, List.contains_cons, List.contains_nil, Nat.reduceBEq, Bool.or_false, Bool.false_or, Bool.or_true, Bool.true_or, forall_eq, forall_eq_or_imp, List.mem_cons, List.not_mem_nil, or_false, false_or]
                repeat (refine And.intro (by first | omega | (refine ⟨?_, ?_⟩ <;> omega)) ?_)
                refine hK22 _ ?_
                clear hK22 K22
                refine Wp.ret ?_
                simp only [thn, inB, retQ]
                clear hK20 K20
                refine ⟨_, [], rfl, Nat.zero_le _, by decide, by simp, ?_⟩
                simp only [go_sem, nl, Nat.mul_one, Nat.one_mul, Nat.reducePow, Nat.reduceAdd, Nat.reduceMul, Nat.reduceSub, Nat.reduceLeDiff, Nat.reduceEqDiff, Nat.reduceLT, reduceIte, Int.reduceToNat, Int.reduceLE, Int.reduceLT, reduceCtorEq, List.contains_cons, List.contains_nil, Nat.reduceBEq, Bool.or_false, Bool.false_or, Bool.or_true, Bool.true_or, forall_eq, forall_eq_or_imp, List.mem_cons, List.not_mem_nil, or_false, false_or]
                all_goals
                  rw [hs]
                  clear hs hn
                  first
                    | (simp_all [rule, isQ] <;> first | omega | (intros; omega))
                    | (rw [rule_no (n := n) (by simp_all <;> omega)])
              · simp only [go_sem, nl, Nat.mul_one, Nat.one_mul, Nat.reducePow, Nat.reduceAdd, Nat.reduceMul, Nat.reduceSub, Nat.reduceLeDiff, Nat.reduceEqDiff, Nat.reduceLT, reduceIte, Int.reduceToNat, Int.reduceLE, Int.reduceLT, reduceCtorEq, List.contains_cons, List.contains_nil, Nat.reduceBEq, Bool.or_false, Bool.false_or, Bool.or_true, Bool.true_or, forall_eq, forall_eq_or_imp, List.mem_cons, List.not_mem_nil, or_false, false_or]
                repeat (refine And.intro (by first | omega | (refine ⟨?_, ?_⟩ <;> omega)) ?_)
                refine hK22 _ ?_
                clear hK22 K22
                refine Wp.ret ?_
                simp only [thn, inB, retQ]
                clear hK20 K20
                refine ⟨_, [], rfl, Nat.zero_le _, by decide, by simp, ?_⟩
                simp only [go_sem, nl, Nat.mul_one, Nat.one_mul, Nat.reducePow, Nat.reduceAdd, Nat.reduceMul, Nat.reduceSub, Nat.reduceLeDiff, Nat.reduceEqDiff, Nat.reduceLT, reduceIte, Int.reduceToNat, Int.reduceLE, Int.reduceLT, reduceCtorEq, List.contains_cons, List.contains_nil, Nat.reduceBEq, Bool.or_false, Bool.false_or, Bool.or_true, Bool.true_or, forall_eq, forall_eq_or_imp, List.mem_cons, List.not_mem_nil, or_false, false_or]
                all_goals
                  rw [hs]
                  clear hs hn
                  first
                    | (simp_all [rule, isQ] <;> first | omega | (intros; omega))
                    | (rw [rule_no (n := n) (by simp_all <;> omega)])
            · simp only [go_sem, nl, Nat.mul_one, Nat.one_mul, Nat.reducePow, Nat.reduceAdd, Nat.reduceMul, Nat.reduceSub, Nat.reduceLeDiff, Nat.reduceEqDiff, Nat.reduceLT, reduceIte, Int.reduceToNat, Int.reduceLE, Int.reduceLT, reduceCtorEq, List.contains_cons, List.contains_nil, Nat.reduceBEq, Bool.or_false, Bool.false_or, Bool.or_true, Bool.true_or, forall_eq, forall_eq_or_imp, List.mem_cons, List.not_mem_nil, or_false, false_or]
              repeat (refine And.intro (by first | omega | (refine ⟨?_, ?_⟩ <;> omega)) ?_)
              refine hK22 _ ?_
              clear hK22 K22
              refine Wp.ret ?_
              simp only [thn, inB, retQ]
              clear hK20 K20
              refine ⟨_, [], rfl, Nat.zero_le _, by decide, by simp, ?_⟩
              simp only [go_sem, nl, Nat.mul_one, Nat.one_mul, Nat.reducePow, Nat.reduceAdd, Nat.reduceMul, Nat.reduceSub, Nat.reduceLeDiff, Nat.reduceEqDiff, Nat.reduceLT, reduceIte, Int.reduceToNat, Int.reduceLE, Int.reduceLT, reduceCtorEq, List.contains_cons, List.contains_nil, Nat.reduceBEq, Bool.or_false, Bool.false_or, Bool.or_true, Bool.true_or, forall_eq, forall_eq_or_imp, List.mem_cons, List.not_mem_nil, or_false, false_or]
              all_goals
                rw [hs]
                clear hs hn
                first
                  | (simp_all [rule, isQ] <;> first | omega | (intros; omega))
                  | (rw [rule_no (n := n) (by simp_all <;> omega)])
          · simp only [go_sem, nl, Nat.mul_one, Nat.one_mul, Nat.reducePow, Nat.reduceAdd, Nat.reduceMul, Nat.reduceSub, Nat.reduceLeDiff, Nat.reduceEqDiff, Nat.reduceLT, reduceIte, Int.reduceToNat, Int.reduceLE, Int.reduceLT, reduceCtorEq, List.contains_cons, List.contains_nil, Nat.reduceBEq, Bool.or_false, Bool.false_or, Bool.or_true, Bool.true_or, forall_eq, forall_eq_or_imp, List.mem_cons, List.not_mem_nil, or_false, false_or]
            repeat (refine And.intro (by first | omega | (refine ⟨?_, ?_⟩ <;> omega)) ?_)
            refine hK22 _ ?_
            clear hK22 K22
            refine Wp.ret ?_
            simp only [thn, inB, retQ]
            clear hK20 K20
            refine ⟨_, [], rfl, Nat.zero_le _, by decide, by simp, ?_⟩
            simp only [go_sem, nl, Nat.mul_one, Nat.one_mul, Nat.reducePow, Nat.reduceAdd, Nat.reduceMul, Nat.reduceSub, Nat.reduceLeDiff, Nat.reduceEqDiff, Nat.reduceLT, reduceIte, Int.reduceToNat, Int.reduceLE, Int.reduceLT, reduceCtorEq, List.contains_cons, List.contains_nil, Nat.reduceBEq, Bool.or_false, Bool.false_or, Bool.or_true, Bool.true_or, forall_eq, forall_eq_or_imp, List.mem_cons, List.not_mem_nil, or_false, false_or]
            all_goals
              rw [hs]
              clear hs hn
              first
                | (simp_all [rule, isQ] <;> first | omega | (intros; omega))
                | (rw [rule_no (n := n) (by simp_all <;> omega)])
        · skip
          refine Wp.seqK fun K23 hK23 => ?_
          refine Wp.regionS ?_
          refine evc ?_
          repeat (refine And.intro (by first | omega | (refine ⟨?_, ?_⟩ <;> omega)) ?_)
          refine hK23 _ ?_
          clear hK23 K23
          refine Wp.cond rfl (fun h76 => ?_) (fun h76 => ?_)
          · skip
            refine Wp.seqK fun K24 hK24 => ?_
            refine Wp.regionS ?_
            refine evc ?_
            repeat (refine And.intro (by first | omega | (refine ⟨?_, ?_⟩ <;> omega)) ?_)
            refine ⟨rfl, CallK.val [] LendOk.nil (l01In_c _ _ _) rfl ?_⟩
            refine evc ?_
            repeat (refine And.intro (by first | omega | (refine ⟨?_, ?_⟩ <;> omega)) ?_)
            refine grdA_split rfl (fun g1 => ?_) (fun g1 => ?_)
            · simp only [go_sem, nl, Nat.mul_one, Nat.one_mul, Nat.reducePow, Nat.reduceAdd, Nat.reduceMul, Nat.reduceSub, Nat.reduceLeDiff, Nat.reduceEqDiff, Nat.reduceLT, reduceIte, Int.reduceToNat, Int.reduceLE, Int.reduceLT, reduceCtorEq, List.contains_cons, List.contains_nil, Nat.reduceBEq, Bool.or_false, Bool.false_or, Bool.or_true, Bool.true_or, forall_eq, forall_eq_or_imp, List.mem_cons, List.not_mem_nil, or_false, false_or]
              repeat (refine And.intro (by first | omega | (refine ⟨?_, ?_⟩ <;> omega)) ?_)
              refine grdA_split rfl (fun g2 => ?_) (fun g2 => ?_)
              · simp only [go_sem, nl, Nat.mul_one, Nat.one_mul, Nat.reducePow, Nat.reduceAdd, Nat.reduceMul, Nat.reduceSub, Nat.reduceLeDiff, Nat.reduceEqDiff, Nat.reduceLT, reduceIte, Int.reduceToNat, Int.reduceLE, Int.reduceLT, reduceCtorEq, List.contains_cons, List.contains_nil, Nat.reduceBEq, Bool.or_false, Bool.false_or, Bool.or_true, Bool.true_or, forall_eq, forall_eq_or_imp, List.mem_cons, List.not_mem_nil, or_false, false_or]
                repeat (refine And.intro (by first | omega | (refine ⟨?_, ?_⟩ <;> omega)) ?_)
                refine grdA_split rfl (fun g3 => ?_) (fun g3 => ?_)
                · simp only [go_sem, nl, Nat.mul_one, Nat.one_mul, Nat.reducePow, Nat.reduceAdd, Nat.reduceMul, Nat.reduceSub, Nat.reduceLeDiff, Nat.reduceEqDiff, Nat.reduceLT, reduceIte, Int.reduceToNat, Int.reduceLE, Int.reduceLT, reduceCtorEq, List.contains_cons, List.contains_nil, Nat.reduceBEq, Bool.or_false, Bool.false_or, Bool.or_true, Bool.true_or, forall_eq, forall_eq_or_imp, List.mem_cons, List.not_mem_nil, or_false, false_or]
                  repeat (refine And.intro (by first | omega | (refine ⟨?_, ?_⟩ <;> omega)) ?_)
                  refine hK24 _ ?_
                  clear hK24 K24
                  refine Wp.ret ?_
                  simp only [thn, inB, retQ]
                  clear hK20 K20
                  refine ⟨_, [], rfl, Nat.zero_le _, by decide, by simp, ?_⟩
                  simp only [go_sem, nl, Nat.mul_one, Nat.one_mul, Nat.reducePow, Nat.reduceAdd, Nat.reduceMul, Nat.reduceSub, Nat.reduceLeDiff, Nat.reduceEqDiff, Nat.reduceLT, reduceIte, Int.reduceToNat, Int.reduceLE, Int.reduceLT, reduceCtorEq, List.contains_cons, List.contains_nil, Nat.reduceBEq, Bool.or_false, Bool.false_or, Bool.or_true, Bool.true_or, forall_eq, forall_eq_or_imp, List.mem_cons, List.not_mem_nil, or_false, false_or]
                  all_goals
                    rw [hs]
                    clear hs hn
                    first
                      | (simp_all [rule, isQ] <;> first | omega | (intros; omega))
                      | (rw [rule_no (n := n) (by simp_all <;> omega)])
                · simp only [go_sem, nl, Nat.mul_one, Nat.one_mul, Nat.reducePow, Nat.reduceAdd, Nat.reduceMul, Nat.reduceSub, Nat.reduceLeDiff, Nat.reduceEqDiff, Nat.reduceLT, reduceIte, Int.reduceToNat, Int.reduceLE, Int.reduceLT, reduceCtorEq, List.contains_cons, List.contains_nil, Nat.reduceBEq, Bool.or_false, Bool.false_or, Bool.or_true, Bool.true_or, forall_eq, forall_eq_or_imp, List.mem_cons, List.not_mem_nil, or_false, false_or]
                  repeat (refine And.intro (by first | omega | (refine ⟨?_, ?_⟩ <;> omega)) ?_)
                  refine hK24 _ ?_
                  clear hK24 K24
                  refine Wp.ret ?_
                  simp only [thn, inB, retQ]
                  clear hK20 K20
                  refine ⟨_, [], rfl, Nat.zero_le _, by decide, by simp, ?_⟩
                  simp only [go_sem, nl, Nat.mul_one, Nat.one_mul, Nat.reducePow, Nat.reduceAdd, Nat.reduceMul, Nat.reduceSub, Nat.reduceLeDiff, Nat.reduceEqDiff, Nat.reduceLT, reduceIte, Int.reduceToNat, Int.reduceLE, Int.reduceLT, reduceCtorEq, List.contains_cons, List.contains_nil, Nat.reduceBEq, Bool.or_false, Bool.false_or, Bool.or_true, Bool.true_or, forall_eq, forall_eq_or_imp, List.mem_cons, List.not_mem_nil, or_false, false_or]
                  all_goals
                    rw [hs]
                    clear hs hn
                    first
                      | (simp_all [rule, isQ] <;> first | omega | (intros; omega))
                      | (rw [rule_no (n := n) (by simp_all <;> omega)])
              · simp only [go_sem, nl, Nat.mul_one, Nat.one_mul, Nat.reducePow, Nat.reduceAdd, Nat.reduceMul, Nat.reduceSub, Nat.reduceLeDiff, Nat.reduceEqDiff, Nat.reduceLT, reduceIte, Int.reduceToNat, Int.reduceLE, Int.reduceLT, reduceCtorEq, List.contains_cons, List.contains_nil, Nat.reduceBEq, Bool.or_false, Bool.false_or, Bool.or_true, Bool.true_or, forall_eq, forall_eq_or_imp, List.mem_cons, List.not_mem_nil, or_false, false_or]
                repeat (refine And.intro (by first | omega | (refine ⟨?_, ?_⟩ <;> omega)) ?_)
                refine hK24 _ ?_
                clear hK24 K24
                refine Wp.ret ?_
                simp only [thn, inB, retQ]
                clear hK20 K20
                refine ⟨_, [], rfl, Nat.zero_le _, by decide, by simp, ?_⟩
                simp only [go_sem, nl, Nat.mul_one, Nat.one_mul, Nat.reducePow, Nat.reduceAdd, Nat.reduceMul, Nat.reduceSub, Nat.reduceLeDiff, Nat.reduceEqDiff, Nat.reduceLT, reduceIte, Int.reduceToNat, Int.reduceLE, Int.reduceLT, reduceCtorEq, List.contains_cons, List.contains_nil, Nat.reduceBEq, Bool.or_false, Bool.false_or, Bool.or_true, Bool.true_or, forall_eq, forall_eq_or_imp, List.mem_cons, List.not_mem_nil, or_false, false_or]
                all_goals
                  rw [hs]
                  clear hs hn
                  first
                    | (simp_all [rule, isQ] <;> first | omega | (intros; omega))
                    | (rw [rule_no (n := n) (by simp_all <;> omega)])
            · simp only [go_sem, nl, Nat.mul_one, Nat.one_mul, Nat.reducePow, Nat.reduceAdd, Nat.reduceMul, Nat.reduceSub, Nat.reduceLeDiff, Nat.reduceEqDiff, Nat.reduceLT, reduceIte, Int.reduceToNat, Int.reduceLE, Int.reduceLT, reduceCtorEq, List.contains_cons, List.contains_nil, Nat.reduceBEq, Bool.or_false, Bool.false_or, Bool.or_true, Bool.true_or, forall_eq, forall_eq_or_imp, List.mem_cons, List.not_mem_nil, or_false, false_or]
              repeat (refine And.intro (by first | omega | (refine ⟨?_, ?_⟩ <;> omega)) ?_)
              refine hK24 _ ?_
              clear hK24 K24
              refine Wp.ret ?_
              simp only [thn, inB, retQ]
              clear hK20 K20
              refine ⟨_, [], rfl, Nat.zero_le _, by decide, by simp, ?_⟩
              simp only [go_sem, nl, Nat.mul_one, Nat.one_mul, Nat.reducePow, Nat.reduceAdd, Nat.reduceMul, Nat.reduceSub, Nat.reduceLeDiff, Nat.reduceEqDiff, Nat.reduceLT, reduceIte, Int.reduceToNat, Int.reduceLE, Int.reduceLT, reduceCtorEq, List.contains_cons, List.contains_nil, Nat.reduceBEq, Bool.or_false, Bool.false_or, Bool.or_true, Bool.true_or, forall_eq, forall_eq_or_imp, List.mem_cons, List.not_mem_nil, or_false, false_or]
              all_goals
                rw [hs]
                clear hs hn
                first
                  | (simp_all [rule, isQ] <;> first | omega | (intros; omega))
                  | (rw [rule_no (n := n) (by simp_all <;> omega)])
          · skip
            refine Wp.seqK fun K25 hK25 => ?_
            refine Wp.regionS ?_
            refine evc ?_
            repeat (refine And.intro (by first | omega | (refine ⟨?_, ?_⟩ <;> omega)) ?_)
            refine hK25 _ ?_
            clear hK25 K25
            refine Wp.cond rfl (fun h98 => ?_) (fun h98 => ?_)
            · have hp := parts_1 (n := n) (by simp at h98; omega)
              simp only [hp, List.map_cons, List.map_nil, List.length_cons, List.length_nil, Nat.zero_add, Nat.reduceAdd] at hs ⊢
              refine Wp.seqK fun K26 hK26 => ?_
              refine Wp.drawI [0, 1, 2, 3, 4, 5, 6, 7] [] (by kernel_rfl) ?_
              refine evc ?_
              repeat (refine And.intro (by first | omega | (refine ⟨?_, ?_⟩ <;> omega)) ?_)
              refine grdA_split rfl (fun g1 => ?_) (fun g1 => ?_)
              · simp only [go_sem, nl, Nat.mul_one, Nat.one_mul, Nat.reducePow, Nat.reduceAdd, Nat.reduceMul, Nat.reduceSub, Nat.reduceLeDiff, Nat.reduceEqDiff, Nat.reduceLT, reduceIte, Int.reduceToNat, Int.reduceLE, Int.reduceLT, reduceCtorEq, List.contains_cons, List.contains_nil, Nat.reduceBEq, Bool.or_false, Bool.false_or, Bool.or_true, Bool.true_or, forall_eq, forall_eq_or_imp, List.mem_cons, List.not_mem_nil, or_false, false_or]
                repeat (refine And.intro (by first | omega | (refine ⟨?_, ?_⟩ <;> omega)) ?_)
                refine grdA_split rfl (fun g2 => ?_) (fun g2 => ?_)
                · simp only [go_sem, nl, Nat.mul_one, Nat.one_mul, Nat.reducePow, Nat.reduceAdd, Nat.reduceMul, Nat.reduceSub, Nat.reduceLeDiff, Nat.reduceEqDiff, Nat.reduceLT, reduceIte, Int.reduceToNat, Int.reduceLE, Int.reduceLT, reduceCtorEq, List.contains_cons, List.contains_nil, Nat.reduceBEq, Bool.or_false, Bool.false_or, Bool.or_true, Bool.true_or, forall_eq, forall_eq_or_imp, List.mem_cons, List.not_mem_nil, or_false, false_or]
                  repeat (refine And.intro (by first | omega | (refine ⟨?_, ?_⟩ <;> omega)) ?_)
                  refine grdA_split rfl (fun g3 => ?_) (fun g3 => ?_)
                  · simp only [go_sem, nl, Nat.mul_one, Nat.one_mul, Nat.reducePow, Nat.reduceAdd, Nat.reduceMul, Nat.reduceSub, Nat.reduceLeDiff, Nat.reduceEqDiff, Nat.reduceLT, reduceIte, Int.reduceToNat, Int.reduceLE, Int.reduceLT, reduceCtorEq, List.contains_cons, List.contains_nil, Nat.reduceBEq, Bool.or_false, Bool.false_or, Bool.or_true, Bool.true_or, forall_eq, forall_eq_or_imp, List.mem_cons, List.not_mem_nil, or_false, false_or]
                    repeat (refine And.intro (by first | omega | (refine ⟨?_, ?_⟩ <;> omega)) ?_)
                    refine hK26 _ ?_
                    clear hK26 K26
                    refine Wp.ret ?_
                    simp only [thn, inB, retQ]
                    clear hK20 K20
                    refine ⟨_, [], rfl, Nat.zero_le _, by decide, by simp, ?_⟩
                    simp only [go_sem, nl, Nat.mul_one, Nat.one_mul, Nat.reducePow, Nat.reduceAdd, Nat.reduceMul, Nat.reduceSub, Nat.reduceLeDiff, Nat.reduceEqDiff, Nat.reduceLT, reduceIte, Int.reduceToNat, Int.reduceLE, Int.reduceLT, reduceCtorEq, List.contains_cons, List.contains_nil, Nat.reduceBEq, Bool.or_false, Bool.false_or, Bool.or_true, Bool.true_or, forall_eq, forall_eq_or_imp, List.mem_cons, List.not_mem_nil, or_false, false_or]
                    all_goals
                      rw [hs]
                      clear hs hn
                      first
                        | (simp_all [rule, isQ] <;> first | omega | (intros; omega))
                        | (rw [rule_no (n := n) (by simp_all <;> omega)])
                  · simp only [go_sem, nl, Nat.mul_one, Nat.one_mul, Nat.reducePow, Nat.reduceAdd, Nat.reduceMul, Nat.reduceSub, Nat.reduceLeDiff, Nat.reduceEqDiff, Nat.reduceLT, reduceIte, Int.reduceToNat, Int.reduceLE, Int.reduceLT, reduceCtorEq, List.contains_cons, List.contains_nil, Nat.reduceBEq, Bool.or_false, Bool.false_or, Bool.or_true, Bool.true_or, forall_eq, forall_eq_or_imp, List.mem_cons, List.not_mem_nil, or_false, false_or]
                    repeat (refine And.intro (by first | omega | (refine ⟨?_, ?_⟩ <;> omega)) ?_)
                    refine hK26 _ ?_
                    clear hK26 K26
                    refine Wp.ret ?_
                    simp only [thn, inB, retQ]
                    clear hK20 K20
                    refine ⟨_, [], rfl, Nat.zero_le _, by decide, by simp, ?_⟩
                    simp only [go_sem, nl, Nat.mul_one, Nat.one_mul, Nat.reducePow, Nat.reduceAdd, Nat.reduceMul, Nat.reduceSub, Nat.reduceLeDiff, Nat.reduceEqDiff, Nat.reduceLT, reduceIte, Int.reduceToNat, Int.reduceLE, Int.reduceLT, reduceCtorEq, List.contains_cons, List.contains_nil, Nat.reduceBEq, Bool.or_false, Bool.false_or, Bool.or_true, Bool.true_or, forall_eq, forall_eq_or_imp, List.mem_cons, List.not_mem_nil, or_false, false_or]
                    all_goals
                      rw [hs]
                      clear hs hn
                      first
                        | (simp_all [rule, isQ] <;> first | omega | (intros; omega))
                        | (rw [rule_no (n := n) (by simp_all <;> omega)])
                · simp only [go_sem, nl, Nat.mul_one, Nat.one_mul, Nat.reducePow, Nat.reduceAdd, Nat.reduceMul, Nat.reduceSub, Nat.reduceLeDiff, Nat.reduceEqDiff, Nat.reduceLT, reduceIte, Int.reduceToNat, Int.reduceLE, Int.reduceLT, reduceCtorEq, List.contains_cons, List.contains_nil, Nat.reduceBEq, Bool.or_false, Bool.false_or, Bool.or_true, Bool.true_or, forall_eq, forall_eq_or_imp, List.mem_cons, List.not_mem_nil, or_false, false_or]
                  repeat (refine And.intro (by first | omega | (refine ⟨?_, ?_⟩ <;> omega)) ?_)
                  refine hK26 _ ?_
                  clear hK26 K26
                  refine Wp.ret ?_
                  simp only [thn, inB, retQ]
                  clear hK20 K20
                  refine ⟨_, [], rfl, Nat.zero_le _, by decide, by simp, ?_⟩
                  simp only [go_sem, nl, Nat.mul_one, Nat.one_mul, Nat.reducePow, Nat.reduceAdd, Nat.reduceMul, Nat.reduceSub, Nat.reduceLeDiff, Nat.reduceEqDiff, Nat.reduceLT, reduceIte, Int.reduceToNat, Int.reduceLE, Int.reduceLT, reduceCtorEq, List.contains_cons, List.contains_nil, Nat.reduceBEq, Bool.or_false, Bool.false_or, Bool.or_true, Bool.true_or, forall_eq, forall_eq_or_imp, List.mem_cons, List.not_mem_nil, or_false, false_or]
                  all_goals
                    rw [hs]
                    clear hs hn
                    first
                      | (simp_all [rule, isQ] <;> first | omega | (intros; omega))
                      | (rw [rule_no (n := n) (by simp_all <;> omega)])
              · simp only [go_sem, nl, Nat.mul_one, Nat.one_mul, Nat.reducePow, Nat.reduceAdd, Nat.reduceMul, Nat.reduceSub, Nat.reduceLeDiff, Nat.reduceEqDiff, Nat.reduceLT, reduceIte, Int.reduceToNat, Int.reduceLE, Int.reduceLT, reduceCtorEq, List.contains_cons, List.contains_nil, Nat.reduceBEq, Bool.or_false, Bool.false_or, Bool.or_true, Bool.true_or, forall_eq, forall_eq_or_imp, List.mem_cons, List.not_mem_nil, or_false, false_or]
                repeat (refine And.intro (by first | omega | (refine ⟨?_, ?_⟩ <;> omega)) ?_)
                refine hK26 _ ?_
                clear hK26 K26
                refine Wp.ret ?_
                simp only [thn, inB, retQ]
                clear hK20 K20
                refine ⟨_, [], rfl, Nat.zero_le _, by decide, by simp, ?_⟩
                simp only [go_sem, nl, Nat.mul_one, Nat.one_mul, Nat.reducePow, Nat.reduceAdd, Nat.reduceMul, Nat.reduceSub, Nat.reduceLeDiff, Nat.reduceEqDiff, Nat.reduceLT, reduceIte, Int.reduceToNat, Int.reduceLE, Int.reduceLT, reduceCtorEq, List.contains_cons, List.contains_nil, Nat.reduceBEq, Bool.or_false, Bool.false_or, Bool.or_true, Bool.true_or, forall_eq, forall_eq_or_imp, List.mem_cons, List.not_mem_nil, or_false, false_or]
                all_goals
                  rw [hs]
                  clear hs hn
                  first
                    | (simp_all [rule, isQ] <;> first | omega | (intros; omega))
                    | (rw [rule_no (n := n) (by simp_all <;> omega)])
            · skip
              refine Wp.seqK fun K27 hK27 => ?_
              refine Wp.regionS ?_
              refine evc ?_
              repeat (refine And.intro (by first | omega | (refine ⟨?_, ?_⟩ <;> omega)) ?_)
              refine ⟨rfl, CallK.val [] LendOk.nil (l01In_c _ _ _) rfl ?_⟩
              refine evc ?_
              repeat (refine And.intro (by first | omega | (refine ⟨?_, ?_⟩ <;> omega)) ?_)
              refine hK27 _ ?_
              clear hK27 K27
              refine Wp.cond rfl (fun h123 => ?_) (fun h123 => ?_)
              · have hp := parts_2 (n := n) (by simp at h123; omega)
                simp only [hp, List.map_cons, List.map_nil, List.length_cons, List.length_nil, Nat.zero_add, Nat.reduceAdd] at hs ⊢
                refine Wp.seqK fun K28 hK28 => ?_
                refine Wp.drawI [0, 1, 2, 3, 4, 5, 6, 7] [] (by kernel_rfl) ?_
                refine evc ?_
                repeat (refine And.intro (by first | omega | (refine ⟨?_, ?_⟩ <;> omega)) ?_)
                refine grdA_split rfl (fun g1 => ?_) (fun g1 => ?_)
                · simp only [go_sem, nl, Nat.mul_one, Nat.one_mul, Nat.reducePow, Nat.reduceAdd, Nat.reduceMul, Nat.reduceSub, Nat.reduceLeDiff, Nat.reduceEqDiff, Nat.reduceLT, reduceIte, Int.reduceToNat, Int.reduceLE, Int.reduceLT, reduceCtorEq, List.contains_cons, List.contains_nil, Nat.reduceBEq, Bool.or_false, Bool.false_or, Bool.or_true, Bool.true_or, forall_eq, forall_eq_or_imp, List.mem_cons, List.not_mem_nil, or_false, false_or]
                  repeat (refine And.intro (by first | omega | (refine ⟨?_, ?_⟩ <;> omega)) ?_)
                  refine grdA_split rfl (fun g2 => ?_) (fun g2 => ?_)
                  · simp only [go_sem, nl, Nat.mul_one, Nat.one_mul, Nat.reducePow, Nat.reduceAdd, Nat.reduceMul, Nat.reduceSub, Nat.reduceLeDiff, Nat.reduceEqDiff, Nat.reduceLT, reduceIte, Int.reduceToNat, Int.reduceLE, Int.reduceLT, reduceCtorEq, List.contains_cons, List.contains_nil, Nat.reduceBEq, Bool.or_false, Bool.false_or, Bool.or_true, Bool.true_or, forall_eq, forall_eq_or_imp, List.mem_cons, List.not_mem_nil, or_false, false_or]
                    repeat (refine And.intro (by first | omega | (refine ⟨?_, ?_⟩ <;> omega)) ?_)
                    refine grdA_split rfl (fun g3 => ?_) (fun g3 => ?_)
                    · simp only [go_sem, nl, Nat.mul_one, Nat.one_mul, Nat.reducePow, Nat.reduceAdd, Nat.reduceMul, Nat.reduceSub, Nat.reduceLeDiff, Nat.reduceEqDiff, Nat.reduceLT, reduceIte, Int.reduceToNat, Int.reduceLE, Int.reduceLT, reduceCtorEq, List.contains_cons, List.contains_nil, Nat.reduceBEq, Bool.or_false, Bool.false_or, Bool.or_true, Bool.true_or, forall_eq, forall_eq_or_imp, List.mem_cons, List.not_mem_nil, or_false, false_or]
                      repeat (refine And.intro (by first | omega | (refine ⟨?_, ?_⟩ <;> omega)) ?_)
                      refine hK28 _ ?_
                      clear hK28 K28
                      refine Wp.ret ?_
                      simp only [thn, inB, retQ]
                      clear hK20 K20
                      refine ⟨_, [], rfl, Nat.zero_le _, by decide, by simp, ?_⟩
                      simp only [go_sem, nl, Nat.mul_one, Nat.one_mul, Nat.reducePow, Nat.reduceAdd, Nat.reduceMul, Nat.reduceSub, Nat.reduceLeDiff, Nat.reduceEqDiff, Nat.reduceLT, reduceIte, Int.reduceToNat, Int.reduceLE, Int.reduceLT, reduceCtorEq, List.contains_cons, List.contains_nil, Nat.reduceBEq, Bool.or_false, Bool.false_or, Bool.or_true, Bool.true_or, forall_eq, forall_eq_or_imp, List.mem_cons, List.not_mem_nil, or_false, false_or]
                      all_goals
                        rw [hs]
                        clear hs hn
                        first
                          | (simp_all [rule, isQ] <;> first | omega | (intros; omega))
                          | (rw [rule_no (n := n) (by simp_all <;> omega)])
                    · simp only [go_sem, nl, Nat.mul_one, Nat.one_mul, Nat.reducePow, Nat.reduceAdd, Nat.reduceMul, Nat.reduceSub, Nat.reduceLeDiff, Nat.reduceEqDiff, Nat.reduceLT, reduceIte, Int.reduceToNat, Int.reduceLE, Int.reduceLT, reduceCtorEq, List.contains_cons, List.contains_nil, Nat.reduceBEq, Bool.or_false, Bool.false_or, Bool.or_true, Bool.true_or, forall_eq, forall_eq_or_imp, List.mem_cons, List.not_mem_nil, or_false, false_or]
                      repeat (refine And.intro (by first | omega | (refine ⟨?_, ?_⟩ <;> omega)) ?_)
                      refine hK28 _ ?_
                      clear hK28 K28
                      refine Wp.ret ?_
                      simp only [thn, inB, retQ]
                      clear hK20 K20
                      refine ⟨_, [], rfl, Nat.zero_le _, by decide, by simp, ?_⟩
                      simp only [go_sem, nl, Nat.mul_one, Nat.one_mul, Nat.reducePow, Nat.reduceAdd, Nat.reduceMul, Nat.reduceSub, Nat.reduceLeDiff, Nat.reduceEqDiff, Nat.reduceLT, reduceIte, Int.reduceToNat, Int.reduceLE, Int.reduceLT, reduceCtorEq, List.contains_cons, List.contains_nil, Nat.reduceBEq, Bool.or_false, Bool.false_or, Bool.or_true, Bool.true_or, forall_eq, forall_eq_or_imp, List.mem_cons, List.not_mem_nil, or_false, false_or]
                      all_goals
                        rw [hs]
                        clear hs hn
                        first
                          | (simp_all [rule, isQ] <;> first | omega | (intros; omega))
                          | (rw [rule_no (n := n) (by simp_all <;> omega)])
                  · simp only [go_sem, nl, Nat.mul_one, Nat.one_mul, Nat.reducePow, Nat.reduceAdd, Nat.reduceMul, Nat.reduceSub, Nat.reduceLeDiff, Nat.reduceEqDiff, Nat.reduceLT, reduceIte, Int.reduceToNat, Int.reduceLE, Int.reduceLT, reduceCtorEq, List.contains_cons, List.contains_nil, Nat.reduceBEq, Bool.or_false, Bool.false_or, Bool.or_true, Bool.true_or, forall_eq, forall_eq_or_imp, List.mem_cons, List.not_mem_nil, or_false, false_or]
                    repeat (refine And.intro (by first | omega | (refine ⟨?_, ?_⟩ <;> omega)) ?_)
                    refine hK28 _ ?_
                    clear hK28 K28
                    refine Wp.ret ?_
                    simp only [thn, inB, retQ]
                    clear hK20 K20
                    refine ⟨_, [], rfl, Nat.zero_le _, by decide, by simp, ?_⟩
                    simp only [go_sem, nl, Nat.mul_one, Nat.one_mul, Nat.reducePow, Nat.reduceAdd, Nat.reduceMul, Nat.reduceSub, Nat.reduceLeDiff, Nat.reduceEqDiff, Nat.reduceLT, reduceIte, Int.reduceToNat, Int.reduceLE, Int.reduceLT, reduceCtorEq, List.contains_cons, List.contains_nil, Nat.reduceBEq, Bool.or_false, Bool.false_or, Bool.or_true, Bool.true_or, forall_eq, forall_eq_or_imp, List.mem_cons, List.not_mem_nil, or_false, false_or]
                    all_goals
                      rw [hs]
                      clear hs hn
                      first
                        | (simp_all [rule, isQ] <;> first | omega | (intros; omega))
                        | (rw [rule_no (n := n) (by simp_all <;> omega)])
                · simp only [go_sem, nl, Nat.mul_one, Nat.one_mul, Nat.reducePow, Nat.reduceAdd, Nat.reduceMul, Nat.reduceSub, Nat.reduceLeDiff, Nat.reduceEqDiff, Nat.reduceLT, reduceIte, Int.reduceToNat, Int.reduceLE, Int.reduceLT, reduceCtorEq, List.contains_cons, List.contains_nil, Nat.reduceBEq, Bool.or_false, Bool.false_or, Bool.or_true, Bool.true_or, forall_eq, forall_eq_or_imp, List.mem_cons, List.not_mem_nil, or_false, false_or]
                  repeat (refine And.intro (by first | omega | (refine ⟨?_, ?_⟩ <;> omega)) ?_)
                  refine hK28 _ ?_
                  clear hK28 K28
                  refine Wp.ret ?_
                  simp only [thn, inB, retQ]
                  clear hK20 K20
                  refine ⟨_, [], rfl, Nat.zero_le _, by decide, by simp, ?_⟩
                  simp only [go_sem, nl, Nat.mul_one, Nat.one_mul, Nat.reducePow, Nat.reduceAdd, Nat.reduceMul, Nat.reduceSub, Nat.reduceLeDiff, Nat.reduceEqDiff, Nat.reduceLT, reduceIte, Int.reduceToNat, Int.reduceLE, Int.reduceLT, reduceCtorEq, List.contains_cons, List.contains_nil, Nat.reduceBEq, Bool.or_false, Bool.false_or, Bool.or_true, Bool.true_or, forall_eq, forall_eq_or_imp, List.mem_cons, List.not_mem_nil, or_false, false_or]
                  all_goals
                    rw [hs]
                    clear hs hn
                    first
                      | (simp_all [rule, isQ] <;> first | omega | (intros; omega))
                      | (rw [rule_no (n := n) (by simp_all <;> omega)])
              · skip
                refine Wp.seqK fun K29 hK29 => ?_
                refine Wp.regionS ?_
                refine evc ?_
                repeat (refine And.intro (by first | omega | (refine ⟨?_, ?_⟩ <;> omega)) ?_)
                refine ⟨rfl, CallK.val [] LendOk.nil (l01In_c _ _ _) rfl ?_⟩
                refine evc ?_
                repeat (refine And.intro (by first | omega | (refine ⟨?_, ?_⟩ <;> omega)) ?_)
                refine hK29 _ ?_
                clear hK29 K29
                refine Wp.cond rfl (fun h151 => ?_) (fun h151 => ?_)
                · have hp := parts_2 (n := n) (by simp at h151; omega)
                  simp only [hp, List.map_cons, List.map_nil, List.length_cons, List.length_nil, Nat.zero_add, Nat.reduceAdd] at hs ⊢
                  refine Wp.seqK fun K30 hK30 => ?_
                  refine Wp.drawI [0, 1, 2, 3, 4, 5, 6, 7] [] (by kernel_rfl) ?_
                  refine evc ?_
                  repeat (refine And.intro (by first | omega | (refine ⟨?_, ?_⟩ <;> omega)) ?_)
                  refine grdA_split rfl (fun g1 => ?_) (fun g1 => ?_)
                  · simp only [go_sem, nl, Nat.mul_one, Nat.one_mul, Nat.reducePow, Nat.reduceAdd, Nat.reduceMul, Nat.reduceSub, Nat.reduceLeDiff, Nat.reduceEqDiff, Nat.reduceLT, reduceIte, Int.reduceToNat, Int.reduceLE, Int.reduceLT, reduceCtorEq, List.contains_cons, List.contains_nil, Nat.reduceBEq, Bool.or_false, Bool.false_or, Bool.or_true, Bool.true_or, forall_eq, forall_eq_or_imp, List.mem_cons, List.not_mem_nil, or_false, false_or]
                    repeat (refine And.intro (by first | omega | (refine ⟨?_, ?_⟩ <;> omega)) ?_)
                    refine grdA_split rfl (fun g2 => ?_) (fun g2 => ?_)
                    · simp only [go_sem, nl, Nat.mul_one, Nat.one_mul, Nat.reducePow, Nat.reduceAdd, Nat.reduceMul, Nat.reduceSub, Nat.reduceLeDiff, Nat.reduceEqDiff, Nat.reduceLT, reduceIte, Int.reduceToNat, Int.reduceLE, Int.reduceLT, reduceCtorEq, List.contains_cons, List.contains_nil, Nat.reduceBEq, Bool.or_false, Bool.false_or, Bool.or_true, Bool.true_or, forall_eq, forall_eq_or_imp, List.mem_cons, List.not_mem_nil, or_false, false_or]
                      repeat (refine And.intro (by first | omega | (refine ⟨?_, ?_⟩ <;> omega)) ?_)
                      refine grdA_split rfl (fun g3 => ?_) (fun g3 => ?_)
                      · simp only [go_sem, nl, Nat.mul_one, Nat.one_mul, Nat.reducePow, Nat.reduceAdd, Nat.reduceMul, Nat.reduceSub, Nat.reduceLeDiff, Nat.reduceEqDiff, Nat.reduceLT, reduceIte, Int.reduceToNat, Int.reduceLE, Int.reduceLT, reduceCtorEq, List.contains_cons, List.contains_nil, Nat.reduceBEq, Bool.or_false, Bool.false_or, Bool.or_true, Bool.true_or, forall_eq, forall_eq_or_imp, List.mem_cons, List.not_mem_nil, or_false, false_or]
                        repeat (refine And.intro (by first | omega | (refine ⟨?_, ?_⟩ <;> omega)) ?_)
                        refine hK30 _ ?_
                        clear hK30 K30
                        refine Wp.ret ?_
                        simp only [thn, inB, retQ]
                        clear hK20 K20
                        refine ⟨_, [], rfl, Nat.zero_le _, by decide, by simp, ?_⟩
                        simp only [go_sem, nl, Nat.mul_one, Nat.one_mul, Nat.reducePow, Nat.reduceAdd, Nat.reduceMul, Nat.reduceSub, Nat.reduceLeDiff, Nat.reduceEqDiff, Nat.reduceLT, reduceIte, Int.reduceToNat, Int.reduceLE, Int.reduceLT, reduceCtorEq, List.contains_cons, List.contains_nil, Nat.reduceBEq, Bool.or_false, Bool.false_or, Bool.or_true, Bool.true_or, forall_eq, forall_eq_or_imp, List.mem_cons, List.not_mem_nil, or_false, false_or]
                        all_goals
                          rw [hs]
                          clear hs hn
                          first
                            | (simp_all [rule, isQ] <;> first | omega | (intros; omega))
                            | (rw [rule_no (n := n) (by simp_all <;> omega)])
                      · simp only [go_sem, nl, Nat.mul_one, Nat.one_mul, Nat.reducePow, Nat.reduceAdd, Nat.reduceMul, Nat.reduceSub, Nat.reduceLeDiff, Nat.reduceEqDiff, Nat.reduceLT, reduceIte, Int.reduceToNat, Int.reduceLE, Int.reduceLT, reduceCtorEq, List.contains_cons, List.contains_nil, Nat.reduceBEq, Bool.or_false, Bool.false_or, Bool.or_true, Bool.true_or, forall_eq, forall_eq_or_imp, List.mem_cons, List.not_mem_nil, or_false, false_or]
                        repeat (refine And.intro (by first | omega | (refine ⟨?_, ?_⟩ <;> omega)) ?_)
                        refine hK30 _ ?_
                        clear hK30 K30
                        refine Wp.ret ?_
                        simp only [thn, inB, retQ]
                        clear hK20 K20
                        refine ⟨_, [], rfl, Nat.zero_le _, by decide, by simp, ?_⟩
                        simp only [go_sem, nl, Nat.mul_one, Nat.one_mul, Nat.reducePow, Nat.reduceAdd, Nat.reduceMul, Nat.reduceSub, Nat.reduceLeDiff, Nat.reduceEqDiff, Nat.reduceLT, reduceIte, Int.reduceToNat, Int.reduceLE, Int.reduceLT, reduceCtorEq, List.contains_cons, List.contains_nil, Nat.reduceBEq, Bool.or_false, Bool.false_or, Bool.or_true, Bool.true_or, forall_eq, forall_eq_or_imp, List.mem_cons, List.not_mem_nil, or_false, false_or]
                        all_goals
                          rw [hs]
                          clear hs hn
                          first
                            | (simp_all [rule, isQ] <;> first | omega | (intros; omega))
                            | (rw [rule_no (n := n) (by simp_all <;> omega)])
                    · simp only [go_sem, nl, Nat.mul_one, Nat.one_mul, Nat.reducePow, Nat.reduceAdd, Nat.reduceMul, Nat.reduceSub, Nat.reduceLeDiff, Nat.reduceEqDiff, Nat.reduceLT, reduceIte, Int.reduceToNat, Int.reduceLE, Int.reduceLT, reduceCtorEq, List.contains_cons, List.contains_nil, Nat.reduceBEq, Bool.or_false, Bool.false_or, Bool.or_true, Bool.true_or, forall_eq, forall_eq_or_imp, List.mem_cons, List.not_mem_nil, or_false, false_or]
                      repeat (refine And.intro (by first | omega | (refine ⟨?_, ?_⟩ <;> omega)) ?_)
                      refine hK30 _ ?_
                      clear hK30 K30
                      refine Wp.ret ?_
                      simp only [thn, inB, retQ]
                      clear hK20 K20
                      refine ⟨_, [], rfl, Nat.zero_le _, by decide, by simp, ?_⟩
                      simp only [go_sem, nl, Nat.mul_one, Nat.one_mul, Nat.reducePow, Nat.reduceAdd, Nat.reduceMul, Nat.reduceSub, Nat.reduceLeDiff, Nat.reduceEqDiff, Nat.reduceLT, reduceIte, Int.reduceToNat, Int.reduceLE, Int.reduceLT, reduceCtorEq, List.contains_cons, List.contains_nil, Nat.reduceBEq, Bool.or_false, Bool.false_or, Bool.or_true, Bool.true_or, forall_eq, forall_eq_or_imp, List.mem_cons, List.not_mem_nil, or_false, false_or]
                      all_goals
                        rw [hs]
                        clear hs hn
                        first
                          | (simp_all [rule, isQ] <;> first | omega | (intros; omega))
                          | (rw [rule_no (n := n) (by simp_all <;> omega)])
                  · simp only [go_sem, nl, Nat.mul_one, Nat.one_mul, Nat.reducePow, Nat.reduceAdd, Nat.reduceMul, Nat.reduceSub, Nat.reduceLeDiff, Nat.reduceEqDiff, Nat.reduceLT, reduceIte, Int.reduceToNat, Int.reduceLE, Int.reduceLT, reduceCtorEq, List.contains_cons, List.contains_nil, Nat.reduceBEq, Bool.or_false, Bool.false_or, Bool.or_true, Bool.true_or, forall_eq, forall_eq_or_imp, List.mem_cons, List.not_mem_nil, or_false, false_or]
                    repeat (refine And.intro (by first | omega | (refine ⟨?_, ?_⟩ <;> omega)) ?_)
                    refine hK30 _ ?_
                    clear hK30 K30
                    refine Wp.ret ?_
                    simp only [thn, inB, retQ]
                    clear hK20 K20
                    refine ⟨_, [], rfl, Nat.zero_le _, by decide, by simp, ?_⟩
                    simp only [go_sem, nl, Nat.mul_one, Nat.one_mul, Nat.reducePow, Nat.reduceAdd, Nat.reduceMul, Nat.reduceSub, Nat.reduceLeDiff, Nat.reduceEqDiff, Nat.reduceLT, reduceIte, Int.reduceToNat, Int.reduceLE, Int.reduceLT, reduceCtorEq, List.contains_cons, List.contains_nil, Nat.reduceBEq, Bool.or_false, Bool.false_or, Bool.or_true, Bool.true_or, forall_eq, forall_eq_or_imp, List.mem_cons, List.not_mem_nil, or_false, false_or]
                    all_goals
                      rw [hs]
                      clear hs hn
                      first
                        | (simp_all [rule, isQ] <;> first | omega | (intros; omega))
                        | (rw [rule_no (n := n) (by simp_all <;> omega)])
                · skip
                  refine Wp.seqK fun K31 hK31 => ?_
                  refine Wp.regionS ?_
                  refine evc ?_
                  repeat (refine And.intro (by first | omega | (refine ⟨?_, ?_⟩ <;> omega)) ?_)
                  refine hK31 _ ?_
                  clear hK31 K31
                  refine Wp.cond rfl (fun h177 => ?_) (fun h177 => ?_)
                  · have hp := parts_2 (n := n) (by simp at h177; omega)
                    simp only [hp, List.map_cons, List.map_nil, List.length_cons, List.length_nil, Nat.zero_add, Nat.reduceAdd] at hs ⊢
                    refine Wp.seqK fun K32 hK32 => ?_
                    refine Wp.drawI [0, 1, 2, 3, 4, 5, 6, 7] [] (by kernel_rfl) ?_
                    refine evc ?_
                    repeat (refine And.intro (by first | omega | (refine ⟨?_, ?_⟩ <;> omega)) ?_)
                    refine grdA_split rfl (fun g1 => ?_) (fun g1 => ?_)
                    · simp only [go_sem, nl, Nat.mul_one, Nat.one_mul, Nat.reducePow, Nat.reduceAdd, Nat.reduceMul, Nat.reduceSub, Nat.reduceLeDiff, Nat.reduceEqDiff, Nat.reduceLT, reduceIte, Int.reduceToNat, Int.reduceLE, Int.reduceLT, reduceCtorEq, List.contains_cons, List.contains_nil, Nat.reduceBEq, Bool.or_false, Bool.false_or, Bool.or_true, Bool.true_or, forall_eq, forall_eq_or_imp, List.mem_cons, List.not_mem_nil, or_false, false_or]
                      repeat (refine And.intro (by first | omega | (refine ⟨?_, ?_⟩ <;> omega)) ?_)
                      refine grdA_split rfl (fun g2 => ?_) (fun g2 => ?_)
                      · simp only [go_sem, nl, Nat.mul_one, Nat.one_mul, Nat.reducePow, Nat.reduceAdd, Nat.reduceMul, Nat.reduceSub, Nat.reduceLeDiff, Nat.reduceEqDiff, Nat.reduceLT, reduceIte, Int.reduceToNat, Int.reduceLE, Int.reduceLT, reduceCtorEq, List.contains_cons, List.contains_nil, Nat.reduceBEq, Bool.or_false, Bool.false_or, Bool.or_true, Bool.true_or, forall_eq, forall_eq_or_imp, List.mem_cons, List.not_mem_nil, or_false, false_or]
                        repeat (refine And.intro (by first | omega | (refine ⟨?_, ?_⟩ <;> omega)) ?_)
                        refine hK32 _ ?_
                        clear hK32 K32
                        refine Wp.ret ?_
                        simp only [thn, inB, retQ]
                        clear hK20 K20
                        refine ⟨_, [], rfl, Nat.zero_le _, by decide, by simp, ?_⟩
                        simp only [go_sem, nl, Nat.mul_one, Nat.one_mul, Nat.reducePow, Nat.reduceAdd, Nat.reduceMul, Nat.reduceSub, Nat.reduceLeDiff, Nat.reduceEqDiff, Nat.reduceLT, reduceIte, Int.reduceToNat, Int.reduceLE, Int.reduceLT, reduceCtorEq, List.contains_cons, List.contains_nil, Nat.reduceBEq, Bool.or_false, Bool.false_or, Bool.or_true, Bool.true_or, forall_eq, forall_eq_or_imp, List.mem_cons, List.not_mem_nil, or_false, false_or]
                        all_goals
                          rw [hs]
                          clear hs hn
                          first
                            | (simp_all [rule, isQ] <;> first | omega | (intros; omega))
                            | (rw [rule_no (n := n) (by simp_all <;> omega)])
                      · simp only [go_sem, nl, Nat.mul_one, Nat.one_mul, Nat.reducePow, Nat.reduceAdd, Nat.reduceMul, Nat.reduceSub, Nat.reduceLeDiff, Nat.reduceEqDiff, Nat.reduceLT, reduceIte, Int.reduceToNat, Int.reduceLE, Int.reduceLT, reduceCtorEq, List.contains_cons, List.contains_nil, Nat.reduceBEq, Bool.or_false, Bool.false_or, Bool.or_true, Bool.true_or, forall_eq, forall_eq_or_imp, List.mem_cons, List.not_mem_nil, or_false, false_or]
                        repeat (refine And.intro (by first | omega | (refine ⟨?_, ?_⟩ <;> omega)) ?_)
                        refine hK32 _ ?_
                        clear hK32 K32
                        refine Wp.ret ?_
                        simp only [thn, inB, retQ]
                        clear hK20 K20
                        refine ⟨_, [], rfl, Nat.zero_le _, by decide, by simp, ?_⟩
                        simp only [go_sem, nl, Nat.mul_one, Nat.one_mul, Nat.reducePow, Nat.reduceAdd, Nat.reduceMul, Nat.reduceSub, Nat.reduceLeDiff, Nat.reduceEqDiff, Nat.reduceLT, reduceIte, Int.reduceToNat, Int.reduceLE, Int.reduceLT, reduceCtorEq, List.contains_cons, List.contains_nil, Nat.reduceBEq, Bool.or_false, Bool.false_or, Bool.or_true, Bool.true_or, forall_eq, forall_eq_or_imp, List.mem_cons, List.not_mem_nil, or_false, false_or]
                        all_goals
                          rw [hs]
                          clear hs hn
                          first
                            | (simp_all [rule, isQ] <;> first | omega | (intros; omega))
                            | (rw [rule_no (n := n) (by simp_all <;> omega)])
                    · simp only [go_sem, nl, Nat.mul_one, Nat.one_mul, Nat.reducePow, Nat.reduceAdd, Nat.reduceMul, Nat.reduceSub, Nat.reduceLeDiff, Nat.reduceEqDiff, Nat.reduceLT, reduceIte, Int.reduceToNat, Int.reduceLE, Int.reduceLT, reduceCtorEq, List.contains_cons, List.contains_nil, Nat.reduceBEq, Bool.or_false, Bool.false_or, Bool.or_true, Bool.true_or, forall_eq, forall_eq_or_imp, List.mem_cons, List.not_mem_nil, or_false, false_or]
                      repeat (refine And.intro (by first | omega | (refine ⟨?_, ?_⟩ <;> omega)) ?_)
                      refine hK32 _ ?_
                      clear hK32 K32
                      refine Wp.ret ?_
                      simp only [thn, inB, retQ]
                      clear hK20 K20
                      refine ⟨_, [], rfl, Nat.zero_le _, by decide, by simp, ?_⟩
                      simp only [go_sem, nl, Nat.mul_one, Nat.one_mul, Nat.reducePow, Nat.reduceAdd, Nat.reduceMul, Nat.reduceSub, Nat.reduceLeDiff, Nat.reduceEqDiff, Nat.reduceLT, reduceIte, Int.reduceToNat, Int.reduceLE, Int.reduceLT, reduceCtorEq, List.contains_cons, List.contains_nil, Nat.reduceBEq, Bool.or_false, Bool.false_or, Bool.or_true, Bool.true_or, forall_eq, forall_eq_or_imp, List.mem_cons, List.not_mem_nil, or_false, false_or]
                      all_goals
                        rw [hs]
                        clear hs hn
                        first
                          | (simp_all [rule, isQ] <;> first | omega | (intros; omega))
                          | (rw [rule_no (n := n) (by simp_all <;> omega)])
                  · skip
                    refine Wp.seqK fun K33 hK33 => ?_
                    refine Wp.regionS ?_
                    refine evc ?_
                    repeat (refine And.intro (by first | omega | (refine ⟨?_, ?_⟩ <;> omega)) ?_)
                    refine hK33 _ ?_
                    clear hK33 K33
                    refine Wp.cond rfl (fun h201 => ?_) (fun h201 => ?_)
                    · have hp := parts_1 (n := n) (by simp at h201; omega)
                      simp only [hp, List.map_cons, List.map_nil, List.length_cons, List.length_nil, Nat.zero_add, Nat.reduceAdd] at hs ⊢
                      refine Wp.seqK fun K34 hK34 => ?_
                      refine Wp.drawI [0, 1, 2, 3, 4, 5, 6, 7] [] (by kernel_rfl) ?_
                      refine evc ?_
                      repeat (refine And.intro (by first | omega | (refine ⟨?_, ?_⟩ <;> omega)) ?_)
                      refine grdA_split rfl (fun g1 => ?_) (fun g1 => ?_)
                      · simp only [go_sem, nl, Nat.mul_one, Nat.one_mul, Nat.reducePow, Nat.reduceAdd, Nat.reduceMul, Nat.reduceSub, Nat.reduceLeDiff, Nat.reduceEqDiff, Nat.reduceLT, reduceIte, Int.reduceToNat, Int.reduceLE, Int.reduceLT, reduceCtorEq, List.contains_cons, List.contains_nil, Nat.reduceBEq, Bool.or_false, Bool.false_or, Bool.or_true, Bool.true_or, forall_eq, forall_eq_or_imp, List.mem_cons, List.not_mem_nil, or_false, false_or]
                        repeat (refine And.intro (by first | omega | (refine ⟨?_, ?_⟩ <;> omega)) ?_)
                        refine grdA_split rfl (fun g2 => ?_) (fun g2 => ?_)
                        · simp only [go_sem, nl, Nat.mul_one, Nat.one_mul, Nat.reducePow, Nat.reduceAdd, Nat.reduceMul, Nat.reduceSub, Nat.reduceLeDiff, Nat.reduceEqDiff, Nat.reduceLT, reduceIte, Int.reduceToNat, Int.reduceLE, Int.reduceLT, reduceCtorEq, List.contains_cons, List.contains_nil, Nat.reduceBEq, Bool.or_false, Bool.false_or, Bool.or_true, Bool.true_or, forall_eq, forall_eq_or_imp, List.mem_cons, List.not_mem_nil, or_false, false_or]
                          repeat (refine And.intro (by first | omega | (refine ⟨?_, ?_⟩ <;> omega)) ?_)
                          refine grdA_split rfl (fun g3 => ?_) (fun g3 => ?_)
                          · simp only [go_sem, nl, Nat.mul_one, Nat.one_mul, Nat.reducePow, Nat.reduceAdd, Nat.reduceMul, Nat.reduceSub, Nat.reduceLeDiff, Nat.reduceEqDiff, Nat.reduceLT, reduceIte, Int.reduceToNat, Int.reduceLE, Int.reduceLT, reduceCtorEq, List.contains_cons, List.contains_nil, Nat.reduceBEq, Bool.or_false, Bool.false_or, Bool.or_true, Bool.true_or, forall_eq, forall_eq_or_imp, List.mem_cons, List.not_mem_nil, or_false, false_or]
                            repeat (refine And.intro (by first | omega | (refine ⟨?_, ?_⟩ <;> omega)) ?_)
                            refine hK34 _ ?_
                            clear hK34 K34
                            refine Wp.ret ?_
                            simp only [thn, inB, retQ]
                            clear hK20 K20
                            refine ⟨_, [], rfl, Nat.zero_le _, by decide, by simp, ?_⟩
                            simp only [go_sem, nl, Nat.mul_one, Nat.one_mul, Nat.reducePow, Nat.reduceAdd, Nat.reduceMul, Nat.reduceSub, Nat.reduceLeDiff, Nat.reduceEqDiff, Nat.reduceLT, reduceIte, Int.reduceToNat, Int.reduceLE, Int.reduceLT, reduceCtorEq, List.contains_cons, List.contains_nil, Nat.reduceBEq, Bool.or_false, Bool.false_or, Bool.or_true, Bool.true_or, forall_eq, forall_eq_or_imp, List.mem_cons, List.not_mem_nil, or_false, false_or]
                            all_goals
                              rw [hs]
                              clear hs hn
                              first
                                | (simp_all [rule, isQ] <;> first | omega | (intros; omega))
                                | (rw [rule_no (n := n) (by simp_all <;> omega)])
                          · simp only [go_sem, nl, Nat.mul_one, Nat.one_mul, Nat.reducePow, Nat.reduceAdd, Nat.reduceMul, Nat.reduceSub, Nat.reduceLeDiff, Nat.reduceEqDiff, Nat.reduceLT, reduceIte, Int.reduceToNat, Int.reduceLE, Int.reduceLT, reduceCtorEq, List.contains_cons, List.contains_nil, Nat.reduceBEq, Bool.or_false, Bool.false_or, Bool.or_true, Bool.true_or, forall_eq, forall_eq_or_imp, List.mem_cons, List.not_mem_nil, or_false, false_or]
                            repeat (refine And.intro (by first | omega | (refine ⟨?_, ?_⟩ <;> omega)) ?_)
                            refine hK34 _ ?_
                            clear hK34 K34
                            refine Wp.ret ?_
                            simp only [thn, inB, retQ]
                            clear hK20 K20
                            refine ⟨_, [], rfl, Nat.zero_le _, by decide, by simp, ?_⟩
                            simp only [go_sem, nl, Nat.mul_one, Nat.one_mul, Nat.reducePow, Nat.reduceAdd, Nat.reduceMul, Nat.reduceSub, Nat.reduceLeDiff, Nat.reduceEqDiff, Nat.reduceLT, reduceIte, Int.reduceToNat, Int.reduceLE, Int.reduceLT, reduceCtorEq, List.contains_cons, List.contains_nil, Nat.reduceBEq, Bool.or_false, Bool.false_or, Bool.or_true, Bool.true_or, forall_eq, forall_eq_or_imp, List.mem_cons, List.not_mem_nil, or_false, false_or]
                            all_goals
                              rw [hs]
                              clear hs hn
                              first
                                | (simp_all [rule, isQ] <;> first | omega | (intros; omega))
                                | (rw [rule_no (n := n) (by simp_all <;> omega)])
                        · simp only [go_sem, nl, Nat.mul_one, Nat.one_mul, Nat.reducePow, Nat.reduceAdd, Nat.reduceMul, Nat.reduceSub, Nat.reduceLeDiff, Nat.reduceEqDiff, Nat.reduceLT, reduceIte, Int.reduceToNat, Int.reduceLE, Int.reduceLT, reduceCtorEq, List.contains_cons, List.contains_nil, Nat.reduceBEq, Bool.or_false, Bool.false_or, Bool.or_true, Bool.true_or, forall_eq, forall_eq_or_imp, List.mem_cons, List.not_mem_nil, or_false, false_or]
                          repeat (refine And.intro (by first | omega | (refine ⟨?_, ?_⟩ <;> omega)) ?_)
                          refine hK34 _ ?_
                          clear hK34 K34
                          refine Wp.ret ?_
                          simp only [thn, inB, retQ]
                          clear hK20 K20
                          refine ⟨_, [], rfl, Nat.zero_le _, by decide, by simp, ?_⟩
                          simp only [go_sem, nl, Nat.mul_one, Nat.one_mul, Nat.reducePow, Nat.reduceAdd, Nat.reduceMul, Nat.reduceSub, Nat.reduceLeDiff, Nat.reduceEqDiff, Nat.reduceLT, reduceIte, Int.reduceToNat, Int.reduceLE, Int.reduceLT, reduceCtorEq, List.contains_cons, List.contains_nil, Nat.reduceBEq, Bool.or_false, Bool.false_or, Bool.or_true, Bool.true_or, forall_eq, forall_eq_or_imp, List.mem_cons, List.not_mem_nil, or_false, false_or]
                          all_goals
                            rw [hs]
                            clear hs hn
                            first
                              | (simp_all [rule, isQ] <;> first | omega | (intros; omega))
                              | (rw [rule_no (n := n) (by simp_all <;> omega)])
                      · simp only [go_sem, nl, Nat.mul_one, Nat.one_mul, Nat.reducePow, Nat.reduceAdd, Nat.reduceMul, Nat.reduceSub, Nat.reduceLeDiff, Nat.reduceEqDiff, Nat.reduceLT, reduceIte, Int.reduceToNat, Int.reduceLE, Int.reduceLT, reduceCtorEq, List.contains_cons, List.contains_nil, Nat.reduceBEq, Bool.or_false, Bool.false_or, Bool.or_true, Bool.true_or, forall_eq, forall_eq_or_imp, List.mem_cons, List.not_mem_nil, or_false, false_or]
                        repeat (refine And.intro (by first | omega | (refine ⟨?_, ?_⟩ <;> omega)) ?_)
                        refine hK34 _ ?_
                        clear hK34 K34
                        refine Wp.ret ?_
                        simp only [thn, inB, retQ]
                        clear hK20 K20
                        refine ⟨_, [], rfl, Nat.zero_le _, by decide, by simp, ?_⟩
                        simp only [go_sem, nl, Nat.mul_one, Nat.one_mul, Nat.reducePow, Nat.reduceAdd, Nat.reduceMul, Nat.reduceSub, Nat.reduceLeDiff, Nat.reduceEqDiff, Nat.reduceLT, reduceIte, Int.reduceToNat, Int.reduceLE, Int.reduceLT, reduceCtorEq, List.contains_cons, List.contains_nil, Nat.reduceBEq, Bool.or_false, Bool.false_or, Bool.or_true, Bool.true_or, forall_eq, forall_eq_or_imp, List.mem_cons, List.not_mem_nil, or_false, false_or]
                        all_goals
                          rw [hs]
                          clear hs hn
                          first
                            | (simp_all [rule, isQ] <;> first | omega | (intros; omega))
                            | (rw [rule_no (n := n) (by simp_all <;> omega)])
                    · skip
                      refine Wp.seqK fun K35 hK35 => ?_
                      refine Wp.regionS ?_
                      refine evc ?_
                      repeat (refine And.intro (by first | omega | (refine ⟨?_, ?_⟩ <;> omega)) ?_)
                      refine hK35 _ ?_
                      clear hK35 K35
                      refine Wp.cond rfl (fun h229 => ?_) (fun h229 => ?_)
                      · have hp := parts_3 (n := n) (by simp at h229; omega)
                        simp only [hp, List.map_cons, List.map_nil, List.length_cons, List.length_nil, Nat.zero_add, Nat.reduceAdd] at hs ⊢
                        refine Wp.seqK fun K36 hK36 => ?_
                        refine Wp.drawI [0, 1, 2, 3, 4, 5, 6, 7] [] (by kernel_rfl) ?_
                        refine evc ?_
                        repeat (refine And.intro (by first | omega | (refine ⟨?_, ?_⟩ <;> omega)) ?_)
                        refine grdA_split rfl (fun g1 => ?_) (fun g1 => ?_)
                        · simp only [go_sem, nl, Nat.mul_one, Nat.one_mul, Nat.reducePow, Nat.reduceAdd, Nat.reduceMul, Nat.reduceSub, Nat.reduceLeDiff, Nat.reduceEqDiff, Nat.reduceLT, reduceIte, Int.reduceToNat, Int.reduceLE, Int.reduceLT, reduceCtorEq, List.contains_cons, List.contains_nil, Nat.reduceBEq, Bool.or_false, Bool.false_or, Bool.or_true, Bool.true_or, forall_eq, forall_eq_or_imp, List.mem_cons, List.not_mem_nil, or_false, false_or]
                          repeat (refine And.intro (by first | omega | (refine ⟨?_, ?_⟩ <;> omega)) ?_)
                          refine grdA_split rfl (fun g2 => ?_) (fun g2 => ?_)
                          · simp only [go_sem, nl, Nat.mul_one, Nat.one_mul, Nat.reducePow, Nat.reduceAdd, Nat.reduceMul, Nat.reduceSub, Nat.reduceLeDiff, Nat.reduceEqDiff, Nat.reduceLT, reduceIte, Int.reduceToNat, Int.reduceLE, Int.reduceLT, reduceCtorEq, List.contains_cons, List.contains_nil, Nat.reduceBEq, Bool.or_false, Bool.false_or, Bool.or_true, Bool.true_or, forall_eq, forall_eq_or_imp, List.mem_cons, List.not_mem_nil, or_false, false_or]
                            repeat (refine And.intro (by first | omega | (refine ⟨?_, ?_⟩ <;> omega)) ?_)
                            refine grdA_split rfl (fun g3 => ?_) (fun g3 => ?_)
                            · simp only [go_sem, nl, Nat.mul_one, Nat.one_mul, Nat.reducePow, Nat.reduceAdd, Nat.reduceMul, Nat.reduceSub, Nat.reduceLeDiff, Nat.reduceEqDiff, Nat.reduceLT, reduceIte, Int.reduceToNat, Int.reduceLE, Int.reduceLT, reduceCtorEq, List.contains_cons, List.contains_nil, Nat.reduceBEq, Bool.or_false, Bool.false_or, Bool.or_true, Bool.true_or, forall_eq, forall_eq_or_imp, List.mem_cons, List.not_mem_nil, or_false, false_or]
                              repeat (refine And.intro (by first | omega | (refine ⟨?_, ?_⟩ <;> omega)) ?_)
                              refine hK36 _ ?_
                              clear hK36 K36
                              refine Wp.ret ?_
                              simp only [thn, inB, retQ]
                              clear hK20 K20
                              refine ⟨_, [], rfl, Nat.zero_le _, by decide, by simp, ?_⟩
                              simp only [go_sem, nl, Nat.mul_one, Nat.one_mul, Nat.reducePow, Nat.reduceAdd, Nat.reduceMul, Nat.reduceSub, Nat.reduceLeDiff, Nat.reduceEqDiff, Nat.reduceLT, reduceIte, Int.reduceToNat, Int.reduceLE, Int.reduceLT, reduceCtorEq, List.contains_cons, List.contains_nil, Nat.reduceBEq, Bool.or_false, Bool.false_or, Bool.or_true, Bool.true_or, forall_eq, forall_eq_or_imp, List.mem_cons, List.not_mem_nil, or_false, false_or]
                              all_goals
                                rw [hs]
                                clear hs hn
                                first
                                  | (simp_all [rule, isQ] <;> first | omega | (intros; omega))
                                  | (rw [rule_no (n := n) (by simp_all <;> omega)])
                            · simp only [go_sem, nl, Nat.mul_one, Nat.one_mul, Nat.reducePow, Nat.reduceAdd, Nat.reduceMul, Nat.reduceSub, Nat.reduceLeDiff, Nat.reduceEqDiff, Nat.reduceLT, reduceIte, Int.reduceToNat, Int.reduceLE, Int.reduceLT, reduceCtorEq, List.contains_cons, List.contains_nil, Nat.reduceBEq, Bool.or_false, Bool.false_or, Bool.or_true, Bool.true_or, forall_eq, forall_eq_or_imp, List.mem_cons, List.not_mem_nil, or_false, false_or]
                              repeat (refine And.intro (by first | omega | (refine ⟨?_, ?_⟩ <;> omega)) ?_)
                              refine hK36 _ ?_
                              clear hK36 K36
                              refine Wp.ret ?_
                              simp only [thn, inB, retQ]
                              clear hK20 K20
                              refine ⟨_, [], rfl, Nat.zero_le _, by decide, by simp, ?_⟩
                              simp only [go_sem, nl, Nat.mul_one, Nat.one_mul, Nat.reducePow, Nat.reduceAdd, Nat.reduceMul, Nat.reduceSub, Nat.reduceLeDiff, Nat.reduceEqDiff, Nat.reduceLT, reduceIte, Int.reduceToNat, Int.reduceLE, Int.reduceLT, reduceCtorEq, List.contains_cons, List.contains_nil, Nat.reduceBEq, Bool.or_false, Bool.false_or, Bool.or_true, Bool.true_or, forall_eq, forall_eq_or_imp, List.mem_cons, List.not_mem_nil, or_false, false_or]
                              all_goals
                                rw [hs]
                                clear hs hn
                                first
                                  | (simp_all [rule, isQ] <;> first | omega | (intros; omega))
                                  | (rw [rule_no (n := n) (by simp_all <;> omega)])
                          · simp only [go_sem, nl, Nat.mul_one, Nat.one_mul, Nat.reducePow, Nat.reduceAdd, Nat.reduceMul, Nat.reduceSub, Nat.reduceLeDiff, Nat.reduceEqDiff, Nat.reduceLT, reduceIte, Int.reduceToNat, Int.reduceLE, Int.reduceLT, reduceCtorEq, List.contains_cons, List.contains_nil, Nat.reduceBEq, Bool.or_false, Bool.false_or, Bool.or_true, Bool.true_or, forall_eq, forall_eq_or_imp, List.mem_cons, List.not_mem_nil, or_false, false_or]
                            repeat (refine And.intro (by first | omega | (refine ⟨?_, ?_⟩ <;> omega)) ?_)
                            refine hK36 _ ?_
                            clear hK36 K36
                            refine Wp.ret ?_
                            simp only [thn, inB, retQ]
                            clear hK20 K20
                            refine ⟨_, [], rfl, Nat.zero_le _, by decide, by simp, ?_⟩
                            simp only [go_sem, nl, Nat.mul_one, Nat.one_mul, Nat.reducePow, Nat.reduceAdd, Nat.reduceMul, Nat.reduceSub, Nat.reduceLeDiff, Nat.reduceEqDiff, Nat.reduceLT, reduceIte, Int.reduceToNat, Int.reduceLE, Int.reduceLT, reduceCtorEq, List.contains_cons, List.contains_nil, Nat.reduceBEq, Bool.or_false, Bool.false_or, Bool.or_true, Bool.true_or, forall_eq, forall_eq_or_imp, List.mem_cons, List.not_mem_nil, or_false, false_or]
                            all_goals
                              rw [hs]
                              clear hs hn
                              first
                                | (simp_all [rule, isQ] <;> first | omega | (intros; omega))
                                | (rw [rule_no (n := n) (by simp_all <;> omega)])
                        · simp only [go_sem, nl, Nat.mul_one, Nat.one_mul, Nat.reducePow, Nat.reduceAdd, Nat.reduceMul, Nat.reduceSub, Nat.reduceLeDiff, Nat.reduceEqDiff, Nat.reduceLT, reduceIte, Int.reduceToNat, Int.reduceLE, Int.reduceLT, reduceCtorEq, List.contains_cons, List.contains_nil, Nat.reduceBEq, Bool.or_false, Bool.false_or, Bool.or_true, Bool.true_or, forall_eq, forall_eq_or_imp, List.mem_cons, List.not_mem_nil, or_false, false_or]
                          repeat (refine And.intro (by first | omega | (refine ⟨?_, ?_⟩ <;> omega)) ?_)
                          refine hK36 _ ?_
                          clear hK36 K36
                          refine Wp.ret ?_
                          simp only [thn, inB, retQ]
                          clear hK20 K20
                          refine ⟨_, [], rfl, Nat.zero_le _, by decide, by simp, ?_⟩
                          simp only [go_sem, nl, Nat.mul_one, Nat.one_mul, Nat.reducePow, Nat.reduceAdd, Nat.reduceMul, Nat.reduceSub, Nat.reduceLeDiff, Nat.reduceEqDiff, Nat.reduceLT, reduceIte, Int.reduceToNat, Int.reduceLE, Int.reduceLT, reduceCtorEq, List.contains_cons, List.contains_nil, Nat.reduceBEq, Bool.or_false, Bool.false_or, Bool.or_true, Bool.true_or, forall_eq, forall_eq_or_imp, List.mem_cons, List.not_mem_nil, or_false, false_or]
                          all_goals
                            rw [hs]
                            clear hs hn
                            first
                              | (simp_all [rule, isQ] <;> first | omega | (intros; omega))
                              | (rw [rule_no (n := n) (by simp_all <;> omega)])
                      · skip
                        refine Wp.seqM (fun s => ∃ f : Nat → AV, s = ⟨[dN t, I i, f 2, f 3, T false, .l (.ptr 0 0 0), f 6, f 7, .l (.obj 2 (parts n).length 1 0 (parts n).length), f 9, f 10, f 11, f 12, f 13, f 14, f 15, f 16, f 17, f 18, f 19, f 20, f 21, f 22, f 23, f 24, f 25, f 26, f 27, f 28, f 29, f 30, f 31, f 32, f 33, f 34, f 35, f 36, f 37, f 38, f 39, f 40, f 41, f 42, f 43, f 44, f 45, f 46, f 47, f 48, f 49, f 50, f 51, f 52, f 53, f 54, f 55, f 56, f 57, f 58, f 59, f 60, f 61, f 62, f 63, f 64, f 65, f 66, f 67, f 68, f 69, f 70, f 71, f 72, f 73, f 74, f 75, f 76, f 77, f 78, f 79, f 80, f 81, f 82, f 83, f 84, f 85, f 86, f 87, f 88, f 89, f 90, f 91, f 92, f 93, f 94, f 95, f 96, f 97, f 98, f 99, f 100, f 101, f 102, f 103, f 104, f 105, f 106, f 107, f 108, f 109, f 110, f 111, f 112, f 113, f 114, f 115, f 116, f 117, f 118, f 119, f 120, f 121, f 122, f 123, f 124, f 125, f 126, f 127, f 128, f 129, f 130, f 131, f 132, f 133, f 134, f 135, f 136, f 137, f 138, f 139, f 140, f 141, f 142, f 143, f 144, f 145, f 146, f 147, f 148, f 149, f 150, f 151, f 152, f 153, f 154, f 155, f 156, f 157, f 158, f 159, f 160, f 161, f 162, f 163, f 164, f 165, f 166, f 167, f 168, f 169, f 170, f 171, f 172, f 173, f 174, f 175, f 176, f 177, f 178, f 179, f 180, f 181, f 182, f 183, f 184, f 185, f 186, f 187, f 188, f 189, f 190, f 191, f 192, f 193, f 194, f 195, f 196, f 197, f 198, f 199, f 200, f 201, f 202, f 203, f 204, f 205, f 206, f 207, f 208, f 209, f 210, f 211, f 212, f 213, f 214, f 215, f 216, f 217, f 218, f 219, f 220, f 221, f 222, f 223, f 224, f 225, f 226, f 227, f 228, f 229, f 230, f 231, f 232, f 233, f 234, f 235, f 236, f 237, f 238, f 239, f 240, f 241, f 242, f 243, f 244, f 245, f 246, f 247, f 248, f 249, f 250, f 251, f 252, f 253, f 254, f 255, f 256, f 257, T (decide (n.op = 19) || decide (n.op = 20)), f 259, f 260, f 261, f 262, f 263, f 264, f 265, f 266, f 267, f 268, f 269, f 270, f 271, f 272, f 273, f 274, f 275, f 276, f 277, f 278, f 279, f 280, f 281, f 282, f 283, f 284, f 285, f 286, f 287, f 288, f 289, f 290], [some ⟨0, nl n⟩, some ⟨0, (parts n).map ci⟩, some ⟨(parts n).length, ((parts n).map (wAt t)).map ci⟩]⟩) ?_ ?_
                        · refine Wp.regionS ?_
                          refine evc ?_
                          repeat (refine And.intro (by first | omega | (refine ⟨?_, ?_⟩ <;> omega)) ?_)
                          refine grdA_split rfl (fun g1 => ?_) (fun g1 => ?_)
                          · simp only [go_sem, nl, Nat.mul_one, Nat.one_mul, Nat.reducePow, Nat.reduceAdd, Nat.reduceMul, Nat.reduceSub, Nat.reduceLeDiff, Nat.reduceEqDiff, Nat.reduceLT, reduceIte, Int.reduceToNat, Int.reduceLE, Int.reduceLT, reduceCtorEq, List.contains_cons, List.contains_nil, Nat.reduceBEq, Bool.or_false, Bool.false_or, Bool.or_true, Bool.true_or, forall_eq, forall_eq_or_imp, List.mem_cons, List.not_mem_nil, or_false, false_or]
                            repeat (refine And.intro (by first | omega | (refine ⟨?_, ?_⟩ <;> omega)) ?_)
                            simp only [g1, Bool.true_or, Bool.or_true, Bool.false_or, Bool.or_false, Bool.true_and, Bool.and_true, Bool.false_and, Bool.and_false, Bool.not_true, Bool.not_false]
                            exact anyT rfl rfl
                          · simp only [go_sem, nl, Nat.mul_one, Nat.one_mul, Nat.reducePow, Nat.reduceAdd, Nat.reduceMul, Nat.reduceSub, Nat.reduceLeDiff, Nat.reduceEqDiff, Nat.reduceLT, reduceIte, Int.reduceToNat, Int.reduceLE, Int.reduceLT, reduceCtorEq, List.contains_cons, List.contains_nil, Nat.reduceBEq, Bool.or_false, Bool.false_or, Bool.or_true, Bool.true_or, forall_eq, forall_eq_or_imp, List.mem_cons, List.not_mem_nil, or_false, false_or]
                            repeat (refine And.intro (by first | omega | (refine ⟨?_, ?_⟩ <;> omega)) ?_)
                            simp only [g1, Bool.true_or, Bool.or_true, Bool.false_or, Bool.or_false, Bool.true_and, Bool.and_true, Bool.false_and, Bool.and_false, Bool.not_true, Bool.not_false]
                            exact anyT rfl rfl
                        rintro _ ⟨f, rfl⟩
                        refine Wp.cond rfl (fun h258 => ?_) (fun h258 => ?_)
                        · have hp := parts_1 (n := n) (by simp at h258; omega)
                          simp only [hp, List.map_cons, List.map_nil, List.length_cons, List.length_nil, Nat.zero_add, Nat.reduceAdd] at hs ⊢
                          rw [rule_q (by simp at h258; omega)] at hs
                          refine Wp.seqK fun K37 hK37 => ?_
                          refine Wp.regionS ?_
                          refine evc ?_
                          repeat (refine And.intro (by first | omega | (refine ⟨?_, ?_⟩ <;> omega)) ?_)
                          refine ⟨rfl, CallK.val [] LendOk.nil (l01In_c _ _ _) rfl ?_⟩
                          refine evc ?_
                          repeat (refine And.intro (by first | omega | (refine ⟨?_, ?_⟩ <;> omega)) ?_)
                          refine grdA_split rfl (fun g1 => ?_) (fun g1 => ?_)
                          · simp only [go_sem, nl, Nat.mul_one, Nat.one_mul, Nat.reducePow, Nat.reduceAdd, Nat.reduceMul, Nat.reduceSub, Nat.reduceLeDiff, Nat.reduceEqDiff, Nat.reduceLT, reduceIte, Int.reduceToNat, Int.reduceLE, Int.reduceLT, reduceCtorEq, List.contains_cons, List.contains_nil, Nat.reduceBEq, Bool.or_false, Bool.false_or, Bool.or_true, Bool.true_or, forall_eq, forall_eq_or_imp, List.mem_cons, List.not_mem_nil, or_false, false_or]
                            repeat (refine And.intro (by first | omega | (refine ⟨?_, ?_⟩ <;> omega)) ?_)
                            refine ⟨rfl, CallK.val [] LendOk.nil (l01In_c _ _ _) rfl ?_⟩
                            refine evc ?_
                            repeat (refine And.intro (by first | omega | (refine ⟨?_, ?_⟩ <;> omega)) ?_)
                            refine grdA_split rfl (fun g2 => ?_) (fun g2 => ?_)
                            · simp only [go_sem, nl, Nat.mul_one, Nat.one_mul, Nat.reducePow, Nat.reduceAdd, Nat.reduceMul, Nat.reduceSub, Nat.reduceLeDiff, Nat.reduceEqDiff, Nat.reduceLT, reduceIte, Int.reduceToNat, Int.reduceLE, Int.reduceLT, reduceCtorEq, List.contains_cons, List.contains_nil, Nat.reduceBEq, Bool.or_false, Bool.false_or, Bool.or_true, Bool.true_or, forall_eq, forall_eq_or_imp, List.mem_cons, List.not_mem_nil, or_false, false_or]
                              repeat (refine And.intro (by first | omega | (refine ⟨?_, ?_⟩ <;> omega)) ?_)
                              refine grdA_split rfl (fun g3 => ?_) (fun g3 => ?_)
                              · simp only [go_sem, nl, Nat.mul_one, Nat.one_mul, Nat.reducePow, Nat.reduceAdd, Nat.reduceMul, Nat.reduceSub, Nat.reduceLeDiff, Nat.reduceEqDiff, Nat.reduceLT, reduceIte, Int.reduceToNat, Int.reduceLE, Int.reduceLT, reduceCtorEq, List.contains_cons, List.contains_nil, Nat.reduceBEq, Bool.or_false, Bool.false_or, Bool.or_true, Bool.true_or, forall_eq, forall_eq_or_imp, List.mem_cons, List.not_mem_nil, or_false, false_or]
                                repeat (refine And.intro (by first | omega | (refine ⟨?_, ?_⟩ <;> omega)) ?_)
                                refine grdA_split rfl (fun g4 => ?_) (fun g4 => ?_)
                                · simp only [go_sem, nl, Nat.mul_one, Nat.one_mul, Nat.reducePow, Nat.reduceAdd, Nat.reduceMul, Nat.reduceSub, Nat.reduceLeDiff, Nat.reduceEqDiff, Nat.reduceLT, reduceIte, Int.reduceToNat, Int.reduceLE, Int.reduceLT, reduceCtorEq, List.contains_cons, List.contains_nil, Nat.reduceBEq, Bool.or_false, Bool.false_or, Bool.or_true, Bool.true_or, forall_eq, forall_eq_or_imp, List.mem_cons, List.not_mem_nil, or_false, false_or]
                                  repeat (refine And.intro (by first | omega | (refine ⟨?_, ?_⟩ <;> omega)) ?_)
                                  refine hK37 _ ?_
                                  clear hK37 K37
                                  refine Wp.ret ?_
                                  simp only [thn, inB, retQ]
                                  clear hK20 K20
                                  refine ⟨_, [], rfl, Nat.zero_le _, by decide, by simp, ?_⟩
                                  simp only [go_sem, nl, Nat.mul_one, Nat.one_mul, Nat.reducePow, Nat.reduceAdd, Nat.reduceMul, Nat.reduceSub, Nat.reduceLeDiff, Nat.reduceEqDiff, Nat.reduceLT, reduceIte, Int.reduceToNat, Int.reduceLE, Int.reduceLT, reduceCtorEq, List.contains_cons, List.contains_nil, Nat.reduceBEq, Bool.or_false, Bool.false_or, Bool.or_true, Bool.true_or, forall_eq, forall_eq_or_imp, List.mem_cons, List.not_mem_nil, or_false, false_or]
                                  all_goals
                                    rw [hs]
                                    clear hs hn
                                    first
                                      | (simp_all [rule, isQ] <;> first | omega | (intros; omega))
                                      | (rw [rule_no (n := n) (by simp_all <;> omega)])
                                · simp only [go_sem, nl, Nat.mul_one, Nat.one_mul, Nat.reducePow, Nat.reduceAdd, Nat.reduceMul, Nat.reduceSub, Nat.reduceLeDiff, Nat.reduceEqDiff, Nat.reduceLT, reduceIte, Int.reduceToNat, Int.reduceLE, Int.reduceLT, reduceCtorEq, List.contains_cons, List.contains_nil, Nat.reduceBEq, Bool.or_false, Bool.false_or, Bool.or_true, Bool.true_or, forall_eq, forall_eq_or_imp, List.mem_cons, List.not_mem_nil, or_false, false_or]
                                  repeat (refine And.intro (by first | omega | (refine ⟨?_, ?_⟩ <;> omega)) ?_)
                                  refine hK37 _ ?_
                                  clear hK37 K37
                                  refine Wp.ret ?_
                                  simp only [thn, inB, retQ]
                                  clear hK20 K20
                                  refine ⟨_, [], rfl, Nat.zero_le _, by decide, by simp, ?_⟩
                                  simp only [go_sem, nl, Nat.mul_one, Nat.one_mul, Nat.reducePow, Nat.reduceAdd, Nat.reduceMul, Nat.reduceSub, Nat.reduceLeDiff, Nat.reduceEqDiff, Nat.reduceLT, reduceIte, Int.reduceToNat, Int.reduceLE, Int.reduceLT, reduceCtorEq, List.contains_cons, List.contains_nil, Nat.reduceBEq, Bool.or_false, Bool.false_or, Bool.or_true, Bool.true_or, forall_eq, forall_eq_or_imp, List.mem_cons, List.not_mem_nil, or_false, false_or]
                                  all_goals
                                    rw [hs]
                                    clear hs hn
                                    first
                                      | (simp_all [rule, isQ] <;> first | omega | (intros; omega))
                                      | (rw [rule_no (n := n) (by simp_all <;> omega)])
                              · simp only [go_sem, nl, Nat.mul_one, Nat.one_mul, Nat.reducePow, Nat.reduceAdd, Nat.reduceMul, Nat.reduceSub, Nat.reduceLeDiff, Nat.reduceEqDiff, Nat.reduceLT, reduceIte, Int.reduceToNat, Int.reduceLE, Int.reduceLT, reduceCtorEq, List.contains_cons, List.contains_nil, Nat.reduceBEq, Bool.or_false, Bool.false_or, Bool.or_true, Bool.true_or, forall_eq, forall_eq_or_imp, List.mem_cons, List.not_mem_nil, or_false, false_or]
                                repeat (refine And.intro (by first | omega | (refine ⟨?_, ?_⟩ <;> omega)) ?_)
                                refine hK37 _ ?_
                                clear hK37 K37
                                refine Wp.ret ?_
                                simp only [thn, inB, retQ]
                                clear hK20 K20
                                refine ⟨_, [], rfl, Nat.zero_le _, by decide, by simp, ?_⟩
                                simp only [go_sem, nl, Nat.mul_one, Nat.one_mul, Nat.reducePow, Nat.reduceAdd, Nat.reduceMul, Nat.reduceSub, Nat.reduceLeDiff, Nat.reduceEqDiff, Nat.reduceLT, reduceIte, Int.reduceToNat, Int.reduceLE, Int.reduceLT, reduceCtorEq, List.contains_cons, List.contains_nil, Nat.reduceBEq, Bool.or_false, Bool.false_or, Bool.or_true, Bool.true_or, forall_eq, forall_eq_or_imp, List.mem_cons, List.not_mem_nil, or_false, false_or]
                                all_goals
                                  rw [hs]
                                  clear hs hn
                                  first
                                    | (simp_all [rule, isQ] <;> first | omega | (intros; omega))
                                    | (rw [rule_no (n := n) (by simp_all <;> omega)])
                            · simp only [go_sem, nl, Nat.mul_one, Nat.one_mul, Nat.reducePow, Nat.reduceAdd, Nat.reduceMul, Nat.reduceSub, Nat.reduceLeDiff, Nat.reduceEqDiff, Nat.reduceLT, reduceIte, Int.reduceToNat, Int.reduceLE, Int.reduceLT, reduceCtorEq, List.contains_cons, List.contains_nil, Nat.reduceBEq, Bool.or_false, Bool.false_or, Bool.or_true, Bool.true_or, forall_eq, forall_eq_or_imp, List.mem_cons, List.not_mem_nil, or_false, false_or]
                              repeat (refine And.intro (by first | omega | (refine ⟨?_, ?_⟩ <;> omega)) ?_)
                              refine hK37 _ ?_
                              clear hK37 K37
                              refine Wp.ret ?_
                              simp only [thn, inB, retQ]
                              clear hK20 K20
                              refine ⟨_, [], rfl, Nat.zero_le _, by decide, by simp, ?_⟩
                              simp only [go_sem, nl, Nat.mul_one, Nat.one_mul, Nat.reducePow, Nat.reduceAdd, Nat.reduceMul, Nat.reduceSub, Nat.reduceLeDiff, Nat.reduceEqDiff, Nat.reduceLT, reduceIte, Int.reduceToNat, Int.reduceLE, Int.reduceLT, reduceCtorEq, List.contains_cons, List.contains_nil, Nat.reduceBEq, Bool.or_false, Bool.false_or, Bool.or_true, Bool.true_or, forall_eq, forall_eq_or_imp, List.mem_cons, List.not_mem_nil, or_false, false_or]
                              all_goals
                                rw [hs]
                                clear hs hn
                                first
                                  | (simp_all [rule, isQ] <;> first | omega | (intros; omega))
                                  | (rw [rule_no (n := n) (by simp_all <;> omega)])
                          · simp only [go_sem, nl, Nat.mul_one, Nat.one_mul, Nat.reducePow, Nat.reduceAdd, Nat.reduceMul, Nat.reduceSub, Nat.reduceLeDiff, Nat.reduceEqDiff, Nat.reduceLT, reduceIte, Int.reduceToNat, Int.reduceLE, Int.reduceLT, reduceCtorEq, List.contains_cons, List.contains_nil, Nat.reduceBEq, Bool.or_false, Bool.false_or, Bool.or_true, Bool.true_or, forall_eq, forall_eq_or_imp, List.mem_cons, List.not_mem_nil, or_false, false_or]
                            repeat (refine And.intro (by first | omega | (refine ⟨?_, ?_⟩ <;> omega)) ?_)
                            refine hK37 _ ?_
                            clear hK37 K37
                            refine Wp.ret ?_
                            simp only [thn, inB, retQ]
                            clear hK20 K20
                            refine ⟨_, [], rfl, Nat.zero_le _, by decide, by simp, ?_⟩
                            simp only [go_sem, nl, Nat.mul_one, Nat.one_mul, Nat.reducePow, Nat.reduceAdd, Nat.reduceMul, Nat.reduceSub, Nat.reduceLeDiff, Nat.reduceEqDiff, Nat.reduceLT, reduceIte, Int.reduceToNat, Int.reduceLE, Int.reduceLT, reduceCtorEq, List.contains_cons, List.contains_nil, Nat.reduceBEq, Bool.or_false, Bool.false_or, Bool.or_true, Bool.true_or, forall_eq, forall_eq_or_imp, List.mem_cons, List.not_mem_nil, or_false, false_or]
                            all_goals
                              rw [hs]
                              clear hs hn
                              first
                                | (simp_all [rule, isQ] <;> first | omega | (intros; omega))
                                | (rw [rule_no (n := n) (by simp_all <;> omega)])
                        · skip
                          refine Wp.skip ?_
                          try simp only [thn, inB, if_true, reduceIte]
                          refine hK20 _ ?_
                          clear hK20 K20
                          refine Wp.seqK fun K38 hK38 => ?_
                          refine Wp.regionS ?_
                          refine evc ?_
                          repeat (refine And.intro (by first | omega | (refine ⟨?_, ?_⟩ <;> omega)) ?_)
                          refine hK38 _ ?_
                          clear hK38 K38
                          refine Wp.ret ?_
                          simp only [thn, inB, retQ]
                          refine ⟨_, [], rfl, Nat.zero_le _, by decide, by simp, ?_⟩
                          simp only [go_sem, nl, Nat.mul_one, Nat.one_mul, Nat.reducePow, Nat.reduceAdd, Nat.reduceMul, Nat.reduceSub, Nat.reduceLeDiff, Nat.reduceEqDiff, Nat.reduceLT, reduceIte, Int.reduceToNat, Int.reduceLE, Int.reduceLT, reduceCtorEq, List.contains_cons, List.contains_nil, Nat.reduceBEq, Bool.or_false, Bool.false_or, Bool.or_true, Bool.true_or, forall_eq, forall_eq_or_imp, List.mem_cons, List.not_mem_nil, or_false, false_or]
                          all_goals
                            rw [hs]
                            clear hs hn
                            first
                              | (simp_all [rule, isQ] <;> first | omega | (intros; omega))
                              | (rw [rule_no (n := n) (by simp_all <;> omega)])
end Go.Proofs.YtkdkbnacelnljaaGreat.RE
