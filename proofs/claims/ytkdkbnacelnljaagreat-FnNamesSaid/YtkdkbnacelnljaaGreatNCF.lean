/- Prune, the reference. Conditions: those that a theorem names. -/
import Derived.Test.YtkdkbnacelnljaaGreatNCE
set_option linter.unusedVariables false
set_option linter.unusedSimpArgs false
namespace Go.Proofs.YtkdkbnacelnljaaGreat.RE
open Go Go.RowKit
set_option maxRecDepth 100000
set_option maxHeartbeats 8000000

def ra (pl : List Int) (n : Nd) : Int := if 0 < (parts n).length then pl.getD n.a.toNat 0 else n.a
def rb (pl : List Int) (n : Nd) : Int := if 1 < (parts n).length then pl.getD n.b.toNat 0 else n.b
def rc (pl : List Int) (n : Nd) : Int := if 2 < (parts n).length then pl.getD n.c.toNat 0 else n.c
def renum (pl : List Int) (n : Nd) : Nd := ⟨n.op, n.w, n.k, ra pl n, rb pl n, rc pl n⟩
def prn (t : List Nd) (is : List Bool) : Nat → List Int × List Nd
  | 0 => ([], [])
  | i + 1 => ((prn t is i).1 ++ [((prn t is i).2.length : Int)], if is.getD i false = true then (prn t is i).2 ++ [renum ((prn t is i).1 ++ [((prn t is i).2.length : Int)]) (t.getD i default)] else (prn t is i).2)
def pruneT (t : List Nd) : List Nd := if okT t = true then (prn t (reachT t) t.length).2 else []
theorem prn_len (t : List Nd) (is : List Bool) : ∀ i, (prn t is i).1.length = i ∧ (prn t is i).2.length ≤ i
  | 0 => ⟨rfl, Nat.le_refl _⟩
  | i + 1 => by
    obtain ⟨h1, h2⟩ := prn_len t is i
    refine ⟨by simp [prn, h1], ?_⟩
    simp only [prn]
    split
    · simp; omega
    · omega
theorem prn_no {t : List Nd} {is : List Bool} {i : Nat} {pl : List Int} {out : List Nd} (h : prn t is i = (pl, out)) (hb : is.getD i false = false) : prn t is (i + 1) = (pl ++ [(out.length : Int)], out) := by
  simp only [prn, h, hb, Bool.false_eq_true, if_false]
theorem prn_yes {t : List Nd} {is : List Bool} {i : Nat} {pl : List Int} {out : List Nd} (h : prn t is i = (pl, out)) (hb : is.getD i false = true) : prn t is (i + 1) = (pl ++ [(out.length : Int)], out ++ [renum (pl ++ [(out.length : Int)]) (t.getD i default)]) := by
  simp only [prn, h, hb, if_true]
theorem part_a {n : Nd} {i : Nat} (hp : ∀ p ∈ parts n, 0 ≤ p ∧ p < (i : Int)) (h : 0 < (parts n).length) : 0 ≤ n.a ∧ n.a < i := by
  apply hp
  unfold parts at h ⊢
  split
  · simp
  · split
    · simp
    · split
      · simp
      · simp_all
theorem part_b {n : Nd} {i : Nat} (hp : ∀ p ∈ parts n, 0 ≤ p ∧ p < (i : Int)) (h : 1 < (parts n).length) : 0 ≤ n.b ∧ n.b < i := by
  apply hp
  unfold parts at h ⊢
  split
  · simp_all
  · split
    · simp
    · split
      · simp
      · simp_all
theorem part_c {n : Nd} {i : Nat} (hp : ∀ p ∈ parts n, 0 ≤ p ∧ p < (i : Int)) (h : 2 < (parts n).length) : 0 ≤ n.c ∧ n.c < i := by
  apply hp
  unfold parts at h ⊢
  split
  · simp_all
  · split
    · simp_all
    · split
      · simp
      · simp_all
theorem sPrune_c (t : List Nd) : Row E.P 74 [dN t] 6 (pruneT t).length (lN (pruneT t)) := by
  refine CallsA.body (E := E) (fn := Tryz.f74) Tryz.func74 rfl fun B hB => ?_
  simp only [Tryz.ntmps74, go_sem, nl, Nat.mul_one, Nat.one_mul, Nat.reducePow, Nat.reduceAdd, Nat.reduceMul, Nat.reduceSub, Nat.reduceLeDiff, Nat.reduceEqDiff, Nat.reduceLT, reduceIte, Int.reduceToNat, Int.reduceLE, Int.reduceLT, reduceCtorEq, List.contains_cons, List.contains_nil, Nat.reduceBEq, Bool.or_false, Bool.false_or, Bool.or_true, Bool.true_or, forall_eq, forall_eq_or_imp, List.mem_cons, List.not_mem_nil, or_false, false_or, List.reduceReplicate]
  refine Wp.seqK fun K1 hK1 => ?_
  refine Wp.regionS ?_
  refine evc ?_
  repeat (refine And.intro (by first | omega | (refine ⟨?_, ?_⟩ <;> omega)) ?_)
  refine hK1 _ ?_
  clear hK1 K1
  refine Wp.seqK fun K2 hK2 => ?_
  refine Wp.regionS ?_
  refine evc ?_
  repeat (refine And.intro (by first | omega | (refine ⟨?_, ?_⟩ <;> omega)) ?_)
  refine hK2 _ ?_
  clear hK2 K2
  refine Wp.seqK fun K3 hK3 => ?_
  refine Wp.seqK fun K4 hK4 => ?_
  refine Wp.regionS ?_
  refine evc ?_
  repeat (refine And.intro (by first | omega | (refine ⟨?_, ?_⟩ <;> omega)) ?_)
  refine ⟨rfl, CallK.val [] LendOk.nil (sTermOk_c _) rfl ?_⟩
  refine evc ?_
  repeat (refine And.intro (by first | omega | (refine ⟨?_, ?_⟩ <;> omega)) ?_)
  refine hK4 _ ?_
  clear hK4 K4
  refine Wp.cond rfl (fun h12 => ?_) (fun h12 => ?_)
  · skip
    refine Wp.seqK fun K5 hK5 => ?_
    refine Wp.regionS ?_
    refine evc ?_
    repeat (refine And.intro (by first | omega | (refine ⟨?_, ?_⟩ <;> omega)) ?_)
    refine hK5 _ ?_
    clear hK5 K5
    refine Wp.ret ?_
    simp only [thn, inB, retQ]
    clear hK3 K3
    refine ⟨_, [0], rfl, Nat.zero_le _, by decide, by simp, ?_⟩
    rw [show pruneT t = [] from if_neg (by simp [nT h12])]
    exact ret_row (cs := []) rfl rfl
  · have hok := nF h12
    have hl := okT_len hok
    refine Wp.skip ?_
    refine hK3 _ ?_
    clear hK3 K3
    refine Wp.seqK fun K6 hK6 => ?_
    refine Wp.regionS ?_
    refine evc ?_
    repeat (refine And.intro (by first | omega | (refine ⟨?_, ?_⟩ <;> omega)) ?_)
    refine ⟨rfl, CallK.row [] LendOk.nil (l02Reach_c _ (by assumption) (by omega)) (flatB _) ?_⟩
    refine evc ?_
    repeat (refine And.intro (by first | omega | (refine ⟨?_, ?_⟩ <;> omega)) ?_)
    refine hK6 _ ?_
    clear hK6 K6
    refine Wp.seqK fun K7 hK7 => ?_
    refine Wp.regionS ?_
    refine evc ?_
    repeat (refine And.intro (by first | omega | (refine ⟨?_, ?_⟩ <;> omega)) ?_)
    refine hK7 _ ?_
    clear hK7 K7
    refine Wp.seqK fun K8 hK8 => ?_
    refine Wp.seqK fun K9 hK9 => ?_
    refine Wp.regionS ?_
    refine evc ?_
    repeat (refine And.intro (by first | omega | (refine ⟨?_, ?_⟩ <;> omega)) ?_)
    refine hK9 _ ?_
    clear hK9 K9
    refine Wp.block ?_
    skip
    refine Wp.loop (α := Nat) (fun x s => x ≤ t.length ∧ ∃ pl out, prn t (reachT t) x = (pl, out) ∧ pl.length = x ∧ out.length ≤ x ∧ ∃ f : Nat → AV, s = ⟨[dN t, f 1, f 2, .l (.obj 0 out.length 6 0 out.length), .l (.obj 1 0 1 0 t.length), .l (.obj 2 x 1 0 x), I x, f 7, f 8, f 9, f 10, f 11, f 12, f 13, f 14, f 15, f 16, f 17, f 18, f 19, f 20, f 21, f 22, f 23, f 24, f 25, f 26, f 27, f 28, f 29, f 30, f 31, f 32, f 33, f 34, f 35, f 36, f 37, f 38, f 39, f 40, f 41, f 42, f 43, f 44, f 45, f 46, f 47, f 48, f 49, f 50, f 51, f 52, f 53, f 54, f 55, f 56, f 57, f 58, f 59, f 60, f 61, f 62, f 63, f 64, f 65, f 66, f 67, f 68, f 69, f 70], [some ⟨out.length, lN out⟩, some ⟨0, (reachT t).map cb⟩, some ⟨x, pl.map ci⟩]⟩) (fun x => t.length - x) 0 ⟨Nat.zero_le _, [], [], rfl, rfl, Nat.le_refl _, anyT rfl rfl⟩ ?_
    rintro x _ ⟨hx, pl, out, hpr, hpl, hol, f, rfl⟩
    refine Wp.seqK fun K10 hK10 => ?_
    refine Wp.seqK fun K11 hK11 => ?_
    refine Wp.regionS ?_
    refine evc ?_
    repeat (refine And.intro (by first | omega | (refine ⟨?_, ?_⟩ <;> omega)) ?_)
    refine hK11 _ ?_
    clear hK11 K11
    refine Wp.cond rfl (fun h20 => ?_) (fun h20 => ?_)
    · have hxl : x < t.length := by simpa using h20
      refine Wp.skip ?_
      refine hK10 _ ?_
      clear hK10 K10
      refine Wp.seqK fun K12 hK12 => ?_
      refine Wp.block ?_
      refine Wp.seqK fun K13 hK13 => ?_
      refine Wp.regionS ?_
      simp only [go_sem, hpl, List.length_nil, encN_len, lN_len, List.length_drop, List.length_map, List.length_take, List.length_append, Int.toNat_natCast, nl, Nat.mul_one, Nat.one_mul, Nat.reducePow, Nat.reduceAdd, Nat.reduceMul, Nat.reduceSub, Nat.reduceLeDiff, Nat.reduceEqDiff, Nat.reduceLT, reduceIte, Int.reduceToNat, Int.reduceLE, Int.reduceLT, reduceCtorEq, List.contains_cons, List.contains_nil, Nat.reduceBEq, Bool.or_false, Bool.false_or, Bool.or_true, Bool.true_or, forall_eq, forall_eq_or_imp, List.mem_cons, List.not_mem_nil, or_false, false_or]
      repeat (refine And.intro (by first | omega | (refine ⟨?_, ?_⟩ <;> omega)) ?_)
      rw [pushI _ x hpl]
      refine hK13 _ ?_
      clear hK13 K13
      refine Wp.seqK fun K14 hK14 => ?_
      refine Wp.seqK fun K15 hK15 => ?_
      refine Wp.regionS ?_
      simp only [go_sem, atB (show x < (reachT t).length by rw [reachT_len]; omega), reachT_len, encN_len, lN_len, List.length_drop, List.length_map, List.length_take, List.length_append, Int.toNat_natCast, nl, Nat.mul_one, Nat.one_mul, Nat.reducePow, Nat.reduceAdd, Nat.reduceMul, Nat.reduceSub, Nat.reduceLeDiff, Nat.reduceEqDiff, Nat.reduceLT, reduceIte, Int.reduceToNat, Int.reduceLE, Int.reduceLT, reduceCtorEq, List.contains_cons, List.contains_nil, Nat.reduceBEq, Bool.or_false, Bool.false_or, Bool.or_true, Bool.true_or, forall_eq, forall_eq_or_imp, List.mem_cons, List.not_mem_nil, or_false, false_or]
      repeat (refine And.intro (by first | omega | (refine ⟨?_, ?_⟩ <;> omega)) ?_)
      refine hK15 _ ?_
      clear hK15 K15
      refine Wp.cond rfl (fun h32 => ?_) (fun h32 => ?_)
      · have hb := nT h32
        refine Wp.exit ?_
        simp only [thn, inB, if_true, reduceIte]
        clear hK14 K14
        refine hK12 _ ?_
        clear hK12 K12
        refine Wp.keep 3 (by simp [hB]) (by simp) ?_
        simp only [go_sem, renI, renB, renN, renn, nl, Nat.mul_one, Nat.one_mul, Nat.reducePow, Nat.reduceAdd, Nat.reduceMul, Nat.reduceSub, Nat.reduceLeDiff, Nat.reduceEqDiff, Nat.reduceLT, reduceIte, Int.reduceToNat, Int.reduceLE, Int.reduceLT, reduceCtorEq, List.contains_cons, List.contains_nil, Nat.reduceBEq, Bool.or_false, Bool.false_or, Bool.or_true, Bool.true_or, forall_eq, forall_eq_or_imp, List.mem_cons, List.not_mem_nil, or_false, false_or]
        refine Wp.regionS ?_
        refine evc ?_
        repeat (refine And.intro (by first | omega | (refine ⟨?_, ?_⟩ <;> omega)) ?_)
        rw [up (by omega)]
        first
          | exact ⟨x + 1, ⟨by omega, _, _, prn_no hpr hb, by simp [hpl], by omega, anyT rfl rfl⟩, by omega⟩
          | (refine ⟨x + 1, ⟨by omega, _, _, prn_yes hpr hb, by simp [hpl], by simp; omega, ?_⟩, by omega⟩
             simp only [List.length_append, List.length_cons, List.length_nil, Nat.zero_add]
             exact anyT rfl rfl)
      · have hb := nF h32
        have hp := okT_part hok hxl
        have hpn := parts_len (t.getD x default)
        refine Wp.skip ?_
        refine hK14 _ ?_
        clear hK14 K14
        refine Wp.seqK fun K16 hK16 => ?_
        refine Wp.regionS ?_
        simp only [go_sem, atN _ hxl, encN_len, lN_len, List.length_drop, List.length_map, List.length_take, List.length_append, Int.toNat_natCast, nl, Nat.mul_one, Nat.one_mul, Nat.reducePow, Nat.reduceAdd, Nat.reduceMul, Nat.reduceSub, Nat.reduceLeDiff, Nat.reduceEqDiff, Nat.reduceLT, reduceIte, Int.reduceToNat, Int.reduceLE, Int.reduceLT, reduceCtorEq, List.contains_cons, List.contains_nil, Nat.reduceBEq, Bool.or_false, Bool.false_or, Bool.or_true, Bool.true_or, forall_eq, forall_eq_or_imp, List.mem_cons, List.not_mem_nil, or_false, false_or]
        repeat (refine And.intro (by first | omega | (refine ⟨?_, ?_⟩ <;> omega)) ?_)
        refine hK16 _ ?_
        clear hK16 K16
        refine Wp.seqK fun K17 hK17 => ?_
        refine Wp.regionS ?_
        refine evc ?_
        repeat (refine And.intro (by first | omega | (refine ⟨?_, ?_⟩ <;> omega)) ?_)
        refine ⟨rfl, CallK.row [] LendOk.nil (sParts_c _) (flatI _) ?_⟩
        refine evc ?_
        repeat (refine And.intro (by first | omega | (refine ⟨?_, ?_⟩ <;> omega)) ?_)
        refine hK17 _ ?_
        clear hK17 K17
        refine Wp.seqM (fun s => ∃ f : Nat → AV, s = ⟨[dN t, f 1, f 2, .l (.obj 0 out.length 6 0 out.length), .l (.obj 1 0 1 0 t.length), .l (.obj 2 (x + 1) 1 0 (x + 1)), I x, .l (.ptr 4 0 0), .l (.obj 5 0 1 0 (parts (t.getD x default)).length), f 9, f 10, f 11, f 12, f 13, f 14, f 15, f 16, f 17, f 18, f 19, f 20, f 21, f 22, f 23, f 24, f 25, f 26, f 27, f 28, f 29, f 30, f 31, f 32, f 33, f 34, f 35, f 36, f 37, f 38, f 39, f 40, f 41, f 42, f 43, f 44, f 45, f 46, f 47, f 48, f 49, f 50, f 51, f 52, f 53, f 54, f 55, f 56, f 57, f 58, f 59, f 60, f 61, f 62, f 63, f 64, f 65, f 66, f 67, f 68, f 69, f 70], [some ⟨out.length, lN out⟩, some ⟨0, (reachT t).map cb⟩, some ⟨x + 1, (pl ++ [(out.length : Int)]).map ci⟩, some ⟨0, [ci out.length]⟩, some ⟨0, nl ⟨(t.getD x default).op, (t.getD x default).w, (t.getD x default).k, (ra (pl ++ [(out.length : Int)]) (t.getD x default)), (t.getD x default).b, (t.getD x default).c⟩⟩, some ⟨0, (parts (t.getD x default)).map ci⟩]⟩) ?_ ?_
        · refine Wp.seqK fun K18 hK18 => ?_
          refine Wp.regionS ?_
          refine evc ?_
          repeat (refine And.intro (by first | omega | (refine ⟨?_, ?_⟩ <;> omega)) ?_)
          refine hK18 _ ?_
          clear hK18 K18
          refine Wp.cond rfl (fun h41 => ?_) (fun h41 => ?_)
          · have hka : 0 < (parts (t.getD x default)).length := by have := of_decide_eq_true h41; omega
            have hqa := part_a hp hka
            refine Wp.regionS ?_
            simp only [go_sem, atI (show (t.getD x default).a.toNat < (pl ++ [(out.length : Int)]).length by rw [List.length_append, hpl]; simp only [List.length_cons, List.length_nil]; omega), hpl, List.length_cons, List.length_nil, encN_len, lN_len, List.length_drop, List.length_map, List.length_take, List.length_append, Int.toNat_natCast, nl, Nat.mul_one, Nat.one_mul, Nat.reducePow, Nat.reduceAdd, Nat.reduceMul, Nat.reduceSub, Nat.reduceLeDiff, Nat.reduceEqDiff, Nat.reduceLT, reduceIte, Int.reduceToNat, Int.reduceLE, Int.reduceLT, reduceCtorEq, List.contains_cons, List.contains_nil, Nat.reduceBEq, Bool.or_false, Bool.false_or, Bool.or_true, Bool.true_or, forall_eq, forall_eq_or_imp, List.mem_cons, List.not_mem_nil, or_false, false_or]
            repeat (refine And.intro (by first | omega | (refine ⟨?_, ?_⟩ <;> omega)) ?_)
            try simp only [thn, inB, if_true, reduceIte]
            rw [show ra (pl ++ [(out.length : Int)]) (t.getD x default) = (pl ++ [(out.length : Int)]).getD (t.getD x default).a.toNat 0 from if_pos hka]
            exact anyT rfl rfl
          · have hka : ¬ 0 < (parts (t.getD x default)).length := by have := of_decide_eq_false h41; omega
            refine Wp.skip ?_
            try simp only [thn, inB, if_true, reduceIte]
            rw [show ra (pl ++ [(out.length : Int)]) (t.getD x default) = (t.getD x default).a from if_neg hka]
            exact anyT rfl rfl
        rintro _ ⟨f, rfl⟩
        refine Wp.seqM (fun s => ∃ f : Nat → AV, s = ⟨[dN t, f 1, f 2, .l (.obj 0 out.length 6 0 out.length), .l (.obj 1 0 1 0 t.length), .l (.obj 2 (x + 1) 1 0 (x + 1)), I x, .l (.ptr 4 0 0), .l (.obj 5 0 1 0 (parts (t.getD x default)).length), f 9, f 10, f 11, f 12, f 13, f 14, f 15, f 16, f 17, f 18, f 19, f 20, f 21, f 22, f 23, f 24, f 25, f 26, f 27, f 28, f 29, f 30, f 31, f 32, f 33, f 34, f 35, f 36, f 37, f 38, f 39, f 40, f 41, f 42, f 43, f 44, f 45, f 46, f 47, f 48, f 49, f 50, f 51, f 52, f 53, f 54, f 55, f 56, f 57, f 58, f 59, f 60, f 61, f 62, f 63, f 64, f 65, f 66, f 67, f 68, f 69, f 70], [some ⟨out.length, lN out⟩, some ⟨0, (reachT t).map cb⟩, some ⟨x + 1, (pl ++ [(out.length : Int)]).map ci⟩, some ⟨0, [ci out.length]⟩, some ⟨0, nl ⟨(t.getD x default).op, (t.getD x default).w, (t.getD x default).k, (ra (pl ++ [(out.length : Int)]) (t.getD x default)), (rb (pl ++ [(out.length : Int)]) (t.getD x default)), (t.getD x default).c⟩⟩, some ⟨0, (parts (t.getD x default)).map ci⟩]⟩) ?_ ?_
        · refine Wp.seqK fun K19 hK19 => ?_
          refine Wp.regionS ?_
          refine evc ?_
          repeat (refine And.intro (by first | omega | (refine ⟨?_, ?_⟩ <;> omega)) ?_)
          refine hK19 _ ?_
          clear hK19 K19
          refine Wp.cond rfl (fun h50 => ?_) (fun h50 => ?_)
          · have hkb : 1 < (parts (t.getD x default)).length := by have := of_decide_eq_true h50; omega
            have hqb := part_b hp hkb
            refine Wp.regionS ?_
            simp only [go_sem, atI (show (t.getD x default).b.toNat < (pl ++ [(out.length : Int)]).length by rw [List.length_append, hpl]; simp only [List.length_cons, List.length_nil]; omega), hpl, List.length_cons, List.length_nil, encN_len, lN_len, List.length_drop, List.length_map, List.length_take, List.length_append, Int.toNat_natCast, nl, Nat.mul_one, Nat.one_mul, Nat.reducePow, Nat.reduceAdd, Nat.reduceMul, Nat.reduceSub, Nat.reduceLeDiff, Nat.reduceEqDiff, Nat.reduceLT, reduceIte, Int.reduceToNat, Int.reduceLE, Int.reduceLT, reduceCtorEq, List.contains_cons, List.contains_nil, Nat.reduceBEq, Bool.or_false, Bool.false_or, Bool.or_true, Bool.true_or, forall_eq, forall_eq_or_imp, List.mem_cons, List.not_mem_nil, or_false, false_or]
            repeat (refine And.intro (by first | omega | (refine ⟨?_, ?_⟩ <;> omega)) ?_)
            try simp only [thn, inB, if_true, reduceIte]
            rw [show rb (pl ++ [(out.length : Int)]) (t.getD x default) = (pl ++ [(out.length : Int)]).getD (t.getD x default).b.toNat 0 from if_pos hkb]
            exact anyT rfl rfl
          · have hkb : ¬ 1 < (parts (t.getD x default)).length := by have := of_decide_eq_false h50; omega
            refine Wp.skip ?_
            try simp only [thn, inB, if_true, reduceIte]
            rw [show rb (pl ++ [(out.length : Int)]) (t.getD x default) = (t.getD x default).b from if_neg hkb]
            exact anyT rfl rfl
        rintro _ ⟨f, rfl⟩
        refine Wp.seqM (fun s => ∃ f : Nat → AV, s = ⟨[dN t, f 1, f 2, .l (.obj 0 out.length 6 0 out.length), .l (.obj 1 0 1 0 t.length), .l (.obj 2 (x + 1) 1 0 (x + 1)), I x, .l (.ptr 4 0 0), .l (.obj 5 0 1 0 (parts (t.getD x default)).length), f 9, f 10, f 11, f 12, f 13, f 14, f 15, f 16, f 17, f 18, f 19, f 20, f 21, f 22, f 23, f 24, f 25, f 26, f 27, f 28, f 29, f 30, f 31, f 32, f 33, f 34, f 35, f 36, f 37, f 38, f 39, f 40, f 41, f 42, f 43, f 44, f 45, f 46, f 47, f 48, f 49, f 50, f 51, f 52, f 53, f 54, f 55, f 56, f 57, f 58, f 59, f 60, f 61, f 62, f 63, f 64, f 65, f 66, f 67, f 68, f 69, f 70], [some ⟨out.length, lN out⟩, some ⟨0, (reachT t).map cb⟩, some ⟨x + 1, (pl ++ [(out.length : Int)]).map ci⟩, some ⟨0, [ci out.length]⟩, some ⟨0, nl ⟨(t.getD x default).op, (t.getD x default).w, (t.getD x default).k, (ra (pl ++ [(out.length : Int)]) (t.getD x default)), (rb (pl ++ [(out.length : Int)]) (t.getD x default)), (rc (pl ++ [(out.length : Int)]) (t.getD x default))⟩⟩, some ⟨0, (parts (t.getD x default)).map ci⟩]⟩) ?_ ?_
        · refine Wp.seqK fun K20 hK20 => ?_
          refine Wp.regionS ?_
          refine evc ?_
          repeat (refine And.intro (by first | omega | (refine ⟨?_, ?_⟩ <;> omega)) ?_)
          refine hK20 _ ?_
          clear hK20 K20
          refine Wp.cond rfl (fun h59 => ?_) (fun h59 => ?_)
          · have hkc : 2 < (parts (t.getD x default)).length := by have := of_decide_eq_true h59; omega
            have hqc := part_c hp hkc
            refine Wp.regionS ?_
            simp only [go_sem, atI (show (t.getD x default).c.toNat < (pl ++ [(out.length : Int)]).length by rw [List.length_append, hpl]; simp only [List.length_cons, List.length_nil]; omega), hpl, List.length_cons, List.length_nil, encN_len, lN_len, List.length_drop, List.length_map, List.length_take, List.length_append, Int.toNat_natCast, nl, Nat.mul_one, Nat.one_mul, Nat.reducePow, Nat.reduceAdd, Nat.reduceMul, Nat.reduceSub, Nat.reduceLeDiff, Nat.reduceEqDiff, Nat.reduceLT, reduceIte, Int.reduceToNat, Int.reduceLE, Int.reduceLT, reduceCtorEq, List.contains_cons, List.contains_nil, Nat.reduceBEq, Bool.or_false, Bool.false_or, Bool.or_true, Bool.true_or, forall_eq, forall_eq_or_imp, List.mem_cons, List.not_mem_nil, or_false, false_or]
            repeat (refine And.intro (by first | omega | (refine ⟨?_, ?_⟩ <;> omega)) ?_)
            try simp only [thn, inB, if_true, reduceIte]
            rw [show rc (pl ++ [(out.length : Int)]) (t.getD x default) = (pl ++ [(out.length : Int)]).getD (t.getD x default).c.toNat 0 from if_pos hkc]
            exact anyT rfl rfl
          · have hkc : ¬ 2 < (parts (t.getD x default)).length := by have := of_decide_eq_false h59; omega
            refine Wp.skip ?_
            try simp only [thn, inB, if_true, reduceIte]
            rw [show rc (pl ++ [(out.length : Int)]) (t.getD x default) = (t.getD x default).c from if_neg hkc]
            exact anyT rfl rfl
        rintro _ ⟨f, rfl⟩
        refine Wp.regionS ?_
        simp only [go_sem, List.length_nil, encN_len, lN_len, List.length_drop, List.length_map, List.length_take, List.length_append, Int.toNat_natCast, nl, Nat.mul_one, Nat.one_mul, Nat.reducePow, Nat.reduceAdd, Nat.reduceMul, Nat.reduceSub, Nat.reduceLeDiff, Nat.reduceEqDiff, Nat.reduceLT, reduceIte, Int.reduceToNat, Int.reduceLE, Int.reduceLT, reduceCtorEq, List.contains_cons, List.contains_nil, Nat.reduceBEq, Bool.or_false, Bool.false_or, Bool.or_true, Bool.true_or, forall_eq, forall_eq_or_imp, List.mem_cons, List.not_mem_nil, or_false, false_or]
        repeat (refine And.intro (by first | omega | (refine ⟨?_, ?_⟩ <;> omega)) ?_)
        rw [show List.take (out.length * 6) (lN out) ++ [LV.sc (.int .i64 (t.getD x default).op), .sc (.int .i64 (t.getD x default).w), .sc (.int .i64 (t.getD x default).k), .sc (.int .i64 (ra (pl ++ [(out.length : Int)]) (t.getD x default))), .sc (.int .i64 (rb (pl ++ [(out.length : Int)]) (t.getD x default))), .sc (.int .i64 (rc (pl ++ [(out.length : Int)]) (t.getD x default)))] = lN (out ++ [renum (pl ++ [(out.length : Int)]) (t.getD x default)]) from pushL _ _ rfl (renum (pl ++ [(out.length : Int)]) (t.getD x default))]
        try simp only [thn, inB, if_true, reduceIte]
        refine hK12 _ ?_
        clear hK12 K12
        refine Wp.keep 3 (by simp [hB]) (by simp) ?_
        simp only [go_sem, renI, renB, renN, renn, nl, Nat.mul_one, Nat.one_mul, Nat.reducePow, Nat.reduceAdd, Nat.reduceMul, Nat.reduceSub, Nat.reduceLeDiff, Nat.reduceEqDiff, Nat.reduceLT, reduceIte, Int.reduceToNat, Int.reduceLE, Int.reduceLT, reduceCtorEq, List.contains_cons, List.contains_nil, Nat.reduceBEq, Bool.or_false, Bool.false_or, Bool.or_true, Bool.true_or, forall_eq, forall_eq_or_imp, List.mem_cons, List.not_mem_nil, or_false, false_or]
        refine Wp.regionS ?_
        refine evc ?_
        repeat (refine And.intro (by first | omega | (refine ⟨?_, ?_⟩ <;> omega)) ?_)
        rw [up (by omega)]
        first
          | exact ⟨x + 1, ⟨by omega, _, _, prn_no hpr hb, by simp [hpl], by omega, anyT rfl rfl⟩, by omega⟩
          | (refine ⟨x + 1, ⟨by omega, _, _, prn_yes hpr hb, by simp [hpl], by simp; omega, ?_⟩, by omega⟩
             simp only [List.length_append, List.length_cons, List.length_nil, Nat.zero_add]
             exact anyT rfl rfl)
    · have hxl : x = t.length := by
        have : ¬ x < t.length := by simpa using h20
        omega
      subst hxl
      refine Wp.exit ?_
      simp only [thn, inB, if_true, reduceIte]
      clear hK10 K10
      refine hK8 _ ?_
      clear hK8 K8
      refine Wp.seqK fun K21 hK21 => ?_
      refine Wp.regionS ?_
      refine evc ?_
      repeat (refine And.intro (by first | omega | (refine ⟨?_, ?_⟩ <;> omega)) ?_)
      refine hK21 _ ?_
      clear hK21 K21
      refine Wp.ret ?_
      simp only [thn, inB, retQ]
      refine ⟨_, [0], rfl, Nat.zero_le _, by decide, by simp, ?_⟩
      rw [show pruneT t = out by unfold pruneT; rw [if_pos hok, hpr]]
      exact ret_row rfl (lN_flat _)
end Go.Proofs.YtkdkbnacelnljaaGreat.RE
