/- A machine runs, the program. Conditions: those that a theorem names. -/
import Derived.Test.YtonacngeaknlcaaGreatDoorM3
set_option linter.unusedVariables false
set_option linter.unusedSimpArgs false
namespace Go.Proofs.YtonacngeaknlcaaGreatDoor.RE
open Go Go.RowKit
set_option maxRecDepth 100000
set_option maxHeartbeats 8000000

def keepX (n : Nat) (ob : Obs) (g o : Nat) : Nat → List Nat → Option (Nat × Nat)
  | _, [] => none
  | i, q :: π => if o = q then (match ob.getD q none with
    | some x => if x.g = g then some (n + i, 0) else none
    | none => none) else keepX n ob g o (i + 1) π
theorem keepX_nil {n : Nat} {ob : Obs} {g o i : Nat} : keepX n ob g o i [] = none := rfl
theorem keepX_cons {n : Nat} {ob : Obs} {g o i q : Nat} {π : List Nat} : keepX n ob g o i (q :: π) = if o = q then (match ob.getD q none with
    | some x => if x.g = g then some (n + i, 0) else none
    | none => none) else keepX n ob g o (i + 1) π := rfl
theorem keepX_eq {n : Nat} {ob : Obs} {g o : Nat} : ∀ (π : List Nat) (k : Nat), keepX n ob g o k π = (match π.idxOf? o, ob.getD o none with
    | some i, some x => if x.g = g then some (n + (k + i), 0) else none
    | _, _ => none)
  | [], k => by simp [keepX]
  | q :: π, k => by
    rw [keepX_cons]
    by_cases h : o = q
    · subst h
      rw [if_pos rfl]
      simp only [List.idxOf?, List.findIdx?_cons, beq_self_eq_true, if_true]
      cases ob.getD o none <;> rfl
    · rw [if_neg h, keepX_eq π (k + 1)]
      have e : (q :: π).idxOf? o = (π.idxOf? o).map (· + 1) := by
        simp only [List.idxOf?, List.findIdx?_cons]
        rw [if_neg (by simpa using fun e => h e.symm)]
      rw [e]
      cases π.idxOf? o with
      | none => rfl
      | some i =>
        simp only [Option.map_some]
        cases ob.getD o none with
        | none => rfl
        | some x => simp only [show k + 1 + i = k + (i + 1) by omega]
theorem keepM_l {n : Nat} {π : List Nat} {ob : Obs} {o g : Nat} : keepM n π ob o g = if o < n then some (o, g) else keepX n ob g o 0 π := by
  unfold keepM
  split
  · rfl
  · rw [keepX_eq]
    simp only [Nat.zero_add]
    cases π.idxOf? o <;> cases ob.getD o none <;> rfl
attribute [go_sem] keepM_l keepX_cons keepX_nil
/-- A machine in rows of one's own is lent. -/
theorem argG {ob : Obs} {L : Lend} {a b c : Nat} {G : Gh} {m : Mc} (e1 : ob.getD a none = some ⟨G.gr, m.row.map cb⟩) (e2 : ob.getD b none = some ⟨G.gv, (m.vals ++ G.jv).map ci⟩) (e3 : ob.getD c none = some ⟨G.gm, lS (G.pm ++ m.memo)⟩)
    (l1 : lk L a G.gr = some (encB m.row)) (l2 : lk L b G.gv = some (encI (m.vals ++ G.jv))) (l3 : lk L c G.gm = some (encS (G.pm ++ m.memo))) :
    ArgsL ob L [.agg (mCl a b c G m)] [.agg (mD m)] [(a, G.gr, encB m.row), (b, G.gv, encI (m.vals ++ G.jv)), (c, G.gm, encS (G.pm ++ m.memo))] := by
  refine .agg .nil ?_
  unfold mCl mD mCells
  refine .row e1 (lB_encB _ false).symm (by rw [List.drop_zero, Nat.mul_one, List.take_of_length_le (by rw [encB_len]; exact Nat.le_refl _)]) l1 ?_
  refine .same rfl (.same rfl (.same rfl ?_))
  refine .row e2 (lI_encI _ false).symm (by rw [List.drop_zero, Nat.mul_one, encV_take]) l2 ?_
  refine .same rfl (.same rfl (.same rfl (.same rfl (.same rfl ?_))))
  refine .row e3 (lS_encS _ false).symm (by rw [encM_mid]) l3 ?_
  exact .nil
theorem tick_right {m : Mc} (h : RightM m) (hs : stuckM m = false) : RightM (tickM m) := by
  obtain ⟨h1, h2, h3, h4⟩ := stuck_no (m := m) (by rw [hs]; simp)
  have b1 := h.steps
  exact { h with steps := ⟨by show 0 ≤ m.steps + 1; omega, by show m.steps + 1 ≤ _; omega⟩ }
theorem step_c (m : Mc) (G : Gh) (hR : RightM m) : CallsA E.P 117 [.l (.ptr 0 0 0)] (mOb G m) (QM (stepM m) (T (!stuckM m))) := by
  refine CallsA.body (E := E) (fn := Tryz.f117) Tryz.func117 rfl fun B hB => ?_
  simp only [Tryz.ntmps117, go_sem, nl, Nat.reduceSub, Nat.reduceAdd, List.reduceReplicate]
  have hst := hR.steps
  have hlo := hR.looks
  have hhi := hR.hits
  refine Wp.seqK fun K1 hK1 => ?_
  refine rg ?_
  refine hK1 _ ?_
  clear hK1 K1
  refine Wp.seqK fun K2 hK2 => ?_
  refine Wp.seqU0 [.k, .d5, .d5, .d5, .d5, .d5, .d, .v (T (stuckM m)), .d5, .d5, .d5, .d] (fun K3 hK3 => ?_) ?_
  · refine rg ?_
    refine grdA_split rfl (fun g1_5 => ?_) (fun g1_5 => ?_)
    · try simp only [decide_eq_true_eq, decide_eq_false_iff_not] at g1_5
      try refine evd ?_
      have e : stuckM m = true := by unfold stuckM; simp [g1_5]
      exact hK3 _ (anyS (h := by rw [e]; rfl))
    · try simp only [decide_eq_true_eq, decide_eq_false_iff_not] at g1_5
      try refine evd ?_
      refine grdA_split rfl (fun g1_12 => ?_) (fun g1_12 => ?_)
      · try simp only [decide_eq_true_eq, decide_eq_false_iff_not] at g1_12
        try refine evd ?_
        have e : stuckM m = true := by unfold stuckM; simp [g1_12]
        exact hK3 _ (anyS (h := by rw [e]; rfl))
      · try simp only [decide_eq_true_eq, decide_eq_false_iff_not] at g1_12
        try refine evd ?_
        refine grdA_split rfl (fun g1_19 => ?_) (fun g1_19 => ?_)
        · try simp only [decide_eq_true_eq, decide_eq_false_iff_not] at g1_19
          try refine evd ?_
          have e : stuckM m = true := by unfold stuckM; simp [g1_19]
          exact hK3 _ (anyS (h := by rw [e]; rfl))
        · try simp only [decide_eq_true_eq, decide_eq_false_iff_not] at g1_19
          try refine evd ?_
          have e : stuckM m = decide (m.hits = 1000000000) := by unfold stuckM; simp [g1_5, g1_12, g1_19]
          exact hK3 _ (anyS (h := by rw [e]; rfl))
  rintro f3
  simp only [updT_k, updT_d, updT_d5, updT_v, updT_nil, Nat.reduceAdd]
  refine Wp.condS (fun h27 => ?_) (fun h27 => ?_)
  · have hd : stepM m = m := if_pos h27
    refine Wp.seqK fun K4 hK4 => ?_
    refine rg ?_
    refine hK4 _ ?_
    clear hK4 K4
    refine Wp.ret (retE (m := 4) (Q := QM (stepM m) (T (!stuckM m))) (x' := T false) (ob' := mOb G m) ⟨G, by rw [h27]; rfl, by rw [hd]⟩ ?_ (hi := mOb_shut _ _))
    rfl
  · have hns := stuck_no (m := m) (by rw [h27]; simp)
    have hRt := tick_right hR h27
    have hns2 : ¬ stuckM m = true := by rw [h27]; simp
    refine Wp.skip ?_
    refine hK2 _ ?_
    clear hK2 K2
    refine Wp.seqK fun K5 hK5 => ?_
    refine rg ?_
    refine hK5 _ ?_
    clear hK5 K5
    refine Wp.seqU (α := Gh) (fun x => [.d5, .d5, .d5, .d5, .d5, .d5, .d5, .d5, .d, .d, .d, .d]) (fun x => mOb x (stepM m)) (fun x => True) (fun K6 hK6 => ?_) ?_
    · refine Wp.seqK fun K7 hK7 => ?_
      refine rg ?_
      refine hK7 _ ?_
      clear hK7 K7
      refine Wp.condS (fun h39 => ?_) (fun h39 => ?_)
      · have hd : stepM m = downM (tickM m) := by unfold stepM; rw [if_neg hns2, if_pos h39]
        refine rg ?_
        refine ⟨by first | rfl | decide, CallK.handE 4 (down_c (tickM m) G hRt (by show m.looks < _; omega) (by show m.hits < _; omega)) (fun r ob1 ⟨G2, e1, e2⟩ => ⟨mOb G2 (downM (tickM m)), [], by rw [e2, List.append_nil], rfl, mOb_shut _ _, ?_⟩) (hs := mOb_shut _ _)⟩
        subst e1
        refine evd ?_
        exact hK6 G2 _ trivial (anyS (ho := by rw [hd]; rfl))
      · have hd : stepM m = upM (tickM m) := by unfold stepM; rw [if_neg hns2, if_neg (by omega)]
        refine rg ?_
        refine ⟨by first | rfl | decide, CallK.handE 4 (up_c (tickM m) G hRt) (fun r ob1 ⟨G2, e1, e2⟩ => ⟨mOb G2 (upM (tickM m)), [], by rw [e2, List.append_nil], rfl, mOb_shut _ _, ?_⟩) (hs := mOb_shut _ _)⟩
        subst e1
        refine evd ?_
        exact hK6 G2 _ trivial (anyS (ho := by rw [hd]; rfl))
    rintro G3 f6 _
    simp only [updT_k, updT_d, updT_d5, updT_v, updT_nil, Nat.reduceAdd]
    refine Wp.seqK fun K8 hK8 => ?_
    refine rg ?_
    refine hK8 _ ?_
    clear hK8 K8
    refine Wp.ret (retE (m := 4) (Q := QM (stepM m) (T (!stuckM m))) (x' := T true) (ob' := mOb G3 (stepM m)) ⟨G3, by rw [h27]; rfl, rfl⟩ ?_ (hi := mOb_shut _ _))
    rfl

def okR (n : Int) (m : Mc) : Bool := inI n 0 100000 && mOk m
def runN (m : Mc) (n : Int) : Mc := if okR n m = true then runM n.toNat m else m
theorem runM_row : ∀ (n : Nat) (m : Mc), (runM n m).row = m.row ∧ (runM n m).n = m.n ∧ (runM n m).ones = m.ones ∧ (runM n m).room = m.room
  | 0, m => ⟨rfl, rfl, rfl, rfl⟩
  | n + 1, m => by
    have h := runM_row n (stepM m)
    have e : (stepM m).row = m.row ∧ (stepM m).n = m.n ∧ (stepM m).ones = m.ones ∧ (stepM m).room = m.room := by
      unfold stepM
      split
      · exact ⟨rfl, rfl, rfl, rfl⟩
      split
      · unfold downM
        split
        · exact ⟨rfl, rfl, rfl, rfl⟩
        · split <;> exact ⟨rfl, rfl, rfl, rfl⟩
      · unfold upM
        split
        · exact ⟨rfl, rfl, rfl, rfl⟩
        · split
          · exact ⟨rfl, rfl, rfl, rfl⟩
          · unfold storeM
            split <;> exact ⟨rfl, rfl, rfl, rfl⟩
    rw [runM, h.1, h.2.1, h.2.2.1, h.2.2.2]
    exact e
theorem right_fits {m : Mc} (h : RightM m) : m.row.length ≤ 1048576 ∧ m.vals.length ≤ 1048576 ∧ m.memo.length ≤ 1048576 := by
  have h1 := h.n
  have h2 := h.row
  have h3 := h.vals
  have h4 := h.memo
  have h5 := h.room
  omega
theorem run_end {m : Mc} {x k : Nat} (hx : x ≤ k) (hs : stuckM (runM x m) = true) : stepM (runM x m) = runM k m := by
  have e1 : stepM (runM x m) = runM x m := if_pos hs
  rw [e1, show k = x + (k - x) by omega, runM_add, runM_stuck hs]
theorem iRun_c (m : Mc) (n : Int) (hf : m.Fits) : Ret E.P 69 [.agg (mD m), I n] (.agg (mO 0 1 2 (runN m n))) (mR (runN m n)) := by
  refine CallsA.body (E := E) (fn := Tryz.f69) Tryz.func69 rfl fun B hB => ?_
  simp only [Tryz.ntmps69, go_sem, nl, Nat.reduceSub, Nat.reduceAdd, List.reduceReplicate]
  have h1 := hf.row
  have h2 := hf.vals
  have h3 := hf.memo
  refine Wp.seqK fun K1 hK1 => ?_
  refine rg ?_
  refine hK1 _ ?_
  clear hK1 K1
  refine Wp.seqK fun K2 hK2 => ?_
  refine rg ?_
  refine ⟨rfl, CallK.retA (h := iCopy_c m h1 h2 h3) (k := ?_) (hf := mR_flat _)⟩
  refine evd ?_
  refine hK2 _ ?_
  clear hK2 K2
  refine Wp.seqK fun K3 hK3 => ?_
  refine Wp.seqU0 [.d, .k, .d, .d, .k, .k, .d5, .d, .d, .d, .d, .v (T (!okR n m)), .d5, .d, .d, .d, .d] (fun K4 hK4 => ?_) ?_
  · refine rg ?_
    refine ⟨rfl, CallK.valA (h := within_c _ _ _) (k := ?_)⟩
    refine evd ?_
    refine grdA_split rfl (fun g2_4 => ?_) (fun g2_4 => ?_)
    · try simp only [decide_eq_true_eq, decide_eq_false_iff_not] at g2_4
      try refine evd ?_
      have e : okR n m = false := by unfold okR; rw [show inI n 0 100000 = false by unfold inI; revert g2_4; cases (decide (0 ≤ n) && decide (n ≤ 100000)) <;> simp]; rfl
      exact hK4 _ (anyS (h := by rw [e]; rfl))
    · try simp only [decide_eq_true_eq, decide_eq_false_iff_not] at g2_4
      try refine evd ?_
      refine ⟨rfl, CallK.valA (h := iMachineOk_c _ hf) (k := ?_)⟩
      refine evd ?_
      have e : okR n m = mOk m := by unfold okR; rw [show inI n 0 100000 = true by unfold inI; revert g2_4; cases (decide (0 ≤ n) && decide (n ≤ 100000)) <;> simp]; rfl
      exact hK4 _ (anyS (h := by rw [e]; rfl))
  rintro f4
  simp only [updT_k, updT_d, updT_d5, updT_v, updT_nil, Nat.reduceAdd]
  refine Wp.condS (fun h15 => ?_) (fun h15 => ?_)
  · have hno : runN m n = m := if_neg (by rw [h15]; simp)
    refine Wp.seqK fun K5 hK5 => ?_
    refine rg ?_
    refine hK5 _ ?_
    clear hK5 K5
    rw [hno]
    refine Wp.ret (retL [2, 3, 4] rfl (Nat.zero_le _) (by decide) (by simp) rfl ?_)
    simp only [keepO, List.take_zero, List.map_nil, List.nil_append, List.map_cons, List.getD_cons_zero, List.getD_cons_succ, Option.map_some, renB, renI, renS, mR]
  · have hok : okR n m = true := h15
    have hR : RightM m := mOk_iff.1 (by unfold okR at hok; rw [Bool.and_eq_true] at hok; exact hok.2)
    obtain ⟨k, hk⟩ : ∃ k : Nat, n = k := ⟨n.toNat, by unfold okR inI at hok; simp only [Bool.and_eq_true, decide_eq_true_eq] at hok; omega⟩
    have hrun : runN m n = runM k m := by unfold runN; rw [if_pos hok, hk]; rfl
    have hk5 : k ≤ 100000 := by unfold okR inI at hok; simp only [Bool.and_eq_true, decide_eq_true_eq] at hok; omega
    have hq := right_fits (run_right k hR)
    subst hk
    refine Wp.keepR 0 [5, 2, 3, 4, 1] (by rw [hB]; simp) (by simp) (by decide) (by simp) ?_
    refine evd ?_
    refine Wp.skip ?_
    refine hK3 _ ?_
    clear hK3 K3
    refine Wp.seqU (α := Gh) (fun G => [.d, .d, .d, .d, .k, .k, .d5, .d5, .d5, .d, .d, .d, .d]) (fun G => mOb G (runM k m) ++ [some ⟨0, [.nils, .sc (.int .i64 0), .sc (.string ⟨#[]⟩), .sc (.int .i64 0), .nils, .sc (.int .i64 0), .sc (.bool false), .sc (.int .i64 0), .sc (.int .i64 0), .sc (.int .i64 0), .nils]⟩]) (fun G => True) (fun K6 hK6 => ?_) ?_
    · refine Wp.seqK fun K7 hK7 => ?_
      refine rg ?_
      refine hK7 _ ?_
      clear hK7 K7
      refine Wp.block ?_
      refine Wp.loopU (α := Nat × Gh) (fun x => [.d, .d, .d, .d, .k, .k, .d5, .d5, .d, .k, .v (I (x.1 : Int)), .d5, .d]) (fun x => mOb x.2 (runM x.1 m) ++ [some ⟨0, [.nils, .sc (.int .i64 0), .sc (.string ⟨#[]⟩), .sc (.int .i64 0), .nils, .sc (.int .i64 0), .sc (.bool false), .sc (.int .i64 0), .sc (.int .i64 0), .sc (.int .i64 0), .nils]⟩]) (fun x => x.1 ≤ k) (fun x => k - x.1) (0, ⟨0, 0, [], 0, []⟩) (Nat.zero_le _) (anyS (ho := by simp only [mOb, mRw, mCl, mCells, runM, List.append_nil]; rfl)) ?_
      rintro x f8 K8 hx hK8
      simp only [updT_k, updT_d, updT_d5, updT_v, updT_nil, Nat.reduceAdd]
      simp only [mOb, mRw, mCl, mCells, List.cons_append, List.nil_append]
      refine Wp.seqK fun K9 hK9 => ?_
      refine rg ?_
      refine hK9 _ ?_
      clear hK9 K9
      refine Wp.seqK fun K10 hK10 => ?_
      refine Wp.condS (fun h19 => ?_) (fun h19 => ?_)
      · have hRx := run_right x.1 hR
        refine Wp.skip ?_
        refine hK10 _ ?_
        clear hK10 K10
        refine Wp.seqK fun K11 hK11 => ?_
        refine Wp.block ?_
        refine Wp.seqK fun K12 hK12 => ?_
        refine rg ?_
        refine ⟨by first | rfl | decide, CallK.handE 4 (step_c (runM x.1 m) x.2 hRx) (fun r ob1 ⟨G2, e1, e2⟩ => ⟨mOb G2 (stepM (runM x.1 m)), [], by rw [e2, List.append_nil], rfl, mOb_shut _ _, ?_⟩) (hs := mOb_shut _ _)⟩
        subst e1
        refine evd ?_
        refine hK12 _ ?_
        clear hK12 K12
        refine Wp.condS (fun h21 => ?_) (fun h21 => ?_)
        · refine Wp.exit ?_
          try simp only [thn, inB, if_true, reduceIte, Nat.zero_ne_one, Nat.one_ne_zero, Nat.reduceEqDiff]
          clear hK11 K11
          clear hK8 K8
          exact hK6 G2 _ trivial (anyS (ho := by rw [← run_end hx h21]; rfl))
        · refine Wp.skip ?_
          try simp only [thn, inB, if_true, reduceIte]
          refine hK11 _ ?_
          clear hK11 K11
          refine rg ?_
          exact hK8 (x.1 + 1, G2) _ (by show x.1 + 1 ≤ k; omega) (by show k - (x.1 + 1) < k - x.1; omega) (anyS (ho := by rw [runM_last]; rfl))
      · refine Wp.exit ?_
        try simp only [thn, inB, if_true, reduceIte, Nat.zero_ne_one, Nat.one_ne_zero, Nat.reduceEqDiff]
        clear hK10 K10
        clear hK8 K8
        have hxk : x.1 = k := by omega
        subst hxk
        exact hK6 x.2 _ trivial (anyS)
    rintro G3 f6 _
    simp only [updT_k, updT_d, updT_d5, updT_v, updT_nil, Nat.reduceAdd]
    simp only [mOb, mRw, mCl, mCells, List.cons_append, List.nil_append]
    refine Wp.seqK fun K13 hK13 => ?_
    refine rg ?_
    refine ⟨rfl, CallK.retA (h := iCopy_c (runM k m) hq.1 hq.2.1 hq.2.2) (ha := argG (G := G3) (m := runM k m) rfl rfl rfl (by simp [lk]) (by simp [lk]) (by simp [lk])) (k := ?_) (hf := mR_flat _)⟩
    refine evd ?_
    refine hK13 _ ?_
    clear hK13 K13
    rw [hrun]
    refine Wp.ret (retL [5, 6, 7] rfl (Nat.zero_le _) (by decide) (by simp) rfl ?_)
    simp only [keepO, List.take_zero, List.map_nil, List.nil_append, List.map_cons, List.getD_cons_zero, List.getD_cons_succ, Option.map_some, renB, renI, renS, mR]
end Go.Proofs.YtonacngeaknlcaaGreatDoor.RE
