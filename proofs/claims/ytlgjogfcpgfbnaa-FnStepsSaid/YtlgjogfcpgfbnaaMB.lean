/- A machine steps and runs, both sides. Conditions: those that a theorem names. -/
import Derived.Test.YtlgjogfcpgfbnaaF1
import Derived.Test.YtlgjogfcpgfbnaaM3
/-! Drawing: a new cursor. Conditions: those that a theorem names. -/
set_option linter.unusedVariables false
set_option linter.unusedSimpArgs false
namespace Go.Proofs.Ytlgjogfcpgfbnaa.RE
open Go Go.RowKit
set_option maxRecDepth 100000
set_option maxHeartbeats 8000000
theorem l01New_c (l : List Int) (hl : l.length ≤ 1048576) : CallsA E.P 131 [dY l] [] (fun r ob => ∃ h : Int, r = .l (.ptr 0 0 0) ∧ ob = [some (cur l 0 h)]) := by
  refine CallsA.body (E := E) (fn := Try.f131) Try.func131 rfl fun B hB => ?_
  simp only [Try.ntmps131, go_sem, nl, Nat.reduceSub, Nat.reduceAdd, List.reduceReplicate]
  refine Wp.seqK fun K1 hK1 => ?_
  refine rg ?_
  refine hK1 _ ?_
  clear hK1 K1
  refine Wp.seqK fun K2 hK2 => ?_
  refine rg ?_
  refine hK2 _ ?_
  clear hK2 K2
  refine Wp.seqK fun K3 hK3 => ?_
  refine Wp.seqK fun K4 hK4 => ?_
  refine rg ?_
  refine hK4 _ ?_
  clear hK4 K4
  refine Wp.block ?_
  refine Wp.loopU0 (α := Nat × Int) (fun x => [.k, .d, .d, .v (I x.2), .v (I (x.1 : Int)), .d5, .d5, .d5, .d5, .d5, .d, .d]) (fun x => x.1 ≤ l.length) (fun x => l.length - x.1) (0, 118118 + l.length) (Nat.zero_le _) anyS ?_
  rintro x f5 K5 hx hK5
  simp only [updT_k, updT_d, updT_d5, updT_v, updT_nil, Nat.reduceAdd]
  refine Wp.seqK fun K6 hK6 => ?_
  refine Wp.seqU0 [.k, .d, .d, .k, .k, .d5, .d5, .v (T (decide (x.1 < l.length ∧ x.1 < 4000))), .d5, .d5, .d5, .d] (fun K7 hK7 => ?_) ?_
  · refine rg ?_
    refine grdA_split rfl (fun g3_5 => ?_) (fun g3_5 => ?_)
    · try simp only [decide_eq_true_eq, decide_eq_false_iff_not] at g3_5
      try refine evd ?_
      have e : decide (x.1 < l.length ∧ x.1 < 4000) = decide ((x.1 : Int) < 4000) := by
        rw [decide_eq_decide]
        omega
      exact hK7 _ (anyS (h := by rw [e]; rfl))
    · try simp only [decide_eq_true_eq, decide_eq_false_iff_not] at g3_5
      try refine evd ?_
      have e : decide (x.1 < l.length ∧ x.1 < 4000) = false := decide_eq_false (by omega)
      exact hK7 _ (anyS (h := by rw [e]; rfl))
  rintro f7
  simp only [updT_k, updT_d, updT_d5, updT_v, updT_nil, Nat.reduceAdd]
  refine Wp.condS (fun h15 => ?_) (fun h15 => ?_)
  · refine Wp.skip ?_
    refine hK6 _ ?_
    clear hK6 K6
    refine Wp.seqK fun K8 hK8 => ?_
    refine Wp.block ?_
    refine rg ?_
    try simp only [thn, inB, if_true, reduceIte]
    refine hK8 _ ?_
    clear hK8 K8
    refine rg ?_
    exact hK5 (x.1 + 1, _) _ (by show x.1 + 1 ≤ _; omega) (by show l.length - (x.1 + 1) < l.length - x.1; omega) anyS
  · refine Wp.exit ?_
    try simp only [thn, inB, if_true, reduceIte]
    clear hK6 K6
    clear hK5 K5
    refine hK3 _ ?_
    clear hK3 K3
    refine Wp.seqK fun K9 hK9 => ?_
    refine rg ?_
    refine hK9 _ ?_
    clear hK9 K9
    refine Wp.ret ⟨_, [0], rfl, Nat.zero_le _, by simp, by simp, ?_⟩
    exact ⟨_, rfl, rfl⟩
def QPick (l : List Int) (y : Option Ob) (q : List Int) : AV → Obs → Prop := fun r ob => ∃ (i2 h2 x : Int), (0 ≤ i2 ∧ i2 ≤ (l.length : Int)) ∧ r = I x ∧ ob = [some (cur l i2 h2), y, some ⟨0, q.map ci⟩]
theorem retPick {st : St} {fn : Func} {l q : List Int} {g : Nat} {t : List Nd} {x i2 h2 : Int} (hi : 0 ≤ i2 ∧ i2 ≤ (l.length : Int)) (h : resA st.tm st.ob E fn.results.toList = some (I x) := by rfl) (hob : st.ob.take 3 = [some (cur l i2 h2), some ⟨g, lN t⟩, some ⟨0, q.map ci⟩] := by rfl) (hn : 3 ≤ st.ob.length := by simp) : retQ E fn 3 (QPick l (some ⟨g, lN t⟩) q) .ret st :=
  retE (Q := QPick l (some ⟨g, lN t⟩) q) ⟨i2, h2, x, hi, rfl, rfl⟩ hob h rfl (by (simp only [obShut, List.all_cons, List.all_nil, flat_shut (lN_flat _), flat_shut (flatI _), Bool.and_true]) <;> rfl) hn
theorem l01PickInt_c (l : List Int) (i h : Int) (hi : 0 ≤ i ∧ i ≤ (l.length : Int)) (hl : l.length ≤ 1048576) (g : Nat) (t : List Nd) (q : List Int) (hq : 1 ≤ q.length ∧ q.length ≤ 1000) : CallsA E.P 210 [.l (.ptr 0 0 0), .l (.obj 2 0 1 0 q.length)] [some (cur l i h), some ⟨g, lN t⟩, some ⟨0, q.map ci⟩] (QPick l (some ⟨g, lN t⟩) q) := by
  refine CallsA.body (E := E) (fn := Try.f210) Try.func210 rfl fun B hB => ?_
  simp only [Try.ntmps210, go_sem, nl, Nat.reduceSub, Nat.reduceAdd, List.reduceReplicate]
  refine Wp.seqK fun K1 hK1 => ?_
  refine rg ?_
  refine hK1 _ ?_
  clear hK1 K1
  refine Wp.seqK fun K2 hK2 => ?_
  refine rg ?_
  refine ⟨rfl, CallK.curI (h := l01Below_c _ _ _ (by omega) (by omega) (q.length : Int) (by omega)) (fun x1_4 i1_4 s1_4 hx1_4 hi1_4 => ?_)⟩
  refine evd ?_
  refine hK2 _ ?_
  clear hK2 K2
  refine Wp.ret (retPick (hi := ?_))
  omega
end Go.Proofs.Ytlgjogfcpgfbnaa.RE
/-! A machine runs, the program. Conditions: those that a theorem names. -/
set_option linter.unusedVariables false
set_option linter.unusedSimpArgs false
namespace Go.Proofs.Ytlgjogfcpgfbnaa.RE
open Go Go.RowKit
set_option maxRecDepth 100000
set_option maxHeartbeats 8000000

def keepX (n : Nat) (ob : Obs) (g o : Nat) : Nat → List Nat → Option (Nat × Nat)
  | _, [] => none
  | i, q :: π => if o = q then (match ob.getD q none with
    | some x => if x.g = g then some (n + i, 0) else none
    | none => none) else keepX n ob g o (i + 1) π
theorem keepX_nil {n : Nat} {ob : Obs} {g o i : Nat} : keepX n ob g o i [] = none := rfl
theorem keepX_cons {n : Nat} {ob : Obs} {g o i q : Nat} {π : List Nat} : keepX n ob g o i (q :: π) = if o = q then (match ob.getD q none with
    | some x => if x.g = g then some (n + i, 0) else none
    | none => none) else keepX n ob g o (i + 1) π := rfl
theorem keepX_eq {n : Nat} {ob : Obs} {g o : Nat} : ∀ (π : List Nat) (k : Nat), keepX n ob g o k π = (match π.idxOf? o, ob.getD o none with
    | some i, some x => if x.g = g then some (n + (k + i), 0) else none
    | _, _ => none)
  | [], k => by simp [keepX]
  | q :: π, k => by
    rw [keepX_cons]
    by_cases h : o = q
    · subst h
      rw [if_pos rfl]
      simp only [List.idxOf?, List.findIdx?_cons, beq_self_eq_true, if_true]
      cases ob.getD o none <;> rfl
    · rw [if_neg h, keepX_eq π (k + 1)]
      have e : (q :: π).idxOf? o = (π.idxOf? o).map (· + 1) := by
        simp only [List.idxOf?, List.findIdx?_cons]
        rw [if_neg (by simpa using fun e => h e.symm)]
      rw [e]
      cases π.idxOf? o with
      | none => rfl
      | some i =>
        simp only [Option.map_some]
        cases ob.getD o none with
        | none => rfl
        | some x => simp only [show k + 1 + i = k + (i + 1) by omega]
theorem keepM_l {n : Nat} {π : List Nat} {ob : Obs} {o g : Nat} : keepM n π ob o g = if o < n then some (o, g) else keepX n ob g o 0 π := by
  unfold keepM
  split
  · rfl
  · rw [keepX_eq]
    simp only [Nat.zero_add]
    cases π.idxOf? o <;> cases ob.getD o none <;> rfl
attribute [go_sem] keepM_l keepX_cons keepX_nil
/-- A machine in rows of one's own is lent. -/
theorem argG {ob : Obs} {L : Lend} {a b c : Nat} {G : Gh} {m : Mc} (e1 : ob.getD a none = some ⟨G.gr, m.row.map cb⟩) (e2 : ob.getD b none = some ⟨G.gv, (m.vals ++ G.jv).map ci⟩) (e3 : ob.getD c none = some ⟨G.gm, lS (G.pm ++ m.memo)⟩)
    (l1 : lk L a G.gr = some (encB m.row)) (l2 : lk L b G.gv = some (encI (m.vals ++ G.jv))) (l3 : lk L c G.gm = some (encS (G.pm ++ m.memo))) :
    ArgsL ob L [.agg (mCl a b c G m)] [.agg (mD m)] [(a, G.gr, encB m.row), (b, G.gv, encI (m.vals ++ G.jv)), (c, G.gm, encS (G.pm ++ m.memo))] := by
  refine .agg .nil ?_
  unfold mCl mD mCells
  refine .row e1 (lB_encB _ false).symm (by rw [List.drop_zero, Nat.mul_one, List.take_of_length_le (by rw [encB_len]; exact Nat.le_refl _)]) l1 ?_
  refine .same rfl (.same rfl (.same rfl ?_))
  refine .row e2 (lI_encI _ false).symm (by rw [List.drop_zero, Nat.mul_one, encV_take]) l2 ?_
  refine .same rfl (.same rfl (.same rfl (.same rfl (.same rfl ?_))))
  refine .row e3 (lS_encS _ false).symm (by rw [encM_mid]) l3 ?_
  exact .nil
theorem tick_right {m : Mc} (h : RightM m) (hs : stuckM m = false) : RightM (tickM m) := by
  obtain ⟨h1, h2, h3, h4⟩ := stuck_no (m := m) (by rw [hs]; simp)
  have b1 := h.steps
  exact { h with steps := ⟨by show 0 ≤ m.steps + 1; omega, by show m.steps + 1 ≤ _; omega⟩ }
theorem step_c (m : Mc) (G : Gh) (hR : RightM m) : CallsA E.P 146 [.l (.ptr 0 0 0)] (mOb G m) (QM (stepM m) (T (!stuckM m))) := by
  refine CallsA.body (E := E) (fn := Try.f146) Try.func146 rfl fun B hB => ?_
  simp only [Try.ntmps146, go_sem, nl, Nat.reduceSub, Nat.reduceAdd, List.reduceReplicate]
  have hst := hR.steps
  have hlo := hR.looks
  have hhi := hR.hits
  refine Wp.seqK fun K1 hK1 => ?_
  refine rg ?_
  refine hK1 _ ?_
  clear hK1 K1
  refine Wp.seqK fun K2 hK2 => ?_
  refine Wp.seqU0 [.k, .d5, .d5, .d5, .d5, .d5, .d, .v (T (stuckM m)), .d5, .d5, .d5, .d] (fun K3 hK3 => ?_) ?_
  · refine rg ?_
    refine grdA_split rfl (fun g1_5 => ?_) (fun g1_5 => ?_)
    · try simp only [decide_eq_true_eq, decide_eq_false_iff_not] at g1_5
      try refine evd ?_
      have e : stuckM m = true := by unfold stuckM; simp [g1_5]
      exact hK3 _ (anyS (h := by rw [e]; rfl))
    · try simp only [decide_eq_true_eq, decide_eq_false_iff_not] at g1_5
      try refine evd ?_
      refine grdA_split rfl (fun g1_12 => ?_) (fun g1_12 => ?_)
      · try simp only [decide_eq_true_eq, decide_eq_false_iff_not] at g1_12
        try refine evd ?_
        have e : stuckM m = true := by unfold stuckM; simp [g1_12]
        exact hK3 _ (anyS (h := by rw [e]; rfl))
      · try simp only [decide_eq_true_eq, decide_eq_false_iff_not] at g1_12
        try refine evd ?_
        refine grdA_split rfl (fun g1_19 => ?_) (fun g1_19 => ?_)
        · try simp only [decide_eq_true_eq, decide_eq_false_iff_not] at g1_19
          try refine evd ?_
          have e : stuckM m = true := by unfold stuckM; simp [g1_19]
          exact hK3 _ (anyS (h := by rw [e]; rfl))
        · try simp only [decide_eq_true_eq, decide_eq_false_iff_not] at g1_19
          try refine evd ?_
          have e : stuckM m = decide (m.hits = 1000000000) := by unfold stuckM; simp [g1_5, g1_12, g1_19]
          exact hK3 _ (anyS (h := by rw [e]; rfl))
  rintro f3
  simp only [updT_k, updT_d, updT_d5, updT_v, updT_nil, Nat.reduceAdd]
  refine Wp.condS (fun h27 => ?_) (fun h27 => ?_)
  · have hd : stepM m = m := if_pos h27
    refine Wp.seqK fun K4 hK4 => ?_
    refine rg ?_
    refine hK4 _ ?_
    clear hK4 K4
    refine Wp.ret (retE (m := 4) (Q := QM (stepM m) (T (!stuckM m))) (x' := T false) (ob' := mOb G m) ⟨G, by rw [h27]; rfl, by rw [hd]⟩ ?_ (hi := mOb_shut _ _))
    rfl
  · have hns := stuck_no (m := m) (by rw [h27]; simp)
    have hRt := tick_right hR h27
    have hns2 : ¬ stuckM m = true := by rw [h27]; simp
    refine Wp.skip ?_
    refine hK2 _ ?_
    clear hK2 K2
    refine Wp.seqK fun K5 hK5 => ?_
    refine rg ?_
    refine hK5 _ ?_
    clear hK5 K5
    refine Wp.seqU (α := Gh) (fun x => [.d5, .d5, .d5, .d5, .d5, .d5, .d5, .d5, .d, .d, .d, .d]) (fun x => mOb x (stepM m)) (fun x => True) (fun K6 hK6 => ?_) ?_
    · refine Wp.seqK fun K7 hK7 => ?_
      refine rg ?_
      refine hK7 _ ?_
      clear hK7 K7
      refine Wp.condS (fun h39 => ?_) (fun h39 => ?_)
      · have hd : stepM m = downM (tickM m) := by unfold stepM; rw [if_neg hns2, if_pos h39]
        refine rg ?_
        refine ⟨by first | rfl | decide, CallK.handE 4 (down_c (tickM m) G hRt (by show m.looks < _; omega) (by show m.hits < _; omega)) (fun r ob1 ⟨G2, e1, e2⟩ => ⟨mOb G2 (downM (tickM m)), [], by rw [e2, List.append_nil], rfl, mOb_shut _ _, ?_⟩) (hs := mOb_shut _ _)⟩
        subst e1
        refine evd ?_
        exact hK6 G2 _ trivial (anyS (ho := by rw [hd]; rfl))
      · have hd : stepM m = upM (tickM m) := by unfold stepM; rw [if_neg hns2, if_neg (by omega)]
        refine rg ?_
        refine ⟨by first | rfl | decide, CallK.handE 4 (up_c (tickM m) G hRt) (fun r ob1 ⟨G2, e1, e2⟩ => ⟨mOb G2 (upM (tickM m)), [], by rw [e2, List.append_nil], rfl, mOb_shut _ _, ?_⟩) (hs := mOb_shut _ _)⟩
        subst e1
        refine evd ?_
        exact hK6 G2 _ trivial (anyS (ho := by rw [hd]; rfl))
    rintro G3 f6 _
    simp only [updT_k, updT_d, updT_d5, updT_v, updT_nil, Nat.reduceAdd]
    refine Wp.seqK fun K8 hK8 => ?_
    refine rg ?_
    refine hK8 _ ?_
    clear hK8 K8
    refine Wp.ret (retE (m := 4) (Q := QM (stepM m) (T (!stuckM m))) (x' := T true) (ob' := mOb G3 (stepM m)) ⟨G3, by rw [h27]; rfl, rfl⟩ ?_ (hi := mOb_shut _ _))
    rfl

def okR (n : Int) (m : Mc) : Bool := inI n 0 100000 && mOk m
def runN (m : Mc) (n : Int) : Mc := if okR n m = true then runM n.toNat m else m
theorem runM_row : ∀ (n : Nat) (m : Mc), (runM n m).row = m.row ∧ (runM n m).n = m.n ∧ (runM n m).ones = m.ones ∧ (runM n m).room = m.room
  | 0, m => ⟨rfl, rfl, rfl, rfl⟩
  | n + 1, m => by
    have h := runM_row n (stepM m)
    have e : (stepM m).row = m.row ∧ (stepM m).n = m.n ∧ (stepM m).ones = m.ones ∧ (stepM m).room = m.room := by
      unfold stepM
      split
      · exact ⟨rfl, rfl, rfl, rfl⟩
      split
      · unfold downM
        split
        · exact ⟨rfl, rfl, rfl, rfl⟩
        · split <;> exact ⟨rfl, rfl, rfl, rfl⟩
      · unfold upM
        split
        · exact ⟨rfl, rfl, rfl, rfl⟩
        · split
          · exact ⟨rfl, rfl, rfl, rfl⟩
          · unfold storeM
            split <;> exact ⟨rfl, rfl, rfl, rfl⟩
    rw [runM, h.1, h.2.1, h.2.2.1, h.2.2.2]
    exact e
theorem right_fits {m : Mc} (h : RightM m) : m.row.length ≤ 1048576 ∧ m.vals.length ≤ 1048576 ∧ m.memo.length ≤ 1048576 := by
  have h1 := h.n
  have h2 := h.row
  have h3 := h.vals
  have h4 := h.memo
  have h5 := h.room
  omega
theorem run_end {m : Mc} {x k : Nat} (hx : x ≤ k) (hs : stuckM (runM x m) = true) : stepM (runM x m) = runM k m := by
  have e1 : stepM (runM x m) = runM x m := if_pos hs
  rw [e1, show k = x + (k - x) by omega, runM_add, runM_stuck hs]
theorem iRun_c (m : Mc) (n : Int) (hf : m.Fits) : Ret E.P 66 [.agg (mD m), I n] (.agg (mO 0 1 2 (runN m n))) (mR (runN m n)) := by
  refine CallsA.body (E := E) (fn := Try.f66) Try.func66 rfl fun B hB => ?_
  simp only [Try.ntmps66, go_sem, nl, Nat.reduceSub, Nat.reduceAdd, List.reduceReplicate]
  have h1 := hf.row
  have h2 := hf.vals
  have h3 := hf.memo
  refine Wp.seqK fun K1 hK1 => ?_
  refine rg ?_
  refine hK1 _ ?_
  clear hK1 K1
  refine Wp.seqK fun K2 hK2 => ?_
  refine rg ?_
  refine ⟨rfl, CallK.retA (h := iCopy_c m h1 h2 h3) (k := ?_) (hf := mR_flat _)⟩
  refine evd ?_
  refine hK2 _ ?_
  clear hK2 K2
  refine Wp.seqK fun K3 hK3 => ?_
  refine Wp.seqU0 [.d, .k, .d, .d, .k, .k, .d5, .d, .d, .d, .d, .v (T (!okR n m)), .d5, .d, .d, .d, .d] (fun K4 hK4 => ?_) ?_
  · refine rg ?_
    refine ⟨rfl, CallK.valA (h := within_c _ _ _) (k := ?_)⟩
    refine evd ?_
    refine grdA_split rfl (fun g2_4 => ?_) (fun g2_4 => ?_)
    · try simp only [decide_eq_true_eq, decide_eq_false_iff_not] at g2_4
      try refine evd ?_
      have e : okR n m = false := by unfold okR; rw [show inI n 0 100000 = false by unfold inI; revert g2_4; cases (decide (0 ≤ n) && decide (n ≤ 100000)) <;> simp]; rfl
      exact hK4 _ (anyS (h := by rw [e]; rfl))
    · try simp only [decide_eq_true_eq, decide_eq_false_iff_not] at g2_4
      try refine evd ?_
      refine ⟨rfl, CallK.valA (h := iMachineOk_c _ hf) (k := ?_)⟩
      refine evd ?_
      have e : okR n m = mOk m := by unfold okR; rw [show inI n 0 100000 = true by unfold inI; revert g2_4; cases (decide (0 ≤ n) && decide (n ≤ 100000)) <;> simp]; rfl
      exact hK4 _ (anyS (h := by rw [e]; rfl))
  rintro f4
  simp only [updT_k, updT_d, updT_d5, updT_v, updT_nil, Nat.reduceAdd]
  refine Wp.condS (fun h15 => ?_) (fun h15 => ?_)
  · have hno : runN m n = m := if_neg (by rw [h15]; simp)
    refine Wp.seqK fun K5 hK5 => ?_
    refine rg ?_
    refine hK5 _ ?_
    clear hK5 K5
    rw [hno]
    refine Wp.ret (retL [2, 3, 4] rfl (Nat.zero_le _) (by decide) (by simp) rfl ?_)
    simp only [keepO, List.take_zero, List.map_nil, List.nil_append, List.map_cons, List.getD_cons_zero, List.getD_cons_succ, Option.map_some, renB, renI, renS, mR]
  · have hok : okR n m = true := h15
    have hR : RightM m := mOk_iff.1 (by unfold okR at hok; rw [Bool.and_eq_true] at hok; exact hok.2)
    obtain ⟨k, hk⟩ : ∃ k : Nat, n = k := ⟨n.toNat, by unfold okR inI at hok; simp only [Bool.and_eq_true, decide_eq_true_eq] at hok; omega⟩
    have hrun : runN m n = runM k m := by unfold runN; rw [if_pos hok, hk]; rfl
    have hk5 : k ≤ 100000 := by unfold okR inI at hok; simp only [Bool.and_eq_true, decide_eq_true_eq] at hok; omega
    have hq := right_fits (run_right k hR)
    subst hk
    refine Wp.keepR 0 [5, 2, 3, 4, 1] (by rw [hB]; simp) (by simp) (by decide) (by simp) ?_
    refine evd ?_
    refine Wp.skip ?_
    refine hK3 _ ?_
    clear hK3 K3
    refine Wp.seqU (α := Gh) (fun G => [.d, .d, .d, .d, .k, .k, .d5, .d5, .d5, .d, .d, .d, .d]) (fun G => mOb G (runM k m) ++ [some ⟨0, [.nils, .sc (.int .i64 0), .sc (.string ⟨#[]⟩), .sc (.int .i64 0), .nils, .sc (.int .i64 0), .sc (.bool false), .sc (.int .i64 0), .sc (.int .i64 0), .sc (.int .i64 0), .nils]⟩]) (fun G => True) (fun K6 hK6 => ?_) ?_
    · refine Wp.seqK fun K7 hK7 => ?_
      refine rg ?_
      refine hK7 _ ?_
      clear hK7 K7
      refine Wp.block ?_
      refine Wp.loopU (α := Nat × Gh) (fun x => [.d, .d, .d, .d, .k, .k, .d5, .d5, .d, .k, .v (I (x.1 : Int)), .d5, .d]) (fun x => mOb x.2 (runM x.1 m) ++ [some ⟨0, [.nils, .sc (.int .i64 0), .sc (.string ⟨#[]⟩), .sc (.int .i64 0), .nils, .sc (.int .i64 0), .sc (.bool false), .sc (.int .i64 0), .sc (.int .i64 0), .sc (.int .i64 0), .nils]⟩]) (fun x => x.1 ≤ k) (fun x => k - x.1) (0, ⟨0, 0, [], 0, []⟩) (Nat.zero_le _) (anyS (ho := by simp only [mOb, mRw, mCl, mCells, runM, List.append_nil]; rfl)) ?_
      rintro x f8 K8 hx hK8
      simp only [updT_k, updT_d, updT_d5, updT_v, updT_nil, Nat.reduceAdd]
      simp only [mOb, mRw, mCl, mCells, List.cons_append, List.nil_append]
      refine Wp.seqK fun K9 hK9 => ?_
      refine rg ?_
      refine hK9 _ ?_
      clear hK9 K9
      refine Wp.seqK fun K10 hK10 => ?_
      refine Wp.condS (fun h19 => ?_) (fun h19 => ?_)
      · have hRx := run_right x.1 hR
        refine Wp.skip ?_
        refine hK10 _ ?_
        clear hK10 K10
        refine Wp.seqK fun K11 hK11 => ?_
        refine Wp.block ?_
        refine Wp.seqK fun K12 hK12 => ?_
        refine rg ?_
        refine ⟨by first | rfl | decide, CallK.handE 4 (step_c (runM x.1 m) x.2 hRx) (fun r ob1 ⟨G2, e1, e2⟩ => ⟨mOb G2 (stepM (runM x.1 m)), [], by rw [e2, List.append_nil], rfl, mOb_shut _ _, ?_⟩) (hs := mOb_shut _ _)⟩
        subst e1
        refine evd ?_
        refine hK12 _ ?_
        clear hK12 K12
        refine Wp.condS (fun h21 => ?_) (fun h21 => ?_)
        · refine Wp.exit ?_
          try simp only [thn, inB, if_true, reduceIte, Nat.zero_ne_one, Nat.one_ne_zero, Nat.reduceEqDiff]
          clear hK11 K11
          clear hK8 K8
          exact hK6 G2 _ trivial (anyS (ho := by rw [← run_end hx h21]; rfl))
        · refine Wp.skip ?_
          try simp only [thn, inB, if_true, reduceIte]
          refine hK11 _ ?_
          clear hK11 K11
          refine rg ?_
          exact hK8 (x.1 + 1, G2) _ (by show x.1 + 1 ≤ k; omega) (by show k - (x.1 + 1) < k - x.1; omega) (anyS (ho := by rw [runM_last]; rfl))
      · refine Wp.exit ?_
        try simp only [thn, inB, if_true, reduceIte, Nat.zero_ne_one, Nat.one_ne_zero, Nat.reduceEqDiff]
        clear hK10 K10
        clear hK8 K8
        have hxk : x.1 = k := by omega
        subst hxk
        exact hK6 x.2 _ trivial (anyS)
    rintro G3 f6 _
    simp only [updT_k, updT_d, updT_d5, updT_v, updT_nil, Nat.reduceAdd]
    simp only [mOb, mRw, mCl, mCells, List.cons_append, List.nil_append]
    refine Wp.seqK fun K13 hK13 => ?_
    refine rg ?_
    refine ⟨rfl, CallK.retA (h := iCopy_c (runM k m) hq.1 hq.2.1 hq.2.2) (ha := argG (G := G3) (m := runM k m) rfl rfl rfl (by simp [lk]) (by simp [lk]) (by simp [lk])) (k := ?_) (hf := mR_flat _)⟩
    refine evd ?_
    refine hK13 _ ?_
    clear hK13 K13
    rw [hrun]
    refine Wp.ret (retL [5, 6, 7] rfl (Nat.zero_le _) (by decide) (by simp) rfl ?_)
    simp only [keepO, List.take_zero, List.map_nil, List.nil_append, List.map_cons, List.getD_cons_zero, List.getD_cons_succ, Option.map_some, renB, renI, renS, mR]
end Go.Proofs.Ytlgjogfcpgfbnaa.RE
/-! A machine's step, what is left, verdicts; the program. Conditions: those that a theorem names. -/
set_option linter.unusedVariables false
set_option linter.unusedSimpArgs false
namespace Go.Proofs.Ytlgjogfcpgfbnaa.RE
open Go Go.RowKit
set_option maxRecDepth 100000
set_option maxHeartbeats 8000000
theorem iStep_c (m : Mc) (hf : m.Fits) : Ret E.P 71 [.agg (mD m)] (.agg (mO 0 1 2 (runN m 1))) (mR (runN m 1)) := by
  refine CallsA.body (E := E) (fn := Try.f71) Try.func71 rfl fun B hB => ?_
  simp only [Try.ntmps71, go_sem, nl, Nat.reduceSub, Nat.reduceAdd, List.reduceReplicate]
  refine Wp.seqK fun K1 hK1 => ?_
  refine rg ?_
  refine hK1 _ ?_
  clear hK1 K1
  refine Wp.seqK fun K2 hK2 => ?_
  refine rg ?_
  refine ⟨rfl, CallK.retA (h := iRun_c m _ hf) (k := ?_) (hf := mR_flat _)⟩
  refine evd ?_
  refine hK2 _ ?_
  clear hK2 K2
  refine Wp.ret (retL [2, 3, 4] rfl (Nat.zero_le _) (by decide) (by simp) rfl ?_)
  simp only [keepO, List.take_zero, List.map_nil, List.nil_append, List.map_cons, List.getD_cons_zero, List.getD_cons_succ, Option.map_some, renB, renI, renS, mR]
theorem iLeft_c (m : Mc) (hf : m.Fits) (hR : RightM m) : Val E.P 70 [.agg (mD m)] (.tup [.agg (tb (m.n - m.vals.length) (leftM m)), TB true]) := by
  refine CallsA.body (E := E) (fn := Try.f70) Try.func70 rfl fun B hB => ?_
  simp only [Try.ntmps70, go_sem, nl, Nat.reduceSub, Nat.reduceAdd, List.reduceReplicate]
  have hnn := hR.n
  have hvl := hR.vals
  have hok : mOk m = true := mOk_iff.2 hR
  refine Wp.seqK fun K1 hK1 => ?_
  refine rg ?_
  refine hK1 _ ?_
  clear hK1 K1
  refine Wp.seqK fun K2 hK2 => ?_
  refine Wp.seqK fun K3 hK3 => ?_
  refine rg ?_
  refine ⟨rfl, CallK.valA (h := iMachineOk_c _ hf) (k := ?_)⟩
  refine evd ?_
  refine hK3 _ ?_
  clear hK3 K3
  refine Wp.condS (fun h6 => ?_) (fun h6 => ?_)
  · rw [hok] at h6
    cases h6
  · refine Wp.skip ?_
    refine hK2 _ ?_
    clear hK2 K2
    refine Wp.seqK fun K4 hK4 => ?_
    refine rg ?_
    refine ⟨rfl, CallK.valA (h := leftOf_c _ _ _ hR.tab (by omega) hR.va (by omega)) (k := ?_)⟩
    refine evd ?_
    refine hK4 _ ?_
    clear hK4 K4
    refine Wp.ret (retV (x := .tup [.agg (tb (m.n - m.vals.length) (leftM m)), TB true]) rfl)

theorem verd_true {r : List Bool} {o : ByteArray} : verd (true :: r) o = if verd r (halfB 0 o) = 1 ∧ verd r (halfB 1 o) = 1 then 1 else 0 := rfl
theorem verd_false {r : List Bool} {o : ByteArray} : verd (false :: r) o = if verd r (halfB 0 o) = 1 ∨ verd r (halfB 1 o) = 1 then 1 else 0 := rfl
theorem verd_first {b : Bool} {r : List Bool} {o : ByteArray} (ht : tabN (r.length + 1) o) (h : b = decide (verd r (halfB 0 o) = 0)) : verd (b :: r) o = verd r (halfB 0 o) := by
  have h0 := verd_bit (half_tab (v := 0) ht rfl)
  rcases h0 with e | e
  · have hb : b = true := by rw [h, e]; rfl
    subst hb
    rw [verd_true, e, if_neg (by simp)]
  · have hb : b = false := by rw [h, e]; rfl
    subst hb
    rw [verd_false, e, if_pos (.inl rfl)]
theorem verd_second {b : Bool} {r : List Bool} {o : ByteArray} (ht : tabN (r.length + 1) o) (h : ¬ b = decide (verd r (halfB 0 o) = 0)) : verd (b :: r) o = verd r (halfB 1 o) := by
  have h0 := verd_bit (half_tab (v := 0) ht rfl)
  have h1 := verd_bit (half_tab (v := 1) ht rfl)
  rcases h0 with e | e
  · have hb : b = false := by cases b with
      | false => rfl
      | true => exact absurd (by rw [e]; rfl) h
    subst hb
    rw [verd_false, e]
    rcases h1 with e1 | e1 <;> rw [e1] <;> simp
  · have hb : b = true := by cases b with
      | true => rfl
      | false => exact absurd (by rw [e]; rfl) h
    subst hb
    rw [verd_true, e]
    rcases h1 with e1 | e1 <;> rw [e1] <;> simp
theorem decide_step (r : List Bool) (o : ByteArray) (ht : tabN r.length o) (hl : r.length ≤ 12) (ih : ∀ (r' : List Bool) (o' : ByteArray), r'.length < r.length → tabN r'.length o' → Val E.P 152 [dB r', .agg (tb r'.length o')] (I (verd r' o'))) : Val E.P 152 [dB r, .agg (tb r.length o)] (I (verd r o)) := by
  refine CallsA.body (E := E) (fn := Try.f152) Try.func152 rfl fun B hB => ?_
  simp only [Try.ntmps152, go_sem, nl, Nat.reduceSub, Nat.reduceAdd, List.reduceReplicate]
  refine Wp.seqK fun K1 hK1 => ?_
  refine rg ?_
  refine hK1 _ ?_
  clear hK1 K1
  refine Wp.seqK fun K2 hK2 => ?_
  refine Wp.seqK fun K3 hK3 => ?_
  refine rg ?_
  refine ⟨rfl, CallK.valA (h := known_c _ _) (k := ?_)⟩
  refine evd ?_
  refine hK3 _ ?_
  clear hK3 K3
  refine Wp.seqK fun K4 hK4 => ?_
  refine rg ?_
  refine hK4 _ ?_
  clear hK4 K4
  refine Wp.condS (fun h10 => ?_) (fun h10 => ?_)
  · refine Wp.seqK fun K5 hK5 => ?_
    refine rg ?_
    refine hK5 _ ?_
    clear hK5 K5
    refine Wp.ret (retV ?_)
    try simp only [List.getD_cons_zero, List.getD_cons_succ]
    rw [verd_known ht h10]
  · have hne : r ≠ [] := fun e => by subst e; have := known_one ht; omega
    obtain ⟨b, r', hr'⟩ : ∃ b r', r = b :: r' := by cases r with | nil => exact absurd rfl hne | cons b r' => exact ⟨b, r', rfl⟩
    subst hr'
    have hsz : ∃ h : Nat, o.size = 2 * h ∧ h ≤ 4096 := by
      have h1 := ht.1
      rw [List.length_cons, Nat.pow_succ] at h1
      have h2 : 2 ^ r'.length ≤ 2 ^ 12 := Nat.pow_le_pow_right (by decide) (by simp at hl; omega)
      exact ⟨2 ^ r'.length, by omega, by have : (2 : Nat) ^ 12 = 4096 := rfl; omega⟩
    obtain ⟨h, hs, hh⟩ := hsz
    have hln : (b :: r').length = r'.length + 1 := rfl
    have e2 : ((r'.length + 1 : Nat) : Int) - 1 = (r'.length : Int) := by omega
    refine Wp.skip ?_
    refine hK2 _ ?_
    clear hK2 K2
    refine Wp.seqK fun K6 hK6 => ?_
    refine Wp.drawI [0] [3, 4] (by kernel_rfl) ?_
    refine evd ?_
    refine ⟨rfl, CallK.valA (h := half_c _ _ _ h hs hh (by omega) (by omega)) (k := ?_)⟩
    refine evd ?_
    simp only [e2, Int.toNat_natCast]
    refine ⟨rfl, CallK.valA (h := ih r' (halfB 0 o) (by simp) (half_tab ht rfl)) (ha := .same ?_ (.same ?_ .nil)) (k := ?_)⟩
    · rfl
    · rfl
    refine evd ?_
    refine hK6 _ ?_
    clear hK6 K6
    refine Wp.seqK fun K7 hK7 => ?_
    refine Wp.seqK fun K8 hK8 => ?_
    refine rg ?_
    refine hK8 _ ?_
    clear hK8 K8
    refine Wp.condS (fun h22 => ?_) (fun h22 => ?_)
    · refine Wp.seqK fun K9 hK9 => ?_
      refine rg ?_
      refine hK9 _ ?_
      clear hK9 K9
      refine Wp.ret (retV ?_)
      try simp only [List.getD_cons_zero, List.getD_cons_succ]
      rw [verd_first ht (beq_iff_eq.1 h22)]
    · refine Wp.skip ?_
      refine hK7 _ ?_
      clear hK7 K7
      refine Wp.seqK fun K10 hK10 => ?_
      refine Wp.drawI [0] [3, 4] (by kernel_rfl) ?_
      refine evd ?_
      refine ⟨rfl, CallK.valA (h := half_c _ _ _ h hs hh (by omega) (by omega)) (k := ?_)⟩
      refine evd ?_
      simp only [e2, Int.toNat_natCast]
      refine ⟨rfl, CallK.valA (h := ih r' (halfB 1 o) (by simp) (half_tab ht rfl)) (ha := .same ?_ (.same ?_ .nil)) (k := ?_)⟩
      · rfl
      · rfl
      refine evd ?_
      refine hK10 _ ?_
      clear hK10 K10
      refine Wp.ret (retV ?_)
      try simp only [List.getD_cons_zero, List.getD_cons_succ]
      rw [verd_second ht (fun e => by rw [beq_iff_eq.2 e] at h22; cases h22)]
theorem decide_c : ∀ (k : Nat) (r : List Bool) (o : ByteArray), r.length < k → tabN r.length o → r.length ≤ 12 → Val E.P 152 [dB r, .agg (tb r.length o)] (I (verd r o))
  | 0, _, _, h, _, _ => absurd h (Nat.not_lt_zero _)
  | k + 1, r, o, h, ht, hl => decide_step r o ht hl fun r' o' h1 h2 => decide_c k r' o' (by omega) h2 (by omega)
theorem iDecide_c (r : List Bool) (o : ByteArray) (ht : tabN r.length o) (hl : r.length ≤ 12) : Val E.P 69 [dB r, .agg (tb r.length o)] (.tup [TI (verd r o), TB true]) := by
  refine CallsA.body (E := E) (fn := Try.f69) Try.func69 rfl fun B hB => ?_
  simp only [Try.ntmps69, go_sem, nl, Nat.reduceSub, Nat.reduceAdd, List.reduceReplicate]
  have h12 : o.size ≤ 4096 := by
    rw [ht.1]
    exact Nat.pow_le_pow_right (n := 2) (by decide) hl
  have hr : rowedB r r.length o = true := by
    unfold rowedB
    rw [Bool.and_eq_true]
    exact ⟨tab_iff.2 ⟨by omega, by rw [Int.toNat_natCast]; exact ht⟩, decide_eq_true rfl⟩
  refine Wp.seqK fun K1 hK1 => ?_
  refine rg ?_
  refine hK1 _ ?_
  clear hK1 K1
  refine Wp.seqK fun K2 hK2 => ?_
  refine Wp.seqK fun K3 hK3 => ?_
  refine rg ?_
  refine ⟨rfl, CallK.valA (h := rowed_c _ _ _ (by omega)) (k := ?_)⟩
  refine evd ?_
  refine hK3 _ ?_
  clear hK3 K3
  refine Wp.condS (fun h9 => ?_) (fun h9 => ?_)
  · rw [hr] at h9
    cases h9
  · refine Wp.skip ?_
    refine hK2 _ ?_
    clear hK2 K2
    refine Wp.seqK fun K4 hK4 => ?_
    refine rg ?_
    refine ⟨rfl, CallK.valA (h := decide_c _ r o (Nat.lt_succ_self _) ht hl) (k := ?_)⟩
    refine evd ?_
    refine hK4 _ ?_
    clear hK4 K4
    refine Wp.ret (retV ?_)
    try simp only [List.getD_cons_zero, List.getD_cons_succ]
    rfl
end Go.Proofs.Ytlgjogfcpgfbnaa.RE
/-! A machine runs, the reference. Conditions: those that a theorem names. -/
set_option linter.unusedVariables false
set_option linter.unusedSimpArgs false
namespace Go.Proofs.Ytlgjogfcpgfbnaa.RE
open Go Go.RowKit
set_option maxRecDepth 100000
set_option maxHeartbeats 8000000

/-- A machine by value whose rows are handed over; the memo may come in a new row. -/
def QS (m' : Mc) : AV → Obs → Prop := fun r ob => (∃ G', r = .agg (mCl 0 1 2 G' m') ∧ ob = mRw G' m') ∨ (∃ G' g, ∃ l : List Sn, r = .agg (mCl 0 1 3 G' m') ∧ ob = [some ⟨G'.gr, m'.row.map cb⟩, some ⟨G'.gv, (m'.vals ++ G'.jv).map ci⟩, some ⟨g, lS l⟩, some ⟨G'.gm, lS (G'.pm ++ m'.memo)⟩])
theorem mRw_shut (G : Gh) (m : Mc) : obShut 3 (mRw G m) = true := by
  simp only [mRw, obShut, List.all_cons, List.all_nil, flat_shut (flatI _), flat_shut (flatB _), flat_shut (lS_flat _), Bool.and_true]
theorem retQS2 {st : St} {fn : Func} {m m' : Mc} {G : Gh} {g q : Nat} {l : List Sn} {cs : List LV} (hm : m' = m) (hob : st.ob.take 3 = [some ⟨G.gr, m.row.map cb⟩, some ⟨G.gv, (m.vals ++ G.jv).map ci⟩, some ⟨g, lS l⟩]) (h6 : st.ob.getD 6 none = some ⟨q, lS (G.pm ++ m.memo)⟩) (hcs : cs = mCells (.obj 0 G.gr 1 0 m.row.length) (.obj 1 G.gv 1 0 m.vals.length) (.obj 6 q 2 (G.pm.length * 2) m.memo.length) m)
    (h : resA st.tm st.ob E fn.results.toList = some (.agg cs) := by rfl) (hn : 3 ≤ st.ob.length := by simp) : retQ E fn 3 (QS m') .ret st := by
  subst hm; subst hcs
  refine ⟨_, [6], h, hn, by simp, by simp, .inr ⟨{ G with gm := 0 }, g, l, ?_, ?_⟩⟩
  · simp only [mCl, mCells, AV.ren, List.map_cons, List.map_nil, lren_obj, lren_sc, keepM_l, keepX_cons, keepX_nil, h6]
    rfl
  · unfold keepO
    rw [hob]
    simp only [List.map_cons, List.map_nil, h6, Option.map_some, renB, renI, renS]
    rfl
theorem retQS {st : St} {fn : Func} {m m' : Mc} {G : Gh} {cs : List LV} (hm : m' = m) (hob : st.ob.take 3 = mRw G m) (hcs : cs = mCl 0 1 2 G m := by rfl) (h : resA st.tm st.ob E fn.results.toList = some (.agg cs) := by rfl) (hn : 3 ≤ st.ob.length := by simp) : retQ E fn 3 (QS m') .ret st := by
  subst hm; subst hcs
  exact retE (m := 3) (Q := QS m') (x' := .agg (mCl 0 1 2 G m')) (ob' := mRw G m') (.inl ⟨G, rfl, rfl⟩) hob h rfl (mRw_shut _ _) hn

theorem tkey_j (n : Int) (o : ByteArray) (ht : tabN n.toNat o) (hn : 0 ≤ n ∧ n ≤ 12) (ho : o.size ≤ 1048576) : Val E.P 79 [.agg (tb n o)] (S (keyB n o)) := by
  have := sTableKey_c n o ho
  unfold tkT at this
  rwa [if_pos (tab_iff.2 ⟨hn, ht⟩)] at this
theorem argsFind (k g : Nat) (p l : List Sn) (key : ByteArray) : [AV.l (.obj k g 2 (p.length * 2) l.length), S key].map (AV.toC [] [(k, g, encS (p ++ l))]) = [dS l, S key] := by
  have h1 : lk [(k, g, encS (p ++ l))] k g = some (encS (p ++ l)) := by simp [lk]
  simp only [List.map_cons, List.map_nil, AV.toC, LV.toC, h1, encM_mid]; rfl
theorem sDown_c (m : Mc) (G : Gh) (hR : RightM m) (hk : m.looks < 1000000000) (hk2 : m.hits < 1000000000) : CallsA E.P 214 [.agg (mCl 0 1 2 G m)] (mRw G m) (QS (downM m)) := by
  refine CallsA.body (E := E) (fn := Try.f214) Try.func214 rfl fun B hB => ?_
  simp only [Try.ntmps214, go_sem, nl, Nat.reduceSub, Nat.reduceAdd, List.reduceReplicate]
  have hnn := hR.n
  have hvl := hR.vals
  have hml := hR.memo
  have hrm := hR.room
  have hrw := hR.row
  have hrt := hR.ret
  have h12 : m.vals.length ≤ 12 := by omega
  have h40 : m.memo.length ≤ 40 := by omega
  have htl := right_left hR
  have hls : (leftM m).size ≤ 4096 := by
    rw [htl.1]
    exact Nat.pow_le_pow_right (n := 2) (by decide) (show m.n.toNat - m.vals.length ≤ 12 by omega)
  have hst := hR.steps
  have hlo := hR.looks
  have hhi := hR.hits
  have htl2 : tabN (m.n - m.vals.length).toNat (leftM m) := by rwa [show (m.n - m.vals.length).toNat = m.n.toNat - m.vals.length by omega]
  refine Wp.seqK fun K1 hK1 => ?_
  refine rg ?_
  refine hK1 _ ?_
  clear hK1 K1
  refine Wp.seqK fun K2 hK2 => ?_
  refine rg ?_
  refine ⟨rfl, CallK.valA (h := sLeft_c m hR) (ha := argG (G := G) (m := m) rfl rfl rfl (by simp [lk]) (by simp [lk]) (by simp [lk])) (k := ?_)⟩
  refine evd ?_
  refine hK2 _ ?_
  clear hK2 K2
  refine Wp.seqK fun K3 hK3 => ?_
  refine rg ?_
  refine ⟨rfl, CallK.valA (h := sKnown_c _ _ htl2 (by omega)) (k := ?_)⟩
  refine evd ?_
  refine hK3 _ ?_
  clear hK3 K3
  refine Wp.seqK fun K4 hK4 => ?_
  refine Wp.seqK fun K5 hK5 => ?_
  refine rg ?_
  refine hK5 _ ?_
  clear hK5 K5
  refine Wp.condS (fun h10 => ?_) (fun h10 => ?_)
  · have hd : downM m = { m with ret := knownB (leftM m), looks := m.looks + 1 } := if_pos h10
    refine Wp.seqK fun K6 hK6 => ?_
    refine rg ?_
    refine hK6 _ ?_
    clear hK6 K6
    refine Wp.seqK fun K7 hK7 => ?_
    refine rg ?_
    refine hK7 _ ?_
    clear hK7 K7
    refine Wp.seqK fun K8 hK8 => ?_
    refine rg ?_
    refine hK8 _ ?_
    clear hK8 K8
    refine Wp.ret (retQS (G := G) hd ?_)
    rfl
  · have hd0 : ¬ 0 ≤ knownB (leftM m) := by omega
    refine Wp.skip ?_
    refine hK4 _ ?_
    clear hK4 K4
    refine Wp.seqK fun K9 hK9 => ?_
    refine Wp.drawI [0, 1, 2, 3, 4, 5] [3, 4] (by kernel_rfl) ?_
    refine evd ?_
    refine ⟨rfl, CallK.valA (h := tkey_j _ _ htl2 (by omega) (by omega)) (k := ?_)⟩
    refine evd ?_
    refine ⟨rfl, CallK.val [(2, G.gm, encS (G.pm ++ m.memo))] (LendOk.cons false _ rfl rfl (lS_encS _ false).symm LendOk.nil) (by rw [argsFind]; exact sFind_c m.memo (keyM m) (by omega)) rfl ?_⟩
    refine evd ?_
    refine hK9 _ ?_
    clear hK9 K9
    refine Wp.seqK fun K10 hK10 => ?_
    refine Wp.seqK fun K11 hK11 => ?_
    refine rg ?_
    refine hK11 _ ?_
    clear hK11 K11
    refine Wp.condS (fun h24 => ?_) (fun h24 => ?_)
    · have hd : downM m = { m with ret := findM m.memo (keyM m), hits := m.hits + 1 } := by unfold downM; rw [if_neg hd0, if_pos h24]
      refine Wp.seqK fun K12 hK12 => ?_
      refine rg ?_
      refine hK12 _ ?_
      clear hK12 K12
      refine Wp.seqK fun K13 hK13 => ?_
      refine rg ?_
      refine hK13 _ ?_
      clear hK13 K13
      refine Wp.seqK fun K14 hK14 => ?_
      refine rg ?_
      refine hK14 _ ?_
      clear hK14 K14
      refine Wp.ret (retQS (G := G) hd ?_)
      rfl
    · have hd : downM m = { m with vals := m.vals ++ [0] } := by unfold downM; rw [if_neg hd0, if_neg (by omega)]
      refine Wp.skip ?_
      refine hK10 _ ?_
      clear hK10 K10
      refine Wp.seqK fun K15 hK15 => ?_
      refine rg ?_
      rw [takeV]
      refine hK15 _ ?_
      clear hK15 K15
      refine Wp.seqK fun K16 hK16 => ?_
      refine rg ?_
      refine hK16 _ ?_
      clear hK16 K16
      refine Wp.ret (retQS (G := { G with gv := G.gv + 1, jv := [] }) hd ?_ (hcs := by simp only [mCl, mCells, List.length_append, List.length_cons, List.length_nil, Nat.zero_add]; rfl))
      simp only [mOb, mRw, mCl, mCells, List.append_nil, List.nil_append, List.length_append, List.length_cons, List.length_nil, Nat.zero_add]
      rfl
theorem sUp_c (m : Mc) (G : Gh) (hR : RightM m) : CallsA E.P 215 [.agg (mCl 0 1 2 G m)] (mRw G m) (QS (upM m)) := by
  refine CallsA.body (E := E) (fn := Try.f215) Try.func215 rfl fun B hB => ?_
  simp only [Try.ntmps215, go_sem, nl, Nat.reduceSub, Nat.reduceAdd, List.reduceReplicate]
  have hnn := hR.n
  have hvl := hR.vals
  have hml := hR.memo
  have hrm := hR.room
  have hrw := hR.row
  have hrt := hR.ret
  have h12 : m.vals.length ≤ 12 := by omega
  have h40 : m.memo.length ≤ 40 := by omega
  have htl := right_left hR
  have hls : (leftM m).size ≤ 4096 := by
    rw [htl.1]
    exact Nat.pow_le_pow_right (n := 2) (by decide) (show m.n.toNat - m.vals.length ≤ 12 by omega)
  have hfi := idx_find (l := m.memo) (k := keyM m) (mem_iff.1 hR.mem).1
  have hst := hR.steps
  have hlo := hR.looks
  have hhi := hR.hits
  refine Wp.seqK fun K1 hK1 => ?_
  refine rg ?_
  refine hK1 _ ?_
  clear hK1 K1
  refine Wp.seqK fun K2 hK2 => ?_
  refine rg ?_
  refine hK2 _ ?_
  clear hK2 K2
  refine Wp.seqK fun K3 hK3 => ?_
  refine Wp.seqK fun K4 hK4 => ?_
  refine rg ?_
  refine hK4 _ ?_
  clear hK4 K4
  refine Wp.condS (fun h10 => ?_) (fun h10 => ?_)
  · have hl : m.vals.length = 0 := by omega
    have hd : upM m = { m with over := true } := if_pos hl
    refine Wp.seqK fun K5 hK5 => ?_
    refine rg ?_
    refine hK5 _ ?_
    clear hK5 K5
    refine Wp.seqK fun K6 hK6 => ?_
    refine rg ?_
    refine hK6 _ ?_
    clear hK6 K6
    refine Wp.ret (retQS (G := G) hd ?_)
    rfl
  · have hl : ¬ m.vals.length = 0 := by omega
    have hkn : ((m.vals.length : Int) - 1).toNat = m.vals.length - 1 := by omega
    refine Wp.skip ?_
    refine hK3 _ ?_
    clear hK3 K3
    refine Wp.seqK fun K7 hK7 => ?_
    refine Wp.seqU0 [.d, .k, .k, .k, .d5, .d5, .d5, .d5, .d5, .v (T (decide ((m.row.getD (m.vals.length - 1) false ≠ decide (m.ret = 0)) ∧ m.vals.getD (m.vals.length - 1) 0 = 0))), .d5, .d5, .d5, .d5, .d5, .d5, .d5, .d5, .d5, .d] (fun K8 hK8 => ?_) ?_
    · refine Wp.drawI [0, 1, 2, 3, 4, 5, 6, 7] [] (by kernel_rfl) ?_
      refine evd ?_
      refine grdA_split rfl (fun g5_10 => ?_) (fun g5_10 => ?_)
      · try simp only [ne_eq] at g5_10
        try refine evd ?_
        have hP : m.row.getD (m.vals.length - 1) false ≠ decide (m.ret = 0) := by rw [← hkn]; simpa using g5_10
        have e : decide ((m.row.getD (m.vals.length - 1) false ≠ decide (m.ret = 0)) ∧ m.vals.getD (m.vals.length - 1) 0 = 0) = decide ((m.vals ++ G.jv).getD ((m.vals.length : Int) - 1).toNat 0 = 0) := by
          rw [hkn, getD_app (by omega), decide_eq_decide]
          exact ⟨fun h => h.2, fun h => ⟨hP, h⟩⟩
        exact hK8 _ (anyS (h := by rw [e]; rfl))
      · try simp only [ne_eq] at g5_10
        try refine evd ?_
        have hP : ¬ m.row.getD (m.vals.length - 1) false ≠ decide (m.ret = 0) := by rw [← hkn]; simpa using g5_10
        have e : decide ((m.row.getD (m.vals.length - 1) false ≠ decide (m.ret = 0)) ∧ m.vals.getD (m.vals.length - 1) 0 = 0) = false := decide_eq_false fun h => hP h.1
        exact hK8 _ (anyS (h := by rw [e]; rfl))
    rintro f8
    simp only [updT_k, updT_d, updT_d5, updT_v, updT_nil, Nat.reduceAdd]
    refine Wp.condS (fun h29 => ?_) (fun h29 => ?_)
    · have h37 := h29
      have hd : upM m = { m with vals := m.vals.take (m.vals.length - 1) ++ [1], ret := -1 } := by unfold upM; rw [if_neg hl, if_pos h29]
      refine Wp.seqK fun K9 hK9 => ?_
      refine rg ?_
      rw [hkn, setV (show m.vals.length = m.vals.length - 1 + 1 by omega)]
      refine hK9 _ ?_
      clear hK9 K9
      refine Wp.seqK fun K10 hK10 => ?_
      refine rg ?_
      refine hK10 _ ?_
      clear hK10 K10
      refine Wp.seqK fun K11 hK11 => ?_
      refine rg ?_
      refine hK11 _ ?_
      clear hK11 K11
      have e2 : m.vals.length = (m.vals.take (m.vals.length - 1) ++ [1]).length := by simp; omega
      refine Wp.ret (retQS (G := G) hd ?_ (hcs := by simp only [mCl, mCells, ← e2]; rfl))
      simp only [mRw, List.append_assoc, List.cons_append, List.nil_append]
      rfl
    · have h37 := h29
      refine Wp.skip ?_
      refine hK7 _ ?_
      clear hK7 K7
      refine Wp.seqU (α := Mc × Gh) (fun x => [.d, .k, .k, .d5, .d5, .d5, .d5, .d5, .d5, .d5, .d5, .d5, .d5, .d5, .d5, .d5, .d5, .d, .d, .d]) (fun x => mRw x.2 x.1 ++ [some ⟨0, mCl 0 1 2 x.2 x.1⟩, some ⟨0, [.nils, .sc (.int .i64 0), .sc (.string ⟨#[]⟩), .sc (.int .i64 0), .nils, .sc (.int .i64 0), .sc (.bool false), .sc (.int .i64 0), .sc (.int .i64 0), .sc (.int .i64 0), .nils]⟩]) (fun x => x.1 = { m with vals := m.vals.take (m.vals.length - 1) } ∧ x.2 = { G with jv := m.vals.drop (m.vals.length - 1) ++ G.jv }) (fun K12 hK12 => ?_) ?_
      · refine rg ?_
        refine hK12 ({ m with vals := m.vals.take (m.vals.length - 1) }, { G with jv := m.vals.drop (m.vals.length - 1) ++ G.jv }) _ ⟨rfl, rfl⟩ (anyS (ho := ?_))
        have e1 : m.vals ++ G.jv = m.vals.take (m.vals.length - 1) ++ (m.vals.drop (m.vals.length - 1) ++ G.jv) := by rw [← List.append_assoc, List.take_append_drop]
        have e2 : ((m.vals.length : Int) - 1 - 0).toNat = (m.vals.take (m.vals.length - 1)).length := by rw [List.length_take]; omega
        rw [e1, e2]; rfl
      rintro ⟨m2, G2⟩ f12 ⟨hm2, hG2⟩
      simp only [updT_k, updT_d, updT_d5, updT_v, updT_nil, Nat.reduceAdd]
      dsimp only at hm2 hG2 ⊢
      simp only [mRw, mCl, mCells, tb, List.cons_append, List.nil_append]
      have hR2 : RightM m2 := by rw [hm2]; exact pop_right hR hl
      have hnn := hR2.n
      have hvl := hR2.vals
      have hml := hR2.memo
      have hrm := hR2.room
      have htl := right_left hR2
      have hls : (leftM m2).size ≤ 4096 := by
        rw [htl.1]
        exact Nat.pow_le_pow_right (n := 2) (by decide) (show m2.n.toNat - m2.vals.length ≤ 12 by omega)
      have hls2 : (leftB m2.ones m2.vals).size ≤ 4096 := hls
      have hfi := idx_find (l := m2.memo) (k := keyM m2) (mem_iff.1 hR2.mem).1
      have hu : upM m = storeM m2 := by unfold upM; rw [if_neg hl, if_neg h37, hm2]
      have htl2 : tabN (m2.n - m2.vals.length).toNat (leftM m2) := by rwa [show (m2.n - m2.vals.length).toNat = m2.n.toNat - m2.vals.length by omega]
      refine Wp.seqK fun K13 hK13 => ?_
      refine rg ?_
      refine ⟨rfl, CallK.valA (h := sLeft_c m2 hR2) (ha := argG (G := G2) (m := m2) rfl rfl rfl (by simp [lk]) (by simp [lk]) (by simp [lk])) (k := ?_)⟩
      refine evd ?_
      refine ⟨rfl, CallK.valA (h := tkey_j _ _ htl2 (by omega) (by omega)) (k := ?_)⟩
      refine evd ?_
      refine hK13 _ ?_
      clear hK13 K13
      refine Wp.seqK fun K14 hK14 => ?_
      refine Wp.seqU0 [.d, .k, .k, .d, .k, .d5, .d5, .d5, .d5, .d5, .d5, .d5, .d5, .d5, .d, .d, .d, .v (T (decide (0 < m2.room ∧ findM m2.memo (keyM m2) < 0))), .d5, .d5, .d5, .d5, .d, .d] (fun K15 hK15 => ?_) ?_
      · refine rg ?_
        refine grdA_split rfl (fun g11_4 => ?_) (fun g11_4 => ?_)
        · try simp only [decide_eq_true_eq, decide_eq_false_iff_not] at g11_4
          have hroom : 0 < m2.room := by simpa using g11_4
          try refine evd ?_
          refine ⟨rfl, CallK.val [(2, G2.gm, encS (G2.pm ++ m2.memo))] (LendOk.cons false _ rfl rfl (lS_encS _ false).symm LendOk.nil) (by rw [argsFind]; exact sFind_c m2.memo (keyM m2) (by omega)) rfl ?_⟩
          refine evd ?_
          have e : decide (0 < m2.room ∧ findM m2.memo (keyM m2) < 0) = decide (findM m2.memo (keyM m2) < 0) := by rw [decide_eq_decide]; omega
          exact hK15 _ (anyS (h := by rw [e]; rfl))
        · try simp only [decide_eq_true_eq, decide_eq_false_iff_not] at g11_4
          have hroom : ¬ 0 < m2.room := by simpa using g11_4
          try refine evd ?_
          have e : decide (0 < m2.room ∧ findM m2.memo (keyM m2) < 0) = false := decide_eq_false (by omega)
          exact hK15 _ (anyS (h := by rw [e]; rfl))
      rintro f15
      simp only [updT_k, updT_d, updT_d5, updT_v, updT_nil, Nat.reduceAdd]
      refine Wp.condS (fun h53 => ?_) (fun h53 => ?_)
      · have hst2 : upM m = { m2 with memo := pushM m2 } := by rw [hu]; exact if_pos h53
        refine Wp.seqK fun K16 hK16 => ?_
        refine rg ?_
        rw [takeM']
        refine hK16 _ ?_
        clear hK16 K16
        refine Wp.seqK fun K17 hK17 => ?_
        refine rg ?_
        refine hK17 _ ?_
        clear hK17 K17
        refine Wp.condS (fun h68 => ?_) (fun h68 => ?_)
        · have l3 : (((m2.memo.length + 1 : Nat) : Int) - 1).toNat = m2.memo.length := by omega
          have hd : upM m = { m2 with memo := (m2.memo ++ [(⟨keyM m2, m2.ret⟩ : Sn)]).drop 1 } := by rw [hst2]; unfold pushM; rw [if_pos (by omega)]
          refine rg ?_
          rw [l3, if_pos (by omega), show ∀ l : List Sn, List.drop 2 (lS l) = lS (l.drop 1) from fun l => lS_drop l 1]
          refine evd ?_
          refine hK14 _ ?_
          clear hK14 K14
          refine Wp.seqK fun K18 hK18 => ?_
          refine rg ?_
          refine hK18 _ ?_
          clear hK18 K18
          have l2 : ((m2.memo ++ [(⟨keyM m2, m2.ret⟩ : Sn)]).drop 1).length = m2.memo.length := by simp
          refine Wp.ret (retQS2 (G := { G2 with gm := 0, pm := [] }) hd rfl rfl ?_)
          simp only [mCells, l2]
          rfl
        · have hd : upM m = { m2 with memo := (m2.memo ++ [(⟨keyM m2, m2.ret⟩ : Sn)]) } := by rw [hst2]; unfold pushM; rw [if_neg (by omega)]
          refine Wp.skip ?_
          refine hK14 _ ?_
          clear hK14 K14
          refine Wp.seqK fun K19 hK19 => ?_
          refine rg ?_
          refine hK19 _ ?_
          clear hK19 K19
          refine Wp.ret (retQS (G := { G2 with gm := G2.gm + 1, pm := [] }) hd ?_ (hcs := by simp only [mCl, mCells, List.length_append, List.length_cons, List.length_nil, Nat.zero_add]; rfl))
          simp only [mOb, mRw, mCl, mCells, List.append_nil, List.nil_append, List.length_append, List.length_cons, List.length_nil, Nat.zero_add]
          rfl
      · have hd : upM m = m2 := by rw [hu]; exact if_neg h53
        refine Wp.skip ?_
        refine hK14 _ ?_
        clear hK14 K14
        refine Wp.seqK fun K20 hK20 => ?_
        refine rg ?_
        refine hK20 _ ?_
        clear hK20 K20
        refine Wp.ret (retQS (G := G2) hd ?_)
        rfl
end Go.Proofs.Ytlgjogfcpgfbnaa.RE
/-! A machine steps and runs, the reference. Conditions: those that a theorem names. -/
set_option linter.unusedVariables false
set_option linter.unusedSimpArgs false
namespace Go.Proofs.Ytlgjogfcpgfbnaa.RE
open Go Go.RowKit
set_option maxRecDepth 100000
set_option maxHeartbeats 8000000

/-- A call that answers a machine by value, its rows handed over: both ways. -/
theorem CallK.mach {P : Program} {f : FuncId} {args : List AV} {st : St} {d : Option Tmp} {K : St → Prop} {G : Gh} {m m' : Mc} {rest : Obs} (h : CallsA P f [.agg (mCl 0 1 2 G m)] (mRw G m) (QS m'))
    (k1 : ∀ G' : Gh, K ⟨putT st.tm d (.agg (mCl 0 1 2 G' m')), mRw G' m' ++ rest⟩)
    (k2 : ∀ (G' : Gh) (g : Nat) (l : List Sn), K ⟨putT st.tm d (.agg (mCells (.obj 0 G'.gr 1 0 m'.row.length) (.obj 1 G'.gv 1 0 m'.vals.length) (.obj (3 + rest.length) G'.gm 2 (G'.pm.length * 2) m'.memo.length) m')), [some ⟨G'.gr, m'.row.map cb⟩, some ⟨G'.gv, (m'.vals ++ G'.jv).map ci⟩, some ⟨g, lS l⟩] ++ rest ++ [some ⟨G'.gm, lS (G'.pm ++ m'.memo)⟩]⟩)
    (ho : st.ob = mRw G m ++ rest := by rfl) (ha : args.map (AV.toC (List.range 3) []) = [.agg (mCl 0 1 2 G m)] := by rfl) : CallK P f args st d K :=
  CallK.handE 3 h (fun r ob1 hq => by
    rcases hq with ⟨G', e1, e2⟩ | ⟨G', g, l, e1, e2⟩
    · refine ⟨mRw G' m', [], by rw [e2, List.append_nil], rfl, mRw_shut _ _, ?_⟩
      rw [ho, e1]
      have := k1 G'
      simpa [mCl, mCells, AV.ren, LV.ren, shm, mRw] using this
    · refine ⟨[some ⟨G'.gr, m'.row.map cb⟩, some ⟨G'.gv, (m'.vals ++ G'.jv).map ci⟩, some ⟨g, lS l⟩], [some ⟨G'.gm, lS (G'.pm ++ m'.memo)⟩], by rw [e2]; rfl, rfl, (by simp only [obShut, List.all_cons, List.all_nil, flat_shut (flatI _), flat_shut (flatB _), flat_shut (lS_flat _), Bool.and_true]), ?_⟩
      rw [ho, e1]
      have := k2 G' g l
      simp only [mCl, mCells, AV.ren, List.map_cons, List.map_nil, lren_obj, lren_sc, shm, Ob.ren, Option.map_some, renS, mRw, List.length_append, List.length_cons, List.length_nil, List.cons_append, List.nil_append, List.drop_succ_cons, List.drop_zero] at this ⊢
      simp [optO, Nat.add_comm] at this ⊢
      rw [show 1 + (1 + (List.length rest + 1)) = List.length rest + 3 by omega]
      exact this) (by rw [ho]; rfl) ha (mRw_shut _ _) (by rw [ho]; simp [mRw])
theorem retQS3 {st : St} {fn : Func} {m m' : Mc} {G : Gh} {g : Nat} {l : List Sn} {cs : List LV} (hm : m' = m) (hob : st.ob.take 3 = [some ⟨G.gr, m.row.map cb⟩, some ⟨G.gv, (m.vals ++ G.jv).map ci⟩, some ⟨g, lS l⟩]) (h6 : st.ob.getD 5 none = some ⟨G.gm, lS (G.pm ++ m.memo)⟩) (hcs : cs = mCells (.obj 0 G.gr 1 0 m.row.length) (.obj 1 G.gv 1 0 m.vals.length) (.obj 5 G.gm 2 (G.pm.length * 2) m.memo.length) m)
    (h : resA st.tm st.ob E fn.results.toList = some (.agg cs) := by rfl) (hn : 3 ≤ st.ob.length := by simp) : retQ E fn 3 (QS m') .ret st := by
  subst hm; subst hcs
  refine ⟨_, [5], h, hn, by simp, by simp, .inr ⟨{ G with gm := 0 }, g, l, ?_, ?_⟩⟩
  · simp only [mCl, mCells, AV.ren, List.map_cons, List.map_nil, lren_obj, lren_sc, keepM_l, keepX_cons, keepX_nil, h6]
    rfl
  · unfold keepO
    rw [hob]
    simp only [List.map_cons, List.map_nil, h6, Option.map_some, renB, renI, renS]
    rfl
theorem sStep_c (m : Mc) (G : Gh) (hR : RightM m) (hlk : m.looks < 1000000000) (hht : m.hits < 1000000000) : CallsA E.P 148 [.agg (mCl 0 1 2 G m)] (mRw G m) (QS (stepM m)) := by
  refine CallsA.body (E := E) (fn := Try.f148) Try.func148 rfl fun B hB => ?_
  simp only [Try.ntmps148, go_sem, nl, Nat.reduceSub, Nat.reduceAdd, List.reduceReplicate]
  have hst := hR.steps
  have hlo := hR.looks
  have hhi := hR.hits
  refine Wp.seqK fun K1 hK1 => ?_
  refine rg ?_
  refine hK1 _ ?_
  clear hK1 K1
  refine Wp.seqK fun K2 hK2 => ?_
  refine Wp.seqU0 [.d, .k, .k, .d5, .d, .v (T (stuckM m)), .d5, .d5, .d, .d] (fun K3 hK3 => ?_) ?_
  · refine rg ?_
    refine grdA_split rfl (fun g1_3 => ?_) (fun g1_3 => ?_)
    · try simp only [decide_eq_true_eq, decide_eq_false_iff_not] at g1_3
      try refine evd ?_
      have e : stuckM m = true := by unfold stuckM; simp [g1_3]
      exact hK3 _ (anyS (h := by rw [e]; rfl))
    · try simp only [decide_eq_true_eq, decide_eq_false_iff_not] at g1_3
      try refine evd ?_
      have e : stuckM m = decide (1000000000 ≤ m.steps) := by
        unfold stuckM
        rw [g1_3, decide_eq_false (show ¬ m.looks = 1000000000 by omega), decide_eq_false (show ¬ m.hits = 1000000000 by omega)]
        simp only [Bool.false_or, Bool.or_false]
        rw [decide_eq_decide]; omega
      exact hK3 _ (anyS (h := by rw [e]; rfl))
  rintro f3
  simp only [updT_k, updT_d, updT_d5, updT_v, updT_nil, Nat.reduceAdd]
  refine Wp.condS (fun h9 => ?_) (fun h9 => ?_)
  · have hd : stepM m = m := if_pos h9
    refine Wp.seqK fun K4 hK4 => ?_
    refine rg ?_
    refine hK4 _ ?_
    clear hK4 K4
    refine Wp.ret (retQS (G := G) hd ?_)
    rfl
  · have hns := stuck_no (m := m) (by rw [h9]; simp)
    have hRt := tick_right hR h9
    have hns2 : ¬ stuckM m = true := by rw [h9]; simp
    refine Wp.skip ?_
    refine hK2 _ ?_
    clear hK2 K2
    refine Wp.seqK fun K5 hK5 => ?_
    refine rg ?_
    refine hK5 _ ?_
    clear hK5 K5
    refine Wp.seqK fun K6 hK6 => ?_
    refine Wp.seqK fun K7 hK7 => ?_
    refine rg ?_
    refine hK7 _ ?_
    clear hK7 K7
    refine Wp.condS (fun h17 => ?_) (fun h17 => ?_)
    · have hd : stepM m = downM (tickM m) := by unfold stepM; rw [if_neg hns2, if_pos h17]
      refine Wp.seqK fun K8 hK8 => ?_
      refine rg ?_
      refine ⟨by first | rfl | decide, CallK.mach (h := sDown_c (tickM m) G hRt (by show m.looks < _; omega) (by show m.hits < _; omega)) (fun G2 => ?_) (fun G2 g2 l2 => ?_)⟩
      · refine evd ?_
        refine hK8 _ ?_
        clear hK8 K8
        refine Wp.ret (retQS (G := G2) hd ?_)
        rfl
      · refine evd ?_
        refine hK8 _ ?_
        clear hK8 K8
        refine Wp.ret (retQS3 (G := G2) hd rfl rfl rfl)
    · have hd : stepM m = upM (tickM m) := by unfold stepM; rw [if_neg hns2, if_neg (by omega)]
      refine Wp.skip ?_
      refine hK6 _ ?_
      clear hK6 K6
      refine Wp.seqK fun K9 hK9 => ?_
      refine rg ?_
      refine ⟨by first | rfl | decide, CallK.mach (h := sUp_c (tickM m) G hRt) (fun G2 => ?_) (fun G2 g2 l2 => ?_)⟩
      · refine evd ?_
        refine hK9 _ ?_
        clear hK9 K9
        refine Wp.ret (retQS (G := G2) hd ?_)
        rfl
      · refine evd ?_
        refine hK9 _ ?_
        clear hK9 K9
        refine Wp.ret (retQS3 (G := G2) hd rfl rfl rfl)

def go2 (m : Mc) : Bool := !m.over && (decide (m.looks < 1000000000) && decide (m.hits < 1000000000))
theorem go2_end {m : Mc} (hR : RightM m) {x k : Nat} (hx : x ≤ k) (h : (decide ((x : Int) < (k : Int)) && go2 (runM x m)) = false) : runM x m = runM k m := by
  by_cases hk : x = k
  · rw [hk]
  · rw [decide_eq_true (by omega), Bool.true_and] at h
    have h1 := run_right x hR
    have h2 := h1.looks
    have h3 := h1.hits
    have hs : stuckM (runM x m) = true := by
      unfold go2 at h
      unfold stuckM
      cases ho : (runM x m).over with
      | true => rfl
      | false =>
        rw [ho] at h
        simp only [Bool.not_false, Bool.true_and, Bool.and_eq_false_iff, decide_eq_false_iff_not] at h
        rcases h with h | h
        · rw [decide_eq_true (show (runM x m).looks = 1000000000 by omega)]; simp
        · rw [decide_eq_true (show (runM x m).hits = 1000000000 by omega)]; simp
    rw [show k = x + (k - x) by omega, runM_add, runM_stuck hs]
theorem go2_t {m : Mc} (h : go2 m = true) : m.looks < 1000000000 ∧ m.hits < 1000000000 := by
  unfold go2 at h
  simp only [Bool.and_eq_true, decide_eq_true_eq] at h
  exact h.2
def QR (m' : Mc) : AV → Obs → Prop := fun r ob => ∃ G, r = .agg (mCl 0 1 2 G m') ∧ ob = mRw G m'
theorem retQR {st : St} {fn : Func} {m m' : Mc} {G : Gh} {a b c : Nat} {cs : List LV} (π : List Nat) (hm : m' = m) (ha : st.ob.getD a none = some ⟨G.gr, m.row.map cb⟩) (hb : st.ob.getD b none = some ⟨G.gv, (m.vals ++ G.jv).map ci⟩) (hc : st.ob.getD c none = some ⟨G.gm, lS (G.pm ++ m.memo)⟩) (hcs : cs = mCl a b c G m)
    (h : resA st.tm st.ob E fn.results.toList = some (.agg cs) := by rfl) (hπ : π = [a, b, c] := by rfl) (hd : π.Nodup := by decide) : retQ E fn 0 (QR m') .ret st := by
  subst hm; subst hcs; subst hπ
  have hab : a ≠ b ∧ a ≠ c ∧ b ≠ c := by simp at hd; omega
  refine ⟨_, [a, b, c], h, Nat.zero_le _, hd, by simp, ⟨0, 0, G.jv, 0, G.pm⟩, ?_, ?_⟩
  · simp only [mCl, mCells, AV.ren, List.map_cons, List.map_nil, lren_obj, lren_sc, keepM_l, keepX_cons, keepX_nil, ha, hb, hc]
    simp [hab, hab.1.symm, hab.2.1.symm, hab.2.2.symm, optO]
  · unfold keepO
    simp only [List.take_zero, List.map_nil, List.nil_append, List.map_cons, ha, hb, hc, Option.map_some, renB, renI, renS]
    rfl
theorem sRun_c (m : Mc) (n : Int) (hf : m.Fits) : CallsA E.P 67 [.agg (mD m), I n] [] (QR (runN m n)) := by
  refine CallsA.body (E := E) (fn := Try.f67) Try.func67 rfl fun B hB => ?_
  simp only [Try.ntmps67, go_sem, nl, Nat.reduceSub, Nat.reduceAdd, List.reduceReplicate]
  have h1 := hf.row
  have h2 := hf.vals
  have h3 := hf.memo
  refine Wp.seqK fun K1 hK1 => ?_
  refine rg ?_
  refine hK1 _ ?_
  clear hK1 K1
  refine Wp.seqK fun K2 hK2 => ?_
  refine rg ?_
  refine ⟨rfl, CallK.retA (h := sCopy_c m h1 h2 h3) (k := ?_) (hf := mR_flat _)⟩
  refine evd ?_
  refine hK2 _ ?_
  clear hK2 K2
  refine Wp.seqK fun K3 hK3 => ?_
  refine Wp.seqU0 [.d, .k, .k, .d, .k, .d5, .d5, .v (T (!okR n m)), .d5, .d5, .d5, .d5, .d, .d, .d, .d] (fun K4 hK4 => ?_) ?_
  · refine rg ?_
    refine ⟨rfl, CallK.valA (h := sMachineOk_c _ hf) (ha := argG (G := ⟨0, 0, [], 0, []⟩) (m := m) (a := 2) (b := 3) (c := 4) rfl (by simp) rfl (by simp [lk]) (by simp [lk]) (by simp [lk])) (k := ?_)⟩
    refine evd ?_
    refine grdA_split rfl (fun g2_4 => ?_) (fun g2_4 => ?_)
    · try simp only [decide_eq_true_eq, decide_eq_false_iff_not] at g2_4
      try refine evd ?_
      have e : okR n m = false := by unfold okR; rw [show mOk m = false by simpa using g2_4, Bool.and_false]
      exact hK4 _ (anyS (h := by rw [e]; rfl))
    · try simp only [decide_eq_true_eq, decide_eq_false_iff_not] at g2_4
      try refine evd ?_
      refine ⟨rfl, CallK.valA (h := l01In_c _ _ _) (k := ?_)⟩
      refine evd ?_
      have e : okR n m = inI n 0 100000 := by unfold okR; rw [show mOk m = true by simpa using g2_4, Bool.and_true]
      exact hK4 _ (anyS (h := by rw [e]; rfl))
  rintro f4
  simp only [updT_k, updT_d, updT_d5, updT_v, updT_nil, Nat.reduceAdd]
  refine Wp.condS (fun h15 => ?_) (fun h15 => ?_)
  · have hno : runN m n = m := if_neg (by rw [h15]; simp)
    refine Wp.seqK fun K5 hK5 => ?_
    refine rg ?_
    refine hK5 _ ?_
    clear hK5 K5
    rw [hno]
    refine Wp.ret (retQR (G := ⟨0, 0, [], 0, []⟩) (a := 2) (b := 3) (c := 4) [2, 3, 4] rfl rfl (by simp) rfl rfl)
  · have hok : okR n m = true := h15
    have hR : RightM m := mOk_iff.1 (by unfold okR at hok; rw [Bool.and_eq_true] at hok; exact hok.2)
    obtain ⟨k, hk⟩ : ∃ k : Nat, n = k := ⟨n.toNat, by unfold okR inI at hok; simp only [Bool.and_eq_true, decide_eq_true_eq] at hok; omega⟩
    have hrun : runN m n = runM k m := by unfold runN; rw [if_pos hok, hk]; rfl
    have hk5 : k ≤ 100000 := by unfold okR inI at hok; simp only [Bool.and_eq_true, decide_eq_true_eq] at hok; omega
    subst hk
    refine Wp.keepR 0 [2, 3, 4, 0, 1] (by rw [hB]; simp) (by simp) (by decide) (by simp) ?_
    refine evd ?_
    refine Wp.skip ?_
    refine hK3 _ ?_
    clear hK3 K3
    refine Wp.seqU (α := Gh) (fun G => [.d, .d, .k, .d, .k, .d5, .d5, .d5, .d5, .d5, .d5, .d5]) (fun G => mRw G (runM k m) ++ [some ⟨0, mCl 0 1 2 G (runM k m)⟩, some ⟨0, [.nils, .sc (.int .i64 0), .sc (.string ⟨#[]⟩), .sc (.int .i64 0), .nils, .sc (.int .i64 0), .sc (.bool false), .sc (.int .i64 0), .sc (.int .i64 0), .sc (.int .i64 0), .nils]⟩]) (fun G => True) (fun K6 hK6 => ?_) ?_
    · refine Wp.seqK fun K7 hK7 => ?_
      refine rg ?_
      refine hK7 _ ?_
      clear hK7 K7
      refine Wp.block ?_
      refine Wp.loopU (α := Nat × Gh) (fun x => [.d, .k, .k, .d, .k, .v (I (x.1 : Int)), .d5, .d5, .d5, .d5, .d5, .d5, .d, .d, .d, .d]) (fun x => mRw x.2 (runM x.1 m) ++ [some ⟨0, mCl 0 1 2 x.2 (runM x.1 m)⟩, some ⟨0, [.nils, .sc (.int .i64 0), .sc (.string ⟨#[]⟩), .sc (.int .i64 0), .nils, .sc (.int .i64 0), .sc (.bool false), .sc (.int .i64 0), .sc (.int .i64 0), .sc (.int .i64 0), .nils]⟩]) (fun x => x.1 ≤ k) (fun x => k - x.1) (0, ⟨0, 0, [], 0, []⟩) (Nat.zero_le _) (anyS (ho := by simp only [mRw, mCl, mCells, runM, List.append_nil]; rfl)) ?_
      rintro x f8 K8 hx hK8
      simp only [updT_k, updT_d, updT_d5, updT_v, updT_nil, Nat.reduceAdd]
      simp only [mRw, mCl, mCells, List.cons_append, List.nil_append]
      refine Wp.seqK fun K9 hK9 => ?_
      refine Wp.seqU0 [.d, .k, .k, .d, .k, .k, .d5, .d5, .d5, .d5, .d5, .d, .d, .d, .v (T (decide ((x.1 : Int) < (k : Int)) && go2 (runM x.1 m))), .d5] (fun K10 hK10 => ?_) ?_
      · refine rg ?_
        refine grdA_split rfl (fun g5_4 => ?_) (fun g5_4 => ?_)
        · try simp only [decide_eq_true_eq, decide_eq_false_iff_not] at g5_4
          try refine evd ?_
          refine grdA_split rfl (fun g5_9 => ?_) (fun g5_9 => ?_)
          · try simp only [decide_eq_true_eq, decide_eq_false_iff_not] at g5_9
            try refine evd ?_
            refine grdA_split rfl (fun g5_14 => ?_) (fun g5_14 => ?_)
            · try simp only [decide_eq_true_eq, decide_eq_false_iff_not] at g5_14
              try refine evd ?_
              have e : (decide ((x.1 : Int) < (k : Int)) && go2 (runM x.1 m)) = decide ((runM x.1 m).hits < 1000000000) := by unfold go2; simp [g5_4, g5_9, g5_14]
              exact hK10 _ (anyS (h := by rw [e]; rfl))
            · try simp only [decide_eq_true_eq, decide_eq_false_iff_not] at g5_14
              try refine evd ?_
              have e : (decide ((x.1 : Int) < (k : Int)) && go2 (runM x.1 m)) = false := by unfold go2; simp [g5_4, g5_9, g5_14]
              exact hK10 _ (anyS (h := by rw [e]; rfl))
          · try simp only [decide_eq_true_eq, decide_eq_false_iff_not] at g5_9
            try refine evd ?_
            have e : (decide ((x.1 : Int) < (k : Int)) && go2 (runM x.1 m)) = false := by unfold go2; simp [g5_4, g5_9]
            exact hK10 _ (anyS (h := by rw [e]; rfl))
        · try simp only [decide_eq_true_eq, decide_eq_false_iff_not] at g5_4
          try refine evd ?_
          have e : (decide ((x.1 : Int) < (k : Int)) && go2 (runM x.1 m)) = false := by unfold go2; simp [g5_4]
          exact hK10 _ (anyS (h := by rw [e]; rfl))
      rintro f10
      simp only [updT_k, updT_d, updT_d5, updT_v, updT_nil, Nat.reduceAdd]
      refine Wp.condS (fun h34 => ?_) (fun h34 => ?_)
      · have hRx := run_right x.1 hR
        have hgo := go2_t h34.2
        have hxk : x.1 < k := by omega
        refine Wp.skip ?_
        refine hK9 _ ?_
        clear hK9 K9
        refine Wp.seqK fun K11 hK11 => ?_
        refine Wp.block ?_
        refine rg ?_
        refine ⟨by first | rfl | decide, CallK.mach (h := sStep_c (runM x.1 m) x.2 hRx hgo.1 hgo.2) (fun G2 => ?_) (fun G2 g2 l2 => ?_)⟩
        · refine evd ?_
          try simp only [thn, inB, if_true, reduceIte]
          refine hK11 _ ?_
          clear hK11 K11
          skip
          refine rg ?_
          exact hK8 (x.1 + 1, G2) _ (by show x.1 + 1 ≤ k; omega) (by show k - (x.1 + 1) < k - x.1; omega) (anyS (ho := by rw [runM_last]; rfl))
        · refine evd ?_
          try simp only [thn, inB, if_true, reduceIte]
          refine hK11 _ ?_
          clear hK11 K11
          refine Wp.keepR 0 [0, 1, 5, 3, 4] (by rw [hB]; simp) (by simp) (by decide) (by simp) ?_
          refine evd ?_
          refine rg ?_
          exact hK8 (x.1 + 1, ⟨0, 0, G2.jv, 0, G2.pm⟩) _ (by show x.1 + 1 ≤ k; omega) (by show k - (x.1 + 1) < k - x.1; omega) (anyS (ho := by rw [runM_last]; rfl))
      · refine Wp.exit ?_
        try simp only [thn, inB, if_true, reduceIte, Nat.zero_ne_one, Nat.one_ne_zero, Nat.reduceEqDiff]
        clear hK9 K9
        clear hK8 K8
        exact hK6 x.2 _ trivial (anyS (ho := by rw [← go2_end hR hx h34]; rfl))
    rintro G3 f6 _
    simp only [updT_k, updT_d, updT_d5, updT_v, updT_nil, Nat.reduceAdd]
    simp only [mRw, mCl, mCells, List.cons_append, List.nil_append]
    refine Wp.seqK fun K12 hK12 => ?_
    refine rg ?_
    refine hK12 _ ?_
    clear hK12 K12
    rw [hrun]
    refine Wp.ret (retQR (G := G3) (a := 0) (b := 1) (c := 2) [0, 1, 2] rfl rfl rfl rfl rfl)
end Go.Proofs.Ytlgjogfcpgfbnaa.RE
