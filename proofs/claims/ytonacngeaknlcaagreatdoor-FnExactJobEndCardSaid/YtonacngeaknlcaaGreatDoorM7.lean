/- A machine steps and runs, the reference. Conditions: those that a theorem names. -/
import Derived.Test.YtonacngeaknlcaaGreatDoorM6
set_option linter.unusedVariables false
set_option linter.unusedSimpArgs false
namespace Go.Proofs.YtonacngeaknlcaaGreatDoor.RE
open Go Go.RowKit
set_option maxRecDepth 100000
set_option maxHeartbeats 8000000

/-- A call that answers a machine by value, its rows handed over: both ways. -/
theorem CallK.mach {P : Program} {f : FuncId} {args : List AV} {st : St} {d : Option Tmp} {K : St → Prop} {G : Gh} {m m' : Mc} {rest : Obs} (h : CallsA P f [.agg (mCl 0 1 2 G m)] (mRw G m) (QS m'))
    (k1 : ∀ G' : Gh, K ⟨putT st.tm d (.agg (mCl 0 1 2 G' m')), mRw G' m' ++ rest⟩)
    (k2 : ∀ (G' : Gh) (g : Nat) (l : List Sn), K ⟨putT st.tm d (.agg (mCells (.obj 0 G'.gr 1 0 m'.row.length) (.obj 1 G'.gv 1 0 m'.vals.length) (.obj (3 + rest.length) G'.gm 2 (G'.pm.length * 2) m'.memo.length) m')), [some ⟨G'.gr, m'.row.map cb⟩, some ⟨G'.gv, (m'.vals ++ G'.jv).map ci⟩, some ⟨g, lS l⟩] ++ rest ++ [some ⟨G'.gm, lS (G'.pm ++ m'.memo)⟩]⟩)
    (ho : st.ob = mRw G m ++ rest := by rfl) (ha : args.map (AV.toC (List.range 3) []) = [.agg (mCl 0 1 2 G m)] := by rfl) : CallK P f args st d K :=
  CallK.handE 3 h (fun r ob1 hq => by
    rcases hq with ⟨G', e1, e2⟩ | ⟨G', g, l, e1, e2⟩
    · refine ⟨mRw G' m', [], by rw [e2, List.append_nil], rfl, mRw_shut _ _, ?_⟩
      rw [ho, e1]
      have := k1 G'
      simpa [mCl, mCells, AV.ren, LV.ren, shm, mRw] using this
    · refine ⟨[some ⟨G'.gr, m'.row.map cb⟩, some ⟨G'.gv, (m'.vals ++ G'.jv).map ci⟩, some ⟨g, lS l⟩], [some ⟨G'.gm, lS (G'.pm ++ m'.memo)⟩], by rw [e2]; rfl, rfl, (by simp only [obShut, List.all_cons, List.all_nil, flat_shut (flatI _), flat_shut (flatB _), flat_shut (lS_flat _), Bool.and_true]), ?_⟩
      rw [ho, e1]
      have := k2 G' g l
      simp only [mCl, mCells, AV.ren, List.map_cons, List.map_nil, lren_obj, lren_sc, shm, Ob.ren, Option.map_some, renS, mRw, List.length_append, List.length_cons, List.length_nil, List.cons_append, List.nil_append, List.drop_succ_cons, List.drop_zero] at this ⊢
      simp [optO, Nat.add_comm] at this ⊢
      rw [show 1 + (1 + (List.length rest + 1)) = List.length rest + 3 by omega]
      exact this) (by rw [ho]; rfl) ha (mRw_shut _ _) (by rw [ho]; simp [mRw])
theorem retQS3 {st : St} {fn : Func} {m m' : Mc} {G : Gh} {g : Nat} {l : List Sn} {cs : List LV} (hm : m' = m) (hob : st.ob.take 3 = [some ⟨G.gr, m.row.map cb⟩, some ⟨G.gv, (m.vals ++ G.jv).map ci⟩, some ⟨g, lS l⟩]) (h6 : st.ob.getD 5 none = some ⟨G.gm, lS (G.pm ++ m.memo)⟩) (hcs : cs = mCells (.obj 0 G.gr 1 0 m.row.length) (.obj 1 G.gv 1 0 m.vals.length) (.obj 5 G.gm 2 (G.pm.length * 2) m.memo.length) m)
    (h : resA st.tm st.ob E fn.results.toList = some (.agg cs) := by rfl) (hn : 3 ≤ st.ob.length := by simp) : retQ E fn 3 (QS m') .ret st := by
  subst hm; subst hcs
  refine ⟨_, [5], h, hn, by simp, by simp, .inr ⟨{ G with gm := 0 }, g, l, ?_, ?_⟩⟩
  · simp only [mCl, mCells, AV.ren, List.map_cons, List.map_nil, lren_obj, lren_sc, keepM_l, keepX_cons, keepX_nil, h6]
    rfl
  · unfold keepO
    rw [hob]
    simp only [List.map_cons, List.map_nil, h6, Option.map_some, renB, renI, renS]
    rfl
theorem sStep_c (m : Mc) (G : Gh) (hR : RightM m) (hlk : m.looks < 1000000000) (hht : m.hits < 1000000000) : CallsA E.P 56 [.agg (mCl 0 1 2 G m)] (mRw G m) (QS (stepM m)) := by
  refine CallsA.body (E := E) (fn := Tryz.f56) Tryz.func56 rfl fun B hB => ?_
  simp only [Tryz.ntmps56, go_sem, nl, Nat.reduceSub, Nat.reduceAdd, List.reduceReplicate]
  have hst := hR.steps
  have hlo := hR.looks
  have hhi := hR.hits
  refine Wp.seqK fun K1 hK1 => ?_
  refine rg ?_
  refine hK1 _ ?_
  clear hK1 K1
  refine Wp.seqK fun K2 hK2 => ?_
  refine Wp.seqU0 [.d, .k, .k, .d5, .d, .v (T (stuckM m)), .d5, .d5, .d, .d] (fun K3 hK3 => ?_) ?_
  · refine rg ?_
    refine grdA_split rfl (fun g1_3 => ?_) (fun g1_3 => ?_)
    · try simp only [decide_eq_true_eq, decide_eq_false_iff_not] at g1_3
      try refine evd ?_
      have e : stuckM m = true := by unfold stuckM; simp [g1_3]
      exact hK3 _ (anyS (h := by rw [e]; rfl))
    · try simp only [decide_eq_true_eq, decide_eq_false_iff_not] at g1_3
      try refine evd ?_
      have e : stuckM m = decide (1000000000 ≤ m.steps) := by
        unfold stuckM
        rw [g1_3, decide_eq_false (show ¬ m.looks = 1000000000 by omega), decide_eq_false (show ¬ m.hits = 1000000000 by omega)]
        simp only [Bool.false_or, Bool.or_false]
        rw [decide_eq_decide]; omega
      exact hK3 _ (anyS (h := by rw [e]; rfl))
  rintro f3
  simp only [updT_k, updT_d, updT_d5, updT_v, updT_nil, Nat.reduceAdd]
  refine Wp.condS (fun h9 => ?_) (fun h9 => ?_)
  · have hd : stepM m = m := if_pos h9
    refine Wp.seqK fun K4 hK4 => ?_
    refine rg ?_
    refine hK4 _ ?_
    clear hK4 K4
    refine Wp.ret (retQS (G := G) hd ?_)
    rfl
  · have hns := stuck_no (m := m) (by rw [h9]; simp)
    have hRt := tick_right hR h9
    have hns2 : ¬ stuckM m = true := by rw [h9]; simp
    refine Wp.skip ?_
    refine hK2 _ ?_
    clear hK2 K2
    refine Wp.seqK fun K5 hK5 => ?_
    refine rg ?_
    refine hK5 _ ?_
    clear hK5 K5
    refine Wp.seqK fun K6 hK6 => ?_
    refine Wp.seqK fun K7 hK7 => ?_
    refine rg ?_
    refine hK7 _ ?_
    clear hK7 K7
    refine Wp.condS (fun h17 => ?_) (fun h17 => ?_)
    · have hd : stepM m = downM (tickM m) := by unfold stepM; rw [if_neg hns2, if_pos h17]
      refine Wp.seqK fun K8 hK8 => ?_
      refine rg ?_
      refine ⟨by first | rfl | decide, CallK.mach (h := sDown_c (tickM m) G hRt (by show m.looks < _; omega) (by show m.hits < _; omega)) (fun G2 => ?_) (fun G2 g2 l2 => ?_)⟩
      · refine evd ?_
        refine hK8 _ ?_
        clear hK8 K8
        refine Wp.ret (retQS (G := G2) hd ?_)
        rfl
      · refine evd ?_
        refine hK8 _ ?_
        clear hK8 K8
        refine Wp.ret (retQS3 (G := G2) hd rfl rfl rfl)
    · have hd : stepM m = upM (tickM m) := by unfold stepM; rw [if_neg hns2, if_neg (by omega)]
      refine Wp.skip ?_
      refine hK6 _ ?_
      clear hK6 K6
      refine Wp.seqK fun K9 hK9 => ?_
      refine rg ?_
      refine ⟨by first | rfl | decide, CallK.mach (h := sUp_c (tickM m) G hRt) (fun G2 => ?_) (fun G2 g2 l2 => ?_)⟩
      · refine evd ?_
        refine hK9 _ ?_
        clear hK9 K9
        refine Wp.ret (retQS (G := G2) hd ?_)
        rfl
      · refine evd ?_
        refine hK9 _ ?_
        clear hK9 K9
        refine Wp.ret (retQS3 (G := G2) hd rfl rfl rfl)

def go2 (m : Mc) : Bool := !m.over && (decide (m.looks < 1000000000) && decide (m.hits < 1000000000))
theorem go2_end {m : Mc} (hR : RightM m) {x k : Nat} (hx : x ≤ k) (h : (decide ((x : Int) < (k : Int)) && go2 (runM x m)) = false) : runM x m = runM k m := by
  by_cases hk : x = k
  · rw [hk]
  · rw [decide_eq_true (by omega), Bool.true_and] at h
    have h1 := run_right x hR
    have h2 := h1.looks
    have h3 := h1.hits
    have hs : stuckM (runM x m) = true := by
      unfold go2 at h
      unfold stuckM
      cases ho : (runM x m).over with
      | true => rfl
      | false =>
        rw [ho] at h
        simp only [Bool.not_false, Bool.true_and, Bool.and_eq_false_iff, decide_eq_false_iff_not] at h
        rcases h with h | h
        · rw [decide_eq_true (show (runM x m).looks = 1000000000 by omega)]; simp
        · rw [decide_eq_true (show (runM x m).hits = 1000000000 by omega)]; simp
    rw [show k = x + (k - x) by omega, runM_add, runM_stuck hs]
theorem go2_t {m : Mc} (h : go2 m = true) : m.looks < 1000000000 ∧ m.hits < 1000000000 := by
  unfold go2 at h
  simp only [Bool.and_eq_true, decide_eq_true_eq] at h
  exact h.2
def QR (m' : Mc) : AV → Obs → Prop := fun r ob => ∃ G, r = .agg (mCl 0 1 2 G m') ∧ ob = mRw G m'
theorem retQR {st : St} {fn : Func} {m m' : Mc} {G : Gh} {a b c : Nat} {cs : List LV} (π : List Nat) (hm : m' = m) (ha : st.ob.getD a none = some ⟨G.gr, m.row.map cb⟩) (hb : st.ob.getD b none = some ⟨G.gv, (m.vals ++ G.jv).map ci⟩) (hc : st.ob.getD c none = some ⟨G.gm, lS (G.pm ++ m.memo)⟩) (hcs : cs = mCl a b c G m)
    (h : resA st.tm st.ob E fn.results.toList = some (.agg cs) := by rfl) (hπ : π = [a, b, c] := by rfl) (hd : π.Nodup := by decide) : retQ E fn 0 (QR m') .ret st := by
  subst hm; subst hcs; subst hπ
  have hab : a ≠ b ∧ a ≠ c ∧ b ≠ c := by simp at hd; omega
  refine ⟨_, [a, b, c], h, Nat.zero_le _, hd, by simp, ⟨0, 0, G.jv, 0, G.pm⟩, ?_, ?_⟩
  · simp only [mCl, mCells, AV.ren, List.map_cons, List.map_nil, lren_obj, lren_sc, keepM_l, keepX_cons, keepX_nil, ha, hb, hc]
    simp [hab, hab.1.symm, hab.2.1.symm, hab.2.2.symm, optO]
  · unfold keepO
    simp only [List.take_zero, List.map_nil, List.nil_append, List.map_cons, ha, hb, hc, Option.map_some, renB, renI, renS]
    rfl
theorem sRun_c (m : Mc) (n : Int) (hf : m.Fits) : CallsA E.P 27 [.agg (mD m), I n] [] (QR (runN m n)) := by
  refine CallsA.body (E := E) (fn := Tryz.f27) Tryz.func27 rfl fun B hB => ?_
  simp only [Tryz.ntmps27, go_sem, nl, Nat.reduceSub, Nat.reduceAdd, List.reduceReplicate]
  have h1 := hf.row
  have h2 := hf.vals
  have h3 := hf.memo
  refine Wp.seqK fun K1 hK1 => ?_
  refine rg ?_
  refine hK1 _ ?_
  clear hK1 K1
  refine Wp.seqK fun K2 hK2 => ?_
  refine rg ?_
  refine ⟨rfl, CallK.retA (h := sCopy_c m h1 h2 h3) (k := ?_) (hf := mR_flat _)⟩
  refine evd ?_
  refine hK2 _ ?_
  clear hK2 K2
  refine Wp.seqK fun K3 hK3 => ?_
  refine Wp.seqU0 [.d, .k, .k, .d, .k, .d5, .d5, .v (T (!okR n m)), .d5, .d5, .d5, .d5, .d, .d, .d, .d] (fun K4 hK4 => ?_) ?_
  · refine rg ?_
    refine ⟨rfl, CallK.valA (h := sMachineOk_c _ hf) (ha := argG (G := ⟨0, 0, [], 0, []⟩) (m := m) (a := 2) (b := 3) (c := 4) rfl (by simp) rfl (by simp [lk]) (by simp [lk]) (by simp [lk])) (k := ?_)⟩
    refine evd ?_
    refine grdA_split rfl (fun g2_4 => ?_) (fun g2_4 => ?_)
    · try simp only [decide_eq_true_eq, decide_eq_false_iff_not] at g2_4
      try refine evd ?_
      have e : okR n m = false := by unfold okR; rw [show mOk m = false by simpa using g2_4, Bool.and_false]
      exact hK4 _ (anyS (h := by rw [e]; rfl))
    · try simp only [decide_eq_true_eq, decide_eq_false_iff_not] at g2_4
      try refine evd ?_
      refine ⟨rfl, CallK.valA (h := l01In_c _ _ _) (k := ?_)⟩
      refine evd ?_
      have e : okR n m = inI n 0 100000 := by unfold okR; rw [show mOk m = true by simpa using g2_4, Bool.and_true]
      exact hK4 _ (anyS (h := by rw [e]; rfl))
  rintro f4
  simp only [updT_k, updT_d, updT_d5, updT_v, updT_nil, Nat.reduceAdd]
  refine Wp.condS (fun h15 => ?_) (fun h15 => ?_)
  · have hno : runN m n = m := if_neg (by rw [h15]; simp)
    refine Wp.seqK fun K5 hK5 => ?_
    refine rg ?_
    refine hK5 _ ?_
    clear hK5 K5
    rw [hno]
    refine Wp.ret (retQR (G := ⟨0, 0, [], 0, []⟩) (a := 2) (b := 3) (c := 4) [2, 3, 4] rfl rfl (by simp) rfl rfl)
  · have hok : okR n m = true := h15
    have hR : RightM m := mOk_iff.1 (by unfold okR at hok; rw [Bool.and_eq_true] at hok; exact hok.2)
    obtain ⟨k, hk⟩ : ∃ k : Nat, n = k := ⟨n.toNat, by unfold okR inI at hok; simp only [Bool.and_eq_true, decide_eq_true_eq] at hok; omega⟩
    have hrun : runN m n = runM k m := by unfold runN; rw [if_pos hok, hk]; rfl
    have hk5 : k ≤ 100000 := by unfold okR inI at hok; simp only [Bool.and_eq_true, decide_eq_true_eq] at hok; omega
    subst hk
    refine Wp.keepR 0 [2, 3, 4, 0, 1] (by rw [hB]; simp) (by simp) (by decide) (by simp) ?_
    refine evd ?_
    refine Wp.skip ?_
    refine hK3 _ ?_
    clear hK3 K3
    refine Wp.seqU (α := Gh) (fun G => [.d, .d, .k, .d, .k, .d5, .d5, .d5, .d5, .d5, .d5, .d5]) (fun G => mRw G (runM k m) ++ [some ⟨0, mCl 0 1 2 G (runM k m)⟩, some ⟨0, [.nils, .sc (.int .i64 0), .sc (.string ⟨#[]⟩), .sc (.int .i64 0), .nils, .sc (.int .i64 0), .sc (.bool false), .sc (.int .i64 0), .sc (.int .i64 0), .sc (.int .i64 0), .nils]⟩]) (fun G => True) (fun K6 hK6 => ?_) ?_
    · refine Wp.seqK fun K7 hK7 => ?_
      refine rg ?_
      refine hK7 _ ?_
      clear hK7 K7
      refine Wp.block ?_
      refine Wp.loopU (α := Nat × Gh) (fun x => [.d, .k, .k, .d, .k, .v (I (x.1 : Int)), .d5, .d5, .d5, .d5, .d5, .d5, .d, .d, .d, .d]) (fun x => mRw x.2 (runM x.1 m) ++ [some ⟨0, mCl 0 1 2 x.2 (runM x.1 m)⟩, some ⟨0, [.nils, .sc (.int .i64 0), .sc (.string ⟨#[]⟩), .sc (.int .i64 0), .nils, .sc (.int .i64 0), .sc (.bool false), .sc (.int .i64 0), .sc (.int .i64 0), .sc (.int .i64 0), .nils]⟩]) (fun x => x.1 ≤ k) (fun x => k - x.1) (0, ⟨0, 0, [], 0, []⟩) (Nat.zero_le _) (anyS (ho := by simp only [mRw, mCl, mCells, runM, List.append_nil]; rfl)) ?_
      rintro x f8 K8 hx hK8
      simp only [updT_k, updT_d, updT_d5, updT_v, updT_nil, Nat.reduceAdd]
      simp only [mRw, mCl, mCells, List.cons_append, List.nil_append]
      refine Wp.seqK fun K9 hK9 => ?_
      refine Wp.seqU0 [.d, .k, .k, .d, .k, .k, .d5, .d5, .d5, .d5, .d5, .d, .d, .d, .v (T (decide ((x.1 : Int) < (k : Int)) && go2 (runM x.1 m))), .d5] (fun K10 hK10 => ?_) ?_
      · refine rg ?_
        refine grdA_split rfl (fun g5_4 => ?_) (fun g5_4 => ?_)
        · try simp only [decide_eq_true_eq, decide_eq_false_iff_not] at g5_4
          try refine evd ?_
          refine grdA_split rfl (fun g5_9 => ?_) (fun g5_9 => ?_)
          · try simp only [decide_eq_true_eq, decide_eq_false_iff_not] at g5_9
            try refine evd ?_
            refine grdA_split rfl (fun g5_14 => ?_) (fun g5_14 => ?_)
            · try simp only [decide_eq_true_eq, decide_eq_false_iff_not] at g5_14
              try refine evd ?_
              have e : (decide ((x.1 : Int) < (k : Int)) && go2 (runM x.1 m)) = decide ((runM x.1 m).hits < 1000000000) := by unfold go2; simp [g5_4, g5_9, g5_14]
              exact hK10 _ (anyS (h := by rw [e]; rfl))
            · try simp only [decide_eq_true_eq, decide_eq_false_iff_not] at g5_14
              try refine evd ?_
              have e : (decide ((x.1 : Int) < (k : Int)) && go2 (runM x.1 m)) = false := by unfold go2; simp [g5_4, g5_9, g5_14]
              exact hK10 _ (anyS (h := by rw [e]; rfl))
          · try simp only [decide_eq_true_eq, decide_eq_false_iff_not] at g5_9
            try refine evd ?_
            have e : (decide ((x.1 : Int) < (k : Int)) && go2 (runM x.1 m)) = false := by unfold go2; simp [g5_4, g5_9]
            exact hK10 _ (anyS (h := by rw [e]; rfl))
        · try simp only [decide_eq_true_eq, decide_eq_false_iff_not] at g5_4
          try refine evd ?_
          have e : (decide ((x.1 : Int) < (k : Int)) && go2 (runM x.1 m)) = false := by unfold go2; simp [g5_4]
          exact hK10 _ (anyS (h := by rw [e]; rfl))
      rintro f10
      simp only [updT_k, updT_d, updT_d5, updT_v, updT_nil, Nat.reduceAdd]
      refine Wp.condS (fun h34 => ?_) (fun h34 => ?_)
      · have hRx := run_right x.1 hR
        have hgo := go2_t h34.2
        have hxk : x.1 < k := by omega
        refine Wp.skip ?_
        refine hK9 _ ?_
        clear hK9 K9
        refine Wp.seqK fun K11 hK11 => ?_
        refine Wp.block ?_
        refine rg ?_
        refine ⟨by first | rfl | decide, CallK.mach (h := sStep_c (runM x.1 m) x.2 hRx hgo.1 hgo.2) (fun G2 => ?_) (fun G2 g2 l2 => ?_)⟩
        · refine evd ?_
          try simp only [thn, inB, if_true, reduceIte]
          refine hK11 _ ?_
          clear hK11 K11
          skip
          refine rg ?_
          exact hK8 (x.1 + 1, G2) _ (by show x.1 + 1 ≤ k; omega) (by show k - (x.1 + 1) < k - x.1; omega) (anyS (ho := by rw [runM_last]; rfl))
        · refine evd ?_
          try simp only [thn, inB, if_true, reduceIte]
          refine hK11 _ ?_
          clear hK11 K11
          refine Wp.keepR 0 [0, 1, 5, 3, 4] (by rw [hB]; simp) (by simp) (by decide) (by simp) ?_
          refine evd ?_
          refine rg ?_
          exact hK8 (x.1 + 1, ⟨0, 0, G2.jv, 0, G2.pm⟩) _ (by show x.1 + 1 ≤ k; omega) (by show k - (x.1 + 1) < k - x.1; omega) (anyS (ho := by rw [runM_last]; rfl))
      · refine Wp.exit ?_
        try simp only [thn, inB, if_true, reduceIte, Nat.zero_ne_one, Nat.one_ne_zero, Nat.reduceEqDiff]
        clear hK9 K9
        clear hK8 K8
        exact hK6 x.2 _ trivial (anyS (ho := by rw [← go2_end hR hx h34]; rfl))
    rintro G3 f6 _
    simp only [updT_k, updT_d, updT_d5, updT_v, updT_nil, Nat.reduceAdd]
    simp only [mRw, mCl, mCells, List.cons_append, List.nil_append]
    refine Wp.seqK fun K12 hK12 => ?_
    refine rg ?_
    refine hK12 _ ?_
    clear hK12 K12
    rw [hrun]
    refine Wp.ret (retQR (G := G3) (a := 0) (b := 1) (c := 2) [0, 1, 2] rfl rfl rfl rfl rfl)
end Go.Proofs.YtonacngeaknlcaaGreatDoor.RE
