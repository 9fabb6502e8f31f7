/- A machine runs, the reference. Conditions: those that a theorem names. -/
import Derived.Test.YtonacngeaknlcaaGreatDoorM5
set_option linter.unusedVariables false
set_option linter.unusedSimpArgs false
namespace Go.Proofs.YtonacngeaknlcaaGreatDoor.RE
open Go Go.RowKit
set_option maxRecDepth 100000
set_option maxHeartbeats 8000000

/-- A machine by value whose rows are handed over; the memo may come in a new row. -/
def QS (m' : Mc) : AV → Obs → Prop := fun r ob => (∃ G', r = .agg (mCl 0 1 2 G' m') ∧ ob = mRw G' m') ∨ (∃ G' g, ∃ l : List Sn, r = .agg (mCl 0 1 3 G' m') ∧ ob = [some ⟨G'.gr, m'.row.map cb⟩, some ⟨G'.gv, (m'.vals ++ G'.jv).map ci⟩, some ⟨g, lS l⟩, some ⟨G'.gm, lS (G'.pm ++ m'.memo)⟩])
theorem mRw_shut (G : Gh) (m : Mc) : obShut 3 (mRw G m) = true := by
  simp only [mRw, obShut, List.all_cons, List.all_nil, flat_shut (flatI _), flat_shut (flatB _), flat_shut (lS_flat _), Bool.and_true]
theorem retQS2 {st : St} {fn : Func} {m m' : Mc} {G : Gh} {g q : Nat} {l : List Sn} {cs : List LV} (hm : m' = m) (hob : st.ob.take 3 = [some ⟨G.gr, m.row.map cb⟩, some ⟨G.gv, (m.vals ++ G.jv).map ci⟩, some ⟨g, lS l⟩]) (h6 : st.ob.getD 6 none = some ⟨q, lS (G.pm ++ m.memo)⟩) (hcs : cs = mCells (.obj 0 G.gr 1 0 m.row.length) (.obj 1 G.gv 1 0 m.vals.length) (.obj 6 q 2 (G.pm.length * 2) m.memo.length) m)
    (h : resA st.tm st.ob E fn.results.toList = some (.agg cs) := by rfl) (hn : 3 ≤ st.ob.length := by simp) : retQ E fn 3 (QS m') .ret st := by
  subst hm; subst hcs
  refine ⟨_, [6], h, hn, by simp, by simp, .inr ⟨{ G with gm := 0 }, g, l, ?_, ?_⟩⟩
  · simp only [mCl, mCells, AV.ren, List.map_cons, List.map_nil, lren_obj, lren_sc, keepM_l, keepX_cons, keepX_nil, h6]
    rfl
  · unfold keepO
    rw [hob]
    simp only [List.map_cons, List.map_nil, h6, Option.map_some, renB, renI, renS]
    rfl
theorem retQS {st : St} {fn : Func} {m m' : Mc} {G : Gh} {cs : List LV} (hm : m' = m) (hob : st.ob.take 3 = mRw G m) (hcs : cs = mCl 0 1 2 G m := by rfl) (h : resA st.tm st.ob E fn.results.toList = some (.agg cs) := by rfl) (hn : 3 ≤ st.ob.length := by simp) : retQ E fn 3 (QS m') .ret st := by
  subst hm; subst hcs
  exact retE (m := 3) (Q := QS m') (x' := .agg (mCl 0 1 2 G m')) (ob' := mRw G m') (.inl ⟨G, rfl, rfl⟩) hob h rfl (mRw_shut _ _) hn

theorem tkey_j (n : Int) (o : ByteArray) (ht : tabN n.toNat o) (hn : 0 ≤ n ∧ n ≤ 12) (ho : o.size ≤ 1048576) : Val E.P 92 [.agg (tb n o)] (S (keyB n o)) := by
  have := sTableKey_c n o ho
  unfold tkT at this
  rwa [if_pos (tab_iff.2 ⟨hn, ht⟩)] at this
theorem argsFind (k g : Nat) (p l : List Sn) (key : ByteArray) : [AV.l (.obj k g 2 (p.length * 2) l.length), S key].map (AV.toC [] [(k, g, encS (p ++ l))]) = [dS l, S key] := by
  have h1 : lk [(k, g, encS (p ++ l))] k g = some (encS (p ++ l)) := by simp [lk]
  simp only [List.map_cons, List.map_nil, AV.toC, LV.toC, h1, encM_mid]; rfl
theorem sDown_c (m : Mc) (G : Gh) (hR : RightM m) (hk : m.looks < 1000000000) (hk2 : m.hits < 1000000000) : CallsA E.P 89 [.agg (mCl 0 1 2 G m)] (mRw G m) (QS (downM m)) := by
  refine CallsA.body (E := E) (fn := Tryz.f89) Tryz.func89 rfl fun B hB => ?_
  simp only [Tryz.ntmps89, go_sem, nl, Nat.reduceSub, Nat.reduceAdd, List.reduceReplicate]
  have hnn := hR.n
  have hvl := hR.vals
  have hml := hR.memo
  have hrm := hR.room
  have hrw := hR.row
  have hrt := hR.ret
  have h12 : m.vals.length ≤ 12 := by omega
  have h40 : m.memo.length ≤ 40 := by omega
  have htl := right_left hR
  have hls : (leftM m).size ≤ 4096 := by
    rw [htl.1]
    exact Nat.pow_le_pow_right (n := 2) (by decide) (show m.n.toNat - m.vals.length ≤ 12 by omega)
  have hst := hR.steps
  have hlo := hR.looks
  have hhi := hR.hits
  have htl2 : tabN (m.n - m.vals.length).toNat (leftM m) := by rwa [show (m.n - m.vals.length).toNat = m.n.toNat - m.vals.length by omega]
  refine Wp.seqK fun K1 hK1 => ?_
  refine rg ?_
  refine hK1 _ ?_
  clear hK1 K1
  refine Wp.seqK fun K2 hK2 => ?_
  refine rg ?_
  refine ⟨rfl, CallK.valA (h := sLeft_c m hR) (ha := argG (G := G) (m := m) rfl rfl rfl (by simp [lk]) (by simp [lk]) (by simp [lk])) (k := ?_)⟩
  refine evd ?_
  refine hK2 _ ?_
  clear hK2 K2
  refine Wp.seqK fun K3 hK3 => ?_
  refine rg ?_
  refine ⟨rfl, CallK.valA (h := sKnown_c _ _ htl2 (by omega)) (k := ?_)⟩
  refine evd ?_
  refine hK3 _ ?_
  clear hK3 K3
  refine Wp.seqK fun K4 hK4 => ?_
  refine Wp.seqK fun K5 hK5 => ?_
  refine rg ?_
  refine hK5 _ ?_
  clear hK5 K5
  refine Wp.condS (fun h10 => ?_) (fun h10 => ?_)
  · have hd : downM m = { m with ret := knownB (leftM m), looks := m.looks + 1 } := if_pos h10
    refine Wp.seqK fun K6 hK6 => ?_
    refine rg ?_
    refine hK6 _ ?_
    clear hK6 K6
    refine Wp.seqK fun K7 hK7 => ?_
    refine rg ?_
    refine hK7 _ ?_
    clear hK7 K7
    refine Wp.seqK fun K8 hK8 => ?_
    refine rg ?_
    refine hK8 _ ?_
    clear hK8 K8
    refine Wp.ret (retQS (G := G) hd ?_)
    rfl
  · have hd0 : ¬ 0 ≤ knownB (leftM m) := by omega
    refine Wp.skip ?_
    refine hK4 _ ?_
    clear hK4 K4
    refine Wp.seqK fun K9 hK9 => ?_
    refine Wp.drawI [0, 1, 2, 3, 4, 5] [3, 4] (by kernel_rfl) ?_
    refine evd ?_
    refine ⟨rfl, CallK.valA (h := tkey_j _ _ htl2 (by omega) (by omega)) (k := ?_)⟩
    refine evd ?_
    refine ⟨rfl, CallK.val [(2, G.gm, encS (G.pm ++ m.memo))] (LendOk.cons false _ rfl rfl (lS_encS _ false).symm LendOk.nil) (by rw [argsFind]; exact sFind_c m.memo (keyM m) (by omega)) rfl ?_⟩
    refine evd ?_
    refine hK9 _ ?_
    clear hK9 K9
    refine Wp.seqK fun K10 hK10 => ?_
    refine Wp.seqK fun K11 hK11 => ?_
    refine rg ?_
    refine hK11 _ ?_
    clear hK11 K11
    refine Wp.condS (fun h24 => ?_) (fun h24 => ?_)
    · have hd : downM m = { m with ret := findM m.memo (keyM m), hits := m.hits + 1 } := by unfold downM; rw [if_neg hd0, if_pos h24]
      refine Wp.seqK fun K12 hK12 => ?_
      refine rg ?_
      refine hK12 _ ?_
      clear hK12 K12
      refine Wp.seqK fun K13 hK13 => ?_
      refine rg ?_
      refine hK13 _ ?_
      clear hK13 K13
      refine Wp.seqK fun K14 hK14 => ?_
      refine rg ?_
      refine hK14 _ ?_
      clear hK14 K14
      refine Wp.ret (retQS (G := G) hd ?_)
      rfl
    · have hd : downM m = { m with vals := m.vals ++ [0] } := by unfold downM; rw [if_neg hd0, if_neg (by omega)]
      refine Wp.skip ?_
      refine hK10 _ ?_
      clear hK10 K10
      refine Wp.seqK fun K15 hK15 => ?_
      refine rg ?_
      rw [takeV]
      refine hK15 _ ?_
      clear hK15 K15
      refine Wp.seqK fun K16 hK16 => ?_
      refine rg ?_
      refine hK16 _ ?_
      clear hK16 K16
      refine Wp.ret (retQS (G := { G with gv := G.gv + 1, jv := [] }) hd ?_ (hcs := by simp only [mCl, mCells, List.length_append, List.length_cons, List.length_nil, Nat.zero_add]; rfl))
      simp only [mOb, mRw, mCl, mCells, List.append_nil, List.nil_append, List.length_append, List.length_cons, List.length_nil, Nat.zero_add]
      rfl
theorem sUp_c (m : Mc) (G : Gh) (hR : RightM m) : CallsA E.P 90 [.agg (mCl 0 1 2 G m)] (mRw G m) (QS (upM m)) := by
  refine CallsA.body (E := E) (fn := Tryz.f90) Tryz.func90 rfl fun B hB => ?_
  simp only [Tryz.ntmps90, go_sem, nl, Nat.reduceSub, Nat.reduceAdd, List.reduceReplicate]
  have hnn := hR.n
  have hvl := hR.vals
  have hml := hR.memo
  have hrm := hR.room
  have hrw := hR.row
  have hrt := hR.ret
  have h12 : m.vals.length ≤ 12 := by omega
  have h40 : m.memo.length ≤ 40 := by omega
  have htl := right_left hR
  have hls : (leftM m).size ≤ 4096 := by
    rw [htl.1]
    exact Nat.pow_le_pow_right (n := 2) (by decide) (show m.n.toNat - m.vals.length ≤ 12 by omega)
  have hfi := idx_find (l := m.memo) (k := keyM m) (mem_iff.1 hR.mem).1
  have hst := hR.steps
  have hlo := hR.looks
  have hhi := hR.hits
  refine Wp.seqK fun K1 hK1 => ?_
  refine rg ?_
  refine hK1 _ ?_
  clear hK1 K1
  refine Wp.seqK fun K2 hK2 => ?_
  refine rg ?_
  refine hK2 _ ?_
  clear hK2 K2
  refine Wp.seqK fun K3 hK3 => ?_
  refine Wp.seqK fun K4 hK4 => ?_
  refine rg ?_
  refine hK4 _ ?_
  clear hK4 K4
  refine Wp.condS (fun h10 => ?_) (fun h10 => ?_)
  · have hl : m.vals.length = 0 := by omega
    have hd : upM m = { m with over := true } := if_pos hl
    refine Wp.seqK fun K5 hK5 => ?_
    refine rg ?_
    refine hK5 _ ?_
    clear hK5 K5
    refine Wp.seqK fun K6 hK6 => ?_
    refine rg ?_
    refine hK6 _ ?_
    clear hK6 K6
    refine Wp.ret (retQS (G := G) hd ?_)
    rfl
  · have hl : ¬ m.vals.length = 0 := by omega
    have hkn : ((m.vals.length : Int) - 1).toNat = m.vals.length - 1 := by omega
    refine Wp.skip ?_
    refine hK3 _ ?_
    clear hK3 K3
    refine Wp.seqK fun K7 hK7 => ?_
    refine Wp.seqU0 [.d, .k, .k, .k, .d5, .d5, .d5, .d5, .d5, .v (T (decide ((m.row.getD (m.vals.length - 1) false ≠ decide (m.ret = 0)) ∧ m.vals.getD (m.vals.length - 1) 0 = 0))), .d5, .d5, .d5, .d5, .d5, .d5, .d5, .d5, .d5, .d] (fun K8 hK8 => ?_) ?_
    · refine Wp.drawI [0, 1, 2, 3, 4, 5, 6, 7] [] (by kernel_rfl) ?_
      refine evd ?_
      refine grdA_split rfl (fun g5_10 => ?_) (fun g5_10 => ?_)
      · try simp only [ne_eq] at g5_10
        try refine evd ?_
        have hP : m.row.getD (m.vals.length - 1) false ≠ decide (m.ret = 0) := by rw [← hkn]; simpa using g5_10
        have e : decide ((m.row.getD (m.vals.length - 1) false ≠ decide (m.ret = 0)) ∧ m.vals.getD (m.vals.length - 1) 0 = 0) = decide ((m.vals ++ G.jv).getD ((m.vals.length : Int) - 1).toNat 0 = 0) := by
          rw [hkn, getD_app (by omega), decide_eq_decide]
          exact ⟨fun h => h.2, fun h => ⟨hP, h⟩⟩
        exact hK8 _ (anyS (h := by rw [e]; rfl))
      · try simp only [ne_eq] at g5_10
        try refine evd ?_
        have hP : ¬ m.row.getD (m.vals.length - 1) false ≠ decide (m.ret = 0) := by rw [← hkn]; simpa using g5_10
        have e : decide ((m.row.getD (m.vals.length - 1) false ≠ decide (m.ret = 0)) ∧ m.vals.getD (m.vals.length - 1) 0 = 0) = false := decide_eq_false fun h => hP h.1
        exact hK8 _ (anyS (h := by rw [e]; rfl))
    rintro f8
    simp only [updT_k, updT_d, updT_d5, updT_v, updT_nil, Nat.reduceAdd]
    refine Wp.condS (fun h29 => ?_) (fun h29 => ?_)
    · have h37 := h29
      have hd : upM m = { m with vals := m.vals.take (m.vals.length - 1) ++ [1], ret := -1 } := by unfold upM; rw [if_neg hl, if_pos h29]
      refine Wp.seqK fun K9 hK9 => ?_
      refine rg ?_
      rw [hkn, setV (show m.vals.length = m.vals.length - 1 + 1 by omega)]
      refine hK9 _ ?_
      clear hK9 K9
      refine Wp.seqK fun K10 hK10 => ?_
      refine rg ?_
      refine hK10 _ ?_
      clear hK10 K10
      refine Wp.seqK fun K11 hK11 => ?_
      refine rg ?_
      refine hK11 _ ?_
      clear hK11 K11
      have e2 : m.vals.length = (m.vals.take (m.vals.length - 1) ++ [1]).length := by simp; omega
      refine Wp.ret (retQS (G := G) hd ?_ (hcs := by simp only [mCl, mCells, ← e2]; rfl))
      simp only [mRw, List.append_assoc, List.cons_append, List.nil_append]
      rfl
    · have h37 := h29
      refine Wp.skip ?_
      refine hK7 _ ?_
      clear hK7 K7
      refine Wp.seqU (α := Mc × Gh) (fun x => [.d, .k, .k, .d5, .d5, .d5, .d5, .d5, .d5, .d5, .d5, .d5, .d5, .d5, .d5, .d5, .d5, .d, .d, .d]) (fun x => mRw x.2 x.1 ++ [some ⟨0, mCl 0 1 2 x.2 x.1⟩, some ⟨0, [.nils, .sc (.int .i64 0), .sc (.string ⟨#[]⟩), .sc (.int .i64 0), .nils, .sc (.int .i64 0), .sc (.bool false), .sc (.int .i64 0), .sc (.int .i64 0), .sc (.int .i64 0), .nils]⟩]) (fun x => x.1 = { m with vals := m.vals.take (m.vals.length - 1) } ∧ x.2 = { G with jv := m.vals.drop (m.vals.length - 1) ++ G.jv }) (fun K12 hK12 => ?_) ?_
      · refine rg ?_
        refine hK12 ({ m with vals := m.vals.take (m.vals.length - 1) }, { G with jv := m.vals.drop (m.vals.length - 1) ++ G.jv }) _ ⟨rfl, rfl⟩ (anyS (ho := ?_))
        have e1 : m.vals ++ G.jv = m.vals.take (m.vals.length - 1) ++ (m.vals.drop (m.vals.length - 1) ++ G.jv) := by rw [← List.append_assoc, List.take_append_drop]
        have e2 : ((m.vals.length : Int) - 1 - 0).toNat = (m.vals.take (m.vals.length - 1)).length := by rw [List.length_take]; omega
        rw [e1, e2]; rfl
      rintro ⟨m2, G2⟩ f12 ⟨hm2, hG2⟩
      simp only [updT_k, updT_d, updT_d5, updT_v, updT_nil, Nat.reduceAdd]
      dsimp only at hm2 hG2 ⊢
      simp only [mRw, mCl, mCells, tb, List.cons_append, List.nil_append]
      have hR2 : RightM m2 := by rw [hm2]; exact pop_right hR hl
      have hnn := hR2.n
      have hvl := hR2.vals
      have hml := hR2.memo
      have hrm := hR2.room
      have htl := right_left hR2
      have hls : (leftM m2).size ≤ 4096 := by
        rw [htl.1]
        exact Nat.pow_le_pow_right (n := 2) (by decide) (show m2.n.toNat - m2.vals.length ≤ 12 by omega)
      have hls2 : (leftB m2.ones m2.vals).size ≤ 4096 := hls
      have hfi := idx_find (l := m2.memo) (k := keyM m2) (mem_iff.1 hR2.mem).1
      have hu : upM m = storeM m2 := by unfold upM; rw [if_neg hl, if_neg h37, hm2]
      have htl2 : tabN (m2.n - m2.vals.length).toNat (leftM m2) := by rwa [show (m2.n - m2.vals.length).toNat = m2.n.toNat - m2.vals.length by omega]
      refine Wp.seqK fun K13 hK13 => ?_
      refine rg ?_
      refine ⟨rfl, CallK.valA (h := sLeft_c m2 hR2) (ha := argG (G := G2) (m := m2) rfl rfl rfl (by simp [lk]) (by simp [lk]) (by simp [lk])) (k := ?_)⟩
      refine evd ?_
      refine ⟨rfl, CallK.valA (h := tkey_j _ _ htl2 (by omega) (by omega)) (k := ?_)⟩
      refine evd ?_
      refine hK13 _ ?_
      clear hK13 K13
      refine Wp.seqK fun K14 hK14 => ?_
      refine Wp.seqU0 [.d, .k, .k, .d, .k, .d5, .d5, .d5, .d5, .d5, .d5, .d5, .d5, .d5, .d, .d, .d, .v (T (decide (0 < m2.room ∧ findM m2.memo (keyM m2) < 0))), .d5, .d5, .d5, .d5, .d, .d] (fun K15 hK15 => ?_) ?_
      · refine rg ?_
        refine grdA_split rfl (fun g11_4 => ?_) (fun g11_4 => ?_)
        · try simp only [decide_eq_true_eq, decide_eq_false_iff_not] at g11_4
          have hroom : 0 < m2.room := by simpa using g11_4
          try refine evd ?_
          refine ⟨rfl, CallK.val [(2, G2.gm, encS (G2.pm ++ m2.memo))] (LendOk.cons false _ rfl rfl (lS_encS _ false).symm LendOk.nil) (by rw [argsFind]; exact sFind_c m2.memo (keyM m2) (by omega)) rfl ?_⟩
          refine evd ?_
          have e : decide (0 < m2.room ∧ findM m2.memo (keyM m2) < 0) = decide (findM m2.memo (keyM m2) < 0) := by rw [decide_eq_decide]; omega
          exact hK15 _ (anyS (h := by rw [e]; rfl))
        · try simp only [decide_eq_true_eq, decide_eq_false_iff_not] at g11_4
          have hroom : ¬ 0 < m2.room := by simpa using g11_4
          try refine evd ?_
          have e : decide (0 < m2.room ∧ findM m2.memo (keyM m2) < 0) = false := decide_eq_false (by omega)
          exact hK15 _ (anyS (h := by rw [e]; rfl))
      rintro f15
      simp only [updT_k, updT_d, updT_d5, updT_v, updT_nil, Nat.reduceAdd]
      refine Wp.condS (fun h53 => ?_) (fun h53 => ?_)
      · have hst2 : upM m = { m2 with memo := pushM m2 } := by rw [hu]; exact if_pos h53
        refine Wp.seqK fun K16 hK16 => ?_
        refine rg ?_
        rw [takeM']
        refine hK16 _ ?_
        clear hK16 K16
        refine Wp.seqK fun K17 hK17 => ?_
        refine rg ?_
        refine hK17 _ ?_
        clear hK17 K17
        refine Wp.condS (fun h68 => ?_) (fun h68 => ?_)
        · have l3 : (((m2.memo.length + 1 : Nat) : Int) - 1).toNat = m2.memo.length := by omega
          have hd : upM m = { m2 with memo := (m2.memo ++ [(⟨keyM m2, m2.ret⟩ : Sn)]).drop 1 } := by rw [hst2]; unfold pushM; rw [if_pos (by omega)]
          refine rg ?_
          rw [l3, if_pos (by omega), show ∀ l : List Sn, List.drop 2 (lS l) = lS (l.drop 1) from fun l => lS_drop l 1]
          refine evd ?_
          refine hK14 _ ?_
          clear hK14 K14
          refine Wp.seqK fun K18 hK18 => ?_
          refine rg ?_
          refine hK18 _ ?_
          clear hK18 K18
          have l2 : ((m2.memo ++ [(⟨keyM m2, m2.ret⟩ : Sn)]).drop 1).length = m2.memo.length := by simp
          refine Wp.ret (retQS2 (G := { G2 with gm := 0, pm := [] }) hd rfl rfl ?_)
          simp only [mCells, l2]
          rfl
        · have hd : upM m = { m2 with memo := (m2.memo ++ [(⟨keyM m2, m2.ret⟩ : Sn)]) } := by rw [hst2]; unfold pushM; rw [if_neg (by omega)]
          refine Wp.skip ?_
          refine hK14 _ ?_
          clear hK14 K14
          refine Wp.seqK fun K19 hK19 => ?_
          refine rg ?_
          refine hK19 _ ?_
          clear hK19 K19
          refine Wp.ret (retQS (G := { G2 with gm := G2.gm + 1, pm := [] }) hd ?_ (hcs := by simp only [mCl, mCells, List.length_append, List.length_cons, List.length_nil, Nat.zero_add]; rfl))
          simp only [mOb, mRw, mCl, mCells, List.append_nil, List.nil_append, List.length_append, List.length_cons, List.length_nil, Nat.zero_add]
          rfl
      · have hd : upM m = m2 := by rw [hu]; exact if_neg h53
        refine Wp.skip ?_
        refine hK14 _ ?_
        clear hK14 K14
        refine Wp.seqK fun K20 hK20 => ?_
        refine rg ?_
        refine hK20 _ ?_
        clear hK20 K20
        refine Wp.ret (retQS (G := G2) hd ?_)
        rfl
end Go.Proofs.YtonacngeaknlcaaGreatDoor.RE
