/- The law of saving. Conditions: those that a theorem names. -/
import Derived.Test.YtbhlegobhidgkaaDoorXB
set_option linter.unusedVariables false
set_option linter.unusedSimpArgs false
namespace Go.Proofs.YtbhlegobhidgkaaDoor.RE
open Go Go.RowKit
set_option maxRecDepth 100000
set_option maxHeartbeats 8000000

theorem iSave_gd {m : Mc} (h : GoodM m) : Val E.P 8 [.agg (mD m)] (.tup [.l (.sc (.string (saveT m))), TB true]) := by
  have := iSave_c m (good_fits h)
  unfold saveR at this
  rwa [good_save h, if_pos rfl] at this
theorem sSave_gd {m : Mc} (h : GoodM m) : Val E.P 10 [.agg (mD m)] (.tup [.l (.sc (.string (saveT m))), TB true]) := by
  have := sSave_c m (good_fits h)
  unfold saveR at this
  rwa [good_save h, if_pos rfl] at this
theorem saveT_le {m : Mc} (h : GoodM m) : (saveT m).size ≤ 400000 := by
  have := (saveB_n (good_save h)).2.2
  omega
theorem iLoad_gd {m : Mc} (h : GoodM m) : Ret E.P 9 [S (saveT m)] (.tup [.agg (mO 0 1 2 m), TB true]) (mR m) := by
  have hl := loadB_save (good_save h)
  have := iLoad_c (saveT m) (by have := saveT_le h; omega)
  rwa [hl.1, show loadM (saveT m) = m from (if_pos hl.1).trans hl.2] at this
theorem rowBack {r : List Bool} (h : r.length ≤ 12) : Ret E.P 13 [S (mkB (rowT r))] (.tup [.l (.obj 0 0 1 0 r.length), TB true]) [some ⟨0, r.map cb⟩] := by
  have h1 := rowP_ok h
  have hsz : (mkB (rowT r)).size ≤ 1048576 := by
    have h2 := h1.1
    unfold rowOk at h2
    rw [Bool.and_eq_true] at h2
    have := (of_decide_eq_true h2.1).2
    omega
  have := iReadRow_c (mkB (rowT r)) hsz
  rwa [h1.1, h1.2] at this
theorem atY_le {l : List Int} {k : Int} (hk : 0 ≤ k) (h : ∀ x ∈ l, 0 ≤ x ∧ x ≤ 255) : atY l k ≤ 255 := by
  unfold atY
  split
  · have h1 := h _ (mem_getD (l := l) (i := k.toNat) (d := 0) (by omega))
    rw [wr (by omega) (by omega)]
    exact h1.2
  · have := Int.tmod_lt_of_pos (k * 7 + l.length) (show (0 : Int) < 256 by omega)
    omega
theorem cut_count : ∀ {L : List ByteArray}, (∀ x ∈ L, ∀ b ∈ x.data.toList, b ≠ 10) → ∀ k, k < (linB L).length → ((linB L).take k).count 10 < L.length
  | [], _, k, hk => by simp [linB] at hk
  | x :: L, h, k, hk => by
    have e : linB (x :: L) = x.data.toList ++ 10 :: linB L := by simp [linB]
    have hx : ∀ l : List UInt8, (∀ b ∈ l, b ∈ x.data.toList) → l.count 10 = 0 := fun l hl => List.count_eq_zero.2 fun hm => h x List.mem_cons_self 10 (hl 10 hm) rfl
    rw [e] at hk ⊢
    rcases Nat.lt_or_ge x.data.toList.length k with hlt | hge
    · obtain ⟨j, rfl⟩ : ∃ j, k = x.data.toList.length + (j + 1) := ⟨k - x.data.toList.length - 1, by omega⟩
      rw [List.take_length_add_append, List.take_succ_cons, List.count_append, hx _ (fun b hb => hb), List.count_cons_self, List.length_cons]
      have := cut_count (fun y hy => h y (List.mem_cons_of_mem _ hy)) j (by simp only [List.length_append, List.length_cons] at hk; omega)
      omega
    · rw [List.take_append_of_le_length hge, hx _ fun b hb => List.mem_of_mem_take hb, List.length_cons]
      omega
theorem cut_no {m : Mc} (h : saveB m = true) (h0 : m.memo.length = 0) {k : Nat} (hk : k < (saveT m).size) : loadB ((saveT m).extract 0 k) = false := by
  obtain ⟨hn, hp, hs⟩ := saveB_n h
  refine load_no (decide_eq_false fun hc => ?_)
  have h8 := hc.2
  unfold pcs at h8
  rw [List.length_map, spl_count, ext_list, List.drop_zero] at h8
  simp only [Nat.sub_zero] at h8
  have e : (saveT m).data.toList = linB (saveL m) := mkB_list _
  rw [e] at h8
  have hk2 : k < (linB (saveL m)).length := by rw [← e, ← size_list]; exact hk
  have h7 := cut_count (lines_ok hn hp) k hk2
  have hl : (saveL m).length = 7 + m.memo.length := by simp [saveL, headL]; omega
  omega
theorem saveT_pos (m : Mc) : 1 ≤ (saveT m).size := by
  unfold saveT
  rw [mkB_size]
  have : linB (saveL m) = (rowL m).data.toList ++ 10 :: linB ((saveL m).drop 1) := by simp [linB, saveL, headL]
  rw [this, List.length_append, List.length_cons]
  omega
theorem lawSave3_c (l : List Int) (hlen : (l.length : Int) ≤ 9223372036854775807) (hb : ∀ x ∈ l, 0 ≤ x ∧ x ≤ 255) : Val E.P 3 [dY l] (T true) := by
  refine CallsA.body (E := E) (fn := Tryd.f3) Tryd.func3 rfl fun B hB => ?_
  simp only [Tryd.ntmps3, go_sem, nl, Nat.reduceSub, Nat.reduceAdd, List.reduceReplicate]
  refine Wp.seqK fun K1 hK1 => ?_
  refine rg ?_
  refine hK1 _ ?_
  clear hK1 K1
  refine Wp.seqK fun K2 hK2 => ?_
  refine Wp.seqK fun K3 hK3 => ?_
  refine rg ?_
  refine ⟨rfl, CallK.valA (h := bigB_c _) (k := ?_)⟩
  refine evd ?_
  refine hK3 _ ?_
  clear hK3 K3
  refine Wp.condS (fun h22 => ?_) (fun h22 => ?_)
  · refine Wp.seqK fun K4 hK4 => ?_
    refine rg ?_
    refine hK4 _ ?_
    clear hK4 K4
    refine Wp.ret (retV ?_)
    try simp only [List.getD_cons_zero, List.getD_cons_succ]
    try rfl
  · have hl : l.length ≤ 1048576 := by omega
    refine Wp.skip ?_
    refine hK2 _ ?_
    clear hK2 K2
    refine Wp.seqK fun K5 hK5 => ?_
    refine rg ?_
    refine ⟨rfl, CallK.machD (h := draw_c l hl) (fun G m hg hc => ?_)⟩
    have hle := saveT_le hg
    refine evd ?_
    refine hK5 _ ?_
    clear hK5 K5
    refine Wp.seqK fun K6 hK6 => ?_
    refine rg ?_
    refine ⟨rfl, CallK.valA (h := iSave_gd hg) (ha := argG (G := G) (m := m) (a := 0) (b := 1) (c := 2) rfl rfl rfl (by simp [lk]) (by simp [lk]) (by simp [lk])) (k := ?_)⟩
    refine evd ?_
    refine hK6 _ ?_
    clear hK6 K6
    refine Wp.seqK fun K7 hK7 => ?_
    refine rg ?_
    refine ⟨rfl, CallK.retA (h := iLoad_gd hg) (ha := .same rfl .nil) (k := ?_) (hf := mR_flat _)⟩
    refine evd ?_
    refine hK7 _ ?_
    clear hK7 K7
    refine Wp.seqK fun K8 hK8 => ?_
    refine rg ?_
    refine ⟨rfl, CallK.valA (h := sSave_gd hg) (ha := argG (G := G) (m := m) (a := 0) (b := 1) (c := 2) rfl rfl rfl (by simp [lk]) (by simp [lk]) (by simp [lk])) (k := ?_)⟩
    refine evd ?_
    refine hK8 _ ?_
    clear hK8 K8
    refine Wp.seqK fun K9 hK9 => ?_
    refine Wp.seqK fun K10 hK10 => ?_
    refine rg ?_
    refine hK10 _ ?_
    clear hK10 K10
    refine Wp.condS (fun h50 => ?_) (fun h50 => ?_)
    · first | exact h50.elim | exact absurd h50 (by decide) | omega | simp at h50
    · refine Wp.skip ?_
      refine hK9 _ ?_
      clear hK9 K9
      refine Wp.seqK fun K11 hK11 => ?_
      refine rg ?_
      refine ⟨rfl, CallK.valA (h := atY_c _ _ (by omega) (by omega)) (k := ?_)⟩
      refine evd ?_
      refine hK11 _ ?_
      clear hK11 K11
      refine Wp.seqK fun K12 hK12 => ?_
      obtain ⟨n, hn⟩ : ∃ n : Nat, atY l 3 = n := ⟨(atY l 3).toNat, by have := atY_nn (l := l) (k := 3) (by omega) hb; omega⟩
      have hn2 := atY_le (l := l) (k := 3) (by omega) hb
      rw [hn]
      have hgM := run_good n hg
      have h6 := row_len hg
      have hsz1 : 1 ≤ (saveT m).size := saveT_pos m
      obtain ⟨k, hk, hkn⟩ := rem_nat (atY_nn (l := l) (k := 4) (by omega) hb) (show (0 : Int) < ((saveT m).size : Int) by omega)
      have hcut : loadB ((saveT m).extract 0 k) = true → 0 < m.memo.length := fun hy => by
        rcases Nat.eq_zero_or_pos m.memo.length with h0 | h0
        · rw [cut_no (good_save hg) h0 (by omega)] at hy; cases hy
        · exact h0
      refine rg ?_
      refine ⟨rfl, CallK.retA (h := iRun_m (a := 0) (b := n) (c := n) (m := m) hg (by omega) rfl (by omega)) (ha := argGI (G := G) (m := m) (a := 0) (b := 1) (c := 2) rfl rfl rfl (by simp [lk]) (by simp [lk]) (by simp [lk])) (k := ?_) (hf := mR_flat _)⟩
      refine evd ?_
      refine ⟨rfl, CallK.valA (h := iSave_gd hgM) (ha := argG (G := ⟨0, 0, [], 0, []⟩) (m := (runM n m)) (a := 8) (b := 9) (c := 10) rfl (by simp) rfl (by simp [lk]) (by simp [lk]) (by simp [lk])) (k := ?_)⟩
      refine evd ?_
      refine hK12 _ ?_
      clear hK12 K12
      refine Wp.seqK fun K13 hK13 => ?_
      refine rg ?_
      refine ⟨rfl, CallK.retA (h := iRun_m (a := 0) (b := n) (c := n) (m := m) hg (by omega) rfl (by omega)) (ha := argGI (G := ⟨0, 0, [], 0, []⟩) (m := m) (a := 4) (b := 5) (c := 6) rfl (by simp) rfl (by simp [lk]) (by simp [lk]) (by simp [lk])) (k := ?_) (hf := mR_flat _)⟩
      refine evd ?_
      refine ⟨rfl, CallK.valA (h := iSave_gd hgM) (ha := argG (G := ⟨0, 0, [], 0, []⟩) (m := (runM n m)) (a := 11) (b := 12) (c := 13) rfl (by simp) rfl (by simp [lk]) (by simp [lk]) (by simp [lk])) (k := ?_)⟩
      refine evd ?_
      refine hK13 _ ?_
      clear hK13 K13
      refine Wp.seqK fun K14 hK14 => ?_
      refine rg ?_
      refine ⟨rfl, CallK.valA (h := atY_c _ _ (by omega) (by omega)) (k := ?_)⟩
      refine evd ?_
      rw [hk]
      refine evd ?_
      refine ⟨rfl, CallK.retA (h := iLoad_c ((saveT m).extract 0 k) (by have := ext_le (saveT m) 0 k; omega)) (ha := .same rfl .nil) (k := ?_) (hf := mR_flat _)⟩
      refine evd ?_
      refine hK14 _ ?_
      clear hK14 K14
      refine Wp.seqK fun K15 hK15 => ?_
      refine rg ?_
      refine ⟨rfl, CallK.valA (h := iRowText_c m.row (by omega)) (ha := .rowB rfl rfl (by simp [lk]) .nil) (k := ?_)⟩
      refine evd ?_
      refine ⟨rfl, CallK.retA (h := rowBack (r := m.row) (by omega)) (ha := .same rfl .nil) (k := ?_)⟩
      refine evd ?_
      refine hK15 _ ?_
      clear hK15 K15
      refine Wp.seqK fun K16 hK16 => ?_
      refine rg ?_
      refine ⟨rfl, CallK.retA (h := iRun_m (a := 0) (b := n) (c := n) (m := m) hg (by omega) rfl (by omega)) (ha := argGI (G := G) (m := m) (a := 0) (b := 1) (c := 2) rfl rfl rfl (by simp [lk]) (by simp [lk]) (by simp [lk])) (k := ?_) (hf := mR_flat _)⟩
      refine evd ?_
      refine ⟨rfl, CallK.valA (h := sSave_gd hgM) (ha := argG (G := ⟨0, 0, [], 0, []⟩) (m := (runM n m)) (a := 19) (b := 20) (c := 21) rfl (by simp) rfl (by simp [lk]) (by simp [lk]) (by simp [lk])) (k := ?_)⟩
      refine evd ?_
      refine hK16 _ ?_
      clear hK16 K16
      refine Wp.seqU0 [.d, .d, .v (T true), .d5, .d5, .d5, .d5, .d5, .d5, .d5, .d5, .d5, .d5, .d5, .d5, .d5, .d5, .d5, .d5, .d5, .d5, .d5, .d5, .d5, .d5, .d5, .d5, .d] (fun K17 hK17 => ?_) ?_
      · refine rg ?_
        refine grdA_split rfl (fun g15_26 => ?_) (fun g15_26 => ?_)
        · try simp only [decide_eq_true_eq, decide_eq_false_iff_not] at g15_26
          try refine evd ?_
          exact hK17 _ anyS
        · try simp only [decide_eq_true_eq, decide_eq_false_iff_not] at g15_26
          try refine evd ?_
          exact hK17 _ (anyS (h := by rw [decide_eq_true (show (0 : Int) < (m.memo.length : Int) by have := hcut (by simpa using g15_26); omega)]; rfl))
      rintro f17
      simp only [updT_k, updT_d, updT_d5, updT_v, updT_nil, Nat.reduceAdd]
      refine Wp.ret (retV ?_)
      try simp only [List.getD_cons_zero, List.getD_cons_succ]
      try rfl

theorem bytesY (l : List UInt8) : (l.flatMap fun n : UInt8 => [DV.sc (.int .u8 (n.toNat : Int))]) = encY (l.map fun n => (n.toNat : Int)) := by
  unfold encY
  induction l with
  | nil => rfl
  | cons a l ih => simp only [List.flatMap_cons, List.map_cons, List.cons_append, List.nil_append]; rw [ih]
theorem lawSave3_b (l : List UInt8) (hlen : (l.length : Int) ≤ 9223372036854775807) : Val E.P 3 [.l (.dsl true l.length (l.flatMap fun n : UInt8 => [DV.sc (.int .u8 (n.toNat : Int))]))] (T true) := by
  rw [bytesY]
  have := lawSave3_c (l.map fun n => (n.toNat : Int)) (by rw [List.length_map]; exact hlen) (fun x hx => by
    obtain ⟨b, _, rfl⟩ := List.mem_map.1 hx
    have := b.toNat_lt
    omega)
  simp only [dY, List.length_map] at this
  exact this
end Go.Proofs.YtbhlegobhidgkaaDoor.RE
