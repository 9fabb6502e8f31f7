/- A machine steps, the program. Conditions: those that a theorem names. -/
import Derived.Test.YtonacngeaknlcaaGreatDoorM2
import Derived.Test.YtonacngeaknlcaaGreatDoorF1
import Derived.Test.YtonacngeaknlcaaGreatDoorSL
set_option linter.unusedVariables false
set_option linter.unusedSimpArgs false
namespace Go.Proofs.YtonacngeaknlcaaGreatDoor.RE
open Go Go.RowKit
set_option maxRecDepth 100000
set_option maxHeartbeats 8000000

/-! ### A machine in rows of one's own: generations, what stands behind the values, what was taken off the memo's front -/
structure Gh where
  gr : Nat
  gv : Nat
  jv : List Int
  gm : Nat
  pm : List Sn
def mCl (a b c : Nat) (G : Gh) (m : Mc) : List LV := mCells (.obj a G.gr 1 0 m.row.length) (.obj b G.gv 1 0 m.vals.length) (.obj c G.gm 2 (G.pm.length * 2) m.memo.length) m
def mRw (G : Gh) (m : Mc) : Obs := [some ⟨G.gr, m.row.map cb⟩, some ⟨G.gv, (m.vals ++ G.jv).map ci⟩, some ⟨G.gm, lS (G.pm ++ m.memo)⟩]
def mOb (G : Gh) (m : Mc) : Obs := some ⟨0, mCl 1 2 3 G m⟩ :: mRw G m
def QM (m' : Mc) (r0 : AV) : AV → Obs → Prop := fun r ob => ∃ G', r = r0 ∧ ob = mOb G' m'
attribute [go_sem] mCl mRw mOb
theorem mOb_shut (G : Gh) (m : Mc) : obShut 4 (mOb G m) = true := by
  simp only [mOb, mRw, mCl, mCells, obShut, List.all_cons, List.all_nil, flat_shut (flatI _), flat_shut (flatB _), flat_shut (lS_flat _), Bool.and_true]
  rfl
theorem takeV (l j : List Int) (v : Int) : List.take l.length ((l ++ j).map ci) ++ [LV.sc (.int .i64 v)] = (l ++ [v]).map ci := by
  rw [List.map_append, List.take_left' (by simp)]; simp
theorem takeM' (p l : List Sn) (k : ByteArray) (r : Int) : List.drop (p.length * 2) (lS (p ++ l)) ++ [LV.sc (.string k), .sc (.int .i64 r)] = lS (l ++ [⟨k, r⟩]) := by
  rw [lS_app, List.drop_left' (lS_len p), lS_app]; rfl
theorem takeM (p l : List Sn) (k : ByteArray) (r : Int) : List.take (l.length * 2) (List.drop (p.length * 2) (lS (p ++ l))) ++ [LV.sc (.string k), .sc (.int .i64 r)] = lS (l ++ [⟨k, r⟩]) := by
  rw [lS_app, List.drop_left' (lS_len p), List.take_of_length_le (Nat.le_of_eq (lS_len l)), lS_app]; rfl
theorem encV_take (l j : List Int) : List.take l.length (encI (l ++ j)) = encI l := by
  unfold encI
  rw [List.map_append, List.take_left' (by simp)]
theorem encS_app (t u : List Sn) : encS (t ++ u) = encS t ++ encS u := by simp [encS]
theorem encM_mid (p l : List Sn) : List.take (l.length * 2) (List.drop (p.length * 2) (encS (p ++ l))) = encS l := by
  rw [encS_app, List.drop_left' (encS_len p), List.take_of_length_le (Nat.le_of_eq (encS_len l))]
theorem argsLeft (n : Int) (o : ByteArray) (k g : Nat) (l j : List Int) : [AV.agg [.sc (.int .i64 n), .sc (.string o)], .l (.obj k g 1 0 l.length)].map (AV.toC [] [(k, g, encI (l ++ j))]) = [.agg (tb n o), dI l] := by
  have h1 : lk [(k, g, encI (l ++ j))] k g = some (encI (l ++ j)) := by simp [lk]
  simp only [List.map_cons, List.map_nil, AV.toC, LV.toC, h1, List.drop_zero, Nat.mul_one, encV_take]; rfl
theorem memoAt {p l : List Sn} {k : Nat} (h : k < l.length) : (lS (p ++ l)).getD (p.length * 2 + k * 2 + 1) .dead = .sc (.int .i64 (l.getD k default).ret) := by
  have := fLS1 (t := p ++ l) (i := p.length + k) (by rw [List.length_append]; omega)
  rw [show p.length * 2 + k * 2 + 1 = (p.length + k) * 2 + 1 by omega, this]
  congr 3
  rw [List.getD_eq_getElem?_getD, List.getElem?_append_right (by omega), show p.length + k - p.length = k by omega, ← List.getD_eq_getElem?_getD]
theorem seen_c (m : Mc) (G : Gh) (k : ByteArray) (hm : m.memo.length ≤ 1048576) : CallsA E.P 208 [.l (.ptr 0 0 0), S k] (mOb G m) fun r ob => r = I (idxM m.memo k) ∧ ob = mOb G m := by
  refine CallsA.body (E := E) (fn := Tryz.f208) Tryz.func208 rfl fun B hB => ?_
  simp only [Tryz.ntmps208, go_sem, nl, Nat.reduceSub, Nat.reduceAdd, List.reduceReplicate]
  refine Wp.seqK fun K1 hK1 => ?_
  refine rg ?_
  refine hK1 _ ?_
  clear hK1 K1
  refine Wp.seqK fun K2 hK2 => ?_
  refine rg ?_
  refine ⟨by first | rfl | decide, CallK.use (Q := fun r ob => r = I (idxM m.memo k) ∧ ob = [some ⟨0, [ct k]⟩]) [4] [(3, G.gm, encS (G.pm ++ m.memo))] ⟨by simp, by simp, by simp, ?_⟩ ?_ (fun r ob1 ⟨e1, e2⟩ => ?_)⟩
  · intro p hp
    simp only [List.mem_singleton] at hp
    subst hp
    exact ⟨_, rfl, rfl, false, (lS_encS _ false).symm⟩
  · have h1 : lk [(3, G.gm, encS (G.pm ++ m.memo))] 3 G.gm = some (encS (G.pm ++ m.memo)) := by simp [lk]
    simp only [List.map_cons, List.map_nil, AV.toC, LV.toC, h1, encM_mid]
    exact idxFn_c _ _ (by omega)
  subst e1; subst e2
  refine ⟨by simp, .inr ⟨rfl, rfl⟩, ?_⟩
  rw [obB_one (k := 4) (g := 0) (cs := [ct k]) (by simp) rfl]
  refine evd ?_
  refine hK2 _ ?_
  clear hK2 K2
  refine Wp.ret (retE (m := 4) (Q := fun r ob => r = I (idxM m.memo k) ∧ ob = mOb G m) (x' := I (idxM m.memo k)) (ob' := mOb G m) ⟨rfl, rfl⟩ ?_ (hi := mOb_shut _ _))
  rfl
theorem key_j (n : Int) (o : ByteArray) (hn : 0 ≤ n ∧ n ≤ 12) (ho : o.size ≤ 1048576) : Val E.P 160 [.agg (tb n o)] (S (keyB n o)) := by
  have := key_c n.toNat o (by omega) ho
  rwa [Int.toNat_of_nonneg hn.1] at this
theorem down_c (m : Mc) (G : Gh) (hR : RightM m) (hk : m.looks < 1000000000) (hk2 : m.hits < 1000000000) : CallsA E.P 167 [.l (.ptr 0 0 0)] (mOb G m) (QM (downM m) (.tup [])) := by
  refine CallsA.body (E := E) (fn := Tryz.f167) Tryz.func167 rfl fun B hB => ?_
  simp only [Tryz.ntmps167, go_sem, nl, Nat.reduceSub, Nat.reduceAdd, List.reduceReplicate]
  have hnn := hR.n
  have hvl := hR.vals
  have hml := hR.memo
  have hrm := hR.room
  have hrw := hR.row
  have hrt := hR.ret
  have h12 : m.vals.length ≤ 12 := by omega
  have h40 : m.memo.length ≤ 40 := by omega
  have htl := right_left hR
  have hls : (leftM m).size ≤ 4096 := by
    rw [htl.1]
    exact Nat.pow_le_pow_right (n := 2) (by decide) (show m.n.toNat - m.vals.length ≤ 12 by omega)
  have hfi := idx_find (l := m.memo) (k := keyM m) (mem_iff.1 hR.mem).1
  have hst := hR.steps
  have hlo := hR.looks
  have hhi := hR.hits
  refine Wp.seqU (α := Unit) (fun u_ => [.k, .d, .v (.l (.ptr 4 0 0)), .d5, .d5, .d5, .d5, .d5, .d5, .d5, .d5, .d5, .d5, .d5, .d, .d, .d, .d]) (fun u_ => mOb G m ++ [some ⟨0, tb (m.n - m.vals.length) (leftM m)⟩]) (fun u_ => True) (fun K1 hK1 => ?_) ?_
  · refine Wp.drawS [0, 1, 2, 3] [8, 9, 10] (.one 0 (.one 1 (.one 2 (.one 3 (.one 4 (.one 5 (.one 6 (.one 7 (.two 8 9 (.one 9 (.one 10 .done)) (.one 8 (.one 10 .done))))))))))) rfl (by kernel_rfl) ?_
    simp only [flg, strip_mk]
    refine tG_one fun Kt0_1 ht0_1 => ?_
    refine evd ?_
    refine ht0_1 _ ?_
    clear ht0_1 Kt0_1
    refine tG_one fun Kt0_2 ht0_2 => ?_
    refine evd ?_
    refine ht0_2 _ ?_
    clear ht0_2 Kt0_2
    refine tG_one fun Kt0_3 ht0_3 => ?_
    refine evd ?_
    refine ht0_3 _ ?_
    clear ht0_3 Kt0_3
    refine tG_one fun Kt0_4 ht0_4 => ?_
    refine evd ?_
    refine ht0_4 _ ?_
    clear ht0_4 Kt0_4
    refine tG_one fun Kt0_5 ht0_5 => ?_
    refine evd ?_
    refine ht0_5 _ ?_
    clear ht0_5 Kt0_5
    refine tG_one fun Kt0_6 ht0_6 => ?_
    refine evd ?_
    refine ht0_6 _ ?_
    clear ht0_6 Kt0_6
    refine tG_one fun Kt0_7 ht0_7 => ?_
    refine evd ?_
    refine ht0_7 _ ?_
    clear ht0_7 Kt0_7
    refine tG_one fun Kt0_8 ht0_8 => ?_
    refine evd ?_
    refine ht0_8 _ ?_
    clear ht0_8 Kt0_8
    refine tG_two (fun Kt0_9 ht0_9 => ?_) (fun Kt0_9 ht0_9 => ?_)
    · refine evd ?_
      refine ⟨rfl, CallK.val [(2, G.gv, encI (m.vals ++ G.jv))] (LendOk.cons false _ rfl rfl (lI_encI _ false).symm LendOk.nil) (by rw [argsLeft]; exact leftOf_c _ _ _ hR.tab (by omega) hR.va (by omega)) rfl ?_⟩
      refine evd ?_
      refine ht0_9 _ ?_
      clear ht0_9 Kt0_9
      refine tG_one fun Kt0_10 ht0_10 => ?_
      refine evd ?_
      refine ht0_10 _ ?_
      clear ht0_10 Kt0_10
      refine tG_one fun Kt0_11 ht0_11 => ?_
      refine evd ?_
      refine ht0_11 _ ?_
      clear ht0_11 Kt0_11
      refine tG_done ?_
      exact hK1 () _ trivial (anyS)
    · refine evd ?_
      refine ht0_9 _ ?_
      clear ht0_9 Kt0_9
      refine tG_one fun Kt0_12 ht0_12 => ?_
      refine evd ?_
      refine ⟨rfl, CallK.val [(2, G.gv, encI (m.vals ++ G.jv))] (LendOk.cons false _ rfl rfl (lI_encI _ false).symm LendOk.nil) (by rw [argsLeft]; exact leftOf_c _ _ _ hR.tab (by omega) hR.va (by omega)) rfl ?_⟩
      refine evd ?_
      refine ht0_12 _ ?_
      clear ht0_12 Kt0_12
      refine tG_one fun Kt0_13 ht0_13 => ?_
      refine evd ?_
      refine ht0_13 _ ?_
      clear ht0_13 Kt0_13
      refine tG_done ?_
      exact hK1 () _ trivial (anyS)
  rintro _ f1 _
  simp only [updT_k, updT_d, updT_d5, updT_v, updT_nil, Nat.reduceAdd]
  simp only [mOb, mRw, mCl, mCells, tb, List.cons_append, List.nil_append]
  refine Wp.seqK fun K2 hK2 => ?_
  refine Wp.seqK fun K3 hK3 => ?_
  refine rg ?_
  refine ⟨rfl, CallK.valA (h := known_c _ _) (k := ?_)⟩
  refine evd ?_
  refine hK3 _ ?_
  clear hK3 K3
  refine Wp.seqK fun K4 hK4 => ?_
  refine rg ?_
  refine hK4 _ ?_
  clear hK4 K4
  refine Wp.condS (fun h17 => ?_) (fun h17 => ?_)
  · have hd : downM m = { m with ret := knownB (leftM m), looks := m.looks + 1 } := if_pos h17
    refine Wp.seqK fun K5 hK5 => ?_
    refine rg ?_
    refine hK5 _ ?_
    clear hK5 K5
    refine Wp.seqK fun K6 hK6 => ?_
    refine rg ?_
    refine hK6 _ ?_
    clear hK6 K6
    refine Wp.ret (retE (m := 4) (Q := QM (downM m) (.tup [])) (x' := .tup []) (ob' := mOb G ({ m with ret := knownB (leftM m), looks := m.looks + 1 })) ⟨G, rfl, by rw [hd]⟩ ?_ (hi := mOb_shut _ _))
    rfl
  · have hd0 : ¬ 0 ≤ knownB (leftM m) := by omega
    refine Wp.skip ?_
    refine hK2 _ ?_
    clear hK2 K2
    refine Wp.seqK fun K7 hK7 => ?_
    refine Wp.seqK fun K8 hK8 => ?_
    refine rg ?_
    refine ⟨rfl, CallK.valA (h := key_j _ _ (by omega) (by omega)) (k := ?_)⟩
    refine evd ?_
    refine ⟨by first | rfl | decide, CallK.handE 4 (seen_c m G (keyM m) (by omega)) (fun r ob1 ⟨e1, e2⟩ => ⟨mOb G m, [], by rw [e2, List.append_nil], rfl, mOb_shut _ _, ?_⟩) (hs := mOb_shut _ _)⟩
    subst e1
    refine evd ?_
    refine hK8 _ ?_
    clear hK8 K8
    refine Wp.seqK fun K9 hK9 => ?_
    refine rg ?_
    refine hK9 _ ?_
    clear hK9 K9
    refine Wp.condS (fun h34 => ?_) (fun h34 => ?_)
    · have hd : downM m = { m with ret := findM m.memo (keyM m), hits := m.hits + 1 } := by unfold downM; rw [if_neg hd0, if_pos (hfi.1.1 (by omega))]
      refine Wp.seqK fun K10 hK10 => ?_
      refine rg ?_
      rw [memoAt (by omega), (hfi.2.2.2 (by omega)).2]
      refine evd ?_
      refine hK10 _ ?_
      clear hK10 K10
      refine Wp.seqK fun K11 hK11 => ?_
      refine rg ?_
      refine hK11 _ ?_
      clear hK11 K11
      refine Wp.ret (retE (m := 4) (Q := QM (downM m) (.tup [])) (x' := .tup []) (ob' := mOb G ({ m with ret := findM m.memo (keyM m), hits := m.hits + 1 })) ⟨G, rfl, by rw [hd]⟩ ?_ (hi := mOb_shut _ _))
      rfl
    · have hd : downM m = { m with vals := m.vals ++ [0] } := by unfold downM; rw [if_neg hd0, if_neg (fun e => by have := hfi.1.2 e; omega)]
      refine Wp.skip ?_
      refine hK7 _ ?_
      clear hK7 K7
      refine rg ?_
      rw [takeV]
      refine (retE (m := 4) (Q := QM (downM m) (.tup [])) (x' := .tup []) (ob' := mOb { G with gv := G.gv + 1, jv := [] } ({ m with vals := m.vals ++ [0] })) ⟨{ G with gv := G.gv + 1, jv := [] }, rfl, by rw [hd]⟩ ?_ (hi := mOb_shut _ _))
      simp only [mOb, mRw, mCl, mCells, List.append_nil, List.nil_append, List.length_append, List.length_cons, List.length_nil, Nat.zero_add]
      rfl

theorem getD_app {l j : List Int} {k : Nat} (h : k < l.length) : (l ++ j).getD k 0 = l.getD k 0 := by
  rw [List.getD_eq_getElem?_getD, List.getElem?_append_left h, ← List.getD_eq_getElem?_getD]
theorem pop_right {m : Mc} (h : RightM m) (hl : ¬ m.vals.length = 0) : RightM { m with vals := m.vals.take (m.vals.length - 1) } := by
  have hv := h.vals
  refine { h with vals := ?_, va := all_take h.va, over := fun e => absurd (h.over e).2 hl }
  show ((m.vals.take (m.vals.length - 1)).length : Int) ≤ m.n
  rw [List.length_take]; omega
theorem setV {l j : List Int} {k : Nat} (h : l.length = k + 1) (v : Int) : (l ++ j).set k v = l.take k ++ [v] ++ j := by
  rw [List.set_append_left _ _ (by omega), List.set_eq_take_append_cons_drop, if_pos (by omega), List.drop_of_length_le (by omega)]
theorem up_c (m : Mc) (G : Gh) (hR : RightM m) : CallsA E.P 168 [.l (.ptr 0 0 0)] (mOb G m) (QM (upM m) (.tup [])) := by
  refine CallsA.body (E := E) (fn := Tryz.f168) Tryz.func168 rfl fun B hB => ?_
  simp only [Tryz.ntmps168, go_sem, nl, Nat.reduceSub, Nat.reduceAdd, List.reduceReplicate]
  have hnn := hR.n
  have hvl := hR.vals
  have hml := hR.memo
  have hrm := hR.room
  have hrw := hR.row
  have hrt := hR.ret
  have h12 : m.vals.length ≤ 12 := by omega
  have h40 : m.memo.length ≤ 40 := by omega
  have htl := right_left hR
  have hls : (leftM m).size ≤ 4096 := by
    rw [htl.1]
    exact Nat.pow_le_pow_right (n := 2) (by decide) (show m.n.toNat - m.vals.length ≤ 12 by omega)
  have hfi := idx_find (l := m.memo) (k := keyM m) (mem_iff.1 hR.mem).1
  have hst := hR.steps
  have hlo := hR.looks
  have hhi := hR.hits
  refine Wp.seqK fun K1 hK1 => ?_
  refine rg ?_
  refine hK1 _ ?_
  clear hK1 K1
  refine Wp.seqK fun K2 hK2 => ?_
  refine Wp.seqK fun K3 hK3 => ?_
  refine rg ?_
  refine hK3 _ ?_
  clear hK3 K3
  refine Wp.condS (fun h11 => ?_) (fun h11 => ?_)
  · have hl : m.vals.length = 0 := by omega
    have hd : upM m = { m with over := true } := if_pos hl
    refine Wp.seqK fun K4 hK4 => ?_
    refine rg ?_
    refine hK4 _ ?_
    clear hK4 K4
    refine Wp.ret (retE (m := 4) (Q := QM (upM m) (.tup [])) (x' := .tup []) (ob' := mOb G ({ m with over := true })) ⟨G, rfl, by rw [hd]⟩ ?_ (hi := mOb_shut _ _))
    rfl
  · have hl : ¬ m.vals.length = 0 := by omega
    have hkn : ((m.vals.length : Int) - 1).toNat = m.vals.length - 1 := by omega
    refine Wp.skip ?_
    refine hK2 _ ?_
    clear hK2 K2
    refine Wp.seqK fun K5 hK5 => ?_
    refine Wp.seqU0 [.k, .d, .k, .d5, .d5, .d5, .d5, .d5, .d5, .d, .d, .d, .d, .v (T (decide ((m.row.getD (m.vals.length - 1) false ≠ decide (m.ret = 0)) ∧ m.vals.getD (m.vals.length - 1) 0 = 0))), .d5, .d5, .d5, .d5, .d5, .d5, .d5, .d5, .d5, .d5, .d5, .d5, .d5, .d5] (fun K6 hK6 => ?_) ?_
    · refine Wp.drawI [0, 1, 2, 3, 4, 5, 6, 7] [] (by kernel_rfl) ?_
      refine evd ?_
      refine grdA_split rfl (fun g3_14 => ?_) (fun g3_14 => ?_)
      · try simp only [ne_eq] at g3_14
        try refine evd ?_
        have hP : m.row.getD (m.vals.length - 1) false ≠ decide (m.ret = 0) := by rw [← hkn]; simpa using g3_14
        have e : decide ((m.row.getD (m.vals.length - 1) false ≠ decide (m.ret = 0)) ∧ m.vals.getD (m.vals.length - 1) 0 = 0) = decide ((m.vals ++ G.jv).getD ((m.vals.length : Int) - 1).toNat 0 = 0) := by
          rw [hkn, getD_app (by omega), decide_eq_decide]
          exact ⟨fun h => h.2, fun h => ⟨hP, h⟩⟩
        exact hK6 _ (anyS (h := by rw [e]; rfl))
      · try simp only [ne_eq] at g3_14
        try refine evd ?_
        have hP : ¬ m.row.getD (m.vals.length - 1) false ≠ decide (m.ret = 0) := by rw [← hkn]; simpa using g3_14
        have e : decide ((m.row.getD (m.vals.length - 1) false ≠ decide (m.ret = 0)) ∧ m.vals.getD (m.vals.length - 1) 0 = 0) = false := decide_eq_false fun h => hP h.1
        exact hK6 _ (anyS (h := by rw [e]; rfl))
    rintro f6
    simp only [updT_k, updT_d, updT_d5, updT_v, updT_nil, Nat.reduceAdd]
    refine Wp.condS (fun h37 => ?_) (fun h37 => ?_)
    · have hd : upM m = { m with vals := m.vals.take (m.vals.length - 1) ++ [1], ret := -1 } := by unfold upM; rw [if_neg hl, if_pos h37]
      refine Wp.seqK fun K7 hK7 => ?_
      refine rg ?_
      rw [hkn, setV (show m.vals.length = m.vals.length - 1 + 1 by omega)]
      refine hK7 _ ?_
      clear hK7 K7
      refine Wp.seqK fun K8 hK8 => ?_
      refine rg ?_
      refine hK8 _ ?_
      clear hK8 K8
      refine Wp.ret (retE (m := 4) (Q := QM (upM m) (.tup [])) (x' := .tup []) (ob' := mOb G ({ m with vals := m.vals.take (m.vals.length - 1) ++ [1], ret := -1 })) ⟨G, rfl, by rw [hd]⟩ ?_ (hi := mOb_shut _ _))
      have e2 : m.vals.length = (m.vals.take (m.vals.length - 1) ++ [1]).length := by simp; omega
      simp only [mOb, mRw, mCl, mCells, ← e2, List.append_assoc, List.cons_append, List.nil_append]
      rfl
    · refine Wp.skip ?_
      refine hK5 _ ?_
      clear hK5 K5
      refine Wp.seqU (α := Mc × Gh) (fun x => [.k, .d5, .d5, .d5, .d5, .d5, .d5, .d5, .d5, .d5, .d5, .d5, .d5, .d5, .d5, .d5, .d5, .d5, .d5, .d5, .d5, .d5, .d, .d]) (fun x => mOb x.2 x.1) (fun x => x.1 = { m with vals := m.vals.take (m.vals.length - 1) } ∧ x.2 = { G with jv := m.vals.drop (m.vals.length - 1) ++ G.jv }) (fun K9 hK9 => ?_) ?_
      · refine rg ?_
        refine hK9 ({ m with vals := m.vals.take (m.vals.length - 1) }, { G with jv := m.vals.drop (m.vals.length - 1) ++ G.jv }) _ ⟨rfl, rfl⟩ (anyS (ho := ?_))
        have e1 : m.vals ++ G.jv = m.vals.take (m.vals.length - 1) ++ (m.vals.drop (m.vals.length - 1) ++ G.jv) := by rw [← List.append_assoc, List.take_append_drop]
        have e2 : ((m.vals.length : Int) - 1 - 0).toNat = (m.vals.take (m.vals.length - 1)).length := by rw [List.length_take]; omega
        rw [e1, e2]; rfl
      rintro ⟨m2, G2⟩ f9 ⟨hm2, hG2⟩
      simp only [updT_k, updT_d, updT_d5, updT_v, updT_nil, Nat.reduceAdd]
      dsimp only at hm2 hG2 ⊢
      simp only [mOb, mRw, mCl, mCells, tb, List.cons_append, List.nil_append]
      have hR2 : RightM m2 := by rw [hm2]; exact pop_right hR hl
      have hnn := hR2.n
      have hvl := hR2.vals
      have hml := hR2.memo
      have hrm := hR2.room
      have htl := right_left hR2
      have hls : (leftM m2).size ≤ 4096 := by
        rw [htl.1]
        exact Nat.pow_le_pow_right (n := 2) (by decide) (show m2.n.toNat - m2.vals.length ≤ 12 by omega)
      have hls2 : (leftB m2.ones m2.vals).size ≤ 4096 := hls
      have hfi := idx_find (l := m2.memo) (k := keyM m2) (mem_iff.1 hR2.mem).1
      have hu : upM m = storeM m2 := by unfold upM; rw [if_neg hl, if_neg h37, hm2]
      refine Wp.seqK fun K10 hK10 => ?_
      refine Wp.seqK fun K11 hK11 => ?_
      refine rg ?_
      refine hK11 _ ?_
      clear hK11 K11
      refine Wp.condS (fun h60 => ?_) (fun h60 => ?_)
      · have hd : upM m = m2 := by rw [hu]; exact if_neg (fun h => by omega)
        refine Wp.ret (retE (m := 4) (Q := QM (upM m) (.tup [])) (x' := .tup []) (ob' := mOb G2 (m2)) ⟨G2, rfl, by rw [hd]⟩ ?_ (hi := mOb_shut _ _))
        rfl
      · refine Wp.skip ?_
        refine hK10 _ ?_
        clear hK10 K10
        refine Wp.seqK fun K12 hK12 => ?_
        refine Wp.drawI [0, 1, 2, 3, 4, 5, 6, 7] [8, 9] (by kernel_rfl) ?_
        refine evd ?_
        refine ⟨rfl, CallK.val [(2, G2.gv, encI (m2.vals ++ G2.jv))] (LendOk.cons false _ rfl rfl (lI_encI _ false).symm LendOk.nil) (by rw [argsLeft]; exact leftOf_c _ _ _ hR2.tab (by omega) hR2.va (by omega)) rfl ?_⟩
        refine evd ?_
        refine ⟨rfl, CallK.valA (h := key_j _ _ (by omega) (by omega)) (k := ?_)⟩
        refine evd ?_
        refine hK12 _ ?_
        clear hK12 K12
        refine Wp.seqK fun K13 hK13 => ?_
        refine Wp.seqK fun K14 hK14 => ?_
        refine rg ?_
        refine ⟨by first | rfl | decide, CallK.handE 4 (seen_c m2 G2 (keyM m2) (by omega)) (fun r ob1 ⟨e1, e2⟩ => ⟨mOb G2 m2, [], by rw [e2, List.append_nil], rfl, mOb_shut _ _, ?_⟩) (hs := mOb_shut _ _)⟩
        subst e1
        refine evd ?_
        refine hK14 _ ?_
        clear hK14 K14
        refine Wp.condS (fun h74 => ?_) (fun h74 => ?_)
        · have hd : upM m = m2 := by rw [hu]; exact if_neg (fun h => by have := hfi.1.1 (by omega); omega)
          refine Wp.ret (retE (m := 4) (Q := QM (upM m) (.tup [])) (x' := .tup []) (ob' := mOb G2 (m2)) ⟨G2, rfl, by rw [hd]⟩ ?_ (hi := mOb_shut _ _))
          rfl
        · have hst : upM m = { m2 with memo := pushM m2 } := by rw [hu]; exact if_pos ⟨by omega, by have := hfi.1; omega⟩
          refine Wp.skip ?_
          refine hK13 _ ?_
          clear hK13 K13
          refine Wp.seqK fun K15 hK15 => ?_
          refine Wp.drawS [0, 1, 2] [11, 12] (.one 0 (.one 1 (.one 2 (.one 3 (.one 4 (.one 5 (.one 6 (.one 7 (.one 8 (.one 9 (.one 10 (.one 11 (.one 12 (.one 13 (.one 14 (.one 15 .done)))))))))))))))) rfl (by kernel_rfl) ?_
          simp only [flg, strip_mk]
          refine tG_one fun Kt10_1 ht10_1 => ?_
          refine evd ?_
          refine ht10_1 _ ?_
          clear ht10_1 Kt10_1
          refine tG_one fun Kt10_2 ht10_2 => ?_
          refine evd ?_
          refine ht10_2 _ ?_
          clear ht10_2 Kt10_2
          refine tG_one fun Kt10_3 ht10_3 => ?_
          refine evd ?_
          refine ht10_3 _ ?_
          clear ht10_3 Kt10_3
          refine tG_one fun Kt10_4 ht10_4 => ?_
          refine evd ?_
          refine ht10_4 _ ?_
          clear ht10_4 Kt10_4
          refine tG_one fun Kt10_5 ht10_5 => ?_
          refine evd ?_
          refine ht10_5 _ ?_
          clear ht10_5 Kt10_5
          refine tG_one fun Kt10_6 ht10_6 => ?_
          refine evd ?_
          refine ht10_6 _ ?_
          clear ht10_6 Kt10_6
          refine tG_one fun Kt10_7 ht10_7 => ?_
          refine evd ?_
          refine ht10_7 _ ?_
          clear ht10_7 Kt10_7
          refine tG_one fun Kt10_8 ht10_8 => ?_
          refine evd ?_
          refine ht10_8 _ ?_
          clear ht10_8 Kt10_8
          refine tG_one fun Kt10_9 ht10_9 => ?_
          refine evd ?_
          refine ht10_9 _ ?_
          clear ht10_9 Kt10_9
          refine tG_one fun Kt10_10 ht10_10 => ?_
          refine evd ?_
          refine ht10_10 _ ?_
          clear ht10_10 Kt10_10
          refine tG_one fun Kt10_11 ht10_11 => ?_
          refine evd ?_
          refine ht10_11 _ ?_
          clear ht10_11 Kt10_11
          refine tG_one fun Kt10_12 ht10_12 => ?_
          refine evd ?_
          refine ht10_12 _ ?_
          clear ht10_12 Kt10_12
          refine tG_one fun Kt10_13 ht10_13 => ?_
          refine evd ?_
          rw [takeM']
          refine ht10_13 _ ?_
          clear ht10_13 Kt10_13
          refine tG_one fun Kt10_14 ht10_14 => ?_
          refine evd ?_
          refine ht10_14 _ ?_
          clear ht10_14 Kt10_14
          refine tG_one fun Kt10_15 ht10_15 => ?_
          refine evd ?_
          refine ht10_15 _ ?_
          clear ht10_15 Kt10_15
          refine tG_one fun Kt10_16 ht10_16 => ?_
          refine evd ?_
          refine ht10_16 _ ?_
          clear ht10_16 Kt10_16
          refine tG_done ?_
          refine hK15 _ ?_
          clear hK15 K15
          refine Wp.seqK fun K16 hK16 => ?_
          refine Wp.drawI [0, 1, 2, 3, 4, 5, 6, 7] [] (by kernel_rfl) ?_
          refine evd ?_
          refine hK16 _ ?_
          clear hK16 K16
          refine Wp.condS (fun h99 => ?_) (fun h99 => ?_)
          · have hd : upM m = { m2 with memo := (m2.memo ++ [(⟨keyM m2, m2.ret⟩ : Sn)]).drop 1 } := by rw [hst]; unfold pushM; rw [if_pos (by omega)]
            refine rg ?_
            refine (retE (m := 4) (Q := QM (upM m) (.tup [])) (x' := .tup []) (ob' := mOb { G2 with gm := G2.gm + 1, pm := (m2.memo ++ [(⟨keyM m2, m2.ret⟩ : Sn)]).take 1 } ({ m2 with memo := (m2.memo ++ [(⟨keyM m2, m2.ret⟩ : Sn)]).drop 1 })) ⟨{ G2 with gm := G2.gm + 1, pm := (m2.memo ++ [(⟨keyM m2, m2.ret⟩ : Sn)]).take 1 }, rfl, by rw [hd]⟩ ?_ (hi := mOb_shut _ _))
            have l1 : ((m2.memo ++ [(⟨keyM m2, m2.ret⟩ : Sn)]).take 1).length = 1 := by simp
            have l2 : ((m2.memo ++ [(⟨keyM m2, m2.ret⟩ : Sn)]).drop 1).length = m2.memo.length := by simp
            have l3 : (((m2.memo.length + 1 : Nat) : Int) - 1).toNat = m2.memo.length := by omega
            simp only [mOb, mRw, mCl, mCells, List.take_append_drop, l1, l2, l3]
            rfl
          · have hd : upM m = { m2 with memo := (m2.memo ++ [(⟨keyM m2, m2.ret⟩ : Sn)]) } := by rw [hst]; unfold pushM; rw [if_neg (by omega)]
            refine Wp.skip ?_
            refine (retE (m := 4) (Q := QM (upM m) (.tup [])) (x' := .tup []) (ob' := mOb { G2 with gm := G2.gm + 1, pm := [] } ({ m2 with memo := (m2.memo ++ [(⟨keyM m2, m2.ret⟩ : Sn)]) })) ⟨{ G2 with gm := G2.gm + 1, pm := [] }, rfl, by rw [hd]⟩ ?_ (hi := mOb_shut _ _))
            simp only [mOb, mRw, mCl, mCells, List.append_nil, List.nil_append, List.length_append, List.length_cons, List.length_nil, Nat.zero_add]
            rfl
end Go.Proofs.YtonacngeaknlcaaGreatDoor.RE
