/- What a text of a machine is read as, plain. Conditions: those that a theorem names. -/
import Derived.Test.YtbhlegobhidgkaaDoorS4
import Derived.Test.YtbhlegobhidgkaaDoorXA
import Derived.Test.YtbhlegobhidgkaaDoorRV
import Derived.Test.YtbhlegobhidgkaaDoorRS
/-! What a text of a machine is read as, plain. Conditions: those that a theorem names. -/
set_option linter.unusedVariables false
set_option linter.unusedSimpArgs false
namespace Go.Proofs.YtbhlegobhidgkaaDoor.RE
open Go Go.RowKit
set_option maxRecDepth 100000
set_option maxHeartbeats 8000000
/-! ### Pieces between bytes -/
theorem spl_lin : ∀ {L : List ByteArray}, (∀ x ∈ L, ∀ b ∈ x.data.toList, b ≠ 10) → splB 10 (linB L) = L.map (·.data.toList) ++ [[]]
  | [], _ => rfl
  | x :: L, h => by
    have e : linB (x :: L) = x.data.toList ++ 10 :: linB L := by simp [linB]
    rw [e, spl_cut (h x List.mem_cons_self), spl_lin fun y hy => h y (List.mem_cons_of_mem _ hy)]
    rfl
theorem pcs_lin {L : List ByteArray} (h : ∀ x ∈ L, ∀ b ∈ x.data.toList, b ≠ 10) : pcs 10 (mkB (linB L)) = L ++ [⟨#[]⟩] := by
  unfold pcs
  rw [mkB_list, spl_lin h, List.map_append, List.map_map]
  congr 1
  exact (List.map_congr_left (g := id) fun x _ => mkB_of x).trans (List.map_id L)
/-! ### Words -/
/-- Bytes that neither end a line nor a word. -/
def cl (b : UInt8) : Bool := b != 10 && b != 32
def clL (l : List UInt8) : Bool := l.all cl
theorem cl_ne {l : List UInt8} (h : clL l = true) : (∀ b ∈ l, b ≠ 10) ∧ ∀ b ∈ l, b ≠ 32 := by
  refine ⟨fun b hb => ?_, fun b hb => ?_⟩ <;> have := List.all_eq_true.1 h b hb <;> simp [cl] at this
  · exact this.1
  · exact this.2
theorem cl_dig {b : UInt8} (h : digB b = true) : cl b = true := by
  simp only [digB, Bool.and_eq_true, decide_eq_true_eq] at h
  unfold cl
  simp only [Bool.and_eq_true, bne_iff_ne]
  refine ⟨fun e => ?_, fun e => ?_⟩ <;> · subst e; revert h; decide
theorem all_cl {l : List UInt8} (h : l.all digB = true) : clL l = true := List.all_eq_true.2 fun b hb => cl_dig (List.all_eq_true.1 h b hb)
theorem decL_cl (n : Nat) : clL (decL n) = true := all_cl (decL_dig n)
theorem rowT_cl (r : List Bool) : clL (rowT r) = true := by
  unfold rowT
  split
  · rfl
  · refine List.all_eq_true.2 fun b hb => ?_
    obtain ⟨x, _, rfl⟩ := List.mem_map.1 hb
    cases x <;> rfl
theorem valsT_cl {v : List Int} (h : v.all bitI = true) : clL (valsT v) = true := by
  unfold valsT
  split
  · rfl
  · refine List.all_eq_true.2 fun b hb => ?_
    obtain ⟨x, hx, rfl⟩ := List.mem_map.1 hb
    have := bitI_le (List.all_eq_true.1 h x hx)
    exact cl_dig (dig_digB (by omega))
theorem retT_cl (n : Int) : clL (retT n) = true := by
  unfold retT
  split
  · rfl
  · exact decL_cl _
theorem clL_app {a b : List UInt8} (h1 : clL a = true) (h2 : clL b = true) : clL (a ++ b) = true := by
  unfold clL at *
  rw [List.all_append, h1, h2]; rfl
theorem tab_bits {n : Int} {o : ByteArray} (h : tableOk n o = true) : o.data.toList.all bitB = true := by
  unfold tableOk at h
  rw [Bool.and_eq_true] at h
  exact h.2
theorem keyB_cl {n : Int} {o : ByteArray} (h : tableOk n o = true) : clL (keyB n o).data.toList = true := by
  rw [keyB_list]
  refine clL_app (decL_cl _) ?_
  show (cl 58 && clL o.data.toList) = true
  rw [show clL o.data.toList = true from all_cl (List.all_eq_true.2 fun b hb => bit_digB (List.all_eq_true.1 (tab_bits h) b hb))]; rfl
theorem plain_cl {s : ByteArray} (h : plainB s = true) : clL s.data.toList = true := by
  unfold plainB at h
  rw [Bool.and_eq_true] at h
  refine List.all_eq_true.2 fun b hb => ?_
  have := List.all_eq_true.1 h.2 b hb
  rw [Bool.or_eq_true] at this
  rcases this with h | h
  · rw [beq_iff_eq] at h; subst h; rfl
  · exact cl_dig h
/-- A line of a name and one word, or three. -/
theorem words_one {nm w : List UInt8} (h1 : clL nm = true) (h2 : clL w = true) : pcs 32 (mkB (nm ++ 32 :: w)) = [mkB nm, mkB w] := by
  rw [pcs_two (cl_ne h1).2, pcs_one (cl_ne h2).2]
theorem words_two {nm w x : List UInt8} (h1 : clL nm = true) (h2 : clL w = true) (h3 : clL x = true) : pcs 32 (mkB (nm ++ 32 :: (w ++ 32 :: x))) = [mkB nm, mkB w, mkB x] := by
  rw [pcs_two (cl_ne h1).2, words_one h2 h3]
theorem words_three {nm w x y : List UInt8} (h1 : clL nm = true) (h2 : clL w = true) (h3 : clL x = true) (h4 : clL y = true) : pcs 32 (mkB (nm ++ 32 :: (w ++ 32 :: (x ++ 32 :: y)))) = [mkB nm, mkB w, mkB x, mkB y] := by
  rw [pcs_two (cl_ne h1).2, words_two h2 h3 h4]
theorem row_w (m : Mc) : pcs 32 (rowL m) = [mkB nRow, mkB (rowT m.row)] := by
  rw [show rowL m = mkB (nRow ++ 32 :: rowT m.row) from ba_ext (by unfold rowL; rw [bapp]; rfl), words_one rfl (rowT_cl _)]
theorem table_w {m : Mc} (h : tableOk m.n m.ones = true) : pcs 32 (tableL m) = [mkB nTable, keyB m.n m.ones] := by
  have e : tableL m = mkB (nTable ++ 32 :: (keyB m.n m.ones).data.toList) := ba_ext (by unfold tableL; rw [bapp, mkB_list]; rfl)
  rw [e, words_one rfl (keyB_cl h), mkB_of]
theorem room_w (m : Mc) : pcs 32 (roomL m) = [mkB nRoom, decB m.room] := by
  rw [show roomL m = mkB (nRoom ++ 32 :: decL m.room.toNat) from ba_ext (by unfold roomL; rw [bapp]; rfl), words_one rfl (decL_cl _)]; rfl
theorem vals_w {m : Mc} (h : m.vals.all bitI = true) : pcs 32 (valsL m) = [mkB nVals, mkB (valsT m.vals)] := by
  rw [show valsL m = mkB (nVals ++ 32 :: valsT m.vals) from ba_ext (by unfold valsL; rw [bapp]; rfl), words_one rfl (valsT_cl h)]
theorem ret_w (m : Mc) : pcs 32 (retL' m) = [mkB nRet, mkB (retT m.ret)] := by
  rw [show retL' m = mkB (nRet ++ 32 :: retT m.ret) from ba_ext (by unfold retL'; rw [bapp]; rfl), words_one rfl (retT_cl _)]
theorem over_w (m : Mc) : pcs 32 (overL m) = [mkB nOver, decB (b01 m.over)] := by
  rw [show overL m = mkB (nOver ++ 32 :: decL (b01 m.over).toNat) from ba_ext (by unfold overL; rw [bapp]; rfl), words_one rfl (decL_cl _)]; rfl
theorem cnt_w (m : Mc) : pcs 32 (cntL m) = [mkB nCnt, decB m.steps, decB m.looks, decB m.hits] := by
  have e : cntL m = mkB (nCnt ++ 32 :: (decL m.steps.toNat ++ 32 :: (decL m.looks.toNat ++ 32 :: decL m.hits.toNat))) := ba_ext (by
    unfold cntL decB sp
    rw [bapp, bapp, bapp, bapp, bapp]
    simp [mkB_list, nCnt])
  rw [e, words_three rfl (decL_cl _) (decL_cl _) (decL_cl _)]; rfl
theorem seen_w {s : Sn} (h : plainB s.key = true) : pcs 32 (seenL s) = [mkB nSeen, s.key, decB s.ret] := by
  have e : seenL s = mkB (nSeen ++ 32 :: (s.key.data.toList ++ 32 :: decL s.ret.toNat)) := ba_ext (by
    unfold seenL decB sp
    rw [bapp, bapp, bapp]
    simp [mkB_list, nSeen])
  rw [e, words_two rfl (plain_cl h) (decL_cl _), mkB_of]; rfl
/-- No line holds a line's end. -/
theorem w_no10 {l : ByteArray} {ws : List ByteArray} (h : ∀ b ∈ l.data.toList, b ≠ 10) : True := trivial
theorem app_no {a b : List UInt8} {c : UInt8} (h1 : ∀ x ∈ a, x ≠ c) (h2 : ∀ x ∈ b, x ≠ c) : ∀ x ∈ a ++ b, x ≠ c := fun x hx => by
  rcases List.mem_append.1 hx with h | h
  · exact h1 x h
  · exact h2 x h
theorem lines_ok {m : Mc} (hn : OkN m) (hp : allP m = true) : ∀ x ∈ saveL m, ∀ b ∈ x.data.toList, b ≠ 10 := by
  intro x hx
  unfold saveL headL at hx
  simp only [List.cons_append, List.nil_append, List.mem_cons, List.mem_map] at hx
  have d : ∀ n : Int, ∀ b ∈ (decB n).data.toList, b ≠ 10 := fun n => (cl_ne (decL_cl n.toNat)).1
  have s10 : ∀ b ∈ sp.data.toList, b ≠ 10 := by decide
  rcases hx with rfl | rfl | rfl | rfl | rfl | rfl | rfl | ⟨s, hs, rfl⟩
  · unfold rowL; rw [bapp]; exact app_no (by decide) (cl_ne (rowT_cl _)).1
  · unfold tableL; rw [bapp]; exact app_no (by decide) (cl_ne (keyB_cl hn.tab)).1
  · unfold roomL; rw [bapp]; exact app_no (by decide) (d _)
  · unfold valsL; rw [bapp]; exact app_no (by decide) (cl_ne (valsT_cl hn.va)).1
  · unfold retL'; rw [bapp]; exact app_no (by decide) (cl_ne (retT_cl _)).1
  · unfold overL; rw [bapp]; exact app_no (by decide) (d _)
  · unfold cntL; rw [bapp, bapp, bapp, bapp, bapp]; exact app_no (app_no (app_no (app_no (app_no (by decide) (d _)) s10) (d _)) s10) (d _)
  · unfold seenL; rw [bapp, bapp, bapp]; exact app_no (app_no (app_no (by decide) (cl_ne (plain_cl (List.all_eq_true.1 hp s hs))).1) s10) (d _)
theorem save_pcs {m : Mc} (hn : OkN m) (hp : allP m = true) : pcs 10 (saveT m) = saveL m ++ [⟨#[]⟩] := pcs_lin (lines_ok hn hp)
/-! ### What is read -/
theorem rowP_ok {r : List Bool} (h : r.length ≤ 12) : rowOk (mkB (rowT r)) = true ∧ rowQ (mkB (rowT r)) = r := by
  have e : rowsOf (mkB (rowT r)) = r := by
    unfold rowsOf rowT
    by_cases h0 : r = []
    · subst h0; rfl
    · rw [if_neg h0, if_neg]
      · rw [mkB_list, List.map_map]
        exact (List.map_congr_left (g := id) fun x _ => by cases x <;> rfl).trans (List.map_id r)
      · intro e
        have := congrArg (fun b : ByteArray => b.data.toList) e
        simp only [mkB_list] at this
        cases r with
        | nil => exact h0 rfl
        | cons x r =>
          have h2 := congrArg (fun l => l.getD 0 0) this
          cases x <;> exact absurd h2 (by simp)
  have h1 : rowOk (mkB (rowT r)) = true := by
    unfold rowOk
    rw [e, decide_eq_true rfl, Bool.and_true, decide_eq_true]
    refine ⟨fun e => ?_, ?_⟩
    · have := congrArg ByteArray.size e
      rw [mkB_size] at this
      unfold rowT at this
      split at this
      · cases this
      · rename_i h0
        rw [List.length_map] at this
        exact h0 (List.eq_nil_of_length_eq_zero this)
    · rw [mkB_size]
      unfold rowT
      split
      · decide
      · simpa using h
  exact ⟨h1, by unfold rowQ; rw [if_pos h1, e]⟩
theorem dig_val {x : Int} (h : bitI x = true) : ((dig x.toNat).toNat : Int) - 48 = x ∧ dig x.toNat ≠ 45 := by
  have := of_decide_eq_true h
  rcases this with h | h <;> subst h <;> decide
theorem bitsI_ok {v : List Int} (h : v.all bitI = true) : bitsI (mkB (valsT v)) = v := by
  unfold bitsI valsT
  rw [mkB_list]
  by_cases h0 : v = []
  · subst h0; rfl
  · rw [if_neg h0, List.filter_eq_self.2, List.map_map]
    · exact (List.map_congr_left (g := id) fun x hx => (dig_val (List.all_eq_true.1 h x hx)).1).trans (List.map_id v)
    · intro b hb
      obtain ⟨x, hx, rfl⟩ := List.mem_map.1 hb
      simpa using (dig_val (List.all_eq_true.1 h x hx)).2
theorem bitsS_ok {v : List Int} (h : v.all bitI = true) : bitsS (mkB (valsT v)) = v := by
  unfold bitsS valsT
  by_cases h0 : v = []
  · subst h0; rfl
  · rw [if_neg h0, if_neg, mkB_list, List.map_map]
    · exact (List.map_congr_left (g := id) fun x hx => (dig_val (List.all_eq_true.1 h x hx)).1).trans (List.map_id v)
    · intro e
      have := congrArg (fun b : ByteArray => b.data.toList) e
      simp only [mkB_list] at this
      cases v with
      | nil => exact h0 rfl
      | cons x r =>
        have h1 := (dig_val (List.all_eq_true.1 h x List.mem_cons_self)).2
        have h2 := congrArg (fun l => l.getD 0 0) this
        exact h1 h2
theorem dec_ne (n : Nat) : mkB (decL n) ≠ mOneB := by
  intro e
  have h := decL_dig n
  have := congrArg (fun b : ByteArray => b.data.toList) e
  simp only [mkB_list] at this
  rw [this] at h
  revert h; decide
theorem rtI_dec {n : Nat} (h : n ≤ 1000000000) : rtI (mkB (decL n)) = n := by
  unfold rtI
  rw [if_neg (dec_ne n)]
  simp only [mkB_list, decL_num]
  rw [if_pos ⟨⟨decL_dig n, decL_len 9 n (by omega)⟩, trivial⟩]
theorem dec_inj {a b : Nat} (h : mkB (decL a) = mkB (decL b)) : a = b := by
  have := congrArg (fun b : ByteArray => numV b.data.toList) h
  simpa only [mkB_list, decL_num] using this
theorem decL_s {n : Nat} (h : ¬ n < 10) : decL n = decL (n / 10) ++ [dig (n % 10)] := by rw [decL, if_neg h]
theorem decL_0 {n : Nat} (h : n < 10) : decL n = [dig n] := by rw [decL, if_pos h]
theorem big_dec : mkB (decL 1000000000) = bigB := by
  rw [decL_s (by decide), decL_s (by decide), decL_s (by decide), decL_s (by decide), decL_s (by decide), decL_s (by decide), decL_s (by decide), decL_s (by decide), decL_s (by decide), decL_0 (by decide)]
  rfl
theorem rtS_dec {n : Nat} (h : n ≤ 1000000000) : rtS (mkB (decL n)) = n := by
  unfold rtS
  rw [if_neg (dec_ne n)]
  by_cases hb : n = 1000000000
  · subst hb
    rw [big_dec, if_pos rfl]; rfl
  · have hl : (decL n).length ≤ 9 := decL_len 8 n (by omega)
    have e := numS_mk (l := decL n) (decL_pos n) hl (decL_dig n) (by rw [decL_num])
    rw [decL_num] at e
    rw [if_neg (fun e => hb (dec_inj (e.trans big_dec.symm))), e, if_neg (by omega)]
theorem rtI_ret {n : Int} (h : -1 ≤ n ∧ n ≤ 1000000000) : rtI (mkB (retT n)) = n := by
  unfold retT
  split
  · rename_i h; subst h; rfl
  · rw [rtI_dec (by omega)]; omega
theorem rtS_ret {n : Int} (h : -1 ≤ n ∧ n ≤ 1000000000) : rtS (mkB (retT n)) = n := by
  unfold retT
  split
  · rename_i h; subst h; rfl
  · rw [rtS_dec (by omega)]; omega
theorem rtI_cnt {n : Int} (h : 0 ≤ n ∧ n ≤ 1000000000) : rtI (decB n) = n := by
  unfold decB
  rw [rtI_dec (by omega)]; omega
theorem rtS_cnt {n : Int} (h : 0 ≤ n ∧ n ≤ 1000000000) : rtS (decB n) = n := by
  unfold decB
  rw [rtS_dec (by omega)]; omega
theorem key_ok {n : Int} {o : ByteArray} (h : tableOk n o = true) : rkS (keyB n o) = true ∧ rkN (keyB n o) = n ∧ rkO (keyB n o) = o := by
  have hn : 0 ≤ n ∧ n ≤ 12 := by
    unfold tableOk tokA at h
    simp only [Bool.and_eq_true, decide_eq_true_eq] at h
    omega
  have hd := dec12 (k := n.toNat) (by omega)
  have hl : (keyB n o).size = (decL n.toNat).length + (1 + o.size) := by
    rw [size_list, keyB_list, List.length_append, List.length_cons, ← size_list]; omega
  have ha : atT (keyB n o) = (decL n.toNat).length := by
    refine at_find (by omega) (fun j hj => ?_) fun _ => ?_
    · rw [keyB_list, List.getD_eq_getElem?_getD, List.getElem?_append_left hj, List.getElem?_eq_getElem hj]
      intro e
      have := List.all_eq_true.1 (decL_dig n.toNat) _ (List.getElem_mem hj)
      simp only [Option.getD_some] at e
      rw [e] at this
      revert this; decide
    · rw [keyB_list, List.getD_eq_getElem?_getD, List.getElem?_append_right (Nat.le_refl _), Nat.sub_self]; rfl
  have e1 : (keyB n o).extract 0 (atT (keyB n o)) = mkB (decL n.toNat) := ba_ext (by
    rw [ext_list, keyB_list, ha, mkB_list]; simp)
  have e2 : rkO (keyB n o) = o := ba_ext (by
    unfold rkO
    rw [ext_list, hl, ha, keyB_list, show decL n.toNat ++ 58 :: o.data.toList = (decL n.toNat ++ [58]) ++ o.data.toList by simp]
    rw [List.drop_append, List.drop_of_length_le (by simp), List.nil_append]
    simp only [List.length_append, List.length_cons, List.length_nil, Nat.zero_add, Nat.sub_self, List.drop_zero]
    rw [List.take_of_length_le (by rw [← size_list]; omega)])
  have e3 : rkN (keyB n o) = n := by
    unfold rkN
    rw [e1, hd.2.1]; omega
  refine ⟨?_, e3, e2⟩
  unfold rkS rkOk
  rw [e3, e2, h, decide_eq_true rfl, decide_eq_true]
  · rfl
  · omega
def loadB (s : ByteArray) : Bool := iC s && (saveB (mI s) && decide (saveT (mI s) = s))
def loadM (s : ByteArray) : Mc := if loadB s = true then mI s else default
def loadBS (s : ByteArray) : Bool := sC s && (saveB (mS s) && decide (saveT (mS s) = s))
theorem saveB_n {m : Mc} (h : saveB m = true) : OkN m ∧ allP m = true ∧ ((saveT m).size : Int) ≤ 400000 := by
  unfold saveB at h
  simp only [Bool.and_eq_true, decide_eq_true_eq] at h
  exact ⟨mOk_n h.1, h.2.1, h.2.2⟩
theorem wordsP_of {line : ByteArray} {nm : List UInt8} {ws : List ByteArray} (h : pcs 32 line = mkB nm :: ws) : wordsP line (mkB nm) = ws := by
  unfold wordsP
  rw [h]
  exact if_pos rfl
theorem sn_eta (s : Sn) : (⟨s.key, s.ret⟩ : Sn) = s := rfl
theorem over_eq {b : Bool} : decide (overL { (default : Mc) with over := b } = ⟨#[111, 118, 101, 114, 32, 49]⟩) = b := by
  cases b
  · refine decide_eq_false fun e => ?_
    have := congrArg (fun b : ByteArray => b.data.toList) e
    revert this
    unfold overL decB
    simp only [bapp, mkB_list]
    rw [decL_0 (by decide)]; decide
  · refine decide_eq_true (ba_ext ?_)
    unfold overL decB
    simp only [bapp, mkB_list]
    rw [decL_0 (by decide)]; rfl
theorem mI_save {m : Mc} (h : saveB m = true) : iC (saveT m) = true ∧ mI (saveT m) = m := by
  obtain ⟨hn, hp, hs⟩ := saveB_n h
  have e := save_pcs hn hp
  have el : ∀ k x, (saveL m)[k]? = some x → lnP (saveT m) k = x := fun k x hk => by
    unfold lnP
    rw [e, List.getD_eq_getElem?_getD, List.getElem?_append_left (List.getElem?_eq_some_iff.1 hk).1, hk]; rfl
  have e0 := el 0 _ rfl
  have e1 := el 1 _ rfl
  have e2 := el 2 _ rfl
  have e3 := el 3 _ rfl
  have e4 := el 4 _ rfl
  have e5 := el 5 _ rfl
  have e6 := el 6 _ rfl
  have hk := key_ok hn.tab
  have hlen : (saveL m).length = 7 + m.memo.length := by simp [saveL, headL]; omega
  refine ⟨decide_eq_true ⟨by omega, by rw [e, List.length_append, hlen, List.length_cons, List.length_nil]; omega⟩, ?_⟩
  have hkey : keyI (saveT m) = keyB m.n m.ones := by
    unfold keyI
    rw [e1, wordsP_of (table_w hn.tab)]; rfl
  have hmemo : memoI (saveT m) = m.memo := by
    unfold memoI
    rw [e, List.length_append, hlen]
    have hd : List.drop 7 (saveL m ++ [(⟨#[]⟩ : ByteArray)]) = m.memo.map seenL ++ [⟨#[]⟩] := rfl
    rw [hd, List.length_cons, List.length_nil, show 7 + m.memo.length + (0 + 1) - 8 = (m.memo.map seenL).length by rw [List.length_map]; omega, List.take_left', List.map_map]
    · refine (List.map_congr_left (g := id) fun s hs => ?_).trans (List.map_id _)
      have hw := seen_w (List.all_eq_true.1 hp s hs)
      obtain ⟨i, hi, rfl⟩ := List.getElem_of_mem hs
      have hr := bitI_le (hn.mret i hi)
      rw [← getD_at hi] at hr
      show snI (seenL _) = _
      unfold snI
      rw [wordsP_of hw]
      show (⟨m.memo[i].key, rtI (decB m.memo[i].ret)⟩ : Sn) = m.memo[i]
      rw [rtI_cnt (by omega)]
    · rfl
  have hover : decide (overL m = ⟨#[111, 118, 101, 114, 32, 49]⟩) = m.over := over_eq (b := m.over)
  unfold mI
  rw [hkey, hk.1, hk.2.1, hk.2.2, hmemo, e0, e2, e3, e4, e5, e6, wordsP_of (row_w m), wordsP_of (room_w m), wordsP_of (vals_w hn.va), wordsP_of (ret_w m), wordsP_of (cnt_w m), hover]
  have hr := hn.ret
  have hroom := hn.room
  simp only [wordP, List.getD_cons_zero, List.getD_cons_succ, (rowP_ok hn.row).2, bitsI_ok hn.va, rtI_ret (n := m.ret) (by omega), rtI_cnt (n := m.room) (by omega), rtI_cnt hn.steps, rtI_cnt hn.looks, rtI_cnt hn.hits]
  rfl

theorem mS_save {m : Mc} (h : saveB m = true) : sC (saveT m) = true ∧ mS (saveT m) = m := by
  obtain ⟨hn, hp, hs⟩ := saveB_n h
  have e := save_pcs hn hp
  have el : ∀ k x, (saveL m)[k]? = some x → lnP (saveT m) k = x := fun k x hk => by
    unfold lnP
    rw [e, List.getD_eq_getElem?_getD, List.getElem?_append_left (List.getElem?_eq_some_iff.1 hk).1, hk]; rfl
  have e0 := el 0 _ rfl
  have e1 := el 1 _ rfl
  have e2 := el 2 _ rfl
  have e3 := el 3 _ rfl
  have e4 := el 4 _ rfl
  have e5 := el 5 _ rfl
  have e6 := el 6 _ rfl
  have hk := key_ok hn.tab
  have hlen : (saveL m).length = 7 + m.memo.length := by simp [saveL, headL]; omega
  have hl : linesS (saveT m) = saveL m := by
    unfold linesS
    rw [e, List.length_append, List.length_cons, List.length_nil, List.take_left']
    omega
  have w0 : wS (saveT m) 0 1 = mkB (rowT m.row) := by unfold wS; rw [e0, row_w]; rfl
  have w1 : wS (saveT m) 1 1 = keyB m.n m.ones := by unfold wS; rw [e1, table_w hn.tab]; rfl
  have w2 : wS (saveT m) 2 1 = decB m.room := by unfold wS; rw [e2, room_w]; rfl
  have w3 : wS (saveT m) 3 1 = mkB (valsT m.vals) := by unfold wS; rw [e3, vals_w hn.va]; rfl
  have w4 : wS (saveT m) 4 1 = mkB (retT m.ret) := by unfold wS; rw [e4, ret_w]; rfl
  have w5 : wS (saveT m) 5 1 = decB (b01 m.over) := by unfold wS; rw [e5, over_w]; rfl
  have w6 : wS (saveT m) 6 1 = decB m.steps ∧ wS (saveT m) 6 2 = decB m.looks ∧ wS (saveT m) 6 3 = decB m.hits := by unfold wS; rw [e6, cnt_w]; exact ⟨rfl, rfl, rfl⟩
  have hm := hn.memo
  have sw : ∀ s ∈ m.memo, pcs 32 (seenL s) = [mkB nSeen, s.key, decB s.ret] := fun s hs => seen_w (List.all_eq_true.1 hp s hs)
  have hws : wsOk (saveL m) = true := by
    refine List.all_eq_true.2 fun p hp => ?_
    obtain ⟨x, i⟩ := p
    rw [List.mem_zipIdx_iff_getElem?] at hp
    simp only at hp ⊢
    rcases i with _ | _ | _ | _ | _ | _ | _ | i
    · have : rowL m = x := by simpa [saveL, headL] using hp
      subst this; rw [row_w]; rfl
    · have : tableL m = x := by simpa [saveL, headL] using hp
      subst this; rw [table_w hn.tab]; rfl
    · have : roomL m = x := by simpa [saveL, headL] using hp
      subst this; rw [room_w]; rfl
    · have : valsL m = x := by simpa [saveL, headL] using hp
      subst this; rw [vals_w hn.va]; rfl
    · have : retL' m = x := by simpa [saveL, headL] using hp
      subst this; rw [ret_w]; rfl
    · have : overL m = x := by simpa [saveL, headL] using hp
      subst this; rw [over_w]; rfl
    · have : cntL m = x := by simpa [saveL, headL] using hp
      subst this; rw [cnt_w]; rfl
    · have : (m.memo.map seenL)[i]? = some x := hp
      rw [List.getElem?_map, Option.map_eq_some_iff] at this
      obtain ⟨s, hs, rfl⟩ := this
      rw [sw s (List.mem_of_getElem? hs)]
      exact decide_eq_true ⟨by simp, fun h => by omega, fun _ => rfl⟩
  refine ⟨?_, ?_⟩
  · unfold sC
    rw [hl, w0, w1, hws, (rowP_ok hn.row).1, hk.1, decide_eq_true ⟨by omega, by omega, by omega⟩]; rfl
  · have hmemo : ((linesS (saveT m)).drop 7).map snS = m.memo := by
      rw [hl]
      show (m.memo.map seenL).map snS = _
      rw [List.map_map]
      refine (List.map_congr_left (g := id) fun s hs => ?_).trans (List.map_id _)
      have hw := sw s hs
      obtain ⟨i, hi, rfl⟩ := List.getElem_of_mem hs
      have hr := bitI_le (hn.mret i hi)
      rw [← getD_at hi] at hr
      show snS (seenL _) = _
      unfold snS
      rw [hw]
      show (⟨m.memo[i].key, rtS (decB m.memo[i].ret)⟩ : Sn) = m.memo[i]
      rw [rtS_cnt (by omega)]
    have hover : decide (decB (b01 m.over) = ⟨#[49]⟩) = m.over := by
      cases m.over
      · refine decide_eq_false fun e => ?_
        have := congrArg (fun b : ByteArray => b.data.toList) e
        revert this
        unfold decB
        simp only [mkB_list]
        rw [decL_0 (by decide)]; decide
      · refine decide_eq_true (ba_ext ?_)
        unfold decB
        rw [decL_0 (by decide)]; rfl
    unfold mS
    have hr := hn.ret
    have hroom := hn.room
    rw [hmemo, w0, w1, w2, w3, w4, w5, w6.1, w6.2.1, w6.2.2, hover, hk.1, hk.2.1, hk.2.2, (rowP_ok hn.row).2, bitsS_ok hn.va, rtS_ret (n := m.ret) (by omega), rtS_cnt (n := m.room) (by omega), rtS_cnt hn.steps, rtS_cnt hn.looks, rtS_cnt hn.hits]
    rfl
theorem load_eq (s : ByteArray) : loadBS s = loadB s ∧ (loadB s = true → mS s = mI s) := by
  have h1 : loadB s = true → loadBS s = true ∧ mS s = mI s := fun h => by
    unfold loadB at h
    simp only [Bool.and_eq_true, decide_eq_true_eq] at h
    obtain ⟨_, h2, h3⟩ := h
    have := mS_save h2
    rw [h3] at this
    refine ⟨?_, this.2⟩
    unfold loadBS
    rw [this.1, this.2, h2, decide_eq_true h3]; rfl
  have h2 : loadBS s = true → loadB s = true := fun h => by
    unfold loadBS at h
    simp only [Bool.and_eq_true, decide_eq_true_eq] at h
    obtain ⟨_, h2, h3⟩ := h
    have := mI_save h2
    rw [h3] at this
    unfold loadB
    rw [this.1, this.2, h2, decide_eq_true h3]; rfl
  refine ⟨?_, fun h => (h1 h).2⟩
  rw [Bool.eq_iff_iff]
  exact ⟨h2, fun h => (h1 h).1⟩
theorem loadB_save {m : Mc} (h : saveB m = true) : loadB (saveT m) = true ∧ mI (saveT m) = m := by
  have := mI_save h
  refine ⟨?_, this.2⟩
  unfold loadB
  rw [this.1, this.2, h, decide_eq_true rfl]; rfl
end Go.Proofs.YtbhlegobhidgkaaDoor.RE
/-! A machine is drawn. Conditions: those that a theorem names. -/
set_option linter.unusedVariables false
set_option linter.unusedSimpArgs false
namespace Go.Proofs.YtbhlegobhidgkaaDoor.RE
open Go Go.RowKit
set_option maxRecDepth 100000
set_option maxHeartbeats 8000000

/-! ### Drawn: a number of a list that is handed over, too -/
def QPk (l q : List Int) : AV → Obs → Prop := fun r ob => ∃ (i2 h2 x : Int), (0 ≤ i2 ∧ i2 ≤ (l.length : Int)) ∧ x ∈ q ∧ r = I x ∧ ob = [some (cur l i2 h2), some ⟨0, q.map ci⟩]
theorem CallK.pickS {P : Program} {f : FuncId} {args : List AV} {st : St} {d : Option Tmp} {K : St → Prop} {l q : List Int} {i s : Int} {n : Nat} {r1 r2 : Option Ob} (h : CallsA P f [.l (.ptr 0 0 0), .l (.obj 1 0 1 0 q.length)] [some (cur l i s), some ⟨0, q.map ci⟩] (QPk l q))
    (kk : ∀ x i2 s2, x ∈ q → (0 ≤ i2 ∧ i2 ≤ (l.length : Int)) → K ⟨putT st.tm d (I x), [some (cur l i2 s2), r1, r2, some ⟨0, q.map ci⟩]⟩) (ho : st.ob = [some (cur l i s), r1, r2, some ⟨0, q.map ci⟩] := by rfl) (ha : args.map (AV.toC [0, 3] []) = [.l (.ptr 0 0 0), .l (.obj 1 0 1 0 q.length)] := by rfl) : CallK P f args st d K := by
  have hc : ∀ (mm : Nat → Nat → Option (Nat × Nat)) (i s : Int), (cur l i s).cs.map (LV.ren mm) = (cur l i s).cs := fun _ _ _ => rfl
  refine CallK.use (Q := QPk l q) [0, 3] [] ⟨by decide, fun s hs => by rw [ho]; simp only [List.mem_cons, List.not_mem_nil, or_false] at hs; simp; omega, by simp, by simp⟩ ?_ ?_
  · rw [ha, show obC [0, 3] st.ob = [some (cur l i s), some ⟨0, q.map ci⟩] by
      rw [ho]; simp only [obC, List.map_cons, List.map_nil, List.getD_cons_zero, List.getD_cons_succ, Option.map_some, hc, renI]]
    exact h
  · rintro r ob1 ⟨i2, s2, x, hi, hx, e1, e2⟩
    subst e1; subst e2
    refine ⟨by simp, .inl rfl, ?_⟩
    have e : ∀ (a b c d x y : Option Ob), obB [0, 3] [a, b, c, d] [x, y] = [x.map (Ob.ren (mB [0, 3] 4)), b, c, y.map (Ob.ren (mB [0, 3] 4))] := fun _ _ _ _ _ _ => rfl
    rw [ho, e]
    simp only [Option.map_some, Ob.ren, hc, renI]
    exact kk x i2 s2 hx hi
theorem pick_c (l : List Int) (i h : Int) (hi : 0 ≤ i ∧ i ≤ (l.length : Int)) (hl : l.length ≤ 1048576) (q : List Int) (hq : 1 ≤ q.length ∧ q.length ≤ 1000) : CallsA E.P 73 [.l (.ptr 0 0 0), .l (.obj 1 0 1 0 q.length)] [some (cur l i h), some ⟨0, q.map ci⟩] (QPk l q) := by
  refine CallsA.body (E := E) (fn := Tryd.f73) Tryd.func73 rfl fun B hB => ?_
  simp only [Tryd.ntmps73, go_sem, nl, Nat.reduceSub, Nat.reduceAdd, List.reduceReplicate]
  refine Wp.seqK fun K1 hK1 => ?_
  refine rg ?_
  refine hK1 _ ?_
  clear hK1 K1
  refine Wp.seqK fun K2 hK2 => ?_
  refine rg ?_
  refine ⟨rfl, CallK.curI (h := l01Below_c _ _ _ (by omega) (by omega) (q.length : Int) (by omega)) (fun x1_4 i1_4 s1_4 hx1_4 hi1_4 => ?_)⟩
  refine evd ?_
  refine hK2 _ ?_
  clear hK2 K2
  refine Wp.ret (retE (m := 2) (Q := QPk l q) (ob' := [some (cur l i1_4 s1_4), some ⟨0, q.map ci⟩]) ⟨i1_4, s1_4, _, by omega, mem_getD (d := 0) (show x1_4.toNat < q.length by omega), rfl, rfl⟩ rfl)

/-! ### Drawn: flags, a table -/
def QRow (l : List Int) (n : Nat) : AV → Obs → Prop := fun r ob => ∃ (i2 h2 : Int) (b : List Bool), (0 ≤ i2 ∧ i2 ≤ (l.length : Int)) ∧ b.length = n ∧ r = .l (.obj 1 0 1 0 n) ∧ ob = [some (cur l i2 h2), some ⟨0, b.map cb⟩]
theorem l08Row_c (l : List Int) (i h : Int) (hi : 0 ≤ i ∧ i ≤ (l.length : Int)) (hl : l.length ≤ 1048576) (n : Nat) (hn : n ≤ 1000) : CallsA E.P 70 [.l (.ptr 0 0 0), I (n : Int)] [some (cur l i h)] (QRow l n) := by
  refine CallsA.body (E := E) (fn := Tryd.f70) Tryd.func70 rfl fun B hB => ?_
  simp only [Tryd.ntmps70, go_sem, nl, Nat.reduceSub, Nat.reduceAdd, List.reduceReplicate]
  refine Wp.seqK fun K1 hK1 => ?_
  refine rg ?_
  refine hK1 _ ?_
  clear hK1 K1
  refine Wp.seqK fun K2 hK2 => ?_
  refine rg ?_
  refine hK2 _ ?_
  clear hK2 K2
  refine Wp.seqK fun K3 hK3 => ?_
  refine Wp.seqK fun K4 hK4 => ?_
  refine rg ?_
  refine hK4 _ ?_
  clear hK4 K4
  refine Wp.block ?_
  refine Wp.loopU (α := (Int × Int) × List Bool) (fun q => [.k, .k, .d, .d, .d, .v (.l (.obj 1 q.2.length 1 0 q.2.length)), .v (I (q.2.length : Int)), .d5, .d5, .d, .d]) (fun q => [some (cur l q.1.1 q.1.2), some ⟨q.2.length, q.2.map cb⟩]) (fun q => (0 ≤ q.1.1 ∧ q.1.1 ≤ (l.length : Int)) ∧ q.2.length ≤ n) (fun q => n - q.2.length) ((i, h), []) (⟨hi, Nat.zero_le _⟩) (anyS) ?_
  rintro q f5 K5 ⟨hq1, hq2⟩ hK5
  simp only [updT_k, updT_d, updT_d5, updT_v, updT_nil, Nat.reduceAdd]
  refine Wp.seqK fun K6 hK6 => ?_
  refine Wp.seqK fun K7 hK7 => ?_
  refine rg ?_
  refine hK7 _ ?_
  clear hK7 K7
  refine Wp.condS (fun h10 => ?_) (fun h10 => ?_)
  · refine Wp.skip ?_
    refine hK6 _ ?_
    clear hK6 K6
    refine Wp.seqK fun K8 hK8 => ?_
    refine Wp.block ?_
    refine rg ?_
    refine ⟨rfl, CallK.curT (h := l01Once_c _ _ _ (by omega) (by omega) 2 (by omega)) (fun x5_2 i5_2 s5_2 hx5_2 hi5_2 => ?_)⟩
    refine evd ?_
    try simp only [thn, inB, if_true, reduceIte]
    refine hK8 _ ?_
    clear hK8 K8
    refine Wp.keepR 2 [] (by rw [hB]; simp) (by simp) (by simp) (by simp) ?_
    refine evd ?_
    refine rg ?_
    exact hK5 ((i5_2, s5_2), q.2 ++ [x5_2]) _ ⟨hi5_2, by simp; omega⟩ (by simp; omega) (anyS (h := by simp; rfl) (ho := by simp [pushB]))
  · have hqn : q.2.length = n := by omega
    refine Wp.exit ?_
    try simp only [thn, inB, if_true, reduceIte]
    clear hK6 K6
    clear hK5 K5
    refine hK3 _ ?_
    clear hK3 K3
    refine Wp.seqK fun K9 hK9 => ?_
    refine rg ?_
    refine hK9 _ ?_
    clear hK9 K9
    subst hqn
    refine Wp.ret ⟨_, [1], rfl, by simp, by simp, by simp, q.1.1, q.1.2, q.2, hq1, rfl, ?_, ?_⟩
    · simp [AV.ren, lren_obj, keepM_l, keepX_cons, optO]
    · simp only [keepO, List.take_succ_cons, List.take_zero, List.map_cons, List.map_nil, List.cons_append, List.nil_append, List.getD_cons_succ, List.getD_cons_zero, Option.map_some, renB]
      rfl

theorem setU {l : List UInt8} {i : Nat} (h : i < l.length) (v : UInt8) : List.take i (l.map cu) ++ (LV.sc (.int .u8 (v.toNat : Int)) :: List.drop (i + 1) (l.map cu)) = (l.set i v).map cu := by
  rw [List.set_eq_take_append_cons_drop, if_pos h, List.map_append, List.map_cons, List.map_take, List.map_drop]
theorem bitU {y : Int} (h : y = 0 ∨ y = 1) : UInt8.ofNat (48 + y).toNat = 48 ∨ UInt8.ofNat (48 + y).toNat = 49 := by
  rcases h with h | h <;> subst h
  · exact .inl rfl
  · exact .inr rfl
theorem mkR_bits {L : List UInt8} (h : ∀ b ∈ L, b = 48 ∨ b = 49) (x : Nat) : ∀ b ∈ mkR (fun _ => (49 : UInt8)) L x, b = 48 ∨ b = 49 := by
  intro b hb
  unfold mkR at hb
  rcases List.mem_append.1 hb with hb | hb
  · obtain ⟨_, _, rfl⟩ := List.mem_map.1 hb; exact .inr rfl
  · exact h b (List.mem_of_mem_drop hb)
theorem half01 (n : Nat) : ((n : Int).tdiv 2).tmod 2 = 0 ∨ ((n : Int).tdiv 2).tmod 2 = 1 := by
  rw [Int.tdiv_eq_ediv_of_nonneg (by omega), Int.tmod_eq_emod_of_nonneg (by omega)]
  omega
theorem l06Table_c (l : List Int) (i h : Int) (hi : 0 ≤ i ∧ i ≤ (l.length : Int)) (hl : l.length ≤ 1048576) (n : Nat) (hn : n ≤ 12) : CallsA E.P 72 [.l (.ptr 0 0 0), I (n : Int)] [some (cur l i h)] (QCur l fun r => ∃ o, tabN n o ∧ r = .agg (tb (n : Int) o)) := by
  refine CallsA.body (E := E) (fn := Tryd.f72) Tryd.func72 rfl fun B hB => ?_
  simp only [Tryd.ntmps72, go_sem, nl, Nat.reduceSub, Nat.reduceAdd, List.reduceReplicate]
  have h12 : (2 : Int) ^ n ≤ 4096 := pw12' (by omega)
  have hpn : ((2 ^ n : Nat) : Int) = (2 : Int) ^ n := by simp
  have hnn : (n : Int).toNat = n := rfl
  refine Wp.seqK fun K1 hK1 => ?_
  refine rg ?_
  refine hK1 _ ?_
  clear hK1 K1
  refine Wp.seqK fun K2 hK2 => ?_
  refine rg ?_
  refine hK2 _ ?_
  clear hK2 K2
  refine Wp.seqK fun K3 hK3 => ?_
  refine rg ?_
  refine ⟨rfl, CallK.curI (h := l01Below_c _ _ _ (by omega) (by omega) 4 (by omega)) (fun x2_1 i2_1 s2_1 hx2_1 hi2_1 => ?_)⟩
  refine evd ?_
  refine hK3 _ ?_
  clear hK3 K3
  refine Wp.seqK fun K4 hK4 => ?_
  refine Wp.seqK fun K5 hK5 => ?_
  refine rg ?_
  refine hK5 _ ?_
  clear hK5 K5
  refine Wp.block ?_
  refine Wp.loopU (α := (Int × Int) × List UInt8) (fun q => [.k, .k, .d, .d, .k, .v (.l (.obj 2 q.2.length 1 0 q.2.length)), .k, .v (I (q.2.length : Int)), .d5, .d5, .d5, .d5, .d5, .d5, .d5, .d5, .d, .d, .d, .d]) (fun q => [some (cur l q.1.1 q.1.2), some ⟨0, tb 0 ⟨#[]⟩⟩, some ⟨q.2.length, q.2.map cu⟩]) (fun q => (0 ≤ q.1.1 ∧ q.1.1 ≤ (l.length : Int)) ∧ q.2.length ≤ 2 ^ n ∧ ∀ b ∈ q.2, b = 48 ∨ b = 49) (fun q => 2 ^ n - q.2.length) ((i2_1, s2_1), []) (⟨hi2_1, Nat.zero_le _, fun b hb => by cases hb⟩) (anyS) ?_
  rintro q f6 K6 ⟨hq1, hq2, hq3⟩ hK6
  simp only [updT_k, updT_d, updT_d5, updT_v, updT_nil, Nat.reduceAdd]
  simp only [tb]
  refine Wp.seqK fun K7 hK7 => ?_
  refine Wp.seqK fun K8 hK8 => ?_
  refine rg ?_
  refine ⟨rfl, CallK.valA (h := l01Pow2_c _ (by omega) (by omega)) (k := ?_)⟩
  refine evd ?_
  refine hK8 _ ?_
  clear hK8 K8
  refine Wp.condS (fun h16 => ?_) (fun h16 => ?_)
  · have hql : q.2.length < 2 ^ n := by omega
    have htd := tdiv2 q.2.length
    refine Wp.skip ?_
    refine hK7 _ ?_
    clear hK7 K7
    refine Wp.seqK fun K9 hK9 => ?_
    refine Wp.block ?_
    refine Wp.seqK fun K10 hK10 => ?_
    refine rg ?_
    refine ⟨rfl, CallK.curI (h := l01Below_c _ _ _ (by omega) (by omega) 2 (by omega)) (fun x6_1 i6_1 s6_1 hx6_1 hi6_1 => ?_)⟩
    refine evd ?_
    refine hK10 _ ?_
    clear hK10 K10
    refine Wp.seqU (α := (Int × Int) × Int) (fun y => [.k, .k, .d, .d, .k, .k, .k, .k, .v (I y.2), .d5, .d5, .d5, .d5, .d5, .d5, .d5, .d5, .d, .d, .d]) (fun y => [some (cur l y.1.1 y.1.2), some ⟨0, tb 0 ⟨#[]⟩⟩, some ⟨q.2.length, q.2.map cu⟩]) (fun y => (0 ≤ y.1.1 ∧ y.1.1 ≤ (l.length : Int)) ∧ (y.2 = 0 ∨ y.2 = 1)) (fun K11 hK11 => ?_) ?_
    · refine Wp.seqK fun K12 hK12 => ?_
      refine rg ?_
      refine hK12 _ ?_
      clear hK12 K12
      refine Wp.block ?_
      refine Wp.seqK fun K13 hK13 => ?_
      refine rg ?_
      refine hK13 _ ?_
      clear hK13 K13
      refine Wp.condS (fun h22 => ?_) (fun h22 => ?_)
      · refine rg ?_
        try simp only [thn, inB, if_true, reduceIte]
        exact hK11 ((i6_1, s6_1), ((q.2.length : Int).tdiv 2).tmod 2) _ ⟨by omega, half01 _⟩ (anyS)
      · refine Wp.seqK fun K14 hK14 => ?_
        refine rg ?_
        refine hK14 _ ?_
        clear hK14 K14
        refine Wp.condS (fun h27 => ?_) (fun h27 => ?_)
        · refine Wp.seqK fun K15 hK15 => ?_
          refine rg ?_
          refine ⟨rfl, CallK.curT (h := l01Once_c _ _ _ (by omega) (by omega) 2 (by omega)) (fun x11_1 i11_1 s11_1 hx11_1 hi11_1 => ?_)⟩
          refine evd ?_
          refine hK15 _ ?_
          clear hK15 K15
          refine Wp.condS (fun h30 => ?_) (fun h30 => ?_)
          · refine rg ?_
            try simp only [thn, inB, if_true, reduceIte]
            exact hK11 ((i11_1, s11_1), 0) _ ⟨by omega, .inl rfl⟩ (anyS)
          · refine Wp.skip ?_
            try simp only [thn, inB, if_true, reduceIte]
            exact hK11 ((i11_1, s11_1), x6_1) _ ⟨by omega, by omega⟩ (anyS)
        · refine Wp.skip ?_
          try simp only [thn, inB, if_true, reduceIte]
          exact hK11 ((i6_1, s6_1), x6_1) _ ⟨by omega, by omega⟩ (anyS)
    rintro y f11 ⟨hy1, hy2⟩
    simp only [updT_k, updT_d, updT_d5, updT_v, updT_nil, Nat.reduceAdd]
    simp only [tb]
    refine rg ?_
    try simp only [thn, inB, if_true, reduceIte]
    refine hK9 _ ?_
    clear hK9 K9
    refine Wp.keepR 3 [] (by rw [hB]; simp) (by simp) (by simp) (by simp) ?_
    refine evd ?_
    refine rg ?_
    exact hK6 (y.1, q.2 ++ [UInt8.ofNat (48 + y.2).toNat]) _ ⟨hy1, by simp; omega, fun b hb => by
      rcases List.mem_append.1 hb with hb | hb
      · exact hq3 b hb
      · rw [List.mem_singleton.1 hb]; exact bitU hy2⟩ (by simp; omega) (anyS (h := by simp; rfl) (ho := by simp [pushU']; rfl))
  · have hql : q.2.length = 2 ^ n := by omega
    refine Wp.exit ?_
    try simp only [thn, inB, if_true, reduceIte]
    clear hK7 K7
    clear hK6 K6
    refine hK4 _ ?_
    clear hK4 K4
    refine Wp.seqU (α := (Int × Int) × List UInt8) (fun z => [.d, .k, .d, .d, .k, .k, .d5, .d5, .d5, .d5, .d5, .d5, .d5, .d5, .d5, .d]) (fun z => [some (cur l z.1.1 z.1.2), some ⟨0, tb 0 ⟨#[]⟩⟩, some ⟨q.2.length, z.2.map cu⟩]) (fun z => (0 ≤ z.1.1 ∧ z.1.1 ≤ (l.length : Int)) ∧ z.2.length = 2 ^ n ∧ ∀ b ∈ z.2, b = 48 ∨ b = 49) (fun K16 hK16 => ?_) ?_
    · refine Wp.seqK fun K17 hK17 => ?_
      refine rg ?_
      refine ⟨rfl, CallK.curT (h := l01Once_c _ _ _ (by omega) (by omega) 8 (by omega)) (fun x14_1 i14_1 s14_1 hx14_1 hi14_1 => ?_)⟩
      refine evd ?_
      refine hK17 _ ?_
      clear hK17 K17
      refine Wp.condS (fun h38 => ?_) (fun h38 => ?_)
      · refine Wp.seqK fun K18 hK18 => ?_
        refine rg ?_
        refine hK18 _ ?_
        clear hK18 K18
        refine Wp.block ?_
        refine Wp.loopU (α := Nat) (fun x => [.d, .k, .d, .d, .k, .k, .d, .d, .d, .v (I x), .d5, .d5, .d5, .d5, .d5, .d5, .d5, .d5, .d, .d]) (fun x => [some (cur l i14_1 s14_1), some ⟨0, tb 0 ⟨#[]⟩⟩, some ⟨q.2.length, (mkR (fun _ => (49 : UInt8)) q.2 x).map cu⟩]) (fun x => x ≤ q.2.length) (fun x => q.2.length - x) 0 (Nat.zero_le _) (anyS (ho := by simp [mkR]; rfl)) ?_
        rintro x f19 K19 hx hK19
        simp only [updT_k, updT_d, updT_d5, updT_v, updT_nil, Nat.reduceAdd]
        simp only [tb]
        have hml := mkR_len (fun _ => (49 : UInt8)) q.2 hx
        refine Wp.seqK fun K20 hK20 => ?_
        refine Wp.seqK fun K21 hK21 => ?_
        refine rg ?_
        refine hK21 _ ?_
        clear hK21 K21
        refine Wp.condS (fun h42 => ?_) (fun h42 => ?_)
        · have hxl : x < q.2.length := by omega
          refine Wp.skip ?_
          refine hK20 _ ?_
          clear hK20 K20
          refine Wp.seqK fun K22 hK22 => ?_
          refine Wp.block ?_
          refine rg ?_
          rw [show (49 : Int) = ((49 : UInt8).toNat : Int) from rfl, setU (by rw [mkR_len _ _ (by omega)]; omega), mkR_set _ _ hxl]
          try simp only [thn, inB, if_true, reduceIte]
          refine hK22 _ ?_
          clear hK22 K22
          refine rg ?_
          exact hK19 (x + 1) _ hxl (by omega) anyS
        · have hxl : x = q.2.length := by omega
          refine Wp.exit ?_
          try simp only [thn, inB, if_true, reduceIte]
          clear hK20 K20
          clear hK19 K19
          exact hK16 ((i14_1, s14_1), mkR (fun _ => (49 : UInt8)) q.2 x) _ ⟨by omega, by rw [mkR_len _ _ (by omega)]; exact hql, mkR_bits hq3 x⟩ (anyS)
      · refine Wp.skip ?_
        exact hK16 ((i14_1, s14_1), q.2) _ ⟨by omega, hql, hq3⟩ (anyS)
    rintro z f16 ⟨hz1, hz2, hz3⟩
    simp only [updT_k, updT_d, updT_d5, updT_v, updT_nil, Nat.reduceAdd]
    simp only [tb]
    refine Wp.seqK fun K23 hK23 => ?_
    rw [show q.2.length = z.2.length by omega]
    refine rg ?_
    refine hK23 _ ?_
    clear hK23 K23
    refine Wp.ret (retCur (p := fun r => ∃ o, tabN n o ∧ r = .agg (tb (n : Int) o)) (hp := ⟨mkB z.2, ⟨by rw [mkB_size]; exact hz2, hz3⟩, ?_⟩) (hi := ?_))
    · rfl
    · omega

/-! ### A nil slice in a cell as an empty row of one's own -/
theorem All2.set_one {α β : Type} {R : α → β → Prop} {x y : α} (hxy : ∀ v, R x v → R y v) : ∀ {cs : List α} {vs : List β} (i : Nat), All2 R cs vs → cs[i]? = some x → All2 R (cs.set i y) vs
  | _, _, _, .nil, h => by simp at h
  | _, _, 0, .cons h1 h2, h => by
    have h : _ = x := Option.some.inj h
    subst h
    exact .cons (hxy _ h1) h2
  | _, _, i + 1, .cons h1 h2, h => .cons h1 (All2.set_one hxy i h2 h)
section
variable {P : Program} {B : Base} {Q : Exit → St → Prop} {st : St}
theorem Wp.nilCell {c : Code} (o i sz : Nat) {g : Nat} {cs : List LV} (ho : st.ob.getD o none = some ⟨g, cs⟩) (hi : cs[i]? = some .nils) (h : Wp P B c Q (⟨st.tm, (st.ob ++ [some (⟨0, []⟩ : Ob)]).set o (some (⟨g, cs.set i (.obj st.ob.length 0 sz 0 0)⟩ : Ob))⟩ : St)) : Wp P B c Q st := by
  rintro a w ⟨cx, hE, hM, hd, hlen, hv⟩
  obtain ⟨cx1, hE1, hM1, l, hl, hmp⟩ := nilRow_ok hM
  have ho0 := getD_some ho
  have ho1 : (st.ob ++ [some ⟨0, []⟩])[o]? = some (some ⟨g, cs⟩) := by rw [List.getElem?_append_left (List.getElem?_eq_some_iff.1 ho0).1]; exact ho0
  obtain ⟨lo, hlo, hrow⟩ := hM1.rep o _ ho1
  have hset := mem_setG (w' := w) (cs := cs.set i (.obj st.ob.length 0 sz 0 0)) hM1 ho1 hlo ⟨rfl, rfl, rfl, Nat.le_refl _, fun _ _ _ => rfl⟩ (fun hE' => by
    rcases hrow with ⟨hm, hroom, hth, vs, hrg, hall⟩ | ⟨_, hmr⟩
    · refine .inl ⟨hm, by simpa using hroom, hth, vs, hrg, All2.set_one (x := .nils) (fun v hv => ⟨?_, hv.2⟩) i hall hi⟩
      exact ⟨l, none, 0, hl, hv.1, Nat.le_refl _, by simp, fun h => absurd h (by simp), Nat.zero_le _, hmp⟩
    · exfalso
      obtain ⟨_, es, cl, hmr⟩ := hmr
      rw [show cs = [LV.mpc es cl] from hmr.1] at hi
      cases i with
      | zero => simp at hi
      | succ i => simp at hi)
  exact h a w ⟨cx1, (hE.trans hE1).trans hset.1, hset.2, hd, hlen, fun t => hset.1.va hM1 (hE1.va hM (hv t))⟩
end

/-! ### A machine starts -/
def st0 (r : List Bool) (n : Int) (o : ByteArray) (k : Int) : Mc := ⟨r, n, o, k, [], -1, false, 0, 0, 0, []⟩

theorem okj {r : List Bool} {n : Int} {o : ByteArray} (hr : rowedB r n o = true) (ho : o.size ≤ 1048576) : Val E.P 84 [dB r, .agg (tb n o)] (T true) := by
  have := l08Ok_c r n o ho
  rwa [hr] at this
theorem in40 {k : Int} (hk : 0 ≤ k ∧ k ≤ 40) : Val E.P 68 [I k, I 0, I 40] (T true) := by
  have := l01In_c k 0 40
  rwa [show (decide (0 ≤ k) && decide (k ≤ 40)) = true by simp; omega] at this
theorem sStart_c (r : List Bool) (n : Int) (o : ByteArray) (k : Int) (hr : rowedB r n o = true) (hk : 0 ≤ k ∧ k ≤ 40) (ho : o.size ≤ 1048576) (hl : r.length ≤ 1048576) : Ret E.P 71 [dB r, .agg (tb n o), I k] (.tup [.agg (mCells (.obj 0 0 1 0 r.length) .nils .nils (st0 r n o k)), TB true]) [some ⟨0, r.map cb⟩] := by
  refine CallsA.body (E := E) (fn := Tryd.f71) Tryd.func71 rfl fun B hB => ?_
  simp only [Tryd.ntmps71, go_sem, nl, Nat.reduceSub, Nat.reduceAdd, List.reduceReplicate]
  refine Wp.seqK fun K1 hK1 => ?_
  refine rg ?_
  refine hK1 _ ?_
  clear hK1 K1
  refine Wp.seqK fun K2 hK2 => ?_
  refine Wp.seqK fun K3 hK3 => ?_
  refine rg ?_
  refine ⟨rfl, CallK.valA (h := okj hr (by omega)) (k := ?_)⟩
  refine evd ?_
  refine ⟨rfl, CallK.valA (h := in40 hk) (k := ?_)⟩
  refine evd ?_
  refine hK3 _ ?_
  clear hK3 K3
  refine Wp.condS (fun h16 => ?_) (fun h16 => ?_)
  · exact absurd h16 (by decide)
  · refine Wp.skip ?_
    refine hK2 _ ?_
    clear hK2 K2
    refine Wp.seqK fun K4 hK4 => ?_
    refine Wp.drawP [0, 1] [0, 2] [1, 3, 4, 0, 2, 5, 6, 7] rfl (by kernel_rfl) ?_
    refine evd ?_
    refine hK4 _ ?_
    clear hK4 K4
    refine Wp.ret (retL [2] rfl (Nat.zero_le _) (by decide) (by simp) rfl ?_)
    simp only [keepO, List.take_zero, List.map_nil, List.nil_append, List.map_cons, List.getD_cons_zero, List.getD_cons_succ, Option.map_some, renB, renI, renS]

theorem st0_good {r : List Bool} {n : Nat} {o : ByteArray} {k : Int} (hn : n ≤ 6) (hr : r.length = n) (ht : tabN n o) (hk : 0 ≤ k ∧ k ≤ 40) : GoodM (st0 r n o k) where
  right := { n := ⟨by show (0 : Int) ≤ (n : Int); omega, by show (n : Int) ≤ 12; omega⟩, tab := by show tabN ((n : Int).toNat) o; rwa [Int.toNat_natCast], row := by show (r.length : Int) = n; omega, room := hk, memo := by show ((0 : Nat) : Int) ≤ k; omega, vals := by show ((0 : Nat) : Int) ≤ (n : Int); omega, va := rfl, ret := ⟨by show (-1 : Int) ≤ -1; omega, by show (-1 : Int) ≤ 1; omega⟩, over := (fun e => by cases e), mem := rfl, steps := ⟨by show (0 : Int) ≤ 0; omega, by show (0 : Int) ≤ 1000000000; omega⟩, looks := ⟨by show (0 : Int) ≤ 0; omega, by show (0 : Int) ≤ 1000000000; omega⟩, hits := ⟨by show (0 : Int) ≤ 0; omega, by show (0 : Int) ≤ 1000000000; omega⟩ }
  six := by show (n : Int) ≤ 6; omega
  memo := fun s hs => by cases hs
  ended := fun h => by exact absurd (show (0 : Int) ≤ -1 from h) (by omega)
  first := fun d hd => by exact absurd (show d < 0 from hd) (by omega)
theorem st0_cnt {r : List Bool} {n : Int} {o : ByteArray} {k : Int} : CntM (st0 r n o k) 0 := ⟨Int.le_refl _, Int.le_refl _, Int.le_refl _⟩
theorem rowed_ok {r : List Bool} {n : Nat} {o : ByteArray} (hn : n ≤ 12) (hr : r.length = n) (ht : tabN n o) : rowedB r n o = true := by
  unfold rowedB
  rw [Bool.and_eq_true]
  exact ⟨tab_iff.2 ⟨by omega, by rwa [Int.toNat_natCast]⟩, decide_eq_true (by omega)⟩
theorem CallK.rowD {P : Program} {f : FuncId} {args args' : List AV} {st : St} {d : Option Tmp} {K : St → Prop} {l : List Int} {i s : Int} {n : Nat} {rest : Obs} (h : CallsA P f args' [some (cur l i s)] (QRow l n))
    (k : ∀ (b : List Bool) i2 s2, b.length = n → (0 ≤ i2 ∧ i2 ≤ (l.length : Int)) → K ⟨putT st.tm d (.l (.obj st.ob.length 0 1 0 n)), some (cur l i2 s2) :: rest ++ [some ⟨0, b.map cb⟩]⟩) (ho : st.ob = some (cur l i s) :: rest := by rfl) (ha : args.map (AV.toC (List.range 1) []) = args' := by rfl) : CallK P f args st d K :=
  CallK.handE 1 h (fun r ob1 ⟨i2, s2, b, hi, hb, e1, e2⟩ => ⟨[some (cur l i2 s2)], [some ⟨0, b.map cb⟩], by rw [e2]; rfl, rfl, rfl, by
    have := k b i2 s2 hb hi
    rw [ho] at this ⊢
    rw [e1]
    simpa [AV.ren, LV.ren, shm, Ob.ren, map_flat (flatB b)] using this⟩) (by rw [ho]; rfl) ha rfl (by rw [ho]; simp)
def QStart (l : List Int) : AV → Obs → Prop := fun r ob => ∃ (i2 h2 : Int) (G : Gh) (m : Mc), (0 ≤ i2 ∧ i2 ≤ (l.length : Int)) ∧ GoodM m ∧ CntM m 0 ∧ r = .agg (mCl 1 2 3 G m) ∧ ob = some (cur l i2 h2) :: mRw G m
theorem l09Start_c (l : List Int) (i h : Int) (hi : 0 ≤ i ∧ i ≤ (l.length : Int)) (hl : l.length ≤ 1048576) : CallsA E.P 23 [.l (.ptr 0 0 0)] [some (cur l i h)] (QStart l) := by
  refine CallsA.body (E := E) (fn := Tryd.f23) Tryd.func23 rfl fun B hB => ?_
  simp only [Tryd.ntmps23, go_sem, nl, Nat.reduceSub, Nat.reduceAdd, List.reduceReplicate]
  refine Wp.seqK fun K1 hK1 => ?_
  refine rg ?_
  refine hK1 _ ?_
  clear hK1 K1
  refine Wp.seqK fun K2 hK2 => ?_
  refine rg ?_
  refine ⟨rfl, CallK.curI (h := l01Below_c _ _ _ (by omega) (by omega) 7 (by omega)) (fun x1_1 i1_1 s1_1 hx1_1 hi1_1 => ?_)⟩
  refine evd ?_
  obtain ⟨n, rfl⟩ : ∃ n : Nat, x1_1 = n := ⟨x1_1.toNat, by omega⟩
  refine hK2 _ ?_
  clear hK2 K2
  refine Wp.seqK fun K3 hK3 => ?_
  refine rg ?_
  refine ⟨rfl, CallK.rowD (h := l08Row_c _ _ _ (by omega) (by omega) n (by omega)) (fun b2_2 i2_2 s2_2 hb2_2 hi2_2 => ?_)⟩
  refine evd ?_
  refine hK3 _ ?_
  clear hK3 K3
  refine Wp.seqK fun K4 hK4 => ?_
  refine rg ?_
  refine ⟨rfl, CallK.cur0 (h := l06Table_c _ _ _ (by omega) (by omega) n (by omega)) (fun r3_3 i3_3 s3_3 ⟨o3_3, ht3_3, hr3_3⟩ hi3_3 => ?_) (fun r ⟨o, _, e⟩ => by rw [e]; rfl)⟩
  subst hr3_3
  refine evd ?_
  refine ⟨rfl, CallK.pickS (n := 0) (q := [0, 1, 3, 20]) (h := pick_c _ _ _ (by omega) (by omega) [0, 1, 3, 20] (by simp)) (fun x3_6 i3_6 s3_6 hx3_6 hi3_6 => ?_)⟩
  have hk3_6 : 0 ≤ x3_6 ∧ x3_6 ≤ 40 := by simp only [List.mem_cons, List.not_mem_nil, or_false] at hx3_6; omega
  refine evd ?_
  refine ⟨rfl, CallK.retA (h := sStart_c b2_2 n o3_3 x3_6 (rowed_ok (by omega) hb2_2 ht3_3) hk3_6 (by have := ht3_3.1; have : 2 ^ n ≤ 4096 := Nat.le_trans (Nat.pow_le_pow_right (n := 2) (by decide) (show n ≤ 12 by omega)) (by decide); omega) (by omega)) (k := ?_)⟩
  refine evd ?_
  refine hK4 _ ?_
  clear hK4 K4
  refine Wp.seqK fun K5 hK5 => ?_
  refine Wp.nilCell 5 4 1 rfl rfl ?_
  refine evd ?_
  refine Wp.nilCell 5 10 2 rfl rfl ?_
  refine evd ?_
  refine rg ?_
  refine hK5 _ ?_
  clear hK5 K5
  refine Wp.ret ⟨_, [4, 6, 7], rfl, by simp, by simp, by simp, i3_6, s3_6, ⟨0, 0, [], 0, []⟩, st0 b2_2 n o3_3 x3_6, by omega, st0_good (by omega) hb2_2 ht3_3 hk3_6, st0_cnt, ?_, ?_⟩
  · simp only [mCl, mCells, AV.ren, List.map_cons, List.map_nil, lren_obj, lren_sc, keepM_l, keepX_cons, keepX_nil]
    rfl
  · simp only [keepO, List.take_succ_cons, List.take_zero, List.map_cons, List.map_nil, List.cons_append, List.nil_append, List.getD_cons_succ, List.getD_cons_zero, Option.map_some, renB, renI]
    rfl
end Go.Proofs.YtbhlegobhidgkaaDoor.RE
/-! Bytes that are handed over, as bytes. Conditions: those that a theorem names. -/
set_option linter.unusedVariables false
set_option linter.unusedSimpArgs false
namespace Go.Proofs.YtbhlegobhidgkaaDoor.RE
open Go Go.RowKit Go.ChangeShapes Go.WideShapes Go.Deep
theorem opd_byte {P : Program} {W : World} {t : TypeId} (ht : P.underlying t = some (.int .u8)) : OpD P W t fun n : UInt8 => [DV.sc (.int .u8 (n.toNat : Int))] := by
  intro H enc base held fuel cs x h
  obtain ⟨n, rfl, _, hw⟩ := DataW.trod_int ht h
  have hr : 0 ≤ n ∧ n ≤ 255 := by
    simp only [Lit.wf, Bool.and_eq_true, decide_eq_true_eq] at hw
    exact hw
  have e : (UInt8.ofNat n.toNat).toNat = n.toNat := by
    simp only [UInt8.toNat_ofNat']
    omega
  refine ⟨UInt8.ofNat n.toNat, ?_⟩
  simp only [e, Int.toNat_of_nonneg hr.1]
  exact .cons (.sc _ rfl) .nil
end Go.Proofs.YtbhlegobhidgkaaDoor.RE
/-! A machine that runs is drawn. Conditions: those that a theorem names. -/
set_option linter.unusedVariables false
set_option linter.unusedSimpArgs false
namespace Go.Proofs.YtbhlegobhidgkaaDoor.RE
open Go Go.RowKit
set_option maxRecDepth 100000
set_option maxHeartbeats 8000000

theorem row_len {m : Mc} (h : GoodM m) : m.row.length ≤ 6 := by
  have h1 := h.right.row
  have h2 := h.six
  omega
theorem true_key {row : List Bool} {s : Sn} (h : trueS row s) (h6 : row.length ≤ 6) : s.key.size ≤ 67 ∧ plainB s.key = true := by
  obtain ⟨k, o, e, hk, ht, _⟩ := h
  rw [e]
  refine ⟨?_, keyB_plain ht⟩
  have h1 := keyB_size (n := (k : Int)) o (by omega)
  have h2 : 2 ^ k ≤ 2 ^ 6 := Nat.pow_le_pow_right (by decide) (by omega)
  have h3 := ht.1
  have h4 : (2 : Nat) ^ 6 = 64 := rfl
  omega
theorem good_fits {m : Mc} (h : GoodM m) : m.Fits := by
  have h6 := row_len h
  have hr := h.right
  refine ⟨by omega, ?_, by have := hr.vals; have := h.six; omega, by have := hr.memo; have := hr.room; omega, fun s hs => ?_⟩
  · rw [hr.tab.1]
    have h2 : 2 ^ m.n.toNat ≤ 2 ^ 6 := Nat.pow_le_pow_right (by decide) (by have := h.six; omega)
    have h4 : (2 : Nat) ^ 6 = 64 := rfl
    omega
  · have := (true_key (h.memo s hs) h6).1
    omega
theorem seen_sum : ∀ {l : List Sn}, (∀ s ∈ l, bitI s.ret = true ∧ s.key.size ≤ 67) → (linB (l.map seenL)).length ≤ 100 * l.length
  | [], _ => Nat.le_refl _
  | s :: l, h => by
    have h1 := seen_sum (l := l) fun x hx => h x (List.mem_cons_of_mem _ hx)
    have h2 := h s List.mem_cons_self
    have h3 := (seenL_size h2.1).1
    rw [List.map_cons, linB_cons, List.length_append, List.length_append, ← size_list, List.length_cons]
    simp only [List.length_cons, List.length_nil]
    omega
theorem good_save {m : Mc} (h : GoodM m) : saveB m = true := by
  have h6 := row_len h
  have hok : mOk m = true := mOk_iff.2 h.right
  have hn := mOk_n hok
  unfold saveB
  rw [hok, Bool.true_and, Bool.and_eq_true]
  refine ⟨List.all_eq_true.2 fun s hs => (true_key (h.memo s hs) h6).2, decide_eq_true ?_⟩
  have h1 := seen_sum (l := m.memo) fun s hs => ⟨(mem_iff.1 h.right.mem).1 s hs, (true_key (h.memo s hs) h6).1⟩
  have h2 := head_len hn
  have h3 := hn.memo
  unfold saveT saveL
  rw [mkB_size, linB_app, List.length_append]
  omega
theorem run_n {m : Mc} {k : Nat} {i : Int} (h : RightM m) (hk : k ≤ 100000) (hi : i = k) : runN m i = runM k m := by
  unfold runN okR inI
  rw [hi, mOk_iff.2 h, if_pos (by simp; omega)]
  rfl
theorem iRun_m {m : Mc} {a b c : Nat} {i : Int} (h : GoodM m) (hb : b ≤ 100000) (hi : i = b) (hc : a + b = c) : Ret E.P 12 [.agg (mD (runM a m)), I i] (.agg (mO 0 1 2 (runM c m))) (mR (runM c m)) := by
  have := iRun_c (runM a m) i (good_fits (run_good a h))
  rwa [run_n (run_right a h.right) hb hi, ← runM_add, hc] at this
theorem sRun_m {m : Mc} {a b c : Nat} {i : Int} (h : GoodM m) (hb : b ≤ 100000) (hi : i = b) (hc : a + b = c) : CallsA E.P 22 [.agg (mD (runM a m)), I i] [] (QR (runM c m)) := by
  have := sRun_c (runM a m) i (good_fits (run_good a h))
  rwa [run_n (run_right a h.right) hb hi, ← runM_add, hc] at this
/-! ### A machine in rows of one's own is lent, with a number -/
theorem argGI {ob : Obs} {L : Lend} {a b c : Nat} {G : Gh} {m : Mc} {n : Int} (e1 : ob.getD a none = some ⟨G.gr, m.row.map cb⟩) (e2 : ob.getD b none = some ⟨G.gv, (m.vals ++ G.jv).map ci⟩) (e3 : ob.getD c none = some ⟨G.gm, lS (G.pm ++ m.memo)⟩)
    (l1 : lk L a G.gr = some (encB m.row)) (l2 : lk L b G.gv = some (encI (m.vals ++ G.jv))) (l3 : lk L c G.gm = some (encS (G.pm ++ m.memo))) :
    ArgsL ob L [.agg (mCl a b c G m), I n] [.agg (mD m), I n] [(a, G.gr, encB m.row), (b, G.gv, encI (m.vals ++ G.jv)), (c, G.gm, encS (G.pm ++ m.memo))] := by
  refine .agg (.same rfl .nil) ?_
  unfold mCl mD mCells
  refine .row e1 (lB_encB _ false).symm (by rw [List.drop_zero, Nat.mul_one, List.take_of_length_le (by rw [encB_len]; exact Nat.le_refl _)]) l1 ?_
  refine .same rfl (.same rfl (.same rfl ?_))
  refine .row e2 (lI_encI _ false).symm (by rw [List.drop_zero, Nat.mul_one, encV_take]) l2 ?_
  refine .same rfl (.same rfl (.same rfl (.same rfl (.same rfl ?_))))
  refine .row e3 (lS_encS _ false).symm (by rw [encM_mid]) l3 ?_
  exact .nil
theorem mRw_flat (G : Gh) (m : Mc) : obFlat (mRw G m) = true := by
  simp only [mRw, obFlat, List.all_cons, List.all_nil, flatI, flatB, lS_flat, Bool.and_true]
theorem mCl_sh {n : Nat} (G : Gh) (m : Mc) : (AV.agg (mCl 0 1 2 G m)).ren (sh n) = .agg (mCl n (n + 1) (n + 2) G m) := by
  simp only [mCl, mCells, AV.ren, List.map_cons, List.map_nil, lren_obj, lren_sc, sh, Nat.add_zero]
  rfl
theorem CallK.machQ {P : Program} {f : FuncId} {args args' : List AV} {st : St} {d : Option Tmp} {K : St → Prop} {L : Lend} {m' : Mc} (h : CallsA P f args' [] (QR m')) (ha : ArgsL st.ob L args args' L) (k : ∀ G, K ⟨putT st.tm d (.agg (mCl st.ob.length (st.ob.length + 1) (st.ob.length + 2) G m')), st.ob ++ mRw G m'⟩) : CallK P f args st d K :=
  CallK.use (Q := QR m') [] L ha.lend (by rw [ha.map]; exact h) fun r ob1 ⟨G, e1, e2⟩ => by
    subst e1; subst e2
    refine ⟨Nat.zero_le _, .inr ⟨rfl, obFlat_noB (mRw_flat G m')⟩, ?_⟩
    rw [obB_nil, obFlat_ren (mRw_flat G m'), mB_nil, mCl_sh]
    exact k G
theorem CallK.startD {P : Program} {f : FuncId} {args args' : List AV} {st : St} {d : Option Tmp} {K : St → Prop} {l : List Int} {i s : Int} {rest : Obs} (h : CallsA P f args' [some (cur l i s)] (QStart l))
    (k : ∀ (G : Gh) (m : Mc) i2 s2, GoodM m → CntM m 0 → (0 ≤ i2 ∧ i2 ≤ (l.length : Int)) → K ⟨putT st.tm d (.agg (mCl (rest.length + 1) (rest.length + 2) (rest.length + 3) G m)), some (cur l i2 s2) :: (rest ++ mRw G m)⟩) (ho : st.ob = some (cur l i s) :: rest := by rfl) (ha : args.map (AV.toC (List.range 1) []) = args' := by rfl) : CallK P f args st d K :=
  CallK.handE 1 h (fun r ob1 ⟨i2, s2, G, m, hi, hg, hc, e1, e2⟩ => ⟨[some (cur l i2 s2)], mRw G m, by rw [e2]; rfl, rfl, rfl, by
    have := k G m i2 s2 hg hc hi
    rw [ho, e1, obFlat_ren (mRw_flat G m)]
    have e : AV.ren (shm 1 (some (cur l i s) :: rest).length) (.agg (mCl 1 2 3 G m)) = .agg (mCl (rest.length + 1) (rest.length + 2) (rest.length + 3) G m) := by
      simp only [mCl, mCells, AV.ren, List.map_cons, List.map_nil, lren_obj, lren_sc, shm, List.length_cons]
      simp [optO, Nat.add_comm, Nat.add_assoc, Nat.add_left_comm]
    rw [e]
    exact this⟩) (by rw [ho]; rfl) ha rfl (by rw [ho]; simp)
def QD : AV → Obs → Prop := fun r ob => ∃ G m, GoodM m ∧ CntM m 60 ∧ r = .agg (mCl 0 1 2 G m) ∧ ob = mRw G m
theorem CallK.machD {P : Program} {f : FuncId} {args args' : List AV} {st : St} {d : Option Tmp} {K : St → Prop} (h : CallsA P f args' [] QD) (k : ∀ G m, GoodM m → CntM m 60 → K ⟨putT st.tm d (.agg (mCl st.ob.length (st.ob.length + 1) (st.ob.length + 2) G m)), st.ob ++ mRw G m⟩) (ha : args.map (AV.toC [] []) = args' := by rfl) : CallK P f args st d K :=
  CallK.use (Q := QD) [] [] LendOk.nil (by rw [ha]; exact h) fun r ob1 ⟨G, m, hg, hc, e1, e2⟩ => by
    subst e1; subst e2
    refine ⟨Nat.zero_le _, .inr ⟨rfl, obFlat_noB (mRw_flat G m)⟩, ?_⟩
    rw [obB_nil, obFlat_ren (mRw_flat G m), mB_nil, mCl_sh]
    exact k G m hg hc
theorem retQD {st : St} {fn : Func} {m : Mc} {G : Gh} {a b c : Nat} (π : List Nat) (hg : GoodM m) (hk : CntM m 60) (ha : st.ob.getD a none = some ⟨G.gr, m.row.map cb⟩) (hb : st.ob.getD b none = some ⟨G.gv, (m.vals ++ G.jv).map ci⟩) (hc : st.ob.getD c none = some ⟨G.gm, lS (G.pm ++ m.memo)⟩)
    (h : resA st.tm st.ob E fn.results.toList = some (.agg (mCl a b c G m)) := by rfl) (hπ : π = [a, b, c] := by rfl) (hd : π.Nodup := by decide) : retQ E fn 0 QD .ret st := by
  subst hπ
  have hab : a ≠ b ∧ a ≠ c ∧ b ≠ c := by simp at hd; omega
  refine ⟨_, [a, b, c], h, Nat.zero_le _, hd, by simp, ⟨0, 0, G.jv, 0, G.pm⟩, m, hg, hk, ?_, ?_⟩
  · simp only [mCl, mCells, AV.ren, List.map_cons, List.map_nil, lren_obj, lren_sc, keepM_l, keepX_cons, keepX_nil, ha, hb, hc]
    simp [hab, hab.1.symm, hab.2.1.symm, hab.2.2.symm, optO]
  · unfold keepO
    simp only [List.take_zero, List.map_nil, List.nil_append, List.map_cons, ha, hb, hc, Option.map_some, renB, renI, renS]
    rfl
theorem cnt_le {m : Mc} {a b : Int} (h : CntM m a) (hab : a ≤ b) : CntM m b := ⟨Int.le_trans h.steps hab, Int.le_trans h.looks hab, Int.le_trans h.hits hab⟩
theorem CallK.newC {P : Program} {f : FuncId} {args args' : List AV} {st : St} {d : Option Tmp} {K : St → Prop} {l : List Int} (h : CallsA P f args' [] (fun r ob => ∃ h : Int, r = .l (.ptr 0 0 0) ∧ ob = [some (cur l 0 h)]))
    (k : ∀ s : Int, K ⟨putT st.tm d (.l (.ptr st.ob.length 0 0)), st.ob ++ [some (cur l 0 s)]⟩) (ha : args.map (AV.toC (List.range 0) []) = args' := by rfl) : CallK P f args st d K :=
  CallK.handE 0 (obm := []) h (fun r ob1 ⟨s, e1, e2⟩ => ⟨[], [some (cur l 0 s)], e2, rfl, rfl, by
    have := k s
    rw [e1]
    simpa [AV.ren, LV.ren, shm, Ob.ren] using this⟩) rfl ha rfl (Nat.zero_le _)
theorem draw_c (l : List Int) (hl : l.length ≤ 1048576) : CallsA E.P 7 [dY l] [] QD := by
  refine CallsA.body (E := E) (fn := Tryd.f7) Tryd.func7 rfl fun B hB => ?_
  simp only [Tryd.ntmps7, go_sem, nl, Nat.reduceSub, Nat.reduceAdd, List.reduceReplicate]
  refine Wp.seqK fun K1 hK1 => ?_
  refine rg ?_
  refine hK1 _ ?_
  clear hK1 K1
  refine Wp.seqK fun K2 hK2 => ?_
  refine rg ?_
  refine ⟨rfl, CallK.newC (h := l01New_c l hl) (fun s1_1 => ?_)⟩
  refine evd ?_
  refine hK2 _ ?_
  clear hK2 K2
  refine Wp.seqK fun K3 hK3 => ?_
  refine Wp.keepR 0 [1, 0] (by rw [hB]; simp) (by simp) (by decide) (by simp) ?_
  refine evd ?_
  refine rg ?_
  refine ⟨rfl, CallK.startD (h := l09Start_c l 0 s1_1 (by omega) hl) (fun G m i2_1 s2_1 hg hc hi2_1 => ?_)⟩
  refine evd ?_
  refine ⟨rfl, CallK.curI (h := l01Below_c _ _ _ (by omega) (by omega) 60 (by omega)) (fun x2_3 i2_3 s2_3 hx2_3 hi2_3 => ?_)⟩
  refine evd ?_
  obtain ⟨n, rfl⟩ : ∃ n : Nat, x2_3 = n := ⟨x2_3.toNat, by omega⟩
  refine ⟨rfl, CallK.machQ (h := sRun_m (a := 0) (b := n) (c := n) (m := m) hg (by omega) rfl (by omega)) (ha := argGI (G := G) (m := m) (a := 2) (b := 3) (c := 4) rfl rfl rfl (by simp [lk]) (by simp [lk]) (by simp [lk])) (fun G2 => ?_)⟩
  refine evd ?_
  refine hK3 _ ?_
  clear hK3 K3
  refine Wp.ret (retQD (G := G2) (m := runM n m) (a := 5) (b := 6) (c := 7) [5, 6, 7] (run_good n hg) (cnt_le (run_cnt n hc) (by omega)) rfl rfl rfl)

/-! ### Bytes -/
def atY (l : List Int) (k : Int) : Int := if k < (l.length : Int) then IntKind.i64.wrap (l.getD k.toNat 0) else (k * 7 + l.length).tmod 256
theorem atY_nn {l : List Int} {k : Int} (hk : 0 ≤ k) (h : ∀ x ∈ l, 0 ≤ x ∧ x ≤ 255) : 0 ≤ atY l k := by
  unfold atY
  split
  · have h1 := h _ (mem_getD (l := l) (i := k.toNat) (d := 0) (by omega))
    rw [wr (by omega) (by omega)]
    exact h1.1
  · exact Int.tmod_nonneg _ (by omega)
theorem rem_nat {a b : Int} (ha : 0 ≤ a) (hb : 0 < b) : ∃ n : Nat, a.tmod b = n ∧ (n : Int) < b := by
  have h1 := Int.tmod_nonneg b ha
  have h2 := Int.tmod_lt_of_pos a hb
  exact ⟨(a.tmod b).toNat, by omega, by omega⟩
theorem atY_c (l : List Int) (k : Int) (hk : 0 ≤ k ∧ k ≤ 1000) (hl : l.length ≤ 1048576) : Val E.P 11 [dY l, I k] (I (atY l k)) := by
  refine CallsA.body (E := E) (fn := Tryd.f11) Tryd.func11 rfl fun B hB => ?_
  simp only [Tryd.ntmps11, go_sem, nl, Nat.reduceSub, Nat.reduceAdd, List.reduceReplicate]
  refine Wp.seqK fun K1 hK1 => ?_
  refine rg ?_
  refine hK1 _ ?_
  clear hK1 K1
  refine Wp.seqK fun K2 hK2 => ?_
  refine Wp.seqK fun K3 hK3 => ?_
  refine rg ?_
  refine hK3 _ ?_
  clear hK3 K3
  refine Wp.condS (fun h8 => ?_) (fun h8 => ?_)
  · have e : atY l k = IntKind.i64.wrap (l.getD k.toNat 0) := if_pos (by omega)
    refine Wp.seqK fun K4 hK4 => ?_
    refine rg ?_
    refine hK4 _ ?_
    clear hK4 K4
    refine Wp.ret (retV ?_)
    try simp only [List.getD_cons_zero, List.getD_cons_succ]
    rw [e]
  · have e : atY l k = (k * 7 + l.length).tmod 256 := if_neg (by omega)
    refine Wp.skip ?_
    refine hK2 _ ?_
    clear hK2 K2
    refine Wp.seqK fun K5 hK5 => ?_
    refine rg ?_
    refine hK5 _ ?_
    clear hK5 K5
    refine Wp.ret (retV ?_)
    try simp only [List.getD_cons_zero, List.getD_cons_succ]
    rw [e]
theorem bigB_c (l : List Int) : Val E.P 6 [dY l] (T (decide (1048576 < (l.length : Int)))) := by
  refine CallsA.body (E := E) (fn := Tryd.f6) Tryd.func6 rfl fun B hB => ?_
  simp only [Tryd.ntmps6, go_sem, nl, Nat.reduceSub, Nat.reduceAdd, List.reduceReplicate]
  refine Wp.seqK fun K1 hK1 => ?_
  refine rg ?_
  refine hK1 _ ?_
  clear hK1 K1
  refine Wp.seqK fun K2 hK2 => ?_
  refine rg ?_
  refine hK2 _ ?_
  clear hK2 K2
  refine Wp.ret (retV ?_)
  try simp only [List.getD_cons_zero, List.getD_cons_succ]
  try rfl
end Go.Proofs.YtbhlegobhidgkaaDoor.RE
/-! Pieces and words of a text, the program. Conditions: those that a theorem names. -/
set_option linter.unusedVariables false
set_option linter.unusedSimpArgs false
namespace Go.Proofs.YtbhlegobhidgkaaDoor.RE
open Go Go.RowKit
set_option maxRecDepth 100000
set_option maxHeartbeats 8000000

/-! ### strings.Count of one byte: the shelf's walk at this program's numbers -/
theorem cnt_calls (s : ByteArray) (c : UInt8) (w : World) : Calls Tryd.prog 100 #[.string s, .string ⟨#[c]⟩] w fun e w' => e = .returned (.int .i64 (Lib.countByte s.data.toList c)) ∧ w' = w := by
  go_enter Tryd.func100, Tryd.ntmps100
  go_wp2
  rw [run_callFunc_extern Tryd.func113 (by kernel_rfl) (by kernel_rfl) (by kernel_rfl) (e := Extern.BytealgCount.count) (by kernel_rfl), Lib.run_countString]
  simp only [Result.andThen]
  rw [Oper.upon_value]
  go_wp2
  go_ret
  exact ⟨rfl, rfl⟩
theorem cnt_c (s : ByteArray) (c : UInt8) : Val E.P 100 [S s, S ⟨#[c]⟩] (I ((pcs c s).length - 1)) := by
  intro w cx vs hM hv
  cases hv with
  | cons h1 h2 =>
    cases h2 with
    | cons h3 h4 =>
      cases h4
      cases h1
      cases h3
      refine (cnt_calls s c w).mono ?_
      rintro e w' ⟨rfl, rfl⟩
      have e : (((pcs c s).length : Int) - 1) = (Lib.countByte s.data.toList c : Int) := by
        unfold pcs Lib.countByte
        rw [List.length_map, spl_count]; omega
      exact ⟨_, _, [], cx, rfl, ⟨rfl, rfl⟩, Ext.refl _ _ _, hM, by rw [e]; rfl⟩
theorem cnt_c' (s : ByteArray) (c : UInt8) : Val E.P 100 [S s, S ⟨#[c]⟩] (I ((pcs c s).length - 1 : Int)) := cnt_c s c
/-! ### strings.Split at one byte -/
theorem pcs_pos (c : UInt8) (s : ByteArray) : 1 ≤ (pcs c s).length := by
  unfold pcs
  rw [List.length_map, spl_count]; omega
theorem pcs_le (c : UInt8) (s : ByteArray) : (pcs c s).length ≤ s.size + 1 := by
  unfold pcs
  rw [List.length_map, spl_count, size_list]
  have := List.count_le_length (a := c) (l := s.data.toList)
  omega
theorem index_at {c : UInt8} : ∀ {l : List UInt8}, 0 ≤ Lib.indexByte l c → ∃ w r, l = w ++ c :: r ∧ (w.length : Int) = Lib.indexByte l c ∧ ∀ b ∈ w, b ≠ c
  | [], h => absurd h (by simp [Lib.indexByte])
  | b :: l, h => by
    by_cases hb : b = c
    · subst hb
      exact ⟨[], l, rfl, by simp [Lib.indexByte], by simp⟩
    · have e0 : Lib.indexByte (b :: l) c = if (Lib.indexByte l c == -1) = true then -1 else Lib.indexByte l c + 1 := by rw [Lib.indexByte, if_neg (by simpa using hb)]
      rw [e0] at h ⊢
      have h0 := Lib.indexByte_ge l c
      split at h
      · omega
      · rename_i h1
        have h1 : ¬ Lib.indexByte l c = -1 := by simpa using h1
        obtain ⟨w, r, h2, h3, h4⟩ := index_at (c := c) (l := l) (by omega)
        refine ⟨b :: w, r, by rw [h2]; rfl, ?_, fun x hx => ?_⟩
        · rw [if_neg (by simpa using h1), List.length_cons]; omega
        · rcases List.mem_cons.1 hx with rfl | hx
          · exact hb
          · exact h4 x hx
theorem index_no {c : UInt8} : ∀ {l : List UInt8}, Lib.indexByte l c < 0 → ∀ b ∈ l, b ≠ c
  | [], _ => by simp
  | b :: l, h => by
    by_cases hb : b = c
    · subst hb
      exact absurd h (by simp [Lib.indexByte])
    · have e0 : Lib.indexByte (b :: l) c = if (Lib.indexByte l c == -1) = true then -1 else Lib.indexByte l c + 1 := by rw [Lib.indexByte, if_neg (by simpa using hb)]
      rw [e0] at h
      have h0 := Lib.indexByte_ge l c
      intro x hx
      rcases List.mem_cons.1 hx with rfl | hx
      · exact hb
      · refine index_no (l := l) ?_ x hx
        split at h
        · rename_i h1
          have h1 : Lib.indexByte l c = -1 := by simpa using h1
          omega
        · omega
theorem mkB_of' (s : ByteArray) : mkB s.data.toList = s := rfl
theorem pcs_no {c : UInt8} {s : ByteArray} (h : Lib.indexByte s.data.toList c < 0) : pcs c s = [s] := by
  have := pcs_one (c := c) (w := s.data.toList) (index_no h)
  rwa [mkB_of'] at this
theorem pcs_at {c : UInt8} {s : ByteArray} (h : 0 ≤ Lib.indexByte s.data.toList c) : (Lib.indexByte s.data.toList c).toNat < s.size ∧ pcs c s = s.extract 0 (Lib.indexByte s.data.toList c).toNat :: pcs c (s.extract ((Lib.indexByte s.data.toList c).toNat + 1) s.size) := by
  obtain ⟨w, r, h1, h2, h3⟩ := index_at h
  have hk : (Lib.indexByte s.data.toList c).toNat = w.length := by omega
  rw [hk]
  refine ⟨by rw [size_list, h1]; simp, ?_⟩
  have e1 : s.extract 0 w.length = mkB w := ba_ext (by rw [ext_list, mkB_list, h1]; simp)
  have e2 : s.extract (w.length + 1) s.size = mkB r := ba_ext (by
    rw [ext_list, mkB_list, size_list, h1]
    rw [List.take_of_length_le (by simp; omega), show w ++ c :: r = (w ++ [c]) ++ r by simp, List.drop_append, List.drop_of_length_le (by simp)]
    simp)
  rw [e1, e2, ← pcs_two h3, ← h1, mkB_of']
theorem pcs_len1 {c : UInt8} {s : ByteArray} (h : (pcs c s).length ≤ 1) : pcs c s = [s] := by
  by_cases hi : Lib.indexByte s.data.toList c < 0
  · exact pcs_no hi
  · have h1 := (pcs_at (c := c) (s := s) (by omega)).2
    have h2 := pcs_pos c (s.extract ((Lib.indexByte s.data.toList c).toNat + 1) s.size)
    rw [h1, List.length_cons] at h
    omega
theorem fillT {l : List ByteArray} {n : Nat} (h : l.length < n) (v : ByteArray) : ((l ++ List.replicate (n - l.length) (⟨#[]⟩ : ByteArray)).set l.length v) = (l ++ [v]) ++ List.replicate (n - (l ++ [v]).length) ⟨#[]⟩ := by
  obtain ⟨k, hk⟩ : ∃ k, n - l.length = k + 1 := ⟨n - l.length - 1, by omega⟩
  rw [hk, List.set_append_right _ _ (Nat.le_refl _), Nat.sub_self, List.replicate_succ, List.set_cons_zero]
  have e : n - (l ++ [v]).length = k := by rw [List.length_append, List.length_singleton]; omega
  rw [e, List.append_assoc]; rfl
theorem repF (n : Nat) : (List.replicate n [LV.sc (.string ⟨#[]⟩)]).flatten = (([] : List ByteArray) ++ List.replicate (n - 0) (⟨#[]⟩ : ByteArray)).map ct := by simp [List.flatten_replicate_singleton]
theorem ext_le (s : ByteArray) (a b : Nat) : (s.extract a b).size ≤ s.size := by
  rw [size_list, ext_list, size_list]; simp; omega
theorem fill_end {l r p : List ByteArray} {v : ByteArray} (h : p = l ++ [v]) : List.take l.length ((l ++ r).map ct) ++ [LV.sc (.string v)] = p.map ct := by
  rw [List.map_append, List.take_left' (by simp), h]; simp
theorem size1 (c : UInt8) : (#[c] : Array UInt8).size = 1 := rfl
attribute [go_sem] size1
theorem genSplit_c (s : ByteArray) (c : UInt8) (hs : s.size ≤ 1048576) : Ret E.P 80 [S s, S ⟨#[c]⟩, I 0, I (-1)] (.l (.obj 0 0 1 0 (pcs c s).length)) [some ⟨0, (pcs c s).map ct⟩] := by
  refine CallsA.body (E := E) (fn := Tryd.f80) Tryd.func80 rfl fun B hB => ?_
  simp only [Tryd.ntmps80, go_sem, nl, Nat.reduceSub, Nat.reduceAdd, List.reduceReplicate]
  have hp1 := pcs_pos c s
  have hp2 := pcs_le c s
  refine Wp.seqK fun K1 hK1 => ?_
  refine rg ?_
  refine hK1 _ ?_
  clear hK1 K1
  refine Wp.seqK fun K2 hK2 => ?_
  refine Wp.seqK fun K3 hK3 => ?_
  refine rg ?_
  refine hK3 _ ?_
  clear hK3 K3
  refine Wp.condS (fun h13 => ?_) (fun h13 => ?_)
  · exact absurd h13 (by decide)
  · refine Wp.skip ?_
    refine hK2 _ ?_
    clear hK2 K2
    refine Wp.seqK fun K4 hK4 => ?_
    refine Wp.seqK fun K5 hK5 => ?_
    refine rg ?_
    refine hK5 _ ?_
    clear hK5 K5
    refine Wp.condS (fun h15 => ?_) (fun h15 => ?_)
    · exact absurd (congrArg ByteArray.size h15) (by show ¬ (1 : Nat) = 0; omega)
    · refine Wp.skip ?_
      refine hK4 _ ?_
      clear hK4 K4
      refine Wp.seqK fun K6 hK6 => ?_
      refine Wp.seqK fun K7 hK7 => ?_
      refine rg ?_
      refine hK7 _ ?_
      clear hK7 K7
      refine Wp.condS (fun h20 => ?_) (fun h20 => ?_)
      · refine rg ?_
        refine ⟨rfl, CallK.valA (h := cnt_c _ _) (k := ?_)⟩
        refine evd ?_
        refine hK6 _ ?_
        clear hK6 K6
        refine Wp.seqK fun K8 hK8 => ?_
        refine rg ?_
        refine hK8 _ ?_
        clear hK8 K8
        refine Wp.seqK fun K9 hK9 => ?_
        rw [show (if ((s.size + 1 : Nat) : Int) < ((pcs c s).length : Int) - 1 + 1 then ((s.size + 1 : Nat) : Int) else ((pcs c s).length : Int) - 1 + 1) = ((pcs c s).length : Int) by rw [if_neg (by omega)]; omega]
        refine rg ?_
        refine hK9 _ ?_
        clear hK9 K9
        refine Wp.seqK fun K10 hK10 => ?_
        refine rg ?_
        refine hK10 _ ?_
        clear hK10 K10
        refine Wp.seqK fun K11 hK11 => ?_
        refine rg ?_
        refine hK11 _ ?_
        clear hK11 K11
        refine Wp.seqU (α := List ByteArray × ByteArray) (fun q => [.v (S q.2), .d5, .d, .d, .d, .k, .v (I (q.1.length : Int)), .d5, .d5, .d5, .d5, .d5, .d5, .d5, .d5, .d5, .d5, .d5]) (fun q => [some (⟨0, (q.1 ++ List.replicate ((pcs c s).length - q.1.length) (⟨#[]⟩ : ByteArray)).map ct⟩ : Ob)]) (fun q => pcs c s = q.1 ++ [q.2]) (fun K12 hK12 => ?_) ?_
        · refine Wp.block ?_
          refine Wp.loopU (α := List ByteArray × ByteArray) (fun q => [.v (S q.2), .k, .k, .k, .d5, .k, .v (I (q.1.length : Int)), .d5, .d5, .d5, .d5, .d5, .d5, .d5, .d5, .d5, .d5, .d5]) (fun q => [some (⟨0, (q.1 ++ List.replicate ((pcs c s).length - q.1.length) (⟨#[]⟩ : ByteArray)).map ct⟩ : Ob)]) (fun q => pcs c s = q.1 ++ pcs c q.2 ∧ q.2.size ≤ s.size) (fun q => (pcs c s).length - q.1.length) ([], s) (⟨rfl, Nat.le_refl _⟩) (anyS (ho := congrArg (fun x => [some (⟨0, x⟩ : Ob)]) (repF _))) ?_
          rintro q f13 K13 ⟨hq, hqs⟩ hK13
          simp only [updT_k, updT_d, updT_d5, updT_v, updT_nil, Nat.reduceAdd]
          refine Wp.seqK fun K14 hK14 => ?_
          refine Wp.seqK fun K15 hK15 => ?_
          refine rg ?_
          refine hK15 _ ?_
          clear hK15 K15
          refine Wp.condS (fun h36 => ?_) (fun h36 => ?_)
          · have hlt : q.1.length + 1 < (pcs c s).length := by omega
            refine Wp.skip ?_
            refine hK14 _ ?_
            clear hK14 K14
            refine Wp.block ?_
            refine Wp.seqK fun K16 hK16 => ?_
            refine rg ?_
            refine ⟨rfl, CallK.valA (h := sIndex_c _ _) (k := ?_)⟩
            refine evd ?_
            refine hK16 _ ?_
            clear hK16 K16
            refine Wp.seqK fun K17 hK17 => ?_
            refine Wp.seqK fun K18 hK18 => ?_
            refine rg ?_
            refine hK18 _ ?_
            clear hK18 K18
            refine Wp.condS (fun h41 => ?_) (fun h41 => ?_)
            · refine Wp.exit ?_
              try simp only [thn, inB, if_true, reduceIte, Nat.zero_ne_one, Nat.one_ne_zero, Nat.reduceEqDiff]
              clear hK17 K17
              clear hK13 K13
              exact hK12 q _ (by rw [hq, pcs_no (by omega)]) (anyS)
            · obtain ⟨hk1, hk2⟩ := pcs_at (c := c) (s := q.2) (by omega)
              obtain ⟨k, hk⟩ : ∃ k : Nat, Lib.indexByte q.2.data.toList c = k := ⟨_, (Int.toNat_of_nonneg (by omega)).symm⟩
              rw [hk] at hk1 hk2 ⊢
              rw [Int.toNat_natCast] at hk1 hk2
              refine Wp.skip ?_
              refine hK17 _ ?_
              clear hK17 K17
              refine Wp.seqK fun K19 hK19 => ?_
              refine rg ?_
              refine hK19 _ ?_
              clear hK19 K19
              refine Wp.seqK fun K20 hK20 => ?_
              rw [show ((k : Int) + 0).toNat = k by omega]
              refine rg ?_
              refine hK20 _ ?_
              clear hK20 K20
              refine rg ?_
              try simp only [thn, inB, if_true, reduceIte]
              exact hK13 (q.1 ++ [q.2.extract 0 k], q.2.extract (k + 1) q.2.size) _ ⟨by rw [hq, hk2]; simp, Nat.le_trans (ext_le _ _ _) hqs⟩ (by simp; omega) (anyS (h := by simp; rfl) (ho := by rw [fillT (by omega)]))
          · refine Wp.exit ?_
            try simp only [thn, inB, if_true, reduceIte, Nat.zero_ne_one, Nat.one_ne_zero, Nat.reduceEqDiff]
            clear hK14 K14
            clear hK13 K13
            exact hK12 q _ (by rw [hq, pcs_len1 (by have := congrArg List.length hq; simp only [List.length_append] at this; omega)]) (anyS)
        rintro q f12 hq
        simp only [updT_k, updT_d, updT_d5, updT_v, updT_nil, Nat.reduceAdd]
        have hql := congrArg List.length hq
        simp only [List.length_append, List.length_singleton] at hql
        refine Wp.seqK fun K21 hK21 => ?_
        refine rg ?_
        refine hK21 _ ?_
        clear hK21 K21
        refine Wp.seqK fun K22 hK22 => ?_
        refine rg ?_
        refine hK22 _ ?_
        clear hK22 K22
        rw [fill_end hq, show (((q.1.length + 1 : Nat) : Int) - 0).toNat = (pcs c s).length by omega]
        refine Wp.ret (retR rfl rfl (flatT _))
      · exact absurd h20 (by decide)
theorem split_c (s : ByteArray) (c : UInt8) (hs : s.size ≤ 1048576) : Ret E.P 31 [S s, S ⟨#[c]⟩] (.l (.obj 0 0 1 0 (pcs c s).length)) [some ⟨0, (pcs c s).map ct⟩] := by
  refine CallsA.body (E := E) (fn := Tryd.f31) Tryd.func31 rfl fun B hB => ?_
  simp only [Tryd.ntmps31, go_sem, nl, Nat.reduceSub, Nat.reduceAdd, List.reduceReplicate]
  refine Wp.seqK fun K1 hK1 => ?_
  refine rg ?_
  refine hK1 _ ?_
  clear hK1 K1
  refine Wp.seqK fun K2 hK2 => ?_
  refine rg ?_
  refine ⟨rfl, CallK.retA (h := genSplit_c s c hs) (k := ?_)⟩
  refine evd ?_
  refine hK2 _ ?_
  clear hK2 K2
  refine Wp.ret (retR rfl rfl (flatT _))
end Go.Proofs.YtbhlegobhidgkaaDoor.RE
/-! Words that are read, the program. Conditions: those that a theorem names. -/
set_option linter.unusedVariables false
set_option linter.unusedSimpArgs false
namespace Go.Proofs.YtbhlegobhidgkaaDoor.RE
open Go Go.RowKit
set_option maxRecDepth 100000
set_option maxHeartbeats 8000000

/-! ### The words of a line -/
theorem encT_drop (l : List ByteArray) (k : Nat) : (encT l).drop k = encT (l.drop k) := by simp [encT, List.map_drop]
theorem dropT (l : List ByteArray) (n : Nat) (h : n = l.length - 1) : List.take (n * 1) (List.drop 1 (encT l)) = encT (l.drop 1) := by
  subst h
  rw [encT_drop, Nat.mul_one, List.take_of_length_le (by rw [encT_len, List.length_drop]; omega)]
theorem wordAt_c (l : List ByteArray) (k : Nat) (hl : l.length ≤ 1048577) (hk : k ≤ 10) : Val E.P 32 [.l (.dsl false l.length (encT l)), I (k : Int)] (S (wordP l k)) := by
  refine CallsA.body (E := E) (fn := Tryd.f32) Tryd.func32 rfl fun B hB => ?_
  simp only [Tryd.ntmps32, go_sem, nl, Nat.reduceSub, Nat.reduceAdd, List.reduceReplicate]
  refine Wp.seqK fun K1 hK1 => ?_
  refine rg ?_
  refine hK1 _ ?_
  clear hK1 K1
  refine Wp.seqK fun K2 hK2 => ?_
  refine Wp.seqK fun K3 hK3 => ?_
  refine rg ?_
  refine hK3 _ ?_
  clear hK3 K3
  refine Wp.condS (fun h8 => ?_) (fun h8 => ?_)
  · refine Wp.seqK fun K4 hK4 => ?_
    refine rg ?_
    refine hK4 _ ?_
    clear hK4 K4
    refine Wp.ret (retV ?_)
    try simp only [List.getD_cons_zero, List.getD_cons_succ]
    show S _ = S (l.getD k ⟨#[]⟩)
    rw [List.getD_eq_getElem?_getD, List.getElem?_eq_none (by omega)]; rfl
  · refine Wp.skip ?_
    refine hK2 _ ?_
    clear hK2 K2
    refine Wp.seqK fun K5 hK5 => ?_
    refine rg ?_
    refine hK5 _ ?_
    clear hK5 K5
    refine Wp.ret (retV ?_)
    try simp only [List.getD_cons_zero, List.getD_cons_succ]
    rfl
theorem wordsOf_c (line nm : ByteArray) (hs : line.size ≤ 1048576) : Ret E.P 33 [S line, S nm] (.l (.dsl false (wordsP line nm).length (encT (wordsP line nm)))) [] := by
  refine CallsA.body (E := E) (fn := Tryd.f33) Tryd.func33 rfl fun B hB => ?_
  simp only [Tryd.ntmps33, go_sem, nl, Nat.reduceSub, Nat.reduceAdd, List.reduceReplicate]
  have hp1 := pcs_pos 32 line
  have hp2 := pcs_le 32 line
  refine Wp.seqK fun K1 hK1 => ?_
  refine rg ?_
  refine hK1 _ ?_
  clear hK1 K1
  refine Wp.seqK fun K2 hK2 => ?_
  refine rg ?_
  refine ⟨rfl, CallK.retA (h := split_c _ _ (by omega)) (k := ?_)⟩
  refine evd ?_
  refine hK2 _ ?_
  clear hK2 K2
  refine Wp.seqK fun K3 hK3 => ?_
  refine Wp.seqK fun K4 hK4 => ?_
  refine rg ?_
  refine hK4 _ ?_
  clear hK4 K4
  refine Wp.condS (fun h12 => ?_) (fun h12 => ?_)
  · have hw : wordsP line nm = [] := if_neg (by simpa using h12)
    refine Wp.seqK fun K5 hK5 => ?_
    refine rg ?_
    refine hK5 _ ?_
    clear hK5 K5
    refine Wp.nilRow 4 1 rfl ?_
    refine Wp.freeze 1 0 [] rfl rfl ?_
    rw [hw]
    refine Wp.ret (retV rfl)
  · have hw : wordsP line nm = (pcs 32 line).drop 1 := if_pos (by simpa using h12)
    refine Wp.skip ?_
    refine hK3 _ ?_
    clear hK3 K3
    refine Wp.seqK fun K6 hK6 => ?_
    refine rg ?_
    refine hK6 _ ?_
    clear hK6 K6
    refine Wp.freeze 0 0 (encT (pcs 32 line)) rfl (lT_encT _ false).symm ?_
    rw [hw]
    refine Wp.ret (retV ?_)
    show AV.l (.dsl false (((pcs 32 line).length : Int) - 1).toNat (List.take ((((pcs 32 line).length : Int) - 1).toNat * 1) (List.drop 1 (encT (pcs 32 line))))) = _
    rw [show (((pcs 32 line).length : Int) - 1).toNat = (pcs 32 line).length - 1 by omega, dropT _ _ rfl, List.length_drop]

/-! ### The number of a text -/
theorem rtI_bad {s : ByteArray} {x : Nat} (h1 : ¬ s = mOneB) (hx : x < s.data.toList.length) (hb : digB (s.data.toList.getD x 0) = false ∨ 10 < (s.size : Int)) : rtI s = -2 := by
  unfold rtI
  rw [if_neg h1, if_neg]
  rintro ⟨⟨h2, h3⟩, _⟩
  rcases hb with hb | hb
  · have := all_noD hx hb
    rw [h2] at this; cases this
  · rw [size_list] at hb
    omega
theorem numV_10 {l : List UInt8} {x : Nat} (hx : x ≤ l.length) (h9 : x ≤ 10) (h : (l.take x).all digB = true) : numV (l.take x) ≤ 10000000000 := by
  have h1 := numV_lt x hx h
  have h2 : 10 ^ x ≤ 10 ^ 10 := Nat.pow_le_pow_right (by decide) (by omega)
  have h3 : 10 ^ 10 = 10000000000 := rfl
  omega
theorem readRet_c (s : ByteArray) (hs : s.size ≤ 1048576) : Val E.P 35 [S s] (I (rtI s)) := by
  refine CallsA.body (E := E) (fn := Tryd.f35) Tryd.func35 rfl fun B hB => ?_
  simp only [Tryd.ntmps35, go_sem, nl, Nat.reduceSub, Nat.reduceAdd, List.reduceReplicate]
  have hsz := size_list s
  refine Wp.seqK fun K1 hK1 => ?_
  refine rg ?_
  refine hK1 _ ?_
  clear hK1 K1
  refine Wp.seqK fun K2 hK2 => ?_
  refine Wp.seqK fun K3 hK3 => ?_
  refine rg ?_
  refine hK3 _ ?_
  clear hK3 K3
  refine Wp.condS (fun h6 => ?_) (fun h6 => ?_)
  · refine Wp.seqK fun K4 hK4 => ?_
    refine rg ?_
    refine hK4 _ ?_
    clear hK4 K4
    refine Wp.ret (retV ?_)
    try simp only [List.getD_cons_zero, List.getD_cons_succ]
    show I (-1) = I (rtI s)
    rw [show rtI s = -1 from if_pos h6]
  · refine Wp.skip ?_
    refine hK2 _ ?_
    clear hK2 K2
    refine Wp.seqK fun K5 hK5 => ?_
    refine rg ?_
    refine hK5 _ ?_
    clear hK5 K5
    refine Wp.seqK fun K6 hK6 => ?_
    refine Wp.seqK fun K7 hK7 => ?_
    refine rg ?_
    refine hK7 _ ?_
    clear hK7 K7
    refine Wp.block ?_
    refine Wp.loopU0 (α := Nat) (fun x => [.k, .d, .d, .v (I (numV (s.data.toList.take x) : Int)), .d, .d, .d, .d, .k, .v (I x), .d5, .d5, .d5, .d5, .d5, .d5, .d]) (fun x => x ≤ s.size ∧ (s.data.toList.take x).all digB = true ∧ (0 < x → s.size ≤ 10)) (fun x => s.size - x) 0 (⟨Nat.zero_le _, rfl, fun h => absurd h (by omega)⟩) anyS ?_
    rintro x f8 K8 ⟨hx, ha, ht⟩ hK8
    simp only [updT_k, updT_d, updT_d5, updT_v, updT_nil, Nat.reduceAdd]
    have hb := byte_le (s.data.toList.getD x 0)
    refine Wp.seqK fun K9 hK9 => ?_
    refine rg ?_
    refine hK9 _ ?_
    clear hK9 K9
    refine Wp.seqK fun K10 hK10 => ?_
    refine Wp.condS (fun h10 => ?_) (fun h10 => ?_)
    · have hxl : x < s.data.toList.length := by omega
      refine Wp.skip ?_
      refine hK10 _ ?_
      clear hK10 K10
      refine Wp.seqK fun K11 hK11 => ?_
      refine Wp.block ?_
      refine Wp.seqK fun K12 hK12 => ?_
      refine rg ?_
      refine hK12 _ ?_
      clear hK12 K12
      refine Wp.seqK fun K13 hK13 => ?_
      refine Wp.seqU0 [.k, .d, .d, .k, .k, .d, .d, .d, .k, .k, .d5, .d5, .d5, .d, .v (T (!digB (s.data.toList.getD x 0) || decide (10 < (s.size : Int)))), .d5, .d5, .d, .d, .d, .d] (fun K14 hK14 => ?_) ?_
      · refine rg ?_
        refine grdA_split rfl (fun g7_5 => ?_) (fun g7_5 => ?_)
        · try simp only [decide_eq_true_eq, decide_eq_false_iff_not] at g7_5
          try refine evd ?_
          have e := dig_a (b := (s.data.toList.getD x 0)) (by omega)
          exact hK14 _ (anyS (h := by rw [e]; rfl))
        · try simp only [decide_eq_true_eq, decide_eq_false_iff_not] at g7_5
          try refine evd ?_
          refine grdA_split rfl (fun g7_11 => ?_) (fun g7_11 => ?_)
          · try simp only [decide_eq_true_eq, decide_eq_false_iff_not] at g7_11
            try refine evd ?_
            have e : (!digB (s.data.toList.getD x 0) || decide (10 < (s.size : Int))) = true := by rw [dig_b (by omega), decide_eq_true (show 57 < ((s.data.toList.getD x 0).toNat : Int) by omega), Bool.true_or]
            exact hK14 _ (anyS (h := by rw [e]; rfl))
          · try simp only [decide_eq_true_eq, decide_eq_false_iff_not] at g7_11
            try refine evd ?_
            have e : (!digB (s.data.toList.getD x 0) || decide (10 < (s.size : Int))) = decide (10 < (s.size : Int)) := by rw [dig_b (by omega), decide_eq_false (show ¬ 57 < ((s.data.toList.getD x 0).toNat : Int) by omega), Bool.false_or]
            exact hK14 _ (anyS (h := by rw [e]; rfl))
      rintro f14
      simp only [updT_k, updT_d, updT_d5, updT_v, updT_nil, Nat.reduceAdd]
      refine Wp.condS (fun h26 => ?_) (fun h26 => ?_)
      · refine Wp.seqK fun K15 hK15 => ?_
        refine rg ?_
        refine hK15 _ ?_
        clear hK15 K15
        refine Wp.ret (retV ?_)
        try simp only [List.getD_cons_zero, List.getD_cons_succ]
        show I (-2) = I (rtI s)
        rw [rtI_bad h6 hxl h26]
      · have hd : digB (s.data.toList.getD x 0) = true := h26.1
        have h10s : s.size ≤ 10 := by have := h26.2; omega
        have hd2 := hd
        simp only [digB, Bool.and_eq_true, decide_eq_true_eq] at hd2
        have e := numV_push (l := s.data.toList) (x := x) (by omega) hd
        have h0 := numV_10 (l := s.data.toList) (x := x) (by omega) (by omega) ha
        refine Wp.skip ?_
        refine hK13 _ ?_
        clear hK13 K13
        refine rg ?_
        try simp only [thn, inB, if_true, reduceIte]
        refine hK11 _ ?_
        clear hK11 K11
        refine rg ?_
        exact hK8 (x + 1) _ ⟨by omega, all_pushD (by omega) ha hd, fun _ => h10s⟩ (by omega) (anyS (h := by rw [e, show 10 * (numV (s.data.toList.take x) : Int) + ((s.data.toList.getD x 0).toNat : Int) - 48 = 10 * (numV (s.data.toList.take x) : Int) + (((s.data.toList.getD x 0).toNat : Int) - 48) by omega]; rfl))
    · have hxl : x = s.data.toList.length := by omega
      refine Wp.exit ?_
      try simp only [thn, inB, if_true, reduceIte]
      clear hK10 K10
      clear hK8 K8
      refine hK6 _ ?_
      clear hK6 K6
      refine Wp.seqK fun K16 hK16 => ?_
      refine Wp.seqK fun K17 hK17 => ?_
      rw [hxl, List.take_length] at ha
      rw [hxl, List.take_length]
      have hnv : numV s.data.toList ≤ 10000000000 := by
        by_cases h0 : 0 < x
        · have := numV_10 (l := s.data.toList) (x := x) (by omega) (by have := ht h0; omega) (by rw [hxl, List.take_length]; exact ha)
          rwa [hxl, List.take_length] at this
        · have : s.data.toList = [] := List.eq_nil_of_length_eq_zero (by omega)
          rw [this]; simp [numV]
      refine rg ?_
      refine ⟨rfl, CallK.valA (h := decimal_i _ (by omega)) (k := ?_)⟩
      refine evd ?_
      refine hK17 _ ?_
      clear hK17 K17
      refine Wp.condS (fun h39 => ?_) (fun h39 => ?_)
      · refine Wp.seqK fun K18 hK18 => ?_
        refine rg ?_
        refine hK18 _ ?_
        clear hK18 K18
        refine Wp.ret (retV ?_)
        try simp only [List.getD_cons_zero, List.getD_cons_succ]
        show I (-2) = I (rtI s)
        have e : rtI s = -2 := by unfold rtI; rw [if_neg (show ¬ s = mOneB from h6), if_neg (fun h => h39 h.2)]
        rw [e]
      · refine Wp.skip ?_
        refine hK16 _ ?_
        clear hK16 K16
        refine Wp.seqK fun K19 hK19 => ?_
        refine rg ?_
        refine hK19 _ ?_
        clear hK19 K19
        refine Wp.ret (retV ?_)
        try simp only [List.getD_cons_zero, List.getD_cons_succ]
        have hl10 : s.data.toList.length ≤ 10 := by
          by_cases h0 : 0 < x
          · have := ht h0; omega
          · omega
        have e : rtI s = numV s.data.toList := by unfold rtI; rw [if_neg (show ¬ s = mOneB from h6), if_pos ⟨⟨ha, hl10⟩, h39⟩]
        rw [e]

/-! ### Bits, rows -/
def bP (l : List UInt8) : List Int := (l.filter fun b => b != 45).map fun b => (b.toNat : Int) - 48
theorem bP_push {l : List UInt8} {x : Nat} (hx : x < l.length) (h : ¬ ((l.getD x 0).toNat : Int) = 45) : bP (l.take (x + 1)) = bP (l.take x) ++ [((l.getD x 0).toNat : Int) - 48] := by
  unfold bP
  have hb : (l.getD x 0 != 45) = true := by
    rw [bne_iff_ne]
    intro e; rw [e] at h; exact h rfl
  rw [take_push 0 hx, List.filter_append, List.map_append, List.filter_cons_of_pos (by simpa using hb)]
  rfl
theorem bP_skip {l : List UInt8} {x : Nat} (hx : x < l.length) (h : ((l.getD x 0).toNat : Int) = 45) : bP (l.take (x + 1)) = bP (l.take x) := by
  unfold bP
  have hb : l.getD x 0 = 45 := UInt8.toNat_inj.1 (by show _ = 45; omega)
  rw [take_push 0 hx, List.filter_append, hb]
  simp
theorem bP_len (l : List UInt8) (x : Nat) : (bP (l.take x)).length ≤ x := by
  unfold bP
  rw [List.length_map]
  exact Nat.le_trans (List.length_filter_le _ _) (by rw [List.length_take]; omega)
theorem readBits_c (s : ByteArray) (hs : s.size ≤ 1048576) : Ret E.P 36 [S s] (.l (.obj 0 0 1 0 (bitsI s).length)) [some ⟨0, (bitsI s).map ci⟩] := by
  refine CallsA.body (E := E) (fn := Tryd.f36) Tryd.func36 rfl fun B hB => ?_
  simp only [Tryd.ntmps36, go_sem, nl, Nat.reduceSub, Nat.reduceAdd, List.reduceReplicate]
  have hsz := size_list s
  refine Wp.seqK fun K1 hK1 => ?_
  refine rg ?_
  refine hK1 _ ?_
  clear hK1 K1
  refine Wp.seqK fun K2 hK2 => ?_
  refine rg ?_
  refine hK2 _ ?_
  clear hK2 K2
  refine Wp.seqK fun K3 hK3 => ?_
  refine Wp.seqK fun K4 hK4 => ?_
  refine rg ?_
  refine hK4 _ ?_
  clear hK4 K4
  refine Wp.block ?_
  refine Wp.loopU (α := Nat) (fun x => [.k, .d, .d, .v (.l (.obj 0 (bP (s.data.toList.take x)).length 1 0 (bP (s.data.toList.take x)).length)), .d, .d, .d, .k, .v (I x), .d5, .d5, .d5, .d]) (fun x => [some ⟨(bP (s.data.toList.take x)).length, (bP (s.data.toList.take x)).map ci⟩]) (fun x => x ≤ s.size) (fun x => s.size - x) 0 (Nat.zero_le _) (anyS) ?_
  rintro x f5 K5 hx hK5
  simp only [updT_k, updT_d, updT_d5, updT_v, updT_nil, Nat.reduceAdd]
  have hbl := bP_len s.data.toList x
  have hb := byte_le (s.data.toList.getD x 0)
  refine Wp.seqK fun K6 hK6 => ?_
  refine rg ?_
  refine hK6 _ ?_
  clear hK6 K6
  refine Wp.seqK fun K7 hK7 => ?_
  refine Wp.condS (fun h9 => ?_) (fun h9 => ?_)
  · have hxl : x < s.data.toList.length := by omega
    refine Wp.skip ?_
    refine hK7 _ ?_
    clear hK7 K7
    refine Wp.seqK fun K8 hK8 => ?_
    refine Wp.block ?_
    refine Wp.seqK fun K9 hK9 => ?_
    refine rg ?_
    refine hK9 _ ?_
    clear hK9 K9
    refine Wp.seqK fun K10 hK10 => ?_
    refine rg ?_
    refine hK10 _ ?_
    clear hK10 K10
    refine Wp.condS (fun h14 => ?_) (fun h14 => ?_)
    · have e := bP_push hxl (by simpa using h14)
      refine rg ?_
      try simp only [thn, inB, if_true, reduceIte]
      refine hK8 _ ?_
      clear hK8 K8
      refine Wp.keepR 1 [] (by rw [hB]; simp) (by simp) (by simp) (by simp) ?_
      refine evd ?_
      refine rg ?_
      exact hK5 (x + 1) _ (by omega) (by omega) (anyS (h := by rw [e]; simp; rfl) (ho := by rw [e]; simp))
    · have e := bP_skip hxl (by simpa using h14)
      refine Wp.skip ?_
      try simp only [thn, inB, if_true, reduceIte]
      refine hK8 _ ?_
      clear hK8 K8
      skip
      refine rg ?_
      exact hK5 (x + 1) _ (by omega) (by omega) (anyS (h := by rw [e]; rfl) (ho := by rw [e]))
  · have hxl : x = s.data.toList.length := by omega
    refine Wp.exit ?_
    try simp only [thn, inB, if_true, reduceIte]
    clear hK7 K7
    clear hK5 K5
    refine hK3 _ ?_
    clear hK3 K3
    refine Wp.seqK fun K11 hK11 => ?_
    refine rg ?_
    refine hK11 _ ?_
    clear hK11 K11
    refine Wp.ret (retR rfl rfl (flatI _))
end Go.Proofs.YtbhlegobhidgkaaDoor.RE
/-! Rows that are read, lines and words of the reference. Conditions: those that a theorem names. -/
set_option linter.unusedVariables false
set_option linter.unusedSimpArgs false
namespace Go.Proofs.YtbhlegobhidgkaaDoor.RE
open Go Go.RowKit
set_option maxRecDepth 100000
set_option maxHeartbeats 8000000

/-! ### Rows that are read -/
def rX (s : ByteArray) (x : Nat) : List Bool := if s = ⟨#[45]⟩ then [] else (s.data.toList.take x).map fun b => b == 97
theorem rX_all {s : ByteArray} {x : Nat} (h : x = s.data.toList.length) : rX s x = rowsOf s := by
  unfold rX rowsOf
  rw [h, List.take_length]
theorem rX_push {s : ByteArray} {x : Nat} (h : ¬ s = ⟨#[45]⟩) (hx : x < s.data.toList.length) : rX s (x + 1) = rX s x ++ [s.data.toList.getD x 0 == 97] := by
  unfold rX
  rw [if_neg h, if_neg h, take_push 0 hx, List.map_append]; rfl
theorem rX_dash {s : ByteArray} {x y : Nat} (h : s = ⟨#[45]⟩) : rX s y = rX s x := by
  unfold rX
  rw [if_pos h, if_pos h]
theorem rX_len (s : ByteArray) (x : Nat) : (rX s x).length ≤ x := by
  unfold rX
  split
  · simp
  · rw [List.length_map, List.length_take]; omega
def rA (s : ByteArray) : Bool := decide (s ≠ ⟨#[]⟩ ∧ s.size ≤ 12)
theorem rowOk_a {s : ByteArray} (h : rA s = false) : rowOk s = false ∧ rowQ s = [] := by
  have e : rowOk s = false := by
    unfold rowOk
    rw [show decide (s ≠ ⟨#[]⟩ ∧ s.size ≤ 12) = false from h, Bool.false_and]
  exact ⟨e, by unfold rowQ; rw [e]; rfl⟩
theorem rowOk_b {s : ByteArray} (h : ¬ mkB (rowT (rowsOf s)) = s) : rowOk s = false ∧ rowQ s = [] := by
  have e : rowOk s = false := by
    unfold rowOk
    rw [decide_eq_false h, Bool.and_false]
  exact ⟨e, by unfold rowQ; rw [e]; rfl⟩
theorem rowOk_t {s : ByteArray} (h1 : rA s = true) (h2 : mkB (rowT (rowsOf s)) = s) : rowOk s = true ∧ rowQ s = rowsOf s := by
  have e : rowOk s = true := by
    unfold rowOk
    rw [show decide (s ≠ ⟨#[]⟩ ∧ s.size ≤ 12) = true from h1, decide_eq_true h2]; rfl
  exact ⟨e, by unfold rowQ; rw [e]; rfl⟩
theorem b97 (b : UInt8) : (b == 97) = decide ((b.toNat : Int) = 97) := by
  by_cases h : b = 97
  · subst h; rfl
  · have h2 : ¬ ((b.toNat : Int) = 97) := fun e => h (UInt8.toNat_inj.1 (by show _ = 97; omega))
    rw [decide_eq_false h2]; simpa using h
theorem iReadRow_c (s : ByteArray) (hs : s.size ≤ 1048576) : Ret E.P 13 [S s] (.tup [.l (.obj 0 0 1 0 (rowQ s).length), TB (rowOk s)]) [some ⟨0, (rowQ s).map cb⟩] := by
  refine CallsA.body (E := E) (fn := Tryd.f13) Tryd.func13 rfl fun B hB => ?_
  simp only [Tryd.ntmps13, go_sem, nl, Nat.reduceSub, Nat.reduceAdd, List.reduceReplicate]
  have hsz := size_list s
  refine Wp.seqK fun K1 hK1 => ?_
  refine rg ?_
  refine hK1 _ ?_
  clear hK1 K1
  refine Wp.seqK fun K2 hK2 => ?_
  refine Wp.seqU0 [.k, .d5, .d5, .d, .v (T (!rA s)), .d5, .d5, .d5, .d5, .d] (fun K3 hK3 => ?_) ?_
  · refine rg ?_
    refine grdA_split rfl (fun g1_3 => ?_) (fun g1_3 => ?_)
    · try simp only [decide_eq_true_eq, decide_eq_false_iff_not] at g1_3
      try refine evd ?_
      have e : rA s = false := decide_eq_false (fun h => h.1 (by simpa using g1_3))
      exact hK3 _ (anyS (h := by rw [e]; rfl))
    · try simp only [decide_eq_true_eq, decide_eq_false_iff_not] at g1_3
      try refine evd ?_
      have e : (!rA s) = decide (12 < (s.size : Int)) := by
        unfold rA
        rw [← decide_not, decide_eq_decide]
        have : s ≠ ⟨#[]⟩ := by simpa using g1_3
        constructor
        · intro h; apply Decidable.byContradiction; intro h3; exact h ⟨this, by omega⟩
        · rintro h ⟨_, h3⟩; omega
      exact hK3 _ (anyS (h := by rw [e]; rfl))
  rintro f3
  simp only [updT_k, updT_d, updT_d5, updT_v, updT_nil, Nat.reduceAdd]
  refine Wp.condS (fun h12 => ?_) (fun h12 => ?_)
  · have hno := rowOk_a (s := s) (by simpa using h12)
    refine Wp.seqK fun K4 hK4 => ?_
    refine rg ?_
    refine hK4 _ ?_
    clear hK4 K4
    rw [hno.1, hno.2]
    refine Wp.nilRow 2 1 rfl ?_
    refine Wp.ret (retL [0] rfl (Nat.zero_le _) (by decide) (by simp) rfl ?_)
    simp only [keepO, List.take_zero, List.map_nil, List.nil_append, List.map_cons, List.cons_append, List.getD_cons_zero, List.getD_cons_succ, Option.map_some, renB]
    try rfl
  · have hA : rA s = true := by simpa using h12
    have hs12 : s.size ≤ 12 := (of_decide_eq_true hA).2
    refine Wp.skip ?_
    refine hK2 _ ?_
    clear hK2 K2
    refine Wp.seqK fun K5 hK5 => ?_
    refine rg ?_
    refine hK5 _ ?_
    clear hK5 K5
    refine Wp.seqK fun K6 hK6 => ?_
    refine Wp.seqK fun K7 hK7 => ?_
    refine rg ?_
    refine hK7 _ ?_
    clear hK7 K7
    refine Wp.block ?_
    refine Wp.loopU (α := Nat) (fun x => [.k, .d, .d, .d, .v (.l (.obj 0 (rX s x).length 1 0 (rX s x).length)), .d5, .d5, .k, .v (I x), .d5, .d5, .d5, .d, .d]) (fun x => [some ⟨(rX s x).length, (rX s x).map cb⟩]) (fun x => x ≤ s.size) (fun x => s.size - x) 0 (Nat.zero_le _) (anyS (h := by unfold rX; split <;> rfl) (ho := by unfold rX; split <;> rfl)) ?_
    rintro x f8 K8 hx hK8
    simp only [updT_k, updT_d, updT_d5, updT_v, updT_nil, Nat.reduceAdd]
    have hrl := rX_len s x
    have hb := byte_le (s.data.toList.getD x 0)
    refine Wp.seqK fun K9 hK9 => ?_
    refine rg ?_
    refine hK9 _ ?_
    clear hK9 K9
    refine Wp.seqK fun K10 hK10 => ?_
    refine Wp.condS (fun h17 => ?_) (fun h17 => ?_)
    · have hxl : x < s.data.toList.length := by omega
      refine Wp.skip ?_
      refine hK10 _ ?_
      clear hK10 K10
      refine Wp.seqK fun K11 hK11 => ?_
      refine Wp.block ?_
      refine Wp.seqK fun K12 hK12 => ?_
      refine rg ?_
      refine hK12 _ ?_
      clear hK12 K12
      refine Wp.seqK fun K13 hK13 => ?_
      refine rg ?_
      refine hK13 _ ?_
      clear hK13 K13
      refine Wp.condS (fun h20 => ?_) (fun h20 => ?_)
      · have e := rX_push (by simpa using h20) hxl
        refine rg ?_
        try simp only [thn, inB, if_true, reduceIte]
        refine hK11 _ ?_
        clear hK11 K11
        refine Wp.keepR 1 [] (by rw [hB]; simp) (by simp) (by simp) (by simp) ?_
        refine evd ?_
        refine rg ?_
        exact hK8 (x + 1) _ (by omega) (by omega) (anyS (h := by rw [e]; simp; rfl) (ho := by rw [e]; simp [pushB, b97]))
      · have e := rX_dash (x := x) (y := x + 1) (by simpa using h20)
        refine Wp.skip ?_
        try simp only [thn, inB, if_true, reduceIte]
        refine hK11 _ ?_
        clear hK11 K11
        skip
        refine rg ?_
        exact hK8 (x + 1) _ (by omega) (by omega) (anyS (h := by rw [e]; rfl) (ho := by rw [e]))
    · have hxl : x = s.data.toList.length := by omega
      have hra := rX_all hxl
      refine Wp.exit ?_
      try simp only [thn, inB, if_true, reduceIte]
      clear hK10 K10
      clear hK8 K8
      refine hK6 _ ?_
      clear hK6 K6
      refine Wp.seqK fun K14 hK14 => ?_
      refine Wp.seqK fun K15 hK15 => ?_
      refine rg ?_
      refine ⟨rfl, CallK.valA (h := iRowText_c (rX s x) (by omega)) (k := ?_) (ha := .rowB rfl rfl (by simp [lk]) .nil)⟩
      refine evd ?_
      refine hK15 _ ?_
      clear hK15 K15
      refine Wp.condS (fun h32 => ?_) (fun h32 => ?_)
      · have hno := rowOk_b (s := s) (by rw [← hra]; simpa using h32)
        refine Wp.seqK fun K16 hK16 => ?_
        refine rg ?_
        refine hK16 _ ?_
        clear hK16 K16
        refine Wp.keepR 0 [] (by rw [hB]; simp) (by simp) (by decide) (by simp) ?_
        refine evd ?_
        rw [hno.1, hno.2]
        refine Wp.nilRow 2 1 rfl ?_
        refine Wp.ret (retL [0] rfl (Nat.zero_le _) (by decide) (by simp) rfl ?_)
        simp only [keepO, List.take_zero, List.map_nil, List.nil_append, List.map_cons, List.cons_append, List.getD_cons_zero, List.getD_cons_succ, Option.map_some, renB]
        try rfl
      · have hyes := rowOk_t hA (by rw [← hra]; simpa using h32)
        refine Wp.skip ?_
        refine hK14 _ ?_
        clear hK14 K14
        refine Wp.seqK fun K17 hK17 => ?_
        refine rg ?_
        refine hK17 _ ?_
        clear hK17 K17
        rw [hyes.1, hyes.2, ← hra]
        refine Wp.keepR 0 [0] (by rw [hB]; simp) (by simp) (by decide) (by simp) ?_
        refine evd ?_
        refine Wp.ret (retL [0] rfl (Nat.zero_le _) (by decide) (by simp) rfl ?_)
        simp only [keepO, List.take_zero, List.map_nil, List.nil_append, List.map_cons, List.getD_cons_zero, List.getD_cons_succ, Option.map_some, renB]
        try rfl

/-! ### Lines and words, the reference -/
theorem ext_drop (s : ByteArray) (f : Nat) : (s.extract f s.size).data.toList = s.data.toList.drop f := by
  rw [ext_list, size_list, List.take_of_length_le (by rw [List.length_drop]; exact Nat.le_refl _)]
theorem drop_at {l : List UInt8} {f i : Nat} (hf : f ≤ i) (hi : i < l.length) : l.drop f = (l.drop f).take (i - f) ++ l.getD i 0 :: l.drop (i + 1) := by
  have h1 : (l.drop f).drop (i - f) = l.drop i := by rw [List.drop_drop]; congr 1; omega
  have h2 : l.drop i = l.getD i 0 :: l.drop (i + 1) := by
    rw [List.getD_eq_getElem?_getD, List.getElem?_eq_getElem hi]
    exact List.drop_eq_getElem_cons hi
  rw [← h2, ← h1, List.take_append_drop]
theorem mem_mid {l : List UInt8} {f i : Nat} {c : UInt8} (h : ∀ j, f ≤ j → j < i → l.getD j 0 ≠ c) : ∀ b ∈ (l.drop f).take (i - f), b ≠ c := by
  intro b hb
  obtain ⟨k, hk, rfl⟩ := List.mem_iff_getElem.1 hb
  have hk2 := hk
  rw [List.length_take, List.length_drop] at hk2
  have := h (f + k) (by omega) (by omega)
  rw [List.getD_eq_getElem?_getD, List.getElem?_eq_getElem (by omega)] at this
  simpa using this
theorem pcs_step {c : UInt8} {s : ByteArray} {f i : Nat} (hf : f ≤ i) (hi : i < s.data.toList.length) (hc : s.data.toList.getD i 0 = c) (h : ∀ j, f ≤ j → j < i → s.data.toList.getD j 0 ≠ c) : pcs c (s.extract f s.size) = s.extract f i :: pcs c (s.extract (i + 1) s.size) := by
  have e1 : s.extract f s.size = mkB ((s.data.toList.drop f).take (i - f) ++ c :: s.data.toList.drop (i + 1)) := ba_ext (by
    rw [ext_drop, mkB_list, ← hc]; exact drop_at hf hi)
  have e2 : s.extract f i = mkB ((s.data.toList.drop f).take (i - f)) := ba_ext (by
    rw [ext_list, mkB_list])
  have e3 : s.extract (i + 1) s.size = mkB (s.data.toList.drop (i + 1)) := ba_ext (by rw [ext_drop, mkB_list])
  rw [e1, e2, e3]
  exact pcs_two (mem_mid h)
theorem pcs_last {c : UInt8} {s : ByteArray} {f i : Nat} (hi : i = s.data.toList.length) (h : ∀ j, f ≤ j → j < i → s.data.toList.getD j 0 ≠ c) : pcs c (s.extract f s.size) = [s.extract f s.size] := by
  refine pcs_len1 (Nat.le_of_eq ?_)
  unfold pcs
  rw [List.length_map, spl_count, ext_drop, List.count_eq_zero_of_not_mem]
  intro hm
  have := mem_mid (l := s.data.toList) (f := f) (i := i) h c (by rw [List.take_of_length_le (by rw [List.length_drop]; omega)]; exact hm)
  exact this rfl
theorem no_more {s : ByteArray} {f i : Nat} {c : UInt8} (h : ∀ j, f ≤ j → j < i → s.data.toList.getD j 0 ≠ c) (hc : s.data.toList.getD i 0 ≠ c) : ∀ j, f ≤ j → j < i + 1 → s.data.toList.getD j 0 ≠ c := by
  intro j h1 h2
  by_cases e : j = i
  · rw [e]; exact hc
  · exact h j h1 (by omega)
theorem u8_eq {b : UInt8} {n : Nat} (hn : n < 256) (h : (b.toNat : Int) = n) : b = UInt8.ofNat n := UInt8.toNat_inj.1 (by rw [UInt8.toNat_ofNat']; omega)
theorem l11Lines_c (s : ByteArray) (hs : s.size ≤ 1048576) : Ret E.P 47 [S s] (.l (.dsl false ((pcs 10 s).length - 1) (encT ((pcs 10 s).take ((pcs 10 s).length - 1))))) [] := by
  refine CallsA.body (E := E) (fn := Tryd.f47) Tryd.func47 rfl fun B hB => ?_
  simp only [Tryd.ntmps47, go_sem, nl, Nat.reduceSub, Nat.reduceAdd, List.reduceReplicate]
  have hsz := size_list s
  have hz : s.extract 0 s.size = s := ba_ext (by rw [ext_drop, List.drop_zero])
  refine Wp.seqK fun K1 hK1 => ?_
  refine rg ?_
  refine hK1 _ ?_
  clear hK1 K1
  refine Wp.seqK fun K2 hK2 => ?_
  refine rg ?_
  refine hK2 _ ?_
  clear hK2 K2
  refine Wp.seqK fun K3 hK3 => ?_
  refine rg ?_
  refine hK3 _ ?_
  clear hK3 K3
  refine Wp.seqK fun K4 hK4 => ?_
  refine Wp.seqK fun K5 hK5 => ?_
  refine rg ?_
  refine hK5 _ ?_
  clear hK5 K5
  refine Wp.block ?_
  refine Wp.loopU (α := Nat × Nat × List ByteArray) (fun q => [.k, .d, .d, .v (.l (.obj 0 q.2.2.length 1 0 q.2.2.length)), .v (I (q.2.1 : Int)), .v (I (q.1 : Int)), .d5, .d5, .d5, .d5, .d]) (fun q => [some ⟨q.2.2.length, q.2.2.map ct⟩]) (fun q => q.2.1 ≤ q.1 ∧ q.1 ≤ s.size ∧ pcs 10 s = q.2.2 ++ pcs 10 (s.extract q.2.1 s.size) ∧ ∀ j, q.2.1 ≤ j → j < q.1 → s.data.toList.getD j 0 ≠ 10) (fun q => s.size - q.1) (0, 0, []) (⟨Nat.zero_le _, Nat.zero_le _, by rw [hz]; rfl, fun j h1 h2 => absurd h2 (by omega)⟩) (anyS) ?_
  rintro q f6 K6 ⟨hq1, hq2, hq3, hq4⟩ hK6
  simp only [updT_k, updT_d, updT_d5, updT_v, updT_nil, Nat.reduceAdd]
  have hb := byte_le (s.data.toList.getD q.1 0)
  have hpl := pcs_le 10 s
  have hql : q.2.2.length ≤ (pcs 10 s).length := by rw [hq3]; simp
  refine Wp.seqK fun K7 hK7 => ?_
  refine Wp.seqK fun K8 hK8 => ?_
  refine rg ?_
  refine hK8 _ ?_
  clear hK8 K8
  refine Wp.condS (fun h10 => ?_) (fun h10 => ?_)
  · have hxl : q.1 < s.data.toList.length := by omega
    refine Wp.skip ?_
    refine hK7 _ ?_
    clear hK7 K7
    refine Wp.seqK fun K9 hK9 => ?_
    refine Wp.block ?_
    refine Wp.seqK fun K10 hK10 => ?_
    refine rg ?_
    refine hK10 _ ?_
    clear hK10 K10
    refine Wp.condS (fun h16 => ?_) (fun h16 => ?_)
    · have hc : s.data.toList.getD q.1 0 = 10 := u8_eq (n := 10) (by omega) h16
      have e := pcs_step hq1 hxl hc hq4
      refine Wp.seqK fun K11 hK11 => ?_
      refine rg ?_
      refine hK11 _ ?_
      clear hK11 K11
      refine rg ?_
      try simp only [thn, inB, if_true, reduceIte]
      refine hK9 _ ?_
      clear hK9 K9
      refine Wp.keepR 1 [] (by rw [hB]; simp) (by simp) (by simp) (by simp) ?_
      refine evd ?_
      refine rg ?_
      exact hK6 (q.1 + 1, q.1 + 1, q.2.2 ++ [s.extract q.2.1 q.1]) _ ⟨Nat.le_refl _, by show q.1 + 1 ≤ s.size; omega, by rw [hq3, e]; simp, fun j h1 h2 => absurd h2 (by show ¬ j < q.1 + 1; have : q.1 + 1 ≤ j := h1; omega)⟩ (by show s.size - (q.1 + 1) < s.size - q.1; omega) (anyS (h := by rw [List.length_append]; rfl) (ho := by rw [List.length_append]; rfl))
    · have hc : s.data.toList.getD q.1 0 ≠ 10 := fun e => h16 (by rw [e]; rfl)
      refine Wp.skip ?_
      try simp only [thn, inB, if_true, reduceIte]
      refine hK9 _ ?_
      clear hK9 K9
      skip
      refine rg ?_
      exact hK6 (q.1 + 1, q.2.1, q.2.2) _ ⟨by show q.2.1 ≤ q.1 + 1; omega, by show q.1 + 1 ≤ s.size; omega, hq3, no_more hq4 hc⟩ (by show s.size - (q.1 + 1) < s.size - q.1; omega) (anyS)
  · have hxl : q.1 = s.data.toList.length := by omega
    have hlast := pcs_last hxl hq4
    refine Wp.exit ?_
    try simp only [thn, inB, if_true, reduceIte]
    clear hK7 K7
    clear hK6 K6
    refine hK4 _ ?_
    clear hK4 K4
    refine Wp.seqK fun K12 hK12 => ?_
    refine rg ?_
    refine hK12 _ ?_
    clear hK12 K12
    have e2 : (pcs 10 s).take ((pcs 10 s).length - 1) = q.2.2 := by rw [hq3, hlast]; simp
    have e3 : (pcs 10 s).length - 1 = q.2.2.length := by rw [hq3, hlast]; simp
    rw [e2, e3]
    refine Wp.keepR 0 [0] (by rw [hB]; simp) (by simp) (by decide) (by simp) ?_
    refine evd ?_
    refine Wp.freeze 0 0 (encT q.2.2) rfl (lT_encT _ false).symm ?_
    refine Wp.ret (retV ?_)
    show AV.l (.dsl false q.2.2.length (List.take (q.2.2.length * 1) (List.drop 0 (encT q.2.2)))) = _
    rw [List.drop_zero, Nat.mul_one, List.take_of_length_le (Nat.le_of_eq (encT_len _))]
theorem l11Words_c (s : ByteArray) (hs : s.size ≤ 1048576) : Ret E.P 48 [S s] (.l (.dsl false (pcs 32 s).length (encT (pcs 32 s)))) [] := by
  refine CallsA.body (E := E) (fn := Tryd.f48) Tryd.func48 rfl fun B hB => ?_
  simp only [Tryd.ntmps48, go_sem, nl, Nat.reduceSub, Nat.reduceAdd, List.reduceReplicate]
  have hsz := size_list s
  have hz : s.extract 0 s.size = s := ba_ext (by rw [ext_drop, List.drop_zero])
  refine Wp.seqK fun K1 hK1 => ?_
  refine rg ?_
  refine hK1 _ ?_
  clear hK1 K1
  refine Wp.seqK fun K2 hK2 => ?_
  refine rg ?_
  refine hK2 _ ?_
  clear hK2 K2
  refine Wp.seqK fun K3 hK3 => ?_
  refine rg ?_
  refine hK3 _ ?_
  clear hK3 K3
  refine Wp.seqK fun K4 hK4 => ?_
  refine Wp.seqK fun K5 hK5 => ?_
  refine rg ?_
  refine hK5 _ ?_
  clear hK5 K5
  refine Wp.block ?_
  refine Wp.loopU (α := Nat × Nat × List ByteArray) (fun q => [.k, .d, .d, .v (.l (.obj 0 q.2.2.length 1 0 q.2.2.length)), .v (I (q.2.1 : Int)), .v (I (q.1 : Int)), .d5, .d5, .d5, .d5, .d5, .d]) (fun q => [some ⟨q.2.2.length, q.2.2.map ct⟩]) (fun q => q.2.1 ≤ q.1 ∧ q.1 ≤ s.size ∧ pcs 32 s = q.2.2 ++ pcs 32 (s.extract q.2.1 s.size) ∧ ∀ j, q.2.1 ≤ j → j < q.1 → s.data.toList.getD j 0 ≠ 32) (fun q => s.size - q.1) (0, 0, []) (⟨Nat.zero_le _, Nat.zero_le _, by rw [hz]; rfl, fun j h1 h2 => absurd h2 (by omega)⟩) (anyS) ?_
  rintro q f6 K6 ⟨hq1, hq2, hq3, hq4⟩ hK6
  simp only [updT_k, updT_d, updT_d5, updT_v, updT_nil, Nat.reduceAdd]
  have hb := byte_le (s.data.toList.getD q.1 0)
  have hpl := pcs_le 32 s
  have hql : q.2.2.length ≤ (pcs 32 s).length := by rw [hq3]; simp
  refine Wp.seqK fun K7 hK7 => ?_
  refine Wp.seqK fun K8 hK8 => ?_
  refine rg ?_
  refine hK8 _ ?_
  clear hK8 K8
  refine Wp.condS (fun h10 => ?_) (fun h10 => ?_)
  · have hxl : q.1 < s.data.toList.length := by omega
    refine Wp.skip ?_
    refine hK7 _ ?_
    clear hK7 K7
    refine Wp.seqK fun K9 hK9 => ?_
    refine Wp.block ?_
    refine Wp.seqK fun K10 hK10 => ?_
    refine rg ?_
    refine hK10 _ ?_
    clear hK10 K10
    refine Wp.condS (fun h16 => ?_) (fun h16 => ?_)
    · have hc : s.data.toList.getD q.1 0 = 32 := u8_eq (n := 32) (by omega) h16
      have e := pcs_step hq1 hxl hc hq4
      refine Wp.seqK fun K11 hK11 => ?_
      refine rg ?_
      refine hK11 _ ?_
      clear hK11 K11
      refine rg ?_
      try simp only [thn, inB, if_true, reduceIte]
      refine hK9 _ ?_
      clear hK9 K9
      refine Wp.keepR 1 [] (by rw [hB]; simp) (by simp) (by simp) (by simp) ?_
      refine evd ?_
      refine rg ?_
      exact hK6 (q.1 + 1, q.1 + 1, q.2.2 ++ [s.extract q.2.1 q.1]) _ ⟨Nat.le_refl _, by show q.1 + 1 ≤ s.size; omega, by rw [hq3, e]; simp, fun j h1 h2 => absurd h2 (by show ¬ j < q.1 + 1; have : q.1 + 1 ≤ j := h1; omega)⟩ (by show s.size - (q.1 + 1) < s.size - q.1; omega) (anyS (h := by rw [List.length_append]; rfl) (ho := by rw [List.length_append]; rfl))
    · have hc : s.data.toList.getD q.1 0 ≠ 32 := fun e => h16 (by rw [e]; rfl)
      refine Wp.skip ?_
      try simp only [thn, inB, if_true, reduceIte]
      refine hK9 _ ?_
      clear hK9 K9
      skip
      refine rg ?_
      exact hK6 (q.1 + 1, q.2.1, q.2.2) _ ⟨by show q.2.1 ≤ q.1 + 1; omega, by show q.1 + 1 ≤ s.size; omega, hq3, no_more hq4 hc⟩ (by show s.size - (q.1 + 1) < s.size - q.1; omega) (anyS)
  · have hxl : q.1 = s.data.toList.length := by omega
    have hlast := pcs_last hxl hq4
    refine Wp.exit ?_
    try simp only [thn, inB, if_true, reduceIte]
    clear hK7 K7
    clear hK6 K6
    refine hK4 _ ?_
    clear hK4 K4
    refine Wp.seqK fun K12 hK12 => ?_
    refine rg ?_
    refine hK12 _ ?_
    clear hK12 K12
    have e2 : pcs 32 s = q.2.2 ++ [s.extract q.2.1 s.size] := by rw [hq3, hlast]
    have e3 : (q.2.2 ++ [s.extract q.2.1 s.size]).length = q.2.2.length + 1 := by simp
    rw [e2, e3]
    refine Wp.keepR 0 [0] (by rw [hB]; simp) (by simp) (by decide) (by simp) ?_
    refine evd ?_
    refine Wp.freeze 0 0 (encT (q.2.2 ++ [s.extract q.2.1 s.size])) rfl ((lT_encT _ false).trans ?_).symm ?_
    · rfl
    refine Wp.ret (retV ?_)
    show AV.l (.dsl false (q.2.2.length + 1) (List.take ((q.2.2.length + 1) * 1) (List.drop 0 (encT (q.2.2 ++ [s.extract q.2.1 s.size]))))) = _
    rw [List.drop_zero, Nat.mul_one, List.take_of_length_le (Nat.le_of_eq (by rw [encT_len, e3]))]
theorem l11Int_c (s : ByteArray) (hs : s.size ≤ 1048576) : Val E.P 51 [S s] (I (rtS s)) := by
  refine CallsA.body (E := E) (fn := Tryd.f51) Tryd.func51 rfl fun B hB => ?_
  simp only [Tryd.ntmps51, go_sem, nl, Nat.reduceSub, Nat.reduceAdd, List.reduceReplicate]
  refine Wp.seqK fun K1 hK1 => ?_
  refine rg ?_
  refine hK1 _ ?_
  clear hK1 K1
  refine Wp.seqK fun K2 hK2 => ?_
  refine Wp.seqK fun K3 hK3 => ?_
  refine rg ?_
  refine hK3 _ ?_
  clear hK3 K3
  refine Wp.condS (fun h5 => ?_) (fun h5 => ?_)
  · refine Wp.seqK fun K4 hK4 => ?_
    refine rg ?_
    refine hK4 _ ?_
    clear hK4 K4
    refine Wp.ret (retV ?_)
    try simp only [List.getD_cons_zero, List.getD_cons_succ]
    show I (-1) = I (rtS s)
    rw [show rtS s = -1 from if_pos h5]
  · refine Wp.skip ?_
    refine hK2 _ ?_
    clear hK2 K2
    refine Wp.seqK fun K5 hK5 => ?_
    refine Wp.seqK fun K6 hK6 => ?_
    refine rg ?_
    refine hK6 _ ?_
    clear hK6 K6
    refine Wp.condS (fun h7 => ?_) (fun h7 => ?_)
    · refine Wp.seqK fun K7 hK7 => ?_
      refine rg ?_
      refine hK7 _ ?_
      clear hK7 K7
      refine Wp.ret (retV ?_)
      try simp only [List.getD_cons_zero, List.getD_cons_succ]
      show I 1000000000 = I (rtS s)
      have e : rtS s = 1000000000 := by unfold rtS; rw [if_neg (show ¬ s = mOneB from h5), if_pos (show s = bigB from h7)]
      rw [e]
    · refine Wp.skip ?_
      refine hK5 _ ?_
      clear hK5 K5
      refine Wp.seqK fun K8 hK8 => ?_
      refine rg ?_
      refine ⟨rfl, CallK.valA (h := l03Num_c _ (by omega)) (k := ?_)⟩
      refine evd ?_
      refine hK8 _ ?_
      clear hK8 K8
      refine Wp.seqK fun K9 hK9 => ?_
      refine Wp.seqK fun K10 hK10 => ?_
      refine rg ?_
      refine hK10 _ ?_
      clear hK10 K10
      refine Wp.condS (fun h11 => ?_) (fun h11 => ?_)
      · refine Wp.seqK fun K11 hK11 => ?_
        refine rg ?_
        refine hK11 _ ?_
        clear hK11 K11
        refine Wp.ret (retV ?_)
        try simp only [List.getD_cons_zero, List.getD_cons_succ]
        show I (-2) = I (rtS s)
        have e : rtS s = -2 := by unfold rtS; rw [if_neg (show ¬ s = mOneB from h5), if_neg (show ¬ s = bigB from h7), if_pos h11]
        rw [e]
      · refine Wp.skip ?_
        refine hK9 _ ?_
        clear hK9 K9
        refine Wp.seqK fun K12 hK12 => ?_
        refine rg ?_
        refine hK12 _ ?_
        clear hK12 K12
        refine Wp.ret (retV ?_)
        try simp only [List.getD_cons_zero, List.getD_cons_succ]
        have e : rtS s = numS s := by unfold rtS; rw [if_neg (show ¬ s = mOneB from h5), if_neg (show ¬ s = bigB from h7), if_neg (by omega)]
        rw [e]
end Go.Proofs.YtbhlegobhidgkaaDoor.RE
/-! ReadRow, the reference. Conditions: those that a theorem names. -/
set_option linter.unusedVariables false
set_option linter.unusedSimpArgs false
namespace Go.Proofs.YtbhlegobhidgkaaDoor.RE
open Go Go.RowKit
set_option maxRecDepth 100000
set_option maxHeartbeats 8000000

theorem size_zero {s : ByteArray} (h : s.size = 0) : s = ⟨#[]⟩ := ba_ext (List.eq_nil_of_length_eq_zero (by rw [← size_list]; exact h))
def asB (b : UInt8) : Bool := b == 97 || b == 115
theorem as_get {l : List UInt8} (h : l.all asB = true) : (l.map fun b => b == 97).map (fun b => if b = true then (97 : UInt8) else 115) = l := by
  rw [List.map_map]
  refine (List.map_congr_left (g := id) fun b hb => ?_).trans (List.map_id l)
  have := List.all_eq_true.1 h b hb
  simp only [asB, Bool.or_eq_true, beq_iff_eq] at this
  rcases this with e | e <;> subst e <;> rfl
theorem as_text {s : ByteArray} (h0 : ¬ s = ⟨#[45]⟩) (h1 : 1 ≤ s.data.toList.length) (h : s.data.toList.all asB = true) : mkB (rowT (rowsOf s)) = s := by
  unfold rowsOf rowT
  rw [if_neg h0, if_neg (by rw [List.map_eq_nil_iff]; intro e; rw [e] at h1; simp at h1), as_get h]
  rfl
theorem as_no {s : ByteArray} {x : Nat} (h0 : ¬ s = ⟨#[45]⟩) (hx : x < s.data.toList.length) (h : asB (s.data.toList.getD x 0) = false) : ¬ mkB (rowT (rowsOf s)) = s := by
  intro e
  have e1 : (rowT (rowsOf s)) = s.data.toList := by
    have := congrArg (fun b : ByteArray => b.data.toList) e
    simp only [mkB_list] at this
    exact this
  have h2 : rowT (rowsOf s) = (s.data.toList.map fun b => b == 97).map (fun b => if b = true then (97 : UInt8) else 115) := by
    unfold rowsOf rowT
    rw [if_neg h0, if_neg (by rw [List.map_eq_nil_iff]; intro e; rw [e] at hx; simp at hx)]
  rw [h2] at e1
  have e2 := congrArg (fun l : List UInt8 => l.getD x 0) e1
  simp only [List.getD_eq_getElem?_getD, List.getElem?_map, List.getElem?_eq_getElem hx, Option.map_some, Option.getD_some] at e2
  rw [List.getD_eq_getElem?_getD, List.getElem?_eq_getElem hx, Option.getD_some] at h
  rw [← e2] at h
  unfold asB at h
  split at h <;> revert h <;> decide
theorem all_pushA {l : List UInt8} {x : Nat} (hx : x < l.length) (h : (l.take x).all asB = true) (hb : asB (l.getD x 0) = true) : (l.take (x + 1)).all asB = true := by
  rw [take_push 0 hx, List.all_append, h, List.all_cons, hb]
  rfl
theorem rowOk_dash : rowOk ⟨#[45]⟩ = true ∧ rowQ ⟨#[45]⟩ = [] := by
  have e : rowOk ⟨#[45]⟩ = true := by
    unfold rowOk rowsOf
    rw [if_pos rfl]
    rw [Bool.and_eq_true]
    exact ⟨decide_eq_true ⟨fun e => absurd (congrArg ByteArray.size e) (by show ¬ (1 : Nat) = 0; omega), by show (1 : Nat) ≤ 12; omega⟩, decide_eq_true rfl⟩
  refine ⟨e, ?_⟩
  unfold rowQ
  rw [e, if_pos rfl]
  unfold rowsOf
  rw [if_pos rfl]
theorem b115 (b : UInt8) : (b == 115) = decide ((b.toNat : Int) = 115) := by
  by_cases h : b = 115
  · subst h; rfl
  · have h2 : ¬ ((b.toNat : Int) = 115) := fun e => h (UInt8.toNat_inj.1 (by show _ = 115; omega))
    rw [decide_eq_false h2]; simpa using h
theorem asB_c (b : UInt8) : asB b = (decide ((b.toNat : Int) = 97) || decide ((b.toNat : Int) = 115)) := by
  unfold asB
  rw [b97, b115]
theorem sReadRow_c (s : ByteArray) (hs : s.size ≤ 1048576) : Ret E.P 49 [S s] (.tup [.l (.obj 0 0 1 0 (rowQ s).length), TB (rowOk s)]) [some ⟨0, (rowQ s).map cb⟩] := by
  refine CallsA.body (E := E) (fn := Tryd.f49) Tryd.func49 rfl fun B hB => ?_
  simp only [Tryd.ntmps49, go_sem, nl, Nat.reduceSub, Nat.reduceAdd, List.reduceReplicate]
  have hsz := size_list s
  refine Wp.seqK fun K1 hK1 => ?_
  refine rg ?_
  refine hK1 _ ?_
  clear hK1 K1
  refine Wp.seqK fun K2 hK2 => ?_
  refine rg ?_
  refine hK2 _ ?_
  clear hK2 K2
  refine Wp.seqK fun K3 hK3 => ?_
  refine Wp.seqK fun K4 hK4 => ?_
  refine rg ?_
  refine hK4 _ ?_
  clear hK4 K4
  refine Wp.condS (fun h8 => ?_) (fun h8 => ?_)
  · have hyes := rowOk_dash
    rw [← show s = ⟨#[45]⟩ from h8] at hyes
    refine Wp.seqK fun K5 hK5 => ?_
    refine rg ?_
    refine hK5 _ ?_
    clear hK5 K5
    rw [hyes.1, hyes.2]
    refine Wp.ret (retL [0] rfl (Nat.zero_le _) (by decide) (by simp) rfl ?_)
    simp only [keepO, List.take_zero, List.map_nil, List.nil_append, List.map_cons, List.getD_cons_zero, List.getD_cons_succ, Option.map_some, renB]
    try rfl
  · have hnd : ¬ s = ⟨#[45]⟩ := by simpa using h8
    refine Wp.skip ?_
    refine hK3 _ ?_
    clear hK3 K3
    refine Wp.seqK fun K6 hK6 => ?_
    refine Wp.seqK fun K7 hK7 => ?_
    refine rg ?_
    refine ⟨rfl, CallK.valA (h := l01In_c _ _ _) (k := ?_)⟩
    refine evd ?_
    refine hK7 _ ?_
    clear hK7 K7
    refine Wp.condS (fun h13 => ?_) (fun h13 => ?_)
    · have hno := rowOk_a (s := s) (decide_eq_false (fun h => by
        have h1 : 1 ≤ s.size := by
          rcases Nat.eq_zero_or_pos s.size with h0 | h0
          · exact absurd (size_zero h0) h.1
          · exact h0
        have h2 := h.2
        have h13 : ¬ ((1 : Int) ≤ (s.size : Int) ∧ (s.size : Int) ≤ 12) := by simpa using h13
        omega))
      refine Wp.seqK fun K8 hK8 => ?_
      refine rg ?_
      refine hK8 _ ?_
      clear hK8 K8
      rw [hno.1, hno.2]
      refine Wp.ret (retL [0] rfl (Nat.zero_le _) (by decide) (by simp) rfl ?_)
      simp only [keepO, List.take_zero, List.map_nil, List.nil_append, List.map_cons, List.getD_cons_zero, List.getD_cons_succ, Option.map_some, renB]
      try rfl
    · have h1 : 1 ≤ s.size ∧ s.size ≤ 12 := by
        have h13 : (1 : Int) ≤ (s.size : Int) ∧ (s.size : Int) ≤ 12 := by simpa using h13
        omega
      have hA : rA s = true := decide_eq_true ⟨fun e => by rw [e] at h1; exact absurd h1.1 (by decide), h1.2⟩
      refine Wp.skip ?_
      refine hK6 _ ?_
      clear hK6 K6
      refine Wp.seqK fun K9 hK9 => ?_
      refine Wp.seqK fun K10 hK10 => ?_
      refine rg ?_
      refine hK10 _ ?_
      clear hK10 K10
      refine Wp.block ?_
      refine Wp.loopU (α := Nat) (fun x => [.k, .d, .d, .d, .v (.l (.obj 0 (rX s x).length 1 0 (rX s x).length)), .v (I x), .d5, .d5, .d5, .d5, .d5, .d5, .d, .d, .d, .d]) (fun x => [some ⟨(rX s x).length, (rX s x).map cb⟩]) (fun x => x ≤ s.size ∧ (s.data.toList.take x).all asB = true) (fun x => s.size - x) 0 (⟨Nat.zero_le _, rfl⟩) (anyS (h := by unfold rX; rw [if_neg hnd]; rfl) (ho := by unfold rX; rw [if_neg hnd]; rfl)) ?_
      rintro x f11 K11 ⟨hx, ha⟩ hK11
      simp only [updT_k, updT_d, updT_d5, updT_v, updT_nil, Nat.reduceAdd]
      have hrl := rX_len s x
      have hb := byte_le (s.data.toList.getD x 0)
      refine Wp.seqK fun K12 hK12 => ?_
      refine Wp.seqK fun K13 hK13 => ?_
      refine rg ?_
      refine hK13 _ ?_
      clear hK13 K13
      refine Wp.condS (fun h18 => ?_) (fun h18 => ?_)
      · have hxl : x < s.data.toList.length := by omega
        refine Wp.skip ?_
        refine hK12 _ ?_
        clear hK12 K12
        refine Wp.seqK fun K14 hK14 => ?_
        refine Wp.block ?_
        refine Wp.seqK fun K15 hK15 => ?_
        refine Wp.seqU0 [.k, .d, .d, .d, .k, .k, .d5, .d5, .d5, .d5, .d, .d, .d, .d, .v (T (!asB (s.data.toList.getD x 0))), .d5, .d, .d, .d, .d] (fun K16 hK16 => ?_) ?_
        · refine rg ?_
          refine grdA_split rfl (fun g9_5 => ?_) (fun g9_5 => ?_)
          · try simp only [decide_eq_true_eq, decide_eq_false_iff_not] at g9_5
            try refine evd ?_
            have e : (!asB (s.data.toList.getD x 0)) = !decide (((s.data.toList.getD x 0).toNat : Int) = 115) := by rw [asB_c, decide_eq_false (by simpa using g9_5), Bool.false_or]
            exact hK16 _ (anyS (h := by rw [e]; rfl))
          · try simp only [decide_eq_true_eq, decide_eq_false_iff_not] at g9_5
            try refine evd ?_
            have e : (!asB (s.data.toList.getD x 0)) = false := by rw [asB_c, decide_eq_true (by simpa using g9_5)]; rfl
            exact hK16 _ (anyS (h := by rw [e]; rfl))
        rintro f16
        simp only [updT_k, updT_d, updT_d5, updT_v, updT_nil, Nat.reduceAdd]
        refine Wp.condS (fun h30 => ?_) (fun h30 => ?_)
        · have hno := rowOk_b (as_no hnd hxl (by simpa using h30))
          refine Wp.seqK fun K17 hK17 => ?_
          refine rg ?_
          refine hK17 _ ?_
          clear hK17 K17
          rw [hno.1, hno.2]
          refine Wp.keepR 0 [1] (by rw [hB]; simp) (by simp) (by decide) (by simp) ?_
          refine evd ?_
          refine Wp.ret (retL [0] rfl (Nat.zero_le _) (by decide) (by simp) rfl ?_)
          simp only [keepO, List.take_zero, List.map_nil, List.nil_append, List.map_cons, List.getD_cons_zero, List.getD_cons_succ, Option.map_some, renB]
          try rfl
        · have hd : asB (s.data.toList.getD x 0) = true := by simpa using h30
          have e := rX_push hnd hxl
          refine Wp.skip ?_
          refine hK15 _ ?_
          clear hK15 K15
          refine rg ?_
          try simp only [thn, inB, if_true, reduceIte]
          refine hK14 _ ?_
          clear hK14 K14
          refine Wp.keepR 1 [] (by rw [hB]; simp) (by simp) (by simp) (by simp) ?_
          refine evd ?_
          refine rg ?_
          exact hK11 (x + 1) _ ⟨by omega, all_pushA hxl ha hd⟩ (by omega) (anyS (h := by rw [e]; simp; rfl) (ho := by rw [e]; simp [pushB, b97]))
      · have hxl : x = s.data.toList.length := by omega
        have hra := rX_all hxl
        rw [hxl, List.take_length] at ha
        have hyes := rowOk_t hA (as_text hnd (by omega) ha)
        refine Wp.exit ?_
        try simp only [thn, inB, if_true, reduceIte]
        clear hK12 K12
        clear hK11 K11
        refine hK9 _ ?_
        clear hK9 K9
        refine Wp.seqK fun K18 hK18 => ?_
        refine rg ?_
        refine hK18 _ ?_
        clear hK18 K18
        rw [hyes.1, hyes.2, ← hra]
        refine Wp.keepR 0 [0] (by rw [hB]; simp) (by simp) (by decide) (by simp) ?_
        refine evd ?_
        refine Wp.ret (retL [0] rfl (Nat.zero_le _) (by decide) (by simp) rfl ?_)
        simp only [keepO, List.take_zero, List.map_nil, List.nil_append, List.map_cons, List.getD_cons_zero, List.getD_cons_succ, Option.map_some, renB]
        try rfl
end Go.Proofs.YtbhlegobhidgkaaDoor.RE
/-! LoadMachine, the program. Conditions: those that a theorem names. -/
set_option linter.unusedVariables false
set_option linter.unusedSimpArgs false
namespace Go.Proofs.YtbhlegobhidgkaaDoor.RE
open Go Go.RowKit
set_option maxRecDepth 100000
set_option maxHeartbeats 8000000

/-! ### Sizes of pieces -/
theorem spl_size {c : UInt8} : ∀ {l : List UInt8}, ∀ w ∈ splB c l, w.length ≤ l.length
  | [], w, h => by simp [splB] at h; subst h; exact Nat.le_refl _
  | b :: l, w, h => by
    rw [splB] at h
    split at h
    · rcases List.mem_cons.1 h with rfl | h
      · exact Nat.zero_le _
      · exact Nat.le_succ_of_le (spl_size w h)
    · cases hs : splB c l with
      | nil => exact absurd hs (spl_ne c l)
      | cons v r =>
        rw [hs, List.modifyHead_cons] at h
        rcases List.mem_cons.1 h with rfl | h
        · have := spl_size (c := c) (l := l) v (by rw [hs]; exact List.mem_cons_self)
          simp; omega
        · have := spl_size (c := c) (l := l) w (by rw [hs]; exact List.mem_cons_of_mem _ h)
          simp; omega
theorem pcs_size {c : UInt8} {s x : ByteArray} (h : x ∈ pcs c s) : x.size ≤ s.size := by
  unfold pcs at h
  obtain ⟨w, hw, rfl⟩ := List.mem_map.1 h
  rw [mkB_size, size_list]
  exact spl_size w hw
theorem getD_size {l : List ByteArray} {n : Nat} (h : ∀ x ∈ l, x.size ≤ n) (k : Nat) : (l.getD k ⟨#[]⟩).size ≤ n := by
  rw [List.getD_eq_getElem?_getD]
  cases hk : l[k]? with
  | none => exact Nat.zero_le _
  | some x => exact h x (List.mem_of_getElem? hk)
theorem ln_le (s : ByteArray) (k : Nat) : (lnP s k).size ≤ s.size := getD_size (fun _ h => pcs_size h) k
theorem words_mem {line nm x : ByteArray} (h : x ∈ wordsP line nm) : x ∈ pcs 32 line := by
  unfold wordsP at h
  split at h
  · exact List.mem_of_mem_drop h
  · cases h
theorem word_le (line nm : ByteArray) (k : Nat) : (wordP (wordsP line nm) k).size ≤ line.size := getD_size (fun _ h => pcs_size (words_mem h)) k
theorem words_le (line nm : ByteArray) : (wordsP line nm).length ≤ line.size + 1 := by
  have := pcs_le 32 line
  unfold wordsP
  split
  · rw [List.length_drop]; omega
  · exact Nat.zero_le _
theorem bits_le (s : ByteArray) : (bitsI s).length ≤ s.size := by
  unfold bitsI
  rw [List.length_map, size_list]
  exact List.length_filter_le _ _
theorem rowQ_le (s : ByteArray) : (rowQ s).length ≤ 12 := by
  unfold rowQ
  split
  · rename_i h
    unfold rowOk at h
    rw [Bool.and_eq_true] at h
    have h1 := (of_decide_eq_true h.1).2
    unfold rowsOf
    split
    · exact Nat.zero_le _
    · rw [List.length_map, ← size_list]; exact h1
  · exact Nat.zero_le _
def mX (s : ByteArray) (x : Nat) : List Sn := (((pcs 10 s).drop 7).take x).map snI
theorem mX_len {s : ByteArray} {x : Nat} (h : x + 8 ≤ (pcs 10 s).length) : (mX s x).length = x := by
  unfold mX
  rw [List.length_map, List.length_take, List.length_drop]; omega
theorem mX_push {s : ByteArray} {x : Nat} (h : x + 8 < (pcs 10 s).length) : mX s (x + 1) = mX s x ++ [snI (lnP s (7 + x))] := by
  unfold mX lnP
  have hx : x < ((pcs 10 s).drop 7).length := by rw [List.length_drop]; omega
  rw [List.take_succ_eq_append_getElem hx, List.map_append]
  congr 1
  rw [List.getElem_drop, List.getD_eq_getElem?_getD, List.getElem?_eq_getElem (by omega)]
  rfl
theorem load_no {s : ByteArray} (h : iC s = false) : loadB s = false := by
  unfold loadB
  rw [h, Bool.false_and]
theorem mI_fits {s : ByteArray} (hs : s.size ≤ 1048576) (h8 : 8 ≤ (pcs 10 s).length) : (mI s).Fits := by
  have hp := pcs_le 10 s
  refine ⟨Nat.le_trans (rowQ_le _) (by decide), ?_, ?_, ?_, fun x hx => ?_⟩
  · show (okO (rkS (keyI s)) (rkO (keyI s))).size ≤ 1048576
    unfold okO
    split
    · have h1 : (keyI s).size ≤ (lnP s 1).size := word_le _ _ 0
      have h2 := ln_le s 1
      have h3 : (rkO (keyI s)).size ≤ (keyI s).size := by unfold rkO; exact ext_le _ _ _
      omega
    · exact Nat.zero_le _
  · have h1 := bits_le (wordP (wordsP (lnP s 3) (mkB nVals)) 0)
    have h2 := word_le (lnP s 3) (mkB nVals) 0
    have h3 := ln_le s 3
    show (bitsI (wordP (wordsP (lnP s 3) (mkB nVals)) 0)).length ≤ 1048576
    omega
  · show (memoI s).length ≤ 1048576
    unfold memoI
    rw [List.length_map, List.length_take, List.length_drop]; omega
  · obtain ⟨l, hl, rfl⟩ := List.mem_map.1 (show x ∈ memoI s from hx)
    have h1 := word_le l (mkB nSeen) 0
    have h2 := pcs_size (List.mem_of_mem_drop (List.mem_of_mem_take hl))
    show (wordP (wordsP l (mkB nSeen)) 0).size ≤ 1048576
    omega
theorem iLoad_c (s : ByteArray) (hs : s.size ≤ 1048576) : Ret E.P 9 [S s] (.tup [.agg (mO 0 1 2 (loadM s)), TB (loadB s)]) (mR (loadM s)) := by
  refine CallsA.body (E := E) (fn := Tryd.f9) Tryd.func9 rfl fun B hB => ?_
  simp only [Tryd.ntmps9, go_sem, nl, Nat.reduceSub, Nat.reduceAdd, List.reduceReplicate]
  refine Wp.seqK fun K1 hK1 => ?_
  refine rg ?_
  refine hK1 _ ?_
  clear hK1 K1
  refine Wp.seqK fun K2 hK2 => ?_
  refine Wp.seqK fun K3 hK3 => ?_
  refine rg ?_
  refine hK3 _ ?_
  clear hK3 K3
  refine Wp.condS (fun h14 => ?_) (fun h14 => ?_)
  · have hld : loadB s = false := load_no (decide_eq_false (fun h => by omega))
    refine Wp.seqK fun K4 hK4 => ?_
    refine rg ?_
    refine hK4 _ ?_
    clear hK4 K4
    rw [show loadM s = default from if_neg (by rw [hld]; simp), hld]
    refine Wp.nilCell 0 0 1 rfl rfl ?_
    refine evd ?_
    refine Wp.nilCell 0 4 1 rfl rfl ?_
    refine evd ?_
    refine Wp.nilCell 0 10 2 rfl rfl ?_
    refine evd ?_
    refine Wp.ret (retL [1, 2, 3] rfl (Nat.zero_le _) (by decide) (by simp) rfl ?_)
    simp only [keepO, List.take_zero, List.map_nil, List.nil_append, List.map_cons, List.getD_cons_zero, List.getD_cons_succ, Option.map_some]
    try rfl
  · refine Wp.skip ?_
    refine hK2 _ ?_
    clear hK2 K2
    refine Wp.seqK fun K5 hK5 => ?_
    refine rg ?_
    refine ⟨rfl, CallK.retA (h := split_c s 10 (by omega)) (ha := .same rfl (.same rfl .nil)) (k := ?_)⟩
    refine evd ?_
    refine hK5 _ ?_
    clear hK5 K5
    refine Wp.seqK fun K6 hK6 => ?_
    refine Wp.seqK fun K7 hK7 => ?_
    refine rg ?_
    refine hK7 _ ?_
    clear hK7 K7
    refine Wp.condS (fun h20 => ?_) (fun h20 => ?_)
    · have hld : loadB s = false := load_no (decide_eq_false (fun h => by omega))
      refine Wp.seqK fun K8 hK8 => ?_
      refine rg ?_
      refine hK8 _ ?_
      clear hK8 K8
      rw [show loadM s = default from if_neg (by rw [hld]; simp), hld]
      refine Wp.nilCell 0 0 1 rfl rfl ?_
      refine evd ?_
      refine Wp.nilCell 0 4 1 rfl rfl ?_
      refine evd ?_
      refine Wp.nilCell 0 10 2 rfl rfl ?_
      refine evd ?_
      refine Wp.ret (retL [2, 3, 4] rfl (Nat.zero_le _) (by decide) (by simp) rfl ?_)
      simp only [keepO, List.take_zero, List.map_nil, List.nil_append, List.map_cons, List.getD_cons_zero, List.getD_cons_succ, Option.map_some]
      try rfl
    · have h8 : 8 ≤ (pcs 10 s).length := by omega
      have hic : iC s = true := decide_eq_true ⟨by omega, h8⟩
      have hF := mI_fits hs h8
      have hp2 := pcs_le 10 s
      refine Wp.skip ?_
      refine hK6 _ ?_
      clear hK6 K6
      refine Wp.seqK fun K9 hK9 => ?_
      refine rg ?_
      refine hK9 _ ?_
      clear hK9 K9
      refine Wp.seqK fun K10 hK10 => ?_
      refine rg ?_
      refine ⟨rfl, CallK.retA (h := wordsOf_c (lnP s 0) (mkB nRow) (by have := ln_le s 0; have := ln_le s 1; have := ln_le s 2; have := ln_le s 3; have := ln_le s 4; have := ln_le s 6; omega)) (ha := .same rfl (.same rfl .nil)) (k := ?_)⟩
      refine evd ?_
      refine ⟨rfl, CallK.valA (h := wordAt_c (wordsP (lnP s 0) (mkB nRow)) 0 (by have := words_le (lnP s 0) (mkB nRow); have := ln_le s 0; have := ln_le s 1; have := ln_le s 2; have := ln_le s 3; have := ln_le s 4; have := ln_le s 6; omega) (by omega)) (ha := .same rfl (.same rfl .nil)) (k := ?_)⟩
      refine evd ?_
      refine ⟨rfl, CallK.retA (h := iReadRow_c (wordP (wordsP (lnP s 0) (mkB nRow)) 0) (by have := word_le (lnP s 0) (mkB nRow) 0; have := ln_le s 0; have := ln_le s 1; have := ln_le s 2; have := ln_le s 3; have := ln_le s 4; have := ln_le s 6; omega)) (ha := .same rfl .nil) (k := ?_)⟩
      refine evd ?_
      refine hK10 _ ?_
      clear hK10 K10
      refine Wp.seqK fun K11 hK11 => ?_
      refine rg ?_
      refine ⟨rfl, CallK.retA (h := wordsOf_c (lnP s 1) (mkB nTable) (by have := ln_le s 0; have := ln_le s 1; have := ln_le s 2; have := ln_le s 3; have := ln_le s 4; have := ln_le s 6; omega)) (ha := .same rfl (.same rfl .nil)) (k := ?_)⟩
      refine evd ?_
      refine ⟨rfl, CallK.valA (h := wordAt_c (wordsP (lnP s 1) (mkB nTable)) 0 (by have := words_le (lnP s 1) (mkB nTable); have := ln_le s 0; have := ln_le s 1; have := ln_le s 2; have := ln_le s 3; have := ln_le s 4; have := ln_le s 6; omega) (by omega)) (ha := .same rfl (.same rfl .nil)) (k := ?_)⟩
      refine evd ?_
      refine ⟨rfl, CallK.valA (h := iReadKey_c2 (keyI s) (by have : (keyI s).size ≤ (lnP s 1).size := word_le _ _ 0; have := ln_le s 1; omega)) (ha := .same rfl .nil) (k := ?_)⟩
      refine evd ?_
      refine hK11 _ ?_
      clear hK11 K11
      refine Wp.seqK fun K12 hK12 => ?_
      refine rg ?_
      refine ⟨rfl, CallK.retA (h := wordsOf_c (lnP s 2) (mkB nRoom) (by have := ln_le s 0; have := ln_le s 1; have := ln_le s 2; have := ln_le s 3; have := ln_le s 4; have := ln_le s 6; omega)) (ha := .same rfl (.same rfl .nil)) (k := ?_)⟩
      refine evd ?_
      refine ⟨rfl, CallK.valA (h := wordAt_c (wordsP (lnP s 2) (mkB nRoom)) 0 (by have := words_le (lnP s 2) (mkB nRoom); have := ln_le s 0; have := ln_le s 1; have := ln_le s 2; have := ln_le s 3; have := ln_le s 4; have := ln_le s 6; omega) (by omega)) (ha := .same rfl (.same rfl .nil)) (k := ?_)⟩
      refine evd ?_
      refine ⟨rfl, CallK.valA (h := readRet_c (wordP (wordsP (lnP s 2) (mkB nRoom)) 0) (by have := word_le (lnP s 2) (mkB nRoom) 0; have := ln_le s 0; have := ln_le s 1; have := ln_le s 2; have := ln_le s 3; have := ln_le s 4; have := ln_le s 6; omega)) (ha := .same rfl .nil) (k := ?_)⟩
      refine evd ?_
      refine hK12 _ ?_
      clear hK12 K12
      refine Wp.seqK fun K13 hK13 => ?_
      refine rg ?_
      refine ⟨rfl, CallK.retA (h := wordsOf_c (lnP s 3) (mkB nVals) (by have := ln_le s 0; have := ln_le s 1; have := ln_le s 2; have := ln_le s 3; have := ln_le s 4; have := ln_le s 6; omega)) (ha := .same rfl (.same rfl .nil)) (k := ?_)⟩
      refine evd ?_
      refine ⟨rfl, CallK.valA (h := wordAt_c (wordsP (lnP s 3) (mkB nVals)) 0 (by have := words_le (lnP s 3) (mkB nVals); have := ln_le s 0; have := ln_le s 1; have := ln_le s 2; have := ln_le s 3; have := ln_le s 4; have := ln_le s 6; omega) (by omega)) (ha := .same rfl (.same rfl .nil)) (k := ?_)⟩
      refine evd ?_
      refine ⟨rfl, CallK.retA (h := readBits_c (wordP (wordsP (lnP s 3) (mkB nVals)) 0) (by have := word_le (lnP s 3) (mkB nVals) 0; have := ln_le s 0; have := ln_le s 1; have := ln_le s 2; have := ln_le s 3; have := ln_le s 4; have := ln_le s 6; omega)) (ha := .same rfl .nil) (k := ?_)⟩
      refine evd ?_
      refine hK13 _ ?_
      clear hK13 K13
      refine Wp.seqK fun K14 hK14 => ?_
      refine rg ?_
      refine ⟨rfl, CallK.retA (h := wordsOf_c (lnP s 4) (mkB nRet) (by have := ln_le s 0; have := ln_le s 1; have := ln_le s 2; have := ln_le s 3; have := ln_le s 4; have := ln_le s 6; omega)) (ha := .same rfl (.same rfl .nil)) (k := ?_)⟩
      refine evd ?_
      refine ⟨rfl, CallK.valA (h := wordAt_c (wordsP (lnP s 4) (mkB nRet)) 0 (by have := words_le (lnP s 4) (mkB nRet); have := ln_le s 0; have := ln_le s 1; have := ln_le s 2; have := ln_le s 3; have := ln_le s 4; have := ln_le s 6; omega) (by omega)) (ha := .same rfl (.same rfl .nil)) (k := ?_)⟩
      refine evd ?_
      refine ⟨rfl, CallK.valA (h := readRet_c (wordP (wordsP (lnP s 4) (mkB nRet)) 0) (by have := word_le (lnP s 4) (mkB nRet) 0; have := ln_le s 0; have := ln_le s 1; have := ln_le s 2; have := ln_le s 3; have := ln_le s 4; have := ln_le s 6; omega)) (ha := .same rfl .nil) (k := ?_)⟩
      refine evd ?_
      refine hK14 _ ?_
      clear hK14 K14
      refine Wp.seqK fun K15 hK15 => ?_
      refine rg ?_
      refine hK15 _ ?_
      clear hK15 K15
      refine Wp.seqK fun K16 hK16 => ?_
      refine rg ?_
      refine ⟨rfl, CallK.retA (h := wordsOf_c (lnP s 6) (mkB nCnt) (by have := ln_le s 0; have := ln_le s 1; have := ln_le s 2; have := ln_le s 3; have := ln_le s 4; have := ln_le s 6; omega)) (ha := .same rfl (.same rfl .nil)) (k := ?_)⟩
      refine evd ?_
      refine hK16 _ ?_
      clear hK16 K16
      refine Wp.seqK fun K17 hK17 => ?_
      refine rg ?_
      refine ⟨rfl, CallK.valA (h := wordAt_c (wordsP (lnP s 6) (mkB nCnt)) 0 (by have := words_le (lnP s 6) (mkB nCnt); have := ln_le s 0; have := ln_le s 1; have := ln_le s 2; have := ln_le s 3; have := ln_le s 4; have := ln_le s 6; omega) (by omega)) (ha := .same rfl (.same rfl .nil)) (k := ?_)⟩
      refine evd ?_
      refine ⟨rfl, CallK.valA (h := readRet_c (wordP (wordsP (lnP s 6) (mkB nCnt)) 0) (by have := word_le (lnP s 6) (mkB nCnt) 0; have := ln_le s 0; have := ln_le s 1; have := ln_le s 2; have := ln_le s 3; have := ln_le s 4; have := ln_le s 6; omega)) (ha := .same rfl .nil) (k := ?_)⟩
      refine evd ?_
      refine ⟨rfl, CallK.valA (h := wordAt_c (wordsP (lnP s 6) (mkB nCnt)) 1 (by have := words_le (lnP s 6) (mkB nCnt); have := ln_le s 0; have := ln_le s 1; have := ln_le s 2; have := ln_le s 3; have := ln_le s 4; have := ln_le s 6; omega) (by omega)) (ha := .same rfl (.same rfl .nil)) (k := ?_)⟩
      refine evd ?_
      refine ⟨rfl, CallK.valA (h := readRet_c (wordP (wordsP (lnP s 6) (mkB nCnt)) 1) (by have := word_le (lnP s 6) (mkB nCnt) 1; have := ln_le s 0; have := ln_le s 1; have := ln_le s 2; have := ln_le s 3; have := ln_le s 4; have := ln_le s 6; omega)) (ha := .same rfl .nil) (k := ?_)⟩
      refine evd ?_
      refine ⟨rfl, CallK.valA (h := wordAt_c (wordsP (lnP s 6) (mkB nCnt)) 2 (by have := words_le (lnP s 6) (mkB nCnt); have := ln_le s 0; have := ln_le s 1; have := ln_le s 2; have := ln_le s 3; have := ln_le s 4; have := ln_le s 6; omega) (by omega)) (ha := .same rfl (.same rfl .nil)) (k := ?_)⟩
      refine evd ?_
      refine ⟨rfl, CallK.valA (h := readRet_c (wordP (wordsP (lnP s 6) (mkB nCnt)) 2) (by have := word_le (lnP s 6) (mkB nCnt) 2; have := ln_le s 0; have := ln_le s 1; have := ln_le s 2; have := ln_le s 3; have := ln_le s 4; have := ln_le s 6; omega)) (ha := .same rfl .nil) (k := ?_)⟩
      refine evd ?_
      refine hK17 _ ?_
      clear hK17 K17
      refine Wp.seqK fun K18 hK18 => ?_
      refine Wp.seqK fun K19 hK19 => ?_
      refine Wp.nilCell 2 10 2 rfl rfl ?_
      refine evd ?_
      refine rg ?_
      refine hK19 _ ?_
      clear hK19 K19
      refine Wp.block ?_
      refine Wp.loopU (α := Nat) (fun x => [.k, .d, .k, .d, .d, .k, .d5, .d5, .d5, .d5, .d5, .d5, .d5, .d5, .d5, .d5, .d5, .d5, .d5, .d5, .d5, .d5, .d, .d, .d, .k, .k, .v (I x), .d5, .d5, .d5, .d5, .d5, .d5, .d]) (fun x => [some ⟨0, [.nils, .sc (.int .i64 0), .sc (.string ⟨#[]⟩), .sc (.int .i64 0), .nils, .sc (.int .i64 0), .sc (.bool false), .sc (.int .i64 0), .sc (.int .i64 0), .sc (.int .i64 0), .nils]⟩, some ⟨0, (pcs 10 s).map ct⟩, some ⟨0, mCells (.obj 3 0 1 0 (mI s).row.length) (.obj 4 0 1 0 (mI s).vals.length) (.obj 5 x 2 0 x) (mI s)⟩, some ⟨0, (mI s).row.map cb⟩, some ⟨0, (mI s).vals.map ci⟩, some ⟨x, lS (mX s x)⟩]) (fun x => x + 8 ≤ (pcs 10 s).length) (fun x => (pcs 10 s).length - x) 0 (by omega) (anyS) ?_
      rintro x f20 K20 hx hK20
      simp only [updT_k, updT_d, updT_d5, updT_v, updT_nil, Nat.reduceAdd]
      have hmx := mX_len hx
      simp only [mCells]
      refine Wp.seqK fun K21 hK21 => ?_
      refine rg ?_
      refine hK21 _ ?_
      clear hK21 K21
      refine Wp.seqK fun K22 hK22 => ?_
      refine Wp.condS (fun h92 => ?_) (fun h92 => ?_)
      · refine Wp.skip ?_
        refine hK22 _ ?_
        clear hK22 K22
        refine Wp.seqK fun K23 hK23 => ?_
        refine Wp.block ?_
        refine Wp.seqK fun K24 hK24 => ?_
        refine rg ?_
        refine hK24 _ ?_
        clear hK24 K24
        refine Wp.seqK fun K25 hK25 => ?_
        refine rg ?_
        have hLX := ln_le s (7 + x)
        refine ⟨rfl, CallK.retA (h := wordsOf_c (lnP s (7 + x)) (mkB nSeen) (by omega)) (ha := .same rfl (.same rfl .nil)) (k := ?_)⟩
        refine evd ?_
        refine hK25 _ ?_
        clear hK25 K25
        refine Wp.drawP [0, 1, 2, 3, 4] [3, 5, 6, 8, 9] [0, 1, 2, 4, 3, 5, 6, 7, 8, 9, 10, 11] rfl (by kernel_rfl) ?_
        refine evd ?_
        refine ⟨rfl, CallK.valA (h := wordAt_c (wordsP (lnP s (7 + x)) (mkB nSeen)) 0 (by have := words_le (lnP s (7 + x)) (mkB nSeen); omega) (by omega)) (ha := .same rfl (.same rfl .nil)) (k := ?_)⟩
        refine evd ?_
        refine ⟨rfl, CallK.valA (h := wordAt_c (wordsP (lnP s (7 + x)) (mkB nSeen)) 1 (by have := words_le (lnP s (7 + x)) (mkB nSeen); omega) (by omega)) (ha := .same rfl (.same rfl .nil)) (k := ?_)⟩
        refine evd ?_
        refine ⟨rfl, CallK.valA (h := readRet_c (wordP (wordsP (lnP s (7 + x)) (mkB nSeen)) 1) (by have := word_le (lnP s (7 + x)) (mkB nSeen) 1; omega)) (ha := .same rfl .nil) (k := ?_)⟩
        refine evd ?_
        try simp only [thn, inB, if_true, reduceIte]
        refine hK23 _ ?_
        clear hK23 K23
        refine Wp.keepR 6 [] (by rw [hB]; simp) (by simp) (by simp) (by simp) ?_
        refine evd ?_
        refine rg ?_
        exact hK20 (x + 1) _ (by omega) (by omega) (anyS (ho := by rw [mX_push (by omega)]; rfl))
      · have hxe : x = (pcs 10 s).length - 8 := by omega
        have hme : mX s x = (mI s).memo := by rw [hxe]; rfl
        have hl : (mI s).memo.length = x := by rw [← hme]; exact hmx
        subst hl
        rw [hme]
        refine Wp.exit ?_
        try simp only [thn, inB, if_true, reduceIte]
        clear hK22 K22
        clear hK20 K20
        refine hK18 _ ?_
        clear hK18 K18
        refine Wp.seqK fun K26 hK26 => ?_
        refine Wp.seqK fun K27 hK27 => ?_
        refine rg ?_
        refine ⟨rfl, CallK.valA (h := iSave_c (mI s) hF) (ha := argG (G := ⟨0, 0, [], (mI s).memo.length, []⟩) (m := mI s) (a := 3) (b := 4) (c := 5) rfl (by simp) rfl (by simp [lk]) (by simp [lk]) (by simp [lk])) (k := ?_)⟩
        refine evd ?_
        refine hK27 _ ?_
        clear hK27 K27
        refine Wp.seqU0 [.d, .d, .k, .d, .d, .k, .d5, .d5, .d5, .d5, .d5, .d5, .d5, .d5, .d5, .d5, .d5, .d5, .d5, .d5, .d5, .d5, .d5, .d5, .d5, .d5, .d5, .d5, .d, .d, .d, .d, .v (T (!loadB s)), .d, .d] (fun K28 hK28 => ?_) ?_
        · refine rg ?_
          refine grdA_split rfl (fun g22_3 => ?_) (fun g22_3 => ?_)
          · try simp only [decide_eq_true_eq, decide_eq_false_iff_not] at g22_3
            try refine evd ?_
            have e : loadB s = false := by unfold loadB; rw [show saveB (mI s) = false by simpa using g22_3, Bool.false_and, Bool.and_false]
            exact hK28 _ (anyS (h := by rw [e]; rfl))
          · try simp only [decide_eq_true_eq, decide_eq_false_iff_not] at g22_3
            try refine evd ?_
            have hsv : saveB (mI s) = true := by simpa using g22_3
            have e : (!loadB s) = !decide (saveR (mI s) = s) := by unfold loadB saveR; rw [hic, hsv, if_pos rfl, Bool.true_and, Bool.true_and]
            exact hK28 _ (anyS (h := by rw [e]; rfl))
        rintro f28
        simp only [updT_k, updT_d, updT_d5, updT_v, updT_nil, Nat.reduceAdd]
        refine Wp.condS (fun h120 => ?_) (fun h120 => ?_)
        · have hld : loadB s = false := by simpa using h120
          refine Wp.seqK fun K29 hK29 => ?_
          refine rg ?_
          refine hK29 _ ?_
          clear hK29 K29
          rw [show loadM s = default from if_neg (by rw [hld]; simp), hld]
          refine Wp.nilCell 0 0 1 rfl rfl ?_
          refine evd ?_
          refine Wp.nilCell 0 4 1 rfl rfl ?_
          refine evd ?_
          refine Wp.nilCell 0 10 2 rfl rfl ?_
          refine evd ?_
          refine Wp.ret (retL [6, 7, 8] rfl (Nat.zero_le _) (by decide) (by simp) rfl ?_)
          simp only [keepO, List.take_zero, List.map_nil, List.nil_append, List.map_cons, List.getD_cons_zero, List.getD_cons_succ, Option.map_some]
          try rfl
        · have hld : loadB s = true := by simpa using h120
          refine Wp.skip ?_
          refine hK26 _ ?_
          clear hK26 K26
          refine Wp.seqK fun K30 hK30 => ?_
          refine rg ?_
          refine hK30 _ ?_
          clear hK30 K30
          rw [show loadM s = mI s from if_pos hld, hld]
          refine Wp.keepR 0 [3, 4, 5, 0] (by rw [hB]; simp) (by simp) (by decide) (by simp) ?_
          refine evd ?_
          refine Wp.ret (retL [0, 1, 2] rfl (Nat.zero_le _) (by decide) (by simp) rfl ?_)
          simp only [keepO, List.take_zero, List.map_nil, List.nil_append, List.map_cons, List.getD_cons_zero, List.getD_cons_succ, Option.map_some, renB, renI, renS]
          try rfl
end Go.Proofs.YtbhlegobhidgkaaDoor.RE
/-! A machine's text is drawn. Conditions: those that a theorem names. -/
set_option linter.unusedVariables false
set_option linter.unusedSimpArgs false
namespace Go.Proofs.YtbhlegobhidgkaaDoor.RE
open Go Go.RowKit
set_option maxRecDepth 100000
set_option maxHeartbeats 8000000

def QMach (l : List Int) : AV → Obs → Prop := fun r ob => ∃ (i2 h2 : Int) (G : Gh) (m : Mc), (0 ≤ i2 ∧ i2 ≤ (l.length : Int)) ∧ m.Fits ∧ r = .agg (mCl 1 2 3 G m) ∧ ob = some (cur l i2 h2) :: mRw G m
theorem CallK.machF {P : Program} {f : FuncId} {args args' : List AV} {st : St} {d : Option Tmp} {K : St → Prop} {l : List Int} {i s : Int} {rest : Obs} (h : CallsA P f args' [some (cur l i s)] (QMach l))
    (k : ∀ (G : Gh) (m : Mc) i2 s2, m.Fits → (0 ≤ i2 ∧ i2 ≤ (l.length : Int)) → K ⟨putT st.tm d (.agg (mCl (rest.length + 1) (rest.length + 2) (rest.length + 3) G m)), some (cur l i2 s2) :: (rest ++ mRw G m)⟩) (ho : st.ob = some (cur l i s) :: rest := by rfl) (ha : args.map (AV.toC (List.range 1) []) = args' := by rfl) : CallK P f args st d K :=
  CallK.handE 1 h (fun r ob1 ⟨i2, s2, G, m, hi, hg, e1, e2⟩ => ⟨[some (cur l i2 s2)], mRw G m, by rw [e2]; rfl, rfl, rfl, by
    have := k G m i2 s2 hg hi
    rw [ho, e1, obFlat_ren (mRw_flat G m)]
    have e : AV.ren (shm 1 (some (cur l i s) :: rest).length) (.agg (mCl 1 2 3 G m)) = .agg (mCl (rest.length + 1) (rest.length + 2) (rest.length + 3) G m) := by
      simp only [mCl, mCells, AV.ren, List.map_cons, List.map_nil, lren_obj, lren_sc, shm, List.length_cons]
      simp [optO, Nat.add_comm, Nat.add_assoc, Nat.add_left_comm]
    rw [e]
    exact this⟩) (by rw [ho]; rfl) ha rfl (by rw [ho]; simp)
theorem CallK.pick7 {P : Program} {f : FuncId} {args : List AV} {st : St} {d : Option Tmp} {K : St → Prop} {l q : List Int} {i s : Int} {r1 r2 r3 r4 r5 : Option Ob} (h : CallsA P f [.l (.ptr 0 0 0), .l (.obj 1 0 1 0 q.length)] [some (cur l i s), some ⟨0, q.map ci⟩] (QPk l q))
    (kk : ∀ x i2 s2, x ∈ q → (0 ≤ i2 ∧ i2 ≤ (l.length : Int)) → K ⟨putT st.tm d (I x), [some (cur l i2 s2), r1, r2, r3, r4, r5, some ⟨0, q.map ci⟩]⟩) (ho : st.ob = [some (cur l i s), r1, r2, r3, r4, r5, some ⟨0, q.map ci⟩] := by rfl) (ha : args.map (AV.toC [0, 6] []) = [.l (.ptr 0 0 0), .l (.obj 1 0 1 0 q.length)] := by rfl) : CallK P f args st d K := by
  have hc : ∀ (mm : Nat → Nat → Option (Nat × Nat)) (i s : Int), (cur l i s).cs.map (LV.ren mm) = (cur l i s).cs := fun _ _ _ => rfl
  refine CallK.use (Q := QPk l q) [0, 6] [] ⟨by decide, fun s hs => by rw [ho]; simp only [List.mem_cons, List.not_mem_nil, or_false] at hs; simp; omega, by simp, by simp⟩ ?_ ?_
  · rw [ha, show obC [0, 6] st.ob = [some (cur l i s), some ⟨0, q.map ci⟩] by
      rw [ho]; simp only [obC, List.map_cons, List.map_nil, List.getD_cons_zero, List.getD_cons_succ, Option.map_some, hc, renI]]
    exact h
  · rintro r ob1 ⟨i2, s2, x, hi, hx, e1, e2⟩
    subst e1; subst e2
    refine ⟨by simp, .inl rfl, ?_⟩
    have e : ∀ (a b1 b2 b3 b4 b5 d x y : Option Ob), obB [0, 6] [a, b1, b2, b3, b4, b5, d] [x, y] = [x.map (Ob.ren (mB [0, 6] 7)), b1, b2, b3, b4, b5, y.map (Ob.ren (mB [0, 6] 7))] := fun _ _ _ _ _ _ _ _ _ => rfl
    rw [ho, e]
    simp only [Option.map_some, Ob.ren, hc, renI]
    exact kk x i2 s2 hx hi
/-! ### A text of a list, drawn -/
def QPt (l : List Int) (q : List ByteArray) : AV → Obs → Prop := fun r ob => ∃ (i2 h2 : Int) (x : ByteArray), (0 ≤ i2 ∧ i2 ≤ (l.length : Int)) ∧ x ∈ q ∧ r = S x ∧ ob = [some (cur l i2 h2), some ⟨0, q.map ct⟩]
theorem shutT (l : List Int) (i s : Int) (q : List ByteArray) : obShut 2 [some (cur l i s), some ⟨0, q.map ct⟩] = true := by
  simp only [obShut, List.all_cons, List.all_nil, flat_shut (flatT _), Bool.and_true]; rfl
theorem CallK.pickT {P : Program} {f : FuncId} {args : List AV} {st : St} {d : Option Tmp} {K : St → Prop} {l : List Int} {q : List ByteArray} {i s : Int} (h : CallsA P f [.l (.ptr 0 0 0), .l (.obj 1 0 1 0 q.length)] [some (cur l i s), some ⟨0, q.map ct⟩] (QPt l q))
    (kk : ∀ x i2 s2, x ∈ q → (0 ≤ i2 ∧ i2 ≤ (l.length : Int)) → K ⟨putT st.tm d (S x), [some (cur l i2 s2), some ⟨0, q.map ct⟩]⟩) (ho : st.ob = [some (cur l i s), some ⟨0, q.map ct⟩] := by rfl) (ha : args.map (AV.toC (List.range 2) []) = [.l (.ptr 0 0 0), .l (.obj 1 0 1 0 q.length)] := by rfl) : CallK P f args st d K :=
  CallK.handE 2 h (fun r ob1 ⟨i2, s2, x, hi, hx, e1, e2⟩ => ⟨[some (cur l i2 s2), some ⟨0, q.map ct⟩], [], by rw [e2]; rfl, rfl, shutT l i2 s2 q, by
    have := kk x i2 s2 hx hi
    rw [ho, e1]
    simpa [AV.ren, LV.ren] using this⟩) (by rw [ho]; rfl) ha (shutT l i s q) (by rw [ho]; simp)
theorem pickT_c (l : List Int) (i h : Int) (hi : 0 ≤ i ∧ i ≤ (l.length : Int)) (hl : l.length ≤ 1048576) (q : List ByteArray) (hq : 1 ≤ q.length ∧ q.length ≤ 1000) : CallsA E.P 63 [.l (.ptr 0 0 0), .l (.obj 1 0 1 0 q.length)] [some (cur l i h), some ⟨0, q.map ct⟩] (QPt l q) := by
  refine CallsA.body (E := E) (fn := Tryd.f63) Tryd.func63 rfl fun B hB => ?_
  simp only [Tryd.ntmps63, go_sem, nl, Nat.reduceSub, Nat.reduceAdd, List.reduceReplicate]
  refine Wp.seqK fun K1 hK1 => ?_
  refine rg ?_
  refine hK1 _ ?_
  clear hK1 K1
  refine Wp.seqK fun K2 hK2 => ?_
  refine rg ?_
  refine ⟨rfl, CallK.curI (h := l01Below_c _ _ _ (by omega) (by omega) (q.length : Int) (by omega)) (fun x1_4 i1_4 s1_4 hx1_4 hi1_4 => ?_)⟩
  refine evd ?_
  refine hK2 _ ?_
  clear hK2 K2
  refine Wp.ret (retE (m := 2) (Q := QPt l q) (ob' := [some (cur l i1_4 s1_4), some ⟨0, q.map ct⟩]) (hi := shutT l _ _ q) ⟨i1_4, s1_4, _, by omega, mem_getD (d := ⟨#[]⟩) (show x1_4.toNat < q.length by omega), rfl, rfl⟩ rfl)

theorem key_x {l : List Sn} {r : Int} (h : ∀ s ∈ l, s.key.size ≤ 1048576) : ∀ s ∈ l ++ [(⟨⟨#[120]⟩, r⟩ : Sn)], s.key.size ≤ 1048576 := by
  intro s hs
  rcases List.mem_append.1 hs with hs | hs
  · exact h s hs
  · rw [List.mem_singleton.1 hs]; show (1 : Nat) ≤ 1048576; omega

theorem retQMach {st : St} {fn : Func} {l : List Int} {m : Mc} {G : Gh} {i2 h2 : Int} (hf : m.Fits) (hi : 0 ≤ i2 ∧ i2 ≤ (l.length : Int)) (ha : st.ob.getD 3 none = some ⟨G.gr, m.row.map cb⟩) (hb : st.ob.getD 4 none = some ⟨G.gv, (m.vals ++ G.jv).map ci⟩) (hc : st.ob.getD 5 none = some ⟨G.gm, lS (G.pm ++ m.memo)⟩)
    (h0 : st.ob.take 1 = [some (cur l i2 h2)]) (h : resA st.tm st.ob E fn.results.toList = some (.agg (mCl 3 4 5 G m)) := by rfl) (hn : 1 ≤ st.ob.length := by simp) : retQ E fn 1 (QMach l) .ret st := by
  refine ⟨_, [3, 4, 5], h, hn, by decide, by simp, i2, h2, ⟨0, 0, G.jv, 0, G.pm⟩, m, hi, hf, ?_, ?_⟩
  · simp only [mCl, mCells, AV.ren, List.map_cons, List.map_nil, lren_obj, lren_sc, keepM_l, keepX_cons, keepX_nil, ha, hb, hc]
    simp [optO]
  · unfold keepO
    rw [h0]
    simp only [List.map_cons, List.map_nil, ha, hb, hc, Option.map_some, renB, renI, renS]
    rfl
theorem l09Machine_c (l : List Int) (i h : Int) (hi : 0 ≤ i ∧ i ≤ (l.length : Int)) (hl : l.length ≤ 1048576) : CallsA E.P 62 [.l (.ptr 0 0 0)] [some (cur l i h)] (QMach l) := by
  refine CallsA.body (E := E) (fn := Tryd.f62) Tryd.func62 rfl fun B hB => ?_
  simp only [Tryd.ntmps62, go_sem, nl, Nat.reduceSub, Nat.reduceAdd, List.reduceReplicate]
  refine Wp.seqK fun K1 hK1 => ?_
  refine rg ?_
  refine hK1 _ ?_
  clear hK1 K1
  refine Wp.seqK fun K2 hK2 => ?_
  refine rg ?_
  refine ⟨rfl, CallK.startD (h := l09Start_c l i h (by omega) hl) (fun G m i1_1 s1_1 hg hc hi1_1 => ?_)⟩
  refine evd ?_
  refine ⟨rfl, CallK.curI (h := l01Below_c _ _ _ (by omega) (by omega) 60 (by omega)) (fun x1_3 i1_3 s1_3 hx1_3 hi1_3 => ?_)⟩
  refine evd ?_
  obtain ⟨n, rfl⟩ : ∃ n : Nat, x1_3 = n := ⟨x1_3.toNat, by omega⟩
  refine ⟨rfl, CallK.machQ (h := sRun_m (a := 0) (b := n) (c := n) (m := m) hg (by omega) rfl (by omega)) (ha := argGI (G := G) (m := m) (a := 2) (b := 3) (c := 4) rfl rfl rfl (by simp [lk]) (by simp [lk]) (by simp [lk])) (fun G4 => ?_)⟩
  refine evd ?_
  refine hK2 _ ?_
  clear hK2 K2
  refine Wp.seqU (α := (Int × Int) × Mc × Gh × Obs) (fun y => [.d, .d, .k, .v (.l (.ptr 2 0 0)), .d5, .d5, .d5, .d5, .d5, .d5, .d5, .d5, .d5, .d5, .d, .d]) (fun y => some (cur l y.1.1 y.1.2) :: some ⟨0, [.nils, .sc (.int .i64 0), .sc (.string ⟨#[]⟩), .sc (.int .i64 0), .nils, .sc (.int .i64 0), .sc (.bool false), .sc (.int .i64 0), .sc (.int .i64 0), .sc (.int .i64 0), .nils]⟩ :: some ⟨0, mCl 3 4 5 y.2.2.1 y.2.1⟩ :: (mRw y.2.2.1 y.2.1 ++ y.2.2.2)) (fun y => (0 ≤ y.1.1 ∧ y.1.1 ≤ (l.length : Int)) ∧ y.2.1.Fits) (fun K3 hK3 => ?_) ?_
  · refine Wp.seqK fun K4 hK4 => ?_
    refine rg ?_
    refine ⟨rfl, CallK.curI (h := l01Below_c _ _ _ (by omega) (by omega) 20 (by omega)) (fun x2_1 i2_1 s2_1 hx2_1 hi2_1 => ?_)⟩
    refine evd ?_
    refine hK4 _ ?_
    clear hK4 K4
    refine Wp.block ?_
    refine Wp.seqK fun K5 hK5 => ?_
    refine Wp.keepR 1 [1, 8, 5, 6, 7] (by rw [hB]; simp) (by simp) (by decide) (by simp) ?_
    refine evd ?_
    have hgM := run_good n hg
    have hf := good_fits hgM
    have h6 := row_len hgM
    have hvl := hgM.right.vals
    have hsx := hgM.six
    have hml := hgM.right.memo
    have hrm := hgM.right.room
    refine rg ?_
    refine hK5 _ ?_
    clear hK5 K5
    refine Wp.condS (fun h11 => ?_) (fun h11 => ?_)
    · refine rg ?_
      refine ⟨rfl, CallK.pick7 (q := [-2, 2, 0, 1, -1]) (h := pick_c _ _ _ (by omega) (by omega) [-2, 2, 0, 1, -1] (by simp)) (fun x4_2 i4_2 s4_2 hx4_2 hi4_2 => ?_)⟩
      refine evd ?_
      try simp only [thn, inB, if_true, reduceIte]
      exact hK3 ((i4_2, s4_2), { (runM n m) with ret := x4_2 }, ⟨0, 0, G4.jv, 0, G4.pm⟩, [some ⟨0, ([-2, 2, 0, 1, -1] : List Int).map ci⟩]) _ ⟨by omega, ⟨by first | exact hf.row | (simp only [List.length_append, List.length_cons, List.length_nil]; omega), hf.ones, by first | exact hf.vals | (simp only [List.length_append, List.length_cons, List.length_nil]; omega), by first | exact hf.memo | (simp only [List.length_append, List.length_cons, List.length_nil]; omega), by first | exact hf.keys | exact key_x hf.keys⟩⟩ anyS
    · refine Wp.seqK fun K6 hK6 => ?_
      refine rg ?_
      refine hK6 _ ?_
      clear hK6 K6
      refine Wp.condS (fun h17 => ?_) (fun h17 => ?_)
      · refine rg ?_
        try simp only [thn, inB, if_true, reduceIte]
        exact hK3 ((i2_1, s2_1), { (runM n m) with over := !(runM n m).over }, ⟨0, 0, G4.jv, 0, G4.pm⟩, []) _ ⟨by omega, ⟨by first | exact hf.row | (simp only [List.length_append, List.length_cons, List.length_nil]; omega), hf.ones, by first | exact hf.vals | (simp only [List.length_append, List.length_cons, List.length_nil]; omega), by first | exact hf.memo | (simp only [List.length_append, List.length_cons, List.length_nil]; omega), by first | exact hf.keys | exact key_x hf.keys⟩⟩ anyS
      · refine Wp.seqK fun K7 hK7 => ?_
        refine rg ?_
        refine hK7 _ ?_
        clear hK7 K7
        refine Wp.condS (fun h23 => ?_) (fun h23 => ?_)
        · refine Wp.drawI [2] [3, 4, 5] (by kernel_rfl) ?_
          refine evd ?_
          refine ⟨rfl, CallK.curI (h := l01Below_c _ _ _ (by omega) (by omega) 3 (by omega)) (fun x8_3 i8_3 s8_3 hx8_3 hi8_3 => ?_)⟩
          refine evd ?_
          rw [takeV]
          try simp only [thn, inB, if_true, reduceIte]
          exact hK3 ((i8_3, s8_3), { (runM n m) with vals := (runM n m).vals ++ [x8_3] }, ⟨0, 1, [], 0, G4.pm⟩, [some ⟨0, [.sc (.int .i64 x8_3)]⟩]) _ ⟨by omega, ⟨by first | exact hf.row | (simp only [List.length_append, List.length_cons, List.length_nil]; omega), hf.ones, by first | exact hf.vals | (simp only [List.length_append, List.length_cons, List.length_nil]; omega), by first | exact hf.memo | (simp only [List.length_append, List.length_cons, List.length_nil]; omega), by first | exact hf.keys | exact key_x hf.keys⟩⟩ (anyS (ho := by simp [mRw, mCl, mCells]))
        · refine Wp.seqK fun K8 hK8 => ?_
          refine rg ?_
          refine hK8 _ ?_
          clear hK8 K8
          refine Wp.condS (fun h32 => ?_) (fun h32 => ?_)
          · refine rg ?_
            try simp only [thn, inB, if_true, reduceIte]
            exact hK3 ((i2_1, s2_1), { (runM n m) with row := (runM n m).row ++ [true] }, ⟨1, 0, G4.jv, 0, G4.pm⟩, [some ⟨0, [.sc (.bool true)]⟩]) _ ⟨by omega, ⟨by first | exact hf.row | (simp only [List.length_append, List.length_cons, List.length_nil]; omega), hf.ones, by first | exact hf.vals | (simp only [List.length_append, List.length_cons, List.length_nil]; omega), by first | exact hf.memo | (simp only [List.length_append, List.length_cons, List.length_nil]; omega), by first | exact hf.keys | exact key_x hf.keys⟩⟩ (anyS (ho := by simp [mRw, mCl, mCells]))
          · refine Wp.seqK fun K9 hK9 => ?_
            refine rg ?_
            refine hK9 _ ?_
            clear hK9 K9
            refine Wp.condS (fun h39 => ?_) (fun h39 => ?_)
            · refine Wp.drawI [2] [3, 5, 6] (by kernel_rfl) ?_
              refine evd ?_
              refine ⟨rfl, CallK.curI (h := l01Below_c _ _ _ (by omega) (by omega) 3 (by omega)) (fun x12_3 i12_3 s12_3 hx12_3 hi12_3 => ?_)⟩
              refine evd ?_
              rw [takeM']
              try simp only [thn, inB, if_true, reduceIte]
              exact hK3 ((i12_3, s12_3), { (runM n m) with memo := (runM n m).memo ++ [⟨⟨#[120]⟩, x12_3⟩] }, ⟨0, 0, G4.jv, 1, []⟩, [some ⟨0, [.sc (.string ⟨#[120]⟩), .sc (.int .i64 x12_3)]⟩]) _ ⟨by omega, ⟨by first | exact hf.row | (simp only [List.length_append, List.length_cons, List.length_nil]; omega), hf.ones, by first | exact hf.vals | (simp only [List.length_append, List.length_cons, List.length_nil]; omega), by first | exact hf.memo | (simp only [List.length_append, List.length_cons, List.length_nil]; omega), by first | exact hf.keys | exact key_x hf.keys⟩⟩ (anyS (ho := by simp [mRw, mCl, mCells]))
            · refine Wp.seqK fun K10 hK10 => ?_
              refine rg ?_
              refine hK10 _ ?_
              clear hK10 K10
              refine Wp.condS (fun h49 => ?_) (fun h49 => ?_)
              · refine rg ?_
                refine ⟨rfl, CallK.pick7 (q := [-1, 1000000000, 1000000001]) (h := pick_c _ _ _ (by omega) (by omega) [-1, 1000000000, 1000000001] (by simp)) (fun x14_2 i14_2 s14_2 hx14_2 hi14_2 => ?_)⟩
                refine evd ?_
                try simp only [thn, inB, if_true, reduceIte]
                exact hK3 ((i14_2, s14_2), { (runM n m) with steps := x14_2 }, ⟨0, 0, G4.jv, 0, G4.pm⟩, [some ⟨0, ([-1, 1000000000, 1000000001] : List Int).map ci⟩]) _ ⟨by omega, ⟨by first | exact hf.row | (simp only [List.length_append, List.length_cons, List.length_nil]; omega), hf.ones, by first | exact hf.vals | (simp only [List.length_append, List.length_cons, List.length_nil]; omega), by first | exact hf.memo | (simp only [List.length_append, List.length_cons, List.length_nil]; omega), by first | exact hf.keys | exact key_x hf.keys⟩⟩ anyS
              · refine Wp.skip ?_
                try simp only [thn, inB, if_true, reduceIte]
                exact hK3 ((i2_1, s2_1), (runM n m), ⟨0, 0, G4.jv, 0, G4.pm⟩, []) _ ⟨by omega, ⟨by first | exact hf.row | (simp only [List.length_append, List.length_cons, List.length_nil]; omega), hf.ones, by first | exact hf.vals | (simp only [List.length_append, List.length_cons, List.length_nil]; omega), by first | exact hf.memo | (simp only [List.length_append, List.length_cons, List.length_nil]; omega), by first | exact hf.keys | exact key_x hf.keys⟩⟩ anyS
  rintro ⟨ij, m2, G2, o⟩ f3 ⟨hy1, hf2⟩
  simp only [updT_k, updT_d, updT_d5, updT_v, updT_nil, Nat.reduceAdd]
  dsimp only at hy1 hf2 ⊢
  simp only [mRw, mCl, mCells, List.cons_append, List.nil_append]
  refine Wp.seqK fun K11 hK11 => ?_
  refine rg ?_
  refine hK11 _ ?_
  clear hK11 K11
  refine Wp.ret (retQMach (G := G2) hf2 hy1 rfl rfl rfl rfl)

theorem saveR_le (m : Mc) : (saveR m).size ≤ 400000 := by
  unfold saveR
  split
  · have := (saveB_n ‹_›).2.2
    omega
  · exact Nat.zero_le _
def QTx : AV → Obs → Prop := fun r ob => ∃ s : ByteArray, s.size ≤ 900000 ∧ r = S s ∧ ob = []
theorem CallK.textD {P : Program} {f : FuncId} {args args' : List AV} {st : St} {d : Option Tmp} {K : St → Prop} (h : CallsA P f args' [] QTx) (k : ∀ s : ByteArray, s.size ≤ 900000 → K ⟨putT st.tm d (S s), st.ob⟩) (ha : args.map (AV.toC [] []) = args' := by rfl) : CallK P f args st d K :=
  CallK.use (Q := QTx) [] [] LendOk.nil (by rw [ha]; exact h) fun r ob1 ⟨s, hs, e1, e2⟩ => by
    subst e1; subst e2
    refine ⟨Nat.zero_le _, .inr ⟨rfl, rfl⟩, ?_⟩
    have := k s hs
    rw [obB_nil]
    simpa [AV.ren, LV.ren] using this
theorem retTx {st : St} {fn : Func} {s : ByteArray} (hs : s.size ≤ 900000) (h : resA st.tm st.ob E fn.results.toList = some (S s) := by rfl) : retQ E fn 0 QTx .ret st :=
  ⟨_, [], h, Nat.zero_le _, List.nodup_nil, by simp, s, hs, rfl, by simp [keepO]⟩
theorem size_app2 (a b : ByteArray) : (a ++ b).size = a.size + b.size := ByteArray.size_append
theorem one_of {x : ByteArray} {q : List ByteArray} (h : x ∈ q) (hq : ∀ y ∈ q, y.size ≤ 1) : x.size ≤ 1 := hq x h
theorem drawL_c (l : List Int) (hl : l.length ≤ 1048576) : CallsA E.P 19 [dY l] [] QTx := by
  refine CallsA.body (E := E) (fn := Tryd.f19) Tryd.func19 rfl fun B hB => ?_
  simp only [Tryd.ntmps19, go_sem, nl, Nat.reduceSub, Nat.reduceAdd, List.reduceReplicate]
  refine Wp.seqK fun K1 hK1 => ?_
  refine rg ?_
  refine hK1 _ ?_
  clear hK1 K1
  refine Wp.seqK fun K2 hK2 => ?_
  refine rg ?_
  refine ⟨rfl, CallK.newC (h := l01New_c l hl) (fun s1_1 => ?_)⟩
  refine evd ?_
  refine hK2 _ ?_
  clear hK2 K2
  refine Wp.seqK fun K3 hK3 => ?_
  refine rg ?_
  refine ⟨rfl, CallK.machF (h := l09Machine_c l 0 s1_1 (by omega) hl) (fun G m i2_1 s2_1 hf hi2_1 => ?_)⟩
  refine evd ?_
  refine ⟨rfl, CallK.valA (h := sSave_c m hf) (ha := argG (G := G) (m := m) (a := 1) (b := 2) (c := 3) rfl rfl rfl (by simp [lk]) (by simp [lk]) (by simp [lk])) (k := ?_)⟩
  refine evd ?_
  have hsz := saveR_le m
  refine hK3 _ ?_
  clear hK3 K3
  refine Wp.seqK fun K4 hK4 => ?_
  refine Wp.seqK fun K5 hK5 => ?_
  refine Wp.keepR 1 [] (by rw [hB]; simp) (by simp) (by simp) (by simp) ?_
  refine evd ?_
  refine rg ?_
  refine hK5 _ ?_
  clear hK5 K5
  refine Wp.condS (fun h17 => ?_) (fun h17 => ?_)
  · refine Wp.seqK fun K6 hK6 => ?_
    refine rg ?_
    refine hK6 _ ?_
    clear hK6 K6
    refine Wp.ret (retTx (s := ⟨#[114, 111, 119, 32, 45, 10]⟩) (by show (6 : Nat) ≤ 900000; omega))
  · have h17 : ¬ ((saveR m).size : Int) = 0 := h17
    refine Wp.skip ?_
    refine hK4 _ ?_
    clear hK4 K4
    refine Wp.seqK fun K7 hK7 => ?_
    refine rg ?_
    refine ⟨rfl, CallK.curI (h := l01Below_c _ _ _ (by omega) (by omega) ((saveR m).size : Int) (by omega)) (fun x5_3 i5_3 s5_3 hx5_3 hi5_3 => ?_)⟩
    refine evd ?_
    obtain ⟨k, rfl⟩ : ∃ k : Nat, x5_3 = k := ⟨x5_3.toNat, by omega⟩
    have hk : k < (saveR m).size := by omega
    refine hK7 _ ?_
    clear hK7 K7
    refine Wp.seqU (α := ByteArray × Obs) (fun y => [.d, .d, .d, .d, .v (S y.1), .d5, .d5, .d5, .d5, .d5, .d5, .d5, .d5, .d5, .d, .d, .d]) (fun y => y.2) (fun y => y.1.size ≤ 900000) (fun K8 hK8 => ?_) ?_
    · refine Wp.seqK fun K9 hK9 => ?_
      refine rg ?_
      refine ⟨rfl, CallK.curI (h := l01Below_c _ _ _ (by omega) (by omega) 8 (by omega)) (fun x6_1 i6_1 s6_1 hx6_1 hi6_1 => ?_)⟩
      refine evd ?_
      refine hK9 _ ?_
      clear hK9 K9
      refine Wp.block ?_
      refine Wp.seqK fun K10 hK10 => ?_
      refine rg ?_
      refine hK10 _ ?_
      clear hK10 K10
      refine Wp.condS (fun h24 => ?_) (fun h24 => ?_)
      · refine rg ?_
        try simp only [thn, inB, if_true, reduceIte]
        exact hK8 ((saveR m).extract 0 k, _) _ (Nat.le_trans (ext_le _ _ _) (by omega)) anyS
      · refine Wp.seqK fun K11 hK11 => ?_
        refine rg ?_
        refine hK11 _ ?_
        clear hK11 K11
        refine Wp.condS (fun h29 => ?_) (fun h29 => ?_)
        · refine Wp.drawP [] [4, 5] [0, 1, 2, 3, 7, 8, 9, 4, 5, 6, 10, 11] rfl (by kernel_rfl) ?_
          refine evd ?_
          refine ⟨rfl, CallK.pickT (q := [⟨#[48]⟩, ⟨#[49]⟩, ⟨#[32]⟩, ⟨#[10]⟩, ⟨#[97]⟩, ⟨#[45]⟩]) (h := pickT_c _ _ _ (by omega) (by omega) [⟨#[48]⟩, ⟨#[49]⟩, ⟨#[32]⟩, ⟨#[10]⟩, ⟨#[97]⟩, ⟨#[45]⟩] (by simp)) (fun x10_5 i10_5 s10_5 hx10_5 hi10_5 => ?_)⟩
          have hx1 : x10_5.size ≤ 1 := one_of hx10_5 (by intro y hy; simp only [List.mem_cons, List.not_mem_nil, or_false] at hy; rcases hy with rfl | rfl | rfl | rfl | rfl | rfl <;> exact Nat.le_refl 1)
          have e1 := ext_le (saveR m) 0 k
          have e2 := ext_le (saveR m) k (saveR m).size
          refine evd ?_
          try simp only [thn, inB, if_true, reduceIte]
          exact hK8 (((saveR m).extract 0 k ++ x10_5) ++ (saveR m).extract k (saveR m).size, _) _ (by dsimp only; rw [size_app2, size_app2]; omega) anyS
        · refine Wp.seqK fun K12 hK12 => ?_
          refine rg ?_
          refine hK12 _ ?_
          clear hK12 K12
          refine Wp.condS (fun h42 => ?_) (fun h42 => ?_)
          · refine Wp.drawI [] [] (by kernel_rfl) ?_
            refine evd ?_
            have e1 := ext_le (saveR m) 0 k
            have e2 := ext_le (saveR m) (k + 1) (saveR m).size
            refine ⟨by omega, ?_⟩
            try simp only [thn, inB, if_true, reduceIte]
            exact hK8 ((saveR m).extract 0 k ++ (saveR m).extract (k + 1) (saveR m).size, _) _ (by dsimp only; rw [size_app2]; omega) anyS
          · refine Wp.skip ?_
            try simp only [thn, inB, if_true, reduceIte]
            exact hK8 (saveR m, _) _ (by dsimp only; omega) anyS
    rintro ⟨s2, o⟩ f8 hs2
    simp only [updT_k, updT_d, updT_d5, updT_v, updT_nil, Nat.reduceAdd]
    dsimp only at hs2 ⊢
    refine Wp.seqK fun K13 hK13 => ?_
    refine Wp.keepR 0 [] (by rw [hB]; simp) (by simp) (by simp) (by simp) ?_
    refine evd ?_
    refine rg ?_
    refine hK13 _ ?_
    clear hK13 K13
    refine Wp.ret (retTx hs2)
end Go.Proofs.YtbhlegobhidgkaaDoor.RE
