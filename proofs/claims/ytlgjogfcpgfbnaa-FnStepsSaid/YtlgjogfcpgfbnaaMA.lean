/- Machines that run: drawn, saved, stepped. Conditions: those that a theorem names. -/
import Derived.Test.YtlgjogfcpgfbnaaRV
import Derived.Test.YtlgjogfcpgfbnaaM1
import Derived.Test.YtlgjogfcpgfbnaaS1
import Derived.Test.YtlgjogfcpgfbnaaS4
import Derived.Test.YtlgjogfcpgfbnaaM0
import Derived.Test.YtlgjogfcpgfbnaaMB
/-! Bytes that are handed over, as bytes. Conditions: those that a theorem names. -/
set_option linter.unusedVariables false
set_option linter.unusedSimpArgs false
namespace Go.Proofs.Ytlgjogfcpgfbnaa.RE
open Go Go.RowKit Go.ChangeShapes Go.WideShapes Go.Deep
theorem opd_byte {P : Program} {W : World} {t : TypeId} (ht : P.underlying t = some (.int .u8)) : OpD P W t fun n : UInt8 => [DV.sc (.int .u8 (n.toNat : Int))] := by
  intro H enc base held fuel cs x h
  obtain ⟨n, rfl, _, hw⟩ := DataW.trod_int ht h
  have hr : 0 ≤ n ∧ n ≤ 255 := by
    simp only [Lit.wf, Bool.and_eq_true, decide_eq_true_eq] at hw
    exact hw
  have e : (UInt8.ofNat n.toNat).toNat = n.toNat := by
    simp only [UInt8.toNat_ofNat']
    omega
  refine ⟨UInt8.ofNat n.toNat, ?_⟩
  simp only [e, Int.toNat_of_nonneg hr.1]
  exact .cons (.sc _ rfl) .nil
end Go.Proofs.Ytlgjogfcpgfbnaa.RE
/-! The text of a key, plain. Conditions: those that a theorem names. -/
set_option linter.unusedVariables false
set_option linter.unusedSimpArgs false
namespace Go.Proofs.Ytlgjogfcpgfbnaa.RE
open Go Go.RowKit
set_option maxRecDepth 100000
set_option maxHeartbeats 8000000
/-! ### Its text -/
theorem keyB_plain {k : Nat} {o : ByteArray} (h : tabN k o) : plainB (keyB k o) = true := by
  unfold plainB
  rw [Bool.and_eq_true]
  refine ⟨decide_eq_true ?_, ?_⟩
  · rw [size_list, keyB_list]; simp; omega
  · rw [keyB_list]
    refine List.all_eq_true.2 fun b hb => ?_
    rcases List.mem_append.1 hb with hb | hb
    · rw [List.all_eq_true.1 (decL_dig _) b hb, Bool.or_true]
    · rcases List.mem_cons.1 hb with hb | hb
      · subst hb; rfl
      · rw [bit_digB (bitB_iff.2 (h.2 b hb)), Bool.or_true]
end Go.Proofs.Ytlgjogfcpgfbnaa.RE
/-! What a text of a machine is read as, plain. Conditions: those that a theorem names. -/
set_option linter.unusedVariables false
set_option linter.unusedSimpArgs false
namespace Go.Proofs.Ytlgjogfcpgfbnaa.RE
open Go Go.RowKit
set_option maxRecDepth 100000
set_option maxHeartbeats 8000000
/-! ### Pieces between bytes -/
def splB (c : UInt8) : List UInt8 → List (List UInt8)
  | [] => [[]]
  | b :: l => if b = c then [] :: splB c l else (splB c l).modifyHead (b :: ·)
theorem spl_ne (c : UInt8) : ∀ l, splB c l ≠ []
  | [] => by simp [splB]
  | b :: l => by
    rw [splB]
    split
    · simp
    · have := spl_ne c l
      cases h : splB c l with
      | nil => exact absurd h this
      | cons w r => simp
theorem spl_cut {c : UInt8} {l : List UInt8} : ∀ {w : List UInt8}, (∀ b ∈ w, b ≠ c) → splB c (w ++ c :: l) = w :: splB c l
  | [], _ => by simp [splB]
  | b :: w, h => by
    rw [List.cons_append, splB, if_neg (h b List.mem_cons_self), spl_cut fun x hx => h x (List.mem_cons_of_mem _ hx)]
    rfl
theorem spl_end {c : UInt8} : ∀ {w : List UInt8}, (∀ b ∈ w, b ≠ c) → splB c w = [w]
  | [], _ => rfl
  | b :: w, h => by
    rw [splB, if_neg (h b List.mem_cons_self), spl_end fun x hx => h x (List.mem_cons_of_mem _ hx)]
    rfl
theorem spl_lin : ∀ {L : List ByteArray}, (∀ x ∈ L, ∀ b ∈ x.data.toList, b ≠ 10) → splB 10 (linB L) = L.map (·.data.toList) ++ [[]]
  | [], _ => rfl
  | x :: L, h => by
    have e : linB (x :: L) = x.data.toList ++ 10 :: linB L := by simp [linB]
    rw [e, spl_cut (h x List.mem_cons_self), spl_lin fun y hy => h y (List.mem_cons_of_mem _ hy)]
    rfl
theorem spl_count {c : UInt8} : ∀ l : List UInt8, (splB c l).length = l.count c + 1
  | [] => rfl
  | b :: l => by
    rw [splB]
    split
    · rename_i h
      subst h
      rw [List.length_cons, spl_count l, List.count_cons_self]
    · rename_i h
      rw [List.length_modifyHead, spl_count l, List.count_cons_of_ne h]
def pcs (c : UInt8) (s : ByteArray) : List ByteArray := (splB c s.data.toList).map mkB
theorem pcs_lin {L : List ByteArray} (h : ∀ x ∈ L, ∀ b ∈ x.data.toList, b ≠ 10) : pcs 10 (mkB (linB L)) = L ++ [⟨#[]⟩] := by
  unfold pcs
  rw [mkB_list, spl_lin h, List.map_append, List.map_map]
  congr 1
  exact (List.map_congr_left (g := id) fun x _ => mkB_of x).trans (List.map_id L)
theorem pcs_one {c : UInt8} {w : List UInt8} (h : ∀ b ∈ w, b ≠ c) : pcs c (mkB w) = [mkB w] := by
  unfold pcs
  rw [mkB_list, spl_end h]; rfl
theorem pcs_two {c : UInt8} {w l : List UInt8} (h : ∀ b ∈ w, b ≠ c) : pcs c (mkB (w ++ c :: l)) = mkB w :: pcs c (mkB l) := by
  unfold pcs
  rw [mkB_list, mkB_list, spl_cut h]; rfl
/-! ### Words -/
def wordsP (line name : ByteArray) : List ByteArray := if (pcs 32 line).getD 0 ⟨#[]⟩ = name then (pcs 32 line).drop 1 else []
def wordP (l : List ByteArray) (k : Nat) : ByteArray := l.getD k ⟨#[]⟩
def lnP (s : ByteArray) (k : Nat) : ByteArray := (pcs 10 s).getD k ⟨#[]⟩
/-- Bytes that neither end a line nor a word. -/
def cl (b : UInt8) : Bool := b != 10 && b != 32
def clL (l : List UInt8) : Bool := l.all cl
theorem cl_ne {l : List UInt8} (h : clL l = true) : (∀ b ∈ l, b ≠ 10) ∧ ∀ b ∈ l, b ≠ 32 := by
  refine ⟨fun b hb => ?_, fun b hb => ?_⟩ <;> have := List.all_eq_true.1 h b hb <;> simp [cl] at this
  · exact this.1
  · exact this.2
theorem cl_dig {b : UInt8} (h : digB b = true) : cl b = true := by
  simp only [digB, Bool.and_eq_true, decide_eq_true_eq] at h
  unfold cl
  simp only [Bool.and_eq_true, bne_iff_ne]
  refine ⟨fun e => ?_, fun e => ?_⟩ <;> · subst e; revert h; decide
theorem all_cl {l : List UInt8} (h : l.all digB = true) : clL l = true := List.all_eq_true.2 fun b hb => cl_dig (List.all_eq_true.1 h b hb)
theorem decL_cl (n : Nat) : clL (decL n) = true := all_cl (decL_dig n)
theorem rowT_cl (r : List Bool) : clL (rowT r) = true := by
  unfold rowT
  split
  · rfl
  · refine List.all_eq_true.2 fun b hb => ?_
    obtain ⟨x, _, rfl⟩ := List.mem_map.1 hb
    cases x <;> rfl
theorem valsT_cl {v : List Int} (h : v.all bitI = true) : clL (valsT v) = true := by
  unfold valsT
  split
  · rfl
  · refine List.all_eq_true.2 fun b hb => ?_
    obtain ⟨x, hx, rfl⟩ := List.mem_map.1 hb
    have := bitI_le (List.all_eq_true.1 h x hx)
    exact cl_dig (dig_digB (by omega))
theorem retT_cl (n : Int) : clL (retT n) = true := by
  unfold retT
  split
  · rfl
  · exact decL_cl _
theorem clL_app {a b : List UInt8} (h1 : clL a = true) (h2 : clL b = true) : clL (a ++ b) = true := by
  unfold clL at *
  rw [List.all_append, h1, h2]; rfl
theorem tab_bits {n : Int} {o : ByteArray} (h : tableOk n o = true) : o.data.toList.all bitB = true := by
  unfold tableOk at h
  rw [Bool.and_eq_true] at h
  exact h.2
theorem keyB_cl {n : Int} {o : ByteArray} (h : tableOk n o = true) : clL (keyB n o).data.toList = true := by
  rw [keyB_list]
  refine clL_app (decL_cl _) ?_
  show (cl 58 && clL o.data.toList) = true
  rw [show clL o.data.toList = true from all_cl (List.all_eq_true.2 fun b hb => bit_digB (List.all_eq_true.1 (tab_bits h) b hb))]; rfl
theorem plain_cl {s : ByteArray} (h : plainB s = true) : clL s.data.toList = true := by
  unfold plainB at h
  rw [Bool.and_eq_true] at h
  refine List.all_eq_true.2 fun b hb => ?_
  have := List.all_eq_true.1 h.2 b hb
  rw [Bool.or_eq_true] at this
  rcases this with h | h
  · rw [beq_iff_eq] at h; subst h; rfl
  · exact cl_dig h
/-- A line of a name and one word, or three. -/
theorem words_one {nm w : List UInt8} (h1 : clL nm = true) (h2 : clL w = true) : pcs 32 (mkB (nm ++ 32 :: w)) = [mkB nm, mkB w] := by
  rw [pcs_two (cl_ne h1).2, pcs_one (cl_ne h2).2]
theorem words_two {nm w x : List UInt8} (h1 : clL nm = true) (h2 : clL w = true) (h3 : clL x = true) : pcs 32 (mkB (nm ++ 32 :: (w ++ 32 :: x))) = [mkB nm, mkB w, mkB x] := by
  rw [pcs_two (cl_ne h1).2, words_one h2 h3]
theorem words_three {nm w x y : List UInt8} (h1 : clL nm = true) (h2 : clL w = true) (h3 : clL x = true) (h4 : clL y = true) : pcs 32 (mkB (nm ++ 32 :: (w ++ 32 :: (x ++ 32 :: y)))) = [mkB nm, mkB w, mkB x, mkB y] := by
  rw [pcs_two (cl_ne h1).2, words_two h2 h3 h4]
def nRow : List UInt8 := [114, 111, 119]
def nTable : List UInt8 := [116, 97, 98, 108, 101]
def nRoom : List UInt8 := [114, 111, 111, 109]
def nVals : List UInt8 := [118, 97, 108, 115]
def nRet : List UInt8 := [114, 101, 116]
def nOver : List UInt8 := [111, 118, 101, 114]
def nCnt : List UInt8 := [99, 111, 117, 110, 116, 115]
def nSeen : List UInt8 := [115, 101, 101, 110]
theorem row_w (m : Mc) : pcs 32 (rowL m) = [mkB nRow, mkB (rowT m.row)] := by
  rw [show rowL m = mkB (nRow ++ 32 :: rowT m.row) from ba_ext (by unfold rowL; rw [bapp]; rfl), words_one rfl (rowT_cl _)]
theorem table_w {m : Mc} (h : tableOk m.n m.ones = true) : pcs 32 (tableL m) = [mkB nTable, keyB m.n m.ones] := by
  have e : tableL m = mkB (nTable ++ 32 :: (keyB m.n m.ones).data.toList) := ba_ext (by unfold tableL; rw [bapp, mkB_list]; rfl)
  rw [e, words_one rfl (keyB_cl h), mkB_of]
theorem room_w (m : Mc) : pcs 32 (roomL m) = [mkB nRoom, decB m.room] := by
  rw [show roomL m = mkB (nRoom ++ 32 :: decL m.room.toNat) from ba_ext (by unfold roomL; rw [bapp]; rfl), words_one rfl (decL_cl _)]; rfl
theorem vals_w {m : Mc} (h : m.vals.all bitI = true) : pcs 32 (valsL m) = [mkB nVals, mkB (valsT m.vals)] := by
  rw [show valsL m = mkB (nVals ++ 32 :: valsT m.vals) from ba_ext (by unfold valsL; rw [bapp]; rfl), words_one rfl (valsT_cl h)]
theorem ret_w (m : Mc) : pcs 32 (retL' m) = [mkB nRet, mkB (retT m.ret)] := by
  rw [show retL' m = mkB (nRet ++ 32 :: retT m.ret) from ba_ext (by unfold retL'; rw [bapp]; rfl), words_one rfl (retT_cl _)]
theorem over_w (m : Mc) : pcs 32 (overL m) = [mkB nOver, decB (b01 m.over)] := by
  rw [show overL m = mkB (nOver ++ 32 :: decL (b01 m.over).toNat) from ba_ext (by unfold overL; rw [bapp]; rfl), words_one rfl (decL_cl _)]; rfl
theorem cnt_w (m : Mc) : pcs 32 (cntL m) = [mkB nCnt, decB m.steps, decB m.looks, decB m.hits] := by
  have e : cntL m = mkB (nCnt ++ 32 :: (decL m.steps.toNat ++ 32 :: (decL m.looks.toNat ++ 32 :: decL m.hits.toNat))) := ba_ext (by
    unfold cntL decB sp
    rw [bapp, bapp, bapp, bapp, bapp]
    simp [mkB_list, nCnt])
  rw [e, words_three rfl (decL_cl _) (decL_cl _) (decL_cl _)]; rfl
theorem seen_w {s : Sn} (h : plainB s.key = true) : pcs 32 (seenL s) = [mkB nSeen, s.key, decB s.ret] := by
  have e : seenL s = mkB (nSeen ++ 32 :: (s.key.data.toList ++ 32 :: decL s.ret.toNat)) := ba_ext (by
    unfold seenL decB sp
    rw [bapp, bapp, bapp]
    simp [mkB_list, nSeen])
  rw [e, words_two rfl (plain_cl h) (decL_cl _), mkB_of]; rfl
/-- No line holds a line's end. -/
theorem w_no10 {l : ByteArray} {ws : List ByteArray} (h : ∀ b ∈ l.data.toList, b ≠ 10) : True := trivial
theorem app_no {a b : List UInt8} {c : UInt8} (h1 : ∀ x ∈ a, x ≠ c) (h2 : ∀ x ∈ b, x ≠ c) : ∀ x ∈ a ++ b, x ≠ c := fun x hx => by
  rcases List.mem_append.1 hx with h | h
  · exact h1 x h
  · exact h2 x h
theorem lines_ok {m : Mc} (hn : OkN m) (hp : allP m = true) : ∀ x ∈ saveL m, ∀ b ∈ x.data.toList, b ≠ 10 := by
  intro x hx
  unfold saveL headL at hx
  simp only [List.cons_append, List.nil_append, List.mem_cons, List.mem_map] at hx
  have d : ∀ n : Int, ∀ b ∈ (decB n).data.toList, b ≠ 10 := fun n => (cl_ne (decL_cl n.toNat)).1
  have s10 : ∀ b ∈ sp.data.toList, b ≠ 10 := by decide
  rcases hx with rfl | rfl | rfl | rfl | rfl | rfl | rfl | ⟨s, hs, rfl⟩
  · unfold rowL; rw [bapp]; exact app_no (by decide) (cl_ne (rowT_cl _)).1
  · unfold tableL; rw [bapp]; exact app_no (by decide) (cl_ne (keyB_cl hn.tab)).1
  · unfold roomL; rw [bapp]; exact app_no (by decide) (d _)
  · unfold valsL; rw [bapp]; exact app_no (by decide) (cl_ne (valsT_cl hn.va)).1
  · unfold retL'; rw [bapp]; exact app_no (by decide) (cl_ne (retT_cl _)).1
  · unfold overL; rw [bapp]; exact app_no (by decide) (d _)
  · unfold cntL; rw [bapp, bapp, bapp, bapp, bapp]; exact app_no (app_no (app_no (app_no (app_no (by decide) (d _)) s10) (d _)) s10) (d _)
  · unfold seenL; rw [bapp, bapp, bapp]; exact app_no (app_no (app_no (by decide) (cl_ne (plain_cl (List.all_eq_true.1 hp s hs))).1) s10) (d _)
theorem save_pcs {m : Mc} (hn : OkN m) (hp : allP m = true) : pcs 10 (saveT m) = saveL m ++ [⟨#[]⟩] := pcs_lin (lines_ok hn hp)
/-! ### What is read -/
def rowsOf (s : ByteArray) : List Bool := if s = ⟨#[45]⟩ then [] else s.data.toList.map fun b => b == 97
def rowOk (s : ByteArray) : Bool := decide (s ≠ ⟨#[]⟩ ∧ s.size ≤ 12) && decide (mkB (rowT (rowsOf s)) = s)
def rowQ (s : ByteArray) : List Bool := if rowOk s = true then rowsOf s else []
theorem rowP_ok {r : List Bool} (h : r.length ≤ 12) : rowOk (mkB (rowT r)) = true ∧ rowQ (mkB (rowT r)) = r := by
  have e : rowsOf (mkB (rowT r)) = r := by
    unfold rowsOf rowT
    by_cases h0 : r = []
    · subst h0; rfl
    · rw [if_neg h0, if_neg]
      · rw [mkB_list, List.map_map]
        exact (List.map_congr_left (g := id) fun x _ => by cases x <;> rfl).trans (List.map_id r)
      · intro e
        have := congrArg (fun b : ByteArray => b.data.toList) e
        simp only [mkB_list] at this
        cases r with
        | nil => exact h0 rfl
        | cons x r =>
          have h2 := congrArg (fun l => l.getD 0 0) this
          cases x <;> exact absurd h2 (by simp)
  have h1 : rowOk (mkB (rowT r)) = true := by
    unfold rowOk
    rw [e, decide_eq_true rfl, Bool.and_true, decide_eq_true]
    refine ⟨fun e => ?_, ?_⟩
    · have := congrArg ByteArray.size e
      rw [mkB_size] at this
      unfold rowT at this
      split at this
      · cases this
      · rename_i h0
        rw [List.length_map] at this
        exact h0 (List.eq_nil_of_length_eq_zero this)
    · rw [mkB_size]
      unfold rowT
      split
      · decide
      · simpa using h
  exact ⟨h1, by unfold rowQ; rw [if_pos h1, e]⟩
def bitsI (s : ByteArray) : List Int := (s.data.toList.filter fun b => b != 45).map fun b => (b.toNat : Int) - 48
def bitsS (s : ByteArray) : List Int := if s = ⟨#[45]⟩ then [] else s.data.toList.map fun b => (b.toNat : Int) - 48
theorem dig_val {x : Int} (h : bitI x = true) : ((dig x.toNat).toNat : Int) - 48 = x ∧ dig x.toNat ≠ 45 := by
  have := of_decide_eq_true h
  rcases this with h | h <;> subst h <;> decide
theorem bitsI_ok {v : List Int} (h : v.all bitI = true) : bitsI (mkB (valsT v)) = v := by
  unfold bitsI valsT
  rw [mkB_list]
  by_cases h0 : v = []
  · subst h0; rfl
  · rw [if_neg h0, List.filter_eq_self.2, List.map_map]
    · exact (List.map_congr_left (g := id) fun x hx => (dig_val (List.all_eq_true.1 h x hx)).1).trans (List.map_id v)
    · intro b hb
      obtain ⟨x, hx, rfl⟩ := List.mem_map.1 hb
      simpa using (dig_val (List.all_eq_true.1 h x hx)).2
theorem bitsS_ok {v : List Int} (h : v.all bitI = true) : bitsS (mkB (valsT v)) = v := by
  unfold bitsS valsT
  by_cases h0 : v = []
  · subst h0; rfl
  · rw [if_neg h0, if_neg, mkB_list, List.map_map]
    · exact (List.map_congr_left (g := id) fun x hx => (dig_val (List.all_eq_true.1 h x hx)).1).trans (List.map_id v)
    · intro e
      have := congrArg (fun b : ByteArray => b.data.toList) e
      simp only [mkB_list] at this
      cases v with
      | nil => exact h0 rfl
      | cons x r =>
        have h1 := (dig_val (List.all_eq_true.1 h x List.mem_cons_self)).2
        have h2 := congrArg (fun l => l.getD 0 0) this
        exact h1 h2
def mOneB : ByteArray := ⟨#[45, 49]⟩
def rtI (s : ByteArray) : Int := if s = mOneB then -1 else if (s.data.toList.all digB = true ∧ s.data.toList.length ≤ 10) ∧ mkB (decL (numV s.data.toList)) = s then numV s.data.toList else -2
def bigB : ByteArray := ⟨#[49, 48, 48, 48, 48, 48, 48, 48, 48, 48]⟩
def rtS (s : ByteArray) : Int := if s = mOneB then -1 else if s = bigB then 1000000000 else if numS s < 0 then -2 else numS s
theorem dec_ne (n : Nat) : mkB (decL n) ≠ mOneB := by
  intro e
  have h := decL_dig n
  have := congrArg (fun b : ByteArray => b.data.toList) e
  simp only [mkB_list] at this
  rw [this] at h
  revert h; decide
theorem rtI_dec {n : Nat} (h : n ≤ 1000000000) : rtI (mkB (decL n)) = n := by
  unfold rtI
  rw [if_neg (dec_ne n)]
  simp only [mkB_list, decL_num]
  rw [if_pos ⟨⟨decL_dig n, decL_len 9 n (by omega)⟩, trivial⟩]
theorem dec_inj {a b : Nat} (h : mkB (decL a) = mkB (decL b)) : a = b := by
  have := congrArg (fun b : ByteArray => numV b.data.toList) h
  simpa only [mkB_list, decL_num] using this
theorem decL_s {n : Nat} (h : ¬ n < 10) : decL n = decL (n / 10) ++ [dig (n % 10)] := by rw [decL, if_neg h]
theorem decL_0 {n : Nat} (h : n < 10) : decL n = [dig n] := by rw [decL, if_pos h]
theorem big_dec : mkB (decL 1000000000) = bigB := by
  rw [decL_s (by decide), decL_s (by decide), decL_s (by decide), decL_s (by decide), decL_s (by decide), decL_s (by decide), decL_s (by decide), decL_s (by decide), decL_s (by decide), decL_0 (by decide)]
  rfl
theorem rtS_dec {n : Nat} (h : n ≤ 1000000000) : rtS (mkB (decL n)) = n := by
  unfold rtS
  rw [if_neg (dec_ne n)]
  by_cases hb : n = 1000000000
  · subst hb
    rw [big_dec, if_pos rfl]; rfl
  · have hl : (decL n).length ≤ 9 := decL_len 8 n (by omega)
    have e := numS_mk (l := decL n) (decL_pos n) hl (decL_dig n) (by rw [decL_num])
    rw [decL_num] at e
    rw [if_neg (fun e => hb (dec_inj (e.trans big_dec.symm))), e, if_neg (by omega)]
theorem rtI_ret {n : Int} (h : -1 ≤ n ∧ n ≤ 1000000000) : rtI (mkB (retT n)) = n := by
  unfold retT
  split
  · rename_i h; subst h; rfl
  · rw [rtI_dec (by omega)]; omega
theorem rtS_ret {n : Int} (h : -1 ≤ n ∧ n ≤ 1000000000) : rtS (mkB (retT n)) = n := by
  unfold retT
  split
  · rename_i h; subst h; rfl
  · rw [rtS_dec (by omega)]; omega
theorem rtI_cnt {n : Int} (h : 0 ≤ n ∧ n ≤ 1000000000) : rtI (decB n) = n := by
  unfold decB
  rw [rtI_dec (by omega)]; omega
theorem rtS_cnt {n : Int} (h : 0 ≤ n ∧ n ≤ 1000000000) : rtS (decB n) = n := by
  unfold decB
  rw [rtS_dec (by omega)]; omega
theorem key_ok {n : Int} {o : ByteArray} (h : tableOk n o = true) : rkS (keyB n o) = true ∧ rkN (keyB n o) = n ∧ rkO (keyB n o) = o := by
  have hn : 0 ≤ n ∧ n ≤ 12 := by
    unfold tableOk tokA at h
    simp only [Bool.and_eq_true, decide_eq_true_eq] at h
    omega
  have hd := dec12 (k := n.toNat) (by omega)
  have hl : (keyB n o).size = (decL n.toNat).length + (1 + o.size) := by
    rw [size_list, keyB_list, List.length_append, List.length_cons, ← size_list]; omega
  have ha : atT (keyB n o) = (decL n.toNat).length := by
    refine at_find (by omega) (fun j hj => ?_) fun _ => ?_
    · rw [keyB_list, List.getD_eq_getElem?_getD, List.getElem?_append_left hj, List.getElem?_eq_getElem hj]
      intro e
      have := List.all_eq_true.1 (decL_dig n.toNat) _ (List.getElem_mem hj)
      simp only [Option.getD_some] at e
      rw [e] at this
      revert this; decide
    · rw [keyB_list, List.getD_eq_getElem?_getD, List.getElem?_append_right (Nat.le_refl _), Nat.sub_self]; rfl
  have e1 : (keyB n o).extract 0 (atT (keyB n o)) = mkB (decL n.toNat) := ba_ext (by
    rw [ext_list, keyB_list, ha, mkB_list]; simp)
  have e2 : rkO (keyB n o) = o := ba_ext (by
    unfold rkO
    rw [ext_list, hl, ha, keyB_list, show decL n.toNat ++ 58 :: o.data.toList = (decL n.toNat ++ [58]) ++ o.data.toList by simp]
    rw [List.drop_append, List.drop_of_length_le (by simp), List.nil_append]
    simp only [List.length_append, List.length_cons, List.length_nil, Nat.zero_add, Nat.sub_self, List.drop_zero]
    rw [List.take_of_length_le (by rw [← size_list]; omega)])
  have e3 : rkN (keyB n o) = n := by
    unfold rkN
    rw [e1, hd.2.1]; omega
  refine ⟨?_, e3, e2⟩
  unfold rkS rkOk
  rw [e3, e2, h, decide_eq_true rfl, decide_eq_true]
  · rfl
  · omega
/-- What a text is read as, by the program. -/
def snI (line : ByteArray) : Sn := ⟨wordP (wordsP line (mkB nSeen)) 0, rtI (wordP (wordsP line (mkB nSeen)) 1)⟩
def keyI (s : ByteArray) : ByteArray := wordP (wordsP (lnP s 1) (mkB nTable)) 0
def memoI (s : ByteArray) : List Sn := (((pcs 10 s).drop 7).take ((pcs 10 s).length - 8)).map snI
def mI (s : ByteArray) : Mc where
  row := rowQ (wordP (wordsP (lnP s 0) (mkB nRow)) 0)
  n := okN (rkS (keyI s)) (rkN (keyI s))
  ones := okO (rkS (keyI s)) (rkO (keyI s))
  room := rtI (wordP (wordsP (lnP s 2) (mkB nRoom)) 0)
  vals := bitsI (wordP (wordsP (lnP s 3) (mkB nVals)) 0)
  ret := rtI (wordP (wordsP (lnP s 4) (mkB nRet)) 0)
  over := decide (lnP s 5 = ⟨#[111, 118, 101, 114, 32, 49]⟩)
  steps := rtI (wordP (wordsP (lnP s 6) (mkB nCnt)) 0)
  looks := rtI (wordP (wordsP (lnP s 6) (mkB nCnt)) 1)
  hits := rtI (wordP (wordsP (lnP s 6) (mkB nCnt)) 2)
  memo := memoI s
def iC (s : ByteArray) : Bool := decide (s.size ≤ 400000 ∧ 8 ≤ (pcs 10 s).length)
def loadB (s : ByteArray) : Bool := iC s && (saveB (mI s) && decide (saveT (mI s) = s))
def loadM (s : ByteArray) : Mc := if loadB s = true then mI s else default
/-- What a text is read as, by the reference. -/
def wS (s : ByteArray) (i k : Nat) : ByteArray := (pcs 32 (lnP s i)).getD k ⟨#[]⟩
def snS (line : ByteArray) : Sn := ⟨(pcs 32 line).getD 1 ⟨#[]⟩, rtS ((pcs 32 line).getD 2 ⟨#[]⟩)⟩
def linesS (s : ByteArray) : List ByteArray := (pcs 10 s).take ((pcs 10 s).length - 1)
def mS (s : ByteArray) : Mc where
  row := rowQ (wS s 0 1)
  n := okN (rkS (wS s 1 1)) (rkN (wS s 1 1))
  ones := okO (rkS (wS s 1 1)) (rkO (wS s 1 1))
  room := rtS (wS s 2 1)
  vals := bitsS (wS s 3 1)
  ret := rtS (wS s 4 1)
  over := decide (wS s 5 1 = ⟨#[49]⟩)
  steps := rtS (wS s 6 1)
  looks := rtS (wS s 6 2)
  hits := rtS (wS s 6 3)
  memo := ((linesS s).drop 7).map snS
/-- How many words a line must have. -/
def wOk (i : Nat) (n : Nat) : Bool := decide (2 ≤ n ∧ (i = 6 → n = 4) ∧ (6 < i → n = 3))
def wsOk (l : List ByteArray) : Bool := (l.zipIdx).all fun p => wOk p.2 (pcs 32 p.1).length
def sC (s : ByteArray) : Bool := decide (s.size ≤ 400000 ∧ 7 ≤ (linesS s).length ∧ (linesS s).length ≤ 47) && (wsOk (linesS s) && (rowOk (wS s 0 1) && rkS (wS s 1 1)))
def loadBS (s : ByteArray) : Bool := sC s && (saveB (mS s) && decide (saveT (mS s) = s))
theorem saveB_n {m : Mc} (h : saveB m = true) : OkN m ∧ allP m = true ∧ ((saveT m).size : Int) ≤ 400000 := by
  unfold saveB at h
  simp only [Bool.and_eq_true, decide_eq_true_eq] at h
  exact ⟨mOk_n h.1, h.2.1, h.2.2⟩
theorem wordsP_of {line : ByteArray} {nm : List UInt8} {ws : List ByteArray} (h : pcs 32 line = mkB nm :: ws) : wordsP line (mkB nm) = ws := by
  unfold wordsP
  rw [h]
  exact if_pos rfl
theorem sn_eta (s : Sn) : (⟨s.key, s.ret⟩ : Sn) = s := rfl
theorem over_eq {b : Bool} : decide (overL { (default : Mc) with over := b } = ⟨#[111, 118, 101, 114, 32, 49]⟩) = b := by
  cases b
  · refine decide_eq_false fun e => ?_
    have := congrArg (fun b : ByteArray => b.data.toList) e
    revert this
    unfold overL decB
    simp only [bapp, mkB_list]
    rw [decL_0 (by decide)]; decide
  · refine decide_eq_true (ba_ext ?_)
    unfold overL decB
    simp only [bapp, mkB_list]
    rw [decL_0 (by decide)]; rfl
theorem mI_save {m : Mc} (h : saveB m = true) : iC (saveT m) = true ∧ mI (saveT m) = m := by
  obtain ⟨hn, hp, hs⟩ := saveB_n h
  have e := save_pcs hn hp
  have el : ∀ k x, (saveL m)[k]? = some x → lnP (saveT m) k = x := fun k x hk => by
    unfold lnP
    rw [e, List.getD_eq_getElem?_getD, List.getElem?_append_left (List.getElem?_eq_some_iff.1 hk).1, hk]; rfl
  have e0 := el 0 _ rfl
  have e1 := el 1 _ rfl
  have e2 := el 2 _ rfl
  have e3 := el 3 _ rfl
  have e4 := el 4 _ rfl
  have e5 := el 5 _ rfl
  have e6 := el 6 _ rfl
  have hk := key_ok hn.tab
  have hlen : (saveL m).length = 7 + m.memo.length := by simp [saveL, headL]; omega
  refine ⟨decide_eq_true ⟨by omega, by rw [e, List.length_append, hlen, List.length_cons, List.length_nil]; omega⟩, ?_⟩
  have hkey : keyI (saveT m) = keyB m.n m.ones := by
    unfold keyI
    rw [e1, wordsP_of (table_w hn.tab)]; rfl
  have hmemo : memoI (saveT m) = m.memo := by
    unfold memoI
    rw [e, List.length_append, hlen]
    have hd : List.drop 7 (saveL m ++ [(⟨#[]⟩ : ByteArray)]) = m.memo.map seenL ++ [⟨#[]⟩] := rfl
    rw [hd, List.length_cons, List.length_nil, show 7 + m.memo.length + (0 + 1) - 8 = (m.memo.map seenL).length by rw [List.length_map]; omega, List.take_left', List.map_map]
    · refine (List.map_congr_left (g := id) fun s hs => ?_).trans (List.map_id _)
      have hw := seen_w (List.all_eq_true.1 hp s hs)
      obtain ⟨i, hi, rfl⟩ := List.getElem_of_mem hs
      have hr := bitI_le (hn.mret i hi)
      rw [← getD_at hi] at hr
      show snI (seenL _) = _
      unfold snI
      rw [wordsP_of hw]
      show (⟨m.memo[i].key, rtI (decB m.memo[i].ret)⟩ : Sn) = m.memo[i]
      rw [rtI_cnt (by omega)]
    · rfl
  have hover : decide (overL m = ⟨#[111, 118, 101, 114, 32, 49]⟩) = m.over := over_eq (b := m.over)
  unfold mI
  rw [hkey, hk.1, hk.2.1, hk.2.2, hmemo, e0, e2, e3, e4, e5, e6, wordsP_of (row_w m), wordsP_of (room_w m), wordsP_of (vals_w hn.va), wordsP_of (ret_w m), wordsP_of (cnt_w m), hover]
  have hr := hn.ret
  have hroom := hn.room
  simp only [wordP, List.getD_cons_zero, List.getD_cons_succ, (rowP_ok hn.row).2, bitsI_ok hn.va, rtI_ret (n := m.ret) (by omega), rtI_cnt (n := m.room) (by omega), rtI_cnt hn.steps, rtI_cnt hn.looks, rtI_cnt hn.hits]
  rfl

theorem mS_save {m : Mc} (h : saveB m = true) : sC (saveT m) = true ∧ mS (saveT m) = m := by
  obtain ⟨hn, hp, hs⟩ := saveB_n h
  have e := save_pcs hn hp
  have el : ∀ k x, (saveL m)[k]? = some x → lnP (saveT m) k = x := fun k x hk => by
    unfold lnP
    rw [e, List.getD_eq_getElem?_getD, List.getElem?_append_left (List.getElem?_eq_some_iff.1 hk).1, hk]; rfl
  have e0 := el 0 _ rfl
  have e1 := el 1 _ rfl
  have e2 := el 2 _ rfl
  have e3 := el 3 _ rfl
  have e4 := el 4 _ rfl
  have e5 := el 5 _ rfl
  have e6 := el 6 _ rfl
  have hk := key_ok hn.tab
  have hlen : (saveL m).length = 7 + m.memo.length := by simp [saveL, headL]; omega
  have hl : linesS (saveT m) = saveL m := by
    unfold linesS
    rw [e, List.length_append, List.length_cons, List.length_nil, List.take_left']
    omega
  have w0 : wS (saveT m) 0 1 = mkB (rowT m.row) := by unfold wS; rw [e0, row_w]; rfl
  have w1 : wS (saveT m) 1 1 = keyB m.n m.ones := by unfold wS; rw [e1, table_w hn.tab]; rfl
  have w2 : wS (saveT m) 2 1 = decB m.room := by unfold wS; rw [e2, room_w]; rfl
  have w3 : wS (saveT m) 3 1 = mkB (valsT m.vals) := by unfold wS; rw [e3, vals_w hn.va]; rfl
  have w4 : wS (saveT m) 4 1 = mkB (retT m.ret) := by unfold wS; rw [e4, ret_w]; rfl
  have w5 : wS (saveT m) 5 1 = decB (b01 m.over) := by unfold wS; rw [e5, over_w]; rfl
  have w6 : wS (saveT m) 6 1 = decB m.steps ∧ wS (saveT m) 6 2 = decB m.looks ∧ wS (saveT m) 6 3 = decB m.hits := by unfold wS; rw [e6, cnt_w]; exact ⟨rfl, rfl, rfl⟩
  have hm := hn.memo
  have sw : ∀ s ∈ m.memo, pcs 32 (seenL s) = [mkB nSeen, s.key, decB s.ret] := fun s hs => seen_w (List.all_eq_true.1 hp s hs)
  have hws : wsOk (saveL m) = true := by
    refine List.all_eq_true.2 fun p hp => ?_
    obtain ⟨x, i⟩ := p
    rw [List.mem_zipIdx_iff_getElem?] at hp
    simp only at hp ⊢
    rcases i with _ | _ | _ | _ | _ | _ | _ | i
    · have : rowL m = x := by simpa [saveL, headL] using hp
      subst this; rw [row_w]; rfl
    · have : tableL m = x := by simpa [saveL, headL] using hp
      subst this; rw [table_w hn.tab]; rfl
    · have : roomL m = x := by simpa [saveL, headL] using hp
      subst this; rw [room_w]; rfl
    · have : valsL m = x := by simpa [saveL, headL] using hp
      subst this; rw [vals_w hn.va]; rfl
    · have : retL' m = x := by simpa [saveL, headL] using hp
      subst this; rw [ret_w]; rfl
    · have : overL m = x := by simpa [saveL, headL] using hp
      subst this; rw [over_w]; rfl
    · have : cntL m = x := by simpa [saveL, headL] using hp
      subst this; rw [cnt_w]; rfl
    · have : (m.memo.map seenL)[i]? = some x := hp
      rw [List.getElem?_map, Option.map_eq_some_iff] at this
      obtain ⟨s, hs, rfl⟩ := this
      rw [sw s (List.mem_of_getElem? hs)]
      exact decide_eq_true ⟨by simp, fun h => by omega, fun _ => rfl⟩
  refine ⟨?_, ?_⟩
  · unfold sC
    rw [hl, w0, w1, hws, (rowP_ok hn.row).1, hk.1, decide_eq_true ⟨by omega, by omega, by omega⟩]; rfl
  · have hmemo : ((linesS (saveT m)).drop 7).map snS = m.memo := by
      rw [hl]
      show (m.memo.map seenL).map snS = _
      rw [List.map_map]
      refine (List.map_congr_left (g := id) fun s hs => ?_).trans (List.map_id _)
      have hw := sw s hs
      obtain ⟨i, hi, rfl⟩ := List.getElem_of_mem hs
      have hr := bitI_le (hn.mret i hi)
      rw [← getD_at hi] at hr
      show snS (seenL _) = _
      unfold snS
      rw [hw]
      show (⟨m.memo[i].key, rtS (decB m.memo[i].ret)⟩ : Sn) = m.memo[i]
      rw [rtS_cnt (by omega)]
    have hover : decide (decB (b01 m.over) = ⟨#[49]⟩) = m.over := by
      cases m.over
      · refine decide_eq_false fun e => ?_
        have := congrArg (fun b : ByteArray => b.data.toList) e
        revert this
        unfold decB
        simp only [mkB_list]
        rw [decL_0 (by decide)]; decide
      · refine decide_eq_true (ba_ext ?_)
        unfold decB
        rw [decL_0 (by decide)]; rfl
    unfold mS
    have hr := hn.ret
    have hroom := hn.room
    rw [hmemo, w0, w1, w2, w3, w4, w5, w6.1, w6.2.1, w6.2.2, hover, hk.1, hk.2.1, hk.2.2, (rowP_ok hn.row).2, bitsS_ok hn.va, rtS_ret (n := m.ret) (by omega), rtS_cnt (n := m.room) (by omega), rtS_cnt hn.steps, rtS_cnt hn.looks, rtS_cnt hn.hits]
    rfl
theorem load_eq (s : ByteArray) : loadBS s = loadB s ∧ (loadB s = true → mS s = mI s) := by
  have h1 : loadB s = true → loadBS s = true ∧ mS s = mI s := fun h => by
    unfold loadB at h
    simp only [Bool.and_eq_true, decide_eq_true_eq] at h
    obtain ⟨_, h2, h3⟩ := h
    have := mS_save h2
    rw [h3] at this
    refine ⟨?_, this.2⟩
    unfold loadBS
    rw [this.1, this.2, h2, decide_eq_true h3]; rfl
  have h2 : loadBS s = true → loadB s = true := fun h => by
    unfold loadBS at h
    simp only [Bool.and_eq_true, decide_eq_true_eq] at h
    obtain ⟨_, h2, h3⟩ := h
    have := mI_save h2
    rw [h3] at this
    unfold loadB
    rw [this.1, this.2, h2, decide_eq_true h3]; rfl
  refine ⟨?_, fun h => (h1 h).2⟩
  rw [Bool.eq_iff_iff]
  exact ⟨h2, fun h => (h1 h).1⟩
theorem loadB_save {m : Mc} (h : saveB m = true) : loadB (saveT m) = true ∧ mI (saveT m) = m := by
  have := mI_save h
  refine ⟨?_, this.2⟩
  unfold loadB
  rw [this.1, this.2, h, decide_eq_true rfl]; rfl
end Go.Proofs.Ytlgjogfcpgfbnaa.RE
/-! A machine is drawn. Conditions: those that a theorem names. -/
set_option linter.unusedVariables false
set_option linter.unusedSimpArgs false
namespace Go.Proofs.Ytlgjogfcpgfbnaa.RE
open Go Go.RowKit
set_option maxRecDepth 100000
set_option maxHeartbeats 8000000

/-! ### Drawn: a number of a list that is handed over, too -/
def QPk (l q : List Int) : AV → Obs → Prop := fun r ob => ∃ (i2 h2 x : Int), (0 ≤ i2 ∧ i2 ≤ (l.length : Int)) ∧ x ∈ q ∧ r = I x ∧ ob = [some (cur l i2 h2), some ⟨0, q.map ci⟩]
theorem CallK.pickS {P : Program} {f : FuncId} {args : List AV} {st : St} {d : Option Tmp} {K : St → Prop} {l q : List Int} {i s : Int} {n : Nat} {r1 r2 : Option Ob} (h : CallsA P f [.l (.ptr 0 0 0), .l (.obj 1 0 1 0 q.length)] [some (cur l i s), some ⟨0, q.map ci⟩] (QPk l q))
    (kk : ∀ x i2 s2, x ∈ q → (0 ≤ i2 ∧ i2 ≤ (l.length : Int)) → K ⟨putT st.tm d (I x), [some (cur l i2 s2), r1, r2, some ⟨0, q.map ci⟩]⟩) (ho : st.ob = [some (cur l i s), r1, r2, some ⟨0, q.map ci⟩] := by rfl) (ha : args.map (AV.toC [0, 3] []) = [.l (.ptr 0 0 0), .l (.obj 1 0 1 0 q.length)] := by rfl) : CallK P f args st d K := by
  have hc : ∀ (mm : Nat → Nat → Option (Nat × Nat)) (i s : Int), (cur l i s).cs.map (LV.ren mm) = (cur l i s).cs := fun _ _ _ => rfl
  refine CallK.use (Q := QPk l q) [0, 3] [] ⟨by decide, fun s hs => by rw [ho]; simp only [List.mem_cons, List.not_mem_nil, or_false] at hs; simp; omega, by simp, by simp⟩ ?_ ?_
  · rw [ha, show obC [0, 3] st.ob = [some (cur l i s), some ⟨0, q.map ci⟩] by
      rw [ho]; simp only [obC, List.map_cons, List.map_nil, List.getD_cons_zero, List.getD_cons_succ, Option.map_some, hc, renI]]
    exact h
  · rintro r ob1 ⟨i2, s2, x, hi, hx, e1, e2⟩
    subst e1; subst e2
    refine ⟨by simp, .inl rfl, ?_⟩
    have e : ∀ (a b c d x y : Option Ob), obB [0, 3] [a, b, c, d] [x, y] = [x.map (Ob.ren (mB [0, 3] 4)), b, c, y.map (Ob.ren (mB [0, 3] 4))] := fun _ _ _ _ _ _ => rfl
    rw [ho, e]
    simp only [Option.map_some, Ob.ren, hc, renI]
    exact kk x i2 s2 hx hi
theorem pick_c (l : List Int) (i h : Int) (hi : 0 ≤ i ∧ i ≤ (l.length : Int)) (hl : l.length ≤ 1048576) (q : List Int) (hq : 1 ≤ q.length ∧ q.length ≤ 1000) : CallsA E.P 210 [.l (.ptr 0 0 0), .l (.obj 1 0 1 0 q.length)] [some (cur l i h), some ⟨0, q.map ci⟩] (QPk l q) := by
  refine CallsA.body (E := E) (fn := Try.f210) Try.func210 rfl fun B hB => ?_
  simp only [Try.ntmps210, go_sem, nl, Nat.reduceSub, Nat.reduceAdd, List.reduceReplicate]
  refine Wp.seqK fun K1 hK1 => ?_
  refine rg ?_
  refine hK1 _ ?_
  clear hK1 K1
  refine Wp.seqK fun K2 hK2 => ?_
  refine rg ?_
  refine ⟨rfl, CallK.curI (h := l01Below_c _ _ _ (by omega) (by omega) (q.length : Int) (by omega)) (fun x1_4 i1_4 s1_4 hx1_4 hi1_4 => ?_)⟩
  refine evd ?_
  refine hK2 _ ?_
  clear hK2 K2
  refine Wp.ret (retE (m := 2) (Q := QPk l q) (ob' := [some (cur l i1_4 s1_4), some ⟨0, q.map ci⟩]) ⟨i1_4, s1_4, _, by omega, mem_getD (d := 0) (show x1_4.toNat < q.length by omega), rfl, rfl⟩ rfl)

/-! ### Drawn: flags, a table -/
def QRow (l : List Int) (n : Nat) : AV → Obs → Prop := fun r ob => ∃ (i2 h2 : Int) (b : List Bool), (0 ≤ i2 ∧ i2 ≤ (l.length : Int)) ∧ b.length = n ∧ r = .l (.obj 1 0 1 0 n) ∧ ob = [some (cur l i2 h2), some ⟨0, b.map cb⟩]
theorem l08Row_c (l : List Int) (i h : Int) (hi : 0 ≤ i ∧ i ≤ (l.length : Int)) (hl : l.length ≤ 1048576) (n : Nat) (hn : n ≤ 1000) : CallsA E.P 207 [.l (.ptr 0 0 0), I (n : Int)] [some (cur l i h)] (QRow l n) := by
  refine CallsA.body (E := E) (fn := Try.f207) Try.func207 rfl fun B hB => ?_
  simp only [Try.ntmps207, go_sem, nl, Nat.reduceSub, Nat.reduceAdd, List.reduceReplicate]
  refine Wp.seqK fun K1 hK1 => ?_
  refine rg ?_
  refine hK1 _ ?_
  clear hK1 K1
  refine Wp.seqK fun K2 hK2 => ?_
  refine rg ?_
  refine hK2 _ ?_
  clear hK2 K2
  refine Wp.seqK fun K3 hK3 => ?_
  refine Wp.seqK fun K4 hK4 => ?_
  refine rg ?_
  refine hK4 _ ?_
  clear hK4 K4
  refine Wp.block ?_
  refine Wp.loopU (α := (Int × Int) × List Bool) (fun q => [.k, .k, .d, .d, .d, .v (.l (.obj 1 q.2.length 1 0 q.2.length)), .v (I (q.2.length : Int)), .d5, .d5, .d, .d]) (fun q => [some (cur l q.1.1 q.1.2), some ⟨q.2.length, q.2.map cb⟩]) (fun q => (0 ≤ q.1.1 ∧ q.1.1 ≤ (l.length : Int)) ∧ q.2.length ≤ n) (fun q => n - q.2.length) ((i, h), []) (⟨hi, Nat.zero_le _⟩) (anyS) ?_
  rintro q f5 K5 ⟨hq1, hq2⟩ hK5
  simp only [updT_k, updT_d, updT_d5, updT_v, updT_nil, Nat.reduceAdd]
  refine Wp.seqK fun K6 hK6 => ?_
  refine Wp.seqK fun K7 hK7 => ?_
  refine rg ?_
  refine hK7 _ ?_
  clear hK7 K7
  refine Wp.condS (fun h10 => ?_) (fun h10 => ?_)
  · refine Wp.skip ?_
    refine hK6 _ ?_
    clear hK6 K6
    refine Wp.seqK fun K8 hK8 => ?_
    refine Wp.block ?_
    refine rg ?_
    refine ⟨rfl, CallK.curT (h := l01Once_c _ _ _ (by omega) (by omega) 2 (by omega)) (fun x5_2 i5_2 s5_2 hx5_2 hi5_2 => ?_)⟩
    refine evd ?_
    try simp only [thn, inB, if_true, reduceIte]
    refine hK8 _ ?_
    clear hK8 K8
    refine Wp.keepR 2 [] (by rw [hB]; simp) (by simp) (by simp) (by simp) ?_
    refine evd ?_
    refine rg ?_
    exact hK5 ((i5_2, s5_2), q.2 ++ [x5_2]) _ ⟨hi5_2, by simp; omega⟩ (by simp; omega) (anyS (h := by simp; rfl) (ho := by simp [pushB]))
  · have hqn : q.2.length = n := by omega
    refine Wp.exit ?_
    try simp only [thn, inB, if_true, reduceIte]
    clear hK6 K6
    clear hK5 K5
    refine hK3 _ ?_
    clear hK3 K3
    refine Wp.seqK fun K9 hK9 => ?_
    refine rg ?_
    refine hK9 _ ?_
    clear hK9 K9
    subst hqn
    refine Wp.ret ⟨_, [1], rfl, by simp, by simp, by simp, q.1.1, q.1.2, q.2, hq1, rfl, ?_, ?_⟩
    · simp [AV.ren, lren_obj, keepM_l, keepX_cons, optO]
    · simp only [keepO, List.take_succ_cons, List.take_zero, List.map_cons, List.map_nil, List.cons_append, List.nil_append, List.getD_cons_succ, List.getD_cons_zero, Option.map_some, renB]
      rfl

theorem setU {l : List UInt8} {i : Nat} (h : i < l.length) (v : UInt8) : List.take i (l.map cu) ++ (LV.sc (.int .u8 (v.toNat : Int)) :: List.drop (i + 1) (l.map cu)) = (l.set i v).map cu := by
  rw [List.set_eq_take_append_cons_drop, if_pos h, List.map_append, List.map_cons, List.map_take, List.map_drop]
theorem bitU {y : Int} (h : y = 0 ∨ y = 1) : UInt8.ofNat (48 + y).toNat = 48 ∨ UInt8.ofNat (48 + y).toNat = 49 := by
  rcases h with h | h <;> subst h
  · exact .inl rfl
  · exact .inr rfl
theorem mkR_bits {L : List UInt8} (h : ∀ b ∈ L, b = 48 ∨ b = 49) (x : Nat) : ∀ b ∈ mkR (fun _ => (49 : UInt8)) L x, b = 48 ∨ b = 49 := by
  intro b hb
  unfold mkR at hb
  rcases List.mem_append.1 hb with hb | hb
  · obtain ⟨_, _, rfl⟩ := List.mem_map.1 hb; exact .inr rfl
  · exact h b (List.mem_of_mem_drop hb)
theorem half01 (n : Nat) : ((n : Int).tdiv 2).tmod 2 = 0 ∨ ((n : Int).tdiv 2).tmod 2 = 1 := by
  rw [Int.tdiv_eq_ediv_of_nonneg (by omega), Int.tmod_eq_emod_of_nonneg (by omega)]
  omega
theorem l06Table_c (l : List Int) (i h : Int) (hi : 0 ≤ i ∧ i ≤ (l.length : Int)) (hl : l.length ≤ 1048576) (n : Nat) (hn : n ≤ 12) : CallsA E.P 209 [.l (.ptr 0 0 0), I (n : Int)] [some (cur l i h)] (QCur l fun r => ∃ o, tabN n o ∧ r = .agg (tb (n : Int) o)) := by
  refine CallsA.body (E := E) (fn := Try.f209) Try.func209 rfl fun B hB => ?_
  simp only [Try.ntmps209, go_sem, nl, Nat.reduceSub, Nat.reduceAdd, List.reduceReplicate]
  have h12 : (2 : Int) ^ n ≤ 4096 := pw12' (by omega)
  have hpn : ((2 ^ n : Nat) : Int) = (2 : Int) ^ n := by simp
  have hnn : (n : Int).toNat = n := rfl
  refine Wp.seqK fun K1 hK1 => ?_
  refine rg ?_
  refine hK1 _ ?_
  clear hK1 K1
  refine Wp.seqK fun K2 hK2 => ?_
  refine rg ?_
  refine hK2 _ ?_
  clear hK2 K2
  refine Wp.seqK fun K3 hK3 => ?_
  refine rg ?_
  refine ⟨rfl, CallK.curI (h := l01Below_c _ _ _ (by omega) (by omega) 4 (by omega)) (fun x2_1 i2_1 s2_1 hx2_1 hi2_1 => ?_)⟩
  refine evd ?_
  refine hK3 _ ?_
  clear hK3 K3
  refine Wp.seqK fun K4 hK4 => ?_
  refine Wp.seqK fun K5 hK5 => ?_
  refine rg ?_
  refine hK5 _ ?_
  clear hK5 K5
  refine Wp.block ?_
  refine Wp.loopU (α := (Int × Int) × List UInt8) (fun q => [.k, .k, .d, .d, .k, .v (.l (.obj 2 q.2.length 1 0 q.2.length)), .k, .v (I (q.2.length : Int)), .d5, .d5, .d5, .d5, .d5, .d5, .d5, .d5, .d, .d, .d, .d]) (fun q => [some (cur l q.1.1 q.1.2), some ⟨0, tb 0 ⟨#[]⟩⟩, some ⟨q.2.length, q.2.map cu⟩]) (fun q => (0 ≤ q.1.1 ∧ q.1.1 ≤ (l.length : Int)) ∧ q.2.length ≤ 2 ^ n ∧ ∀ b ∈ q.2, b = 48 ∨ b = 49) (fun q => 2 ^ n - q.2.length) ((i2_1, s2_1), []) (⟨hi2_1, Nat.zero_le _, fun b hb => by cases hb⟩) (anyS) ?_
  rintro q f6 K6 ⟨hq1, hq2, hq3⟩ hK6
  simp only [updT_k, updT_d, updT_d5, updT_v, updT_nil, Nat.reduceAdd]
  simp only [tb]
  refine Wp.seqK fun K7 hK7 => ?_
  refine Wp.seqK fun K8 hK8 => ?_
  refine rg ?_
  refine ⟨rfl, CallK.valA (h := l01Pow2_c _ (by omega) (by omega)) (k := ?_)⟩
  refine evd ?_
  refine hK8 _ ?_
  clear hK8 K8
  refine Wp.condS (fun h16 => ?_) (fun h16 => ?_)
  · have hql : q.2.length < 2 ^ n := by omega
    have htd := tdiv2 q.2.length
    refine Wp.skip ?_
    refine hK7 _ ?_
    clear hK7 K7
    refine Wp.seqK fun K9 hK9 => ?_
    refine Wp.block ?_
    refine Wp.seqK fun K10 hK10 => ?_
    refine rg ?_
    refine ⟨rfl, CallK.curI (h := l01Below_c _ _ _ (by omega) (by omega) 2 (by omega)) (fun x6_1 i6_1 s6_1 hx6_1 hi6_1 => ?_)⟩
    refine evd ?_
    refine hK10 _ ?_
    clear hK10 K10
    refine Wp.seqU (α := (Int × Int) × Int) (fun y => [.k, .k, .d, .d, .k, .k, .k, .k, .v (I y.2), .d5, .d5, .d5, .d5, .d5, .d5, .d5, .d5, .d, .d, .d]) (fun y => [some (cur l y.1.1 y.1.2), some ⟨0, tb 0 ⟨#[]⟩⟩, some ⟨q.2.length, q.2.map cu⟩]) (fun y => (0 ≤ y.1.1 ∧ y.1.1 ≤ (l.length : Int)) ∧ (y.2 = 0 ∨ y.2 = 1)) (fun K11 hK11 => ?_) ?_
    · refine Wp.seqK fun K12 hK12 => ?_
      refine rg ?_
      refine hK12 _ ?_
      clear hK12 K12
      refine Wp.block ?_
      refine Wp.seqK fun K13 hK13 => ?_
      refine rg ?_
      refine hK13 _ ?_
      clear hK13 K13
      refine Wp.condS (fun h22 => ?_) (fun h22 => ?_)
      · refine rg ?_
        try simp only [thn, inB, if_true, reduceIte]
        exact hK11 ((i6_1, s6_1), ((q.2.length : Int).tdiv 2).tmod 2) _ ⟨by omega, half01 _⟩ (anyS)
      · refine Wp.seqK fun K14 hK14 => ?_
        refine rg ?_
        refine hK14 _ ?_
        clear hK14 K14
        refine Wp.condS (fun h27 => ?_) (fun h27 => ?_)
        · refine Wp.seqK fun K15 hK15 => ?_
          refine rg ?_
          refine ⟨rfl, CallK.curT (h := l01Once_c _ _ _ (by omega) (by omega) 2 (by omega)) (fun x11_1 i11_1 s11_1 hx11_1 hi11_1 => ?_)⟩
          refine evd ?_
          refine hK15 _ ?_
          clear hK15 K15
          refine Wp.condS (fun h30 => ?_) (fun h30 => ?_)
          · refine rg ?_
            try simp only [thn, inB, if_true, reduceIte]
            exact hK11 ((i11_1, s11_1), 0) _ ⟨by omega, .inl rfl⟩ (anyS)
          · refine Wp.skip ?_
            try simp only [thn, inB, if_true, reduceIte]
            exact hK11 ((i11_1, s11_1), x6_1) _ ⟨by omega, by omega⟩ (anyS)
        · refine Wp.skip ?_
          try simp only [thn, inB, if_true, reduceIte]
          exact hK11 ((i6_1, s6_1), x6_1) _ ⟨by omega, by omega⟩ (anyS)
    rintro y f11 ⟨hy1, hy2⟩
    simp only [updT_k, updT_d, updT_d5, updT_v, updT_nil, Nat.reduceAdd]
    simp only [tb]
    refine rg ?_
    try simp only [thn, inB, if_true, reduceIte]
    refine hK9 _ ?_
    clear hK9 K9
    refine Wp.keepR 3 [] (by rw [hB]; simp) (by simp) (by simp) (by simp) ?_
    refine evd ?_
    refine rg ?_
    exact hK6 (y.1, q.2 ++ [UInt8.ofNat (48 + y.2).toNat]) _ ⟨hy1, by simp; omega, fun b hb => by
      rcases List.mem_append.1 hb with hb | hb
      · exact hq3 b hb
      · rw [List.mem_singleton.1 hb]; exact bitU hy2⟩ (by simp; omega) (anyS (h := by simp; rfl) (ho := by simp [pushU']; rfl))
  · have hql : q.2.length = 2 ^ n := by omega
    refine Wp.exit ?_
    try simp only [thn, inB, if_true, reduceIte]
    clear hK7 K7
    clear hK6 K6
    refine hK4 _ ?_
    clear hK4 K4
    refine Wp.seqU (α := (Int × Int) × List UInt8) (fun z => [.d, .k, .d, .d, .k, .k, .d5, .d5, .d5, .d5, .d5, .d5, .d5, .d5, .d5, .d]) (fun z => [some (cur l z.1.1 z.1.2), some ⟨0, tb 0 ⟨#[]⟩⟩, some ⟨q.2.length, z.2.map cu⟩]) (fun z => (0 ≤ z.1.1 ∧ z.1.1 ≤ (l.length : Int)) ∧ z.2.length = 2 ^ n ∧ ∀ b ∈ z.2, b = 48 ∨ b = 49) (fun K16 hK16 => ?_) ?_
    · refine Wp.seqK fun K17 hK17 => ?_
      refine rg ?_
      refine ⟨rfl, CallK.curT (h := l01Once_c _ _ _ (by omega) (by omega) 8 (by omega)) (fun x14_1 i14_1 s14_1 hx14_1 hi14_1 => ?_)⟩
      refine evd ?_
      refine hK17 _ ?_
      clear hK17 K17
      refine Wp.condS (fun h38 => ?_) (fun h38 => ?_)
      · refine Wp.seqK fun K18 hK18 => ?_
        refine rg ?_
        refine hK18 _ ?_
        clear hK18 K18
        refine Wp.block ?_
        refine Wp.loopU (α := Nat) (fun x => [.d, .k, .d, .d, .k, .k, .d, .d, .d, .v (I x), .d5, .d5, .d5, .d5, .d5, .d5, .d5, .d5, .d, .d]) (fun x => [some (cur l i14_1 s14_1), some ⟨0, tb 0 ⟨#[]⟩⟩, some ⟨q.2.length, (mkR (fun _ => (49 : UInt8)) q.2 x).map cu⟩]) (fun x => x ≤ q.2.length) (fun x => q.2.length - x) 0 (Nat.zero_le _) (anyS (ho := by simp [mkR]; rfl)) ?_
        rintro x f19 K19 hx hK19
        simp only [updT_k, updT_d, updT_d5, updT_v, updT_nil, Nat.reduceAdd]
        simp only [tb]
        have hml := mkR_len (fun _ => (49 : UInt8)) q.2 hx
        refine Wp.seqK fun K20 hK20 => ?_
        refine Wp.seqK fun K21 hK21 => ?_
        refine rg ?_
        refine hK21 _ ?_
        clear hK21 K21
        refine Wp.condS (fun h42 => ?_) (fun h42 => ?_)
        · have hxl : x < q.2.length := by omega
          refine Wp.skip ?_
          refine hK20 _ ?_
          clear hK20 K20
          refine Wp.seqK fun K22 hK22 => ?_
          refine Wp.block ?_
          refine rg ?_
          rw [show (49 : Int) = ((49 : UInt8).toNat : Int) from rfl, setU (by rw [mkR_len _ _ (by omega)]; omega), mkR_set _ _ hxl]
          try simp only [thn, inB, if_true, reduceIte]
          refine hK22 _ ?_
          clear hK22 K22
          refine rg ?_
          exact hK19 (x + 1) _ hxl (by omega) anyS
        · have hxl : x = q.2.length := by omega
          refine Wp.exit ?_
          try simp only [thn, inB, if_true, reduceIte]
          clear hK20 K20
          clear hK19 K19
          exact hK16 ((i14_1, s14_1), mkR (fun _ => (49 : UInt8)) q.2 x) _ ⟨by omega, by rw [mkR_len _ _ (by omega)]; exact hql, mkR_bits hq3 x⟩ (anyS)
      · refine Wp.skip ?_
        exact hK16 ((i14_1, s14_1), q.2) _ ⟨by omega, hql, hq3⟩ (anyS)
    rintro z f16 ⟨hz1, hz2, hz3⟩
    simp only [updT_k, updT_d, updT_d5, updT_v, updT_nil, Nat.reduceAdd]
    simp only [tb]
    refine Wp.seqK fun K23 hK23 => ?_
    rw [show q.2.length = z.2.length by omega]
    refine rg ?_
    refine hK23 _ ?_
    clear hK23 K23
    refine Wp.ret (retCur (p := fun r => ∃ o, tabN n o ∧ r = .agg (tb (n : Int) o)) (hp := ⟨mkB z.2, ⟨by rw [mkB_size]; exact hz2, hz3⟩, ?_⟩) (hi := ?_))
    · rfl
    · omega

/-! ### A nil slice in a cell as an empty row of one's own -/
theorem All2.set_one {α β : Type} {R : α → β → Prop} {x y : α} (hxy : ∀ v, R x v → R y v) : ∀ {cs : List α} {vs : List β} (i : Nat), All2 R cs vs → cs[i]? = some x → All2 R (cs.set i y) vs
  | _, _, _, .nil, h => by simp at h
  | _, _, 0, .cons h1 h2, h => by
    have h : _ = x := Option.some.inj h
    subst h
    exact .cons (hxy _ h1) h2
  | _, _, i + 1, .cons h1 h2, h => .cons h1 (All2.set_one hxy i h2 h)
section
variable {P : Program} {B : Base} {Q : Exit → St → Prop} {st : St}
theorem Wp.nilCell {c : Code} (o i sz : Nat) {g : Nat} {cs : List LV} (ho : st.ob.getD o none = some ⟨g, cs⟩) (hi : cs[i]? = some .nils) (h : Wp P B c Q (⟨st.tm, (st.ob ++ [some (⟨0, []⟩ : Ob)]).set o (some (⟨g, cs.set i (.obj st.ob.length 0 sz 0 0)⟩ : Ob))⟩ : St)) : Wp P B c Q st := by
  rintro a w ⟨cx, hE, hM, hd, hlen, hv⟩
  obtain ⟨cx1, hE1, hM1, l, hl, hmp⟩ := nilRow_ok hM
  have ho0 := getD_some ho
  have ho1 : (st.ob ++ [some ⟨0, []⟩])[o]? = some (some ⟨g, cs⟩) := by rw [List.getElem?_append_left (List.getElem?_eq_some_iff.1 ho0).1]; exact ho0
  obtain ⟨lo, hlo, hrow⟩ := hM1.rep o _ ho1
  have hset := mem_setG (w' := w) (cs := cs.set i (.obj st.ob.length 0 sz 0 0)) hM1 ho1 hlo ⟨rfl, rfl, rfl, Nat.le_refl _, fun _ _ _ => rfl⟩ (fun hE' => by
    rcases hrow with ⟨hm, hroom, hth, vs, hrg, hall⟩ | ⟨_, hmr⟩
    · refine .inl ⟨hm, by simpa using hroom, hth, vs, hrg, All2.set_one (x := .nils) (fun v hv => ⟨?_, hv.2⟩) i hall hi⟩
      exact ⟨l, none, 0, hl, hv.1, Nat.le_refl _, by simp, fun h => absurd h (by simp), Nat.zero_le _, hmp⟩
    · exfalso
      obtain ⟨_, es, cl, hmr⟩ := hmr
      rw [show cs = [LV.mpc es cl] from hmr.1] at hi
      cases i with
      | zero => simp at hi
      | succ i => simp at hi)
  exact h a w ⟨cx1, (hE.trans hE1).trans hset.1, hset.2, hd, hlen, fun t => hset.1.va hM1 (hE1.va hM (hv t))⟩
end

/-! ### A machine starts -/
def st0 (r : List Bool) (n : Int) (o : ByteArray) (k : Int) : Mc := ⟨r, n, o, k, [], -1, false, 0, 0, 0, []⟩

theorem okj {r : List Bool} {n : Int} {o : ByteArray} (hr : rowedB r n o = true) (ho : o.size ≤ 1048576) : Val E.P 171 [dB r, .agg (tb n o)] (T true) := by
  have := l08Ok_c r n o ho
  rwa [hr] at this
theorem in40 {k : Int} (hk : 0 ≤ k ∧ k ≤ 40) : Val E.P 93 [I k, I 0, I 40] (T true) := by
  have := l01In_c k 0 40
  rwa [show (decide (0 ≤ k) && decide (k ≤ 40)) = true by simp; omega] at this
theorem sStart_c (r : List Bool) (n : Int) (o : ByteArray) (k : Int) (hr : rowedB r n o = true) (hk : 0 ≤ k ∧ k ≤ 40) (ho : o.size ≤ 1048576) (hl : r.length ≤ 1048576) : Ret E.P 208 [dB r, .agg (tb n o), I k] (.tup [.agg (mCells (.obj 0 0 1 0 r.length) .nils .nils (st0 r n o k)), TB true]) [some ⟨0, r.map cb⟩] := by
  refine CallsA.body (E := E) (fn := Try.f208) Try.func208 rfl fun B hB => ?_
  simp only [Try.ntmps208, go_sem, nl, Nat.reduceSub, Nat.reduceAdd, List.reduceReplicate]
  refine Wp.seqK fun K1 hK1 => ?_
  refine rg ?_
  refine hK1 _ ?_
  clear hK1 K1
  refine Wp.seqK fun K2 hK2 => ?_
  refine Wp.seqK fun K3 hK3 => ?_
  refine rg ?_
  refine ⟨rfl, CallK.valA (h := okj hr (by omega)) (k := ?_)⟩
  refine evd ?_
  refine ⟨rfl, CallK.valA (h := in40 hk) (k := ?_)⟩
  refine evd ?_
  refine hK3 _ ?_
  clear hK3 K3
  refine Wp.condS (fun h16 => ?_) (fun h16 => ?_)
  · exact absurd h16 (by decide)
  · refine Wp.skip ?_
    refine hK2 _ ?_
    clear hK2 K2
    refine Wp.seqK fun K4 hK4 => ?_
    refine Wp.drawP [0, 1] [0, 2] [1, 3, 4, 0, 2, 5, 6, 7] rfl (by kernel_rfl) ?_
    refine evd ?_
    refine hK4 _ ?_
    clear hK4 K4
    refine Wp.ret (retL [2] rfl (Nat.zero_le _) (by decide) (by simp) rfl ?_)
    simp only [keepO, List.take_zero, List.map_nil, List.nil_append, List.map_cons, List.getD_cons_zero, List.getD_cons_succ, Option.map_some, renB, renI, renS]

theorem st0_good {r : List Bool} {n : Nat} {o : ByteArray} {k : Int} (hn : n ≤ 6) (hr : r.length = n) (ht : tabN n o) (hk : 0 ≤ k ∧ k ≤ 40) : GoodM (st0 r n o k) where
  right := { n := ⟨by show (0 : Int) ≤ (n : Int); omega, by show (n : Int) ≤ 12; omega⟩, tab := by show tabN ((n : Int).toNat) o; rwa [Int.toNat_natCast], row := by show (r.length : Int) = n; omega, room := hk, memo := by show ((0 : Nat) : Int) ≤ k; omega, vals := by show ((0 : Nat) : Int) ≤ (n : Int); omega, va := rfl, ret := ⟨by show (-1 : Int) ≤ -1; omega, by show (-1 : Int) ≤ 1; omega⟩, over := (fun e => by cases e), mem := rfl, steps := ⟨by show (0 : Int) ≤ 0; omega, by show (0 : Int) ≤ 1000000000; omega⟩, looks := ⟨by show (0 : Int) ≤ 0; omega, by show (0 : Int) ≤ 1000000000; omega⟩, hits := ⟨by show (0 : Int) ≤ 0; omega, by show (0 : Int) ≤ 1000000000; omega⟩ }
  six := by show (n : Int) ≤ 6; omega
  memo := fun s hs => by cases hs
  ended := fun h => by exact absurd (show (0 : Int) ≤ -1 from h) (by omega)
  first := fun d hd => by exact absurd (show d < 0 from hd) (by omega)
theorem st0_cnt {r : List Bool} {n : Int} {o : ByteArray} {k : Int} : CntM (st0 r n o k) 0 := ⟨Int.le_refl _, Int.le_refl _, Int.le_refl _⟩
theorem rowed_ok {r : List Bool} {n : Nat} {o : ByteArray} (hn : n ≤ 12) (hr : r.length = n) (ht : tabN n o) : rowedB r n o = true := by
  unfold rowedB
  rw [Bool.and_eq_true]
  exact ⟨tab_iff.2 ⟨by omega, by rwa [Int.toNat_natCast]⟩, decide_eq_true (by omega)⟩
theorem CallK.rowD {P : Program} {f : FuncId} {args args' : List AV} {st : St} {d : Option Tmp} {K : St → Prop} {l : List Int} {i s : Int} {n : Nat} {rest : Obs} (h : CallsA P f args' [some (cur l i s)] (QRow l n))
    (k : ∀ (b : List Bool) i2 s2, b.length = n → (0 ≤ i2 ∧ i2 ≤ (l.length : Int)) → K ⟨putT st.tm d (.l (.obj st.ob.length 0 1 0 n)), some (cur l i2 s2) :: rest ++ [some ⟨0, b.map cb⟩]⟩) (ho : st.ob = some (cur l i s) :: rest := by rfl) (ha : args.map (AV.toC (List.range 1) []) = args' := by rfl) : CallK P f args st d K :=
  CallK.handE 1 h (fun r ob1 ⟨i2, s2, b, hi, hb, e1, e2⟩ => ⟨[some (cur l i2 s2)], [some ⟨0, b.map cb⟩], by rw [e2]; rfl, rfl, rfl, by
    have := k b i2 s2 hb hi
    rw [ho] at this ⊢
    rw [e1]
    simpa [AV.ren, LV.ren, shm, Ob.ren, map_flat (flatB b)] using this⟩) (by rw [ho]; rfl) ha rfl (by rw [ho]; simp)
def QStart (l : List Int) : AV → Obs → Prop := fun r ob => ∃ (i2 h2 : Int) (G : Gh) (m : Mc), (0 ≤ i2 ∧ i2 ≤ (l.length : Int)) ∧ GoodM m ∧ CntM m 0 ∧ r = .agg (mCl 1 2 3 G m) ∧ ob = some (cur l i2 h2) :: mRw G m
theorem l09Start_c (l : List Int) (i h : Int) (hi : 0 ≤ i ∧ i ≤ (l.length : Int)) (hl : l.length ≤ 1048576) : CallsA E.P 144 [.l (.ptr 0 0 0)] [some (cur l i h)] (QStart l) := by
  refine CallsA.body (E := E) (fn := Try.f144) Try.func144 rfl fun B hB => ?_
  simp only [Try.ntmps144, go_sem, nl, Nat.reduceSub, Nat.reduceAdd, List.reduceReplicate]
  refine Wp.seqK fun K1 hK1 => ?_
  refine rg ?_
  refine hK1 _ ?_
  clear hK1 K1
  refine Wp.seqK fun K2 hK2 => ?_
  refine rg ?_
  refine ⟨rfl, CallK.curI (h := l01Below_c _ _ _ (by omega) (by omega) 7 (by omega)) (fun x1_1 i1_1 s1_1 hx1_1 hi1_1 => ?_)⟩
  refine evd ?_
  obtain ⟨n, rfl⟩ : ∃ n : Nat, x1_1 = n := ⟨x1_1.toNat, by omega⟩
  refine hK2 _ ?_
  clear hK2 K2
  refine Wp.seqK fun K3 hK3 => ?_
  refine rg ?_
  refine ⟨rfl, CallK.rowD (h := l08Row_c _ _ _ (by omega) (by omega) n (by omega)) (fun b2_2 i2_2 s2_2 hb2_2 hi2_2 => ?_)⟩
  refine evd ?_
  refine hK3 _ ?_
  clear hK3 K3
  refine Wp.seqK fun K4 hK4 => ?_
  refine rg ?_
  refine ⟨rfl, CallK.cur0 (h := l06Table_c _ _ _ (by omega) (by omega) n (by omega)) (fun r3_3 i3_3 s3_3 ⟨o3_3, ht3_3, hr3_3⟩ hi3_3 => ?_) (fun r ⟨o, _, e⟩ => by rw [e]; rfl)⟩
  subst hr3_3
  refine evd ?_
  refine ⟨rfl, CallK.pickS (n := 0) (q := [0, 1, 3, 20]) (h := pick_c _ _ _ (by omega) (by omega) [0, 1, 3, 20] (by simp)) (fun x3_6 i3_6 s3_6 hx3_6 hi3_6 => ?_)⟩
  have hk3_6 : 0 ≤ x3_6 ∧ x3_6 ≤ 40 := by simp only [List.mem_cons, List.not_mem_nil, or_false] at hx3_6; omega
  refine evd ?_
  refine ⟨rfl, CallK.retA (h := sStart_c b2_2 n o3_3 x3_6 (rowed_ok (by omega) hb2_2 ht3_3) hk3_6 (by have := ht3_3.1; have : 2 ^ n ≤ 4096 := Nat.le_trans (Nat.pow_le_pow_right (n := 2) (by decide) (show n ≤ 12 by omega)) (by decide); omega) (by omega)) (k := ?_)⟩
  refine evd ?_
  refine hK4 _ ?_
  clear hK4 K4
  refine Wp.seqK fun K5 hK5 => ?_
  refine Wp.nilCell 5 4 1 rfl rfl ?_
  refine evd ?_
  refine Wp.nilCell 5 10 2 rfl rfl ?_
  refine evd ?_
  refine rg ?_
  refine hK5 _ ?_
  clear hK5 K5
  refine Wp.ret ⟨_, [4, 6, 7], rfl, by simp, by simp, by simp, i3_6, s3_6, ⟨0, 0, [], 0, []⟩, st0 b2_2 n o3_3 x3_6, by omega, st0_good (by omega) hb2_2 ht3_3 hk3_6, st0_cnt, ?_, ?_⟩
  · simp only [mCl, mCells, AV.ren, List.map_cons, List.map_nil, lren_obj, lren_sc, keepM_l, keepX_cons, keepX_nil]
    rfl
  · simp only [keepO, List.take_succ_cons, List.take_zero, List.map_cons, List.map_nil, List.cons_append, List.nil_append, List.getD_cons_succ, List.getD_cons_zero, Option.map_some, renB, renI]
    rfl
end Go.Proofs.Ytlgjogfcpgfbnaa.RE
/-! A machine that runs is drawn. Conditions: those that a theorem names. -/
set_option linter.unusedVariables false
set_option linter.unusedSimpArgs false
namespace Go.Proofs.Ytlgjogfcpgfbnaa.RE
open Go Go.RowKit
set_option maxRecDepth 100000
set_option maxHeartbeats 8000000

theorem row_len {m : Mc} (h : GoodM m) : m.row.length ≤ 6 := by
  have h1 := h.right.row
  have h2 := h.six
  omega
theorem true_key {row : List Bool} {s : Sn} (h : trueS row s) (h6 : row.length ≤ 6) : s.key.size ≤ 67 ∧ plainB s.key = true := by
  obtain ⟨k, o, e, hk, ht, _⟩ := h
  rw [e]
  refine ⟨?_, keyB_plain ht⟩
  have h1 := keyB_size (n := (k : Int)) o (by omega)
  have h2 : 2 ^ k ≤ 2 ^ 6 := Nat.pow_le_pow_right (by decide) (by omega)
  have h3 := ht.1
  have h4 : (2 : Nat) ^ 6 = 64 := rfl
  omega
theorem good_fits {m : Mc} (h : GoodM m) : m.Fits := by
  have h6 := row_len h
  have hr := h.right
  refine ⟨by omega, ?_, by have := hr.vals; have := h.six; omega, by have := hr.memo; have := hr.room; omega, fun s hs => ?_⟩
  · rw [hr.tab.1]
    have h2 : 2 ^ m.n.toNat ≤ 2 ^ 6 := Nat.pow_le_pow_right (by decide) (by have := h.six; omega)
    have h4 : (2 : Nat) ^ 6 = 64 := rfl
    omega
  · have := (true_key (h.memo s hs) h6).1
    omega
theorem seen_sum : ∀ {l : List Sn}, (∀ s ∈ l, bitI s.ret = true ∧ s.key.size ≤ 67) → (linB (l.map seenL)).length ≤ 100 * l.length
  | [], _ => Nat.le_refl _
  | s :: l, h => by
    have h1 := seen_sum (l := l) fun x hx => h x (List.mem_cons_of_mem _ hx)
    have h2 := h s List.mem_cons_self
    have h3 := (seenL_size h2.1).1
    rw [List.map_cons, linB_cons, List.length_append, List.length_append, ← size_list, List.length_cons]
    simp only [List.length_cons, List.length_nil]
    omega
theorem good_save {m : Mc} (h : GoodM m) : saveB m = true := by
  have h6 := row_len h
  have hok : mOk m = true := mOk_iff.2 h.right
  have hn := mOk_n hok
  unfold saveB
  rw [hok, Bool.true_and, Bool.and_eq_true]
  refine ⟨List.all_eq_true.2 fun s hs => (true_key (h.memo s hs) h6).2, decide_eq_true ?_⟩
  have h1 := seen_sum (l := m.memo) fun s hs => ⟨(mem_iff.1 h.right.mem).1 s hs, (true_key (h.memo s hs) h6).1⟩
  have h2 := head_len hn
  have h3 := hn.memo
  unfold saveT saveL
  rw [mkB_size, linB_app, List.length_append]
  omega
theorem run_n {m : Mc} {k : Nat} {i : Int} (h : RightM m) (hk : k ≤ 100000) (hi : i = k) : runN m i = runM k m := by
  unfold runN okR inI
  rw [hi, mOk_iff.2 h, if_pos (by simp; omega)]
  rfl
theorem iRun_m {m : Mc} {a b c : Nat} {i : Int} (h : GoodM m) (hb : b ≤ 100000) (hi : i = b) (hc : a + b = c) : Ret E.P 66 [.agg (mD (runM a m)), I i] (.agg (mO 0 1 2 (runM c m))) (mR (runM c m)) := by
  have := iRun_c (runM a m) i (good_fits (run_good a h))
  rwa [run_n (run_right a h.right) hb hi, ← runM_add, hc] at this
theorem sRun_m {m : Mc} {a b c : Nat} {i : Int} (h : GoodM m) (hb : b ≤ 100000) (hi : i = b) (hc : a + b = c) : CallsA E.P 67 [.agg (mD (runM a m)), I i] [] (QR (runM c m)) := by
  have := sRun_c (runM a m) i (good_fits (run_good a h))
  rwa [run_n (run_right a h.right) hb hi, ← runM_add, hc] at this
/-- A key of a memo, read, and its verdict. -/
theorem readKey_t {row : List Bool} {s : Sn} (h : trueS row s) (h6 : row.length ≤ 6) : ∃ (k : Nat) (o : ByteArray), k ≤ row.length ∧ o.size ≤ 64 ∧ Val E.P 21 [S s.key] (.tup [.agg (tb k o), TB true]) ∧ Val E.P 69 [dB (row.drop (row.length - k)), .agg (tb k o)] (.tup [TI s.ret, TB true]) := by
  obtain ⟨k, o, e, hk, ht, hv⟩ := h
  have hl : (row.drop (row.length - k)).length = k := by rw [List.length_drop]; omega
  refine ⟨k, o, hk, ?_, ?_, ?_⟩
  · rw [ht.1]
    have h2 : 2 ^ k ≤ 2 ^ 6 := Nat.pow_le_pow_right (by decide) (by omega)
    exact h2
  · have hb := key_ok (n := (k : Int)) (o := o) (tab_iff.2 ⟨by omega, by rwa [Int.toNat_natCast]⟩)
    have hsz := (true_key (s := s) ⟨k, o, e, hk, ht, hv⟩ h6).1
    have := iReadKey_c2 s.key (by omega)
    rw [e] at this
    rw [hb.1, hb.2.1, hb.2.2] at this
    rw [e]
    exact this
  · have := iDecide_c (row.drop (row.length - k)) o (by rw [hl]; exact ht) (by omega)
    rw [hv] at this
    rw [hl] at this
    exact this
/-! ### A machine in rows of one's own is lent, with a number -/
theorem argGI {ob : Obs} {L : Lend} {a b c : Nat} {G : Gh} {m : Mc} {n : Int} (e1 : ob.getD a none = some ⟨G.gr, m.row.map cb⟩) (e2 : ob.getD b none = some ⟨G.gv, (m.vals ++ G.jv).map ci⟩) (e3 : ob.getD c none = some ⟨G.gm, lS (G.pm ++ m.memo)⟩)
    (l1 : lk L a G.gr = some (encB m.row)) (l2 : lk L b G.gv = some (encI (m.vals ++ G.jv))) (l3 : lk L c G.gm = some (encS (G.pm ++ m.memo))) :
    ArgsL ob L [.agg (mCl a b c G m), I n] [.agg (mD m), I n] [(a, G.gr, encB m.row), (b, G.gv, encI (m.vals ++ G.jv)), (c, G.gm, encS (G.pm ++ m.memo))] := by
  refine .agg (.same rfl .nil) ?_
  unfold mCl mD mCells
  refine .row e1 (lB_encB _ false).symm (by rw [List.drop_zero, Nat.mul_one, List.take_of_length_le (by rw [encB_len]; exact Nat.le_refl _)]) l1 ?_
  refine .same rfl (.same rfl (.same rfl ?_))
  refine .row e2 (lI_encI _ false).symm (by rw [List.drop_zero, Nat.mul_one, encV_take]) l2 ?_
  refine .same rfl (.same rfl (.same rfl (.same rfl (.same rfl ?_))))
  refine .row e3 (lS_encS _ false).symm (by rw [encM_mid]) l3 ?_
  exact .nil
theorem mRw_flat (G : Gh) (m : Mc) : obFlat (mRw G m) = true := by
  simp only [mRw, obFlat, List.all_cons, List.all_nil, flatI, flatB, lS_flat, Bool.and_true]
theorem mCl_sh {n : Nat} (G : Gh) (m : Mc) : (AV.agg (mCl 0 1 2 G m)).ren (sh n) = .agg (mCl n (n + 1) (n + 2) G m) := by
  simp only [mCl, mCells, AV.ren, List.map_cons, List.map_nil, lren_obj, lren_sc, sh, Nat.add_zero]
  rfl
theorem CallK.machQ {P : Program} {f : FuncId} {args args' : List AV} {st : St} {d : Option Tmp} {K : St → Prop} {L : Lend} {m' : Mc} (h : CallsA P f args' [] (QR m')) (ha : ArgsL st.ob L args args' L) (k : ∀ G, K ⟨putT st.tm d (.agg (mCl st.ob.length (st.ob.length + 1) (st.ob.length + 2) G m')), st.ob ++ mRw G m'⟩) : CallK P f args st d K :=
  CallK.use (Q := QR m') [] L ha.lend (by rw [ha.map]; exact h) fun r ob1 ⟨G, e1, e2⟩ => by
    subst e1; subst e2
    refine ⟨Nat.zero_le _, .inr ⟨rfl, obFlat_noB (mRw_flat G m')⟩, ?_⟩
    rw [obB_nil, obFlat_ren (mRw_flat G m'), mB_nil, mCl_sh]
    exact k G
theorem CallK.startD {P : Program} {f : FuncId} {args args' : List AV} {st : St} {d : Option Tmp} {K : St → Prop} {l : List Int} {i s : Int} {rest : Obs} (h : CallsA P f args' [some (cur l i s)] (QStart l))
    (k : ∀ (G : Gh) (m : Mc) i2 s2, GoodM m → CntM m 0 → (0 ≤ i2 ∧ i2 ≤ (l.length : Int)) → K ⟨putT st.tm d (.agg (mCl (rest.length + 1) (rest.length + 2) (rest.length + 3) G m)), some (cur l i2 s2) :: (rest ++ mRw G m)⟩) (ho : st.ob = some (cur l i s) :: rest := by rfl) (ha : args.map (AV.toC (List.range 1) []) = args' := by rfl) : CallK P f args st d K :=
  CallK.handE 1 h (fun r ob1 ⟨i2, s2, G, m, hi, hg, hc, e1, e2⟩ => ⟨[some (cur l i2 s2)], mRw G m, by rw [e2]; rfl, rfl, rfl, by
    have := k G m i2 s2 hg hc hi
    rw [ho, e1, obFlat_ren (mRw_flat G m)]
    have e : AV.ren (shm 1 (some (cur l i s) :: rest).length) (.agg (mCl 1 2 3 G m)) = .agg (mCl (rest.length + 1) (rest.length + 2) (rest.length + 3) G m) := by
      simp only [mCl, mCells, AV.ren, List.map_cons, List.map_nil, lren_obj, lren_sc, shm, List.length_cons]
      simp [optO, Nat.add_comm, Nat.add_assoc, Nat.add_left_comm]
    rw [e]
    exact this⟩) (by rw [ho]; rfl) ha rfl (by rw [ho]; simp)
def QD : AV → Obs → Prop := fun r ob => ∃ G m, GoodM m ∧ CntM m 60 ∧ r = .agg (mCl 0 1 2 G m) ∧ ob = mRw G m
theorem CallK.machD {P : Program} {f : FuncId} {args args' : List AV} {st : St} {d : Option Tmp} {K : St → Prop} (h : CallsA P f args' [] QD) (k : ∀ G m, GoodM m → CntM m 60 → K ⟨putT st.tm d (.agg (mCl st.ob.length (st.ob.length + 1) (st.ob.length + 2) G m)), st.ob ++ mRw G m⟩) (ha : args.map (AV.toC [] []) = args' := by rfl) : CallK P f args st d K :=
  CallK.use (Q := QD) [] [] LendOk.nil (by rw [ha]; exact h) fun r ob1 ⟨G, m, hg, hc, e1, e2⟩ => by
    subst e1; subst e2
    refine ⟨Nat.zero_le _, .inr ⟨rfl, obFlat_noB (mRw_flat G m)⟩, ?_⟩
    rw [obB_nil, obFlat_ren (mRw_flat G m), mB_nil, mCl_sh]
    exact k G m hg hc
theorem retQD {st : St} {fn : Func} {m : Mc} {G : Gh} {a b c : Nat} (π : List Nat) (hg : GoodM m) (hk : CntM m 60) (ha : st.ob.getD a none = some ⟨G.gr, m.row.map cb⟩) (hb : st.ob.getD b none = some ⟨G.gv, (m.vals ++ G.jv).map ci⟩) (hc : st.ob.getD c none = some ⟨G.gm, lS (G.pm ++ m.memo)⟩)
    (h : resA st.tm st.ob E fn.results.toList = some (.agg (mCl a b c G m)) := by rfl) (hπ : π = [a, b, c] := by rfl) (hd : π.Nodup := by decide) : retQ E fn 0 QD .ret st := by
  subst hπ
  have hab : a ≠ b ∧ a ≠ c ∧ b ≠ c := by simp at hd; omega
  refine ⟨_, [a, b, c], h, Nat.zero_le _, hd, by simp, ⟨0, 0, G.jv, 0, G.pm⟩, m, hg, hk, ?_, ?_⟩
  · simp only [mCl, mCells, AV.ren, List.map_cons, List.map_nil, lren_obj, lren_sc, keepM_l, keepX_cons, keepX_nil, ha, hb, hc]
    simp [hab, hab.1.symm, hab.2.1.symm, hab.2.2.symm, optO]
  · unfold keepO
    simp only [List.take_zero, List.map_nil, List.nil_append, List.map_cons, ha, hb, hc, Option.map_some, renB, renI, renS]
    rfl
theorem cnt_le {m : Mc} {a b : Int} (h : CntM m a) (hab : a ≤ b) : CntM m b := ⟨Int.le_trans h.steps hab, Int.le_trans h.looks hab, Int.le_trans h.hits hab⟩
theorem CallK.newC {P : Program} {f : FuncId} {args args' : List AV} {st : St} {d : Option Tmp} {K : St → Prop} {l : List Int} (h : CallsA P f args' [] (fun r ob => ∃ h : Int, r = .l (.ptr 0 0 0) ∧ ob = [some (cur l 0 h)]))
    (k : ∀ s : Int, K ⟨putT st.tm d (.l (.ptr st.ob.length 0 0)), st.ob ++ [some (cur l 0 s)]⟩) (ha : args.map (AV.toC (List.range 0) []) = args' := by rfl) : CallK P f args st d K :=
  CallK.handE 0 (obm := []) h (fun r ob1 ⟨s, e1, e2⟩ => ⟨[], [some (cur l 0 s)], e2, rfl, rfl, by
    have := k s
    rw [e1]
    simpa [AV.ren, LV.ren, shm, Ob.ren] using this⟩) rfl ha rfl (Nat.zero_le _)
theorem draw_c (l : List Int) (hl : l.length ≤ 1048576) : CallsA E.P 65 [dY l] [] QD := by
  refine CallsA.body (E := E) (fn := Try.f65) Try.func65 rfl fun B hB => ?_
  simp only [Try.ntmps65, go_sem, nl, Nat.reduceSub, Nat.reduceAdd, List.reduceReplicate]
  refine Wp.seqK fun K1 hK1 => ?_
  refine rg ?_
  refine hK1 _ ?_
  clear hK1 K1
  refine Wp.seqK fun K2 hK2 => ?_
  refine rg ?_
  refine ⟨rfl, CallK.newC (h := l01New_c l hl) (fun s1_1 => ?_)⟩
  refine evd ?_
  refine hK2 _ ?_
  clear hK2 K2
  refine Wp.seqK fun K3 hK3 => ?_
  refine Wp.keepR 0 [1, 0] (by rw [hB]; simp) (by simp) (by decide) (by simp) ?_
  refine evd ?_
  refine rg ?_
  refine ⟨rfl, CallK.startD (h := l09Start_c l 0 s1_1 (by omega) hl) (fun G m i2_1 s2_1 hg hc hi2_1 => ?_)⟩
  refine evd ?_
  refine ⟨rfl, CallK.curI (h := l01Below_c _ _ _ (by omega) (by omega) 60 (by omega)) (fun x2_3 i2_3 s2_3 hx2_3 hi2_3 => ?_)⟩
  refine evd ?_
  obtain ⟨n, rfl⟩ : ∃ n : Nat, x2_3 = n := ⟨x2_3.toNat, by omega⟩
  refine ⟨rfl, CallK.machQ (h := sRun_m (a := 0) (b := n) (c := n) (m := m) hg (by omega) rfl (by omega)) (ha := argGI (G := G) (m := m) (a := 2) (b := 3) (c := 4) rfl rfl rfl (by simp [lk]) (by simp [lk]) (by simp [lk])) (fun G2 => ?_)⟩
  refine evd ?_
  refine hK3 _ ?_
  clear hK3 K3
  refine Wp.ret (retQD (G := G2) (m := runM n m) (a := 5) (b := 6) (c := 7) [5, 6, 7] (run_good n hg) (cnt_le (run_cnt n hc) (by omega)) rfl rfl rfl)

/-! ### Bytes -/
def atY (l : List Int) (k : Int) : Int := if k < (l.length : Int) then IntKind.i64.wrap (l.getD k.toNat 0) else (k * 7 + l.length).tmod 256
theorem atY_nn {l : List Int} {k : Int} (hk : 0 ≤ k) (h : ∀ x ∈ l, 0 ≤ x ∧ x ≤ 255) : 0 ≤ atY l k := by
  unfold atY
  split
  · have h1 := h _ (mem_getD (l := l) (i := k.toNat) (d := 0) (by omega))
    rw [wr (by omega) (by omega)]
    exact h1.1
  · exact Int.tmod_nonneg _ (by omega)
theorem rem_nat {a b : Int} (ha : 0 ≤ a) (hb : 0 < b) : ∃ n : Nat, a.tmod b = n ∧ (n : Int) < b := by
  have h1 := Int.tmod_nonneg b ha
  have h2 := Int.tmod_lt_of_pos a hb
  exact ⟨(a.tmod b).toNat, by omega, by omega⟩
theorem atY_c (l : List Int) (k : Int) (hk : 0 ≤ k ∧ k ≤ 1000) (hl : l.length ≤ 1048576) : Val E.P 59 [dY l, I k] (I (atY l k)) := by
  refine CallsA.body (E := E) (fn := Try.f59) Try.func59 rfl fun B hB => ?_
  simp only [Try.ntmps59, go_sem, nl, Nat.reduceSub, Nat.reduceAdd, List.reduceReplicate]
  refine Wp.seqK fun K1 hK1 => ?_
  refine rg ?_
  refine hK1 _ ?_
  clear hK1 K1
  refine Wp.seqK fun K2 hK2 => ?_
  refine Wp.seqK fun K3 hK3 => ?_
  refine rg ?_
  refine hK3 _ ?_
  clear hK3 K3
  refine Wp.condS (fun h8 => ?_) (fun h8 => ?_)
  · have e : atY l k = IntKind.i64.wrap (l.getD k.toNat 0) := if_pos (by omega)
    refine Wp.seqK fun K4 hK4 => ?_
    refine rg ?_
    refine hK4 _ ?_
    clear hK4 K4
    refine Wp.ret (retV ?_)
    try simp only [List.getD_cons_zero, List.getD_cons_succ]
    rw [e]
  · have e : atY l k = (k * 7 + l.length).tmod 256 := if_neg (by omega)
    refine Wp.skip ?_
    refine hK2 _ ?_
    clear hK2 K2
    refine Wp.seqK fun K5 hK5 => ?_
    refine rg ?_
    refine hK5 _ ?_
    clear hK5 K5
    refine Wp.ret (retV ?_)
    try simp only [List.getD_cons_zero, List.getD_cons_succ]
    rw [e]
theorem bigB_c (l : List Int) : Val E.P 57 [dY l] (T (decide (1048576 < (l.length : Int)))) := by
  refine CallsA.body (E := E) (fn := Try.f57) Try.func57 rfl fun B hB => ?_
  simp only [Try.ntmps57, go_sem, nl, Nat.reduceSub, Nat.reduceAdd, List.reduceReplicate]
  refine Wp.seqK fun K1 hK1 => ?_
  refine rg ?_
  refine hK1 _ ?_
  clear hK1 K1
  refine Wp.seqK fun K2 hK2 => ?_
  refine rg ?_
  refine hK2 _ ?_
  clear hK2 K2
  refine Wp.ret (retV ?_)
  try simp only [List.getD_cons_zero, List.getD_cons_succ]
  try rfl
end Go.Proofs.Ytlgjogfcpgfbnaa.RE
/-! FnSteps. Conditions: those that a theorem names. -/
set_option linter.unusedVariables false
set_option linter.unusedSimpArgs false
namespace Go.Proofs.Ytlgjogfcpgfbnaa.RE
open Go Go.RowKit
set_option maxRecDepth 100000
set_option maxHeartbeats 8000000

theorem iSave_g {m : Mc} (h : GoodM m) : Val E.P 55 [.agg (mD m)] (.tup [.l (.sc (.string (saveT m))), TB true]) := by
  have := iSave_c m (good_fits h)
  unfold saveR at this
  rwa [good_save h, if_pos rfl] at this
theorem sSave_g {m : Mc} (h : GoodM m) : Val E.P 53 [.agg (mD m)] (.tup [.l (.sc (.string (saveT m))), TB true]) := by
  have := sSave_c m (good_fits h)
  unfold saveR at this
  rwa [good_save h, if_pos rfl] at this
theorem iOk_g {m : Mc} (h : GoodM m) : Val E.P 68 [.agg (mD m)] (T true) := by
  have := iMachineOk_c m (good_fits h)
  rwa [mOk_iff.2 h.right] at this
theorem iStep_o {m : Mc} (h : GoodM m) (ho : m.over = true) : Ret E.P 71 [.agg (mD m)] (.agg (mO 0 1 2 m)) (mR m) := by
  have := iStep_c m (good_fits h)
  rw [run_n (k := 1) (i := 1) h.right (by omega) rfl] at this
  rwa [show runM 1 m = m from over_step ho] at this
theorem five_over {m : Mc} {n : Nat} (h : GoodM m) (hc : CntM m 60) (hn : (n : Int) < 40) : (runM (n + 5000) m).over = true := by
  rw [runM_add]
  refine run_over 5000 (run_right n h.right) (run_cnt n hc) (by omega) ?_
  have := mu_six (run_right n h.right) (run_good n h).six
  omega

theorem argsB (a j : Nat) (b : List Bool) (n : Int) (o : ByteArray) : [AV.l (.obj a 0 1 j (b.length - j)), .agg [.sc (.int .i64 n), .sc (.string o)]].map (AV.toC [] [(a, 0, encB b)]) = [dB (b.drop j), .agg (tb n o)] := by
  have h1 : lk [(a, 0, encB b)] a 0 = some (encB b) := by simp [lk]
  have e : List.take ((b.length - j) * 1) (List.drop j (encB b)) = encB (b.drop j) := by
    unfold encB
    rw [Nat.mul_one, ← List.map_drop, List.take_of_length_le (by simp)]
  simp only [List.map_cons, List.map_nil, AV.toC, LV.toC, h1, e, dB, List.length_drop]
  rfl
theorem lawSteps_c (l : List Int) (hlen : (l.length : Int) ≤ 9223372036854775807) (hb : ∀ x ∈ l, 0 ≤ x ∧ x ≤ 255) : Val E.P 17 [dY l] (T true) := by
  refine CallsA.body (E := E) (fn := Try.f17) Try.func17 rfl fun B hB => ?_
  simp only [Try.ntmps17, go_sem, nl, Nat.reduceSub, Nat.reduceAdd, List.reduceReplicate]
  refine Wp.seqK fun K1 hK1 => ?_
  refine rg ?_
  refine hK1 _ ?_
  clear hK1 K1
  refine Wp.seqK fun K2 hK2 => ?_
  refine Wp.seqK fun K3 hK3 => ?_
  refine rg ?_
  refine ⟨rfl, CallK.valA (h := bigB_c _) (k := ?_)⟩
  refine evd ?_
  refine hK3 _ ?_
  clear hK3 K3
  refine Wp.condS (fun h25 => ?_) (fun h25 => ?_)
  · refine Wp.seqK fun K4 hK4 => ?_
    refine rg ?_
    refine hK4 _ ?_
    clear hK4 K4
    refine Wp.ret (retV ?_)
    try simp only [List.getD_cons_zero, List.getD_cons_succ]
    try rfl
  · have hl : l.length ≤ 1048576 := by omega
    refine Wp.skip ?_
    refine hK2 _ ?_
    clear hK2 K2
    refine Wp.seqK fun K5 hK5 => ?_
    refine rg ?_
    refine ⟨rfl, CallK.machD (h := draw_c l hl) (fun G m hg hc => ?_)⟩
    refine evd ?_
    refine hK5 _ ?_
    clear hK5 K5
    refine Wp.seqK fun K6 hK6 => ?_
    refine rg ?_
    refine ⟨rfl, CallK.valA (h := atY_c _ _ (by omega) (by omega)) (k := ?_)⟩
    refine evd ?_
    refine hK6 _ ?_
    clear hK6 K6
    refine Wp.seqK fun K7 hK7 => ?_
    obtain ⟨n, hn, hn40⟩ := rem_nat (atY_nn (l := l) (k := 3) (by omega) hb) (show (0 : Int) < 40 by omega)
    rw [hn]
    refine rg ?_
    refine ⟨rfl, CallK.valA (h := atY_c _ _ (by omega) (by omega)) (k := ?_)⟩
    refine evd ?_
    refine hK7 _ ?_
    clear hK7 K7
    refine Wp.seqK fun K8 hK8 => ?_
    obtain ⟨k, hk, hkn⟩ := rem_nat (atY_nn (l := l) (k := 4) (by omega) hb) (show (0 : Int) < ((n + 1 : Nat) : Int) by omega)
    rw [hk]
    have hgM := run_good n hg
    have hgO := run_good (n + 5000) hg
    have hov := five_over hg hc hn40
    have h6 := row_len hgM
    have hnn := hgM.right.n
    have hvl := hgM.right.vals
    have hml := hgM.right.memo
    have hrm := hgM.right.room
    refine rg ?_
    refine ⟨rfl, CallK.retA (h := iRun_m (a := 0) (b := n) (c := n) (m := m) hg (by omega) rfl (by omega)) (ha := argGI (G := G) (m := m) (a := 0) (b := 1) (c := 2) rfl rfl rfl (by simp [lk]) (by simp [lk]) (by simp [lk])) (k := ?_) (hf := mR_flat _)⟩
    refine evd ?_
    refine hK8 _ ?_
    clear hK8 K8
    refine Wp.seqK fun K9 hK9 => ?_
    refine rg ?_
    refine ⟨rfl, CallK.retA (h := iRun_m (a := 0) (b := k) (c := k) (m := m) hg (by omega) rfl (by omega)) (ha := argGI (G := G) (m := m) (a := 0) (b := 1) (c := 2) rfl rfl rfl (by simp [lk]) (by simp [lk]) (by simp [lk])) (k := ?_) (hf := mR_flat _)⟩
    refine evd ?_
    refine ⟨rfl, CallK.retA (h := iRun_m (a := k) (b := n - k) (c := n) (m := m) hg (by omega) (by omega) (by omega)) (ha := argGI (G := ⟨0, 0, [], 0, []⟩) (m := (runM k m)) (a := 8) (b := 9) (c := 10) rfl (by simp) rfl (by simp [lk]) (by simp [lk]) (by simp [lk])) (k := ?_) (hf := mR_flat _)⟩
    refine evd ?_
    refine hK9 _ ?_
    clear hK9 K9
    refine Wp.seqK fun K10 hK10 => ?_
    refine rg ?_
    refine ⟨rfl, CallK.machQ (h := sRun_m (a := 0) (b := n) (c := n) (m := m) hg (by omega) rfl (by omega)) (ha := argGI (G := G) (m := m) (a := 0) (b := 1) (c := 2) rfl rfl rfl (by simp [lk]) (by simp [lk]) (by simp [lk])) (fun G8 => ?_)⟩
    refine evd ?_
    refine hK10 _ ?_
    clear hK10 K10
    refine Wp.seqK fun K11 hK11 => ?_
    refine rg ?_
    refine ⟨rfl, CallK.valA (h := iSave_g hgM) (ha := argG (G := ⟨0, 0, [], 0, []⟩) (m := (runM n m)) (a := 4) (b := 5) (c := 6) rfl (by simp) rfl (by simp [lk]) (by simp [lk]) (by simp [lk])) (k := ?_)⟩
    refine evd ?_
    refine hK11 _ ?_
    clear hK11 K11
    refine Wp.seqK fun K12 hK12 => ?_
    refine rg ?_
    refine ⟨rfl, CallK.valA (h := iSave_g hgM) (ha := argG (G := ⟨0, 0, [], 0, []⟩) (m := (runM n m)) (a := 11) (b := 12) (c := 13) rfl (by simp) rfl (by simp [lk]) (by simp [lk]) (by simp [lk])) (k := ?_)⟩
    refine evd ?_
    refine hK12 _ ?_
    clear hK12 K12
    refine Wp.seqK fun K13 hK13 => ?_
    refine rg ?_
    refine ⟨rfl, CallK.valA (h := sSave_g hgM) (ha := argG (G := G8) (m := (runM n m)) (a := 15) (b := 16) (c := 17) rfl rfl rfl (by simp [lk]) (by simp [lk]) (by simp [lk])) (k := ?_)⟩
    refine evd ?_
    refine hK13 _ ?_
    clear hK13 K13
    refine Wp.seqK fun K14 hK14 => ?_
    refine Wp.seqK fun K15 hK15 => ?_
    refine rg ?_
    refine ⟨rfl, CallK.valA (h := iOk_g hgM) (ha := argG (G := ⟨0, 0, [], 0, []⟩) (m := (runM n m)) (a := 4) (b := 5) (c := 6) rfl (by simp) rfl (by simp [lk]) (by simp [lk]) (by simp [lk])) (k := ?_)⟩
    refine evd ?_
    refine hK15 _ ?_
    clear hK15 K15
    refine Wp.condS (fun h80 => ?_) (fun h80 => ?_)
    · exact absurd h80 (by decide)
    · refine Wp.skip ?_
      refine hK14 _ ?_
      clear hK14 K14
      refine Wp.seqK fun K16 hK16 => ?_
      refine Wp.seqK fun K17 hK17 => ?_
      refine Wp.keepR 0 [7, 4, 5, 6] (by rw [hB]; simp) (by simp) (by decide) (by simp) ?_
      refine evd ?_
      refine rg ?_
      refine hK17 _ ?_
      clear hK17 K17
      refine Wp.block ?_
      refine Wp.loopU (α := Nat) (fun x => [.d5, .d, .k, .d5, .d, .d, .d, .v (I x), .d5, .d5, .d5, .d5, .d5, .d5, .d5, .d5, .d5, .d5, .d5, .d5, .d5, .d5, .d5, .d5, .d5, .d5, .d5, .d5, .d5, .d5, .d5, .d5, .d5, .d5, .d5, .d5, .d5, .d5, .d]) (fun x => some ⟨0, mO 1 2 3 (runM n m)⟩ :: mR (runM n m)) (fun x => x ≤ (runM n m).memo.length) (fun x => (runM n m).memo.length - x) 0 (Nat.zero_le _) (anyS) ?_
      rintro x f18 K18 hx hK18
      simp only [updT_k, updT_d, updT_d5, updT_v, updT_nil, Nat.reduceAdd]
      simp only [mO, mR, mCells]
      refine Wp.seqK fun K19 hK19 => ?_
      refine Wp.seqK fun K20 hK20 => ?_
      refine rg ?_
      refine hK20 _ ?_
      clear hK20 K20
      refine Wp.condS (fun h85 => ?_) (fun h85 => ?_)
      · refine Wp.skip ?_
        refine hK19 _ ?_
        clear hK19 K19
        refine Wp.seqK fun K21 hK21 => ?_
        refine Wp.block ?_
        refine Wp.seqK fun K22 hK22 => ?_
        obtain ⟨k2, o2, hk2, ho2, hrd, hdc⟩ := readKey_t (hgM.memo _ (mem_getD (l := (runM n m).memo) (i := x) (d := default) (by omega))) h6
        refine rg ?_
        refine ⟨rfl, CallK.valA (h := hrd) (k := ?_)⟩
        refine evd ?_
        refine hK22 _ ?_
        clear hK22 K22
        refine Wp.seqK fun K23 hK23 => ?_
        refine Wp.seqK fun K24 hK24 => ?_
        refine rg ?_
        refine hK24 _ ?_
        clear hK24 K24
        refine Wp.condS (fun h107 => ?_) (fun h107 => ?_)
        · exfalso
          omega
        · refine Wp.skip ?_
          refine hK23 _ ?_
          clear hK23 K23
          refine Wp.seqK fun K25 hK25 => ?_
          refine Wp.drawI [0, 1, 2, 3, 4, 5, 6, 7] [10] (by kernel_rfl) ?_
          refine evd ?_
          rw [show (((runM n m).row.length : Int) - ((runM n m).row.length - (k2 : Int))).toNat = (runM n m).row.length - ((runM n m).row.length - k2) by omega, show (((runM n m).row.length : Int) - (k2 : Int)).toNat = (runM n m).row.length - k2 by omega]
          refine ⟨rfl, CallK.val [(1, 0, encB (runM n m).row)] (LendOk.cons false _ rfl rfl (lB_encB _ false).symm LendOk.nil) (by rw [argsB]; exact hdc) rfl ?_⟩
          refine evd ?_
          refine hK25 _ ?_
          clear hK25 K25
          refine Wp.seqK fun K26 hK26 => ?_
          refine rg ?_
          refine hK26 _ ?_
          clear hK26 K26
          refine Wp.condS (fun h133 => ?_) (fun h133 => ?_)
          · exact absurd h133 (by decide)
          · refine Wp.skip ?_
            try simp only [thn, inB, if_true, reduceIte]
            refine hK21 _ ?_
            clear hK21 K21
            refine Wp.keepR 4 [] (by rw [hB]; simp) (by simp) (by simp) (by simp) ?_
            refine evd ?_
            refine rg ?_
            exact hK18 (x + 1) _ (by omega) (by omega) anyS
      · refine Wp.exit ?_
        try simp only [thn, inB, if_true, reduceIte]
        clear hK19 K19
        clear hK18 K18
        refine hK16 _ ?_
        clear hK16 K16
        refine Wp.seqK fun K27 hK27 => ?_
        refine rg ?_
        refine ⟨rfl, CallK.valA (h := iLeft_c _ (good_fits hgM) hgM.right) (ha := argG (G := ⟨0, 0, [], 0, []⟩) (m := (runM n m)) (a := 1) (b := 2) (c := 3) rfl (by simp) rfl (by simp [lk]) (by simp [lk]) (by simp [lk])) (k := ?_)⟩
        refine evd ?_
        refine hK27 _ ?_
        clear hK27 K27
        refine Wp.seqK fun K28 hK28 => ?_
        refine rg ?_
        refine ⟨rfl, CallK.retA (h := iRun_m (a := n) (b := 5000) (c := n + 5000) (m := m) hg (by omega) rfl (by omega)) (ha := argGI (G := ⟨0, 0, [], 0, []⟩) (m := (runM n m)) (a := 1) (b := 2) (c := 3) rfl (by simp) rfl (by simp [lk]) (by simp [lk]) (by simp [lk])) (k := ?_) (hf := mR_flat _)⟩
        refine evd ?_
        refine hK28 _ ?_
        clear hK28 K28
        refine Wp.seqK fun K29 hK29 => ?_
        refine rg ?_
        refine ⟨rfl, CallK.retA (h := iStep_o hgO hov) (ha := argG (G := ⟨0, 0, [], 0, []⟩) (m := (runM (n + 5000) m)) (a := 5) (b := 6) (c := 7) rfl (by simp) rfl (by simp [lk]) (by simp [lk]) (by simp [lk])) (k := ?_) (hf := mR_flat _)⟩
        refine evd ?_
        refine hK29 _ ?_
        clear hK29 K29
        refine Wp.seqK fun K30 hK30 => ?_
        rw [hov]
        refine rg ?_
        refine hK30 _ ?_
        clear hK30 K30
        refine Wp.ret (retV ?_)
        try simp only [List.getD_cons_zero, List.getD_cons_succ]
        try rfl

theorem bytesY (l : List UInt8) : (l.flatMap fun n : UInt8 => [DV.sc (.int .u8 (n.toNat : Int))]) = encY (l.map fun n => (n.toNat : Int)) := by
  unfold encY
  induction l with
  | nil => rfl
  | cons a l ih => simp only [List.flatMap_cons, List.map_cons, List.cons_append, List.nil_append]; rw [ih]
theorem lawSteps_b (l : List UInt8) (hlen : (l.length : Int) ≤ 9223372036854775807) : Val E.P 17 [.l (.dsl true l.length (l.flatMap fun n : UInt8 => [DV.sc (.int .u8 (n.toNat : Int))]))] (T true) := by
  rw [bytesY]
  have := lawSteps_c (l.map fun n => (n.toNat : Int)) (by rw [List.length_map]; exact hlen) (fun x hx => by
    obtain ⟨b, _, rfl⟩ := List.mem_map.1 hx
    have := b.toNat_lt
    omega)
  simp only [dY, List.length_map] at this
  exact this
end Go.Proofs.Ytlgjogfcpgfbnaa.RE
