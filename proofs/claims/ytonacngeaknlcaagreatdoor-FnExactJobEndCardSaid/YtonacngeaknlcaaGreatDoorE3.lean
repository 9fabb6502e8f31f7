/- Keys of tables, numbers read, ReadKey. Conditions: those that a theorem names. -/
import Derived.Test.YtonacngeaknlcaaGreatDoorE2
set_option linter.unusedVariables false
set_option linter.unusedSimpArgs false
namespace Go.Proofs.YtonacngeaknlcaaGreatDoor.RE
open Go Go.RowKit
set_option maxRecDepth 100000
set_option maxHeartbeats 8000000

theorem key_room {k : Nat} {o : ByteArray} (hk : k ≤ 12) (ho : o.size ≤ 1048576) : (((mkB (decL k)).size + (#[58] : Array UInt8).size : Nat) : Int) ≤ 9223372036854775807 ∧ (((mkB (decL k)).size + (#[58] : Array UInt8).size + o.size : Nat) : Int) ≤ 9223372036854775807 := by
  have h1 := mkB_size (decL k)
  have h2 := decL_len 18 k (by have : 10 ^ (18 + 1) = 10000000000000000000 := rfl; omega)
  have h3 : (#[58] : Array UInt8).size = 1 := rfl
  omega
def tkT (n : Int) (o : ByteArray) : ByteArray := if tableOk n o = true then keyB n o else ⟨#[]⟩
theorem tok_n {n : Int} {o : ByteArray} (h : tableOk n o = true) : ∃ k : Nat, n = k ∧ k ≤ 12 := by
  unfold tableOk at h
  rw [Bool.and_eq_true] at h
  have := of_decide_eq_true h.1
  exact ⟨n.toNat, by omega, by omega⟩
theorem wr8 {x : Int} (h1 : 0 ≤ x) (h2 : x ≤ 255) : IntKind.u8.wrap x = x := by
  simp only [IntKind.wrap, IntKind.bits, IntKind.signed]
  simp
  omega
theorem key_c (k : Nat) (o : ByteArray) (hk : k ≤ 12) (ho : o.size ≤ 1048576) : Val E.P 160 [.agg (tb k o)] (S (keyB k o)) := by
  refine CallsA.body (E := E) (fn := Tryz.f160) Tryz.func160 rfl fun B hB => ?_
  simp only [Tryz.ntmps160, go_sem, nl, Nat.reduceSub, Nat.reduceAdd, List.reduceReplicate]
  refine Wp.seqK fun K1 hK1 => ?_
  refine rg ?_
  refine hK1 _ ?_
  clear hK1 K1
  refine Wp.seqK fun K2 hK2 => ?_
  refine Wp.drawP [0] [2] [0, 1, 4, 5, 2, 3, 6, 7] rfl (by kernel_rfl) ?_
  refine evd ?_
  refine ⟨rfl, CallK.valA (h := decimal_c _ (by omega)) (k := ?_)⟩
  refine evd ?_
  refine ⟨(key_room hk ho).1, (key_room hk ho).2, ?_⟩
  refine hK2 _ ?_
  clear hK2 K2
  refine Wp.ret (retV ?_)
  simp only [List.getD_cons_zero, List.getD_cons_succ]
  rfl
theorem iTableKey_c (n : Int) (o : ByteArray) (ho : o.size ≤ 1048576) : Val E.P 213 [.agg (tb n o)] (S (tkT n o)) := by
  refine CallsA.body (E := E) (fn := Tryz.f213) Tryz.func213 rfl fun B hB => ?_
  simp only [Tryz.ntmps213, go_sem, nl, Nat.reduceSub, Nat.reduceAdd, List.reduceReplicate]
  refine Wp.seqK fun K1 hK1 => ?_
  refine rg ?_
  refine hK1 _ ?_
  clear hK1 K1
  refine Wp.seqK fun K2 hK2 => ?_
  refine Wp.seqK fun K3 hK3 => ?_
  refine rg ?_
  refine ⟨rfl, CallK.valA (h := iTableOk_c _ _ (by omega)) (k := ?_)⟩
  refine evd ?_
  refine hK3 _ ?_
  clear hK3 K3
  refine Wp.condS (fun h5 => ?_) (fun h5 => ?_)
  · refine Wp.seqK fun K4 hK4 => ?_
    refine rg ?_
    refine hK4 _ ?_
    clear hK4 K4
    refine Wp.ret (retV ?_)
    simp only [List.getD_cons_zero, List.getD_cons_succ]
    unfold tkT
    rw [if_neg (by simpa using h5)]
  · have h5 : tableOk n o = true := by simpa using h5
    obtain ⟨k, hn, hk⟩ := tok_n h5
    subst hn
    refine Wp.skip ?_
    refine hK2 _ ?_
    clear hK2 K2
    refine Wp.seqK fun K5 hK5 => ?_
    refine rg ?_
    refine ⟨rfl, CallK.valA (h := key_c _ _ (by omega) (by omega)) (k := ?_)⟩
    refine evd ?_
    refine hK5 _ ?_
    clear hK5 K5
    refine Wp.ret (retV ?_)
    simp only [List.getD_cons_zero, List.getD_cons_succ]
    unfold tkT
    rw [if_pos h5]
theorem sTableKey_c (n : Int) (o : ByteArray) (ho : o.size ≤ 1048576) : Val E.P 92 [.agg (tb n o)] (S (tkT n o)) := by
  refine CallsA.body (E := E) (fn := Tryz.f92) Tryz.func92 rfl fun B hB => ?_
  simp only [Tryz.ntmps92, go_sem, nl, Nat.reduceSub, Nat.reduceAdd, List.reduceReplicate]
  refine Wp.seqK fun K1 hK1 => ?_
  refine rg ?_
  refine hK1 _ ?_
  clear hK1 K1
  refine Wp.seqK fun K2 hK2 => ?_
  refine Wp.seqK fun K3 hK3 => ?_
  refine rg ?_
  refine ⟨rfl, CallK.valA (h := sTableOk_c _ _ (by omega)) (k := ?_)⟩
  refine evd ?_
  refine hK3 _ ?_
  clear hK3 K3
  refine Wp.condS (fun h5 => ?_) (fun h5 => ?_)
  · refine Wp.seqK fun K4 hK4 => ?_
    refine rg ?_
    refine hK4 _ ?_
    clear hK4 K4
    refine Wp.ret (retV ?_)
    simp only [List.getD_cons_zero, List.getD_cons_succ]
    unfold tkT
    rw [if_neg (by simpa using h5)]
  · have h5 : tableOk n o = true := by simpa using h5
    obtain ⟨k, hn, hk⟩ := tok_n h5
    subst hn
    refine Wp.skip ?_
    refine hK2 _ ?_
    clear hK2 K2
    refine Wp.seqK fun K5 hK5 => ?_
    refine Wp.drawP [0] [2] [0, 1, 4, 5, 2, 3, 6, 7] rfl (by kernel_rfl) ?_
    refine evd ?_
    refine ⟨rfl, CallK.valA (h := l03Dec_c _ (by omega)) (k := ?_)⟩
    refine evd ?_
    refine ⟨(key_room hk ho).1, (key_room hk ho).2, ?_⟩
    refine hK5 _ ?_
    clear hK5 K5
    refine Wp.ret (retV ?_)
    simp only [List.getD_cons_zero, List.getD_cons_succ]
    unfold tkT
    rw [if_pos h5]
    rfl
def digB (b : UInt8) : Bool := decide (48 ≤ (b.toNat : Int)) && decide ((b.toNat : Int) ≤ 57)
def numV (l : List UInt8) : Nat := l.foldl (fun a b => 10 * a + (b.toNat - 48)) 0
theorem numV_push {l : List UInt8} {x : Nat} (hx : x < l.length) (hd : digB (l.getD x 0) = true) : ((numV (l.take (x + 1)) : Nat) : Int) = 10 * (numV (l.take x) : Int) + (l.getD x 0).toNat - 48 := by
  have h1 : numV (l.take (x + 1)) = 10 * numV (l.take x) + ((l.getD x 0).toNat - 48) := by
    rw [take_push 0 hx]
    simp [numV, List.foldl_append]
  simp [digB] at hd
  rw [h1]
  simp
  omega
theorem numV_lt {l : List UInt8} : ∀ (x : Nat), x ≤ l.length → (l.take x).all digB = true → numV (l.take x) < 10 ^ x
  | 0, _, _ => by simp [numV]
  | x + 1, hx, h => by
    rw [take_push 0 (by omega), List.all_append, Bool.and_eq_true] at h
    have h0 := numV_lt x (by omega) h.1
    have hd : digB (l.getD x 0) = true := by simpa using h.2
    have h2 := numV_push (l := l) (x := x) (by omega) hd
    simp only [digB, Bool.and_eq_true, decide_eq_true_eq] at hd
    rw [Nat.pow_succ]
    omega
theorem numV_9 {l : List UInt8} {x : Nat} (hx : x ≤ l.length) (h9 : l.length ≤ 9) (h : (l.take x).all digB = true) : numV (l.take x) ≤ 1000000000 := by
  have h1 := numV_lt x hx h
  have h2 : 10 ^ x ≤ 10 ^ 9 := Nat.pow_le_pow_right (by decide) (by omega)
  have h3 : 10 ^ 9 = 1000000000 := rfl
  omega
theorem all_pushD {l : List UInt8} {x : Nat} (hx : x < l.length) (h : (l.take x).all digB = true) (hb : digB (l.getD x 0) = true) : (l.take (x + 1)).all digB = true := by
  rw [take_push 0 hx, List.all_append, h, List.all_cons, hb]
  rfl
theorem all_noD {l : List UInt8} {x : Nat} (hx : x < l.length) (hb : digB (l.getD x 0) = false) : l.all digB = false := by
  rw [List.all_eq_false]
  refine ⟨l[x], List.getElem_mem hx, ?_⟩
  rw [List.getD_eq_getElem?_getD, List.getElem?_eq_getElem hx] at hb
  rw [show digB l[x] = false from hb]
  decide
def numS (s : ByteArray) : Int := if 1 ≤ s.data.toList.length ∧ s.data.toList.length ≤ 9 ∧ s.data.toList.all digB = true ∧ mkB (decL (numV s.data.toList)) = s then numV s.data.toList else -1
def rdA (s : ByteArray) : Bool := decide (1 ≤ s.size ∧ s.size ≤ 9 ∧ ¬ (1 < s.size ∧ ((s.data.toList.getD 0 0).toNat : Int) = 48))
def rdN (s : ByteArray) : Nat × Bool := if rdA s = true ∧ s.data.toList.all digB = true then (numV s.data.toList, true) else (0, false)
theorem byte_le (b : UInt8) : b.toNat ≤ 255 := by have := b.toNat_lt; omega
theorem l03Num_c (s : ByteArray) (hs : s.size ≤ 1048576) : Val E.P 136 [S s] (I (numS s)) := by
  refine CallsA.body (E := E) (fn := Tryz.f136) Tryz.func136 rfl fun B hB => ?_
  simp only [Tryz.ntmps136, go_sem, nl, Nat.reduceSub, Nat.reduceAdd, List.reduceReplicate]
  have hsz := size_list s
  refine Wp.seqK fun K1 hK1 => ?_
  refine rg ?_
  refine hK1 _ ?_
  clear hK1 K1
  refine Wp.seqK fun K2 hK2 => ?_
  refine rg ?_
  refine hK2 _ ?_
  clear hK2 K2
  refine Wp.seqK fun K3 hK3 => ?_
  refine Wp.seqU0 [.k, .d, .d, .k, .d5, .d, .d, .d, .v (T (decide (s.size = 0) || decide (9 < s.size))), .d5, .d5, .d5, .d5, .d5] (fun K4 hK4 => ?_) ?_
  · refine rg ?_
    refine grdA_split rfl (fun g2_4 => ?_) (fun g2_4 => ?_)
    · try simp only [decide_eq_true_eq, decide_eq_false_iff_not] at g2_4
      refine evd ?_
      have e : decide (s.size = 0) = true := decide_eq_true (by omega)
      exact hK4 _ (anyS (h := by rw [e]; rfl))
    · try simp only [decide_eq_true_eq, decide_eq_false_iff_not] at g2_4
      refine evd ?_
      have e : decide (s.size = 0) = false := decide_eq_false (by omega)
      have e2 : decide (9 < s.size) = decide (9 < (s.size : Int)) := by rw [decide_eq_decide]; omega
      exact hK4 _ (anyS (h := by rw [e, e2]; rfl))
  rintro f4
  simp only [updT_k, updT_d, updT_d5, updT_v, updT_nil, Nat.reduceAdd]
  refine Wp.condS (fun h12 => ?_) (fun h12 => ?_)
  · refine Wp.seqK fun K5 hK5 => ?_
    refine rg ?_
    refine hK5 _ ?_
    clear hK5 K5
    refine Wp.ret (retV ?_)
    simp only [List.getD_cons_zero, List.getD_cons_succ]
    unfold numS; rw [if_neg (by omega)]
  · refine Wp.skip ?_
    refine hK3 _ ?_
    clear hK3 K3
    refine Wp.seqK fun K6 hK6 => ?_
    refine Wp.seqK fun K7 hK7 => ?_
    refine rg ?_
    refine hK7 _ ?_
    clear hK7 K7
    refine Wp.block ?_
    refine Wp.loopU0 (α := Nat) (fun x => [.k, .d, .d, .v (I (numV (s.data.toList.take x) : Int)), .v (I x), .d5, .d5, .d5, .d5, .d5, .d5, .d, .d, .d]) (fun x => x ≤ s.size ∧ (s.data.toList.take x).all digB = true) (fun x => s.size - x) 0 (⟨Nat.zero_le _, rfl⟩) anyS ?_
    rintro x f8 K8 ⟨hx, ha⟩ hK8
    simp only [updT_k, updT_d, updT_d5, updT_v, updT_nil, Nat.reduceAdd]
    have hb := byte_le (s.data.toList.getD x 0)
    refine Wp.seqK fun K9 hK9 => ?_
    refine Wp.seqK fun K10 hK10 => ?_
    refine rg ?_
    refine hK10 _ ?_
    clear hK10 K10
    refine Wp.condS (fun h16 => ?_) (fun h16 => ?_)
    · refine Wp.skip ?_
      refine hK9 _ ?_
      clear hK9 K9
      refine Wp.seqK fun K11 hK11 => ?_
      refine Wp.block ?_
      refine Wp.seqK fun K12 hK12 => ?_
      refine Wp.seqK fun K13 hK13 => ?_
      refine rg ?_
      refine ⟨rfl, CallK.valA (h := l01In_c _ _ _) (k := ?_)⟩
      refine evd ?_
      refine hK13 _ ?_
      clear hK13 K13
      refine Wp.condS (fun h24 => ?_) (fun h24 => ?_)
      · refine Wp.seqK fun K14 hK14 => ?_
        refine rg ?_
        refine hK14 _ ?_
        clear hK14 K14
        refine Wp.ret (retV ?_)
        simp only [List.getD_cons_zero, List.getD_cons_succ]
        unfold numS; rw [if_neg (fun h => by have := all_noD (l := s.data.toList) (x := x) (by omega) (by simpa [digB] using h24); rw [h.2.2.1] at this; cases this)]
      · have hd : digB (s.data.toList.getD x 0) = true := by simpa [digB] using h24
        have e := numV_push (l := s.data.toList) (x := x) (by omega) hd
        have h0 := numV_9 (l := s.data.toList) (x := x) (by omega) (by omega) ha
        refine Wp.skip ?_
        refine hK12 _ ?_
        clear hK12 K12
        refine rg ?_
        try simp only [thn, inB, if_true, reduceIte]
        refine hK11 _ ?_
        clear hK11 K11
        refine rg ?_
        exact hK8 (x + 1) _ ⟨by omega, all_pushD (by omega) ha hd⟩ (by omega) (anyS (h := by rw [e]; rfl))
    · have hxl : x = s.data.toList.length := by omega
      refine Wp.exit ?_
      try simp only [thn, inB, if_true, reduceIte]
      clear hK9 K9
      clear hK8 K8
      refine hK6 _ ?_
      clear hK6 K6
      refine Wp.seqK fun K15 hK15 => ?_
      refine Wp.seqK fun K16 hK16 => ?_
      have h9 : numV s.data.toList ≤ 1000000000 := by
        have := numV_9 (l := s.data.toList) (x := x) (by omega) (by omega) ha
        rwa [hxl, List.take_length] at this
      refine rg ?_
      refine ⟨rfl, CallK.valA (h := l03Dec_c _ (by omega)) (k := ?_)⟩
      refine evd ?_
      refine hK16 _ ?_
      clear hK16 K16
      refine Wp.condS (fun h36 => ?_) (fun h36 => ?_)
      · refine Wp.seqK fun K17 hK17 => ?_
        refine rg ?_
        refine hK17 _ ?_
        clear hK17 K17
        refine Wp.ret (retV ?_)
        simp only [List.getD_cons_zero, List.getD_cons_succ]
        unfold numS; rw [if_neg (fun h => h36 h.2.2.2)]
      · refine Wp.skip ?_
        refine hK15 _ ?_
        clear hK15 K15
        refine Wp.seqK fun K18 hK18 => ?_
        refine rg ?_
        refine hK18 _ ?_
        clear hK18 K18
        refine Wp.ret (retV ?_)
        simp only [List.getD_cons_zero, List.getD_cons_succ]
        rw [hxl, List.take_length] at ha
        unfold numS; rw [if_pos ⟨by omega, by omega, ha, h36⟩]
theorem rdA_no {s : ByteArray} (h : (!(decide (1 ≤ (s.size : Int)) && decide ((s.size : Int) ≤ 9))) = true) : rdA s = false := by
  simp at h
  exact decide_eq_false (by omega)
theorem rdA_one {s : ByteArray} (h : (!(decide (1 ≤ (s.size : Int)) && decide ((s.size : Int) ≤ 9))) = false) (h1 : ¬ 1 < (s.size : Int)) : rdA s = true := by
  simp at h
  exact decide_eq_true (by omega)
theorem rdA_more {s : ByteArray} (h : (!(decide (1 ≤ (s.size : Int)) && decide ((s.size : Int) ≤ 9))) = false) (h1 : 1 < (s.size : Int)) : (!rdA s) = decide (((s.data.toList.getD 0 0).toNat : Int) = 48) := by
  simp only [Bool.not_eq_false', Bool.and_eq_true, decide_eq_true_eq] at h
  unfold rdA
  rw [← decide_not, decide_eq_decide]
  omega
theorem rdA_t {s : ByteArray} (h : rdA s = true) : 1 ≤ s.size ∧ s.size ≤ 9 := by
  have := of_decide_eq_true h
  exact ⟨this.1, this.2.1⟩
theorem dig_a {b : UInt8} (g : (b.toNat : Int) < 48) : digB b = false := by
  unfold digB
  rw [decide_eq_false (by omega), Bool.false_and]
theorem dig_b {b : UInt8} (g : ¬ (b.toNat : Int) < 48) : (!digB b) = decide (57 < (b.toNat : Int)) := by
  unfold digB
  rw [decide_eq_true (by omega), Bool.true_and, ← decide_not, decide_eq_decide]
  omega
attribute [go_sem] wr8
theorem readNumber_c (s : ByteArray) (hs : s.size ≤ 1048576) : Val E.P 212 [S s] (.tup [.l (.sc (.int .i64 (((rdN s).1 : Nat) : Int))), TB (rdN s).2]) := by
  refine CallsA.body (E := E) (fn := Tryz.f212) Tryz.func212 rfl fun B hB => ?_
  simp only [Tryz.ntmps212, go_sem, nl, Nat.reduceSub, Nat.reduceAdd, List.reduceReplicate]
  have hsz := size_list s
  refine Wp.seqK fun K1 hK1 => ?_
  refine rg ?_
  refine hK1 _ ?_
  clear hK1 K1
  refine Wp.seqK fun K2 hK2 => ?_
  refine Wp.seqU0 [.k, .d5, .d5, .d5, .d, .d, .d, .v (T (!rdA s)), .d5, .d5, .d5, .d5, .d5] (fun K3 hK3 => ?_) ?_
  · refine rg ?_
    refine ⟨rfl, CallK.valA (h := within_c _ _ _) (k := ?_)⟩
    refine evd ?_
    refine grdA_split rfl (fun g1_5 => ?_) (fun g1_5 => ?_)
    · try simp only [decide_eq_true_eq, decide_eq_false_iff_not] at g1_5
      refine evd ?_
      have e : rdA s = false := rdA_no g1_5
      exact hK3 _ (anyS (h := by rw [e]; rfl))
    · try simp only [decide_eq_true_eq, decide_eq_false_iff_not] at g1_5
      refine evd ?_
      refine grdA_split rfl (fun g1_9 => ?_) (fun g1_9 => ?_)
      · try simp only [decide_eq_true_eq, decide_eq_false_iff_not] at g1_9
        refine evd ?_
        have e := rdA_more g1_5 (by omega)
        exact hK3 _ (anyS (h := by rw [e]; rfl))
      · try simp only [decide_eq_true_eq, decide_eq_false_iff_not] at g1_9
        refine evd ?_
        have e : rdA s = true := rdA_one g1_5 (by omega)
        exact hK3 _ (anyS (h := by rw [e]; rfl))
  rintro f3
  simp only [updT_k, updT_d, updT_d5, updT_v, updT_nil, Nat.reduceAdd]
  refine Wp.condS (fun h19 => ?_) (fun h19 => ?_)
  · refine Wp.seqK fun K4 hK4 => ?_
    refine rg ?_
    refine hK4 _ ?_
    clear hK4 K4
    refine Wp.ret (retV (x := .tup [.l (.sc (.int .i64 (0 : Int))), TB false]) ?_)
    unfold rdN
    rw [if_neg (fun h => by rw [h.1] at h19; simp at h19)]
    rfl
  · have hA : rdA s = true := by simpa using h19
    have hA9 := rdA_t hA
    refine Wp.skip ?_
    refine hK2 _ ?_
    clear hK2 K2
    refine Wp.seqK fun K5 hK5 => ?_
    refine rg ?_
    refine hK5 _ ?_
    clear hK5 K5
    refine Wp.seqK fun K6 hK6 => ?_
    refine Wp.seqK fun K7 hK7 => ?_
    refine rg ?_
    refine hK7 _ ?_
    clear hK7 K7
    refine Wp.block ?_
    refine Wp.loopU0 (α := Nat) (fun x => [.k, .d, .d, .d, .v (I (numV (s.data.toList.take x) : Int)), .d5, .d5, .d5, .d, .k, .v (I x), .d5, .d5, .d5, .d5, .d, .d]) (fun x => x ≤ s.size ∧ (s.data.toList.take x).all digB = true) (fun x => s.size - x) 0 (⟨Nat.zero_le _, rfl⟩) anyS ?_
    rintro x f8 K8 ⟨hx, ha⟩ hK8
    simp only [updT_k, updT_d, updT_d5, updT_v, updT_nil, Nat.reduceAdd]
    have hb := byte_le (s.data.toList.getD x 0)
    refine Wp.seqK fun K9 hK9 => ?_
    refine rg ?_
    refine hK9 _ ?_
    clear hK9 K9
    refine Wp.seqK fun K10 hK10 => ?_
    refine Wp.condS (fun h23 => ?_) (fun h23 => ?_)
    · refine Wp.skip ?_
      refine hK10 _ ?_
      clear hK10 K10
      refine Wp.seqK fun K11 hK11 => ?_
      refine Wp.block ?_
      refine Wp.seqK fun K12 hK12 => ?_
      refine rg ?_
      refine hK12 _ ?_
      clear hK12 K12
      refine Wp.seqK fun K13 hK13 => ?_
      refine Wp.seqU0 [.k, .d, .d, .d, .k, .k, .d5, .d5, .d5, .k, .k, .d5, .d5, .d, .v (T (!digB (s.data.toList.getD x 0))), .d5, .d5] (fun K14 hK14 => ?_) ?_
      · refine rg ?_
        refine grdA_split rfl (fun g7_5 => ?_) (fun g7_5 => ?_)
        · try simp only [decide_eq_true_eq, decide_eq_false_iff_not] at g7_5
          refine evd ?_
          have e := dig_a (b := s.data.toList.getD x 0) (by omega)
          exact hK14 _ (anyS (h := by rw [e]; rfl))
        · try simp only [decide_eq_true_eq, decide_eq_false_iff_not] at g7_5
          refine evd ?_
          have e := dig_b (b := s.data.toList.getD x 0) (by omega)
          exact hK14 _ (anyS (h := by rw [e]; rfl))
      rintro f14
      simp only [updT_k, updT_d, updT_d5, updT_v, updT_nil, Nat.reduceAdd]
      refine Wp.condS (fun h34 => ?_) (fun h34 => ?_)
      · refine Wp.seqK fun K15 hK15 => ?_
        refine rg ?_
        refine hK15 _ ?_
        clear hK15 K15
        refine Wp.ret (retV (x := .tup [.l (.sc (.int .i64 (0 : Int))), TB false]) ?_)
        unfold rdN
        rw [if_neg (fun h => by have := all_noD (l := s.data.toList) (x := x) (by omega) (by simpa using h34); rw [h.2] at this; cases this)]
        rfl
      · have hd : digB (s.data.toList.getD x 0) = true := by simpa using h34
        have hd2 := hd
        simp only [digB, Bool.and_eq_true, decide_eq_true_eq] at hd2
        have e := numV_push (l := s.data.toList) (x := x) (by omega) hd
        have h0 := numV_9 (l := s.data.toList) (x := x) (by omega) (by omega) ha
        refine Wp.skip ?_
        refine hK13 _ ?_
        clear hK13 K13
        refine rg ?_
        try simp only [thn, inB, if_true, reduceIte]
        refine hK11 _ ?_
        clear hK11 K11
        refine rg ?_
        exact hK8 (x + 1) _ ⟨by omega, all_pushD (by omega) ha hd⟩ (by omega) (anyS (h := by rw [e, show 10 * (numV (s.data.toList.take x) : Int) + ((s.data.toList.getD x 0).toNat : Int) - 48 = 10 * (numV (s.data.toList.take x) : Int) + (((s.data.toList.getD x 0).toNat : Int) - 48) by omega]; rfl))
    · have hxl : x = s.data.toList.length := by omega
      refine Wp.exit ?_
      try simp only [thn, inB, if_true, reduceIte]
      clear hK10 K10
      clear hK8 K8
      refine hK6 _ ?_
      clear hK6 K6
      refine Wp.seqK fun K16 hK16 => ?_
      refine rg ?_
      refine hK16 _ ?_
      clear hK16 K16
      rw [hxl, List.take_length] at ha
      refine Wp.ret (retV (x := .tup [.l (.sc (.int .i64 ((numV s.data.toList : Nat) : Int))), TB true]) ?_)
      unfold rdN
      rw [if_pos ⟨hA, ha⟩]
end Go.Proofs.YtonacngeaknlcaaGreatDoor.RE
