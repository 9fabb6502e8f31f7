/- Decimals and tables as texts, program and reference. Conditions: those that a theorem names. -/
import Derived.Test.YtonacngeaknlcaaGreatDoorE1
set_option linter.unusedVariables false
set_option linter.unusedSimpArgs false
namespace Go.Proofs.YtonacngeaknlcaaGreatDoor.RE
open Go Go.RowKit
set_option maxRecDepth 100000
set_option maxHeartbeats 8000000

theorem mkB_nil {l : List UInt8} (h : mkB l = ⟨#[]⟩) : l = [] := by
  have := congrArg (fun b : ByteArray => b.data.toList) h
  simpa [mkB] using this
theorem bytes_dig (n : Nat) : bytesOf [.sc (.int .u8 (IntKind.u8.wrap (IntKind.u64.wrap (48 + (n : Int).tmod 10))))] = some [dig (n % 10)] := by
  have e : (n : Int).tmod 10 = ((n % 10 : Nat) : Int) := by rw [Int.tmod_eq_emod_of_nonneg (by omega)]; rfl
  rw [e]
  have : n % 10 = 0 ∨ n % 10 = 1 ∨ n % 10 = 2 ∨ n % 10 = 3 ∨ n % 10 = 4 ∨ n % 10 = 5 ∨ n % 10 = 6 ∨ n % 10 = 7 ∨ n % 10 = 8 ∨ n % 10 = 9 := by omega
  rcases this with h | h | h | h | h | h | h | h | h | h <;> rw [h] <;> rfl
theorem tdiv10 (n : Nat) : (n : Int).tdiv 10 = ((n / 10 : Nat) : Int) := by rw [Int.tdiv_eq_ediv_of_nonneg (by omega)]; rfl
theorem rest_end {m : Nat} {l : List UInt8} (h : m = 0) (hl : l ≠ []) : rest m l = l := by
  unfold rest
  rw [if_neg hl, if_pos h]
theorem dig_room {n m : Nat} {l : List UInt8} {d : UInt8} (he : rest m l = decL n) (hn : n ≤ 1000000000000000000) : ((#[d].size + (mkB l).size : Nat) : Int) ≤ 9223372036854775807 := by
  have h1 := mkB_size l
  have h2 : l.length ≤ (decL n).length := by
    rw [← he]
    exact rest_len
  have h3 := decL_len 18 n (by have : 10 ^ (18 + 1) = 10000000000000000000 := rfl; omega)
  have h4 : #[d].size = 1 := rfl
  omega
theorem one_app {d : UInt8} {l : List UInt8} : (⟨#[d]⟩ : ByteArray) ++ mkB l = mkB (d :: l) := mkB_app [d] l
theorem mu_dig {n : Nat} {l : List UInt8} {d : UInt8} (h : l = [] ∨ 0 < n) : n / 10 + (if (d :: l) = [] then 1 else 0) < n + (if l = [] then 1 else 0) := by
  rw [if_neg (List.cons_ne_nil _ _)]
  split
  · omega
  · have := h.resolve_left ‹_›
    omega
theorem digits_c (n : Nat) (hn : n ≤ 1000000000000000000) : Val E.P 202 [.l (.sc (.int .u64 n))] (S (mkB (decL n))) := by
  refine CallsA.body (E := E) (fn := Tryz.f202) Tryz.func202 rfl fun B hB => ?_
  simp only [Tryz.ntmps202, go_sem, nl, Nat.reduceSub, Nat.reduceAdd, List.reduceReplicate]
  refine Wp.seqK fun K1 hK1 => ?_
  refine rg ?_
  refine hK1 _ ?_
  clear hK1 K1
  refine Wp.seqK fun K2 hK2 => ?_
  refine rg ?_
  refine hK2 _ ?_
  clear hK2 K2
  refine Wp.seqK fun K3 hK3 => ?_
  refine Wp.block ?_
  refine Wp.loopU0 (α := Nat × List UInt8) (fun x => [.v (.l (.sc (.int .u64 (x.1 : Int)))), .d, .d, .v (S (mkB x.2)), .d5, .d5, .d5, .d, .d]) (fun x => x.1 ≤ n ∧ rest x.1 x.2 = decL n) (fun x => x.1 + (if x.2 = [] then 1 else 0)) (n, []) (⟨Nat.le_refl _, rfl⟩) anyS ?_
  rintro x f4 K4 ⟨hn, he⟩ hK4
  simp only [updT_k, updT_d, updT_d5, updT_v, updT_nil, Nat.reduceAdd]
  refine Wp.seqK fun K5 hK5 => ?_
  refine Wp.seqU0 [.k, .d, .d, .k, .d5, .v (T (decide (mkB x.2 = (⟨#[]⟩ : ByteArray)) || decide (0 < (x.1 : Int)))), .d5, .d5, .d] (fun K6 hK6 => ?_) ?_
  · refine rg ?_
    refine grdA_split rfl (fun g2_3 => ?_) (fun g2_3 => ?_)
    · try simp only [decide_eq_true_eq, decide_eq_false_iff_not] at g2_3
      refine evd ?_
      exact hK6 _ (anyS (h := by first | rfl | (simp only [g2_3, Bool.true_or, Bool.or_true, Bool.false_or, Bool.or_false, Bool.true_and, Bool.and_true, Bool.false_and, Bool.and_false, Bool.not_true, Bool.not_false, decide_true, decide_false, eq_self, Int.reduceEq] <;> rfl)))
    · try simp only [decide_eq_true_eq, decide_eq_false_iff_not] at g2_3
      refine evd ?_
      exact hK6 _ (anyS (h := by first | rfl | (simp only [g2_3, Bool.true_or, Bool.or_true, Bool.false_or, Bool.or_false, Bool.true_and, Bool.and_true, Bool.false_and, Bool.and_false, Bool.not_true, Bool.not_false, decide_true, decide_false, eq_self, Int.reduceEq] <;> rfl)))
  rintro f6
  simp only [updT_k, updT_d, updT_d5, updT_v, updT_nil, Nat.reduceAdd]
  refine Wp.condS (fun h9 => ?_) (fun h9 => ?_)
  · have hc : x.2 = [] ∨ 0 < x.1 := h9.imp mkB_nil (fun h => by omega)
    refine Wp.skip ?_
    refine hK5 _ ?_
    clear hK5 K5
    refine Wp.seqK fun K7 hK7 => ?_
    refine Wp.block ?_
    refine rg ?_
    simp only [bytes_dig]
    refine ⟨dig_room he (by omega), ?_⟩
    try simp only [thn, inB, if_true, reduceIte]
    refine hK7 _ ?_
    clear hK7 K7
    refine Wp.keepR 0 [] (by rw [hB]; simp) (by simp) (by simp) (by simp) ?_
    refine evd ?_
    refine rg ?_
    exact hK4 (x.1 / 10, dig (x.1 % 10) :: x.2) _ ⟨by omega, (rest_step hc).trans he⟩ (mu_dig hc) (anyS (h := by simp only [tdiv10, one_app]; rw [wrU (by omega) (by omega)]; rfl))
  · have hz : x.1 = 0 := by omega
    have hx : x.2 ≠ [] := fun e => h9.1 (by rw [e]; rfl)
    refine Wp.exit ?_
    try simp only [thn, inB, if_true, reduceIte]
    clear hK5 K5
    clear hK4 K4
    refine hK3 _ ?_
    clear hK3 K3
    refine Wp.seqK fun K8 hK8 => ?_
    refine rg ?_
    refine hK8 _ ?_
    clear hK8 K8
    refine Wp.ret (retV ?_)
    simp only [List.getD_cons_zero, List.getD_cons_succ]
    rw [← he, rest_end hz hx]
theorem decimal_c (n : Nat) (hn : n ≤ 1000000000000000000) : Val E.P 161 [I n] (S (mkB (decL n))) := by
  refine CallsA.body (E := E) (fn := Tryz.f161) Tryz.func161 rfl fun B hB => ?_
  simp only [Tryz.ntmps161, go_sem, nl, Nat.reduceSub, Nat.reduceAdd, List.reduceReplicate]
  refine Wp.seqK fun K1 hK1 => ?_
  refine rg ?_
  refine hK1 _ ?_
  clear hK1 K1
  refine Wp.seqK fun K2 hK2 => ?_
  refine Wp.seqK fun K3 hK3 => ?_
  refine rg ?_
  refine hK3 _ ?_
  clear hK3 K3
  refine Wp.condS (fun h4 => ?_) (fun h4 => ?_)
  · omega
  · refine Wp.skip ?_
    refine hK2 _ ?_
    clear hK2 K2
    refine Wp.seqK fun K4 hK4 => ?_
    refine rg ?_
    refine ⟨rfl, CallK.valA (h := digits_c _ (by omega)) (k := ?_)⟩
    refine evd ?_
    refine hK4 _ ?_
    clear hK4 K4
    refine Wp.ret (retV ?_)
    simp only [List.getD_cons_zero, List.getD_cons_succ]
theorem tmod10 (n : Nat) : (n : Int).tmod 10 = ((n % 10 : Nat) : Int) := by rw [Int.tmod_eq_emod_of_nonneg (by omega)]; rfl
theorem l03Dec_c (n : Nat) (hn : n ≤ 1000000000000000000) : Val E.P 93 [I n] (S (mkB (decL n))) := by
  refine CallsA.body (E := E) (fn := Tryz.f93) Tryz.func93 rfl fun B hB => ?_
  simp only [Tryz.ntmps93, go_sem, nl, Nat.reduceSub, Nat.reduceAdd, List.reduceReplicate]
  refine Wp.seqK fun K1 hK1 => ?_
  refine rg ?_
  refine hK1 _ ?_
  clear hK1 K1
  refine Wp.seqK fun K2 hK2 => ?_
  refine Wp.seqK fun K3 hK3 => ?_
  refine rg ?_
  refine hK3 _ ?_
  clear hK3 K3
  refine Wp.condS (fun h7 => ?_) (fun h7 => ?_)
  · refine Wp.seqK fun K4 hK4 => ?_
    refine rg ?_
    refine hK4 _ ?_
    clear hK4 K4
    refine Wp.ret (retV ?_)
    simp only [List.getD_cons_zero, List.getD_cons_succ]
    have h0 : n = 0 := by omega
    subst h0
    rw [decL]; rfl
  · refine Wp.skip ?_
    refine hK2 _ ?_
    clear hK2 K2
    refine Wp.seqK fun K5 hK5 => ?_
    refine rg ?_
    refine hK5 _ ?_
    clear hK5 K5
    refine Wp.seqK fun K6 hK6 => ?_
    refine rg ?_
    refine hK6 _ ?_
    clear hK6 K6
    refine Wp.seqK fun K7 hK7 => ?_
    refine Wp.block ?_
    refine Wp.loopU0 (α := Nat × List UInt8) (fun x => [.k, .d, .d, .v (S (mkB x.2)), .v (I (x.1 : Int)), .d5, .d5, .d5, .d5, .d5]) (fun x => x.1 ≤ n ∧ rest x.1 x.2 = decL n ∧ (x.2 = [] → 0 < x.1)) (fun x => x.1) (n, []) (⟨Nat.le_refl _, rfl, fun _ => by omega⟩) anyS ?_
    rintro x f8 K8 ⟨hn, he, hp⟩ hK8
    simp only [updT_k, updT_d, updT_d5, updT_v, updT_nil, Nat.reduceAdd]
    refine Wp.seqK fun K9 hK9 => ?_
    refine Wp.seqK fun K10 hK10 => ?_
    refine rg ?_
    refine hK10 _ ?_
    clear hK10 K10
    refine Wp.condS (fun h10 => ?_) (fun h10 => ?_)
    · have hc : 0 < x.1 := by omega
      refine Wp.skip ?_
      refine hK9 _ ?_
      clear hK9 K9
      refine Wp.block ?_
      refine Wp.seqK fun K11 hK11 => ?_
      refine rg ?_
      rw [tmod10]
      refine hK11 _ ?_
      clear hK11 K11
      refine Wp.seqK fun K12 hK12 => ?_
      refine Wp.seqK fun K13 hK13 => ?_
      refine rg ?_
      refine hK13 _ ?_
      clear hK13 K13
      refine Wp.condS (fun h14 => ?_) (fun h14 => ?_)
      · exact absurd h14 (by omega)
      · refine Wp.skip ?_
        refine hK12 _ ?_
        clear hK12 K12
        refine Wp.seqK fun K14 hK14 => ?_
        refine rg ?_
        rw [dig_slice (Nat.mod_lt _ (by decide))]
        refine ⟨?_, dig_room he (by omega), ?_⟩
        · show ((x.1 % 10 + 1 : Nat) : Int) ≤ ((10 : Nat) : Int); omega
        refine hK14 _ ?_
        clear hK14 K14
        refine rg ?_
        try simp only [thn, inB, if_true, reduceIte]
        exact hK8 (x.1 / 10, dig (x.1 % 10) :: x.2) _ ⟨by omega, (rest_step (.inr hc)).trans he, fun e => by cases e⟩ (Nat.div_lt_self hc (by decide)) (anyS (h := by simp only [mkB_app, tdiv10]; rw [wr (by omega) (by omega)]; rfl))
    · have hz : x.1 = 0 := by omega
      have hx : x.2 ≠ [] := fun e => by have := hp e; omega
      refine Wp.exit ?_
      try simp only [thn, inB, if_true, reduceIte]
      clear hK9 K9
      clear hK8 K8
      refine hK7 _ ?_
      clear hK7 K7
      refine Wp.seqK fun K15 hK15 => ?_
      refine Wp.seqK fun K16 hK16 => ?_
      refine rg ?_
      refine hK16 _ ?_
      clear hK16 K16
      refine Wp.condS (fun h26 => ?_) (fun h26 => ?_)
      · omega
      · refine Wp.skip ?_
        refine hK15 _ ?_
        clear hK15 K15
        refine Wp.seqK fun K17 hK17 => ?_
        refine rg ?_
        refine hK17 _ ?_
        clear hK17 K17
        refine Wp.ret (retV ?_)
        simp only [List.getD_cons_zero, List.getD_cons_succ]
        rw [← he, rest_end hz hx]
theorem pw12 {n : Int} (h1 : 0 ≤ n) (h2 : n ≤ 12) : (2 : Int) ^ n.toNat ≤ 4096 ∧ 1 ≤ (2 : Int) ^ n.toNat := by
  have : n = 0 ∨ n = 1 ∨ n = 2 ∨ n = 3 ∨ n = 4 ∨ n = 5 ∨ n = 6 ∨ n = 7 ∨ n = 8 ∨ n = 9 ∨ n = 10 ∨ n = 11 ∨ n = 12 := by omega
  rcases this with h | h | h | h | h | h | h | h | h | h | h | h | h <;> subst h <;> decide
theorem tokA_no {n : Int} {o : ByteArray} (h : (!(decide (0 ≤ n) && decide (n ≤ 12))) = true) : tokA n o = false := by
  simp at h
  exact decide_eq_false (by omega)
theorem tokA_n {n : Int} (h : (!(decide (0 ≤ n) && decide (n ≤ 12))) = false) : 0 ≤ n ∧ n ≤ 12 := by simpa using h
theorem tokA_yes {n : Int} {o : ByteArray} (h : (!(decide (0 ≤ n) && decide (n ≤ 12))) = false) : tokA n o = decide ((o.size : Int) = 2 ^ n.toNat) := by
  have h := tokA_n h
  unfold tokA
  rw [decide_eq_decide]
  omega
theorem all_push {l : List UInt8} {x : Nat} (hx : x < l.length) (h : (l.take x).all bitB = true) (hb : bitB (l.getD x 0) = true) : (l.take (x + 1)).all bitB = true := by
  rw [take_push 0 hx, List.all_append, h, List.all_cons, hb]
  rfl
theorem bit_a {b : UInt8} (g : (!decide ((b.toNat : Int) = 48)) = true) : bitB b = decide ((b.toNat : Int) = 49) := by
  simp at g
  unfold bitB
  rw [decide_eq_decide]
  omega
theorem bit_b {b : UInt8} (g : (!decide ((b.toNat : Int) = 48)) = false) : bitB b = true := by
  simp at g
  exact decide_eq_true (.inl (by omega))
theorem tok_bad {n : Int} {o : ByteArray} {x : Nat} (hx : x < o.data.toList.length) (hb : bitB (o.data.toList.getD x 0) = false) : tableOk n o = false := by
  unfold tableOk
  have : o.data.toList.all bitB = false := by
    rw [List.all_eq_false]
    refine ⟨o.data.toList[x], List.getElem_mem hx, ?_⟩
    rw [List.getD_eq_getElem?_getD, List.getElem?_eq_getElem hx] at hb
    rw [show bitB o.data.toList[x] = false from hb]
    decide
  rw [this, Bool.and_false]
theorem tok_ok {n : Int} {o : ByteArray} {x : Nat} (h : tokA n o = true) (hx : x = o.data.toList.length) (ha : (o.data.toList.take x).all bitB = true) : tableOk n o = true := by
  unfold tableOk
  rw [hx, List.take_length] at ha
  rw [h, ha]
  rfl
theorem sTableOk_c (n : Int) (o : ByteArray) (ho : o.size ≤ 9223372036854775807) : Val E.P 121 [.agg (tb n o)] (T (tableOk n o)) := by
  refine CallsA.body (E := E) (fn := Tryz.f121) Tryz.func121 rfl fun B hB => ?_
  simp only [Tryz.ntmps121, go_sem, nl, Nat.reduceSub, Nat.reduceAdd, List.reduceReplicate]
  have hsz := size_list o
  refine Wp.seqK fun K1 hK1 => ?_
  refine rg ?_
  refine hK1 _ ?_
  clear hK1 K1
  refine Wp.seqK fun K2 hK2 => ?_
  refine Wp.seqU0 [.d, .k, .d5, .d5, .d, .d, .d, .d, .v (T (!tokA n o)), .d5, .d5, .d5, .d, .d, .d, .d] (fun K3 hK3 => ?_) ?_
  · refine Wp.drawI [0, 1, 2, 3, 4, 5, 6, 7] [2, 10] (by kernel_rfl) ?_
    refine evd ?_
    refine ⟨rfl, CallK.valA (h := l01In_c _ _ _) (k := ?_)⟩
    refine evd ?_
    refine grdA_split rfl (fun g1_5 => ?_) (fun g1_5 => ?_)
    · try simp only [decide_eq_true_eq, decide_eq_false_iff_not] at g1_5
      refine evd ?_
      have e : tokA n o = false := tokA_no g1_5
      exact hK3 _ (anyS (h := by rw [e]; rfl))
    · try simp only [decide_eq_true_eq, decide_eq_false_iff_not] at g1_5
      have hn := tokA_n g1_5
      have hp := pw12 hn.1 hn.2
      refine evd ?_
      refine ⟨rfl, CallK.valA (h := l01Pow2_c _ (by omega) (by omega)) (k := ?_)⟩
      refine evd ?_
      have e := tokA_yes (o := o) g1_5
      exact hK3 _ (anyS (h := by rw [e]; rfl))
  rintro f3
  simp only [updT_k, updT_d, updT_d5, updT_v, updT_nil, Nat.reduceAdd]
  refine Wp.condS (fun h16 => ?_) (fun h16 => ?_)
  · refine Wp.seqK fun K4 hK4 => ?_
    refine rg ?_
    refine hK4 _ ?_
    clear hK4 K4
    refine Wp.ret (retV ?_)
    simp only [List.getD_cons_zero, List.getD_cons_succ]
    have h0 : tokA n o = false := by simpa using h16
    unfold tableOk
    rw [h0]
    rfl
  · refine Wp.skip ?_
    refine hK2 _ ?_
    clear hK2 K2
    refine Wp.seqK fun K5 hK5 => ?_
    refine Wp.seqK fun K6 hK6 => ?_
    refine rg ?_
    refine hK6 _ ?_
    clear hK6 K6
    refine Wp.block ?_
    refine Wp.loopU0 (α := Nat) (fun x => [.d, .k, .d, .v (I x), .d5, .d5, .d5, .d5, .d5, .d5, .d, .d]) (fun x => x ≤ o.size ∧ (o.data.toList.take x).all bitB = true) (fun x => o.size - x) 0 (⟨Nat.zero_le _, rfl⟩) anyS ?_
    rintro x f7 K7 ⟨hx, ha⟩ hK7
    simp only [updT_k, updT_d, updT_d5, updT_v, updT_nil, Nat.reduceAdd]
    refine Wp.seqK fun K8 hK8 => ?_
    refine Wp.seqK fun K9 hK9 => ?_
    refine rg ?_
    refine hK9 _ ?_
    clear hK9 K9
    refine Wp.condS (fun h21 => ?_) (fun h21 => ?_)
    · refine Wp.skip ?_
      refine hK8 _ ?_
      clear hK8 K8
      refine Wp.seqK fun K10 hK10 => ?_
      refine Wp.block ?_
      refine Wp.seqU0 [.d, .k, .d, .k, .d5, .d5, .d5, .d5, .d5, .d5, .d, .v (T (!bitB (o.data.toList.getD x 0)))] (fun K11 hK11 => ?_) ?_
      · refine rg ?_
        refine grdA_split rfl (fun g6_6 => ?_) (fun g6_6 => ?_)
        · try simp only [decide_eq_true_eq, decide_eq_false_iff_not] at g6_6
          refine evd ?_
          have e := bit_a g6_6
          exact hK11 _ (anyS (h := by rw [e]; rfl))
        · try simp only [decide_eq_true_eq, decide_eq_false_iff_not] at g6_6
          refine evd ?_
          have e := bit_b g6_6
          exact hK11 _ (anyS (h := by rw [e]; rfl))
      rintro f11
      simp only [updT_k, updT_d, updT_d5, updT_v, updT_nil, Nat.reduceAdd]
      refine Wp.condS (fun h35 => ?_) (fun h35 => ?_)
      · refine Wp.seqK fun K12 hK12 => ?_
        refine rg ?_
        refine hK12 _ ?_
        clear hK12 K12
        refine Wp.ret (retV ?_)
        simp only [List.getD_cons_zero, List.getD_cons_succ]
        rw [tok_bad (x := x) (by omega) (by simpa using h35)]
      · have hb : bitB (o.data.toList.getD x 0) = true := by simpa using h35
        refine Wp.skip ?_
        try simp only [thn, inB, if_true, reduceIte]
        refine hK10 _ ?_
        clear hK10 K10
        refine rg ?_
        exact hK7 (x + 1) _ ⟨by omega, all_push (by omega) ha hb⟩ (by omega) anyS
    · have hxl : x = o.data.toList.length := by omega
      refine Wp.exit ?_
      try simp only [thn, inB, if_true, reduceIte]
      clear hK8 K8
      clear hK7 K7
      refine hK5 _ ?_
      clear hK5 K5
      refine Wp.seqK fun K13 hK13 => ?_
      refine rg ?_
      refine hK13 _ ?_
      clear hK13 K13
      refine Wp.ret (retV ?_)
      simp only [List.getD_cons_zero, List.getD_cons_succ]
      rw [tok_ok (by simpa using h16) hxl ha]
theorem iTableOk_c (n : Int) (o : ByteArray) (ho : o.size ≤ 9223372036854775807) : Val E.P 137 [.agg (tb n o)] (T (tableOk n o)) := by
  refine CallsA.body (E := E) (fn := Tryz.f137) Tryz.func137 rfl fun B hB => ?_
  simp only [Tryz.ntmps137, go_sem, nl, Nat.reduceSub, Nat.reduceAdd, List.reduceReplicate]
  have hsz := size_list o
  refine Wp.seqK fun K1 hK1 => ?_
  refine rg ?_
  refine hK1 _ ?_
  clear hK1 K1
  refine Wp.seqK fun K2 hK2 => ?_
  refine Wp.seqU0 [.d, .k, .d5, .d5, .d5, .v (T (!tokA n o)), .d5, .d5, .d5, .d, .d, .d, .d] (fun K3 hK3 => ?_) ?_
  · refine rg ?_
    refine ⟨rfl, CallK.valA (h := within_c _ _ _) (k := ?_)⟩
    refine evd ?_
    refine grdA_split rfl (fun g1_5 => ?_) (fun g1_5 => ?_)
    · try simp only [decide_eq_true_eq, decide_eq_false_iff_not] at g1_5
      refine evd ?_
      have e : tokA n o = false := tokA_no g1_5
      exact hK3 _ (anyS (h := by rw [e]; rfl))
    · try simp only [decide_eq_true_eq, decide_eq_false_iff_not] at g1_5
      have hn := tokA_n g1_5
      have hp := pw12 hn.1 hn.2
      refine evd ?_
      have e := tokA_yes (o := o) g1_5
      exact hK3 _ (anyS (h := by rw [e]; rfl))
  rintro f3
  simp only [updT_k, updT_d, updT_d5, updT_v, updT_nil, Nat.reduceAdd]
  refine Wp.condS (fun h17 => ?_) (fun h17 => ?_)
  · refine Wp.seqK fun K4 hK4 => ?_
    refine rg ?_
    refine hK4 _ ?_
    clear hK4 K4
    refine Wp.ret (retV ?_)
    simp only [List.getD_cons_zero, List.getD_cons_succ]
    have h0 : tokA n o = false := by simpa using h17
    unfold tableOk
    rw [h0]
    rfl
  · refine Wp.skip ?_
    refine hK2 _ ?_
    clear hK2 K2
    refine Wp.seqK fun K5 hK5 => ?_
    refine Wp.seqK fun K6 hK6 => ?_
    refine rg ?_
    refine hK6 _ ?_
    clear hK6 K6
    refine Wp.block ?_
    refine Wp.loopU0 (α := Nat) (fun x => [.d, .k, .d5, .d5, .d5, .d, .d, .d, .k, .v (I x), .d5, .d5, .d5]) (fun x => x ≤ o.size ∧ (o.data.toList.take x).all bitB = true) (fun x => o.size - x) 0 (⟨Nat.zero_le _, rfl⟩) anyS ?_
    rintro x f7 K7 ⟨hx, ha⟩ hK7
    simp only [updT_k, updT_d, updT_d5, updT_v, updT_nil, Nat.reduceAdd]
    refine Wp.seqK fun K8 hK8 => ?_
    refine rg ?_
    refine hK8 _ ?_
    clear hK8 K8
    refine Wp.seqK fun K9 hK9 => ?_
    refine Wp.condS (fun h22 => ?_) (fun h22 => ?_)
    · refine Wp.skip ?_
      refine hK9 _ ?_
      clear hK9 K9
      refine Wp.seqK fun K10 hK10 => ?_
      refine Wp.block ?_
      refine Wp.seqK fun K11 hK11 => ?_
      refine rg ?_
      refine hK11 _ ?_
      clear hK11 K11
      refine Wp.seqU0 [.d, .k, .d5, .d5, .d5, .d, .d, .d, .k, .k, .d5, .d5, .d, .d, .d, .v (T (!bitB (o.data.toList.getD x 0))), .d] (fun K12 hK12 => ?_) ?_
      · refine rg ?_
        refine grdA_split rfl (fun g6_6 => ?_) (fun g6_6 => ?_)
        · try simp only [decide_eq_true_eq, decide_eq_false_iff_not] at g6_6
          refine evd ?_
          have e := bit_a g6_6
          exact hK12 _ (anyS (h := by rw [e]; rfl))
        · try simp only [decide_eq_true_eq, decide_eq_false_iff_not] at g6_6
          refine evd ?_
          have e := bit_b g6_6
          exact hK12 _ (anyS (h := by rw [e]; rfl))
      rintro f12
      simp only [updT_k, updT_d, updT_d5, updT_v, updT_nil, Nat.reduceAdd]
      refine Wp.condS (fun h35 => ?_) (fun h35 => ?_)
      · refine Wp.seqK fun K13 hK13 => ?_
        refine rg ?_
        refine hK13 _ ?_
        clear hK13 K13
        refine Wp.ret (retV ?_)
        simp only [List.getD_cons_zero, List.getD_cons_succ]
        rw [tok_bad (x := x) (by omega) (by simpa using h35)]
      · have hb : bitB (o.data.toList.getD x 0) = true := by simpa using h35
        refine Wp.skip ?_
        try simp only [thn, inB, if_true, reduceIte]
        refine hK10 _ ?_
        clear hK10 K10
        refine rg ?_
        exact hK7 (x + 1) _ ⟨by omega, all_push (by omega) ha hb⟩ (by omega) anyS
    · have hxl : x = o.data.toList.length := by omega
      refine Wp.exit ?_
      try simp only [thn, inB, if_true, reduceIte]
      clear hK9 K9
      clear hK7 K7
      refine hK5 _ ?_
      clear hK5 K5
      refine Wp.seqK fun K14 hK14 => ?_
      refine rg ?_
      refine hK14 _ ?_
      clear hK14 K14
      refine Wp.ret (retV ?_)
      simp only [List.getD_cons_zero, List.getD_cons_succ]
      rw [tok_ok (by simpa using h17) hxl ha]
end Go.Proofs.YtonacngeaknlcaaGreatDoor.RE
