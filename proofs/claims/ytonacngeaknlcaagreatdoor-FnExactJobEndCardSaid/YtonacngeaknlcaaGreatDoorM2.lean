/- What a machine calls. Conditions: those that a theorem names. -/
import Derived.Test.YtonacngeaknlcaaGreatDoorM1
import Derived.Test.YtonacngeaknlcaaGreatDoorS1
import Derived.Test.YtonacngeaknlcaaGreatDoorSL
set_option linter.unusedVariables false
set_option linter.unusedSimpArgs false
namespace Go.Proofs.YtonacngeaknlcaaGreatDoor.RE
open Go Go.RowKit
set_option maxRecDepth 100000
set_option maxHeartbeats 8000000

/-! ### A byte in a text -/
theorem idx1_c (s : ByteArray) (c : UInt8) : Val E.P 267 [S s, .l (.sc (.int .u8 (c.toNat : Int)))] (I (Lib.indexByte s.data.toList c)) := by
  have := idx_c s c.toNat
  rwa [show ((c.toNat : Int)).toNat.toUInt8 = c from by simp] at this
theorem has_idx (c : UInt8) : ∀ l : List UInt8, decide (0 ≤ Lib.indexByte l c) = l.contains c
  | [] => rfl
  | b :: l => by
    have ih := has_idx c l
    have h := Lib.indexByte_ge l c
    rw [List.contains_cons]
    by_cases hb : b = c
    · subst hb
      have e0 : Lib.indexByte (b :: l) b = 0 := by simp [Lib.indexByte]
      rw [e0]; simp
    · have e0 : Lib.indexByte (b :: l) c = if (Lib.indexByte l c == -1) = true then -1 else Lib.indexByte l c + 1 := by rw [Lib.indexByte, if_neg (by simpa using hb)]
      rw [e0]
      have e : (c == b) = false := by simpa using fun e : c = b => hb e.symm
      rw [e, Bool.false_or, ← ih]
      split
      · rename_i h1
        have h1 : Lib.indexByte l c = -1 := by simpa using h1
        rw [h1]
      · rename_i h1
        have h1 : ¬ Lib.indexByte l c = -1 := by simpa using h1
        rw [decide_eq_decide]; omega
theorem index1_c (s : ByteArray) (c : UInt8) : Val E.P 265 [S s, S ⟨#[c]⟩] (I (Lib.indexByte s.data.toList c)) := by
  refine CallsA.body (E := E) (fn := Tryz.f265) Tryz.func265 rfl fun B hB => ?_
  simp only [Tryz.ntmps265, go_sem, nl, Nat.reduceSub, Nat.reduceAdd, List.reduceReplicate]
  refine Wp.seqK fun K1 hK1 => ?_
  refine rg ?_
  refine hK1 _ ?_
  clear hK1 K1
  refine Wp.seqU0 [.k, .k, .d, .d, .d, .v (I 1), .d5, .d5, .d5, .d5, .d5, .d5, .d5, .d5, .d5, .d5, .d5, .d5, .d5, .d5, .d5, .d5, .d5, .d5, .d5, .d5, .d5, .d5, .d5, .d5, .d5, .d5, .d5, .d, .d] (fun K2 hK2 => ?_) ?_
  · refine rg ?_
    exact hK2 _ anyS
  rintro f2
  simp only [updT_k, updT_d, updT_d5, updT_v, updT_nil, Nat.reduceAdd]
  refine Wp.seqK fun K3 hK3 => ?_
  refine Wp.block ?_
  refine Wp.seqU0 [.k, .k, .d, .d, .d, .k, .d5, .d5, .v (T (decide ((⟨#[c]⟩ : ByteArray) = s))), .d5, .d5, .d5, .d5, .d5, .d5, .d5, .d5, .d5, .d5, .d5, .d5, .d5, .d5, .d5, .d5, .d5, .d5, .d5, .d5, .d5, .d5, .d5, .d5, .d5, .d] (fun K4 hK4 => ?_) ?_
  · refine rg ?_
    exact hK4 _ anyS
  rintro f4
  simp only [updT_k, updT_d, updT_d5, updT_v, updT_nil, Nat.reduceAdd]
  refine Wp.condS (fun h16 => ?_) (fun h16 => ?_)
  · subst h16
    refine Wp.seqK fun K5 hK5 => ?_
    refine rg ?_
    refine hK5 _ ?_
    clear hK5 K5
    refine Wp.ret (retV ?_)
    try simp only [List.getD_cons_zero, List.getD_cons_succ]
    show I 0 = I (Lib.indexByte [c] c)
    simp [Lib.indexByte]
  · refine Wp.seqU0 [.k, .k, .d, .d, .d, .k, .d5, .d5, .d5, .d, .d, .d, .v (T true), .d5, .d5, .d5, .d5, .d5, .d5, .d5, .d5, .d5, .d5, .d5, .d5, .d5, .d5, .d5, .d5, .d5, .d5, .d5, .d5, .d5, .d5, .d5, .d, .d, .d] (fun K6 hK6 => ?_) ?_
    · refine rg ?_
      exact hK6 _ anyS
    rintro f6
    simp only [updT_k, updT_d, updT_d5, updT_v, updT_nil, Nat.reduceAdd]
    refine Wp.condS (fun h24 => ?_) (fun h24 => ?_)
    · refine Wp.seqK fun K7 hK7 => ?_
      refine rg ?_
      refine ⟨by show (0 : Int) < 1; decide, ?_⟩
      refine ⟨rfl, CallK.valA (h := idx1_c _ _) (k := ?_)⟩
      refine evd ?_
      refine hK7 _ ?_
      clear hK7 K7
      refine Wp.ret (retV ?_)
      try simp only [List.getD_cons_zero, List.getD_cons_succ]
      try rfl
    · exact absurd h24 (by decide)
theorem sIndex_c (s : ByteArray) (c : UInt8) : Val E.P 246 [S s, S ⟨#[c]⟩] (I (Lib.indexByte s.data.toList c)) := by
  refine CallsA.body (E := E) (fn := Tryz.f246) Tryz.func246 rfl fun B hB => ?_
  simp only [Tryz.ntmps246, go_sem, nl, Nat.reduceSub, Nat.reduceAdd, List.reduceReplicate]
  refine Wp.seqK fun K1 hK1 => ?_
  refine rg ?_
  refine hK1 _ ?_
  clear hK1 K1
  refine Wp.seqK fun K2 hK2 => ?_
  refine rg ?_
  refine ⟨rfl, CallK.valA (h := index1_c _ _) (k := ?_)⟩
  refine evd ?_
  refine hK2 _ ?_
  clear hK2 K2
  refine Wp.ret (retV ?_)
  try simp only [List.getD_cons_zero, List.getD_cons_succ]
theorem contains_c (s : ByteArray) (c : UInt8) : Val E.P 241 [S s, S ⟨#[c]⟩] (T (hasB c s)) := by
  refine CallsA.body (E := E) (fn := Tryz.f241) Tryz.func241 rfl fun B hB => ?_
  simp only [Tryz.ntmps241, go_sem, nl, Nat.reduceSub, Nat.reduceAdd, List.reduceReplicate]
  refine Wp.seqK fun K1 hK1 => ?_
  refine rg ?_
  refine hK1 _ ?_
  clear hK1 K1
  refine Wp.seqK fun K2 hK2 => ?_
  refine rg ?_
  refine ⟨rfl, CallK.valA (h := sIndex_c _ _) (k := ?_)⟩
  refine evd ?_
  refine hK2 _ ?_
  clear hK2 K2
  refine Wp.ret (retV ?_)
  try simp only [List.getD_cons_zero, List.getD_cons_succ]
  exact congrArg T (has_idx c _)
theorem known_c (n : Int) (o : ByteArray) : Val E.P 207 [.agg (tb n o)] (I (knownB o)) := by
  refine CallsA.body (E := E) (fn := Tryz.f207) Tryz.func207 rfl fun B hB => ?_
  simp only [Tryz.ntmps207, go_sem, nl, Nat.reduceSub, Nat.reduceAdd, List.reduceReplicate]
  refine Wp.seqK fun K1 hK1 => ?_
  refine rg ?_
  refine hK1 _ ?_
  clear hK1 K1
  refine Wp.seqK fun K2 hK2 => ?_
  refine rg ?_
  refine ⟨rfl, CallK.valA (h := contains_c _ _) (k := ?_)⟩
  refine evd ?_
  refine hK2 _ ?_
  clear hK2 K2
  refine Wp.seqK fun K3 hK3 => ?_
  refine Wp.seqU0 [.d, .d, .d, .k, .d5, .d, .d, .d, .v (T (hasB 49 o && hasB 48 o)), .d, .d] (fun K4 hK4 => ?_) ?_
  · refine rg ?_
    refine grdA_split rfl (fun g2_2 => ?_) (fun g2_2 => ?_)
    · try simp only [decide_eq_true_eq, decide_eq_false_iff_not] at g2_2
      try refine evd ?_
      refine ⟨rfl, CallK.valA (h := contains_c _ _) (k := ?_)⟩
      refine evd ?_
      exact hK4 _ (anyS (h := by first | rfl | (simp only [g2_2, Bool.true_or, Bool.or_true, Bool.false_or, Bool.or_false, Bool.true_and, Bool.and_true, Bool.false_and, Bool.and_false, Bool.not_true, Bool.not_false, decide_true, decide_false, eq_self, Int.reduceEq] <;> rfl)))
    · try simp only [decide_eq_true_eq, decide_eq_false_iff_not] at g2_2
      try refine evd ?_
      exact hK4 _ (anyS (h := by first | rfl | (simp only [g2_2, Bool.true_or, Bool.or_true, Bool.false_or, Bool.or_false, Bool.true_and, Bool.and_true, Bool.false_and, Bool.and_false, Bool.not_true, Bool.not_false, decide_true, decide_false, eq_self, Int.reduceEq] <;> rfl)))
  rintro f4
  simp only [updT_k, updT_d, updT_d5, updT_v, updT_nil, Nat.reduceAdd]
  refine Wp.condS (fun h12 => ?_) (fun h12 => ?_)
  · refine Wp.seqK fun K5 hK5 => ?_
    refine rg ?_
    refine hK5 _ ?_
    clear hK5 K5
    refine Wp.ret (retV ?_)
    try simp only [List.getD_cons_zero, List.getD_cons_succ]
    unfold knownB
    rw [if_pos h12.1, if_pos h12.2]
  · refine Wp.skip ?_
    refine hK3 _ ?_
    clear hK3 K3
    refine Wp.seqK fun K6 hK6 => ?_
    refine rg ?_
    refine ⟨rfl, CallK.valA (h := bit_c _) (k := ?_)⟩
    refine evd ?_
    refine hK6 _ ?_
    clear hK6 K6
    refine Wp.ret (retV ?_)
    try simp only [List.getD_cons_zero, List.getD_cons_succ]
    unfold knownB
    cases h1 : hasB 49 o
    · simp
    · rw [h1, Bool.true_and] at h12
      simp [h12]

theorem half_0 {o : ByteArray} {h : Nat} (hs : o.size = 2 * h) : halfB 0 o = o.extract 0 (o.size / 2) := by
  unfold halfB
  rw [show (0 : Int).toNat = 0 from rfl, Nat.zero_mul, Nat.zero_add]
theorem half_1 {o : ByteArray} {h : Nat} (hs : o.size = 2 * h) : halfB 1 o = o.extract (o.size / 2) o.size := by
  unfold halfB
  rw [show (1 : Int).toNat = 1 from rfl, Nat.one_mul, show o.size / 2 + o.size / 2 = o.size by omega]
theorem tdiv2 (n : Nat) : (n : Int).tdiv 2 = ((n / 2 : Nat) : Int) := by rw [Int.tdiv_eq_ediv_of_nonneg (by omega)]; rfl
theorem left_nums {n : Int} {o : ByteArray} {l : List Int} (ht : tabN n.toNat o) (hn : 0 ≤ n ∧ n ≤ 12) (ha : l.all bitI = true) (hl : (l.length : Int) ≤ n) :
    (0 ≤ plV l ∧ plV l ≤ 4096) ∧ (0 ≤ plV l * 2 ^ (n - l.length).toNat ∧ plV l * 2 ^ (n - l.length).toNat ≤ (plV l + 1) * 2 ^ (n - l.length).toNat ∧ (plV l + 1) * 2 ^ (n - l.length).toNat ≤ (o.size : Int)) ∧ (o.size : Int) ≤ 4096 ∧ (1 ≤ (2 : Int) ^ (n - l.length).toNat ∧ (2 : Int) ^ (n - l.length).toNat ≤ 4096) ∧
    o.extract (plV l * 2 ^ (n - l.length).toNat).toNat ((plV l + 1) * 2 ^ (n - l.length).toNat).toNat = leftB o l := by
  have hp := plV_nn ha
  have e0 : (n - l.length).toNat = n.toNat - l.length := by omega
  have hpw : (2 : Int) ^ (n - l.length).toNat = ((2 ^ (n.toNat - l.length) : Nat) : Int) := by rw [e0]; simp
  have hk : 2 ^ l.length * 2 ^ (n.toNat - l.length) = 2 ^ n.toNat := by rw [← Nat.pow_add]; congr 1; omega
  have h12 : 2 ^ n.toNat ≤ 2 ^ 12 := Nat.pow_le_pow_right (by decide) (by omega)
  have h12l : 2 ^ l.length ≤ 2 ^ 12 := Nat.pow_le_pow_right (by decide) (by omega)
  have h12k : 2 ^ (n.toNat - l.length) ≤ 2 ^ 12 := Nat.pow_le_pow_right (by decide) (by omega)
  have hz : 1 ≤ 2 ^ (n.toNat - l.length) := Nat.one_le_two_pow
  have h4 : (2 : Nat) ^ 12 = 4096 := rfl
  have hle := left_ext ht ha (by omega)
  have hs := ht.1
  have hp2 : ((2 ^ l.length : Nat) : Int) = (2 : Int) ^ l.length := by simp
  rw [hpw, hle]
  generalize 2 ^ (n.toNat - l.length) = z at *
  obtain ⟨p, hpe⟩ := Int.eq_ofNat_of_zero_le hp.1
  rw [hpe] at hp ⊢
  have hpl : p + 1 ≤ 2 ^ l.length := by omega
  have hmul : (p + 1) * z ≤ 2 ^ l.length * z := Nat.mul_le_mul_right _ hpl
  have c1 : ((p : Nat) : Int) * (z : Int) = ((p * z : Nat) : Int) := by simp
  have c2 : ((p : Int) + 1) * (z : Int) = (((p + 1) * z : Nat) : Int) := by simp
  have c3 : (p + 1) * z = p * z + z := by rw [Nat.add_mul, Nat.one_mul]
  rw [c1, c2]
  refine ⟨⟨by omega, by omega⟩, ⟨by omega, by omega, by omega⟩, by omega, ⟨by omega, by omega⟩, ?_⟩
  rw [Int.toNat_natCast, Int.toNat_natCast, Int.toNat_natCast]
theorem leftOf_c (n : Int) (o : ByteArray) (l : List Int) (ht : tabN n.toNat o) (hn : 0 ≤ n ∧ n ≤ 12) (ha : l.all bitI = true) (hl : (l.length : Int) ≤ n) : Val E.P 206 [.agg (tb n o), dI l] (.agg (tb (n - l.length) (leftB o l))) := by
  refine CallsA.body (E := E) (fn := Tryz.f206) Tryz.func206 rfl fun B hB => ?_
  simp only [Tryz.ntmps206, go_sem, nl, Nat.reduceSub, Nat.reduceAdd, List.reduceReplicate]
  have hb0 := left_nums ht hn ha hl
  obtain ⟨hb1, hb2, hb3, hb4, hb5⟩ := hb0
  refine Wp.seqK fun K1 hK1 => ?_
  refine rg ?_
  refine hK1 _ ?_
  clear hK1 K1
  refine Wp.seqK fun K2 hK2 => ?_
  refine rg ?_
  refine ⟨rfl, CallK.valA (h := placeOfBits_c _ (by omega)) (k := ?_)⟩
  refine evd ?_
  simp only [ha, if_true]
  refine hK2 _ ?_
  clear hK2 K2
  refine Wp.seqK fun K3 hK3 => ?_
  refine rg ?_
  refine hK3 _ ?_
  clear hK3 K3
  refine Wp.seqK fun K4 hK4 => ?_
  refine rg ?_
  refine hK4 _ ?_
  clear hK4 K4
  refine Wp.seqK fun K5 hK5 => ?_
  refine rg ?_
  refine hK5 _ ?_
  clear hK5 K5
  refine Wp.ret (retV ?_)
  try simp only [List.getD_cons_zero, List.getD_cons_succ]
  rw [hb5]; rfl
theorem sHalf0_c (n : Int) (o : ByteArray) (ht : tabN n.toNat o) (hn : 1 ≤ n ∧ n ≤ 12) : Val E.P 182 [.agg (tb n o), I 0] (.tup [.agg (tb (n - 1) (halfB 0 o)), TB true]) := by
  refine CallsA.body (E := E) (fn := Tryz.f182) Tryz.func182 rfl fun B hB => ?_
  simp only [Tryz.ntmps182, go_sem, nl, Nat.reduceSub, Nat.reduceAdd, List.reduceReplicate]
  have hsz : ∃ h : Nat, o.size = 2 * h ∧ h ≤ 4096 := by
    obtain ⟨k, hk⟩ : ∃ k, n.toNat = k + 1 := ⟨n.toNat - 1, by omega⟩
    have h1 := ht.1
    rw [hk, Nat.pow_succ] at h1
    have h2 : 2 ^ k ≤ 2 ^ 12 := Nat.pow_le_pow_right (by decide) (by omega)
    exact ⟨2 ^ k, by omega, by have : (2 : Nat) ^ 12 = 4096 := rfl; omega⟩
  obtain ⟨h, hs, hh⟩ := hsz
  have hto : tableOk n o = true := tab_iff.2 ⟨by omega, ht⟩
  refine Wp.seqK fun K1 hK1 => ?_
  refine rg ?_
  refine hK1 _ ?_
  clear hK1 K1
  refine Wp.seqK fun K2 hK2 => ?_
  refine Wp.seqU0 [.d, .k, .k, .d, .k, .d5, .d5, .d, .d, .d, .d, .v (T false), .d5, .d5, .d5, .d5] (fun K3 hK3 => ?_) ?_
  · refine rg ?_
    refine ⟨rfl, CallK.valA (h := sTableOk_c _ _ (by omega)) (k := ?_)⟩
    refine evd ?_
    refine grdA_split rfl (fun g1_4 => ?_) (fun g1_4 => ?_)
    · try simp only [decide_eq_true_eq, decide_eq_false_iff_not] at g1_4
      try refine evd ?_
      exfalso
      rw [hto] at g1_4
      cases g1_4
    · try simp only [decide_eq_true_eq, decide_eq_false_iff_not] at g1_4
      try refine evd ?_
      refine grdA_split rfl (fun g1_9 => ?_) (fun g1_9 => ?_)
      · try simp only [decide_eq_true_eq, decide_eq_false_iff_not] at g1_9
        try refine evd ?_
        exfalso
        omega
      · try simp only [decide_eq_true_eq, decide_eq_false_iff_not] at g1_9
        try refine evd ?_
        refine ⟨rfl, CallK.valA (h := l01In_c _ _ _) (k := ?_)⟩
        refine evd ?_
        exact hK3 _ (anyS (h := by rfl))
  rintro f3
  simp only [updT_k, updT_d, updT_d5, updT_v, updT_nil, Nat.reduceAdd]
  refine Wp.condS (fun h19 => ?_) (fun h19 => ?_)
  · cases h19
  · refine Wp.skip ?_
    refine hK2 _ ?_
    clear hK2 K2
    refine Wp.seqK fun K4 hK4 => ?_
    refine rg ?_
    rw [tdiv2]
    refine hK4 _ ?_
    clear hK4 K4
    refine Wp.seqK fun K5 hK5 => ?_
    refine Wp.drawI [0] [15] (by kernel_rfl) ?_
    refine evd ?_
    refine hK5 _ ?_
    clear hK5 K5
    refine Wp.ret (retV ?_)
    try simp only [List.getD_cons_zero, List.getD_cons_succ]
    have e : halfB 0 o = o.extract (0 * ((o.size / 2 : Nat) : Int)).toNat (0 * ((o.size / 2 : Nat) : Int) + ((o.size / 2 : Nat) : Int)).toNat := by
      unfold halfB
      congr 1 <;> omega
    rw [e]; rfl
theorem sHalf1_c (n : Int) (o : ByteArray) (ht : tabN n.toNat o) (hn : 1 ≤ n ∧ n ≤ 12) : Val E.P 182 [.agg (tb n o), I 1] (.tup [.agg (tb (n - 1) (halfB 1 o)), TB true]) := by
  refine CallsA.body (E := E) (fn := Tryz.f182) Tryz.func182 rfl fun B hB => ?_
  simp only [Tryz.ntmps182, go_sem, nl, Nat.reduceSub, Nat.reduceAdd, List.reduceReplicate]
  have hsz : ∃ h : Nat, o.size = 2 * h ∧ h ≤ 4096 := by
    obtain ⟨k, hk⟩ : ∃ k, n.toNat = k + 1 := ⟨n.toNat - 1, by omega⟩
    have h1 := ht.1
    rw [hk, Nat.pow_succ] at h1
    have h2 : 2 ^ k ≤ 2 ^ 12 := Nat.pow_le_pow_right (by decide) (by omega)
    exact ⟨2 ^ k, by omega, by have : (2 : Nat) ^ 12 = 4096 := rfl; omega⟩
  obtain ⟨h, hs, hh⟩ := hsz
  have hto : tableOk n o = true := tab_iff.2 ⟨by omega, ht⟩
  refine Wp.seqK fun K1 hK1 => ?_
  refine rg ?_
  refine hK1 _ ?_
  clear hK1 K1
  refine Wp.seqK fun K2 hK2 => ?_
  refine Wp.seqU0 [.d, .k, .k, .d, .k, .d5, .d5, .d, .d, .d, .d, .v (T false), .d5, .d5, .d5, .d5] (fun K3 hK3 => ?_) ?_
  · refine rg ?_
    refine ⟨rfl, CallK.valA (h := sTableOk_c _ _ (by omega)) (k := ?_)⟩
    refine evd ?_
    refine grdA_split rfl (fun g1_4 => ?_) (fun g1_4 => ?_)
    · try simp only [decide_eq_true_eq, decide_eq_false_iff_not] at g1_4
      try refine evd ?_
      exfalso
      rw [hto] at g1_4
      cases g1_4
    · try simp only [decide_eq_true_eq, decide_eq_false_iff_not] at g1_4
      try refine evd ?_
      refine grdA_split rfl (fun g1_9 => ?_) (fun g1_9 => ?_)
      · try simp only [decide_eq_true_eq, decide_eq_false_iff_not] at g1_9
        try refine evd ?_
        exfalso
        omega
      · try simp only [decide_eq_true_eq, decide_eq_false_iff_not] at g1_9
        try refine evd ?_
        refine ⟨rfl, CallK.valA (h := l01In_c _ _ _) (k := ?_)⟩
        refine evd ?_
        exact hK3 _ (anyS (h := by rfl))
  rintro f3
  simp only [updT_k, updT_d, updT_d5, updT_v, updT_nil, Nat.reduceAdd]
  refine Wp.condS (fun h19 => ?_) (fun h19 => ?_)
  · cases h19
  · refine Wp.skip ?_
    refine hK2 _ ?_
    clear hK2 K2
    refine Wp.seqK fun K4 hK4 => ?_
    refine rg ?_
    rw [tdiv2]
    refine hK4 _ ?_
    clear hK4 K4
    refine Wp.seqK fun K5 hK5 => ?_
    refine Wp.drawI [0] [15] (by kernel_rfl) ?_
    refine evd ?_
    refine hK5 _ ?_
    clear hK5 K5
    refine Wp.ret (retV ?_)
    try simp only [List.getD_cons_zero, List.getD_cons_succ]
    have e : halfB 1 o = o.extract (o.size / 2) (((o.size / 2 : Nat) : Int) + ((o.size / 2 : Nat) : Int)).toNat := by
      unfold halfB
      rw [show (1 : Int).toNat = 1 from rfl, Nat.one_mul]
      congr 1
    rw [e]; rfl
theorem sHalf_c (n v : Int) (o : ByteArray) (ht : tabN n.toNat o) (hn : 1 ≤ n ∧ n ≤ 12) (hv : bitI v = true) : Val E.P 182 [.agg (tb n o), I v] (.tup [.agg (tb (n - 1) (halfB v o)), TB true]) := by
  have := bitI_le hv
  by_cases h : v = 0
  · subst h; exact sHalf0_c n o ht hn
  · obtain rfl : v = 1 := by omega
    exact sHalf1_c n o ht hn

theorem known_diff {n : Nat} {o : ByteArray} (ht : tabN n o) {i : Nat} (hi : i < o.data.toList.length) (h : o.data.toList.getD i 0 ≠ o.data.toList.getD 0 0) : knownB o = -1 := by
  have h0 : 0 < o.data.toList.length := by omega
  have hm1 := mem_getD (d := (0 : UInt8)) hi
  have hm0 := mem_getD (d := (0 : UInt8)) h0
  have b1 := ht.2 _ hm1
  have b0 := ht.2 _ hm0
  have h49 : hasB 49 o = true := by
    unfold hasB
    rw [List.contains_iff_mem]
    rcases b1 with e | e
    · rcases b0 with e0 | e0
      · exact absurd (e.trans e0.symm) h
      · rw [← e0]; exact hm0
    · rw [← e]; exact hm1
  have h48 : hasB 48 o = true := by
    unfold hasB
    rw [List.contains_iff_mem]
    rcases b1 with e | e
    · rw [← e]; exact hm1
    · rcases b0 with e0 | e0
      · rw [← e0]; exact hm0
      · exact absurd (e.trans e0.symm) h
  unfold knownB
  rw [if_pos h49, if_pos h48]
theorem known_same {n : Nat} {o : ByteArray} (ht : tabN n o) (h : ∀ i, i < o.data.toList.length → o.data.toList.getD i 0 = o.data.toList.getD 0 0) : knownB o = ((o.data.toList.getD 0 0).toNat : Int) - 48 := by
  have h0 : 0 < o.data.toList.length := by
    rw [← size_list, ht.1]; exact Nat.two_pow_pos _
  have hm0 := mem_getD (d := (0 : UInt8)) h0
  have ha : ∀ b ∈ o.data.toList, b = o.data.toList.getD 0 0 := fun b hb => by
    obtain ⟨i, hi, rfl⟩ := List.getElem_of_mem hb
    rw [getD_at (d := 0) hi]; exact h i hi
  unfold knownB hasB
  rcases ht.2 _ hm0 with e | e
  · rw [e] at ha ⊢
    rw [if_neg (fun hc => by have := ha _ (List.contains_iff_mem.1 hc); revert this; decide)]; rfl
  · rw [e] at ha hm0 ⊢
    rw [if_pos (List.contains_iff_mem.2 hm0), if_neg (fun hc => by have := ha _ (List.contains_iff_mem.1 hc); revert this; decide)]; rfl
theorem sKnown_c (n : Int) (o : ByteArray) (ht : tabN n.toNat o) (hn : 0 ≤ n ∧ n ≤ 12) : Val E.P 133 [.agg (tb n o)] (I (knownB o)) := by
  refine CallsA.body (E := E) (fn := Tryz.f133) Tryz.func133 rfl fun B hB => ?_
  simp only [Tryz.ntmps133, go_sem, nl, Nat.reduceSub, Nat.reduceAdd, List.reduceReplicate]
  have hsz := size_list o
  have hto : tableOk n o = true := tab_iff.2 ⟨by omega, ht⟩
  have h0 : 1 ≤ o.size := by rw [ht.1]; exact Nat.two_pow_pos _
  have h12 : o.size ≤ 4096 := by
    rw [ht.1]
    exact Nat.pow_le_pow_right (n := 2) (by decide) (show n.toNat ≤ 12 by omega)
  refine Wp.seqK fun K1 hK1 => ?_
  refine rg ?_
  refine hK1 _ ?_
  clear hK1 K1
  refine Wp.seqK fun K2 hK2 => ?_
  refine Wp.seqK fun K3 hK3 => ?_
  refine rg ?_
  refine ⟨rfl, CallK.valA (h := sTableOk_c _ _ (by omega)) (k := ?_)⟩
  refine evd ?_
  refine hK3 _ ?_
  clear hK3 K3
  refine Wp.condS (fun h6 => ?_) (fun h6 => ?_)
  · rw [hto] at h6
    cases h6
  · refine Wp.skip ?_
    refine hK2 _ ?_
    clear hK2 K2
    refine Wp.seqK fun K4 hK4 => ?_
    refine Wp.seqK fun K5 hK5 => ?_
    refine rg ?_
    refine hK5 _ ?_
    clear hK5 K5
    refine Wp.block ?_
    refine Wp.loopU0 (α := Nat) (fun x => [.d, .k, .d, .v (I x), .d5, .d5, .d5, .d5, .d, .d, .d]) (fun x => (1 ≤ x ∧ x ≤ o.data.toList.length) ∧ ∀ i, i < x → o.data.toList.getD i 0 = o.data.toList.getD 0 0) (fun x => o.data.toList.length - x) 1 (⟨⟨Nat.le_refl _, by omega⟩, fun i hi => by rw [show i = 0 by omega]⟩) anyS ?_
    rintro x f6 K6 ⟨hx, ha⟩ hK6
    simp only [updT_k, updT_d, updT_d5, updT_v, updT_nil, Nat.reduceAdd]
    refine Wp.seqK fun K7 hK7 => ?_
    refine Wp.seqK fun K8 hK8 => ?_
    refine rg ?_
    refine hK8 _ ?_
    clear hK8 K8
    refine Wp.condS (fun h11 => ?_) (fun h11 => ?_)
    · have hxl : x < o.data.toList.length := by omega
      refine Wp.skip ?_
      refine hK7 _ ?_
      clear hK7 K7
      refine Wp.seqK fun K9 hK9 => ?_
      refine Wp.block ?_
      refine Wp.seqK fun K10 hK10 => ?_
      have hbx := byte_le (o.data.toList.getD x 0)
      have hb0 := byte_le (o.data.toList.getD 0 0)
      refine Wp.drawI [0] [] (by kernel_rfl) ?_
      refine evd ?_
      refine hK10 _ ?_
      clear hK10 K10
      refine Wp.condS (fun h21 => ?_) (fun h21 => ?_)
      · refine Wp.seqK fun K11 hK11 => ?_
        refine rg ?_
        refine hK11 _ ?_
        clear hK11 K11
        refine Wp.ret (retV ?_)
        try simp only [List.getD_cons_zero, List.getD_cons_succ]
        rw [known_diff ht hxl (fun e => h21 (by rw [e]))]
      · refine Wp.skip ?_
        try simp only [thn, inB, if_true, reduceIte]
        refine hK9 _ ?_
        clear hK9 K9
        refine rg ?_
        exact hK6 (x + 1) _ ⟨⟨by omega, hxl⟩, fun i hi => by
          rcases Nat.lt_succ_iff_lt_or_eq.1 hi with h | h
          · exact ha i h
          · rw [h]; exact UInt8.toNat_inj.1 (by omega)⟩ (by omega) anyS
    · have hxl : x = o.data.toList.length := by omega
      refine Wp.exit ?_
      try simp only [thn, inB, if_true, reduceIte]
      clear hK7 K7
      clear hK6 K6
      refine hK4 _ ?_
      clear hK4 K4
      refine Wp.seqK fun K12 hK12 => ?_
      have hb0 := byte_le (o.data.toList.getD 0 0)
      refine rg ?_
      refine hK12 _ ?_
      clear hK12 K12
      refine Wp.ret (retV ?_)
      try simp only [List.getD_cons_zero, List.getD_cons_succ]
      rw [known_same ht (fun i hi => ha i (by omega))]

theorem leftB_take {o : ByteArray} {l : List Int} {x : Nat} (h : x < l.length) : leftB o (l.take (x + 1)) = halfB (l.getD x 0) (leftB o (l.take x)) := by rw [take_push 0 h, leftB_push]
theorem sLeft_c (m : Mc) (hR : RightM m) : Val E.P 132 [.agg (mD m)] (.agg (tb (m.n - m.vals.length) (leftM m))) := by
  refine CallsA.body (E := E) (fn := Tryz.f132) Tryz.func132 rfl fun B hB => ?_
  simp only [Tryz.ntmps132, go_sem, nl, Nat.reduceSub, Nat.reduceAdd, List.reduceReplicate]
  have hnn := hR.n
  have hvl := hR.vals
  refine Wp.seqK fun K1 hK1 => ?_
  refine rg ?_
  refine hK1 _ ?_
  clear hK1 K1
  refine Wp.seqK fun K2 hK2 => ?_
  refine rg ?_
  refine hK2 _ ?_
  clear hK2 K2
  refine Wp.seqK fun K3 hK3 => ?_
  refine Wp.seqK fun K4 hK4 => ?_
  refine rg ?_
  refine hK4 _ ?_
  clear hK4 K4
  refine Wp.block ?_
  refine Wp.loopU (α := Nat) (fun x => [.d, .k, .k, .k, .v (I x), .d5, .d5, .d5, .d5, .d, .d, .d]) (fun x => [some ⟨0, mD m⟩, some ⟨0, tb 0 ⟨#[]⟩⟩, some ⟨0, tb (m.n - x) (leftB m.ones (m.vals.take x))⟩]) (fun x => x ≤ m.vals.length) (fun x => m.vals.length - x) 0 (Nat.zero_le _) (anyS (ho := by simp [leftB, mD, mCells, tb])) ?_
  rintro x f5 K5 hx hK5
  simp only [updT_k, updT_d, updT_d5, updT_v, updT_nil, Nat.reduceAdd]
  simp only [mD, mCells, tb]
  refine Wp.seqK fun K6 hK6 => ?_
  refine Wp.seqK fun K7 hK7 => ?_
  refine rg ?_
  refine hK7 _ ?_
  clear hK7 K7
  refine Wp.condS (fun h13 => ?_) (fun h13 => ?_)
  · have hxl : x < m.vals.length := by omega
    have hbx : bitI (m.vals.getD x 0) = true := List.all_eq_true.1 hR.va _ (mem_getD hxl)
    have htx : tabN (m.n - x).toNat (leftB m.ones (m.vals.take x)) := by
      have := left_tab hR.tab (all_take (k := x) hR.va) (by rw [List.length_take]; omega)
      rwa [List.length_take, show m.n.toNat - min x m.vals.length = (m.n - x).toNat by omega] at this
    refine Wp.skip ?_
    refine hK6 _ ?_
    clear hK6 K6
    refine Wp.seqK fun K8 hK8 => ?_
    refine Wp.block ?_
    refine Wp.seqU (α := Unit) (fun u_ => [.d, .k, .k, .k, .k, .v (.l (.ptr 3 0 0)), .d5, .d5, .d5, .d5, .d, .d]) (fun u_ => [some ⟨0, mD m⟩, some ⟨0, tb 0 ⟨#[]⟩⟩, some ⟨0, tb (m.n - x) (leftB m.ones (m.vals.take x))⟩, some ⟨0, tb (m.n - x - 1) (halfB (m.vals.getD x 0) (leftB m.ones (m.vals.take x)))⟩]) (fun u_ => True) (fun K9 hK9 => ?_) ?_
    · refine Wp.drawS [0, 2] [6, 10, 11] (.one 0 (.one 1 (.one 2 (.one 3 (.one 4 (.one 5 (.two 6 10 (.one 7 (.one 8 (.one 9 (.one 10 (.one 11 (.one 12 .done)))))) (.one 6 (.one 7 (.one 8 (.one 9 (.one 11 (.one 12 .done))))))))))))) rfl (by kernel_rfl) ?_
      simp only [flg, strip_mk]
      refine tG_one fun Kt5_1 ht5_1 => ?_
      refine evd ?_
      refine ht5_1 _ ?_
      clear ht5_1 Kt5_1
      refine tG_one fun Kt5_2 ht5_2 => ?_
      refine evd ?_
      refine ht5_2 _ ?_
      clear ht5_2 Kt5_2
      refine tG_one fun Kt5_3 ht5_3 => ?_
      refine evd ?_
      refine ht5_3 _ ?_
      clear ht5_3 Kt5_3
      refine tG_one fun Kt5_4 ht5_4 => ?_
      refine evd ?_
      refine ht5_4 _ ?_
      clear ht5_4 Kt5_4
      refine tG_one fun Kt5_5 ht5_5 => ?_
      refine evd ?_
      refine ht5_5 _ ?_
      clear ht5_5 Kt5_5
      refine tG_one fun Kt5_6 ht5_6 => ?_
      refine evd ?_
      refine ht5_6 _ ?_
      clear ht5_6 Kt5_6
      refine tG_two (fun Kt5_7 ht5_7 => ?_) (fun Kt5_7 ht5_7 => ?_)
      · refine evd ?_
        refine ⟨rfl, CallK.valA (h := sHalf_c _ _ _ htx (by omega) hbx) (k := ?_)⟩
        refine evd ?_
        refine ht5_7 _ ?_
        clear ht5_7 Kt5_7
        refine tG_one fun Kt5_8 ht5_8 => ?_
        refine evd ?_
        refine ht5_8 _ ?_
        clear ht5_8 Kt5_8
        refine tG_one fun Kt5_9 ht5_9 => ?_
        refine evd ?_
        refine ht5_9 _ ?_
        clear ht5_9 Kt5_9
        refine tG_one fun Kt5_10 ht5_10 => ?_
        refine evd ?_
        refine ht5_10 _ ?_
        clear ht5_10 Kt5_10
        refine tG_one fun Kt5_11 ht5_11 => ?_
        refine evd ?_
        refine ht5_11 _ ?_
        clear ht5_11 Kt5_11
        refine tG_one fun Kt5_12 ht5_12 => ?_
        refine evd ?_
        refine ht5_12 _ ?_
        clear ht5_12 Kt5_12
        refine tG_one fun Kt5_13 ht5_13 => ?_
        refine evd ?_
        refine ht5_13 _ ?_
        clear ht5_13 Kt5_13
        refine tG_done ?_
        exact hK9 () _ trivial (anyS)
      · refine evd ?_
        refine ht5_7 _ ?_
        clear ht5_7 Kt5_7
        refine tG_one fun Kt5_14 ht5_14 => ?_
        refine evd ?_
        refine ⟨rfl, CallK.valA (h := sHalf_c _ _ _ htx (by omega) hbx) (k := ?_)⟩
        refine evd ?_
        refine ht5_14 _ ?_
        clear ht5_14 Kt5_14
        refine tG_one fun Kt5_15 ht5_15 => ?_
        refine evd ?_
        refine ht5_15 _ ?_
        clear ht5_15 Kt5_15
        refine tG_one fun Kt5_16 ht5_16 => ?_
        refine evd ?_
        refine ht5_16 _ ?_
        clear ht5_16 Kt5_16
        refine tG_one fun Kt5_17 ht5_17 => ?_
        refine evd ?_
        refine ht5_17 _ ?_
        clear ht5_17 Kt5_17
        refine tG_one fun Kt5_18 ht5_18 => ?_
        refine evd ?_
        refine ht5_18 _ ?_
        clear ht5_18 Kt5_18
        refine tG_one fun Kt5_19 ht5_19 => ?_
        refine evd ?_
        refine ht5_19 _ ?_
        clear ht5_19 Kt5_19
        refine tG_done ?_
        exact hK9 () _ trivial (anyS)
    rintro _ f9 _
    simp only [updT_k, updT_d, updT_d5, updT_v, updT_nil, Nat.reduceAdd]
    simp only [mD, mCells, tb]
    refine rg ?_
    try simp only [thn, inB, if_true, reduceIte]
    refine hK8 _ ?_
    clear hK8 K8
    refine Wp.keepR 3 [] (by rw [hB]; simp) (by simp) (by simp) (by simp) ?_
    refine evd ?_
    refine rg ?_
    exact hK5 (x + 1) _ hxl (by omega) (anyS (ho := by rw [leftB_take hxl, show m.n - ((x + 1 : Nat) : Int) = m.n - x - 1 by omega]; rfl))
  · have hxl : x = m.vals.length := by omega
    subst hxl
    simp only [List.take_length]
    refine Wp.exit ?_
    try simp only [thn, inB, if_true, reduceIte]
    clear hK6 K6
    clear hK5 K5
    refine hK3 _ ?_
    clear hK3 K3
    refine Wp.seqK fun K10 hK10 => ?_
    refine rg ?_
    refine hK10 _ ?_
    clear hK10 K10
    refine Wp.ret (retV ?_)
    try simp only [List.getD_cons_zero, List.getD_cons_succ]
    rfl

def idxM (l : List Sn) (k : ByteArray) : Int := match l.findIdx? fun s => decide (s.key = k) with
  | some i => i
  | none => -1
theorem fidx_yes {l : List Sn} {k : ByteArray} {x : Nat} (hx : x < l.length) (h : (l.getD x default).key = k) (ha : ∀ i, i < x → (l.getD i default).key ≠ k) : (l.findIdx? fun s => decide (s.key = k)) = some x := by
  rw [List.findIdx?_eq_some_iff_getElem]
  refine ⟨hx, by rw [getD_at (d := default) hx]; simpa using h, fun j hj => ?_⟩
  rw [getD_at (d := default) (by omega)]
  simpa using ha j hj
theorem fidx_no {l : List Sn} {k : ByteArray} (ha : ∀ i, i < l.length → (l.getD i default).key ≠ k) : (l.findIdx? fun s => decide (s.key = k)) = none := by
  rw [List.findIdx?_eq_none_iff]
  intro s hs
  obtain ⟨i, hi, rfl⟩ := List.getElem_of_mem hs
  rw [getD_at (d := default) hi]
  simpa using ha i hi
theorem find_yes' {l : List Sn} {k : ByteArray} {x : Nat} (hx : x < l.length) (h : (l.getD x default).key = k) (ha : ∀ i, i < x → (l.getD i default).key ≠ k) : findM l k = (l.getD x default).ret := by
  have : (l.find? fun s => decide (s.key = k)) = some (l.getD x default) := by
    rw [List.find?_eq_some_iff_getElem]
    refine ⟨by simpa using h, x, hx, getD_at hx, fun j hj => ?_⟩
    rw [getD_at (d := default) (by omega)]
    simpa using ha j hj
  unfold findM
  rw [this]
theorem find_no' {l : List Sn} {k : ByteArray} (ha : ∀ i, i < l.length → (l.getD i default).key ≠ k) : findM l k = -1 := by
  have : (l.find? fun s => decide (s.key = k)) = none := by
    rw [List.find?_eq_none]
    intro s hs
    obtain ⟨i, hi, rfl⟩ := List.getElem_of_mem hs
    rw [getD_at (d := default) hi]
    simpa using ha i hi
  unfold findM
  rw [this]
theorem idx_find {l : List Sn} {k : ByteArray} (hr : ∀ s ∈ l, bitI s.ret = true) : (0 ≤ idxM l k ↔ 0 ≤ findM l k) ∧ idxM l k < (l.length : Int) + 0 ∧ -1 ≤ idxM l k ∧ (0 ≤ idxM l k → (idxM l k).toNat < l.length ∧ (l.getD (idxM l k).toNat default).ret = findM l k) := by
  unfold idxM
  cases h : l.findIdx? fun s => decide (s.key = k) with
  | none =>
    rw [List.findIdx?_eq_none_iff] at h
    have := find_no' (l := l) (k := k) fun i hi => by
      have := h _ (mem_getD (d := default) hi)
      simpa using this
    rw [this]
    refine ⟨by simp, ?_, by simp, fun h => by simp at h⟩
    show (-1 : Int) < _
    omega
  | some x =>
    rw [List.findIdx?_eq_some_iff_getElem] at h
    obtain ⟨hx, h1, h2⟩ := h
    rw [getD_at (d := default) hx] at h1
    have := find_yes' (l := l) (k := k) hx (by simpa using h1) fun i hi => by
      have := h2 i hi
      rw [getD_at (d := default) (by omega)] at this
      simpa using this
    rw [this]
    have hb := bitI_le (hr _ (mem_getD (d := default) hx))
    refine ⟨⟨fun _ => hb.1, fun _ => by simp⟩, ?_, by show (-1 : Int) ≤ ((x : Nat) : Int); omega, fun _ => ⟨by simpa using hx, by simp⟩⟩
    show ((x : Nat) : Int) < _
    omega
theorem sFind_c (l : List Sn) (k : ByteArray) (hl : l.length ≤ 1048576) : Val E.P 134 [dS l, S k] (I (findM l k)) := by
  refine CallsA.body (E := E) (fn := Tryz.f134) Tryz.func134 rfl fun B hB => ?_
  simp only [Tryz.ntmps134, go_sem, nl, Nat.reduceSub, Nat.reduceAdd, List.reduceReplicate]
  refine Wp.seqK fun K1 hK1 => ?_
  refine rg ?_
  refine hK1 _ ?_
  clear hK1 K1
  refine Wp.seqK fun K2 hK2 => ?_
  refine Wp.seqK fun K3 hK3 => ?_
  refine rg ?_
  refine hK3 _ ?_
  clear hK3 K3
  refine Wp.block ?_
  refine Wp.loopU0 (α := Nat) (fun x => [.k, .k, .d, .d, .d, .v (I x), .d5, .d5, .d5, .d, .d, .d]) (fun x => x ≤ l.length ∧ ∀ i, i < x → (l.getD i default).key ≠ k) (fun x => l.length - x) 0 (⟨Nat.zero_le _, fun i hi => absurd hi (by omega)⟩) anyS ?_
  rintro x f4 K4 ⟨hx, ha⟩ hK4
  simp only [updT_k, updT_d, updT_d5, updT_v, updT_nil, Nat.reduceAdd]
  refine Wp.seqK fun K5 hK5 => ?_
  refine Wp.seqK fun K6 hK6 => ?_
  refine rg ?_
  refine hK6 _ ?_
  clear hK6 K6
  refine Wp.condS (fun h9 => ?_) (fun h9 => ?_)
  · have hxl : x < l.length := by omega
    refine Wp.skip ?_
    refine hK5 _ ?_
    clear hK5 K5
    refine Wp.seqK fun K7 hK7 => ?_
    refine Wp.block ?_
    refine Wp.seqK fun K8 hK8 => ?_
    refine rg ?_
    refine hK8 _ ?_
    clear hK8 K8
    refine Wp.condS (fun h18 => ?_) (fun h18 => ?_)
    · refine Wp.seqK fun K9 hK9 => ?_
      refine rg ?_
      refine hK9 _ ?_
      clear hK9 K9
      refine Wp.ret (retV ?_)
      try simp only [List.getD_cons_zero, List.getD_cons_succ]
      rw [find_yes' hxl h18 ha]
    · refine Wp.skip ?_
      try simp only [thn, inB, if_true, reduceIte]
      refine hK7 _ ?_
      clear hK7 K7
      refine rg ?_
      exact hK4 (x + 1) _ ⟨hxl, fun i hi => by
        rcases Nat.lt_succ_iff_lt_or_eq.1 hi with h | h
        · exact ha i h
        · subst h; exact h18⟩ (by omega) anyS
  · have hxl : x = l.length := by omega
    refine Wp.exit ?_
    try simp only [thn, inB, if_true, reduceIte]
    clear hK5 K5
    clear hK4 K4
    refine hK2 _ ?_
    clear hK2 K2
    refine Wp.seqK fun K10 hK10 => ?_
    refine rg ?_
    refine hK10 _ ?_
    clear hK10 K10
    refine Wp.ret (retV ?_)
    try simp only [List.getD_cons_zero, List.getD_cons_succ]
    rw [find_no' (fun i hi => ha i (by omega))]
theorem seenFn_c (s : Sn) (k : ByteArray) : CallsA E.P 243 [.agg (sl s), .l (.ptr 0 0 0)] [some ⟨0, [ct k]⟩] fun r ob => r = T (decide (s.key = k)) ∧ ob = [some ⟨0, [ct k]⟩] := by
  refine CallsA.body (E := E) (fn := Tryz.f243) Tryz.func243 rfl fun B hB => ?_
  simp only [Tryz.ntmps243, go_sem, nl, Nat.reduceSub, Nat.reduceAdd, List.reduceReplicate]
  refine Wp.seqK fun K1 hK1 => ?_
  refine rg ?_
  refine hK1 _ ?_
  clear hK1 K1
  refine Wp.seqK fun K2 hK2 => ?_
  refine rg ?_
  refine hK2 _ ?_
  clear hK2 K2
  refine Wp.ret (retH (n := 1) rfl rfl)
theorem idxFn_c (l : List Sn) (k : ByteArray) (hl : l.length ≤ 1048576) : CallsA E.P 242 [dS l, .l (.clo 243 [(0, 0, 0)])] [some ⟨0, [ct k]⟩] fun r ob => r = I (idxM l k) ∧ ob = [some ⟨0, [ct k]⟩] := by
  refine CallsA.body (E := E) (fn := Tryz.f242) Tryz.func242 rfl fun B hB => ?_
  simp only [Tryz.ntmps242, go_sem, nl, Nat.reduceSub, Nat.reduceAdd, List.reduceReplicate]
  refine Wp.seqK fun K1 hK1 => ?_
  refine rg ?_
  refine hK1 _ ?_
  clear hK1 K1
  refine Wp.seqK fun K2 hK2 => ?_
  refine Wp.seqK fun K3 hK3 => ?_
  refine rg ?_
  refine hK3 _ ?_
  clear hK3 K3
  refine Wp.block ?_
  refine Wp.loopU (α := Nat) (fun x => [.k, .k, .d5, .k, .v (I x), .d5, .d5]) (fun x => [some ⟨0, [ct k]⟩]) (fun x => x ≤ l.length ∧ ∀ i, i < x → (l.getD i default).key ≠ k) (fun x => l.length - x) 0 (⟨Nat.zero_le _, fun i hi => absurd hi (by omega)⟩) (anyS) ?_
  rintro x f4 K4 ⟨hx, ha⟩ hK4
  simp only [updT_k, updT_d, updT_d5, updT_v, updT_nil, Nat.reduceAdd]
  refine Wp.seqK fun K5 hK5 => ?_
  refine rg ?_
  refine hK5 _ ?_
  clear hK5 K5
  refine Wp.seqK fun K6 hK6 => ?_
  refine Wp.condS (fun h9 => ?_) (fun h9 => ?_)
  · have hxl : x < l.length := by omega
    refine Wp.skip ?_
    refine hK6 _ ?_
    clear hK6 K6
    refine Wp.seqK fun K7 hK7 => ?_
    refine Wp.block ?_
    refine Wp.seqK fun K8 hK8 => ?_
    refine rg ?_
    refine hK8 _ ?_
    clear hK8 K8
    refine Wp.seqK fun K9 hK9 => ?_
    refine rg ?_
    refine ⟨by first | rfl | decide, CallK.passS [0] (seenFn_c (l.getD x default) k) ?_⟩
    refine evd ?_
    refine hK9 _ ?_
    clear hK9 K9
    refine Wp.condS (fun h16 => ?_) (fun h16 => ?_)
    · refine Wp.seqK fun K10 hK10 => ?_
      refine rg ?_
      refine hK10 _ ?_
      clear hK10 K10
      refine Wp.ret (retH (n := 1) ?_ rfl)
      show I _ = I (idxM l k)
      unfold idxM
      rw [fidx_yes hxl h16 ha]
    · refine Wp.skip ?_
      try simp only [thn, inB, if_true, reduceIte]
      refine hK7 _ ?_
      clear hK7 K7
      refine Wp.keepR 1 [] (by rw [hB]; simp) (by simp) (by simp) (by simp) ?_
      refine evd ?_
      refine rg ?_
      exact hK4 (x + 1) _ ⟨hxl, fun i hi => by
        rcases Nat.lt_succ_iff_lt_or_eq.1 hi with h | h
        · exact ha i h
        · subst h; exact h16⟩ (by omega) anyS
  · have hxl : x = l.length := by omega
    refine Wp.exit ?_
    try simp only [thn, inB, if_true, reduceIte]
    clear hK6 K6
    clear hK4 K4
    refine hK2 _ ?_
    clear hK2 K2
    refine Wp.seqK fun K11 hK11 => ?_
    refine rg ?_
    refine hK11 _ ?_
    clear hK11 K11
    refine Wp.ret (retH (n := 1) ?_ rfl)
    show I _ = I (idxM l k)
    unfold idxM
    rw [fidx_no (fun i hi => ha i (by omega))]
theorem copyInts_c (l : List Int) (hl : l.length ≤ 1048576) : Row E.P 104 [dI l] 1 l.length (l.map ci) := by
  refine CallsA.body (E := E) (fn := Tryz.f104) Tryz.func104 rfl fun B hB => ?_
  simp only [Tryz.ntmps104, go_sem, nl, Nat.reduceSub, Nat.reduceAdd, List.reduceReplicate]
  refine Wp.seqK fun K1 hK1 => ?_
  refine rg ?_
  refine hK1 _ ?_
  clear hK1 K1
  refine Wp.seqK fun K2 hK2 => ?_
  refine rg ?_
  refine hK2 _ ?_
  clear hK2 K2
  refine Wp.ret (retR rfl rfl (flatI _))
theorem iCopy_c (m : Mc) (h1 : m.row.length ≤ 1048576) (h2 : m.vals.length ≤ 1048576) (h3 : m.memo.length ≤ 1048576) : Ret E.P 64 [.agg (mD m)] (.agg (mO 0 1 2 m)) (mR m) := by
  refine CallsA.body (E := E) (fn := Tryz.f64) Tryz.func64 rfl fun B hB => ?_
  simp only [Tryz.ntmps64, go_sem, nl, Nat.reduceSub, Nat.reduceAdd, List.reduceReplicate]
  refine Wp.seqK fun K1 hK1 => ?_
  refine rg ?_
  refine hK1 _ ?_
  clear hK1 K1
  refine Wp.seqK fun K2 hK2 => ?_
  refine rg ?_
  refine hK2 _ ?_
  clear hK2 K2
  refine Wp.seqK fun K3 hK3 => ?_
  refine rg ?_
  refine ⟨rfl, CallK.rowA (h := copyInts_c _ (by omega)) (k := ?_)⟩
  refine evd ?_
  refine hK3 _ ?_
  clear hK3 K3
  refine Wp.seqK fun K4 hK4 => ?_
  refine rg ?_
  refine hK4 _ ?_
  clear hK4 K4
  refine Wp.seqK fun K5 hK5 => ?_
  refine rg ?_
  refine hK5 _ ?_
  clear hK5 K5
  refine Wp.ret (retL [2, 3, 4] rfl (Nat.zero_le _) (by decide) (by simp) rfl ?_)
  simp only [keepO, List.take_zero, List.map_nil, List.nil_append, List.map_cons, List.getD_cons_zero, List.getD_cons_succ, Option.map_some, renB, renI, renS, mR]
theorem sCopy_c (m : Mc) (h1 : m.row.length ≤ 1048576) (h2 : m.vals.length ≤ 1048576) (h3 : m.memo.length ≤ 1048576) : Ret E.P 48 [.agg (mD m)] (.agg (mO 0 1 2 m)) (mR m) := by
  refine CallsA.body (E := E) (fn := Tryz.f48) Tryz.func48 rfl fun B hB => ?_
  simp only [Tryz.ntmps48, go_sem, nl, Nat.reduceSub, Nat.reduceAdd, List.reduceReplicate]
  refine Wp.seqK fun K1 hK1 => ?_
  refine rg ?_
  refine hK1 _ ?_
  clear hK1 K1
  refine Wp.seqK fun K2 hK2 => ?_
  refine rg ?_
  refine hK2 _ ?_
  clear hK2 K2
  refine Wp.seqK fun K3 hK3 => ?_
  refine rg ?_
  refine hK3 _ ?_
  clear hK3 K3
  refine Wp.seqK fun K4 hK4 => ?_
  refine rg ?_
  refine hK4 _ ?_
  clear hK4 K4
  refine Wp.seqK fun K5 hK5 => ?_
  refine rg ?_
  refine hK5 _ ?_
  clear hK5 K5
  refine Wp.ret (retL [2, 3, 4] rfl (Nat.zero_le _) (by decide) (by simp) rfl ?_)
  simp only [keepO, List.take_zero, List.map_nil, List.nil_append, List.map_cons, List.getD_cons_zero, List.getD_cons_succ, Option.map_some, renB, renI, renS, mR]
end Go.Proofs.YtonacngeaknlcaaGreatDoor.RE
