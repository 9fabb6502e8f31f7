/- ReadKey, program and reference. Conditions: those that a theorem names. -/
import Derived.Test.YtonacngeaknlcaaGreatDoorE3
set_option linter.unusedVariables false
set_option linter.unusedSimpArgs false
namespace Go.Proofs.YtonacngeaknlcaaGreatDoor.RE
open Go Go.RowKit
set_option maxRecDepth 100000
set_option maxHeartbeats 8000000

def ixT (s : ByteArray) : Int := Lib.indexByte s.data.toList 58
theorem ix_ge (s : ByteArray) : -1 ≤ ixT s := Lib.indexByte_ge _ _
theorem ixL_lt : ∀ (l : List UInt8) (c : UInt8), Lib.indexByte l c < l.length ∨ Lib.indexByte l c = -1
  | [], _ => .inr rfl
  | b :: l, c => by
    have h := ixL_lt l c
    simp only [Lib.indexByte]
    split
    · exact .inl (by simp)
    · split
      · exact .inr rfl
      · refine .inl ?_
        simp only [List.length_cons]
        rename_i h2
        have h2 : ¬ Lib.indexByte l c = -1 := by simpa using h2
        omega
theorem ix_lt (s : ByteArray) (h : 0 ≤ ixT s) : ixT s < s.size := by
  have h1 := ixL_lt s.data.toList 58
  have h2 := size_list s
  unfold ixT at h ⊢
  omega
theorem ix_find : ∀ (l : List UInt8) (x : Nat), x ≤ l.length → (∀ j, j < x → l.getD j 0 ≠ 58) → (x < l.length → l.getD x 0 = 58) → Lib.indexByte l 58 = if x < l.length then (x : Int) else -1
  | [], x, hx, _, _ => by simp [Lib.indexByte]
  | b :: l, 0, hx, _, h => by
    have := h (by simp)
    have hb : b = 58 := by simpa using this
    subst hb
    simp [Lib.indexByte]
  | b :: l, x + 1, hx, hj, h => by
    have hb : b ≠ 58 := by simpa using hj 0 (by omega)
    have ih := ix_find l x (by simpa using hx) (fun j h1 => by simpa using hj (j + 1) (by omega)) (fun h1 => by simpa using h (by simpa using h1))
    simp only [Lib.indexByte]
    rw [if_neg (by simpa using hb), ih]
    by_cases h1 : x < l.length
    · have h3 : x + 1 < (b :: l).length := by simpa using h1
      rw [if_pos h3]
      simp only [if_pos h1]
      rw [if_neg (by simp)]
      rfl
    · have h3 : ¬ x + 1 < (b :: l).length := by simpa using h1
      rw [if_neg h3]
      simp only [if_neg h1]
      rfl
def cA (s : ByteArray) : ByteArray := if 0 ≤ ixT s then s.extract 0 (ixT s).toNat else s
def cB (s : ByteArray) : ByteArray := if 0 ≤ ixT s then s.extract ((ixT s).toNat + 1) s.size else ⟨#[]⟩
def cO (s : ByteArray) : Bool := decide (0 ≤ ixT s)
theorem index_c (s : ByteArray) : Val E.P 265 [S s, S ⟨#[58]⟩] (I (ixT s)) := by
  refine CallsA.body (E := E) (fn := Tryz.f265) Tryz.func265 rfl fun B hB => ?_
  simp only [Tryz.ntmps265, go_sem, nl, Nat.reduceSub, Nat.reduceAdd, List.reduceReplicate]
  refine Wp.seqK fun K1 hK1 => ?_
  refine rg ?_
  refine hK1 _ ?_
  clear hK1 K1
  refine Wp.seqU0 [.k, .k, .d, .d, .d, .v (I 1), .d5, .d5, .d5, .d5, .d5, .d5, .d5, .d5, .d5, .d5, .d5, .d5, .d5, .d5, .d5, .d5, .d5, .d5, .d5, .d5, .d5, .d5, .d5, .d5, .d5, .d5, .d5, .d, .d] (fun K2 hK2 => ?_) ?_
  · refine rg ?_
    exact hK2 _ anyS
  rintro f2
  simp only [updT_k, updT_d, updT_d5, updT_v, updT_nil, Nat.reduceAdd]
  refine Wp.seqK fun K3 hK3 => ?_
  refine Wp.block ?_
  refine Wp.seqU0 [.k, .k, .d, .d, .d, .k, .d5, .d5, .v (T (decide ((⟨#[58]⟩ : ByteArray) = s))), .d5, .d5, .d5, .d5, .d5, .d5, .d5, .d5, .d5, .d5, .d5, .d5, .d5, .d5, .d5, .d5, .d5, .d5, .d5, .d5, .d5, .d5, .d5, .d5, .d5, .d] (fun K4 hK4 => ?_) ?_
  · refine rg ?_
    exact hK4 _ anyS
  rintro f4
  simp only [updT_k, updT_d, updT_d5, updT_v, updT_nil, Nat.reduceAdd]
  refine Wp.condS (fun h16 => ?_) (fun h16 => ?_)
  · subst h16
    refine Wp.seqK fun K5 hK5 => ?_
    refine rg ?_
    refine hK5 _ ?_
    clear hK5 K5
    refine Wp.ret (retV ?_)
    simp only [List.getD_cons_zero, List.getD_cons_succ]
    rfl
  · refine Wp.seqU0 [.k, .k, .d, .d, .d, .k, .d5, .d5, .d5, .d, .d, .d, .v (T true), .d5, .d5, .d5, .d5, .d5, .d5, .d5, .d5, .d5, .d5, .d5, .d5, .d5, .d5, .d5, .d5, .d5, .d5, .d5, .d5, .d5, .d5, .d5, .d, .d, .d] (fun K6 hK6 => ?_) ?_
    · refine rg ?_
      exact hK6 _ anyS
    rintro f6
    simp only [updT_k, updT_d, updT_d5, updT_v, updT_nil, Nat.reduceAdd]
    refine Wp.condS (fun h24 => ?_) (fun h24 => ?_)
    · refine Wp.seqK fun K7 hK7 => ?_
      refine rg ?_
      refine ⟨by decide, ?_⟩
      refine ⟨rfl, CallK.valA (h := idx_c _ _) (k := ?_)⟩
      refine evd ?_
      refine hK7 _ ?_
      clear hK7 K7
      refine Wp.ret (retV ?_)
      simp only [List.getD_cons_zero, List.getD_cons_succ]
      rfl
    · exact absurd h24 (by decide)
theorem cut_at {s : ByteArray} (h0 : 0 ≤ ixT s) (hl : ixT s < s.size) (hs : s.size ≤ 1048576) : IntKind.i64.wrap (ixT s + (((#[58] : Array UInt8).size : Nat) : Int)) = (((ixT s).toNat + 1 : Nat) : Int) := by
  have h3 : (#[58] : Array UInt8).size = 1 := rfl
  rw [h3, wr (by omega) (by omega)]
  omega
theorem cut1_c (s : ByteArray) (hs : s.size ≤ 1048576) : Val E.P 247 [S s, S ⟨#[58]⟩] (.tup [.l (.sc (.string (cA s))), .l (.sc (.string (cB s))), TB (cO s)]) := by
  refine CallsA.body (E := E) (fn := Tryz.f247) Tryz.func247 rfl fun B hB => ?_
  simp only [Tryz.ntmps247, go_sem, nl, Nat.reduceSub, Nat.reduceAdd, List.reduceReplicate]
  have hi := ix_ge s
  have hl := ix_lt s
  refine Wp.seqK fun K1 hK1 => ?_
  refine rg ?_
  refine hK1 _ ?_
  clear hK1 K1
  refine Wp.seqK fun K2 hK2 => ?_
  refine Wp.seqK fun K3 hK3 => ?_
  refine rg ?_
  refine ⟨rfl, CallK.valA (h := index_c _) (k := ?_)⟩
  refine evd ?_
  refine hK3 _ ?_
  clear hK3 K3
  refine Wp.seqK fun K4 hK4 => ?_
  refine rg ?_
  refine hK4 _ ?_
  clear hK4 K4
  refine Wp.condS (fun h12 => ?_) (fun h12 => ?_)
  · have hl := hl (by omega)
    refine Wp.seqK fun K5 hK5 => ?_
    refine Wp.drawI [0, 1, 2, 3, 4, 5, 6, 7] [] (by kernel_rfl) ?_
    refine evd ?_
    rw [cut_at h12 hl hs]
    refine ⟨⟨by omega, by omega, by omega⟩, ?_⟩
    refine hK5 _ ?_
    clear hK5 K5
    refine Wp.ret (retV (x := .tup [.l (.sc (.string (s.extract 0 (ixT s).toNat))), .l (.sc (.string (s.extract ((ixT s).toNat + 1) s.size))), TB true]) ?_)
    unfold cA cB cO
    rw [if_pos h12, if_pos h12, decide_eq_true h12]
  · refine Wp.skip ?_
    refine hK2 _ ?_
    clear hK2 K2
    refine Wp.seqK fun K6 hK6 => ?_
    refine rg ?_
    refine hK6 _ ?_
    clear hK6 K6
    refine Wp.ret (retV (x := .tup [.l (.sc (.string (s))), .l (.sc (.string (⟨#[]⟩))), TB false]) ?_)
    unfold cA cB cO
    rw [if_neg (by omega), if_neg (by omega), decide_eq_false (by omega)]
theorem cut_c2 (s : ByteArray) (hs : s.size ≤ 1048576) : Val E.P 211 [S s, S ⟨#[58]⟩] (.tup [.l (.sc (.string (cA s))), .l (.sc (.string (cB s))), TB (cO s)]) := by
  refine CallsA.body (E := E) (fn := Tryz.f211) Tryz.func211 rfl fun B hB => ?_
  simp only [Tryz.ntmps211, go_sem, nl, Nat.reduceSub, Nat.reduceAdd, List.reduceReplicate]
  refine Wp.seqK fun K1 hK1 => ?_
  refine rg ?_
  refine hK1 _ ?_
  clear hK1 K1
  refine Wp.seqK fun K2 hK2 => ?_
  refine rg ?_
  refine ⟨rfl, CallK.valA (h := cut1_c _ (by omega)) (k := ?_)⟩
  refine evd ?_
  refine hK2 _ ?_
  clear hK2 K2
  refine Wp.ret (retV (x := .tup [.l (.sc (.string (cA s))), .l (.sc (.string (cB s))), TB (cO s)]) ?_)
  rfl

/-- What a text is read as. -/
def atT (s : ByteArray) : Nat := if 0 ≤ ixT s then (ixT s).toNat else s.size
def rkOk (n : Int) (o s : ByteArray) : Bool := tableOk n o && decide (keyB n o = s)
def rkN (s : ByteArray) : Int := numS (s.extract 0 (atT s))
def rkO (s : ByteArray) : ByteArray := s.extract (atT s + 1) s.size
def rkS (s : ByteArray) : Bool := decide (atT s ≤ 2 ∧ atT s < s.size) && rkOk (rkN s) (rkO s) s
def okN (b : Bool) (n : Int) : Int := if b = true then n else 0
def okO (b : Bool) (o : ByteArray) : ByteArray := if b = true then o else ⟨#[]⟩
def rkI (s : ByteArray) : Bool := (cO s && (rdN (cA s)).2) && decide (tkT (rdN (cA s)).1 (cB s) = s)
theorem cA_size (s : ByteArray) : (cA s).size ≤ s.size := by
  have h := size_list (cA s)
  unfold cA at *
  split
  · rw [ByteArray.size_extract]; omega
  · exact Nat.le_refl _
theorem cB_size (s : ByteArray) : (cB s).size ≤ s.size := by
  unfold cB
  split
  · rw [ByteArray.size_extract]; omega
  · exact Nat.zero_le _
theorem iReadKey_c (s : ByteArray) (hs : s.size ≤ 1048576) : Val E.P 174 [S s] (.tup [.agg (tb (okN (rkI s) (rdN (cA s)).1) (okO (rkI s) (cB s))), TB (rkI s)]) := by
  refine CallsA.body (E := E) (fn := Tryz.f174) Tryz.func174 rfl fun B hB => ?_
  simp only [Tryz.ntmps174, go_sem, nl, Nat.reduceSub, Nat.reduceAdd, List.reduceReplicate]
  have hA := cA_size s
  have hB2 := cB_size s
  refine Wp.seqK fun K1 hK1 => ?_
  refine rg ?_
  refine hK1 _ ?_
  clear hK1 K1
  refine Wp.seqK fun K2 hK2 => ?_
  refine rg ?_
  refine ⟨rfl, CallK.valA (h := cut_c2 _ (by omega)) (k := ?_)⟩
  refine evd ?_
  refine hK2 _ ?_
  clear hK2 K2
  refine Wp.seqK fun K3 hK3 => ?_
  refine rg ?_
  refine ⟨rfl, CallK.valA (h := readNumber_c _ (by omega)) (k := ?_)⟩
  refine evd ?_
  refine hK3 _ ?_
  clear hK3 K3
  refine Wp.seqK fun K4 hK4 => ?_
  refine rg ?_
  refine hK4 _ ?_
  clear hK4 K4
  refine Wp.seqK fun K5 hK5 => ?_
  refine Wp.seqU0 [.d, .d, .k, .d5, .d, .k, .d5, .d5, .d5, .d5, .d5, .v (T (!rkI s)), .d, .d] (fun K6 hK6 => ?_) ?_
  · refine rg ?_
    refine grdA_split rfl (fun g4_3 => ?_) (fun g4_3 => ?_)
    · try simp only [decide_eq_true_eq, decide_eq_false_iff_not] at g4_3
      refine evd ?_
      have e : rkI s = false := by
        unfold rkI
        rw [show cO s = false by simpa using g4_3]
        rfl
      exact hK6 _ (anyS (h := by rw [e]; rfl))
    · try simp only [decide_eq_true_eq, decide_eq_false_iff_not] at g4_3
      refine evd ?_
      refine grdA_split rfl (fun g4_7 => ?_) (fun g4_7 => ?_)
      · try simp only [decide_eq_true_eq, decide_eq_false_iff_not] at g4_7
        refine evd ?_
        have e : rkI s = false := by
          unfold rkI
          rw [show (rdN (cA s)).2 = false by simpa using g4_7, Bool.and_false]
          rfl
        exact hK6 _ (anyS (h := by rw [e]; rfl))
      · try simp only [decide_eq_true_eq, decide_eq_false_iff_not] at g4_7
        refine evd ?_
        refine ⟨rfl, CallK.valA (h := iTableKey_c _ _ (by omega)) (k := ?_)⟩
        refine evd ?_
        have e : rkI s = decide (tkT (rdN (cA s)).1 (cB s) = s) := by
          unfold rkI
          rw [show cO s = true by simpa using g4_3, show (rdN (cA s)).2 = true by simpa using g4_7]
          rfl
        exact hK6 _ (anyS (h := by rw [e]; rfl))
  rintro f6
  simp only [updT_k, updT_d, updT_d5, updT_v, updT_nil, Nat.reduceAdd]
  refine Wp.condS (fun h35 => ?_) (fun h35 => ?_)
  · have h35 : rkI s = false := by simpa using h35
    refine Wp.seqK fun K7 hK7 => ?_
    refine rg ?_
    refine hK7 _ ?_
    clear hK7 K7
    refine Wp.ret (retV (x := .tup [.agg (tb 0 ⟨#[]⟩), TB false]) ?_)
    rw [h35]
    rfl
  · have h35 : rkI s = true := by simpa using h35
    refine Wp.skip ?_
    refine hK5 _ ?_
    clear hK5 K5
    refine Wp.seqK fun K8 hK8 => ?_
    refine rg ?_
    refine hK8 _ ?_
    clear hK8 K8
    refine Wp.ret (retV (x := .tup [.agg (tb ((rdN (cA s)).1 : Int) (cB s)), TB true]) ?_)
    rw [h35]
    rfl

theorem at_find {s : ByteArray} {x : Nat} (hx : x ≤ s.size) (h1 : ∀ j, j < x → s.data.toList.getD j 0 ≠ 58) (h2 : x < s.size → s.data.toList.getD x 0 = 58) : atT s = x := by
  have h := ix_find s.data.toList x (by rw [← size_list]; exact hx) h1 (by rw [← size_list]; exact h2)
  rw [← size_list] at h
  unfold atT ixT
  rw [h]
  by_cases hh : x < s.size
  · rw [if_pos hh, if_pos (by omega)]; omega
  · rw [if_neg hh, if_neg (by decide)]; omega
theorem ne58 {b : UInt8} (h : ¬ (b.toNat : Int) = 58) : b ≠ 58 := fun e => h (by rw [e]; rfl)
theorem eq58 {b : UInt8} (h : (b.toNat : Int) = 58) : b = 58 := UInt8.toNat_inj.1 (by have : (58 : UInt8).toNat = 58 := rfl; omega)
theorem ext_size (s : ByteArray) (a b : Nat) (h : b ≤ s.size) : (s.extract a b).size ≤ s.size := by
  rw [ByteArray.size_extract]; omega
theorem sReadKey_c (s : ByteArray) (hs : s.size ≤ 1048576) : Val E.P 102 [S s] (.tup [.agg (tb (okN (rkS s) (rkN s)) (okO (rkS s) (rkO s))), TB (rkS s)]) := by
  refine CallsA.body (E := E) (fn := Tryz.f102) Tryz.func102 rfl fun B hB => ?_
  simp only [Tryz.ntmps102, go_sem, nl, Nat.reduceSub, Nat.reduceAdd, List.reduceReplicate]
  have hsz := size_list s
  refine Wp.seqK fun K1 hK1 => ?_
  refine rg ?_
  refine hK1 _ ?_
  clear hK1 K1
  refine Wp.seqK fun K2 hK2 => ?_
  refine rg ?_
  refine hK2 _ ?_
  clear hK2 K2
  refine Wp.seqK fun K3 hK3 => ?_
  refine Wp.block ?_
  refine Wp.loopU0 (α := Nat) (fun x => [.k, .d, .k, .d, .v (I x), .d5, .d5, .d5, .d5, .d5, .d5, .d5, .d5, .d, .d]) (fun x => x ≤ s.size ∧ ∀ j, j < x → s.data.toList.getD j 0 ≠ 58) (fun x => s.size - x) 0 (⟨Nat.zero_le _, fun j h => absurd h (Nat.not_lt_zero j)⟩) anyS ?_
  rintro x f4 K4 ⟨hx, hj⟩ hK4
  simp only [updT_k, updT_d, updT_d5, updT_v, updT_nil, Nat.reduceAdd]
  refine Wp.seqK fun K5 hK5 => ?_
  refine Wp.seqU0 [.k, .d, .k, .d, .k, .d5, .d5, .v (T (decide (x < s.size ∧ ¬ ((s.data.toList.getD x 0).toNat : Int) = 58))), .d5, .d5, .d5, .d5, .d5, .d5, .d] (fun K6 hK6 => ?_) ?_
  · refine rg ?_
    refine grdA_split rfl (fun g2_5 => ?_) (fun g2_5 => ?_)
    · try simp only [decide_eq_true_eq, decide_eq_false_iff_not] at g2_5
      refine evd ?_
      have e : decide (x < s.size ∧ ¬ ((s.data.toList.getD x 0).toNat : Int) = 58) = !decide (((s.data.toList.getD x 0).toNat : Int) = 58) := by
        rw [← decide_not, decide_eq_decide]
        exact ⟨fun h => h.2, fun h => ⟨by omega, h⟩⟩
      exact hK6 _ (anyS (h := by rw [e]; rfl))
    · try simp only [decide_eq_true_eq, decide_eq_false_iff_not] at g2_5
      refine evd ?_
      have e : decide (x < s.size ∧ ¬ ((s.data.toList.getD x 0).toNat : Int) = 58) = false := decide_eq_false (fun h => by omega)
      exact hK6 _ (anyS (h := by rw [e]; rfl))
  rintro f6
  simp only [updT_k, updT_d, updT_d5, updT_v, updT_nil, Nat.reduceAdd]
  refine Wp.condS (fun h15 => ?_) (fun h15 => ?_)
  · refine Wp.skip ?_
    refine hK5 _ ?_
    clear hK5 K5
    refine Wp.block ?_
    refine rg ?_
    try simp only [thn, inB, if_true, reduceIte]
    exact hK4 (x + 1) _ ⟨by omega, fun j h => by
      rcases Nat.lt_succ_iff_lt_or_eq.1 h with h | h
      · exact hj j h
      · subst h; exact ne58 h15.2⟩ (by omega) anyS
  · have ha : atT s = x := at_find hx hj (fun h => eq58 (Decidable.byContradiction fun e => h15 ⟨h, e⟩))
    refine Wp.exit ?_
    try simp only [thn, inB, if_true, reduceIte]
    clear hK5 K5
    clear hK4 K4
    refine hK3 _ ?_
    clear hK3 K3
    refine Wp.seqK fun K7 hK7 => ?_
    refine Wp.seqU0 [.k, .d, .k, .d, .k, .d5, .d5, .d5, .d5, .v (T (decide (2 < x ∨ x = s.size))), .d5, .d5, .d5, .d5, .d] (fun K8 hK8 => ?_) ?_
    · refine rg ?_
      refine grdA_split rfl (fun g4_3 => ?_) (fun g4_3 => ?_)
      · try simp only [decide_eq_true_eq, decide_eq_false_iff_not] at g4_3
        refine evd ?_
        have e : decide (2 < x ∨ x = s.size) = true := decide_eq_true (by omega)
        exact hK8 _ (anyS (h := by rw [e]; rfl))
      · try simp only [decide_eq_true_eq, decide_eq_false_iff_not] at g4_3
        refine evd ?_
        have e : decide (2 < x ∨ x = s.size) = decide ((x : Int) = s.size) := by rw [decide_eq_decide]; omega
        exact hK8 _ (anyS (h := by rw [e]; rfl))
    rintro f8
    simp only [updT_k, updT_d, updT_d5, updT_v, updT_nil, Nat.reduceAdd]
    refine Wp.condS (fun h25 => ?_) (fun h25 => ?_)
    · refine Wp.seqK fun K9 hK9 => ?_
      refine rg ?_
      refine hK9 _ ?_
      clear hK9 K9
      have hr : rkS s = false := by
        unfold rkS
        rw [ha, decide_eq_false (by omega)]
        rfl
      refine Wp.ret (retV (x := .tup [.agg (tb 0 ⟨#[]⟩), TB false]) ?_)
      rw [hr]
      rfl
    · have he1 := ext_size s 0 x hx
      have he2 := ext_size s (x + 1) s.size (Nat.le_refl _)
      refine Wp.skip ?_
      refine hK7 _ ?_
      clear hK7 K7
      refine Wp.seqU (α := Unit) (fun u_ => [.k, .d, .k, .d, .d, .v (.l (.ptr 1 0 0)), .d5, .d5, .d5, .d5, .d5, .d5, .d5, .d5, .d]) (fun u_ => [some ⟨0, tb 0 ⟨#[]⟩⟩, some ⟨0, tb (numS (s.extract 0 x)) (s.extract (x + 1) s.size)⟩]) (fun u_ => True) (fun K10 hK10 => ?_) ?_
      · refine Wp.drawT [] [3, 9, 10] (.one 0 (.one 1 (.one 2 (.one 4 (.one 5 (.one 6 (.one 7 (.two 3 9 (.one 8 (.one 9 (.one 10 .done))) (.one 3 (.one 8 (.one 10 .done))))))))))) rfl (by kernel_rfl) ?_
        refine evd ?_
        refine ⟨?_, ?_⟩
        · try refine evd ?_
          refine ⟨rfl, CallK.valA (h := l03Num_c _ (by omega)) (k := ?_)⟩
          refine evd ?_
          exact hK10 () _ trivial anyS
        · try refine evd ?_
          refine ⟨rfl, CallK.valA (h := l03Num_c _ (by omega)) (k := ?_)⟩
          refine evd ?_
          exact hK10 () _ trivial anyS
      rintro _ f10 _
      simp only [updT_k, updT_d, updT_d5, updT_v, updT_nil, Nat.reduceAdd]
      simp only [tb]
      refine Wp.seqK fun K11 hK11 => ?_
      refine Wp.seqU0 [.d, .d, .k, .d, .d, .k, .d5, .d5, .d5, .d5, .d5, .d5, .d5, .d, .d, .d, .v (T (!rkOk (numS (s.extract 0 x)) (s.extract (x + 1) s.size) s)), .d, .d] (fun K12 hK12 => ?_) ?_
      · refine rg ?_
        refine ⟨rfl, CallK.valA (h := sTableOk_c _ _ (by omega)) (k := ?_)⟩
        refine evd ?_
        refine grdA_split rfl (fun g7_4 => ?_) (fun g7_4 => ?_)
        · try simp only [decide_eq_true_eq, decide_eq_false_iff_not] at g7_4
          refine evd ?_
          have e : rkOk (numS (s.extract 0 x)) (s.extract (x + 1) s.size) s = false := by
            unfold rkOk
            rw [show tableOk (numS (s.extract 0 x)) (s.extract (x + 1) s.size) = false by simpa using g7_4]
            rfl
          exact hK12 _ (anyS (h := by rw [e]; rfl))
        · try simp only [decide_eq_true_eq, decide_eq_false_iff_not] at g7_4
          refine evd ?_
          refine ⟨rfl, CallK.valA (h := sTableKey_c _ _ (by omega)) (k := ?_)⟩
          refine evd ?_
          have h0 : tableOk (numS (s.extract 0 x)) (s.extract (x + 1) s.size) = true := by simpa using g7_4
          have e : rkOk (numS (s.extract 0 x)) (s.extract (x + 1) s.size) s = decide (tkT (numS (s.extract 0 x)) (s.extract (x + 1) s.size) = s) := by
            unfold rkOk tkT
            rw [h0, if_pos rfl]
            rfl
          exact hK12 _ (anyS (h := by rw [e]; rfl))
      rintro f12
      simp only [updT_k, updT_d, updT_d5, updT_v, updT_nil, Nat.reduceAdd]
      refine Wp.condS (fun h44 => ?_) (fun h44 => ?_)
      · have h44 : rkOk (numS (s.extract 0 x)) (s.extract (x + 1) s.size) s = false := by simpa using h44
        refine Wp.seqK fun K13 hK13 => ?_
        refine rg ?_
        refine hK13 _ ?_
        clear hK13 K13
        have hr : rkS s = false := by
          unfold rkS rkN rkO
          rw [ha, h44, Bool.and_false]
        refine Wp.ret (retV (x := .tup [.agg (tb 0 ⟨#[]⟩), TB false]) ?_)
        rw [hr]
        rfl
      · have h44 : rkOk (numS (s.extract 0 x)) (s.extract (x + 1) s.size) s = true := by simpa using h44
        refine Wp.skip ?_
        refine hK11 _ ?_
        clear hK11 K11
        refine Wp.seqK fun K14 hK14 => ?_
        refine rg ?_
        refine hK14 _ ?_
        clear hK14 K14
        have hr : rkS s = true := by
          unfold rkS rkN rkO
          rw [ha, h44, decide_eq_true (by omega)]
          rfl
        refine Wp.ret (retV (x := .tup [.agg (tb (numS (s.extract 0 x)) (s.extract (x + 1) s.size)), TB true]) ?_)
        unfold rkN rkO
        rw [hr, ha]
        rfl
end Go.Proofs.YtonacngeaknlcaaGreatDoor.RE
