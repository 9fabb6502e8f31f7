/- What the readers of numbers and records come to. -/
import Derived.Test.YthcpogkffjnefaaJg
import Derived.Test.YthcpogkffjnefaaJh
import Derived.Test.YthcpogkffjnefaaPA
import Derived.Test.YthcpogkffjnefaaLibRec
set_option linter.unusedVariables false
set_option linter.unusedSimpArgs false
namespace Go.Proofs.Ythcpogkffjnefaa.JP
open Go.RowKit Go.Proofs.YthcpogkffjnefaaW.PrintWords Go.Proofs.YthcpogkffjnefaaW.PrintLast Go.Proofs.Ythcpogkffjnefaa.Lib0 Go.Proofs.Ythcpogkffjnefaa.J

/-! ### bytes by their places -/
theorem bt_get (s : ByteArray) (i : Nat) (h : i < s.data.toList.length) : bt s (i : Int) = ((s.data.toList[i]'h).toNat : Int) := by
  rw [bt_data, dif_pos h]
theorem bt_drop {s : ByteArray} {i : Nat} {c : UInt8} {r : List UInt8} (h : s.data.toList.drop i = c :: r) : bt s (i : Int) = (c.toNat : Int) ∧ i < s.size ∧ s.data.toList.drop (i + 1) = r := by
  have hlt : i < s.data.toList.length := by
    apply Decidable.byContradiction
    intro hge
    rw [List.drop_of_length_le (by omega)] at h
    exact absurd h (by simp)
  rw [List.drop_eq_getElem_cons hlt] at h
  injection h with h1 h2
  refine ⟨?_, by rw [size_data]; exact hlt, h2⟩
  rw [bt_get s i hlt, h1]
theorem drop_nil {s : ByteArray} {i : Nat} (h : s.data.toList.drop i = []) : s.size ≤ i := by
  rw [size_data]
  exact List.drop_eq_nil_iff.1 h
/-! ### within, l01In -/
theorem within_eq (a b c : Int) : impl_within.f a b c = some (decide (b ≤ a ∧ a ≤ c)) := by
  unfold impl_within.f
  by_cases h : b ≤ a
  · rw [if_pos h]; simp [h]
  · rw [if_neg h]; simp [h]
theorem l01In_eq (a b c : Int) : spec_l01In.f a b c = some (decide (b ≤ a ∧ a ≤ c)) := by
  unfold spec_l01In.f
  by_cases h : b ≤ a
  · rw [if_pos h]; simp [h]
  · rw [if_neg h]; simp [h]
/-! ### numbers of at most nine digits -/
theorem pow_nine {i : Nat} (h : i ≤ 9) : 10 ^ i ≤ 1000000000 := by
  have : i = 0 ∨ i = 1 ∨ i = 2 ∨ i = 3 ∨ i = 4 ∨ i = 5 ∨ i = 6 ∨ i = 7 ∨ i = 8 ∨ i = 9 := by omega
  rcases this with rfl | rfl | rfl | rfl | rfl | rfl | rfl | rfl | rfl | rfl <;> decide
theorem readNumber_loop (s : ByteArray) (h9 : s.size ≤ 9) : ∀ (r : List UInt8) (i v : Nat), s.data.toList.drop i = r → i ≤ s.size → v < 10 ^ i →
    Ev (fun k => impl_readNumber.l0 k s (v : Int) (s.size : Int) (i : Int)) (if (∀ c ∈ r, isDig c) then ((numF v r : Nat), true) else ((0 : Int), false)) := by
  intro r
  induction r with
  | nil =>
    intro i v hr hi hv
    have := drop_nil hr
    refine Ev.round ?_
    simp only [impl_readNumber.l0]
    refine Ev.neg (by omega) ?_
    rw [if_pos (by simp), numF_nil]
    exact Ev.now _
  | cons c r ih =>
    intro i v hr hi hv
    obtain ⟨hb, hlt, hr'⟩ := bt_drop hr
    have hp := pow_nine (i := i) (by omega)
    refine Ev.round ?_
    simp only [impl_readNumber.l0]
    refine Ev.pos (by omega) (Ev.pos (by omega) (Ev.pos (by omega) ?_))
    rw [hb]
    by_cases hc : isDig c
    · have hc' := hc
      unfold isDig at hc'
      refine Ev.neg (by omega) (Ev.neg (by omega) ?_)
      have e : wrap64 ((wrap64 (10 * (v : Int))) + (((c.toNat : Int) - 48) % 256)) = ((10 * v + (c.toNat - 48) : Nat) : Int) := by
        rw [wrap64_id (n := 10 * (v : Int)) (by omega) (by omega), wrap64_id (by omega) (by omega)]
        omega
      have e2 : wrap64 ((i : Int) + 1) = ((i + 1 : Nat) : Int) := by rw [wrap64_id (by omega) (by omega)]; omega
      rw [e, e2]
      have := ih (i + 1) (10 * v + (c.toNat - 48)) hr' (by omega) (by rw [Nat.pow_succ]; omega)
      rw [numF_cons]
      have hiff : (∀ x ∈ c :: r, isDig x) ↔ (∀ x ∈ r, isDig x) := by simp [hc]
      refine Ev.eq this ?_
      simp only [hiff]
    · have hno : ¬ (∀ x ∈ c :: r, isDig x) := fun h => hc (h c (List.mem_cons_self ..))
      refine Ev.eq ?_ (if_neg hno).symm
      unfold isDig at hc
      by_cases h48 : (c.toNat : Int) < 48
      · exact Ev.pos h48 (Ev.now _)
      · exact Ev.neg h48 (Ev.pos (by omega) (Ev.now _))
theorem readNumber_ev (s : ByteArray) : (NumOk s.data.toList → Ev (fun k => impl_readNumber.f k s) (((numL s.data.toList : Nat) : Int), true)) ∧ (¬ NumOk s.data.toList → Ev (fun k => impl_readNumber.f k s) ((0 : Int), false)) := by
  have hsz := size_data s
  have bad : Ev (fun k => impl_readNumber.j0 k s true) ((0 : Int), false) := by
    refine Ev.round ?_
    simp only [impl_readNumber.j0]
    exact Ev.pos (by simp) (Ev.now _)
  have good : s.size ≤ 9 → Ev (fun k => impl_readNumber.j0 k s false) (if (∀ c ∈ s.data.toList, isDig c) then (((numL s.data.toList : Nat) : Int), true) else ((0 : Int), false)) := by
    intro h9
    refine Ev.round ?_
    simp only [impl_readNumber.j0]
    refine Ev.neg (by simp) ?_
    exact readNumber_loop s h9 s.data.toList 0 0 rfl (by omega) (by simp)
  by_cases h : 1 ≤ s.size ∧ s.size ≤ 9
  · have hw : impl_within.f (s.size : Int) 1 9 = some true := by rw [within_eq]; simp; omega
    by_cases h1 : 1 < s.size
    · have hb : (bt s 0 == 48) = decide (s.data.toList.head? = some 48) := by
        have := bt_get s 0 (by omega)
        have h0 : (0 : Int) = ((0 : Nat) : Int) := rfl
        rw [h0, this]
        have hh : s.data.toList.head? = some (s.data.toList[0]'(by omega)) := by
          rw [List.head?_eq_getElem?, List.getElem?_eq_getElem (by omega)]
        rw [hh]
        have : (((s.data.toList[0]'(by omega)).toNat : Int) = 48) ↔ (s.data.toList[0]'(by omega)) = 48 := by
          constructor
          · intro e; exact UInt8.toNat_inj.1 (by have : (48 : UInt8).toNat = 48 := rfl; omega)
          · intro e; rw [e]; rfl
        rw [Bool.eq_iff_iff, beq_iff_eq, decide_eq_true_iff, Option.some.injEq]
        exact this
      have start : ∀ r, Ev (fun k => impl_readNumber.j0 k s (decide (s.data.toList.head? = some 48))) r → Ev (fun k => impl_readNumber.f k s) r := by
        intro r hr
        unfold impl_readNumber.f
        refine Ev.bindc hw (Ev.pos rfl (Ev.pos (by omega) (Ev.pos (by omega) ?_)))
        rw [hb]; exact hr
      by_cases hh : s.data.toList.head? = some 48
      · refine ⟨fun hok => absurd hh (hok.2.2.1 (by omega)), fun _ => start _ ?_⟩
        rw [decide_eq_true hh]; exact bad
      · have hpl : plain s.data.toList := fun _ => hh
        have := start _ (by rw [decide_eq_false hh]; exact good h.2)
        refine ⟨fun hok => Ev.eq this (if_pos hok.2.2.2), fun hno => Ev.eq this (if_neg fun hd => hno ⟨by omega, by omega, hpl, hd⟩)⟩
    · have hpl : plain s.data.toList := fun h => absurd h (by omega)
      have start : ∀ r, Ev (fun k => impl_readNumber.j0 k s false) r → Ev (fun k => impl_readNumber.f k s) r := by
        intro r hr
        unfold impl_readNumber.f
        exact Ev.bindc hw (Ev.pos rfl (Ev.neg (by omega) hr))
      have := start _ (good h.2)
      refine ⟨fun hok => Ev.eq this (if_pos hok.2.2.2), fun hno => Ev.eq this (if_neg fun hd => hno ⟨by omega, by omega, hpl, hd⟩)⟩
  · refine ⟨fun hok => absurd ⟨by rw [hsz]; exact hok.1, by rw [hsz]; exact hok.2.1⟩ h, fun _ => ?_⟩
    have hw : impl_within.f (s.size : Int) 1 9 = some false := by rw [within_eq]; simp; omega
    unfold impl_readNumber.f
    exact Ev.bindc hw (Ev.neg (by simp) bad)
theorem decI_nat (n : Nat) : decI (n : Int) = decB n := by
  unfold decI
  rw [if_neg (by omega)]
  rfl
theorem l03Num_loop (s : ByteArray) (h1 : 1 ≤ s.size) (h9 : s.size ≤ 9) : ∀ (r : List UInt8) (i v : Nat), s.data.toList.drop i = r → i ≤ s.size → v < 10 ^ i → numF v r = numL s.data.toList →
    Ev (fun k => spec_l03Num.l0 k s (v : Int) (i : Int)) (if (∀ c ∈ r, isDig c) ∧ decL (numL s.data.toList) = s.data.toList then (((numL s.data.toList : Nat) : Int)) else (-1 : Int)) := by
  intro r
  induction r with
  | nil =>
    intro i v hr hi hv hn
    have := drop_nil hr
    have hp := pow_nine (i := i) (by omega)
    rw [numF_nil] at hn
    refine Ev.round ?_
    simp only [spec_l03Num.l0]
    refine Ev.neg (by omega) ?_
    refine Ev.bind (l03Dec_ev (v : Int) (by omega) (by omega)) ?_
    rw [decI_nat]
    by_cases he : decL (numL s.data.toList) = s.data.toList
    · refine Ev.eq ?_ (if_pos ⟨by simp, he⟩).symm
      refine Ev.pos ?_ ?_
      · rw [toList_inj]; exact ba_ext (by rw [decB, mk_data, hn, he])
      · rw [hn]; exact Ev.now _
    · refine Ev.eq ?_ (if_neg fun h => he h.2).symm
      refine Ev.neg ?_ (Ev.now _)
      intro h
      rw [toList_inj] at h
      apply he
      rw [← hn]
      conv => rhs; rw [← h]
      rw [decB, mk_data]
  | cons c r ih =>
    intro i v hr hi hv hn
    have HN : PLift (numF (10 * v + (c.toNat - 48)) r = numL s.data.toList) := ⟨(numF_cons v c r).symm.trans hn⟩
    clear hn
    obtain ⟨hb, hlt, hr'⟩ := bt_drop hr
    have hp := pow_nine (i := i) (by omega)
    have hcb := c.toNat_lt
    refine Ev.round ?_
    simp only [spec_l03Num.l0]
    refine Ev.pos (by omega) (Ev.pos (by omega) ?_)
    rw [hb, wrap64_id (n := (c.toNat : Int)) (by omega) (by omega)]
    refine Ev.bindc (l01In_eq _ _ _) ?_
    by_cases hc : isDig c
    · have hc' := hc
      unfold isDig at hc'
      refine Ev.pos (by simp; omega) ?_
      have e : wrap64 ((wrap64 ((wrap64 (10 * (v : Int))) + (c.toNat : Int))) - 48) = ((10 * v + (c.toNat - 48) : Nat) : Int) := by
        rw [wrap64_id (n := 10 * (v : Int)) (by omega) (by omega), wrap64_id (n := 10 * (v : Int) + _) (by omega) (by omega), wrap64_id (by omega) (by omega)]
        omega
      have e2 : wrap64 ((i : Int) + 1) = ((i + 1 : Nat) : Int) := by rw [wrap64_id (by omega) (by omega)]; omega
      rw [e, e2]
      have := ih (i + 1) (10 * v + (c.toNat - 48)) hr' (by omega) (by rw [Nat.pow_succ]; omega) HN.down
      refine Ev.eq this ?_
      have hiff : (∀ x ∈ c :: r, isDig x) ↔ (∀ x ∈ r, isDig x) := by simp [hc]
      simp only [hiff]
    · have hno : ¬ ((∀ x ∈ c :: r, isDig x) ∧ decL (numL s.data.toList) = s.data.toList) := fun h => hc (h.1 c (List.mem_cons_self ..))
      refine Ev.eq ?_ (if_neg hno).symm
      unfold isDig at hc
      refine Ev.neg (by simp; omega) (Ev.now _)
theorem l03Num_ev (s : ByteArray) : (NumOk s.data.toList → Ev (fun k => spec_l03Num.f k s) (((numL s.data.toList : Nat) : Int))) ∧ (¬ NumOk s.data.toList → Ev (fun k => spec_l03Num.f k s) (-1 : Int)) := by
  have hsz := size_data s
  have bad : Ev (fun k => spec_l03Num.j0 k s 0 true) (-1 : Int) := by
    refine Ev.round ?_
    simp only [spec_l03Num.j0]
    exact Ev.pos (by simp) (Ev.now _)
  by_cases h0 : s.size = 0
  · refine ⟨fun hok => absurd hok.1 (by omega), fun _ => ?_⟩
    unfold spec_l03Num.f
    exact Ev.pos (by omega) bad
  · by_cases h9 : s.size ≤ 9
    · have h9' : decide ((s.size : Int) > 9) = false := decide_eq_false (by omega)
      have := l03Num_loop s (by omega) h9 s.data.toList 0 0 rfl (by omega) (by simp) rfl
      have hne : s.data.toList ≠ [] := by intro e; exact h0 (by rw [hsz, e]; rfl)
      have start : Ev (fun k => spec_l03Num.f k s) (if (∀ c ∈ s.data.toList, isDig c) ∧ decL (numL s.data.toList) = s.data.toList then (((numL s.data.toList : Nat) : Int)) else (-1 : Int)) := by
        unfold spec_l03Num.f
        refine Ev.neg (by omega) ?_
        rw [h9']
        refine Ev.round ?_
        simp only [spec_l03Num.j0]
        exact Ev.neg (by simp) this
      refine ⟨fun hok => Ev.eq start (if_pos ⟨hok.2.2.2, NumOk_num hok⟩), fun hno => Ev.eq start (if_neg fun h => hno ⟨by omega, by omega, ?_, h.1⟩)⟩
      exact (plain_iff _ h.1 hne).1 h.2
    · refine ⟨fun hok => absurd hok.2.1 (by omega), fun _ => ?_⟩
      unfold spec_l03Num.f
      refine Ev.neg (by omega) ?_
      rw [decide_eq_true (p := (s.size : Int) > 9) (by omega)]
      exact bad
end Go.Proofs.Ythcpogkffjnefaa.JP
