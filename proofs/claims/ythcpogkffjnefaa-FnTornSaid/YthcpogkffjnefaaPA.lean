/- What the printed functions on decimal texts and records come to, as plain lists. -/
import Derived.Test.YthcpogkffjnefaaJa
import Derived.Test.YthcpogkffjnefaaLib
set_option linter.unusedVariables false
set_option linter.unusedSimpArgs false
namespace Go.Proofs.Ythcpogkffjnefaa.JP
open Go.RowKit Go.Proofs.YthcpogkffjnefaaW.PrintWords Go.Proofs.YthcpogkffjnefaaW.PrintLast Go.Proofs.Ythcpogkffjnefaa.Lib0 Go.Proofs.Ythcpogkffjnefaa.J

theorem Ev.round {α : Type} {g : Nat → Option α} {r : α} (h : Ev (fun k => g (k + 1)) r) : Ev g r := Ev.step (fun _ => rfl) h

/-! ### decimal texts -/
theorem str_dig (n : Nat) : strOfNums [(IntKind.u64.wrap (48 + (Int.tmod (n : Int) 10))) % 256] = ⟨#[dig n]⟩ := by
  have h : Int.tmod (n : Int) 10 = ((n % 10 : Nat) : Int) := rfl
  rw [h, wrapu64_id (by omega) (by omega)]
  have h2 : ((48 + ((n % 10 : Nat) : Int)) % 256).toNat = 48 + n % 10 := by omega
  simp only [strOfNums, List.map_cons, List.map_nil, h2]
  rfl
theorem tdiv10 (n : Nat) : Int.tdiv (n : Int) 10 = ((n / 10 : Nat) : Int) := rfl
theorem one_size (c : UInt8) : (⟨#[c]⟩ : ByteArray).size = 1 := rfl
theorem digits_more : ∀ (n : Nat) (out : ByteArray), n < 18446744073709551616 → out.toList ≠ [] → out.size + (decZ n).length ≤ 9223372036854775807 →
    Ev (fun k => impl_digits.l0 k (n : Int) out) (⟨(decZ n).toArray⟩ ++ out) := by
  intro n
  induction n using Nat.strongRecOn with
  | ind n ih =>
    intro out hn hne hsz
    refine Ev.round ?_
    simp only [impl_digits.l0]
    refine Ev.neg hne ?_
    by_cases h0 : n = 0
    · subst h0
      refine Ev.neg (by simp) ?_
      refine Ev.eq (Ev.now _) (ba_ext ?_)
      rw [append_data, mk_data, decZ_zero]; rfl
    · refine Ev.pos (by omega) ?_
      refine Ev.bindc rfl ?_
      rw [str_dig n, tdiv10, wrapu64_id (by omega) (by omega)]
      rw [decZ_step h0] at hsz
      have hsz' : 1 + out.size + (decZ (n / 10)).length ≤ 9223372036854775807 := by simp at hsz; omega
      refine Ev.pos (by rw [one_size]; omega) ?_
      have := ih (n / 10) (by omega) (⟨#[dig n]⟩ ++ out) (by omega) (by rw [toList_data, append_data]; simp) (by rw [append_size, one_size]; exact hsz')
      refine Ev.eq this (ba_ext ?_)
      simp only [append_data, mk_data, decZ_step h0]
      simp
theorem digits_ev (n : Nat) (hn : n < 18446744073709551616) : Ev (fun k => impl_digits.f k (n : Int)) (decB n) := by
  unfold impl_digits.f
  refine Ev.round ?_
  simp only [impl_digits.l0]
  refine Ev.pos (by rw [toList_data]) ?_
  refine Ev.bindc rfl ?_
  rw [str_dig n, tdiv10, wrapu64_id (by omega) (by omega)]
  refine Ev.pos (by rw [one_size]; decide) ?_
  have hl : (decZ (n / 10)).length ≤ 20 := by
    unfold decZ
    split
    · simp
    · exact decL_len (d := 19) (by omega)
  have := digits_more (n / 10) (⟨#[dig n]⟩ ++ ⟨#[]⟩) (by omega) (by rw [toList_data, append_data]; simp) (by rw [append_size, one_size]; have : (⟨#[]⟩ : ByteArray).size = 0 := rfl; omega)
  refine Ev.eq this (ba_ext ?_)
  simp only [append_data, mk_data, decB, decL_step n]
  simp
theorem decB_size (n : Nat) (hn : n < 18446744073709551616) : (decB n).size ≤ 20 := by
  rw [size_data, decB, mk_data]
  exact decL_len (d := 19) (by omega)
theorem decimal_ev (n : Int) (h0 : -9223372036854775808 ≤ n) (h1 : n ≤ 9223372036854775807) : Ev (fun k => impl_decimal.f k n) (decI n) := by
  unfold impl_decimal.f decI
  by_cases h : n < 0
  · rw [if_pos h]
    refine Ev.pos h ?_
    have e : IntKind.u64.wrap ((IntKind.u64.wrap (wrap64 (-(wrap64 (n + 1))))) + 1) = (n.natAbs : Int) := by
      rw [wrap64_id (n := n + 1) (by omega) (by omega), wrap64_id (by omega) (by omega), wrapu64_id (n := -(n + 1)) (by omega) (by omega), wrapu64_id (by omega) (by omega)]
      omega
    rw [e]
    have hs := decB_size n.natAbs (by omega)
    refine Ev.bind (digits_ev n.natAbs (by omega)) ?_
    refine Ev.pos (by omega) ?_
    exact Ev.now _
  · rw [if_neg h]
    refine Ev.neg h ?_
    have e : IntKind.u64.wrap n = (n.natAbs : Int) := by rw [wrapu64_id (by omega) (by omega)]; omega
    rw [e]
    refine Ev.bind (digits_ev n.natAbs (by omega)) ?_
    exact Ev.now _
theorem pick_dig (d : Nat) (h : d < 10) : (⟨#[48, 49, 50, 51, 52, 53, 54, 55, 56, 57]⟩ : ByteArray).extract d (d + 1) = ⟨#[dig d]⟩ := by
  apply ba_ext
  rw [extract_data]
  have : d = 0 ∨ d = 1 ∨ d = 2 ∨ d = 3 ∨ d = 4 ∨ d = 5 ∨ d = 6 ∨ d = 7 ∨ d = 8 ∨ d = 9 := by omega
  rcases this with rfl | rfl | rfl | rfl | rfl | rfl | rfl | rfl | rfl | rfl <;> rfl
theorem dig_mod (n : Nat) : dig (n % 10) = dig n := by unfold dig; rw [Nat.mod_mod]
/-- spec's loop: the digits of what is left, ahead of those written. -/
theorem l03Dec_more (x0 : Int) : ∀ (m : Nat) (s : Int) (out : ByteArray), s = 1 ∨ s = -1 → m ≤ 9223372036854775808 → (s = 1 → m ≤ 9223372036854775807) → (x0 < 0 ↔ s = -1) → out.size + (decZ m).length ≤ 9223372036854775000 →
    Ev (fun k => spec_l03Dec.l0 k x0 out (s * m)) (if x0 < 0 then (⟨#[45]⟩ : ByteArray) ++ (⟨(decZ m).toArray⟩ ++ out) else ⟨(decZ m).toArray⟩ ++ out) := by
  intro m
  induction m using Nat.strongRecOn with
  | ind m ih =>
    intro s out hs hm hm1 hx hsz
    refine Ev.round ?_
    simp only [spec_l03Dec.l0]
    by_cases h0 : m = 0
    · subst h0
      refine Ev.pos (by simp) ?_
      rw [decZ_zero] at hsz ⊢
      have he : (⟨([] : List UInt8).toArray⟩ : ByteArray) ++ out = out := ba_ext (by rw [append_data, mk_data]; rfl)
      rw [he]
      by_cases hx0 : x0 < 0
      · refine Ev.eq ?_ (if_pos hx0).symm
        refine Ev.pos hx0 ?_
        refine Ev.pos (by simp at hsz; omega) ?_
        exact Ev.now _
      · refine Ev.eq ?_ (if_neg hx0).symm
        refine Ev.neg hx0 ?_
        exact Ev.now _
    · refine Ev.neg (by rcases hs with rfl | rfl <;> omega) ?_
      have hsz2 := hsz
      rw [decZ_step h0] at hsz
      have hsz' : 1 + out.size + (decZ (m / 10)).length ≤ 9223372036854775000 := by simp at hsz; omega
      have key : ∀ o, Ev (fun k => spec_l03Dec.l0 k x0 o (s * ((m / 10 : Nat) : Int))) (if x0 < 0 then (⟨#[45]⟩ : ByteArray) ++ (⟨(decZ (m / 10)).toArray⟩ ++ o) else ⟨(decZ (m / 10)).toArray⟩ ++ o) →
          o = ⟨#[dig m]⟩ ++ out → Ev (fun k => spec_l03Dec.l0 k x0 o (s * ((m / 10 : Nat) : Int))) (if x0 < 0 then (⟨#[45]⟩ : ByteArray) ++ (⟨(decZ m).toArray⟩ ++ out) else ⟨(decZ m).toArray⟩ ++ out) := by
        intro o h ho
        refine Ev.eq h ?_
        have he : (⟨(decZ (m / 10)).toArray⟩ : ByteArray) ++ o = ⟨(decZ m).toArray⟩ ++ out := ba_ext (by rw [ho]; simp only [append_data, mk_data, decZ_step h0]; simp)
        rw [he]
      have next := ih (m / 10) (by omega) s (⟨#[dig m]⟩ ++ out) hs (by omega) (fun _ => by omega) hx (by rw [append_size, one_size]; exact hsz')
      have ext : (⟨#[48, 49, 50, 51, 52, 53, 54, 55, 56, 57]⟩ : ByteArray).extract (m % 10) (m % 10 + 1) = ⟨#[dig m]⟩ := by rw [pick_dig _ (by omega), dig_mod]
      rcases hs with rfl | rfl
      · have e1 : Int.tmod (1 * (m : Int)) 10 = ((m % 10 : Nat) : Int) := by rw [Int.one_mul]; rfl
        have e2 : wrap64 (Int.tdiv (1 * (m : Int)) 10) = 1 * ((m / 10 : Nat) : Int) := by
          rw [Int.one_mul, Int.one_mul, tdiv10, wrap64_id (by omega) (by omega)]
        rw [e1, e2]
        have e3 : wrap64 (((m % 10 : Nat) : Int) + 1) = ((m % 10 + 1 : Nat) : Int) := by rw [wrap64_id (by omega) (by omega)]; omega
        rw [e3]
        refine Ev.neg (by omega) ?_
        refine Ev.pos (by omega) ?_
        refine Ev.pos (by omega) ?_
        refine Ev.pos (by omega) ?_
        simp only [Int.toNat_natCast, ext]
        refine Ev.pos (by rw [one_size]; omega) ?_
        exact key _ next rfl
      · have e0 : (-1 : Int) * (m : Int) = -(m : Int) := by omega
        have e1 : Int.tmod ((-1) * (m : Int)) 10 = -((m % 10 : Nat) : Int) := by rw [e0, Int.neg_tmod]; rfl
        have e2 : wrap64 (Int.tdiv ((-1) * (m : Int)) 10) = (-1) * ((m / 10 : Nat) : Int) := by
          rw [e0, Int.neg_tdiv, tdiv10, wrap64_id (by omega) (by omega)]; omega
        rw [e1, e2]
        have e4 : wrap64 (-(-((m % 10 : Nat) : Int))) = ((m % 10 : Nat) : Int) := by rw [wrap64_id (by omega) (by omega)]; omega
        have e3 : wrap64 (((m % 10 : Nat) : Int) + 1) = ((m % 10 + 1 : Nat) : Int) := by rw [wrap64_id (by omega) (by omega)]; omega
        rw [e4, e3]
        by_cases hz : m % 10 = 0
        · rw [hz] at ext ⊢
          have e5 : wrap64 (-((0 : Nat) : Int) + 1) = ((0 + 1 : Nat) : Int) := by rw [wrap64_id (by omega) (by omega)]; rfl
          rw [e5]
          refine Ev.neg (by omega) ?_
          refine Ev.pos (by omega) ?_
          refine Ev.pos (by omega) ?_
          refine Ev.pos (by omega) ?_
          have e6 : (-((0 : Nat) : Int)).toNat = 0 := rfl
          simp only [Int.toNat_natCast, e6, ext]
          refine Ev.pos (by rw [one_size]; omega) ?_
          exact key _ next rfl
        · refine Ev.pos (by omega) ?_
          refine Ev.pos (by omega) ?_
          refine Ev.pos (by omega) ?_
          refine Ev.pos (by omega) ?_
          simp only [Int.toNat_natCast, ext]
          refine Ev.pos (by rw [one_size]; omega) ?_
          exact key _ next rfl
theorem l03Dec_ev (n : Int) (h0 : -9223372036854775808 ≤ n) (h1 : n ≤ 9223372036854775807) : Ev (fun k => spec_l03Dec.f k n) (decI n) := by
  unfold spec_l03Dec.f
  by_cases hz : n = 0
  · subst hz
    refine Ev.pos rfl ?_
    refine Ev.eq (Ev.now _) ?_
    have : decI 0 = decB 0 := by unfold decI; rfl
    rw [this, decB, decL_lt (by omega)]
    rfl
  · refine Ev.neg hz ?_
    have hd : decZ n.natAbs = decL n.natAbs := by unfold decZ; rw [if_neg (by omega)]
    have hl : (decZ n.natAbs).length ≤ 20 := by rw [hd]; exact decL_len (d := 19) (by omega)
    have he : (⟨#[]⟩ : ByteArray).size = 0 := rfl
    by_cases h : n < 0
    · have := l03Dec_more n n.natAbs (-1) ⟨#[]⟩ (.inr rfl) (by omega) (by omega) (by omega) (by omega)
      have e : (-1) * (n.natAbs : Int) = n := by omega
      rw [e] at this
      refine Ev.eq this ?_
      unfold decI
      rw [if_pos h, if_pos h, hd]
      apply ba_ext
      simp [append_data, decB]
    · have := l03Dec_more n n.natAbs 1 ⟨#[]⟩ (.inl rfl) (by omega) (by omega) (by omega) (by omega)
      have e : 1 * (n.natAbs : Int) = n := by omega
      rw [e] at this
      refine Ev.eq this ?_
      unfold decI
      rw [if_neg h, if_neg h, hd]
      apply ba_ext
      simp [append_data, decB]
end Go.Proofs.Ythcpogkffjnefaa.JP
