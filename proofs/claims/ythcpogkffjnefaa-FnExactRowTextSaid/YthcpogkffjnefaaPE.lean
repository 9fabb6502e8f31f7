/- Texts that are marked and held; rows of flags; the laws on Records, ReadRow, RowText. -/
import Derived.Test.YthcpogkffjnefaaPC
import Derived.Test.YthcpogkffjnefaaJf
import Derived.Test.YthcpogkffjnefaaJk
import Derived.Test.YthcpogkffjnefaaJp
set_option linter.unusedVariables false
set_option linter.unusedSimpArgs false
namespace Go.Proofs.Ythcpogkffjnefaa.JP
open Go.RowKit Go.Proofs.YthcpogkffjnefaaW.PrintWords Go.Proofs.YthcpogkffjnefaaW.PrintLast Go.Proofs.Ythcpogkffjnefaa.Lib0 Go.Proofs.Ythcpogkffjnefaa.J

theorem rdOf_drop {α : Type} {d : α} {xs : List α} {i : Nat} {b : α} {r : List α} (h : xs.drop i = b :: r) : rdOf d xs (i : Int) = b ∧ i < xs.length ∧ xs.drop (i + 1) = r := by
  have hlt : i < xs.length := by
    apply Decidable.byContradiction
    intro hge
    rw [List.drop_of_length_le (by omega)] at h
    exact absurd h (by simp)
  rw [List.drop_eq_getElem_cons hlt] at h
  injection h with h1 h2
  refine ⟨?_, hlt, h2⟩
  unfold rdOf
  rw [Int.toNat_natCast, List.getD_eq_getElem?_getD, List.getElem?_eq_getElem hlt]
  exact h1
theorem dropl_nil {α : Type} {xs : List α} {i : Nat} (h : xs.drop i = []) : xs.length ≤ i := List.drop_eq_nil_iff.1 h
theorem up (i : Nat) (h : i < 9223372036854775807) : wrap64 ((i : Int) + 1) = ((i + 1 : Nat) : Int) := by rw [wrap64_id (by omega) (by omega)]; omega
/-! ### equal lists -/
theorem eqStringS_loop (xs : List ByteArray) (hl : xs.length ≤ 9000000000000000000) : ∀ (r : List ByteArray) (i : Nat), xs.drop i = r → i ≤ xs.length → Ev (fun k => laws_eqStringS.l0 k xs xs (i : Int)) true := by
  intro r
  induction r with
  | nil =>
    intro i hr hi
    have := dropl_nil hr
    refine Ev.round ?_
    simp only [laws_eqStringS.l0]
    exact Ev.neg (by omega) (Ev.now _)
  | cons b r ih =>
    intro i hr hi
    obtain ⟨_, hlt, hr'⟩ := rdOf_drop (d := ByteArray.empty) hr
    refine Ev.round ?_
    simp only [laws_eqStringS.l0, up i (by omega)]
    exact Ev.pos (by omega) (Ev.pos (by omega) (Ev.pos (by omega) (Ev.pos (by simp) (ih (i + 1) hr' (by omega)))))
theorem eqStringS_ev (xs : List ByteArray) (hl : xs.length ≤ 9000000000000000000) : Ev (fun k => laws_eqStringS.f k xs xs) true := by
  unfold laws_eqStringS.f
  exact Ev.pos rfl (eqStringS_loop xs hl xs 0 rfl (by omega))
theorem eqBoolS_loop (xs : List Bool) (hl : xs.length ≤ 9000000000000000000) : ∀ (r : List Bool) (i : Nat), xs.drop i = r → i ≤ xs.length → Ev (fun k => laws_eqBoolS.l0 k xs xs (i : Int)) true := by
  intro r
  induction r with
  | nil =>
    intro i hr hi
    have := dropl_nil hr
    refine Ev.round ?_
    simp only [laws_eqBoolS.l0]
    exact Ev.neg (by omega) (Ev.now _)
  | cons b r ih =>
    intro i hr hi
    obtain ⟨_, hlt, hr'⟩ := rdOf_drop (d := false) hr
    refine Ev.round ?_
    simp only [laws_eqBoolS.l0, up i (by omega)]
    exact Ev.pos (by omega) (Ev.pos (by omega) (Ev.pos (by omega) (Ev.neg (by simp) (ih (i + 1) hr' (by omega)))))
theorem eqBoolS_ev (xs : List Bool) (hl : xs.length ≤ 9000000000000000000) : Ev (fun k => laws_eqBoolS.f k xs xs) true := by
  unfold laws_eqBoolS.f
  exact Ev.pos rfl (eqBoolS_loop xs hl xs 0 rfl (by omega))
/-! ### marks -/
theorem str_dig64 (n : Nat) : strOfNums [(wrap64 (48 + (Int.tmod (n : Int) 10))) % 256] = ⟨#[dig n]⟩ := by
  have h : Int.tmod (n : Int) 10 = ((n % 10 : Nat) : Int) := rfl
  rw [h, wrap64_id (by omega) (by omega)]
  have h2 : ((48 + ((n % 10 : Nat) : Int)) % 256).toNat = 48 + n % 10 := by omega
  simp only [strOfNums, List.map_cons, List.map_nil, h2]
  rfl
theorem markText_loop : ∀ (n : Nat) (out : ByteArray), n < 9223372036854775808 → out.size + (decZ n).length ≤ 1000000 → ∃ t, Ev (fun k => laws_markText.l0 k (n : Int) out) t := by
  intro n
  induction n using Nat.strongRecOn with
  | ind n ih =>
    intro out hn hsz
    by_cases h0 : n = 0
    · refine ⟨(⟨#[109]⟩ : ByteArray) ++ out, Ev.round ?_⟩
      simp only [laws_markText.l0]
      exact Ev.neg (by omega) (Ev.pos (by omega) (Ev.now _))
    · rw [decZ_step h0] at hsz
      simp at hsz
      obtain ⟨t, ht⟩ := ih (n / 10) (by omega) (⟨#[dig n]⟩ ++ out) (by omega) (by rw [append_size, one_size]; omega)
      refine ⟨t, Ev.round ?_⟩
      simp only [laws_markText.l0, Option.bind_some]
      rw [str_dig64 n, tdiv10, wrap64_id (n := ((n / 10 : Nat) : Int)) (by omega) (by omega)]
      exact Ev.pos (by omega) (Ev.pos (by rw [one_size]; omega) ht)
theorem markText_ev (n : Nat) (h : n < 9223372036854775808) : ∃ t, Ev (fun k => laws_markText.f k (n : Int)) t := by
  unfold laws_markText.f
  by_cases h0 : n = 0
  · exact ⟨_, Ev.pos (by omega) (Ev.now _)⟩
  · have hl : (decZ n).length ≤ 20 := by
      unfold decZ; rw [if_neg h0]; exact decL_len (d := 19) (by omega)
    have he : (⟨#[]⟩ : ByteArray).size = 0 := rfl
    obtain ⟨t, ht⟩ := markText_loop n ⟨#[]⟩ h (by omega)
    exact ⟨t, Ev.neg (by omega) ht⟩
/-- A list of marks from a number on. -/
def Marked (ys : List ByteArray) (q : Nat) : Prop := ∀ j (h : j < ys.length), Ev (fun k => laws_markText.f k ((q + j : Nat) : Int)) (ys[j]'h)
theorem markStringS_loop (q0 : Nat) : ∀ (d : Nat) (xs : List ByteArray) (i : Nat), i + d = xs.length → q0 + xs.length < 9000000000000000000 → (∀ j (h : j < xs.length), j < i → Ev (fun k => laws_markText.f k ((q0 + j : Nat) : Int)) (xs[j]'h)) →
    ∃ ys, ys.length = xs.length ∧ Marked ys q0 ∧ Ev (fun k => laws_markStringS.l0 k xs ((q0 + i : Nat) : Int) (i : Int)) (((q0 + xs.length : Nat) : Int), ys) := by
  intro d
  induction d with
  | zero =>
    intro xs i hi hq hm
    refine ⟨xs, rfl, fun j h => hm j h (by omega), Ev.round ?_⟩
    simp only [laws_markStringS.l0]
    have : i = xs.length := by omega
    subst this
    exact Ev.neg (by omega) (Ev.now _)
  | succ d ih =>
    intro xs i hi hq hm
    obtain ⟨t, ht⟩ := markText_ev (q0 + i) (by omega)
    obtain ⟨ys, h1, h2, h3⟩ := ih (xs.set i t) (i + 1) (by simp; omega) (by simp; omega) (by
      intro j h hj
      rw [List.getElem_set]
      split
      · rename_i e; subst e; exact ht
      · rename_i e; exact hm j (by simpa using h) (by omega))
    refine ⟨ys, by simpa using h1, h2, Ev.round ?_⟩
    simp only [laws_markStringS.l0]
    have e : ((q0 + (i + 1) : Nat) : Int) = ((q0 + i + 1 : Nat) : Int) := rfl
    rw [up (q0 + i) (by omega), up i (by omega)]
    refine Ev.pos (by omega) (Ev.bind ht (Ev.pos (by omega) ?_))
    rw [Int.toNat_natCast]
    have e2 : q0 + (xs.set i t).length = q0 + xs.length := by simp
    rw [e2] at h3
    exact h3
theorem markStringS_ev (xs : List ByteArray) (h : xs.length < 8000000000000000000) : ∃ ys, ys.length = xs.length ∧ Marked ys 1 ∧ Ev (fun k => laws_markStringS.f k xs 1) (((1 + xs.length : Nat) : Int), ys) := by
  obtain ⟨ys, h1, h2, h3⟩ := markStringS_loop 1 xs.length xs 0 (by omega) (by omega) (fun j _ h => absurd h (by omega))
  exact ⟨ys, h1, h2, by unfold laws_markStringS.f; exact h3⟩
theorem heldStringS_loop (ys : List ByteArray) (q0 : Nat) (hm : Marked ys q0) (hq : q0 + ys.length < 9000000000000000000) : ∀ (d i : Nat), i + d = ys.length → Ev (fun k => laws_heldStringS.l0 k ys ((q0 + i : Nat) : Int) (i : Int)) ((q0 + ys.length : Nat) : Int) := by
  intro d
  induction d with
  | zero =>
    intro i hi
    refine Ev.round ?_
    simp only [laws_heldStringS.l0]
    have : i = ys.length := by omega
    subst this
    exact Ev.neg (by omega) (Ev.now _)
  | succ d ih =>
    intro i hi
    have hlt : i < ys.length := by omega
    refine Ev.round ?_
    simp only [laws_heldStringS.l0]
    rw [up (q0 + i) (by omega), up i (by omega)]
    have hr : rdOf ByteArray.empty ys (i : Int) = ys[i] := by
      unfold rdOf
      rw [Int.toNat_natCast, List.getD_eq_getElem?_getD, List.getElem?_eq_getElem hlt]
      rfl
    refine Ev.pos (by omega) (Ev.pos (by omega) (Ev.bind (hm i hlt) (Ev.pos (by rw [hr]) ?_)))
    exact ih (i + 1) (by omega)
theorem heldStringS_ev (ys : List ByteArray) (hm : Marked ys 1) (h : ys.length < 8000000000000000000) : Ev (fun k => laws_heldStringS.f k ys 1) ((1 + ys.length : Nat) : Int) := by
  unfold laws_heldStringS.f
  exact heldStringS_loop ys 1 hm (by omega) ys.length 0 (by omega)
theorem FnExactRecords : laws_FnExactRecords.Pure := by
  intro a0 h0
  apply Ev.rounds
  unfold laws_FnExactRecords.f
  by_cases hb : (a0.size : Int) > 1048576
  · exact Ev.pos hb (Ev.now _)
  obtain ⟨ps, h⟩ := Parse.exists a0.data.toList
  have hi := impl_Records_ev a0 (by omega) ps h
  have hlen : (ps.map mkB).length < 8000000000000000000 := by
    rw [List.length_map]
    have : ps.length ≤ a0.size := by
      obtain ⟨_, rest, he, _⟩ := h
      have H : ∀ ps : List (List UInt8), ps.length ≤ (recs ps).length := by
        intro ps
        induction ps with
        | nil => simp
        | cons p ps ih =>
          have := recOf_length p
          rw [recs_cons]
          simp
          omega
      have := H ps
      rw [size_data, he, List.length_append]
      omega
    omega
  obtain ⟨ys, hy1, hy2, hy3⟩ := markStringS_ev _ hlen
  refine Ev.neg hb (Ev.bind (spec_Records_ev a0 (by omega) ps h) (Ev.bind hi (Ev.bind (eqStringS_ev (ps.map mkB) (by omega)) (Ev.pos (by simp) ?_))))
  have hb' : (((((recs ps).length : Nat) : Int)) != (((recs ps).length : Nat) : Int)) = false := by simp
  simp only [hb']
  refine Ev.round ?_
  simp only [laws_FnExactRecords.j0]
  refine Ev.neg (by simp) (Ev.bind hy3 (Ev.bind (heldStringS_ev ys hy2 (by omega)) ?_))
  rw [hy1]
  refine Ev.neg (by omega) (Ev.pos rfl (Ev.bind hi (Ev.bind (eqStringS_ev (ps.map mkB) (by omega)) (Ev.pos (by simp) ?_))))
  simp only [hb']
  refine Ev.round ?_
  simp only [laws_FnExactRecords.j1]
  refine Ev.neg (by simp) (Ev.bind (heldStringS_ev ys hy2 (by omega)) ?_)
  rw [hy1]
  exact Ev.neg (by omega) (Ev.pos rfl (Ev.now _))
end Go.Proofs.Ythcpogkffjnefaa.JP
