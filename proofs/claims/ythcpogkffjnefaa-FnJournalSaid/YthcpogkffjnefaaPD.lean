/- The journal's functions, as a whole; the law on Record, Append, Tidy, Last. -/
import Derived.Test.YthcpogkffjnefaaPC
import Derived.Test.YthcpogkffjnefaaJb
import Derived.Test.YthcpogkffjnefaaJc
import Derived.Test.YthcpogkffjnefaaJd
import Derived.Test.YthcpogkffjnefaaJi
import Derived.Test.YthcpogkffjnefaaJj
set_option linter.unusedVariables false
set_option linter.unusedSimpArgs false
namespace Go.Proofs.Ythcpogkffjnefaa.JP
open Go.RowKit Go.Proofs.YthcpogkffjnefaaW.PrintWords Go.Proofs.YthcpogkffjnefaaW.PrintLast Go.Proofs.Ythcpogkffjnefaa.Lib0 Go.Proofs.Ythcpogkffjnefaa.J

theorem FnExactTorn : laws_FnExactTorn.Pure := by
  intro a0 a1 h0 _
  unfold laws_FnExactTorn.f
  by_cases hb : (a0.size : Int) > 1048576
  · rw [if_pos hb]
  rw [if_neg hb]
  have hi : ∀ m, m = mx 0 (mn a1 (a0.size : Int)) → impl_Torn.f a0 a1 = (if 0 ≤ m then (if m ≤ (a0.size : Int) then some (a0.extract 0 m.toNat) else none) else none) := by
    intro m hm; unfold impl_Torn.f; rw [← hm]
  have he : (⟨#[]⟩ : ByteArray) = a0.extract 0 0 := ba_ext (by rw [extract_data]; simp)
  have hw : a0.extract 0 a0.size = a0 := ba_ext (by rw [extract_data, List.drop_zero, Nat.sub_zero, size_data, List.take_length])
  have key : ∃ t, spec_Torn.f a0 a1 = some t ∧ impl_Torn.f a0 a1 = some t := by
    unfold spec_Torn.f
    by_cases h1 : a1 < 0
    · have hm : (0 : Int) = mx 0 (mn a1 (a0.size : Int)) := by unfold mx mn; split <;> split at * <;> omega
      refine ⟨_, if_pos h1, ?_⟩
      rw [hi 0 hm, if_pos (by omega), if_pos (by omega)]
      exact congrArg some he.symm
    · rw [if_neg h1]
      by_cases h2 : a1 > (a0.size : Int)
      · have hm : (a0.size : Int) = mx 0 (mn a1 (a0.size : Int)) := by unfold mx mn; split <;> split at * <;> omega
        refine ⟨_, if_pos h2, ?_⟩
        rw [hi _ hm, if_pos (by omega), if_pos (by omega), Int.toNat_natCast, hw]
      · have hm : a1 = mx 0 (mn a1 (a0.size : Int)) := by unfold mx mn; split <;> split at * <;> omega
        rw [if_neg h2, if_pos (by omega), if_pos (by omega)]
        exact ⟨_, rfl, by rw [hi a1 hm, if_pos (by omega), if_pos (by omega)]⟩
  obtain ⟨t, h1, h2⟩ := key
  rw [h1, h2]
  simp

/-! ### Record, Append -/
def recB (s : ByteArray) : ByteArray := mkB (recOf s.data.toList)
theorem recB_eq (s : ByteArray) : ((decB s.size ++ (⟨#[58]⟩ : ByteArray)) ++ s) ++ (⟨#[59]⟩ : ByteArray) = recB s := by
  apply ba_ext
  rw [append_data, append_data, append_data, decB, mk_data, recB, mkB_data, recOf, ← size_data]
  simp
theorem recB_size (s : ByteArray) : (recB s).size = (decL s.size).length + s.size + 2 := by
  rw [size_data, recB, mkB_data, recOf_length, ← size_data]
theorem impl_Record_ev (s : ByteArray) (h : s.size ≤ 140737488351232) : Ev (fun k => impl_Record.f k s) (if s.size ≤ 400000 then recB s else ⟨#[]⟩) := by
  unfold impl_Record.f
  by_cases hb : s.size ≤ 400000
  · refine Ev.eq ?_ (if_pos hb).symm
    refine Ev.neg (by omega) (Ev.bind (decimal_ev (s.size : Int) (by omega) (by omega)) ?_)
    rw [decI_nat]
    have hd := decB_size s.size (by omega)
    have h1 : (⟨#[58]⟩ : ByteArray).size = 1 := rfl
    refine Ev.pos (by omega) (Ev.pos (by rw [append_size]; omega) (Ev.pos (by rw [append_size, append_size]; omega) ?_))
    exact Ev.eq (Ev.now _) (recB_eq s)
  · refine Ev.eq ?_ (if_neg hb).symm
    exact Ev.pos (by omega) (Ev.now _)
theorem spec_Record_ev (s : ByteArray) (h : s.size ≤ 140737488351232) : Ev (fun k => spec_Record.f k s) (if s.size ≤ 400000 then recB s else ⟨#[]⟩) := by
  unfold spec_Record.f
  by_cases hb : s.size ≤ 400000
  · refine Ev.eq ?_ (if_pos hb).symm
    refine Ev.neg (by omega) (Ev.bind (l03Dec_ev (s.size : Int) (by omega) (by omega)) ?_)
    rw [decI_nat]
    have hd := decB_size s.size (by omega)
    have h1 : (⟨#[58]⟩ : ByteArray).size = 1 := rfl
    refine Ev.pos (by omega) (Ev.pos (by rw [append_size]; omega) (Ev.pos (by rw [append_size, append_size]; omega) ?_))
    exact Ev.eq (Ev.now _) (recB_eq s)
  · refine Ev.eq ?_ (if_neg hb).symm
    exact Ev.pos (by omega) (Ev.now _)
theorem same_text (b : ByteArray) : Ev (fun _ => if b.toList = b.toList then (some true) else (some false)) true := Ev.pos rfl (Ev.now _)
theorem FnExactRecord : laws_FnExactRecord.Pure := by
  intro a0 h0
  apply Ev.rounds
  unfold laws_FnExactRecord.f
  by_cases hb : (a0.size : Int) > 1048576
  · exact Ev.pos hb (Ev.now _)
  refine Ev.neg hb (Ev.bind (spec_Record_ev a0 h0) (Ev.bind (impl_Record_ev a0 h0) ?_))
  exact same_text _
def appB (j s : ByteArray) : ByteArray × Bool :=
  if s.size ≤ 400000 ∧ j.size + (recB s).size ≤ 2000000 then (j ++ recB s, true) else (j, false)
theorem recB_ne (s : ByteArray) : (recB s).toList ≠ [] := by
  rw [toList_data]
  intro h
  have := recOf_length s.data.toList
  rw [recB, mkB_data] at h
  rw [h] at this
  simp at this
theorem impl_Append_ev (j s : ByteArray) (hj : j.size ≤ 140737488351232) (h : s.size ≤ 140737488351232) : Ev (fun k => impl_Append.f k j s) (appB j s) := by
  unfold impl_Append.f appB
  refine Ev.bind (impl_Record_ev s h) ?_
  by_cases hb : s.size ≤ 400000
  · simp only [if_pos hb]
    have hs := recB_size s
    have hd := decL_six hb
    have hw : wrap64 ((j.size : Int) + ((recB s).size : Int)) = ((j.size + (recB s).size : Nat) : Int) := by rw [wrap64_id (by omega) (by omega)]; omega
    rw [hw]
    clear hw
    refine Ev.neg (recB_ne s) ?_
    by_cases h2 : j.size + (recB s).size ≤ 2000000
    · refine Ev.eq ?_ (if_pos ⟨hb, h2⟩).symm
      exact Ev.neg (by omega) (Ev.pos (by omega) (Ev.now _))
    · refine Ev.eq ?_ (if_neg (fun h => h2 h.2)).symm
      exact Ev.pos (by omega) (Ev.now _)
  · simp only [if_neg hb]
    refine Ev.eq ?_ (if_neg (fun h => hb h.1)).symm
    refine Ev.pos (by rw [toList_data]) (Ev.now _)
theorem spec_Append_ev (j s : ByteArray) (hj : j.size ≤ 140737488351232) (h : s.size ≤ 140737488351232) : Ev (fun k => spec_Append.f k j s) (appB j s) := by
  unfold spec_Append.f appB
  refine Ev.bind (spec_Record_ev s h) ?_
  by_cases hb : s.size ≤ 400000
  · simp only [if_pos hb]
    have hs := recB_size s
    have hd := decL_six hb
    have hw : wrap64 ((j.size : Int) + ((recB s).size : Int)) = ((j.size + (recB s).size : Nat) : Int) := by rw [wrap64_id (by omega) (by omega)]; omega
    rw [hw]
    clear hw
    refine Ev.neg (recB_ne s) ?_
    by_cases h2 : j.size + (recB s).size ≤ 2000000
    · refine Ev.eq ?_ (if_pos ⟨hb, h2⟩).symm
      exact Ev.neg (by omega) (Ev.pos (by omega) (Ev.now _))
    · refine Ev.eq ?_ (if_neg (fun h => h2 h.2)).symm
      exact Ev.pos (by omega) (Ev.now _)
  · simp only [if_neg hb]
    refine Ev.eq ?_ (if_neg (fun h => hb h.1)).symm
    refine Ev.pos (by rw [toList_data]) (Ev.now _)
theorem FnExactAppend : laws_FnExactAppend.Pure := by
  intro a0 a1 h0 h1
  apply Ev.rounds
  unfold laws_FnExactAppend.f
  by_cases hb : (a0.size : Int) > 1048576
  · exact Ev.pos hb (Ev.now _)
  by_cases hc : (a1.size : Int) > 1048576
  · exact Ev.neg hb (Ev.pos hc (Ev.now _))
  refine Ev.neg hb (Ev.neg hc (Ev.bind (spec_Append_ev a0 a1 h0 h1) (Ev.bind (impl_Append_ev a0 a1 h0 h1) ?_)))
  exact Ev.pos rfl (Ev.neg (by simp) (Ev.now _))

/-! ### Tidy, Last -/
def tidyL (r : List UInt8) (ps : List (List UInt8)) : List UInt8 := recs ps
theorem impl_Tidy_ev (s : ByteArray) (hs : s.size ≤ 2000000) (ps : List (List UInt8)) (h : Parse s.data.toList ps) : Ev (fun k => impl_Tidy.f k s) (mkB (recs ps)) := by
  unfold impl_Tidy.f
  refine Ev.bind (impl_Records_ev s hs ps h) ?_
  obtain ⟨_, rest, he, _⟩ := h
  have hl : (recs ps).length ≤ s.size := by rw [size_data, he]; simp
  refine Ev.pos (by simp) (Ev.pos (by simpa using hl) ?_)
  refine Ev.eq (Ev.now _) (ba_ext ?_)
  rw [Int.toNat_natCast, extract_data, mkB_data, he]
  simp
theorem spec_Tidy_ev (s : ByteArray) (hs : s.size ≤ 2000000) (ps : List (List UInt8)) (h : Parse s.data.toList ps) : Ev (fun k => spec_Tidy.f k s) (mkB (recs ps)) := by
  unfold spec_Tidy.f
  refine Ev.bind (spec_Records_ev s hs ps h) ?_
  obtain ⟨_, rest, he, _⟩ := h
  have hl : (recs ps).length ≤ s.size := by rw [size_data, he]; simp
  refine Ev.pos (by simp) (Ev.pos (by simpa using hl) ?_)
  refine Ev.eq (Ev.now _) (ba_ext ?_)
  rw [Int.toNat_natCast, extract_data, mkB_data, he]
  simp
theorem FnExactTidy : laws_FnExactTidy.Pure := by
  intro a0 h0
  apply Ev.rounds
  unfold laws_FnExactTidy.f
  by_cases hb : (a0.size : Int) > 1048576
  · exact Ev.pos hb (Ev.now _)
  obtain ⟨ps, h⟩ := Parse.exists a0.data.toList
  refine Ev.neg hb (Ev.bind (spec_Tidy_ev a0 (by omega) ps h) (Ev.bind (impl_Tidy_ev a0 (by omega) ps h) ?_))
  exact same_text _
def lastB (ps : List (List UInt8)) : ByteArray × Bool := match ps.getLast? with
  | none => (⟨#[]⟩, false)
  | some p => (mkB p, true)
theorem parse_len {r : List UInt8} {ps : List (List UInt8)} (h : Parse r ps) : ps.length ≤ r.length := by
  obtain ⟨_, rest, he, _⟩ := h
  have : ∀ ps : List (List UInt8), ps.length ≤ (recs ps).length := by
    intro ps
    induction ps with
    | nil => simp
    | cons p ps ih =>
      have := recOf_length p
      rw [recs_cons]
      simp
      omega
  have := this ps
  rw [he, List.length_append]
  omega
theorem last_read (ps : List (List UInt8)) (hn : ps ≠ []) (hl : ps.length ≤ 2000000) : wrap64 (((ps.map mkB).length : Int) - 1) = ((ps.length - 1 : Nat) : Int) ∧ (rdOf ByteArray.empty (ps.map mkB) ((ps.length - 1 : Nat) : Int), true) = lastB ps := by
  have hp : 0 < ps.length := List.length_pos_iff.2 hn
  constructor
  · rw [List.length_map, wrap64_id (by omega) (by omega)]; omega
  · unfold lastB rdOf
    rw [Int.toNat_natCast, List.getLast?_eq_getElem?, List.getElem?_eq_getElem (by omega)]
    rw [List.getD_eq_getElem?_getD, List.getElem?_map, List.getElem?_eq_getElem (by omega)]
    rfl
theorem impl_Last_ev (s : ByteArray) (hs : s.size ≤ 2000000) (ps : List (List UInt8)) (h : Parse s.data.toList ps) : Ev (fun k => impl_Last.f k s) (lastB ps) := by
  unfold impl_Last.f
  refine Ev.bind (impl_Records_ev s hs ps h) ?_
  have hl := parse_len h
  rw [← size_data] at hl
  by_cases hn : ps = []
  · subst hn
    exact Ev.pos (by simp) (Ev.now _)
  · obtain ⟨h1, h2⟩ := last_read ps hn (by omega)
    have hp : 0 < ps.length := List.length_pos_iff.2 hn
    simp only [h1, h2]
    clear h1 h2
    exact Ev.neg (by simp; exact hn) (Ev.pos (by omega) (Ev.pos (by rw [List.length_map]; omega) (Ev.now _)))
theorem spec_Last_ev (s : ByteArray) (hs : s.size ≤ 2000000) (ps : List (List UInt8)) (h : Parse s.data.toList ps) : Ev (fun k => spec_Last.f k s) (lastB ps) := by
  unfold spec_Last.f
  refine Ev.bind (spec_Records_ev s hs ps h) ?_
  have hl := parse_len h
  rw [← size_data] at hl
  by_cases hn : ps = []
  · subst hn
    exact Ev.pos (by simp) (Ev.now _)
  · obtain ⟨h1, h2⟩ := last_read ps hn (by omega)
    have hp : 0 < ps.length := List.length_pos_iff.2 hn
    simp only [h1, h2]
    clear h1 h2
    exact Ev.neg (by simp; exact hn) (Ev.pos (by omega) (Ev.pos (by rw [List.length_map]; omega) (Ev.now _)))
theorem FnExactLast : laws_FnExactLast.Pure := by
  intro a0 h0
  apply Ev.rounds
  unfold laws_FnExactLast.f
  by_cases hb : (a0.size : Int) > 1048576
  · exact Ev.pos hb (Ev.now _)
  obtain ⟨ps, h⟩ := Parse.exists a0.data.toList
  refine Ev.neg hb (Ev.bind (spec_Last_ev a0 (by omega) ps h) (Ev.bind (impl_Last_ev a0 (by omega) ps h) ?_))
  exact Ev.pos rfl (Ev.neg (by simp) (Ev.now _))
end Go.Proofs.Ythcpogkffjnefaa.JP
