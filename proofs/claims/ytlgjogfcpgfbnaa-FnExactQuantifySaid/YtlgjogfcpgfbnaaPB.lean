/- Deny and Quantify: a node set behind a term, as the program and the reference tell it. Conditions: those that a theorem names. -/
import Derived.Test.YtlgjogfcpgfbnaaKe
set_option linter.unusedVariables false
set_option linter.unusedSimpArgs false
namespace Go.Proofs.Ytlgjogfcpgfbnaa.K
open Go.RowKit Go.Proofs.YtlgjogfcpgfbnaaW.PrintWords Go.Proofs.YtlgjogfcpgfbnaaW.PrintMore Go.Proofs.Ytlgjogfcpgfbnaa.KM Go.Proofs.Ytlgjogfcpgfbnaa.Lib0

def behindOf (l : List Nd) (n : Nd) : List Nd × Bool := if TermP l ∧ TermP (l ++ [n]) then (l ++ [n], true) else ([], false)
theorem dec_true {p : Prop} [Decidable p] (h : p) : decide p = true := decide_eq_true h
theorem specBehind_eq (l : List Nd) (hl : l.length ≤ 2097152) (a0 a1 a2 a3 a4 a5 : Int) : spec_l15Behind.f l a0 a1 a2 a3 a4 a5 = some (behindOf l ⟨a0, a1, a2, a3, a4, a5⟩) := by
  unfold spec_l15Behind.f behindOf
  simp only [Option.bind_some, List.nil_append, List.length_nil, List.length_cons, List.length_append]
  rw [if_pos (by omega), if_pos (by omega)]
  unfold y_sTermOk.f
  simp only [Option.bind_some, decide_eq_true_eq]
  by_cases h1 : TermP l
  · rw [if_pos h1]
    by_cases h2 : TermP (l ++ [⟨a0, a1, a2, a3, a4, a5⟩])
    · rw [if_pos h2, if_pos ⟨h1, h2⟩]
    · rw [if_neg h2, if_neg (fun h => h2 h.2)]
  · rw [if_neg h1, if_neg (fun h => h1 h.1)]
theorem implBehind_eq (l : List Nd) (hl : l.length ≤ 2097152) (h1 : TermP l) (a0 a1 a2 a3 a4 a5 : Int) : impl_behind.f l a0 a1 a2 a3 a4 a5 = some (behindOf l ⟨a0, a1, a2, a3, a4, a5⟩) := by
  unfold impl_behind.f behindOf
  simp only [Option.bind_some, List.nil_append, List.length_nil, List.length_cons, List.length_append]
  rw [if_pos (by omega), if_pos (by omega)]
  unfold y_TermOk.f
  simp only [Option.bind_some, decide_eq_true_eq]
  by_cases h2 : TermP (l ++ [⟨a0, a1, a2, a3, a4, a5⟩])
  · rw [if_pos h2, if_pos ⟨h1, h2⟩]
  · rw [if_neg h2, if_neg (fun h => h2 h.2)]
theorem behindOf_no {l : List Nd} (h : ¬ TermP l) (n : Nd) : behindOf l n = ([], false) := if_neg (fun hh => h hh.1)
theorem behindOf_size (l : List Nd) (n : Nd) : (behindOf l n).1.length ≤ 1048576 := by
  unfold behindOf
  split
  · rename_i h; have := h.2.2.1; simp only; omega
  · exact Nat.zero_le _
def denyOf (l : List Nd) : List Nd × Bool := behindOf l ⟨2, (rd_T99 l (wrap64 ((l.length : Int) - 1))).f1, 0, wrap64 ((l.length : Int) - 1), 0, 0⟩
theorem specDeny_eq (l : List Nd) (hl : l.length ≤ 2097152) : spec_Deny.f l = some (denyOf l) := by
  unfold spec_Deny.f denyOf
  by_cases h0 : l.length = 0
  · rw [if_pos (by omega), behindOf_no (fun h => by have := h.1; omega)]
  · have e : wrap64 ((l.length : Int) - 1) = (l.length : Int) - 1 := wrap64_id (by omega) (by omega)
    rw [if_neg (by omega), if_pos (by omega), if_pos (by omega), specBehind_eq l hl]
    rfl
theorem implDeny_eq (l : List Nd) (hl : l.length ≤ 2097152) : impl_Deny.f l = some (denyOf l) := by
  unfold impl_Deny.f denyOf y_TermOk.f
  simp only [Option.bind_some, decide_eq_true_eq]
  by_cases h : TermP l
  · have h1 := h.1
    have e : wrap64 ((l.length : Int) - 1) = (l.length : Int) - 1 := wrap64_id (by omega) (by omega)
    rw [if_pos h, if_pos (by omega), if_pos (by omega), implBehind_eq l hl h]
    rfl
  · rw [if_neg h, behindOf_no h]
def quantOf (l : List Nd) (all : Bool) (v w : Int) : List Nd × Bool := behindOf l ⟨if all = true then 19 else 20, 1, v, wrap64 ((l.length : Int) - 1), w, 0⟩
theorem specQuant_eq (l : List Nd) (hl : l.length ≤ 2097152) (all : Bool) (v w : Int) : spec_Quantify.f l all v w = some (quantOf l all v w) := by
  unfold spec_Quantify.f quantOf
  by_cases h : all = true
  · rw [if_pos h, if_pos h, specBehind_eq l hl]; rfl
  · rw [if_neg h, if_neg h, specBehind_eq l hl]; rfl
theorem implQuant_eq (l : List Nd) (hl : l.length ≤ 2097152) (all : Bool) (v w : Int) : impl_Quantify.f l all v w = some (quantOf l all v w) := by
  unfold impl_Quantify.f quantOf y_TermOk.f
  simp only [Option.bind_some, decide_eq_true_eq]
  by_cases ht : TermP l
  · rw [if_pos ht]
    by_cases h : all = true
    · rw [if_pos h, if_pos h, implBehind_eq l hl ht]; rfl
    · rw [if_neg h, if_neg h, implBehind_eq l hl ht]; rfl
  · rw [if_neg ht, behindOf_no ht]
end Go.Proofs.Ytlgjogfcpgfbnaa.K
