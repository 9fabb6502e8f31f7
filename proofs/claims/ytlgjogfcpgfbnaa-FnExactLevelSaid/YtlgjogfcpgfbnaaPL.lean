/- Level: how deep a term is, as the program and the reference tell it. Conditions: those that a theorem names. -/
import Derived.Test.YtlgjogfcpgfbnaaKd
set_option linter.unusedVariables false
set_option linter.unusedSimpArgs false
namespace Go.Proofs.Ytlgjogfcpgfbnaa.K
open Go.RowKit Go.Proofs.YtlgjogfcpgfbnaaW.PrintWords Go.Proofs.YtlgjogfcpgfbnaaW.PrintMore Go.Proofs.Ytlgjogfcpgfbnaa.KM Go.Proofs.Ytlgjogfcpgfbnaa.Lib0

theorem TermP_parts {l : List Nd} (h : TermP l) {i : Nat} (hi : i < l.length) : ∀ p ∈ parts l[i], 0 ≤ p ∧ p < (i : Int) := by
  have hr := (h.2.2 i hi).2.2.2.1
  have hl : (l.take i).length = i := by rw [List.length_take]; omega
  rw [hl] at hr
  exact hr
def lvStep (acc : List Int) (m p : Int) : Int := if rd acc p > m then rd acc p else m
def lvOf (acc : List Int) (n : Nd) : Int := (parts n).foldl (lvStep acc) 0 + 1
def levels (l : List Nd) : Nat → List Int
  | 0 => []
  | i + 1 => levels l i ++ [lvOf (levels l i) (l.getD i znd)]
theorem levels_len (l : List Nd) : ∀ i, (levels l i).length = i
  | 0 => rfl
  | i + 1 => by rw [levels, List.length_append, levels_len l i]; rfl
theorem rd_le {acc : List Int} {b : Int} (hb : 0 ≤ b) (h : ∀ x ∈ acc, 0 ≤ x ∧ x ≤ b) (p : Int) : 0 ≤ rd acc p ∧ rd acc p ≤ b := by
  unfold rd
  rw [List.getD_eq_getElem?_getD]
  by_cases hp : p.toNat < acc.length
  · rw [List.getElem?_eq_getElem hp]; exact h _ (List.getElem_mem hp)
  · rw [List.getElem?_eq_none (by omega)]; exact ⟨Int.le_refl _, hb⟩
theorem fold_le {acc : List Int} {b : Int} (hb : 0 ≤ b) (h : ∀ x ∈ acc, 0 ≤ x ∧ x ≤ b) : ∀ (L : List Int) (m : Int), 0 ≤ m → m ≤ b → 0 ≤ L.foldl (lvStep acc) m ∧ L.foldl (lvStep acc) m ≤ b
  | [], m, h0, h1 => ⟨h0, h1⟩
  | p :: L, m, h0, h1 => by
    have hr := rd_le hb h p
    rw [List.foldl_cons]
    refine fold_le hb h L _ ?_ ?_
    · unfold lvStep; split <;> omega
    · unfold lvStep; split <;> omega
theorem levels_le (l : List Nd) : ∀ i, ∀ x ∈ levels l i, 0 ≤ x ∧ x ≤ (i : Int)
  | 0 => fun x hx => by simp [levels] at hx
  | i + 1 => fun x hx => by
    rw [levels, List.mem_append] at hx
    rcases hx with hx | hx
    · have := levels_le l i x hx; omega
    · rw [List.mem_singleton] at hx
      subst hx
      have := fold_le (acc := levels l i) (b := (i : Int)) (by omega) (levels_le l i) (parts (l.getD i znd)) 0 (Int.le_refl _) (by omega)
      unfold lvOf; omega
def levelOf (l : List Nd) : Int := if TermP l then rd (levels l l.length) ((l.length : Int) - 1) else 0
theorem getD_at {l : List Nd} {i : Nat} (hi : i < l.length) : l.getD i znd = l[i] := by rw [List.getD_eq_getElem?_getD, List.getElem?_eq_getElem hi]; rfl
theorem getL {L : List Int} {j : Nat} (hj : j < L.length) : rd L (j : Int) = L[j] := by
  unfold rd; rw [Int.toNat_natCast, List.getD_eq_getElem?_getD, List.getElem?_eq_getElem hj]; rfl
theorem specInner (l : List Nd) (acc : List Int) (i : Int) (b : Int) (hb : 0 ≤ b) (hb80 : b ≤ 80) (hacc : ∀ x ∈ acc, 0 ≤ x ∧ x ≤ b) (hal : acc.length ≤ 80) (L : List Int) (hL3 : L.length ≤ 3) (hL : ∀ p ∈ L, 0 ≤ p ∧ p < (acc.length : Int)) (r : Int) :
    ∀ (d j : Nat) (m x : Int), j + d = L.length → x = (j : Int) → 0 ≤ m → m ≤ b →
      Ev (fun k => spec_Level.l0 k l (acc ++ [(L.drop j).foldl (lvStep acc) m + 1]) (wrap64 (i + 1))) r → Ev (fun k => spec_Level.l1 k l acc i m L x) r := by
  intro d
  induction d with
  | zero =>
    intro j m x hj hx h0 h1 hr
    refine Ev.step (fun _ => rfl) ?_
    simp only [spec_Level.l1]
    refine Ev.neg (by omega) (Ev.pos (by omega) ?_)
    rw [List.drop_of_length_le (by omega), List.foldl_nil] at hr
    rw [wrap64_id (n := m + 1) (by omega) (by omega)]
    exact hr
  | succ d ih =>
    intro j m x hj hx h0 h1 hr
    subst hx
    have hjl : j < L.length := by omega
    have hp := hL _ (List.getElem_mem hjl)
    have hrd := rd_le hb hacc L[j]
    refine Ev.step (fun _ => rfl) ?_
    simp only [spec_Level.l1]
    rw [getL hjl]
    refine Ev.pos (by omega) (Ev.pos (by omega) (Ev.pos hp.1 (Ev.pos hp.2 ?_)))
    rw [List.drop_eq_getElem_cons hjl, List.foldl_cons] at hr
    by_cases hg : rd acc L[j] > m
    · have e : lvStep acc m L[j] = rd acc L[j] := if_pos hg
      rw [e] at hr
      exact Ev.pos hg (ih (j + 1) _ _ (by omega) (by rw [wrap64_id (by omega) (by omega)]; omega) hrd.1 hrd.2 hr)
    · have e : lvStep acc m L[j] = m := if_neg hg
      rw [e] at hr
      exact Ev.neg hg (ih (j + 1) _ _ (by omega) (by rw [wrap64_id (by omega) (by omega)]; omega) h0 h1 hr)
theorem partsL_len3 (a0 a b c : Int) : (partsL a0 a b c).length ≤ 3 := KS.partsL_len a0 a b c
theorem specOuter (l : List Nd) (h : TermP l) : ∀ (d i : Nat) (x : Int), i + d = l.length → x = (i : Int) → Ev (fun k => spec_Level.l0 k l (levels l i) x) (rd (levels l l.length) ((l.length : Int) - 1)) := by
  have h80 := h.2.1
  have h1 := h.1
  intro d
  induction d with
  | zero =>
    intro i x hi hx
    have hll := levels_len l i
    have e : wrap64 ((l.length : Int) - 1) = (l.length : Int) - 1 := wrap64_id (by omega) (by omega)
    refine Ev.step (fun _ => rfl) ?_
    simp only [spec_Level.l0]
    rw [e]
    refine Ev.neg (by omega) (Ev.pos (by omega) (Ev.pos (by omega) ?_))
    rw [show i = l.length by omega]
    exact Ev.now _
  | succ d ih =>
    intro i x hi hx
    subst hx
    have hil : i < l.length := by omega
    have hll := levels_len l i
    refine Ev.step (fun _ => rfl) ?_
    simp only [spec_Level.l0]
    rw [rdE hil]
    refine Ev.pos (by omega) (Ev.pos (by omega) (Ev.bindc rfl ?_))
    refine specInner l (levels l i) i (i : Int) (by omega) (by omega) (levels_le l i) (by omega) _ (partsL_len3 _ _ _ _) ?_ _ _ 0 0 0 (Nat.zero_add _) rfl (Int.le_refl _) (by omega) ?_
    · rw [hll]; exact TermP_parts h hil
    · have := ih (i + 1) (wrap64 ((i : Int) + 1)) (by omega) (by rw [wrap64_id (by omega) (by omega)]; omega)
      rw [levels, getD_at hil] at this
      exact this
theorem specLevel_ev (l : List Nd) : Ev (fun k => spec_Level.f k l) (levelOf l) := by
  unfold spec_Level.f levelOf
  refine Ev.bindc rfl ?_
  by_cases h : TermP l
  · rw [if_pos h]
    exact Ev.pos (decide_eq_true h) (specOuter l h l.length 0 0 (by omega) rfl)
  · rw [if_neg h]
    exact Ev.neg (fun hh => h (of_decide_eq_true hh)) (Ev.now _)
theorem mx_step (acc : List Int) (m p : Int) : mx (m + 1) (rd acc p + 1) = lvStep acc m p + 1 := by
  unfold mx lvStep
  split <;> split <;> omega
theorem rd_mid {acc : List Int} {c : Int} {z : List Int} : rd (acc ++ c :: z) (acc.length : Int) = c := by
  unfold rd; rw [Int.toNat_natCast, List.getD_eq_getElem?_getD]; simp
theorem rd_left {acc z : List Int} {p : Int} (h0 : 0 ≤ p) (h : p < (acc.length : Int)) : rd (acc ++ z) p = rd acc p := by
  unfold rd; rw [List.getD_eq_getElem?_getD, List.getD_eq_getElem?_getD, List.getElem?_append_left (by omega)]
theorem set_mid {acc : List Int} {c e : Int} {z : List Int} : (acc ++ c :: z).set ((acc.length : Int)).toNat e = acc ++ e :: z := by
  rw [Int.toNat_natCast, List.set_append_right _ _ (Nat.le_refl _), Nat.sub_self]; rfl
theorem implInner (l : List Nd) (acc z : List Int) (b : Int) (hb : 0 ≤ b) (hb80 : b ≤ 80) (hacc : ∀ x ∈ acc, 0 ≤ x ∧ x ≤ b) (hal : acc.length ≤ 80) (L : List Int) (hL3 : L.length ≤ 3) (hL : ∀ p ∈ L, 0 ≤ p ∧ p < (acc.length : Int)) (n16 : Int) (r : Int) :
    ∀ (d j : Nat) (m x : Int), j + d = L.length → x = (j : Int) → 0 ≤ m → m ≤ b →
      Ev (fun k => impl_Level.l0 k l (acc ++ ((L.drop j).foldl (lvStep acc) m + 1) :: z) l (l.length : Int) (wrap64 (n16 + 1))) r → Ev (fun k => impl_Level.l1 k l (acc ++ (m + 1) :: z) (acc.length : Int) l (l.length : Int) n16 L (L.length : Int) x) r := by
  intro d
  induction d with
  | zero =>
    intro j m x hj hx h0 h1 hr
    refine Ev.step (fun _ => rfl) ?_
    simp only [impl_Level.l1]
    refine Ev.neg (by omega) ?_
    rw [List.drop_of_length_le (by omega), List.foldl_nil] at hr
    exact hr
  | succ d ih =>
    intro j m x hj hx h0 h1 hr
    subst hx
    have hjl : j < L.length := by omega
    have hp := hL _ (List.getElem_mem hjl)
    have hrd := rd_le hb hacc L[j]
    have hlen : (acc ++ (m + 1) :: z).length = acc.length + (z.length + 1) := by rw [List.length_append, List.length_cons]
    refine Ev.step (fun _ => rfl) ?_
    simp only [impl_Level.l1]
    rw [getL hjl, rd_mid, rd_left hp.1 hp.2, hlen]
    refine Ev.pos (by omega) (Ev.pos (by omega) (Ev.pos (by omega) (Ev.pos (by omega) (Ev.pos (by omega) (Ev.pos hp.1 (Ev.pos (by omega) ?_))))))
    rw [wrap64_id (n := rd acc L[j] + 1) (by omega) (by omega), mx_step, set_mid]
    rw [List.drop_eq_getElem_cons hjl, List.foldl_cons] at hr
    refine ih (j + 1) _ _ (by omega) (by rw [wrap64_id (by omega) (by omega)]; omega) ?_ ?_ hr
    · unfold lvStep; split <;> omega
    · unfold lvStep; split <;> omega
theorem implOuter (l : List Nd) (h : TermP l) : ∀ (d i : Nat) (x : Int), i + d = l.length → x = (i : Int) → Ev (fun k => impl_Level.l0 k l (levels l i ++ List.replicate d 0) l (l.length : Int) x) (rd (levels l l.length) ((l.length : Int) - 1)) := by
  have h80 := h.2.1
  have h1 := h.1
  intro d
  induction d with
  | zero =>
    intro i x hi hx
    have hll := levels_len l i
    have e : wrap64 ((l.length : Int) - 1) = (l.length : Int) - 1 := wrap64_id (by omega) (by omega)
    refine Ev.step (fun _ => rfl) ?_
    simp only [impl_Level.l0]
    rw [e, List.replicate_zero, List.append_nil]
    refine Ev.neg (by omega) (Ev.pos (by omega) (Ev.pos (by omega) ?_))
    rw [show i = l.length by omega]
    exact Ev.now _
  | succ d ih =>
    intro i x hi hx
    subst hx
    have hil : i < l.length := by omega
    have hll := levels_len l i
    have hlen : (levels l i ++ List.replicate (d + 1) (0 : Int)).length = l.length := by rw [List.length_append, List.length_replicate]; omega
    refine Ev.step (fun _ => rfl) ?_
    simp only [impl_Level.l0]
    rw [rdE hil, hlen]
    refine Ev.pos (by omega) (Ev.pos (by omega) (Ev.pos (by omega) (Ev.pos (by omega) (Ev.bindc rfl ?_))))
    have e1 : (levels l i ++ List.replicate (d + 1) (0 : Int)).set ((i : Int)).toNat 1 = levels l i ++ (0 + 1) :: List.replicate d 0 := by
      have := set_mid (acc := levels l i) (c := 0) (e := 1) (z := List.replicate d 0)
      rw [hll] at this
      exact this
    rw [e1]
    have := implInner l (levels l i) (List.replicate d 0) (i : Int) (by omega) (by omega) (levels_le l i) (by omega) (parts l[i]) (partsL_len3 _ _ _ _) (by rw [hll]; exact TermP_parts h hil) (i : Int) (rd (levels l l.length) ((l.length : Int) - 1)) (parts l[i]).length 0 0 0 (Nat.zero_add _) rfl (Int.le_refl _) (by omega) (by
      have := ih (i + 1) (wrap64 ((i : Int) + 1)) (by omega) (by rw [wrap64_id (by omega) (by omega)]; omega)
      rw [levels, getD_at hil, List.append_assoc] at this
      exact this)
    rw [hll] at this
    exact this
theorem implLevel_ev (l : List Nd) : Ev (fun k => impl_Level.f k l) (levelOf l) := by
  unfold impl_Level.f levelOf
  refine Ev.bindc rfl ?_
  by_cases h : TermP l
  · have h80 := h.2.1
    rw [if_pos h]
    refine Ev.pos (decide_eq_true h) (Ev.pos (by omega) (Ev.pos (by omega) ?_))
    rw [Int.toNat_natCast]
    exact implOuter l h l.length 0 0 (by omega) rfl
  · rw [if_neg h]
    exact Ev.neg (fun hh => h (of_decide_eq_true hh)) (Ev.now _)
theorem szN (l : List Ld) (hl : l.length ≤ 9223372036854775807) : laws_szNodeS.f l 1048576 = some (if l.length ≤ 1048576 then 1048576 - (l.length : Int) else -1) := by
  unfold laws_szNodeS.f
  have e : wrap64 (1048576 - (l.length : Int)) = 1048576 - (l.length : Int) := wrap64_id (by omega) (by omega)
  rw [e]
  by_cases h : l.length ≤ 1048576
  · rw [if_neg (by omega), if_pos h]
  · rw [if_pos (by omega), if_neg h]
theorem exactLevel_ev (l : List Ld) (hl : l.length ≤ 9223372036854775807) : Ev (fun k => laws_FnExactLevel.f k l) true := by
  unfold laws_FnExactLevel.f
  refine Ev.bindc (szN l hl) ?_
  by_cases h : l.length ≤ 1048576
  · rw [if_pos h]
    have ht : y_toNodeS.f l = some (l.map cvN) := if_pos h
    have hm : (l.map cvN).length = l.length := List.length_map ..
    refine Ev.neg (by omega) (Ev.bindc ht (Ev.bind (specLevel_ev _) (Ev.bindc ht (Ev.bind (implLevel_ev _) (Ev.pos rfl (Ev.bindc ht (Ev.bindc (a := true) ?_ (Ev.pos rfl (Ev.now _)))))))))
    unfold y_eqNodeS.f
    rw [if_pos (by omega)]; simp
  · rw [if_neg h]
    exact Ev.pos (by omega) (Ev.now _)
end Go.Proofs.Ytlgjogfcpgfbnaa.K
