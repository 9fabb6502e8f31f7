/- Rows of nodes as the laws hand them over: made anew, compared. Conditions: those that a theorem names. -/
import Derived.Test.YtlgjogfcpgfbnaaKb
import Derived.Test.YtlgjogfcpgfbnaaLib
set_option linter.unusedVariables false
set_option linter.unusedSimpArgs false
namespace Go.Proofs.Ytlgjogfcpgfbnaa.K
open Go.RowKit Go.Proofs.YtlgjogfcpgfbnaaW.PrintWords Go.Proofs.Ytlgjogfcpgfbnaa.KM Go.Proofs.Ytlgjogfcpgfbnaa.Lib0

abbrev Ld := S101
def cvN (x : Ld) : Nd := ⟨x.f0, x.f1, x.f2, x.f3, x.f4, x.f5⟩
instance : DecidableEq Nd := fun x y =>
  if h : x.f0 = y.f0 ∧ x.f1 = y.f1 ∧ x.f2 = y.f2 ∧ x.f3 = y.f3 ∧ x.f4 = y.f4 ∧ x.f5 = y.f5 then .isTrue (by cases x; cases y; simp only at h; obtain ⟨rfl, rfl, rfl, rfl, rfl, rfl⟩ := h; rfl)
  else .isFalse (by rintro rfl; exact h ⟨rfl, rfl, rfl, rfl, rfl, rfl⟩)
theorem toNodeS_l0 (l : List Ld) (hl : l.length ≤ 1048576) : ∀ (d i : Nat) (x : Int) (acc : List Nd), i + d = l.length → x = (i : Int) → acc = (l.take i).map cvN ++ List.replicate d z99 → Ev (fun k => laws_toNodeS.l0 k l acc x) (l.map cvN) := by
  intro d
  induction d with
  | zero =>
    intro i x acc hi hx ha
    refine Ev.step (fun _ => rfl) ?_
    simp only [laws_toNodeS.l0]
    refine Ev.neg (by omega) ?_
    subst ha
    rw [List.replicate_zero, List.append_nil, List.take_of_length_le (by omega)]
    exact Ev.now _
  | succ d ih =>
    intro i x acc hi hx ha
    have hal : acc.length = l.length := by subst ha; rw [List.length_append, List.length_map, List.length_take, List.length_replicate]; omega
    refine Ev.step (fun _ => rfl) ?_
    simp only [laws_toNodeS.l0]
    refine Ev.pos (by omega) (Ev.pos (by omega) (Ev.bindc rfl (Ev.pos (by omega) ?_)))
    refine ih (i + 1) _ _ (by omega) ?_ ?_
    · rw [wrap64_id (by omega) (by omega), hx]; omega
    · subst ha hx
      have hil : i < l.length := by omega
      rw [Int.toNat_natCast, List.replicate_succ, List.take_succ_eq_append_getElem hil, List.map_append, List.append_assoc]
      have e : ((l.take i).map cvN).length = i := by rw [List.length_map, List.length_take]; omega
      have e2 : rd_T101 l (i : Int) = l[i] := by
        show l.getD (i : Int).toNat _ = _
        rw [Int.toNat_natCast, List.getD_eq_getElem?_getD, List.getElem?_eq_getElem hil]; rfl
      rw [e2, List.set_append_right i _ (by omega), e, Nat.sub_self]
      rfl
def y_toNodeS.f (l : List Ld) : Option (List Nd) := if l.length ≤ 1048576 then some (l.map cvN) else none
theorem y_toNodeS.calls (A0 : Option Addr) (c0 : Nat) (l0 : List Ld) (r : List Nd) (w : World) (hr0 : Kd.C k101 w A0 l0.length l0) (hc0 : l0.length ≤ c0) (h : y_toNodeS.f l0 = some r) :
    Calls Try.prog 25 #[.slice A0 l0.length c0] w fun e w' => ∃ v0_ : Value, e = .returned (v0_) ∧ Kd.R k99 99 w' w.heap.size (fun _ => True) v0_ r ∧ Below w.heap.size w w' := by
  unfold y_toNodeS.f at h
  split at h
  case isFalse => exact absurd h (by simp)
  rename_i hl
  injection h with h
  subst h
  obtain ⟨K, hK⟩ := toNodeS_l0 l0 hl l0.length 0 0 (List.replicate l0.length z99) (by omega) rfl (by simp)
  refine laws_toNodeS.calls K A0 c0 l0 _ w hr0 hc0 ?_
  unfold laws_toNodeS.f
  rw [if_pos (by omega), if_pos (by omega), Int.toNat_natCast]
  exact hK K (Nat.le_refl _)
theorem eqNode_eq (x y : Nd) : laws_eqNode.f x.f0 x.f1 x.f2 x.f3 x.f4 x.f5 y.f0 y.f1 y.f2 y.f3 y.f4 y.f5 = some (decide (x = y)) := by
  unfold laws_eqNode.f
  cases x; cases y
  simp only [S99.mk.injEq]
  repeat' split
  all_goals simp_all
theorem eqNodeS_l0 (a b : List Nd) (hab : a.length = b.length) (hl : a.length ≤ 1048576) : ∀ (d i : Nat) (x : Int), i + d = a.length → x = (i : Int) → a.take i = b.take i → Ev (fun k => laws_eqNodeS.l0 k a b x) (decide (a = b)) := by
  intro d
  induction d with
  | zero =>
    intro i x hi hx ht
    refine Ev.step (fun _ => rfl) ?_
    simp only [laws_eqNodeS.l0]
    refine Ev.neg (by omega) ?_
    rw [List.take_of_length_le (by omega), List.take_of_length_le (by omega)] at ht
    rw [decide_eq_true ht]
    exact Ev.now _
  | succ d ih =>
    intro i x hi hx ht
    subst hx
    have hil : i < a.length := by omega
    have hil2 : i < b.length := by omega
    have rdE : ∀ (c : List Nd) (h : i < c.length), rd_T99 c (i : Int) = c[i] := by
      intro c h
      show c.getD (i : Int).toNat _ = _
      rw [Int.toNat_natCast, List.getD_eq_getElem?_getD, List.getElem?_eq_getElem h]; rfl
    refine Ev.step (fun _ => rfl) ?_
    simp only [laws_eqNodeS.l0]
    rw [rdE a hil, rdE b hil2]
    refine Ev.pos (by omega) (Ev.pos (by omega) (Ev.pos (by omega) (Ev.bindc (eqNode_eq _ _) ?_)))
    by_cases he : a[i] = b[i]
    · refine Ev.pos (decide_eq_true he) (ih (i + 1) _ (by omega) ?_ ?_)
      · rw [wrap64_id (by omega) (by omega)]; omega
      · rw [List.take_succ_eq_append_getElem hil, List.take_succ_eq_append_getElem hil2, ht, he]
    · refine Ev.neg (fun hh => he (of_decide_eq_true hh)) ?_
      rw [decide_eq_false]
      · exact Ev.now _
      · rintro rfl; exact he rfl
def y_eqNodeS.f (a b : List Nd) : Option Bool := if a.length ≤ 1048576 then some (decide (a = b)) else none
theorem y_eqNodeS.calls (A0 : Option Addr) (c0 : Nat) (l0 : List Nd) (A1 : Option Addr) (c1 : Nat) (l1 : List Nd) (r : Bool) (w : World) (hr0 : Kd.C k99 w A0 l0.length l0) (hc0 : l0.length ≤ c0) (hr1 : Kd.C k99 w A1 l1.length l1) (hc1 : l1.length ≤ c1) (h : y_eqNodeS.f l0 l1 = some r) :
    Calls Try.prog 27 #[.slice A0 l0.length c0, .slice A1 l1.length c1] w fun e w' => e = .returned (.bool r) ∧ Below w.heap.size w w' := by
  unfold y_eqNodeS.f at h
  split at h
  case isFalse => exact absurd h (by simp)
  rename_i hl
  injection h with h
  subst h
  by_cases hab : l0.length = l1.length
  · obtain ⟨K, hK⟩ := eqNodeS_l0 l0 l1 hab hl l0.length 0 0 (by omega) rfl (by simp)
    refine laws_eqNodeS.calls K A0 c0 l0 A1 c1 l1 _ w hr0 hc0 hr1 hc1 ?_
    unfold laws_eqNodeS.f
    rw [if_pos (by omega)]
    exact hK K (Nat.le_refl _)
  · refine laws_eqNodeS.calls 0 A0 c0 l0 A1 c1 l1 _ w hr0 hc0 hr1 hc1 ?_
    unfold laws_eqNodeS.f
    rw [if_neg (by omega), decide_eq_false]
    rintro rfl; exact hab rfl
end Go.Proofs.Ytlgjogfcpgfbnaa.K
