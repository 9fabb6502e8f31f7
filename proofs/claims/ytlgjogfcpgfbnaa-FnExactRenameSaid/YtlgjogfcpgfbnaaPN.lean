/- Renaming: which numbers nodes have, and one number turned into another. Conditions: those that a theorem names. -/
import Derived.Test.YtlgjogfcpgfbnaaKi
set_option linter.unusedVariables false
set_option linter.unusedSimpArgs false
namespace Go.Proofs.Ytlgjogfcpgfbnaa.K
open Go.RowKit Go.Proofs.YtlgjogfcpgfbnaaW.PrintWords Go.Proofs.YtlgjogfcpgfbnaaW.PrintMore Go.Proofs.Ytlgjogfcpgfbnaa.KM Go.Proofs.Ytlgjogfcpgfbnaa.Lib0

def Named (n : Nd) : Prop := n.f0 = 1 ∨ IsQ n.f0
instance (n : Nd) : Decidable (Named n) := by unfold Named; infer_instance
def numIs (v : Int) (n : Nd) : Bool := decide (Named n ∧ n.f2 = v)
def turnN (v u : Int) (n : Nd) : Nd := if numIs v n = true then ⟨n.f0, n.f1, u, n.f3, n.f4, n.f5⟩ else n
def renameOf (l : List Nd) (v u : Int) : List Nd × Bool := if TermP l ∧ (0 ≤ u ∧ u ≤ 7) ∧ ¬ (u ≠ v ∧ l.any (numIs u) = true) then (l.map (turnN v u), true) else ([], false)
theorem named_eq (n : Nd) : spec_l15Named.f n.f0 n.f1 n.f2 n.f3 n.f4 n.f5 = some (decide (Named n)) := by
  unfold spec_l15Named.f
  by_cases h : n.f0 = 1
  · rw [if_pos h, decide_eq_true (show Named n from .inl h)]
  · rw [if_neg h, KS.l02Quant_eq, Option.bind_some]
    congr 1
    apply decide_eq_decide.2
    unfold Named
    exact ⟨.inr, fun hh => hh.resolve_left h⟩
theorem ofVar_eq (n : Nd) : impl_ofVar.f n.f0 n.f1 n.f2 n.f3 n.f4 n.f5 = some (decide (Named n)) := by
  unfold impl_ofVar.f
  by_cases h : n.f0 = 1
  · rw [if_pos h, decide_eq_true (show Named n from .inl h)]
  · rw [if_neg h, KS.isQuant_eq, Option.bind_some]
    congr 1
    apply decide_eq_decide.2
    unfold Named
    exact ⟨.inr, fun hh => hh.resolve_left h⟩
theorem next64 {i n : Nat} (h : i < n) (hn : n ≤ 2097152) : wrap64 ((i : Int) + 1) = ((i + 1 : Nat) : Int) := by rw [wrap64_id (by omega) (by omega)]; omega
theorem any_take {l : List Nd} {i : Nat} (h : i < l.length) (p : Nd → Bool) : (l.take (i + 1)).any p = ((l.take i).any p || p l[i]) := by
  rw [List.take_succ_eq_append_getElem h, List.any_append]; simp
theorem nums_inner (l : List Nd) (hl : l.length ≤ 2097152) (acc : List Bool) (ha : acc.length ≤ 8) (v : Int) (r : List Bool) (hr : Ev (fun k => spec_l15Nums.l0 k l (acc ++ [l.any (numIs v)]) (wrap64 (v + 1))) r) :
    ∀ (d i : Nat) (b : Bool), i + d = l.length → b = (l.take i).any (numIs v) → Ev (fun k => spec_l15Nums.l1 k l acc v b (i : Int)) r := by
  intro d
  induction d with
  | zero =>
    intro i b hi hb
    refine Ev.step (fun _ => rfl) ?_
    simp only [spec_l15Nums.l1]
    refine Ev.neg (by omega) (Ev.pos (by omega) ?_)
    rw [List.take_of_length_le (by omega)] at hb
    rw [hb]; exact hr
  | succ d ih =>
    intro i b hi hb
    have hil : i < l.length := by omega
    refine Ev.step (fun _ => rfl) ?_
    simp only [spec_l15Nums.l1]
    rw [next64 hil hl]
    refine Ev.pos (by omega) ?_
    by_cases hbt : b = true
    · refine Ev.pos hbt (ih (i + 1) _ (by omega) ?_)
      rw [any_take hil, ← hb, hbt]; rfl
    · have hbf : b = false := by simpa using hbt
      refine Ev.neg hbt (Ev.pos (by omega) ?_)
      rw [rdE hil]
      refine Ev.bindc (named_eq l[i]) ?_
      by_cases hn : Named l[i]
      · refine Ev.pos (decide_eq_true hn) (ih (i + 1) _ (by omega) ?_)
        rw [any_take hil, ← hb, hbf, Bool.false_or]
        unfold numIs
        simp only [hn, true_and]
        rfl
      · refine Ev.neg (fun h => hn (of_decide_eq_true h)) (ih (i + 1) _ (by omega) ?_)
        rw [any_take hil, ← hb, hbf, Bool.false_or]
        unfold numIs
        simp [hn]
def numsOf (l : List Nd) : Nat → List Bool
  | 0 => []
  | i + 1 => numsOf l i ++ [l.any (numIs (i : Int))]
theorem numsOf_len (l : List Nd) : ∀ i, (numsOf l i).length = i
  | 0 => rfl
  | i + 1 => by rw [numsOf, List.length_append, numsOf_len l i]; rfl
theorem nums_outer (l : List Nd) (hl : l.length ≤ 2097152) : ∀ (d i : Nat), i + d = 8 → Ev (fun k => spec_l15Nums.l0 k l (numsOf l i) (i : Int)) (numsOf l 8) := by
  intro d
  induction d with
  | zero =>
    intro i hi
    refine Ev.step (fun _ => rfl) ?_
    simp only [spec_l15Nums.l0]
    rw [show i = 8 by omega]
    exact Ev.neg (by omega) (Ev.now _)
  | succ d ih =>
    intro i hi
    refine Ev.step (fun _ => rfl) ?_
    simp only [spec_l15Nums.l0]
    refine Ev.pos (by omega) (nums_inner l hl (numsOf l i) (by rw [numsOf_len]; omega) (i : Int) _ ?_ l.length 0 false (by omega) (by simp))
    rw [next64 (n := 8) (by omega) (by omega)]
    exact ih (i + 1) (by omega)
theorem nums_ev (l : List Nd) (hl : l.length ≤ 2097152) : Ev (fun k => spec_l15Nums.f k l) (numsOf l 8) := by
  unfold spec_l15Nums.f
  exact nums_outer l hl 8 0 rfl
theorem numsOf_get (l : List Nd) : ∀ (n i : Nat), i < n → (numsOf l n)[i]? = some (l.any (numIs (i : Int)))
  | 0, i, h => absurd h (by omega)
  | n + 1, i, h => by
    rw [numsOf]
    by_cases hi : i < n
    · rw [List.getElem?_append_left (by rw [numsOf_len]; exact hi)]; exact numsOf_get l n i hi
    · obtain rfl : i = n := by omega
      rw [List.getElem?_append_right (by rw [numsOf_len]; omega), numsOf_len, Nat.sub_self]; rfl
theorem turn_l0 (l : List Nd) (hl : l.length ≤ 2097152) (v u : Int) : ∀ (d i : Nat), i + d = l.length → Ev (fun k => spec_l15Turn.l0 k l v u ((l.take i).map (turnN v u)) (i : Int)) (l.map (turnN v u)) := by
  intro d
  induction d with
  | zero =>
    intro i hi
    refine Ev.step (fun _ => rfl) ?_
    simp only [spec_l15Turn.l0]
    rw [List.take_of_length_le (by omega)]
    exact Ev.neg (by omega) (Ev.now _)
  | succ d ih =>
    intro i hi
    have hil : i < l.length := by omega
    have hla : ((l.take i).map (turnN v u)).length = i := by rw [List.length_map, List.length_take]; omega
    have hn := ih (i + 1) (by omega)
    rw [List.take_succ_eq_append_getElem hil, List.map_append, List.map_cons, List.map_nil] at hn
    refine Ev.step (fun _ => rfl) ?_
    simp only [spec_l15Turn.l0]
    rw [rdE hil, next64 hil hl, hla]
    refine Ev.pos (by omega) (Ev.pos (by omega) (Ev.bindc (named_eq l[i]) ?_))
    by_cases h : Named l[i]
    · refine Ev.pos (decide_eq_true h) ?_
      by_cases hv : l[i].f2 = v
      · have e : turnN v u l[i] = ⟨l[i].f0, l[i].f1, u, l[i].f3, l[i].f4, l[i].f5⟩ := if_pos (decide_eq_true ⟨h, hv⟩)
        rw [e] at hn
        exact Ev.pos hv (Ev.pos (by omega) hn)
      · have e : turnN v u l[i] = l[i] := if_neg (fun hh => hv (of_decide_eq_true hh).2)
        rw [e] at hn
        exact Ev.neg hv (Ev.pos (by omega) hn)
    · have e : turnN v u l[i] = l[i] := if_neg (fun hh => h (of_decide_eq_true hh).1)
      rw [e] at hn
      exact Ev.neg (fun hh => h (of_decide_eq_true hh)) (Ev.pos (by omega) hn)
theorem turn_ev (l : List Nd) (hl : l.length ≤ 2097152) (v u : Int) : Ev (fun k => spec_l15Turn.f k l v u) (l.map (turnN v u)) := by
  unfold spec_l15Turn.f
  exact turn_l0 l hl v u l.length 0 (by omega)
theorem specRename_ev (l : List Nd) (hl : l.length ≤ 2097152) (v u : Int) : Ev (fun k => spec_Rename.f k l v u) (renameOf l v u) := by
  unfold spec_Rename.f
  refine Ev.bindc rfl ?_
  by_cases ht : TermP l
  · refine Ev.pos (decide_eq_true ht) (Ev.bindc (KS.l01In_eq _ _ _) ?_)
    by_cases hu : 0 ≤ u ∧ u ≤ 7
    · refine Ev.pos (decide_eq_true hu) ?_
      by_cases huv : u = v
      · have e : renameOf l v u = (l.map (turnN v u), true) := if_pos ⟨ht, hu, fun h => h.1 huv⟩
        rw [e]
        exact Ev.pos huv (Ev.bind (turn_ev l hl v u) (Ev.now _))
      · refine Ev.neg huv (Ev.bind (nums_ev l hl) (Ev.pos hu.1 (Ev.pos (by rw [numsOf_len]; omega) ?_)))
        have er : rdOf false (numsOf l 8) u = l.any (numIs u) := by
          unfold rdOf
          rw [List.getD_eq_getElem?_getD, numsOf_get l 8 u.toNat (by omega), Int.toNat_of_nonneg hu.1]; rfl
        rw [er]
        by_cases ha : l.any (numIs u) = true
        · have e : renameOf l v u = ([], false) := if_neg (fun h => h.2.2 ⟨huv, ha⟩)
          rw [e]
          exact Ev.pos ha (Ev.now _)
        · have e : renameOf l v u = (l.map (turnN v u), true) := if_pos ⟨ht, hu, fun h => ha h.2⟩
          rw [e]
          exact Ev.neg ha (Ev.bind (turn_ev l hl v u) (Ev.now _))
    · have e : renameOf l v u = ([], false) := if_neg (fun h => hu h.2.1)
      rw [e]
      exact Ev.neg (fun hh => hu (of_decide_eq_true hh)) (Ev.now _)
  · have e : renameOf l v u = ([], false) := if_neg (fun h => ht h.1)
    rw [e]
    exact Ev.neg (fun hh => ht (of_decide_eq_true hh)) (Ev.now _)
theorem implRename_l0 (l : List Nd) (hl : l.length ≤ 2097152) (v u : Int) (ht : TermP l) (hu : 0 ≤ u ∧ u ≤ 7) : ∀ (d i : Nat), i + d = l.length → (u ≠ v → (l.take i).any (numIs u) = false) →
    Ev (fun k => impl_Rename.l0 k v u ((l.take i).map (turnN v u) ++ l.drop i) l (l.length : Int) (i : Int)) (renameOf l v u) := by
  intro d
  induction d with
  | zero =>
    intro i hi hno
    refine Ev.step (fun _ => rfl) ?_
    simp only [impl_Rename.l0]
    rw [List.take_of_length_le (by omega)] at hno
    rw [List.take_of_length_le (by omega), List.drop_of_length_le (by omega), List.append_nil]
    have e : renameOf l v u = (l.map (turnN v u), true) := if_pos ⟨ht, hu, fun h => by rw [hno h.1] at h; exact absurd h.2 (by simp)⟩
    rw [e]
    exact Ev.neg (by omega) (Ev.now _)
  | succ d ih =>
    intro i hi hno
    have hil : i < l.length := by omega
    have hla : ((l.take i).map (turnN v u)).length = i := by rw [List.length_map, List.length_take]; omega
    have hlen : (((l.take i).map (turnN v u) ++ l[i] :: l.drop (i + 1)).length : Int) = (l.length : Int) := by rw [List.length_append, List.length_cons, hla, List.length_drop]; omega
    have hgo : (u ≠ v → numIs u l[i] = false) → Ev (fun k => impl_Rename.l0 k v u ((l.take i).map (turnN v u) ++ turnN v u l[i] :: l.drop (i + 1)) l (l.length : Int) ((i + 1 : Nat) : Int)) (renameOf l v u) := by
      intro hn
      have := ih (i + 1) (by omega) (fun h => by rw [any_take hil, hno h, hn h]; rfl)
      rw [List.take_succ_eq_append_getElem hil, List.map_append, List.map_cons, List.map_nil, List.append_assoc] at this
      exact this
    rw [List.drop_eq_getElem_cons hil]
    have j2 : ∀ b : Bool, (b = true ↔ (u ≠ v ∧ numIs u l[i] = true)) → Ev (fun k => impl_Rename.j2 k v u ((l.take i).map (turnN v u) ++ l[i] :: l.drop (i + 1)) (i : Int) l (l.length : Int) (i : Int) b l[i].f0 l[i].f1 l[i].f2 l[i].f3 l[i].f4 l[i].f5) (renameOf l v u) := by
      intro b hb
      refine Ev.step (fun _ => rfl) ?_
      simp only [impl_Rename.j2]
      by_cases hbt : b = true
      · have h := hb.1 hbt
        have e : renameOf l v u = ([], false) := if_neg (fun hh => hh.2.2 ⟨h.1, List.any_eq_true.2 ⟨_, List.getElem_mem hil, h.2⟩⟩)
        rw [e]
        exact Ev.pos hbt (Ev.now _)
      · have hn : u ≠ v → numIs u l[i] = false := fun h => by
          cases hc : numIs u l[i] with
          | false => rfl
          | true => exact absurd (hb.2 ⟨h, hc⟩) hbt
        have hg := hgo hn
        refine Ev.neg hbt (Ev.bindc (ofVar_eq l[i]) ?_)
        rw [next64 hil hl, hlen]
        by_cases h : Named l[i]
        · refine Ev.pos (decide_eq_true h) ?_
          by_cases hv : l[i].f2 = v
          · have e : turnN v u l[i] = ⟨l[i].f0, l[i].f1, u, l[i].f3, l[i].f4, l[i].f5⟩ := if_pos (decide_eq_true ⟨h, hv⟩)
            rw [e] at hg
            refine Ev.pos hv (Ev.pos (by omega) (Ev.pos (by omega) ?_))
            have er : rd_T99 ((l.take i).map (turnN v u) ++ l[i] :: l.drop (i + 1)) (i : Int) = l[i] := by
              show List.getD _ _ _ = _
              rw [Int.toNat_natCast, List.getD_eq_getElem?_getD, List.getElem?_append_right (by omega), hla, Nat.sub_self]; rfl
            have es : ∀ e : Nd, ((l.take i).map (turnN v u) ++ l[i] :: l.drop (i + 1)).set (i : Int).toNat e = (l.take i).map (turnN v u) ++ e :: l.drop (i + 1) := by
              intro e
              rw [Int.toNat_natCast, List.set_append_right _ _ (by omega), hla, Nat.sub_self]; rfl
            rw [er, es]
            exact hg
          · have e : turnN v u l[i] = l[i] := if_neg (fun hh => hv (of_decide_eq_true hh).2)
            rw [e] at hg
            exact Ev.neg hv hg
        · have e : turnN v u l[i] = l[i] := if_neg (fun hh => h (of_decide_eq_true hh).1)
          rw [e] at hg
          exact Ev.neg (fun hh => h (of_decide_eq_true hh)) hg
    refine Ev.step (fun _ => rfl) ?_
    simp only [impl_Rename.l0]
    rw [rdE hil]
    refine Ev.pos (by omega) (Ev.pos (by omega) (Ev.pos (by omega) (Ev.bindc (ofVar_eq l[i]) ?_)))
    by_cases h : Named l[i]
    · refine Ev.pos (decide_eq_true h) ?_
      by_cases hu2 : l[i].f2 = u
      · refine Ev.pos hu2 (j2 _ ?_)
        have : numIs u l[i] = true := decide_eq_true ⟨h, hu2⟩
        rw [this]; simp
      · refine Ev.neg hu2 (j2 _ ?_)
        have : ¬ numIs u l[i] = true := fun hh => hu2 (of_decide_eq_true hh).2
        simp [this]
    · refine Ev.neg (fun hh => h (of_decide_eq_true hh)) (j2 _ ?_)
      have : ¬ numIs u l[i] = true := fun hh => h (of_decide_eq_true hh).1
      simp [this]
theorem implRename_ev (l : List Nd) (hl : l.length ≤ 2097152) (v u : Int) : Ev (fun k => impl_Rename.f k l v u) (renameOf l v u) := by
  unfold impl_Rename.f
  refine Ev.bindc rfl ?_
  by_cases ht : TermP l
  · refine Ev.pos (decide_eq_true ht) (Ev.bindc (KS.isVar_eq u) (Ev.step (fun _ => rfl) ?_))
    simp only [impl_Rename.j0]
    by_cases hu : 0 ≤ u ∧ u ≤ 7
    · refine Ev.neg (by rw [decide_eq_true hu]; simp) (Ev.pos (by simp only [List.length_nil]; omega) ?_)
      have := implRename_l0 l hl v u ht hu l.length 0 (by omega) (fun _ => by simp)
      rw [List.take_zero, List.map_nil, List.drop_zero] at this
      exact this
    · have e : renameOf l v u = ([], false) := if_neg (fun h => hu h.2.1)
      rw [e]
      exact Ev.pos (by rw [decide_eq_false hu]; rfl) (Ev.now _)
  · have e : renameOf l v u = ([], false) := if_neg (fun h => ht h.1)
    rw [e]
    refine Ev.neg (fun hh => ht (of_decide_eq_true hh)) (Ev.step (fun _ => rfl) ?_)
    simp only [impl_Rename.j0]
    exact Ev.pos trivial (Ev.now _)
theorem renameOf_size (l : List Nd) (v u : Int) : (renameOf l v u).1.length ≤ 1048576 := by
  unfold renameOf
  split
  · rename_i h; have := h.1.2.1; simp only [List.length_map]; omega
  · exact Nat.zero_le _
end Go.Proofs.Ytlgjogfcpgfbnaa.K
