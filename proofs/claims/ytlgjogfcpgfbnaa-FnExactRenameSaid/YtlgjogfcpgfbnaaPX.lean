/- Rows of nodes marked with running numbers, and what is held against them. Conditions: those that a theorem names. -/
import Derived.Test.YtlgjogfcpgfbnaaKf
set_option linter.unusedVariables false
set_option linter.unusedSimpArgs false
namespace Go.Proofs.Ytlgjogfcpgfbnaa.K
open Go.RowKit Go.Proofs.YtlgjogfcpgfbnaaW.PrintWords Go.Proofs.YtlgjogfcpgfbnaaW.PrintMore Go.Proofs.Ytlgjogfcpgfbnaa.KM Go.Proofs.Ytlgjogfcpgfbnaa.Lib0

def markN (k : Int) : Nd := ⟨k, k + 1, k + 1 + 1, k + 1 + 1 + 1, k + 1 + 1 + 1 + 1, k + 1 + 1 + 1 + 1 + 1⟩
def markL (k : Int) : Nat → List Nd
  | 0 => []
  | n + 1 => markL k n ++ [markN (k + 6 * (n : Int))]
theorem markL_len (k : Int) : ∀ n, (markL k n).length = n
  | 0 => rfl
  | n + 1 => by rw [markL, List.length_append, markL_len k n]; rfl
theorem setN {P R : List Nd} {n e : Nd} {i : Nat} (h : P.length = i) : (P ++ n :: R).set ((i : Int)).toNat e = P ++ e :: R := by
  rw [Int.toNat_natCast, List.set_append_right _ _ (by omega), h, Nat.sub_self]; rfl
theorem rdN {P R : List Nd} {n : Nd} {i : Nat} (h : P.length = i) : rd_T99 (P ++ n :: R) (i : Int) = n := by
  show (P ++ n :: R).getD (i : Int).toNat _ = _
  rw [Int.toNat_natCast, List.getD_eq_getElem?_getD, List.getElem?_append_right (by omega), h, Nat.sub_self]; rfl
theorem mark_l0 (l : List Nd) (hl : l.length ≤ 1048576) (k0 : Int) (hk : 0 ≤ k0) (hk1 : k0 ≤ 1048576) : ∀ (d i : Nat) (x y : Int), i + d = l.length → x = (i : Int) → y = k0 + 6 * (i : Int) →
    Ev (fun k => laws_markNodeS.l0 k (markL k0 i ++ l.drop i) y x) (k0 + 6 * (l.length : Int), markL k0 l.length) := by
  intro d
  induction d with
  | zero =>
    intro i x y hi hx hy
    have hil : i = l.length := by omega
    subst hil hx hy
    rw [List.drop_length, List.append_nil]
    refine Ev.step (fun _ => rfl) ?_
    simp only [laws_markNodeS.l0]
    exact Ev.neg (by rw [markL_len]; omega) (Ev.now _)
  | succ d ih =>
    intro i x y hi hx hy
    subst hx
    have hil : i < l.length := by omega
    have hm := markL_len k0 i
    have hstep := ih (i + 1) ((i + 1 : Nat) : Int) (y + 1 + 1 + 1 + 1 + 1 + 1) (by omega) rfl (by omega)
    have h0 : 0 ≤ (i : Int) := by omega
    have h1 : (i : Int) < (l.length : Int) := by omega
    have hlen : ((markL k0 i ++ l[i] :: l.drop (i + 1)).length : Int) = (l.length : Int) := by rw [List.length_append, List.length_cons, hm, List.length_drop]; omega
    obtain ⟨w1, w2, w3, w4, w5, w6, w7⟩ : wrap64 (y + 1) = y + 1 ∧ wrap64 (y + 1 + 1) = y + 1 + 1 ∧ wrap64 (y + 1 + 1 + 1) = y + 1 + 1 + 1 ∧ wrap64 (y + 1 + 1 + 1 + 1) = y + 1 + 1 + 1 + 1 ∧ wrap64 (y + 1 + 1 + 1 + 1 + 1) = y + 1 + 1 + 1 + 1 + 1 ∧ wrap64 (y + 1 + 1 + 1 + 1 + 1 + 1) = y + 1 + 1 + 1 + 1 + 1 + 1 ∧ wrap64 ((i : Int) + 1) = ((i + 1 : Nat) : Int) :=
      ⟨wrap64_id (by omega) (by omega), wrap64_id (by omega) (by omega), wrap64_id (by omega) (by omega), wrap64_id (by omega) (by omega), wrap64_id (by omega) (by omega), wrap64_id (by omega) (by omega), wrap64_id (by omega) (by omega)⟩
    rw [List.drop_eq_getElem_cons hil]
    refine Ev.step (fun _ => rfl) ?_
    simp only [laws_markNodeS.l0]
    rw [hlen]
    refine Ev.pos h1 (Ev.pos h0 ?_)
    simp only [Option.bind_some, w1, w2, w3, w4, w5, w6, w7, rdN hm, setN hm]
    rw [markL, List.append_assoc, ← hy] at hstep
    exact hstep
theorem mark_ev (l : List Nd) (hl : l.length ≤ 1048576) : Ev (fun k => laws_markNodeS.f k l 1) (1 + 6 * (l.length : Int), markL 1 l.length) := by
  unfold laws_markNodeS.f
  exact mark_l0 l hl 1 (by omega) (by omega) l.length 0 0 1 (by omega) rfl rfl
theorem markL_get (k0 : Int) : ∀ (n i : Nat), i < n → (markL k0 n)[i]? = some (markN (k0 + 6 * (i : Int)))
  | 0, i, h => absurd h (by omega)
  | n + 1, i, h => by
    rw [markL]
    by_cases hi : i < n
    · rw [List.getElem?_append_left (by rw [markL_len]; exact hi)]; exact markL_get k0 n i hi
    · obtain rfl : i = n := by omega
      rw [List.getElem?_append_right (by rw [markL_len]; omega), markL_len, Nat.sub_self]; rfl
theorem held_l0 (n : Nat) (hn : n ≤ 1048576) (k0 : Int) (hk : 0 ≤ k0) (hk1 : k0 ≤ 1048576) : ∀ (d i : Nat) (x y : Int), i + d = n → x = (i : Int) → y = k0 + 6 * (i : Int) →
    Ev (fun k => laws_heldNodeS.l0 k (markL k0 n) y x) (k0 + 6 * (n : Int)) := by
  have hm := markL_len k0 n
  intro d
  induction d with
  | zero =>
    intro i x y hi hx hy
    refine Ev.step (fun _ => rfl) ?_
    simp only [laws_heldNodeS.l0]
    refine Ev.neg (by omega) (Ev.eq (Ev.now _) ?_)
    omega
  | succ d ih =>
    intro i x y hi hx hy
    subst hx
    have hr : rd_T99 (markL k0 n) (i : Int) = markN y := by
      show (markL k0 n).getD (i : Int).toNat _ = _
      rw [Int.toNat_natCast, List.getD_eq_getElem?_getD, markL_get k0 n i (by omega), hy]; rfl
    have hstep := ih (i + 1) ((i + 1 : Nat) : Int) (y + 1 + 1 + 1 + 1 + 1 + 1) (by omega) rfl (by omega)
    have h0 : 0 ≤ (i : Int) := by omega
    have h1 : (i : Int) < ((markL k0 n).length : Int) := by omega
    obtain ⟨w1, w2, w3, w4, w5, w6, w7⟩ : wrap64 (y + 1) = y + 1 ∧ wrap64 (y + 1 + 1) = y + 1 + 1 ∧ wrap64 (y + 1 + 1 + 1) = y + 1 + 1 + 1 ∧ wrap64 (y + 1 + 1 + 1 + 1) = y + 1 + 1 + 1 + 1 ∧ wrap64 (y + 1 + 1 + 1 + 1 + 1) = y + 1 + 1 + 1 + 1 + 1 ∧ wrap64 (y + 1 + 1 + 1 + 1 + 1 + 1) = y + 1 + 1 + 1 + 1 + 1 + 1 ∧ wrap64 ((i : Int) + 1) = ((i + 1 : Nat) : Int) :=
      ⟨wrap64_id (by omega) (by omega), wrap64_id (by omega) (by omega), wrap64_id (by omega) (by omega), wrap64_id (by omega) (by omega), wrap64_id (by omega) (by omega), wrap64_id (by omega) (by omega), wrap64_id (by omega) (by omega)⟩
    refine Ev.step (fun _ => rfl) ?_
    simp only [laws_heldNodeS.l0]
    rw [hr]
    simp only [w1, w2, w3, w4, w5, w6, w7]
    exact Ev.pos h1 (Ev.pos h0 (Ev.pos rfl (Ev.pos rfl (Ev.pos rfl (Ev.pos rfl (Ev.pos rfl (Ev.pos rfl hstep)))))))
theorem held_ev (n : Nat) (hn : n ≤ 1048576) : Ev (fun k => laws_heldNodeS.f k (markL 1 n) 1) (1 + 6 * (n : Int)) := by
  unfold laws_heldNodeS.f
  exact held_l0 n hn 1 (by omega) (by omega) n 0 0 1 (by omega) rfl rfl
theorem szN' (l : List Ld) (hl : l.length ≤ 9223372036854775807) : laws_szNodeS.f l 1048576 = some (if l.length ≤ 1048576 then 1048576 - (l.length : Int) else -1) := by
  unfold laws_szNodeS.f
  have e : wrap64 (1048576 - (l.length : Int)) = 1048576 - (l.length : Int) := wrap64_id (by omega) (by omega)
  rw [e]
  by_cases h : l.length ≤ 1048576
  · rw [if_neg (by omega), if_pos h]
  · rw [if_pos (by omega), if_neg h]
theorem eqN_self (a : List Nd) (h : a.length ≤ 1048576) : y_eqNodeS.f a a = some true := by
  unfold y_eqNodeS.f; rw [if_pos h]; simp
end Go.Proofs.Ytlgjogfcpgfbnaa.K
