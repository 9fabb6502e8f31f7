/- isRight and l02Node in the form in which the printed callers take a callee. Conditions: those that a theorem names. -/
import Derived.Test.YtlgjogfcpgfbnaaKW2
import Derived.Test.YtlgjogfcpgfbnaaKW3
set_option linter.unusedVariables false
namespace Go.Proofs.Ytlgjogfcpgfbnaa.K
open Go.RowKit Go.Proofs.YtlgjogfcpgfbnaaW.PrintWords Go.Proofs.Ytlgjogfcpgfbnaa.KM

def y_isRight.f (l0 : List Nd) (a0 a1 a2 a3 a4 a5 : Int) : Option Bool := some (decide (RightP l0 ⟨a0, a1, a2, a3, a4, a5⟩))
theorem y_isRight.calls (A0 : Option Addr) (c0 : Nat) (l0 : List Nd) (a0 a1 a2 a3 a4 a5 : Int) (r : Bool) (w : World) (hr0 : Kd.C k99 w A0 l0.length l0) (hc0 : l0.length ≤ c0) (h : y_isRight.f l0 a0 a1 a2 a3 a4 a5 = some r) :
    Calls Try.prog 165 #[.slice A0 l0.length c0, .agg #[.int .i64 a0, .int .i64 a1, .int .i64 a2, .int .i64 a3, .int .i64 a4, .int .i64 a5]] w fun e w' => e = .returned (.bool r) ∧ Below w.heap.size w w' := by
  injection h with h
  subst h
  exact KS.isRight A0 c0 l0 a0 a1 a2 a3 a4 a5 w hr0 hc0
/-- The node at a place is right over what stands ahead of it. -/
def rightAt (t : List Nd) (n : Nat) : Bool := decide (RightP (t.take n) (t.getD n znd))
def y_l02Node.f (l0 : List Nd) (a1 : Int) : Option Bool := if 0 ≤ a1 then (if a1 < (l0.length : Int) then some (rightAt l0 a1.toNat) else none) else none
theorem y_l02Node.calls (A0 : Option Addr) (c0 : Nat) (l0 : List Nd) (a1 : Int) (r : Bool) (w : World) (hr0 : Kd.C k99 w A0 l0.length l0) (hc0 : l0.length ≤ c0) (h : y_l02Node.f l0 a1 = some r) :
    Calls Try.prog 164 #[.slice A0 l0.length c0, .int .i64 a1] w fun e w' => e = .returned (.bool r) ∧ Below w.heap.size w w' := by
  unfold y_l02Node.f at h
  split at h
  case isFalse => exact absurd h (by simp)
  split at h
  case isFalse => exact absurd h (by simp)
  rename_i h0 h1
  injection h with h
  subst h
  obtain ⟨n, rfl⟩ := Int.eq_ofNat_of_zero_le h0
  have hn : n < l0.length := by omega
  obtain ⟨x0, x1, x2, x3, x4, x5, hx⟩ : ∃ x0 x1 x2 x3 x4 x5, rd_T99 l0 (n : Int) = ⟨x0, x1, x2, x3, x4, x5⟩ := ⟨_, _, _, _, _, _, rfl⟩
  refine KS.l02Node_run A0 c0 l0 n hn _ _ _ _ _ _ hx w hr0 hc0 _ ?_
  have e : rightAt l0 (n : Int).toNat = decide (RightP (l0.take n) (rd_T99 l0 (n : Int))) := rfl
  rw [e, hx]
  exact KS.RightP_split _ _ _ _ _ _ _
end Go.Proofs.Ytlgjogfcpgfbnaa.K
