/- Digits and keys, plain. Conditions: those that a theorem names. -/
import Derived.Test.YtonacngeaknlcaaGreatDoorE5
import Derived.Test.YtonacngeaknlcaaGreatDoorJ2
set_option linter.unusedVariables false
set_option linter.unusedSimpArgs false
namespace Go.Proofs.YtonacngeaknlcaaGreatDoor.RE
open Go Go.RowKit
set_option maxRecDepth 100000
set_option maxHeartbeats 8000000
theorem dig_digB {k : Nat} (h : k < 10) : digB (dig k) = true := by
  have : k = 0 ∨ k = 1 ∨ k = 2 ∨ k = 3 ∨ k = 4 ∨ k = 5 ∨ k = 6 ∨ k = 7 ∨ k = 8 ∨ k = 9 := by omega
  rcases this with h | h | h | h | h | h | h | h | h | h <;> subst h <;> rfl
theorem dig_nat {k : Nat} (h : k < 10) : (dig k).toNat = 48 + k := by
  have : k = 0 ∨ k = 1 ∨ k = 2 ∨ k = 3 ∨ k = 4 ∨ k = 5 ∨ k = 6 ∨ k = 7 ∨ k = 8 ∨ k = 9 := by omega
  rcases this with h | h | h | h | h | h | h | h | h | h <;> subst h <;> rfl
theorem decL_dig (n : Nat) : (decL n).all digB = true := by
  rw [decL]
  split
  · rename_i h
    simp [dig_digB h]
  · rw [List.all_append, decL_dig (n / 10)]
    simp [dig_digB (Nat.mod_lt n (by decide : 0 < 10))]
termination_by n
decreasing_by omega
theorem numV_app (l : List UInt8) (b : UInt8) : numV (l ++ [b]) = 10 * numV l + (b.toNat - 48) := by simp [numV]
theorem decL_num (n : Nat) : numV (decL n) = n := by
  rw [decL]
  split
  · rename_i h
    show 10 * 0 + ((dig n).toNat - 48) = n
    rw [dig_nat h]; omega
  · rw [numV_app, decL_num (n / 10), dig_nat (Nat.mod_lt n (by decide : 0 < 10))]
    omega
termination_by n
decreasing_by omega
theorem bit_digB {b : UInt8} (h : bitB b = true) : digB b = true := by
  have := of_decide_eq_true h
  unfold digB
  simp only [Bool.and_eq_true, decide_eq_true_eq]
  omega
theorem keyB_list (n : Int) (o : ByteArray) : (keyB n o).data.toList = decL n.toNat ++ 58 :: o.data.toList := by
  unfold keyB
  rw [bapp, bapp, mkB_list, List.append_assoc]; rfl
end Go.Proofs.YtonacngeaknlcaaGreatDoor.RE
