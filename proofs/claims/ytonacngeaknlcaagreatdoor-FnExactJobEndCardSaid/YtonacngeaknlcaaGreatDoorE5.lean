/- ReadKey: program and reference read alike. Conditions: those that a theorem names. -/
import Derived.Test.YtonacngeaknlcaaGreatDoorE4
set_option linter.unusedVariables false
set_option linter.unusedSimpArgs false
namespace Go.Proofs.YtonacngeaknlcaaGreatDoor.RE
open Go Go.RowKit
set_option maxRecDepth 100000
set_option maxHeartbeats 8000000

/-! ### Both read alike -/
theorem ba_ext {a b : ByteArray} (h : a.data.toList = b.data.toList) : a = b := by
  rw [← mkB_of a, ← mkB_of b, h]
theorem ext_list (s : ByteArray) (a b : Nat) : (s.extract a b).data.toList = (s.data.toList.drop a).take (b - a) := by
  rw [ByteArray.data_extract, Array.toList_extract, List.extract_eq_take_drop]
def decK (k : Nat) : List UInt8 := if k < 10 then [dig k] else [dig 1, dig (k - 10)]
theorem decK_eq {k : Nat} (hk : k ≤ 12) : decL k = decK k := by
  unfold decK
  rw [decL]
  split
  · rfl
  · rw [decL, if_pos (by omega), show k / 10 = 1 by omega, show k % 10 = k - 10 by omega]
    rfl
theorem decK_ok {k : Nat} (hk : k ≤ 12) : ((1 ≤ (decK k).length ∧ (decK k).length ≤ 2) ∧ numV (decK k) = k) ∧ ((decK k).all digB = true ∧ ¬ (1 < (decK k).length ∧ (((decK k).getD 0 0).toNat : Int) = 48)) := by
  have : k = 0 ∨ k = 1 ∨ k = 2 ∨ k = 3 ∨ k = 4 ∨ k = 5 ∨ k = 6 ∨ k = 7 ∨ k = 8 ∨ k = 9 ∨ k = 10 ∨ k = 11 ∨ k = 12 := by omega
  rcases this with h | h | h | h | h | h | h | h | h | h | h | h | h <;> subst h <;> decide
theorem numS_mk {l : List UInt8} (h1 : 1 ≤ l.length) (h2 : l.length ≤ 9) (h3 : l.all digB = true) (h4 : decL (numV l) = l) : numS (mkB l) = numV l := if_pos ⟨h1, h2, h3, congrArg mkB h4⟩
theorem dec12 {k : Nat} (hk : k ≤ 12) : (decL k).length ≤ 2 ∧ numS (mkB (decL k)) = k ∧ rdN (mkB (decL k)) = (k, true) := by
  have h := decK_ok hk
  rw [← decK_eq hk] at h
  refine ⟨h.1.1.2, ?_, ?_⟩
  · rw [numS_mk h.1.1.1 (by omega) h.2.1 (by rw [h.1.2]), h.1.2]
  · unfold rdN rdA
    simp only [mkB_list, mkB_size]
    rw [if_pos ⟨decide_eq_true ⟨h.1.1.1, by omega, h.2.2⟩, h.2.1⟩, h.1.2]
theorem key_take {k x : Nat} {s : ByteArray} (hx : x < s.size) (h : keyB k (s.extract (x + 1) s.size) = s) : s.extract 0 x = mkB (decL k) ∧ (decL k).length = x := by
  have h1 := congrArg (fun b : ByteArray => b.data.toList) h
  simp only [keyB, bapp, mkB_list, ext_list, Int.toNat_natCast] at h1
  have hs := size_list s
  rw [List.take_of_length_le (by simp)] at h1
  have hl := congrArg List.length h1
  simp at hl
  have hk : (decL k).length = x := by omega
  refine ⟨ba_ext ?_, hk⟩
  rw [ext_list, mkB_list, List.drop_zero, ← h1, List.append_assoc, List.take_left' (by omega)]
theorem tkT_yes {n : Int} {o s : ByteArray} (h0 : 0 < s.size) (h : tkT n o = s) : tableOk n o = true ∧ keyB n o = s := by
  unfold tkT at h
  split at h
  · exact ⟨‹_›, h⟩
  · subst h; cases h0
theorem alike (s : ByteArray) : rkI s = rkS s ∧ (rkS s = true → ((rdN (cA s)).1 : Int) = rkN s ∧ cB s = rkO s) := by
  by_cases h0 : 0 ≤ ixT s
  · have hl := ix_lt s h0
    obtain ⟨x, hx⟩ : ∃ x : Nat, x = (ixT s).toNat := ⟨_, rfl⟩
    have hxs : x < s.size := by omega
    have ha : atT s = x := by unfold atT; rw [if_pos h0, hx]
    have hA : cA s = s.extract 0 x := by unfold cA; rw [if_pos h0, hx]
    have hB : cB s = s.extract (x + 1) s.size := by unfold cB; rw [if_pos h0, hx]
    have hO : cO s = true := decide_eq_true h0
    unfold rkI rkS rkN rkO rkOk
    rw [ha, hA, hB, hO]
    have key : ∀ k : Nat, k ≤ 12 → keyB k (s.extract (x + 1) s.size) = s → numS (s.extract 0 x) = k ∧ rdN (s.extract 0 x) = (k, true) ∧ x ≤ 2 := by
      intro k hk h
      obtain ⟨e1, e2⟩ := key_take hxs h
      have d := dec12 hk
      rw [e1]
      exact ⟨d.2.1, d.2.2, by omega⟩
    by_cases hS : (tableOk (numS (s.extract 0 x)) (s.extract (x + 1) s.size) && decide (keyB (numS (s.extract 0 x)) (s.extract (x + 1) s.size) = s)) = true
    · rw [Bool.and_eq_true, decide_eq_true_eq] at hS
      obtain ⟨k, hn, hk⟩ := tok_n hS.1
      rw [hn] at hS
      obtain ⟨e1, e2, e3⟩ := key k hk hS.2
      rw [e1, e2, hS.1, hS.2]
      unfold tkT
      rw [if_pos hS.1, hS.2, decide_eq_true (show x ≤ 2 ∧ x < s.size from ⟨e3, hxs⟩), decide_eq_true rfl]
      exact ⟨rfl, fun _ => ⟨rfl, rfl⟩⟩
    · rw [show (tableOk (numS (s.extract 0 x)) (s.extract (x + 1) s.size) && decide (keyB (numS (s.extract 0 x)) (s.extract (x + 1) s.size) = s)) = false by simpa using hS, Bool.and_false]
      refine ⟨?_, fun h => by cases h⟩
      rw [Bool.true_and, Bool.eq_false_iff]
      intro h
      rw [Bool.and_eq_true, decide_eq_true_eq] at h
      obtain ⟨h1, h2⟩ := tkT_yes (by omega) h.2
      obtain ⟨k, hn, hk⟩ := tok_n h1
      rw [hn] at h1 h2
      obtain ⟨e1, e2, e3⟩ := key k hk h2
      apply hS
      rw [e1, h1, h2, decide_eq_true rfl]
      rfl
  · unfold rkI rkS cO atT
    rw [decide_eq_false h0, if_neg h0, decide_eq_false (show ¬ (s.size ≤ 2 ∧ s.size < s.size) from fun h => by omega)]
    exact ⟨rfl, fun h => by cases h⟩
theorem iReadKey_c2 (s : ByteArray) (hs : s.size ≤ 1048576) : Val E.P 174 [S s] (.tup [.agg (tb (okN (rkS s) (rkN s)) (okO (rkS s) (rkO s))), TB (rkS s)]) := by
  have h := iReadKey_c s hs
  have ha := alike s
  rw [ha.1] at h
  have e1 : okN (rkS s) (rdN (cA s)).1 = okN (rkS s) (rkN s) := by
    unfold okN
    split
    · exact (ha.2 ‹_›).1
    · rfl
  have e2 : okO (rkS s) (cB s) = okO (rkS s) (rkO s) := by
    unfold okO
    split
    · exact (ha.2 ‹_›).2
    · rfl
  rw [e1, e2] at h
  exact h
theorem eqTable_c (n m : Int) (o p : ByteArray) : Val E.P 38 [.agg (tb n o), .agg (tb m p)] (T (decide (n = m ∧ o = p))) := by
  refine CallsA.body (E := E) (fn := Tryz.f38) Tryz.func38 rfl fun B hB => ?_
  simp only [Tryz.ntmps38, go_sem, nl, Nat.reduceSub, Nat.reduceAdd, List.reduceReplicate]
  refine Wp.seqK fun K1 hK1 => ?_
  refine rg ?_
  refine hK1 _ ?_
  clear hK1 K1
  refine Wp.seqK fun K2 hK2 => ?_
  refine Wp.seqK fun K3 hK3 => ?_
  refine rg ?_
  refine hK3 _ ?_
  clear hK3 K3
  refine Wp.condS (fun h9 => ?_) (fun h9 => ?_)
  · refine Wp.seqK fun K4 hK4 => ?_
    refine rg ?_
    refine hK4 _ ?_
    clear hK4 K4
    refine Wp.ret (retV ?_)
    simp only [List.getD_cons_zero, List.getD_cons_succ]
    rw [decide_eq_false (fun h => h9 h.1)]
  · refine Wp.skip ?_
    refine hK2 _ ?_
    clear hK2 K2
    refine Wp.seqK fun K5 hK5 => ?_
    refine Wp.seqK fun K6 hK6 => ?_
    refine rg ?_
    refine hK6 _ ?_
    clear hK6 K6
    refine Wp.condS (fun h14 => ?_) (fun h14 => ?_)
    · refine Wp.seqK fun K7 hK7 => ?_
      refine rg ?_
      refine hK7 _ ?_
      clear hK7 K7
      refine Wp.ret (retV ?_)
      simp only [List.getD_cons_zero, List.getD_cons_succ]
      rw [decide_eq_false (fun h => h14 h.2)]
    · refine Wp.skip ?_
      refine hK5 _ ?_
      clear hK5 K5
      refine Wp.seqK fun K8 hK8 => ?_
      refine rg ?_
      refine hK8 _ ?_
      clear hK8 K8
      refine Wp.ret (retV ?_)
      simp only [List.getD_cons_zero, List.getD_cons_succ]
      rw [decide_eq_true ⟨h9, h14⟩]
end Go.Proofs.YtonacngeaknlcaaGreatDoor.RE
