/- CountOp, the program. Conditions: those that a theorem names. -/
import Derived.Test.YtkdkbnacelnljaaQCI
import Derived.Test.YtkdkbnacelnljaaQRZ
import Derived.Test.YtkdkbnacelnljaaQCA
import Derived.Test.YtkdkbnacelnljaaQCE
set_option linter.unusedVariables false
set_option linter.unusedSimpArgs false
namespace Go.Proofs.Ytkdkbnacelnljaa.RE
open Go Go.RowKit
set_option maxRecDepth 100000
set_option maxHeartbeats 8000000

end Go.Proofs.Ytkdkbnacelnljaa.RE

/-! Numbers of variables, the reference. Conditions: those that a theorem names. -/
set_option linter.unusedVariables false
set_option linter.unusedSimpArgs false
namespace Go.Proofs.Ytkdkbnacelnljaa.RE
open Go Go.RowKit
set_option maxRecDepth 100000
set_option maxHeartbeats 8000000

def named (n : Nd) : Bool := decide (n.op = 1) || isQ n.op
def varsL (b : List Bool) (x : Nat) : List Int := ((List.range x).filter fun v => b.getD v false).map fun (v : Nat) => (v : Int)
theorem varsL_yes {b : List Bool} {x : Nat} (h : b.getD x false = true) : varsL b (x + 1) = varsL b x ++ [(x : Int)] := by
  unfold varsL
  rw [List.range_succ, List.filter_append, List.map_append]
  simp [List.filter_cons, h, ← List.getD_eq_getElem?_getD]
theorem varsL_no {b : List Bool} {x : Nat} (h : b.getD x false = false) : varsL b (x + 1) = varsL b x := by
  unfold varsL
  rw [List.range_succ, List.filter_append, List.map_append]
  simp [List.filter_cons, h, ← List.getD_eq_getElem?_getD]
theorem varsL_len (b : List Bool) (x : Nat) : (varsL b x).length ≤ x := by
  unfold varsL
  rw [List.length_map]
  exact Nat.le_trans (List.length_filter_le _ _) (by simp)
end Go.Proofs.Ytkdkbnacelnljaa.RE

/-! Numbers of variables, the program. Conditions: those that a theorem names. -/
set_option linter.unusedVariables false
set_option linter.unusedSimpArgs false
namespace Go.Proofs.Ytkdkbnacelnljaa.RE
open Go Go.RowKit
set_option maxRecDepth 100000
set_option maxHeartbeats 8000000
end Go.Proofs.Ytkdkbnacelnljaa.RE

/-! Rows of numbers in the laws. Conditions: those that a theorem names. -/
set_option linter.unusedVariables false
set_option linter.unusedSimpArgs false
namespace Go.Proofs.Ytkdkbnacelnljaa.RE
open Go Go.RowKit
set_option maxRecDepth 100000
set_option maxHeartbeats 8000000

end Go.Proofs.Ytkdkbnacelnljaa.RE

/-! Numbers of variables, the program. Conditions: those that a theorem names. -/
set_option linter.unusedVariables false
set_option linter.unusedSimpArgs false
namespace Go.Proofs.Ytkdkbnacelnljaa.RE
open Go Go.RowKit
set_option maxRecDepth 100000
set_option maxHeartbeats 8000000

/-- Numbers of variables are 0 .. 7. -/
def NumsOk (t : List Nd) : Prop := ∀ i, i < t.length → named (t.getD i default) = true → 0 ≤ (t.getD i default).k ∧ (t.getD i default).k < 8
theorem okT_nums {t : List Nd} (h : okT t = true) : NumsOk t := by
  intro i hi hn
  have hs := okT_at h hi
  simp only [sRight, Bool.and_eq_true] at hs
  have hr := hs.2.2
  simp only [named, isQ, Bool.or_eq_true, decide_eq_true_eq] at hn
  rcases hn with h1 | h1
  · unfold rule at hr
    rw [if_neg (by omega), if_pos h1] at hr
    simp only [Bool.and_eq_true, decide_eq_true_eq] at hr
    omega
  · rw [rule_q h1] at hr
    simp only [Bool.and_eq_true, decide_eq_true_eq] at hr
    omega
end Go.Proofs.Ytkdkbnacelnljaa.RE

/-! Reaching and free variables: plain facts. Conditions: those that a theorem names. -/
set_option linter.unusedVariables false
set_option linter.unusedSimpArgs false
namespace Go.Proofs.Ytkdkbnacelnljaa.RE
open Go Go.RowKit

theorem getD_lt {b : List Bool} {i : Nat} (h : b.getD i false = true) : i < b.length := by
  rcases Nat.lt_or_ge i b.length with h1 | h1
  · exact h1
  · rw [List.getD_eq_getElem?_getD, List.getElem?_eq_none h1] at h; simp at h
theorem getD_ge {b : List Bool} {j : Nat} (h : b.length ≤ j) : b.getD j false = false := by
  rw [List.getD_eq_getElem?_getD, List.getElem?_eq_none h]; rfl
/-- Parts stand ahead. -/
def PartsOk (t : List Nd) : Prop := ∀ i, i < t.length → ∀ p ∈ parts (t.getD i default), 0 ≤ p ∧ p < (i : Int)
theorem okT_parts {t : List Nd} (h : okT t = true) : PartsOk t := fun _ hi => okT_part h hi
structure RunOk (t : List Nd) (ps : Nat → Bool) (x : Nat) (b b' : List Bool) : Prop where
  keep : ∀ j, x ≤ j + 1 → b'.getD j false = b.getD j false
  mono : ∀ j, b.getD j false = true → b'.getD j false = true
  clo : ∀ i, i < x → b'.getD i false = true → ps i = true → ∀ p ∈ parts (t.getD i default), b'.getD p.toNat false = true
  src : ∀ j, b'.getD j false = true → b.getD j false = true ∨ ∃ i, i < x ∧ j < i ∧ b'.getD i false = true ∧ ps i = true ∧ ∃ p ∈ parts (t.getD i default), p.toNat = j
theorem stepR_keep {t : List Nd} {ps : Nat → Bool} {x j : Nat} {b : List Bool} (hp : ∀ p ∈ parts (t.getD x default), 0 ≤ p ∧ p < (x : Int)) (hj : x ≤ j) : (stepR t ps x b).getD j false = b.getD j false := by
  unfold stepR
  split
  · rcases Nat.lt_or_ge j b.length with h1 | h1
    · rw [mark_get _ _ _ h1]
      have : ((parts (t.getD x default)).any fun p => decide (p.toNat = j)) = false := by
        rw [List.any_eq_false]
        intro p h
        have := hp p h
        simp; omega
      rw [this, Bool.or_false]
    · rw [getD_ge h1, getD_ge (by rw [mark_len]; exact h1)]
  · rfl
theorem stepR_mono {t : List Nd} {ps : Nat → Bool} {x j : Nat} {b : List Bool} (h : b.getD j false = true) : (stepR t ps x b).getD j false = true := by
  unfold stepR
  split
  · rw [mark_get _ _ _ (getD_lt h), h, Bool.true_or]
  · exact h
theorem runR_ok {t : List Nd} (ps : Nat → Bool) (hp : PartsOk t) : ∀ (x : Nat) (b : List Bool), x ≤ t.length → b.length = t.length → RunOk t ps x b (runR t ps x b)
  | 0, b, _, _ => ⟨fun _ _ => rfl, fun _ h => h, fun i hi => absurd hi (by omega), fun _ h => .inl h⟩
  | x + 1, b, hx, hb => by
    have hpx := hp x (by omega)
    obtain ⟨k1, m1, c1, s1⟩ := runR_ok ps hp x (stepR t ps x b) (by omega) (by rw [stepR_len, hb])
    have hself : (runR t ps (x + 1) b).getD x false = b.getD x false := by
      show (runR t ps x (stepR t ps x b)).getD x false = _
      rw [k1 x (by omega), stepR_keep hpx (Nat.le_refl _)]
    refine ⟨fun j hj => ?_, fun j hj => m1 j (stepR_mono hj), fun i hi h1 h2 p h3 => ?_, fun j hj => ?_⟩
    · show (runR t ps x (stepR t ps x b)).getD j false = _
      rw [k1 j (by omega), stepR_keep hpx (by omega)]
    · by_cases hix : i = x
      · subst hix
        rw [hself] at h1
        refine m1 _ ?_
        unfold stepR
        rw [h1, h2]
        simp only [Bool.and_self, if_true]
        have := hpx p h3
        rw [mark_get _ _ _ (by omega)]
        have h5 : ((parts (t.getD i default)).any fun q => decide (q.toNat = p.toNat)) = true := List.any_eq_true.2 ⟨p, h3, by simp⟩
        rw [h5, Bool.or_true]
      · exact c1 i (by omega) h1 h2 p h3
    · rcases s1 j hj with h1 | ⟨i, h1, h2⟩
      · by_cases hc : (b.getD x false && ps x) = true
        · have hc' := hc
          rw [Bool.and_eq_true] at hc'
          unfold stepR at h1
          rw [if_pos hc] at h1
          have hlt := getD_lt h1
          rw [mark_len] at hlt
          rw [mark_get _ _ _ hlt, Bool.or_eq_true] at h1
          rcases h1 with h1 | h1
          · exact .inl h1
          · obtain ⟨p, h3, h4⟩ := List.any_eq_true.1 h1
            have h4 := of_decide_eq_true h4
            have := hpx p h3
            exact .inr ⟨x, by omega, by omega, by rw [hself]; exact hc'.1, hc'.2, p, h3, h4⟩
        · unfold stepR at h1
          rw [if_neg hc] at h1
          exact .inl h1
      · exact .inr ⟨i, by omega, h2⟩
def reachP (t : List Nd) (ps : Nat → Bool) : List Bool := runR t ps t.length (rootR t.length)
theorem reachP_len (t : List Nd) (ps : Nat → Bool) : (reachP t ps).length = t.length := by simp [reachP, runR_len, rootR]
theorem rootR_get {n j : Nat} : (rootR n).getD j false = decide (j + 1 = n) := by
  unfold rootR
  rcases Nat.lt_or_ge j n with h | h
  · simp [List.getD_eq_getElem?_getD, h]
  · rw [List.getD_eq_getElem?_getD, List.getElem?_eq_none (by simpa using h)]
    simp; omega
structure ReachOk (t : List Nd) (ps : Nat → Bool) (R : List Bool) : Prop where
  len : R.length = t.length
  root : 0 < t.length → R.getD (t.length - 1) false = true
  clo : ∀ i, R.getD i false = true → ps i = true → ∀ p ∈ parts (t.getD i default), R.getD p.toNat false = true
  src : ∀ j, R.getD j false = true → j + 1 = t.length ∨ ∃ i, i < t.length ∧ j < i ∧ R.getD i false = true ∧ ps i = true ∧ ∃ p ∈ parts (t.getD i default), p.toNat = j
theorem reachP_ok {t : List Nd} (ps : Nat → Bool) (hp : PartsOk t) : ReachOk t ps (reachP t ps) := by
  obtain ⟨k1, m1, c1, s1⟩ := runR_ok ps hp t.length (rootR t.length) (Nat.le_refl _) (by simp [rootR])
  refine ⟨reachP_len _ _, fun h => ?_, fun i hi => c1 i (by have := getD_lt hi; rwa [reachP_len] at this) hi, fun j hj => ?_⟩
  · show (runR t ps t.length (rootR t.length)).getD _ false = _
    rw [k1 _ (by omega), rootR_get]; simp; omega
  · rcases s1 j hj with h | h
    · rw [rootR_get] at h; exact .inl (of_decide_eq_true h)
    · exact .inr h

/-! ### Free variables -/
def frOne (t : List Nd) (v : Int) (l : List Bool) (i : Nat) : Bool := !(isQ (t.getD i default).op && decide ((t.getD i default).k = v)) && (decide ((t.getD i default).op = 1) && decide ((t.getD i default).k = v) || (parts (t.getD i default)).any fun p => l.getD p.toNat false)
def frB (t : List Nd) (v : Int) : Nat → List Bool
  | 0 => []
  | i + 1 => frB t v i ++ [frOne t v (frB t v i) i]
theorem frB_len (t : List Nd) (v : Int) : ∀ i, (frB t v i).length = i
  | 0 => rfl
  | i + 1 => by simp [frB, frB_len t v i]
def fr (t : List Nd) (v : Int) (j : Nat) : Bool := frOne t v (frB t v j) j
theorem frB_get (t : List Nd) (v : Int) : ∀ {i j : Nat}, j < i → (frB t v i).getD j false = fr t v j
  | i + 1, j, h => by
    have hl := frB_len t v i
    simp only [frB]
    by_cases hj : j < i
    · rw [List.getD_eq_getElem?_getD, List.getElem?_append_left (by omega), ← List.getD_eq_getElem?_getD, frB_get t v hj]
    · have : j = i := by omega
      subst this
      rw [List.getD_eq_getElem?_getD, List.getElem?_append_right (by omega)]
      simp [hl, fr]
theorem any_congr' {l : List Int} {f g : Int → Bool} (h : ∀ p ∈ l, f p = g p) : l.any f = l.any g := by
  induction l with
  | nil => rfl
  | cons a l ih => rw [List.any_cons, List.any_cons, h a List.mem_cons_self, ih fun p hp => h p (List.mem_cons_of_mem _ hp)]
theorem fr_eq {t : List Nd} {v : Int} {j : Nat} (hp : PartsOk t) (hj : j < t.length) : fr t v j = (!(isQ (t.getD j default).op && decide ((t.getD j default).k = v)) && (decide ((t.getD j default).op = 1) && decide ((t.getD j default).k = v) || (parts (t.getD j default)).any fun p => fr t v p.toNat)) := by
  unfold fr frOne
  congr 2
  refine any_congr' fun p h => ?_
  have := hp j hj p h
  exact frB_get t v (by omega)
def passV (t : List Nd) (v : Int) (i : Nat) : Bool := !(isQ (t.getD i default).op) || !decide ((t.getD i default).k = v)
def freeR (t : List Nd) (v : Int) : List Bool := reachP t (passV t v)
end Go.Proofs.Ytkdkbnacelnljaa.RE
