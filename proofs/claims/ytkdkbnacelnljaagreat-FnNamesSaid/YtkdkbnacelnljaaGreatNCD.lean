/- The functions of the laws over rows of nodes. Conditions: those that a theorem names. -/
import Derived.Test.YtkdkbnacelnljaaGreatNCB
set_option linter.unusedVariables false
set_option linter.unusedSimpArgs false
namespace Go.Proofs.YtkdkbnacelnljaaGreat.RE
open Go Go.RowKit
set_option maxRecDepth 100000
set_option maxHeartbeats 8000000

/-- One round more of a loop. -/
theorem up {x : Nat} (h : x ≤ 4611686018427387904) : IntKind.i64.wrap ((x : Int) + 1) = ((x + 1 : Nat) : Int) := wr (by omega) (by omega)
theorem spl_set {t : List Nd} {i : Nat} (h : i < t.length) (n : Nd) : spl (lN t) (i * 6) (nl n) = lN (t.set i n) := by
  unfold spl
  rw [lN_take, show i * 6 + (nl n).length = (i + 1) * 6 by simp [nl]; omega, lN_drop, List.set_eq_take_append_cons_drop, if_pos h, lN_app]
  simp [lN]
theorem setL {t : List Nd} {i : Nat} (h : i < t.length) (n : Nd) : List.take (i * 6) (lN t) ++ [LV.sc (.int .i64 n.op), .sc (.int .i64 n.w), .sc (.int .i64 n.k), .sc (.int .i64 n.a), .sc (.int .i64 n.b), .sc (.int .i64 n.c)] ++ List.drop (i * 6 + 6) (lN t) = lN (t.set i n) := spl_set h n
end Go.Proofs.YtkdkbnacelnljaaGreat.RE

/-! Right nodes. Conditions: those that a theorem names. -/
set_option linter.unusedVariables false
set_option linter.unusedSimpArgs false
namespace Go.Proofs.YtkdkbnacelnljaaGreat.RE
open Go Go.RowKit
set_option maxRecDepth 100000
set_option maxHeartbeats 8000000

def wAt (t : List Nd) (p : Int) : Int := (t.getD p.toNat default).w
def rule (n : Nd) (w : List Int) : Bool :=
  if n.op = 0 then ((wordOk n.w n.k && decide (n.a = 0)) && decide (n.b = 0)) && decide (n.c = 0)
  else if n.op = 1 then (((decide (0 ≤ n.k) && decide (n.k ≤ 7)) && decide (n.a = 0)) && decide (n.b = 0)) && decide (n.c = 0)
  else if n.op = 2 then ((decide (w.getD 0 0 = n.w) && decide (n.k = 0)) && decide (n.b = 0)) && decide (n.c = 0)
  else if (decide (3 ≤ n.op) && decide (n.op ≤ 12)) = true then ((decide (w.getD 0 0 = n.w) && decide (w.getD 1 0 = n.w)) && decide (n.k = 0)) && decide (n.c = 0)
  else if (decide (13 ≤ n.op) && decide (n.op ≤ 15)) = true then ((decide (w.getD 0 0 = w.getD 1 0) && decide (n.w = 1)) && decide (n.k = 0)) && decide (n.c = 0)
  else if n.op = 16 then (decide (IntKind.i64.wrap (w.getD 0 0 + w.getD 1 0) = n.w) && decide (n.k = 0)) && decide (n.c = 0)
  else if n.op = 17 then ((decide (0 ≤ n.k) && decide (n.k ≤ IntKind.i64.wrap (w.getD 0 0 - n.w))) && decide (n.b = 0)) && decide (n.c = 0)
  else if n.op = 18 then ((decide (w.getD 0 0 = 1) && decide (w.getD 1 0 = n.w)) && decide (w.getD 2 0 = n.w)) && decide (n.k = 0)
  else if isQ n.op = true then ((((decide (0 ≤ n.k) && decide (n.k ≤ 7)) && (decide (1 ≤ n.b) && decide (n.b ≤ 8))) && decide (w.getD 0 0 = 1)) && decide (n.w = 1)) && decide (n.c = 0)
  else false
def sRight (t : List Nd) (i : Nat) : Bool := let n := t.getD i default
  (parts n).all (fun p => decide (0 ≤ p ∧ p < i)) && ((decide (1 ≤ n.w) && decide (n.w ≤ 8)) && rule n ((parts n).map (wAt t)))
theorem parts_1 {n : Nd} (h : n.op = 2 ∨ n.op = 17 ∨ n.op = 19 ∨ n.op = 20) : parts n = [n.a] := by
  unfold parts isQ; rw [if_pos (by simp; omega)]
theorem parts_2 {n : Nd} (h : 3 ≤ n.op ∧ n.op ≤ 16) : parts n = [n.a, n.b] := by
  unfold parts isQ; rw [if_neg (by simp; omega), if_pos (by simp; omega)]
theorem parts_3 {n : Nd} (h : n.op = 18) : parts n = [n.a, n.b, n.c] := by
  unfold parts isQ; rw [if_neg (by simp; omega), if_neg (by simp; omega), if_pos h]
theorem parts_0 {n : Nd} (h : ¬ (n.op = 2 ∨ n.op = 17 ∨ n.op = 19 ∨ n.op = 20) ∧ ¬ (3 ≤ n.op ∧ n.op ≤ 16) ∧ ¬ n.op = 18) : parts n = [] := by
  unfold parts isQ; rw [if_neg (by simp; omega), if_neg (by simp; omega), if_neg (by omega)]
theorem rule_q {n : Nd} {w : List Int} (h : n.op = 19 ∨ n.op = 20) : rule n w = (((((decide (0 ≤ n.k) && decide (n.k ≤ 7)) && (decide (1 ≤ n.b) && decide (n.b ≤ 8))) && decide (w.getD 0 0 = 1)) && decide (n.w = 1)) && decide (n.c = 0)) := by
  unfold rule isQ
  rw [if_neg (by omega), if_neg (by omega), if_neg (by omega), if_neg (by simp; omega), if_neg (by simp; omega), if_neg (by omega), if_neg (by omega), if_neg (by omega), if_pos (by simp; omega)]
theorem rule_no {n : Nd} {w : List Int} (h : ¬ n.op = 0 ∧ ¬ n.op = 1 ∧ ¬ n.op = 2 ∧ ¬ (3 ≤ n.op ∧ n.op ≤ 12) ∧ ¬ (13 ≤ n.op ∧ n.op ≤ 15) ∧ ¬ n.op = 16 ∧ ¬ n.op = 17 ∧ ¬ n.op = 18 ∧ ¬ (n.op = 19 ∨ n.op = 20)) : rule n w = false := by
  unfold rule isQ
  rw [if_neg (by omega), if_neg (by omega), if_neg (by omega), if_neg (by simp; omega), if_neg (by simp; omega), if_neg (by omega), if_neg (by omega), if_neg (by omega), if_neg (by simp; omega)]
theorem parts_len (n : Nd) : (parts n).length ≤ 3 := by
  unfold parts
  split
  · simp
  · split
    · simp
    · split <;> simp
theorem all_get {l : List Int} {f : Int → Bool} {x : Nat} (h : l.all f = true) (hx : x < l.length) : f (l.getD x 0) = true := by
  rw [← getD_at hx]; exact List.all_eq_true.1 h _ (List.getElem_mem hx)
theorem sRight_no {t : List Nd} {i x : Nat} {n : Nd} (hn : n = t.getD i default) (hx : x < (parts n).length) (h : (decide (0 ≤ (parts n).getD x 0) && decide ((parts n).getD x 0 ≤ (i : Int) - 1)) = false) : sRight t i = false := by
  have : (parts n).all (fun p => decide (0 ≤ p ∧ p < (i : Int))) = false := by
    cases hh : (parts n).all (fun p => decide (0 ≤ p ∧ p < (i : Int))) with
    | false => rfl
    | true =>
      have := all_get hh hx
      simp at this h
      omega
  simp only [sRight, ← hn, this, Bool.false_and]
theorem sRight_now {t : List Nd} {i : Nat} {n : Nd} (hn : n = t.getD i default) (h : (decide (1 ≤ n.w) && decide (n.w ≤ 8)) = false) : sRight t i = false := by
  simp only [sRight, ← hn, h, Bool.false_and, Bool.and_false]
theorem sRight_yes {t : List Nd} {i : Nat} {n : Nd} (hn : n = t.getD i default) (h : (decide (1 ≤ n.w) && decide (n.w ≤ 8)) = true) (ha : (parts n).all (fun p => decide (0 ≤ p ∧ p < (i : Int))) = true) : sRight t i = rule n ((parts n).map (wAt t)) := by
  simp only [sRight, ← hn, h, ha, Bool.true_and]
end Go.Proofs.YtkdkbnacelnljaaGreat.RE
