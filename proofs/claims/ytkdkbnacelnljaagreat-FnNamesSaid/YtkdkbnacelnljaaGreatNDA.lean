/- Nodes under new numbers. Conditions: those that a theorem names. -/
import Derived.Test.YtkdkbnacelnljaaGreatNDQ
import Derived.Test.YtkdkbnacelnljaaGreatND10
/-! Nodes under new numbers. Conditions: those that a theorem names. -/
set_option linter.unusedVariables false
set_option linter.unusedSimpArgs false
namespace Go.Proofs.YtkdkbnacelnljaaGreat.RE
open Go Go.RowKit
set_option maxRecDepth 100000
set_option maxHeartbeats 8000000

def rA (f : Int → Int) (n : Nd) : Int := if 0 < (parts n).length then f n.a else n.a
def rB' (f : Int → Int) (n : Nd) : Int := if 1 < (parts n).length then f n.b else n.b
def rC (f : Int → Int) (n : Nd) : Int := if 2 < (parts n).length then f n.c else n.c
def renF (f : Int → Int) (n : Nd) : Nd := ⟨n.op, n.w, n.k, rA f n, rB' f n, rC f n⟩
end Go.Proofs.YtkdkbnacelnljaaGreat.RE
/-! Terms without what is not reached, the program. Conditions: those that a theorem names. -/
set_option linter.unusedVariables false
set_option linter.unusedSimpArgs false
namespace Go.Proofs.YtkdkbnacelnljaaGreat.RE
open Go Go.RowKit
set_option maxRecDepth 100000
set_option maxHeartbeats 8000000

theorem zeroI (n : Nat) : (List.replicate n [LV.sc (.int .i64 0)]).flatten = (List.replicate n (0 : Int)).map ci := by
  induction n with
  | zero => rfl
  | succ n ih => simp only [List.replicate_succ, List.flatten_cons, List.map_cons, ih]; rfl
attribute [go_sem] zeroI
end Go.Proofs.YtkdkbnacelnljaaGreat.RE
/-! Constants put together: a node. Conditions: those that a theorem names. -/
set_option linter.unusedVariables false
set_option linter.unusedSimpArgs false
namespace Go.Proofs.YtkdkbnacelnljaaGreat.RE
open Go Go.RowKit
set_option maxRecDepth 100000
set_option maxHeartbeats 8000000

theorem gL1 {t : List Nd} {i : Nat} (h : i < t.length) : (lN t).getD (i * 6 + 1) .dead = .sc (.int .i64 (t.getD i default).w) := (fL h (by omega)).trans rfl
theorem gL2 {t : List Nd} {i : Nat} (h : i < t.length) : (lN t).getD (i * 6 + 2) .dead = .sc (.int .i64 (t.getD i default).k) := (fL h (by omega)).trans rfl
theorem gL3 {t : List Nd} {i : Nat} (h : i < t.length) : (lN t).getD (i * 6 + 3) .dead = .sc (.int .i64 (t.getD i default).a) := (fL h (by omega)).trans rfl
theorem gL4 {t : List Nd} {i : Nat} (h : i < t.length) : (lN t).getD (i * 6 + 4) .dead = .sc (.int .i64 (t.getD i default).b) := (fL h (by omega)).trans rfl
theorem gL5 {t : List Nd} {i : Nat} (h : i < t.length) : (lN t).getD (i * 6 + 5) .dead = .sc (.int .i64 (t.getD i default).c) := (fL h (by omega)).trans rfl
theorem setL6 {t : List Nd} {i : Nat} (h : i < t.length) (a b c d e f : Int) : List.take (i * 6) (lN t) ++ [LV.sc (.int .i64 a), .sc (.int .i64 b), .sc (.int .i64 c), .sc (.int .i64 d), .sc (.int .i64 e), .sc (.int .i64 f)] ++ List.drop (i * 6 + 6) (lN t) = lN (t.set i ⟨a, b, c, d, e, f⟩) := setL h ⟨a, b, c, d, e, f⟩
attribute [go_sem] fL0 gL1 gL2 gL3 gL4 gL5 setL6
def isC (o : List Nd) (p : Int) : Bool := decide ((o.getD p.toNat default).op = 0)
def foldX (o : List Nd) (ps : List Int) (k : Nat) : List Int := (List.range 3).map fun j => if j < k then (o.getD (ps.getD j 0).toNat default).k else 0
def foldV (o : List Nd) (n : Nd) : Nd := ⟨0, n.w, appT n (o.getD ((parts n).getD 0 0).toNat default).w ((foldX o (parts n) (parts n).length).getD 0 0) ((foldX o (parts n) (parts n).length).getD 1 0) ((foldX o (parts n) (parts n).length).getD 2 0), 0, 0, 0⟩
def foldB (o : List Nd) (n : Nd) : Bool := (decide (0 < (parts n).length) && !isQ n.op) && (parts n).all (isC o)
def foldNode (o : List Nd) (n : Nd) : Nd × Bool := if foldB o n = true then (foldV o n, true) else (n, false)
end Go.Proofs.YtkdkbnacelnljaaGreat.RE
/-! Constants put together, the program. Conditions: those that a theorem names. -/
set_option linter.unusedVariables false
set_option linter.unusedSimpArgs false
namespace Go.Proofs.YtkdkbnacelnljaaGreat.RE
open Go Go.RowKit
set_option maxRecDepth 100000
set_option maxHeartbeats 8000000

theorem okT_w {t : List Nd} (h : okT t = true) {i : Nat} (hi : i < t.length) : 1 ≤ (t.getD i default).w ∧ (t.getD i default).w ≤ 8 := by
  have hs := okT_at h hi
  simp only [sRight, Bool.and_eq_true, decide_eq_true_eq] at hs
  exact hs.2.1
theorem okT_kb {t : List Nd} (h : okT t = true) {i : Nat} (hi : i < t.length) : -1000 ≤ (t.getD i default).k ∧ (t.getD i default).k ≤ 1000 := by
  have hs := okT_at h hi
  have hp := okT_part h hi
  have hw := okT_w h hi
  simp only [sRight, Bool.and_eq_true] at hs
  have hr := hs.2.2
  clear hs
  generalize hn : t.getD i default = n at *
  by_cases h17 : n.op = 17
  · have hps := parts_1 (n := n) (by omega)
    rw [hps] at hp hr
    have ha := hp n.a (by simp)
    have hwa := okT_w h (i := n.a.toNat) (by omega)
    unfold rule at hr
    rw [if_neg (by omega), if_neg (by omega), if_neg (by omega), if_neg (by simp; omega), if_neg (by simp; omega), if_neg (by omega), if_pos h17] at hr
    simp only [List.map_cons, List.map_nil, List.getD_cons_zero, wAt, Bool.and_eq_true, decide_eq_true_eq] at hr
    rw [wr (by omega) (by omega)] at hr
    omega
  · unfold rule at hr
    split at hr
    · simp only [Bool.and_eq_true] at hr
      have h1 := wordOk_t hr.1.1.1
      have h2 := pw (show 0 ≤ n.w by omega) hw.2
      omega
    · split at hr
      · simp only [Bool.and_eq_true, decide_eq_true_eq] at hr; omega
      · split at hr
        · simp only [Bool.and_eq_true, decide_eq_true_eq] at hr; omega
        · split at hr
          · simp only [Bool.and_eq_true, decide_eq_true_eq] at hr; omega
          · split at hr
            · simp only [Bool.and_eq_true, decide_eq_true_eq] at hr; omega
            · split at hr
              · simp only [Bool.and_eq_true, decide_eq_true_eq] at hr; omega
              · split at hr
                · simp only [Bool.and_eq_true, decide_eq_true_eq] at hr; omega
                · split at hr
                  · simp only [Bool.and_eq_true, decide_eq_true_eq] at hr; omega
                  · cases hr
def fM (t : List Nd) : Nat → List Nd
  | 0 => t
  | x + 1 => (fM t x).set x (foldNode (fM t x) (t.getD x default)).1
theorem fM_at (t : List Nd) : ∀ (x j : Nat), x ≤ j → (fM t x).getD j default = t.getD j default
  | 0, _, _ => rfl
  | x + 1, j, h => by
    simp only [fM]
    rw [List.getD_eq_getElem?_getD, List.getElem?_set_ne (by omega), ← List.getD_eq_getElem?_getD, fM_at t x j (by omega)]
theorem fM_at' {t : List Nd} {x : Nat} (h : x < t.length) : (fM t x).getD x default = t.getD x default := fM_at t x x (Nat.le_refl _)
attribute [go_sem] fM_at'
end Go.Proofs.YtkdkbnacelnljaaGreat.RE
