/- Regions that draw their order, in the abstract memory. Conditions: those that a theorem names. -/
import Derived.Test.YtkdkbnacelnljaaGreatNRM
import Derived.Deep.Quiet
set_option linter.unusedVariables false
set_option linter.unusedSimpArgs false
namespace Go.Proofs.YtkdkbnacelnljaaGreat.RE
open Go Go.RowKit

section
variable {E : Env} {K K2 : St → Prop} {st st2 : St} {d : Option Tmp}
theorem fillF_congr {place : Nat → Option (Nat × Nat)} {tm tm2 : List AV} : ∀ (ps : List (Nat × Operand)) (cs : List LV), (∀ p ∈ ps, rd tm2 p.2 = rd tm p.2) → fillF place tm2 cs ps = fillF place tm cs ps
  | [], _, _ => rfl
  | (i, x) :: ps, cs, h => by
    simp only [fillF]
    rw [show rd tm2 x = rd tm x from h (i, x) List.mem_cons_self]
    cases place i with
    | none => rfl
    | some p =>
      cases (rd tm x).cells with
      | none => rfl
      | some vs =>
        simp only
        split
        · exact fillF_congr ps _ fun p hp => h p (List.mem_cons_of_mem _ hp)
        · rfl
variable {tm tm2 : List AV} {ob : Obs}
/-- An operation has one answer, whatever is asked behind it. -/
def Det (F : (St → Prop) → St → Option Tmp → Prop) (ob : Obs) (K : St → Prop) (tm : List AV) (d : Option Tmp) : Prop :=
  ∃ v ob', K ⟨putT tm d v, ob'⟩ ∧ ∀ (K' : St → Prop) tm' d', K' ⟨putT tm' d' v, ob'⟩ → F K' ⟨tm', ob⟩ d'
theorem pickF_d (a b c : AV) (h : pickF K ⟨tm, ob⟩ d a b c) : Det (fun K st d => pickF K st d a b c) ob K tm d := by
  unfold Det
  unfold pickF fin at *
  split at h
  case h_2 => exact h.elim
  rename_i c0
  dsimp only at *
  cases c0 with
  | true => exact ⟨_, _, h.1 rfl, fun K' tm' d' hk => ⟨fun _ => hk, fun e => by cases e⟩⟩
  | false => exact ⟨_, _, h.2 rfl, fun K' tm' d' hk => ⟨fun e => (by cases e), fun _ => hk⟩⟩
theorem allocF_d (e : TypeId) (h : allocF E K ⟨tm, ob⟩ d e) : Det (fun K st d => allocF E K st d e) ob K tm d := by
  unfold Det
  unfold allocF at *
  try unfold newF at *
  try unfold partF at *
  try unfold dpartF at *
  try unfold fin at *
  repeat' split at h
  all_goals (try dsimp only at *)
  all_goals first | exact h.elim | exact h.2.elim | exact ⟨_, _, h, fun K' tm' d' hk => by (try dsimp only); first | exact hk | (simp only [*, and_self, true_and, and_true, if_true, if_false, reduceIte, Bool.false_eq_true, not_true_eq_false]; done) | (simp only [*]; exact hk) | (simp [*]; done) | (simp [*]; exact hk)⟩ | exact ⟨_, _, h.2, fun K' tm' d' hk => by (try dsimp only); first | exact ⟨h.1, hk⟩ | (simp only [*, and_self, true_and, and_true, if_true, if_false, reduceIte, Bool.false_eq_true, not_true_eq_false]; done) | (simp only [*]; exact ⟨h.1, hk⟩) | (simp [*]; done) | (simp [*]; exact ⟨h.1, hk⟩)⟩ | exact ⟨_, _, h.2.2, fun K' tm' d' hk => by (try dsimp only); first | exact ⟨h.1, h.2.1, hk⟩ | (simp only [*, and_self, true_and, and_true, if_true, if_false, reduceIte, Bool.false_eq_true, not_true_eq_false]; done) | (simp only [*]; exact ⟨h.1, h.2.1, hk⟩) | (simp [*]; done) | (simp [*]; exact ⟨h.1, h.2.1, hk⟩)⟩ | exact ⟨_, _, h.2.2.2, fun K' tm' d' hk => by (try dsimp only); first | exact ⟨h.1, h.2.1, h.2.2.1, hk⟩ | (simp only [*, and_self, true_and, and_true, if_true, if_false, reduceIte, Bool.false_eq_true, not_true_eq_false]; done) | (simp only [*]; exact ⟨h.1, h.2.1, h.2.2.1, hk⟩) | (simp [*]; done) | (simp [*]; exact ⟨h.1, h.2.1, h.2.2.1, hk⟩)⟩ | skip
theorem boxF_d (v : AV) (h : boxF K ⟨tm, ob⟩ d v) : Det (fun K st d => boxF K st d v) ob K tm d := by
  unfold Det
  unfold boxF at *
  try unfold newF at *
  try unfold partF at *
  try unfold dpartF at *
  try unfold fin at *
  repeat' split at h
  all_goals (try dsimp only at *)
  all_goals first | exact h.elim | exact h.2.elim | exact ⟨_, _, h, fun K' tm' d' hk => by (try dsimp only); first | exact hk | (simp only [*, and_self, true_and, and_true, if_true, if_false, reduceIte, Bool.false_eq_true, not_true_eq_false]; done) | (simp only [*]; exact hk) | (simp [*]; done) | (simp [*]; exact hk)⟩ | exact ⟨_, _, h.2, fun K' tm' d' hk => by (try dsimp only); first | exact ⟨h.1, hk⟩ | (simp only [*, and_self, true_and, and_true, if_true, if_false, reduceIte, Bool.false_eq_true, not_true_eq_false]; done) | (simp only [*]; exact ⟨h.1, hk⟩) | (simp [*]; done) | (simp [*]; exact ⟨h.1, hk⟩)⟩ | exact ⟨_, _, h.2.2, fun K' tm' d' hk => by (try dsimp only); first | exact ⟨h.1, h.2.1, hk⟩ | (simp only [*, and_self, true_and, and_true, if_true, if_false, reduceIte, Bool.false_eq_true, not_true_eq_false]; done) | (simp only [*]; exact ⟨h.1, h.2.1, hk⟩) | (simp [*]; done) | (simp [*]; exact ⟨h.1, h.2.1, hk⟩)⟩ | exact ⟨_, _, h.2.2.2, fun K' tm' d' hk => by (try dsimp only); first | exact ⟨h.1, h.2.1, h.2.2.1, hk⟩ | (simp only [*, and_self, true_and, and_true, if_true, if_false, reduceIte, Bool.false_eq_true, not_true_eq_false]; done) | (simp only [*]; exact ⟨h.1, h.2.1, h.2.2.1, hk⟩) | (simp [*]; done) | (simp [*]; exact ⟨h.1, h.2.1, h.2.2.1, hk⟩)⟩ | skip
theorem loadF_d (t : TypeId) (x : AV) (h : loadF E K ⟨tm, ob⟩ d t x) : Det (fun K st d => loadF E K st d t x) ob K tm d := by
  unfold Det
  unfold loadF at *
  try unfold newF at *
  try unfold partF at *
  try unfold dpartF at *
  try unfold fin at *
  repeat' split at h
  all_goals (try dsimp only at *)
  all_goals first | exact h.elim | exact h.2.elim | exact ⟨_, _, h, fun K' tm' d' hk => by (try dsimp only); first | exact hk | (simp only [*, and_self, true_and, and_true, if_true, if_false, reduceIte, Bool.false_eq_true, not_true_eq_false]; done) | (simp only [*]; exact hk) | (simp [*]; done) | (simp [*]; exact hk)⟩ | exact ⟨_, _, h.2, fun K' tm' d' hk => by (try dsimp only); first | exact ⟨h.1, hk⟩ | (simp only [*, and_self, true_and, and_true, if_true, if_false, reduceIte, Bool.false_eq_true, not_true_eq_false]; done) | (simp only [*]; exact ⟨h.1, hk⟩) | (simp [*]; done) | (simp [*]; exact ⟨h.1, hk⟩)⟩ | exact ⟨_, _, h.2.2, fun K' tm' d' hk => by (try dsimp only); first | exact ⟨h.1, h.2.1, hk⟩ | (simp only [*, and_self, true_and, and_true, if_true, if_false, reduceIte, Bool.false_eq_true, not_true_eq_false]; done) | (simp only [*]; exact ⟨h.1, h.2.1, hk⟩) | (simp [*]; done) | (simp [*]; exact ⟨h.1, h.2.1, hk⟩)⟩ | exact ⟨_, _, h.2.2.2, fun K' tm' d' hk => by (try dsimp only); first | exact ⟨h.1, h.2.1, h.2.2.1, hk⟩ | (simp only [*, and_self, true_and, and_true, if_true, if_false, reduceIte, Bool.false_eq_true, not_true_eq_false]; done) | (simp only [*]; exact ⟨h.1, h.2.1, h.2.2.1, hk⟩) | (simp [*]; done) | (simp [*]; exact ⟨h.1, h.2.1, h.2.2.1, hk⟩)⟩ | skip
theorem storeF_d (t : TypeId) (x v : AV) (h : storeF E K ⟨tm, ob⟩ d t x v) : Det (fun K st d => storeF E K st d t x v) ob K tm d := by
  unfold Det
  unfold storeF at *
  split at h
  case h_2 => exact h.elim
  split at h
  case h_2 => exact h.elim
  rename_i h1 h2 h3
  dsimp only at *
  refine ⟨_, _, h.2.2.2, fun K' tm' d' hk => ?_⟩
  rw [h1, h2, h3]
  exact ⟨h.1, h.2.1, h.2.2.1, hk⟩
theorem faF_d (t : TypeId) (f : Nat) (x : AV) (h : faF E K ⟨tm, ob⟩ d t f x) : Det (fun K st d => faF E K st d t f x) ob K tm d := by
  unfold Det
  unfold faF at *
  try unfold newF at *
  try unfold partF at *
  try unfold dpartF at *
  try unfold fin at *
  repeat' split at h
  all_goals (try dsimp only at *)
  all_goals first | exact h.elim | exact h.2.elim | exact ⟨_, _, h, fun K' tm' d' hk => by (try dsimp only); first | exact hk | (simp only [*, and_self, true_and, and_true, if_true, if_false, reduceIte, Bool.false_eq_true, not_true_eq_false]; done) | (simp only [*]; exact hk) | (simp [*]; done) | (simp [*]; exact hk)⟩ | exact ⟨_, _, h.2, fun K' tm' d' hk => by (try dsimp only); first | exact ⟨h.1, hk⟩ | (simp only [*, and_self, true_and, and_true, if_true, if_false, reduceIte, Bool.false_eq_true, not_true_eq_false]; done) | (simp only [*]; exact ⟨h.1, hk⟩) | (simp [*]; done) | (simp [*]; exact ⟨h.1, hk⟩)⟩ | exact ⟨_, _, h.2.2, fun K' tm' d' hk => by (try dsimp only); first | exact ⟨h.1, h.2.1, hk⟩ | (simp only [*, and_self, true_and, and_true, if_true, if_false, reduceIte, Bool.false_eq_true, not_true_eq_false]; done) | (simp only [*]; exact ⟨h.1, h.2.1, hk⟩) | (simp [*]; done) | (simp [*]; exact ⟨h.1, h.2.1, hk⟩)⟩ | exact ⟨_, _, h.2.2.2, fun K' tm' d' hk => by (try dsimp only); first | exact ⟨h.1, h.2.1, h.2.2.1, hk⟩ | (simp only [*, and_self, true_and, and_true, if_true, if_false, reduceIte, Bool.false_eq_true, not_true_eq_false]; done) | (simp only [*]; exact ⟨h.1, h.2.1, h.2.2.1, hk⟩) | (simp [*]; done) | (simp [*]; exact ⟨h.1, h.2.1, h.2.2.1, hk⟩)⟩ | skip
theorem iaF_d (t : TypeId) (x i : AV) (h : iaF E K ⟨tm, ob⟩ d t x i) : Det (fun K st d => iaF E K st d t x i) ob K tm d := by
  unfold Det
  unfold iaF at *
  try unfold newF at *
  try unfold partF at *
  try unfold dpartF at *
  try unfold fin at *
  repeat' split at h
  all_goals (try dsimp only at *)
  all_goals first | exact h.elim | exact h.2.elim | exact ⟨_, _, h, fun K' tm' d' hk => by (try dsimp only); first | exact hk | (simp only [*, and_self, true_and, and_true, if_true, if_false, reduceIte, Bool.false_eq_true, not_true_eq_false]; done) | (simp only [*]; exact hk) | (simp [*]; done) | (simp [*]; exact hk)⟩ | exact ⟨_, _, h.2, fun K' tm' d' hk => by (try dsimp only); first | exact ⟨h.1, hk⟩ | (simp only [*, and_self, true_and, and_true, if_true, if_false, reduceIte, Bool.false_eq_true, not_true_eq_false]; done) | (simp only [*]; exact ⟨h.1, hk⟩) | (simp [*]; done) | (simp [*]; exact ⟨h.1, hk⟩)⟩ | exact ⟨_, _, h.2.2, fun K' tm' d' hk => by (try dsimp only); first | exact ⟨h.1, h.2.1, hk⟩ | (simp only [*, and_self, true_and, and_true, if_true, if_false, reduceIte, Bool.false_eq_true, not_true_eq_false]; done) | (simp only [*]; exact ⟨h.1, h.2.1, hk⟩) | (simp [*]; done) | (simp [*]; exact ⟨h.1, h.2.1, hk⟩)⟩ | exact ⟨_, _, h.2.2.2, fun K' tm' d' hk => by (try dsimp only); first | exact ⟨h.1, h.2.1, h.2.2.1, hk⟩ | (simp only [*, and_self, true_and, and_true, if_true, if_false, reduceIte, Bool.false_eq_true, not_true_eq_false]; done) | (simp only [*]; exact ⟨h.1, h.2.1, h.2.2.1, hk⟩) | (simp [*]; done) | (simp [*]; exact ⟨h.1, h.2.1, h.2.2.1, hk⟩)⟩ | skip
theorem lenF_d (t : TypeId) (x : AV) (h : lenF E K ⟨tm, ob⟩ d t x) : Det (fun K st d => lenF E K st d t x) ob K tm d := by
  unfold Det
  unfold lenF at *
  try unfold newF at *
  try unfold partF at *
  try unfold dpartF at *
  try unfold fin at *
  repeat' split at h
  all_goals (try dsimp only at *)
  all_goals first | exact h.elim | exact h.2.elim | exact ⟨_, _, h, fun K' tm' d' hk => by (try dsimp only); first | exact hk | (simp only [*, and_self, true_and, and_true, if_true, if_false, reduceIte, Bool.false_eq_true, not_true_eq_false]; done) | (simp only [*]; exact hk) | (simp [*]; done) | (simp [*]; exact hk)⟩ | exact ⟨_, _, h.2, fun K' tm' d' hk => by (try dsimp only); first | exact ⟨h.1, hk⟩ | (simp only [*, and_self, true_and, and_true, if_true, if_false, reduceIte, Bool.false_eq_true, not_true_eq_false]; done) | (simp only [*]; exact ⟨h.1, hk⟩) | (simp [*]; done) | (simp [*]; exact ⟨h.1, hk⟩)⟩ | exact ⟨_, _, h.2.2, fun K' tm' d' hk => by (try dsimp only); first | exact ⟨h.1, h.2.1, hk⟩ | (simp only [*, and_self, true_and, and_true, if_true, if_false, reduceIte, Bool.false_eq_true, not_true_eq_false]; done) | (simp only [*]; exact ⟨h.1, h.2.1, hk⟩) | (simp [*]; done) | (simp [*]; exact ⟨h.1, h.2.1, hk⟩)⟩ | exact ⟨_, _, h.2.2.2, fun K' tm' d' hk => by (try dsimp only); first | exact ⟨h.1, h.2.1, h.2.2.1, hk⟩ | (simp only [*, and_self, true_and, and_true, if_true, if_false, reduceIte, Bool.false_eq_true, not_true_eq_false]; done) | (simp only [*]; exact ⟨h.1, h.2.1, h.2.2.1, hk⟩) | (simp [*]; done) | (simp [*]; exact ⟨h.1, h.2.1, h.2.2.1, hk⟩)⟩ | skip
theorem nilF_d (x : AV) (h : nilF K ⟨tm, ob⟩ d x) : Det (fun K st d => nilF K st d x) ob K tm d := by
  unfold Det
  unfold nilF at *
  try unfold newF at *
  try unfold partF at *
  try unfold dpartF at *
  try unfold fin at *
  repeat' split at h
  all_goals (try dsimp only at *)
  all_goals first | exact h.elim | exact h.2.elim | exact ⟨_, _, h, fun K' tm' d' hk => by (try dsimp only); first | exact hk | (simp only [*, and_self, true_and, and_true, if_true, if_false, reduceIte, Bool.false_eq_true, not_true_eq_false]; done) | (simp only [*]; exact hk) | (simp [*]; done) | (simp [*]; exact hk)⟩ | exact ⟨_, _, h.2, fun K' tm' d' hk => by (try dsimp only); first | exact ⟨h.1, hk⟩ | (simp only [*, and_self, true_and, and_true, if_true, if_false, reduceIte, Bool.false_eq_true, not_true_eq_false]; done) | (simp only [*]; exact ⟨h.1, hk⟩) | (simp [*]; done) | (simp [*]; exact ⟨h.1, hk⟩)⟩ | exact ⟨_, _, h.2.2, fun K' tm' d' hk => by (try dsimp only); first | exact ⟨h.1, h.2.1, hk⟩ | (simp only [*, and_self, true_and, and_true, if_true, if_false, reduceIte, Bool.false_eq_true, not_true_eq_false]; done) | (simp only [*]; exact ⟨h.1, h.2.1, hk⟩) | (simp [*]; done) | (simp [*]; exact ⟨h.1, h.2.1, hk⟩)⟩ | exact ⟨_, _, h.2.2.2, fun K' tm' d' hk => by (try dsimp only); first | exact ⟨h.1, h.2.1, h.2.2.1, hk⟩ | (simp only [*, and_self, true_and, and_true, if_true, if_false, reduceIte, Bool.false_eq_true, not_true_eq_false]; done) | (simp only [*]; exact ⟨h.1, h.2.1, h.2.2.1, hk⟩) | (simp [*]; done) | (simp [*]; exact ⟨h.1, h.2.1, h.2.2.1, hk⟩)⟩ | skip
theorem binF_d (op : BinOp) (t : TypeId) (x y : AV) (h : binF E K ⟨tm, ob⟩ d op t x y) : Det (fun K st d => binF E K st d op t x y) ob K tm d := by
  unfold Det
  unfold binF at *
  try unfold newF at *
  try unfold partF at *
  try unfold dpartF at *
  try unfold fin at *
  repeat' split at h
  all_goals (try dsimp only at *)
  all_goals first | exact h.elim | exact h.2.elim | exact ⟨_, _, h, fun K' tm' d' hk => by (try dsimp only); first | exact hk | (simp only [*, and_self, true_and, and_true, if_true, if_false, reduceIte, Bool.false_eq_true, not_true_eq_false]; done) | (simp only [*]; exact hk) | (simp [*]; done) | (simp [*]; exact hk)⟩ | exact ⟨_, _, h.2, fun K' tm' d' hk => by (try dsimp only); first | exact ⟨h.1, hk⟩ | (simp only [*, and_self, true_and, and_true, if_true, if_false, reduceIte, Bool.false_eq_true, not_true_eq_false]; done) | (simp only [*]; exact ⟨h.1, hk⟩) | (simp [*]; done) | (simp [*]; exact ⟨h.1, hk⟩)⟩ | exact ⟨_, _, h.2.2, fun K' tm' d' hk => by (try dsimp only); first | exact ⟨h.1, h.2.1, hk⟩ | (simp only [*, and_self, true_and, and_true, if_true, if_false, reduceIte, Bool.false_eq_true, not_true_eq_false]; done) | (simp only [*]; exact ⟨h.1, h.2.1, hk⟩) | (simp [*]; done) | (simp [*]; exact ⟨h.1, h.2.1, hk⟩)⟩ | exact ⟨_, _, h.2.2.2, fun K' tm' d' hk => by (try dsimp only); first | exact ⟨h.1, h.2.1, h.2.2.1, hk⟩ | (simp only [*, and_self, true_and, and_true, if_true, if_false, reduceIte, Bool.false_eq_true, not_true_eq_false]; done) | (simp only [*]; exact ⟨h.1, h.2.1, h.2.2.1, hk⟩) | (simp [*]; done) | (simp [*]; exact ⟨h.1, h.2.1, h.2.2.1, hk⟩)⟩ | skip
theorem unF_d (op : UnOp) (x : AV) (h : unF K ⟨tm, ob⟩ d op x) : Det (fun K st d => unF K st d op x) ob K tm d := by
  unfold Det
  unfold unF at *
  try unfold newF at *
  try unfold partF at *
  try unfold dpartF at *
  try unfold fin at *
  repeat' split at h
  all_goals (try dsimp only at *)
  all_goals first | exact h.elim | exact h.2.elim | exact ⟨_, _, h, fun K' tm' d' hk => by (try dsimp only); first | exact hk | (simp only [*, and_self, true_and, and_true, if_true, if_false, reduceIte, Bool.false_eq_true, not_true_eq_false]; done) | (simp only [*]; exact hk) | (simp [*]; done) | (simp [*]; exact hk)⟩ | exact ⟨_, _, h.2, fun K' tm' d' hk => by (try dsimp only); first | exact ⟨h.1, hk⟩ | (simp only [*, and_self, true_and, and_true, if_true, if_false, reduceIte, Bool.false_eq_true, not_true_eq_false]; done) | (simp only [*]; exact ⟨h.1, hk⟩) | (simp [*]; done) | (simp [*]; exact ⟨h.1, hk⟩)⟩ | exact ⟨_, _, h.2.2, fun K' tm' d' hk => by (try dsimp only); first | exact ⟨h.1, h.2.1, hk⟩ | (simp only [*, and_self, true_and, and_true, if_true, if_false, reduceIte, Bool.false_eq_true, not_true_eq_false]; done) | (simp only [*]; exact ⟨h.1, h.2.1, hk⟩) | (simp [*]; done) | (simp [*]; exact ⟨h.1, h.2.1, hk⟩)⟩ | exact ⟨_, _, h.2.2.2, fun K' tm' d' hk => by (try dsimp only); first | exact ⟨h.1, h.2.1, h.2.2.1, hk⟩ | (simp only [*, and_self, true_and, and_true, if_true, if_false, reduceIte, Bool.false_eq_true, not_true_eq_false]; done) | (simp only [*]; exact ⟨h.1, h.2.1, h.2.2.1, hk⟩) | (simp [*]; done) | (simp [*]; exact ⟨h.1, h.2.1, h.2.2.1, hk⟩)⟩ | skip
theorem convF_d (s t : TypeId) (x : AV) (h : convF E K ⟨tm, ob⟩ d s t x) : Det (fun K st d => convF E K st d s t x) ob K tm d := by
  unfold Det
  unfold convF at *
  try unfold newF at *
  try unfold partF at *
  try unfold dpartF at *
  try unfold fin at *
  repeat' split at h
  all_goals (try dsimp only at *)
  all_goals first | exact h.elim | exact h.2.elim | exact ⟨_, _, h, fun K' tm' d' hk => by (try dsimp only); first | exact hk | (simp only [*, and_self, true_and, and_true, if_true, if_false, reduceIte, Bool.false_eq_true, not_true_eq_false]; done) | (simp only [*]; exact hk) | (simp [*]; done) | (simp [*]; exact hk)⟩ | exact ⟨_, _, h.2, fun K' tm' d' hk => by (try dsimp only); first | exact ⟨h.1, hk⟩ | (simp only [*, and_self, true_and, and_true, if_true, if_false, reduceIte, Bool.false_eq_true, not_true_eq_false]; done) | (simp only [*]; exact ⟨h.1, hk⟩) | (simp [*]; done) | (simp [*]; exact ⟨h.1, hk⟩)⟩ | exact ⟨_, _, h.2.2, fun K' tm' d' hk => by (try dsimp only); first | exact ⟨h.1, h.2.1, hk⟩ | (simp only [*, and_self, true_and, and_true, if_true, if_false, reduceIte, Bool.false_eq_true, not_true_eq_false]; done) | (simp only [*]; exact ⟨h.1, h.2.1, hk⟩) | (simp [*]; done) | (simp [*]; exact ⟨h.1, h.2.1, hk⟩)⟩ | exact ⟨_, _, h.2.2.2, fun K' tm' d' hk => by (try dsimp only); first | exact ⟨h.1, h.2.1, h.2.2.1, hk⟩ | (simp only [*, and_self, true_and, and_true, if_true, if_false, reduceIte, Bool.false_eq_true, not_true_eq_false]; done) | (simp only [*]; exact ⟨h.1, h.2.1, h.2.2.1, hk⟩) | (simp [*]; done) | (simp [*]; exact ⟨h.1, h.2.1, h.2.2.1, hk⟩)⟩ | skip
theorem mkfF_d (fn : Fn) (a b : List AV) (h : mkfF K ⟨tm, ob⟩ d fn a b) : Det (fun K st d => mkfF K st d fn a b) ob K tm d := by
  unfold Det
  unfold mkfF at *
  try unfold newF at *
  try unfold partF at *
  try unfold dpartF at *
  try unfold fin at *
  repeat' split at h
  all_goals (try dsimp only at *)
  all_goals first | exact h.elim | exact h.2.elim | exact ⟨_, _, h, fun K' tm' d' hk => by (try dsimp only); first | exact hk | (simp only [*, and_self, true_and, and_true, if_true, if_false, reduceIte, Bool.false_eq_true, not_true_eq_false]; done) | (simp only [*]; exact hk) | (simp [*]; done) | (simp [*]; exact hk)⟩ | exact ⟨_, _, h.2, fun K' tm' d' hk => by (try dsimp only); first | exact ⟨h.1, hk⟩ | (simp only [*, and_self, true_and, and_true, if_true, if_false, reduceIte, Bool.false_eq_true, not_true_eq_false]; done) | (simp only [*]; exact ⟨h.1, hk⟩) | (simp [*]; done) | (simp [*]; exact ⟨h.1, hk⟩)⟩ | exact ⟨_, _, h.2.2, fun K' tm' d' hk => by (try dsimp only); first | exact ⟨h.1, h.2.1, hk⟩ | (simp only [*, and_self, true_and, and_true, if_true, if_false, reduceIte, Bool.false_eq_true, not_true_eq_false]; done) | (simp only [*]; exact ⟨h.1, h.2.1, hk⟩) | (simp [*]; done) | (simp [*]; exact ⟨h.1, h.2.1, hk⟩)⟩ | exact ⟨_, _, h.2.2.2, fun K' tm' d' hk => by (try dsimp only); first | exact ⟨h.1, h.2.1, h.2.2.1, hk⟩ | (simp only [*, and_self, true_and, and_true, if_true, if_false, reduceIte, Bool.false_eq_true, not_true_eq_false]; done) | (simp only [*]; exact ⟨h.1, h.2.1, h.2.2.1, hk⟩) | (simp [*]; done) | (simp [*]; exact ⟨h.1, h.2.1, h.2.2.1, hk⟩)⟩ | skip
theorem mksF_d (t : TypeId) (x y : AV) (h : mksF E K ⟨tm, ob⟩ d t x y) : Det (fun K st d => mksF E K st d t x y) ob K tm d := by
  unfold Det
  unfold mksF at *
  try unfold newF at *
  try unfold partF at *
  try unfold dpartF at *
  try unfold fin at *
  repeat' split at h
  all_goals (try dsimp only at *)
  all_goals first | exact h.elim | exact h.2.elim | exact ⟨_, _, h, fun K' tm' d' hk => by (try dsimp only); first | exact hk | (simp only [*, and_self, true_and, and_true, if_true, if_false, reduceIte, Bool.false_eq_true, not_true_eq_false]; done) | (simp only [*]; exact hk) | (simp [*]; done) | (simp [*]; exact hk)⟩ | exact ⟨_, _, h.2, fun K' tm' d' hk => by (try dsimp only); first | exact ⟨h.1, hk⟩ | (simp only [*, and_self, true_and, and_true, if_true, if_false, reduceIte, Bool.false_eq_true, not_true_eq_false]; done) | (simp only [*]; exact ⟨h.1, hk⟩) | (simp [*]; done) | (simp [*]; exact ⟨h.1, hk⟩)⟩ | exact ⟨_, _, h.2.2, fun K' tm' d' hk => by (try dsimp only); first | exact ⟨h.1, h.2.1, hk⟩ | (simp only [*, and_self, true_and, and_true, if_true, if_false, reduceIte, Bool.false_eq_true, not_true_eq_false]; done) | (simp only [*]; exact ⟨h.1, h.2.1, hk⟩) | (simp [*]; done) | (simp [*]; exact ⟨h.1, h.2.1, hk⟩)⟩ | exact ⟨_, _, h.2.2.2, fun K' tm' d' hk => by (try dsimp only); first | exact ⟨h.1, h.2.1, h.2.2.1, hk⟩ | (simp only [*, and_self, true_and, and_true, if_true, if_false, reduceIte, Bool.false_eq_true, not_true_eq_false]; done) | (simp only [*]; exact ⟨h.1, h.2.1, h.2.2.1, hk⟩) | (simp [*]; done) | (simp [*]; exact ⟨h.1, h.2.1, h.2.2.1, hk⟩)⟩ | skip
theorem slF_d (t : TypeId) (x : AV) (lo hi : Option AV) (h : slF E K ⟨tm, ob⟩ d t x lo hi) : Det (fun K st d => slF E K st d t x lo hi) ob K tm d := by
  unfold Det
  unfold slF at *
  try unfold newF at *
  try unfold partF at *
  try unfold dpartF at *
  try unfold fin at *
  repeat' split at h
  all_goals (try dsimp only at *)
  all_goals first | exact h.elim | exact h.2.elim | exact ⟨_, _, h, fun K' tm' d' hk => by (try dsimp only); first | exact hk | (simp only [*, and_self, true_and, and_true, if_true, if_false, reduceIte, Bool.false_eq_true, not_true_eq_false]; done) | (simp only [*]; exact hk) | (simp [*]; done) | (simp [*]; exact hk)⟩ | exact ⟨_, _, h.2, fun K' tm' d' hk => by (try dsimp only); first | exact ⟨h.1, hk⟩ | (simp only [*, and_self, true_and, and_true, if_true, if_false, reduceIte, Bool.false_eq_true, not_true_eq_false]; done) | (simp only [*]; exact ⟨h.1, hk⟩) | (simp [*]; done) | (simp [*]; exact ⟨h.1, hk⟩)⟩ | exact ⟨_, _, h.2.2, fun K' tm' d' hk => by (try dsimp only); first | exact ⟨h.1, h.2.1, hk⟩ | (simp only [*, and_self, true_and, and_true, if_true, if_false, reduceIte, Bool.false_eq_true, not_true_eq_false]; done) | (simp only [*]; exact ⟨h.1, h.2.1, hk⟩) | (simp [*]; done) | (simp [*]; exact ⟨h.1, h.2.1, hk⟩)⟩ | exact ⟨_, _, h.2.2.2, fun K' tm' d' hk => by (try dsimp only); first | exact ⟨h.1, h.2.1, h.2.2.1, hk⟩ | (simp only [*, and_self, true_and, and_true, if_true, if_false, reduceIte, Bool.false_eq_true, not_true_eq_false]; done) | (simp only [*]; exact ⟨h.1, h.2.1, h.2.2.1, hk⟩) | (simp [*]; done) | (simp [*]; exact ⟨h.1, h.2.1, h.2.2.1, hk⟩)⟩ | skip
theorem fF_d (t : TypeId) (f : Nat) (x : AV) (h : fF E K ⟨tm, ob⟩ d t f x) : Det (fun K st d => fF E K st d t f x) ob K tm d := by
  unfold Det
  unfold fF at *
  try unfold newF at *
  try unfold partF at *
  try unfold dpartF at *
  try unfold fin at *
  repeat' split at h
  all_goals (try dsimp only at *)
  all_goals first | exact h.elim | exact h.2.elim | exact ⟨_, _, h, fun K' tm' d' hk => by (try dsimp only); first | exact hk | (simp only [*, and_self, true_and, and_true, if_true, if_false, reduceIte, Bool.false_eq_true, not_true_eq_false]; done) | (simp only [*]; exact hk) | (simp [*]; done) | (simp [*]; exact hk)⟩ | exact ⟨_, _, h.2, fun K' tm' d' hk => by (try dsimp only); first | exact ⟨h.1, hk⟩ | (simp only [*, and_self, true_and, and_true, if_true, if_false, reduceIte, Bool.false_eq_true, not_true_eq_false]; done) | (simp only [*]; exact ⟨h.1, hk⟩) | (simp [*]; done) | (simp [*]; exact ⟨h.1, hk⟩)⟩ | exact ⟨_, _, h.2.2, fun K' tm' d' hk => by (try dsimp only); first | exact ⟨h.1, h.2.1, hk⟩ | (simp only [*, and_self, true_and, and_true, if_true, if_false, reduceIte, Bool.false_eq_true, not_true_eq_false]; done) | (simp only [*]; exact ⟨h.1, h.2.1, hk⟩) | (simp [*]; done) | (simp [*]; exact ⟨h.1, h.2.1, hk⟩)⟩ | exact ⟨_, _, h.2.2.2, fun K' tm' d' hk => by (try dsimp only); first | exact ⟨h.1, h.2.1, h.2.2.1, hk⟩ | (simp only [*, and_self, true_and, and_true, if_true, if_false, reduceIte, Bool.false_eq_true, not_true_eq_false]; done) | (simp only [*]; exact ⟨h.1, h.2.1, h.2.2.1, hk⟩) | (simp [*]; done) | (simp [*]; exact ⟨h.1, h.2.1, h.2.2.1, hk⟩)⟩ | skip
theorem ixF_d (t : TypeId) (x i : AV) (h : ixF E K ⟨tm, ob⟩ d t x i) : Det (fun K st d => ixF E K st d t x i) ob K tm d := by
  unfold Det
  unfold ixF at *
  try unfold newF at *
  try unfold partF at *
  try unfold dpartF at *
  try unfold fin at *
  repeat' split at h
  all_goals (try dsimp only at *)
  all_goals first | exact h.elim | exact h.2.elim | exact ⟨_, _, h, fun K' tm' d' hk => by (try dsimp only); first | exact hk | (simp only [*, and_self, true_and, and_true, if_true, if_false, reduceIte, Bool.false_eq_true, not_true_eq_false]; done) | (simp only [*]; exact hk) | (simp [*]; done) | (simp [*]; exact hk)⟩ | exact ⟨_, _, h.2, fun K' tm' d' hk => by (try dsimp only); first | exact ⟨h.1, hk⟩ | (simp only [*, and_self, true_and, and_true, if_true, if_false, reduceIte, Bool.false_eq_true, not_true_eq_false]; done) | (simp only [*]; exact ⟨h.1, hk⟩) | (simp [*]; done) | (simp [*]; exact ⟨h.1, hk⟩)⟩ | exact ⟨_, _, h.2.2, fun K' tm' d' hk => by (try dsimp only); first | exact ⟨h.1, h.2.1, hk⟩ | (simp only [*, and_self, true_and, and_true, if_true, if_false, reduceIte, Bool.false_eq_true, not_true_eq_false]; done) | (simp only [*]; exact ⟨h.1, h.2.1, hk⟩) | (simp [*]; done) | (simp [*]; exact ⟨h.1, h.2.1, hk⟩)⟩ | exact ⟨_, _, h.2.2.2, fun K' tm' d' hk => by (try dsimp only); first | exact ⟨h.1, h.2.1, h.2.2.1, hk⟩ | (simp only [*, and_self, true_and, and_true, if_true, if_false, reduceIte, Bool.false_eq_true, not_true_eq_false]; done) | (simp only [*]; exact ⟨h.1, h.2.1, h.2.2.1, hk⟩) | (simp [*]; done) | (simp [*]; exact ⟨h.1, h.2.1, h.2.2.1, hk⟩)⟩ | skip
theorem exF_d (i : Nat) (x : AV) (h : exF K ⟨tm, ob⟩ d i x) : Det (fun K st d => exF K st d i x) ob K tm d := by
  unfold Det
  unfold exF at *
  try unfold newF at *
  try unfold partF at *
  try unfold dpartF at *
  try unfold fin at *
  repeat' split at h
  all_goals (try dsimp only at *)
  all_goals first | exact h.elim | exact h.2.elim | exact ⟨_, _, h, fun K' tm' d' hk => by (try dsimp only); first | exact hk | (simp only [*, and_self, true_and, and_true, if_true, if_false, reduceIte, Bool.false_eq_true, not_true_eq_false]; done) | (simp only [*]; exact hk) | (simp [*]; done) | (simp [*]; exact hk)⟩ | exact ⟨_, _, h.2, fun K' tm' d' hk => by (try dsimp only); first | exact ⟨h.1, hk⟩ | (simp only [*, and_self, true_and, and_true, if_true, if_false, reduceIte, Bool.false_eq_true, not_true_eq_false]; done) | (simp only [*]; exact ⟨h.1, hk⟩) | (simp [*]; done) | (simp [*]; exact ⟨h.1, hk⟩)⟩ | exact ⟨_, _, h.2.2, fun K' tm' d' hk => by (try dsimp only); first | exact ⟨h.1, h.2.1, hk⟩ | (simp only [*, and_self, true_and, and_true, if_true, if_false, reduceIte, Bool.false_eq_true, not_true_eq_false]; done) | (simp only [*]; exact ⟨h.1, h.2.1, hk⟩) | (simp [*]; done) | (simp [*]; exact ⟨h.1, h.2.1, hk⟩)⟩ | exact ⟨_, _, h.2.2.2, fun K' tm' d' hk => by (try dsimp only); first | exact ⟨h.1, h.2.1, h.2.2.1, hk⟩ | (simp only [*, and_self, true_and, and_true, if_true, if_false, reduceIte, Bool.false_eq_true, not_true_eq_false]; done) | (simp only [*]; exact ⟨h.1, h.2.1, h.2.2.1, hk⟩) | (simp [*]; done) | (simp [*]; exact ⟨h.1, h.2.1, h.2.2.1, hk⟩)⟩ | skip
theorem appF_d (t : TypeId) (s x : AV) (h : appF E K ⟨tm, ob⟩ d t s x) : Det (fun K st d => appF E K st d t s x) ob K tm d := by
  unfold Det
  unfold appF at *
  split at h
  case h_2 => exact h.elim
  rename_i h0
  split at h
  case h_2 => exact h.elim
  rename_i h1
  split at h
  · rename_i h3
    dsimp only at *
    refine ⟨_, _, h.2, fun K' tm' d' hk => ?_⟩
    rw [h3]
    exact ⟨h.1, hk⟩
  · rename_i h3
    split at h
    case h_2 => exact h.elim
    rename_i h4
    dsimp only at *
    refine ⟨_, _, h.2, fun K' tm' d' hk => ?_⟩
    rw [h3]
    dsimp only
    rw [h4]
    exact ⟨h.1, hk⟩
  · exact h.elim
theorem mmF_d (b : Bool) (x y : AV) (h : mmF K ⟨tm, ob⟩ d b x y) : Det (fun K st d => mmF K st d b x y) ob K tm d := by
  unfold Det
  unfold mmF at *
  try unfold newF at *
  try unfold partF at *
  try unfold dpartF at *
  try unfold fin at *
  repeat' split at h
  all_goals (try dsimp only at *)
  all_goals first | exact h.elim | exact h.2.elim | exact ⟨_, _, h, fun K' tm' d' hk => by (try dsimp only); first | exact hk | (simp only [*, and_self, true_and, and_true, if_true, if_false, reduceIte, Bool.false_eq_true, not_true_eq_false]; done) | (simp only [*]; exact hk) | (simp [*]; done) | (simp [*]; exact hk)⟩ | exact ⟨_, _, h.2, fun K' tm' d' hk => by (try dsimp only); first | exact ⟨h.1, hk⟩ | (simp only [*, and_self, true_and, and_true, if_true, if_false, reduceIte, Bool.false_eq_true, not_true_eq_false]; done) | (simp only [*]; exact ⟨h.1, hk⟩) | (simp [*]; done) | (simp [*]; exact ⟨h.1, hk⟩)⟩ | exact ⟨_, _, h.2.2, fun K' tm' d' hk => by (try dsimp only); first | exact ⟨h.1, h.2.1, hk⟩ | (simp only [*, and_self, true_and, and_true, if_true, if_false, reduceIte, Bool.false_eq_true, not_true_eq_false]; done) | (simp only [*]; exact ⟨h.1, h.2.1, hk⟩) | (simp [*]; done) | (simp [*]; exact ⟨h.1, h.2.1, hk⟩)⟩ | exact ⟨_, _, h.2.2.2, fun K' tm' d' hk => by (try dsimp only); first | exact ⟨h.1, h.2.1, h.2.2.1, hk⟩ | (simp only [*, and_self, true_and, and_true, if_true, if_false, reduceIte, Bool.false_eq_true, not_true_eq_false]; done) | (simp only [*]; exact ⟨h.1, h.2.1, h.2.2.1, hk⟩) | (simp [*]; done) | (simp [*]; exact ⟨h.1, h.2.1, h.2.2.1, hk⟩)⟩ | skip
theorem cpyF_d (t : TypeId) (x y : AV) (h : cpyF E K ⟨tm, ob⟩ d t x y) : Det (fun K st d => cpyF E K st d t x y) ob K tm d := by
  unfold Det
  unfold cpyF at *
  try unfold newF at *
  try unfold partF at *
  try unfold dpartF at *
  try unfold fin at *
  repeat' split at h
  all_goals (try dsimp only at *)
  all_goals first | exact h.elim | exact h.2.elim | exact ⟨_, _, h, fun K' tm' d' hk => by (try dsimp only); first | exact hk | (simp only [*, and_self, true_and, and_true, if_true, if_false, reduceIte, Bool.false_eq_true, not_true_eq_false]; done) | (simp only [*]; exact hk) | (simp [*]; done) | (simp [*]; exact hk)⟩ | exact ⟨_, _, h.2, fun K' tm' d' hk => by (try dsimp only); first | exact ⟨h.1, hk⟩ | (simp only [*, and_self, true_and, and_true, if_true, if_false, reduceIte, Bool.false_eq_true, not_true_eq_false]; done) | (simp only [*]; exact ⟨h.1, hk⟩) | (simp [*]; done) | (simp [*]; exact ⟨h.1, hk⟩)⟩ | exact ⟨_, _, h.2.2, fun K' tm' d' hk => by (try dsimp only); first | exact ⟨h.1, h.2.1, hk⟩ | (simp only [*, and_self, true_and, and_true, if_true, if_false, reduceIte, Bool.false_eq_true, not_true_eq_false]; done) | (simp only [*]; exact ⟨h.1, h.2.1, hk⟩) | (simp [*]; done) | (simp [*]; exact ⟨h.1, h.2.1, hk⟩)⟩ | exact ⟨_, _, h.2.2.2, fun K' tm' d' hk => by (try dsimp only); first | exact ⟨h.1, h.2.1, h.2.2.1, hk⟩ | (simp only [*, and_self, true_and, and_true, if_true, if_false, reduceIte, Bool.false_eq_true, not_true_eq_false]; done) | (simp only [*]; exact ⟨h.1, h.2.1, h.2.2.1, hk⟩) | (simp [*]; done) | (simp [*]; exact ⟨h.1, h.2.1, h.2.2.1, hk⟩)⟩ | skip
theorem mkmF_d (h : mkmF K ⟨tm, ob⟩ d) : Det (fun K st d => mkmF K st d) ob K tm d := ⟨_, _, h, fun K' tm' d' h => h⟩
theorem lookF_d (t : TypeId) (m x : AV) (h : lookF E K ⟨tm, ob⟩ d t m x) : Det (fun K st d => lookF E K st d t m x) ob K tm d := by
  unfold Det
  unfold lookF at h
  split at h
  case h_2 => exact h.elim
  split at h
  case h_2 => exact h.elim
  rename_i hq
  obtain ⟨h1, n, f, h2, h3⟩ := h
  refine ⟨_, _, h3, fun K' tm' d' hk => ?_⟩
  unfold lookF
  simp only at hq ⊢
  rw [hq]
  exact ⟨h1, n, f, h2, hk⟩
theorem bslF_d (t : TypeId) (n : Nat) (ps : List (Nat × Operand)) (h : bslF E K ⟨tm, ob⟩ d t n ps) : ∃ v ob', K ⟨putT tm d v, ob'⟩ ∧ ∀ (K' : St → Prop) tm' d', (∀ p ∈ ps, rd tm' p.2 = rd tm p.2) → K' ⟨putT tm' d' v, ob'⟩ → bslF E K' ⟨tm', ob⟩ d' t n ps := by
  unfold bslF at *
  split at h
  case h_2 => exact h.elim
  split at h
  case h_2 => exact h.elim
  split at h
  case h_2 => exact h.elim
  rename_i h3
  dsimp only at *
  refine ⟨_, _, h.2, fun K' tm' d' hp hk => ?_⟩
  rw [fillF_congr ps _ hp, h3]
  exact ⟨h.1, hk⟩
theorem buildF_d (t : TypeId) (ps : List (Nat × Operand)) (h : buildF E K ⟨tm, ob⟩ d t ps) : ∃ v, K ⟨putT tm d v, ob⟩ ∧ ∀ (K' : St → Prop) tm' d' ob', (∀ p ∈ ps, rd tm' p.2 = rd tm p.2) → K' ⟨putT tm' d' v, ob'⟩ → buildF E K' ⟨tm', ob'⟩ d' t ps := by
  unfold buildF fin at *
  split at h
  case h_3 => exact h.elim
  all_goals
    split at h
    case h_2 => exact h.elim
    split at h
    case h_2 => exact h.elim
    rename_i h3
    dsimp only at *
    refine ⟨_, h, fun K' tm' d' ob' hp hk => ?_⟩
    rw [fillF_congr ps _ hp, h3]
    exact hk
end
/-- Operations that are no calls. -/
def plainOp : Op → Bool
  | .call { callee := .value _, .. } => false
  | .mapUpdate .. => false
  | _ => true
section
variable {E : Env} {K : St → Prop} {st : St} {o : Oper}
theorem det_use {F : (St → Prop) → St → Option Tmp → Prop} {tm : List AV} {ob : Obs} {d : Option Tmp} (h : Det F ob K tm d) : ∃ v ob', K ⟨putT tm d v, ob'⟩ ∧ ∀ (st2 : St) (K' : St → Prop), st2.ob = ob → K' ⟨putT st2.tm d v, ob'⟩ → F K' st2 d := by
  obtain ⟨v, ob', h1, h2⟩ := h
  refine ⟨v, ob', h1, fun st2 K' h3 h4 => ?_⟩
  obtain ⟨tm2, ob2⟩ := st2
  simp only at h3
  subst h3
  exact h2 K' tm2 d h4
theorem opF_det_b (hb : ∃ b args ts, o.op = .call ⟨.builtin b, args, ts⟩) (h : opF E o K st) : ∃ v ob', K ⟨putT st.tm o.dst v, ob'⟩ ∧ ∀ (st2 : St) (K' : St → Prop), (∀ x ∈ o.op.operands, rd st2.tm x = rd st.tm x) → st2.ob = st.ob → K' ⟨putT st2.tm o.dst v, ob'⟩ → opF E o K' st2 := by
  obtain ⟨tm, ob⟩ := st
  obtain ⟨dst, op, type, pos, after, guard⟩ := o
  obtain ⟨b, args, ts, rfl⟩ : ∃ b args ts, op = .call ⟨.builtin b, args, ts⟩ := hb
  have lift : ∀ {F : (St → Prop) → St → Option Tmp → Prop}, Det F ob K tm dst → (∀ (st2 : St) (K' : St → Prop), (∀ x ∈ args, rd st2.tm x = rd tm x) → F K' st2 dst → opF E ⟨dst, .call ⟨.builtin b, args, ts⟩, type, pos, after, guard⟩ K' st2) →
      ∃ v ob', K ⟨putT tm dst v, ob'⟩ ∧ ∀ (st2 : St) (K' : St → Prop), (∀ x ∈ (Op.call ⟨.builtin b, args, ts⟩).operands, rd st2.tm x = rd tm x) → st2.ob = ob → K' ⟨putT st2.tm dst v, ob'⟩ → opF E ⟨dst, .call ⟨.builtin b, args, ts⟩, type, pos, after, guard⟩ K' st2 := by
    intro F hd hf
    obtain ⟨v, ob', h1, h2⟩ := det_use hd
    exact ⟨v, ob', h1, fun st2 K' h3 h4 h5 => hf st2 K' (fun x hx => h3 x (by simp [Op.operands, Call.operands, hx])) (h2 st2 K' h4 h5)⟩
  unfold opF at h
  split at h
  all_goals (rename_i ho; first | exact h.elim | (exfalso; simp at ho; done) | skip)
  · rename_i x t
    simp only [Op.call.injEq, Call.mk.injEq, Callee.builtin.injEq] at ho
    obtain ⟨rfl, rfl, rfl⟩ := ho
    exact lift (lenF_d _ _ h) fun st2 K' h3 h4 => by
      show lenF _ _ _ _ _ _
      rw [h3 x (by simp)]; exact h4
  · rename_i x y t u
    simp only [Op.call.injEq, Call.mk.injEq, Callee.builtin.injEq] at ho
    obtain ⟨rfl, rfl, rfl⟩ := ho
    by_cases hu : t = u
    · subst hu
      rw [if_pos rfl] at h
      exact lift (appF_d _ _ _ h) fun st2 K' h3 h4 => by
        show (if t = t then appF _ _ _ _ _ _ _ else False)
        rw [if_pos rfl, h3 x (by simp), h3 y (by simp)]; exact h4
    · rw [if_neg hu] at h
      exact h.elim
  · rename_i x y t
    simp only [Op.call.injEq, Call.mk.injEq, Callee.builtin.injEq] at ho
    obtain ⟨rfl, rfl, rfl⟩ := ho
    exact lift (mmF_d _ _ _ h) fun st2 K' h3 h4 => by
      show mmF _ _ _ _ _ _
      rw [h3 x (by simp), h3 y (by simp)]; exact h4
  · rename_i x y t
    simp only [Op.call.injEq, Call.mk.injEq, Callee.builtin.injEq] at ho
    obtain ⟨rfl, rfl, rfl⟩ := ho
    exact lift (mmF_d _ _ _ h) fun st2 K' h3 h4 => by
      show mmF _ _ _ _ _ _
      rw [h3 x (by simp), h3 y (by simp)]; exact h4
  · rename_i x y t u
    simp only [Op.call.injEq, Call.mk.injEq, Callee.builtin.injEq] at ho
    obtain ⟨rfl, rfl, rfl⟩ := ho
    exact lift (cpyF_d _ _ _ h) fun st2 K' h3 h4 => by
      show cpyF _ _ _ _ _ _ _
      rw [h3 x (by simp), h3 y (by simp)]; exact h4
theorem opF_det (hp : plainOp o.op = true) (h : opF E o K st) : ∃ v ob', K ⟨putT st.tm o.dst v, ob'⟩ ∧ ∀ (st2 : St) (K' : St → Prop), (∀ x ∈ o.op.operands, rd st2.tm x = rd st.tm x) → st2.ob = st.ob → K' ⟨putT st2.tm o.dst v, ob'⟩ → opF E o K' st2 := by
  obtain ⟨tm, ob⟩ := st
  obtain ⟨dst, op, type, pos, after, guard⟩ := o
  have lift : ∀ {F : (St → Prop) → St → Option Tmp → Prop}, Det F ob K tm dst → (∀ (st2 : St) (K' : St → Prop), (∀ x ∈ op.operands, rd st2.tm x = rd tm x) → F K' st2 dst → opF E ⟨dst, op, type, pos, after, guard⟩ K' st2) →
      ∃ v ob', K ⟨putT tm dst v, ob'⟩ ∧ ∀ (st2 : St) (K' : St → Prop), (∀ x ∈ op.operands, rd st2.tm x = rd tm x) → st2.ob = ob → K' ⟨putT st2.tm dst v, ob'⟩ → opF E ⟨dst, op, type, pos, after, guard⟩ K' st2 := by
    intro F hd hf
    obtain ⟨v, ob', h1, h2⟩ := det_use hd
    exact ⟨v, ob', h1, fun st2 K' h3 h4 h5 => hf st2 K' h3 (h2 st2 K' h4 h5)⟩
  have now : ∀ {x : Operand}, x ∈ op.operands → fin K ⟨tm, ob⟩ dst (rd tm x) → (∀ (st2 : St) (K' : St → Prop), fin K' st2 dst (rd st2.tm x) → opF E ⟨dst, op, type, pos, after, guard⟩ K' st2) →
      ∃ v ob', K ⟨putT tm dst v, ob'⟩ ∧ ∀ (st2 : St) (K' : St → Prop), (∀ x ∈ op.operands, rd st2.tm x = rd tm x) → st2.ob = ob → K' ⟨putT st2.tm dst v, ob'⟩ → opF E ⟨dst, op, type, pos, after, guard⟩ K' st2 := by
    intro x hx h1 h2
    refine ⟨_, _, h1, fun st2 K' h3 h4 h5 => h2 st2 K' ?_⟩
    unfold fin
    rw [h3 x hx, h4]
    exact h5
  cases op with
  | move x => exact now (x := x) (by simp [Op.operands]) h fun _ _ h => h
  | assign x => exact now (x := x) (by simp [Op.operands]) h fun _ _ h => h
  | pick c x y =>
    exact lift (pickF_d _ _ _ h) fun st2 K' h3 h4 => by
      show pickF _ _ _ _ _ _
      rw [h3 c (by simp [Op.operands]), h3 x (by simp [Op.operands]), h3 y (by simp [Op.operands])]; exact h4
  | alloc e =>
    exact lift (allocF_d _ h) fun st2 K' h3 h4 => h4
  | box e x =>
    exact lift (boxF_d _ h) fun st2 K' h3 h4 => by
      show boxF _ _ _ _
      rw [h3 x (by simp [Op.operands])]; exact h4
  | build t ps =>
    obtain ⟨v, h1, h2⟩ := buildF_d _ _ h
    refine ⟨v, ob, h1, fun st2 K' h3 h4 h5 => ?_⟩
    obtain ⟨tm2, ob2⟩ := st2
    exact h2 K' tm2 dst ob2 (fun p hp => h3 p.2 (by simp only [Op.operands, List.mem_toArray, List.mem_map]; exact ⟨p, hp, rfl⟩)) (by simp only at h4; rw [h4]; exact h5)
  | buildSlice t n ps =>
    obtain ⟨v, ob', h1, h2⟩ := bslF_d _ _ _ h
    refine ⟨v, ob', h1, fun st2 K' h3 h4 h5 => ?_⟩
    obtain ⟨tm2, ob2⟩ := st2
    simp only at h4
    subst h4
    exact h2 K' tm2 dst (fun p hp => h3 p.2 (by simp only [Op.operands, List.mem_toArray, List.mem_map]; exact ⟨p, hp, rfl⟩)) h5
  | load t x =>
    exact lift (loadF_d _ _ h) fun st2 K' h3 h4 => by
      show loadF _ _ _ _ _ _
      rw [h3 x (by simp [Op.operands])]; exact h4
  | store t x y =>
    exact lift (storeF_d _ _ _ h) fun st2 K' h3 h4 => by
      show storeF _ _ _ _ _ _ _
      rw [h3 x (by simp [Op.operands]), h3 y (by simp [Op.operands])]; exact h4
  | nilCheck x =>
    exact lift (nilF_d _ h) fun st2 K' h3 h4 => by
      show nilF _ _ _ _
      rw [h3 x (by simp [Op.operands])]; exact h4
  | binOp op t x y u =>
    exact lift (binF_d _ _ _ _ h) fun st2 K' h3 h4 => by
      show binF _ _ _ _ _ _ _ _
      rw [h3 x (by simp [Op.operands]), h3 y (by simp [Op.operands])]; exact h4
  | unOp op t x =>
    exact lift (unF_d _ _ h) fun st2 K' h3 h4 => by
      show unF _ _ _ _ _
      rw [h3 x (by simp [Op.operands])]; exact h4
  | convert s t x =>
    exact lift (convF_d _ _ _ h) fun st2 K' h3 h4 => by
      show convF _ _ _ _ _ _ _
      rw [h3 x (by simp [Op.operands])]; exact h4
  | makeFunc fn first caps =>
    exact lift (mkfF_d _ _ _ h) fun st2 K' h3 h4 => by
      show mkfF _ _ _ _ _ _
      rw [List.map_congr_left (fun x hx => h3 x (by simp [Op.operands]; exact .inl (by simpa using hx))), List.map_congr_left (l := caps.toList) (fun x hx => h3 x (by simp [Op.operands]; exact .inr (by simpa using hx)))]; exact h4
  | makeMap t r =>
    cases r with
    | some _ => exact h.elim
    | none => exact lift (mkmF_d h) fun st2 K' h3 h4 => h4
  | lookup t m x ok =>
    cases ok with
    | true => exact h.elim
    | false =>
      exact lift (lookF_d _ _ _ h) fun st2 K' h3 h4 => by
        show lookF _ _ _ _ _ _ _
        rw [h3 m (by simp [Op.operands]), h3 x (by simp [Op.operands])]; exact h4
  | mapUpdate t m x y => cases hp
  | makeSlice t x y =>
    exact lift (mksF_d _ _ _ h) fun st2 K' h3 h4 => by
      show mksF _ _ _ _ _ _ _
      rw [h3 x (by simp [Op.operands]), h3 y (by simp [Op.operands])]; exact h4
  | slice t x lo hi mx =>
    cases mx with
    | some _ => exact h.elim
    | none =>
      exact lift (slF_d _ _ _ _ h) fun st2 K' h3 h4 => by
        show slF _ _ _ _ _ _ _ _
        have e1 : lo.map (rd st2.tm) = lo.map (rd tm) := by cases lo with | none => rfl | some y => simp only [Option.map_some]; rw [h3 y (by simp [Op.operands])]
        have e2 : hi.map (rd st2.tm) = hi.map (rd tm) := by cases hi with | none => rfl | some y => simp only [Option.map_some]; rw [h3 y (by simp [Op.operands])]
        rw [h3 x (by simp [Op.operands]), e1, e2]; exact h4
  | fieldAddr t x f =>
    exact lift (faF_d _ _ _ h) fun st2 K' h3 h4 => by
      show faF _ _ _ _ _ _ _
      rw [h3 x (by simp [Op.operands])]; exact h4
  | field t x f =>
    exact lift (fF_d _ _ _ h) fun st2 K' h3 h4 => by
      show fF _ _ _ _ _ _ _
      rw [h3 x (by simp [Op.operands])]; exact h4
  | indexAddr t x y =>
    exact lift (iaF_d _ _ _ h) fun st2 K' h3 h4 => by
      show iaF _ _ _ _ _ _ _
      rw [h3 x (by simp [Op.operands]), h3 y (by simp [Op.operands])]; exact h4
  | index t x y =>
    exact lift (ixF_d _ _ _ h) fun st2 K' h3 h4 => by
      show ixF _ _ _ _ _ _ _
      rw [h3 x (by simp [Op.operands]), h3 y (by simp [Op.operands])]; exact h4
  | extract x i =>
    exact lift (exF_d _ _ h) fun st2 K' h3 h4 => by
      show exF _ _ _ _ _
      rw [h3 x (by simp [Op.operands])]; exact h4
  | call c =>
    obtain ⟨callee, args, ts⟩ := c
    cases callee with
    | value f => cases hp
    | invoke => exact h.elim
    | builtin b => exact opF_det_b ⟨b, args, ts, rfl⟩ h
  | _ => exact h.elim
end
end Go.Proofs.YtkdkbnacelnljaaGreat.RE
