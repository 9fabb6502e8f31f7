/- Regions that draw their order: a plan that serves every order. Conditions: those that a theorem names. -/
import Derived.Test.YtkdkbnacelnljaaGreatNRO
set_option linter.unusedVariables false
set_option linter.unusedSimpArgs false
namespace Go.Proofs.YtkdkbnacelnljaaGreat.RE
open Go Go.RowKit

/-- Operations that only read: their answer hangs on their operands and on the rows that they read. -/
def readOp : Op → Bool
  | .move _ | .assign _ | .pick .. | .nilCheck _ | .binOp .. | .unOp .. | .fieldAddr .. | .field .. | .indexAddr .. | .index .. | .extract .. | .makeFunc .. | .load .. | .build .. | .slice .. => true
  | .call { callee := .builtin .len, .. } | .call { callee := .builtin .max, .. } | .call { callee := .builtin .min, .. } => true
  | _ => false
/-- The rows that it reads are among these. -/
def inD (D : List Nat) : AV → Prop
  | .l (.ptr q _ _) => q ∈ D
  | _ => True
def readsIn (D : List Nat) (o : Oper) (st : St) : Prop := match o.op with
  | .load _ x => inD D (rd st.tm x)
  | .slice _ x _ _ _ => inD D (rd st.tm x)
  | _ => True
def sameD (D : List Nat) (ob ob' : Obs) : Prop := ∀ q ∈ D, ob'.getD q none = ob.getD q none
section
variable {E : Env} {K : St → Prop} {st : St} {o : Oper} {D : List Nat}
theorem load_read {t : TypeId} {x : AV} {tm : List AV} {ob : Obs} {d : Option Tmp} (hx : inD D x) (h : loadF E K ⟨tm, ob⟩ d t x) : ∃ v, fin K ⟨tm, ob⟩ d v ∧ ∀ (st2 : St) (K' : St → Prop), sameD D ob st2.ob → fin K' st2 d v → loadF E K' st2 d t x := by
  unfold loadF at *
  split at h
  · rename_i o1 g off
    split at h
    case h_2 => exact h.elim
    rename_i y q hy hq
    obtain ⟨hg, h⟩ := h
    unfold partF at *
    by_cases ha : y.agg = true
    · rw [if_pos ha] at h
      refine ⟨_, h.2, fun st2 K' hs hk => ?_⟩
      rw [hy, hs o1 hx, hq]
      dsimp only
      rw [if_pos ha]
      exact ⟨hg, h.1, hk⟩
    · rw [if_neg ha] at h
      refine ⟨_, h.2, fun st2 K' hs hk => ?_⟩
      rw [hy, hs o1 hx, hq]
      dsimp only
      rw [if_neg ha]
      exact ⟨hg, h.1, hk⟩
  · split at h
    case h_2 => exact h.elim
    rename_i y hy
    unfold dpartF at *
    by_cases ha : y.agg = true
    · rw [if_pos ha] at h
      refine ⟨_, h.2, fun st2 K' hs hk => ?_⟩
      rw [if_pos ha]
      exact ⟨h.1, hk⟩
    · rw [if_neg ha] at h
      refine ⟨_, h.2, fun st2 K' hs hk => ?_⟩
      rw [if_neg ha]
      exact ⟨h.1, hk⟩
  · exact h.elim
theorem nilF_r (x : AV) {tm : List AV} {ob : Obs} {d : Option Tmp} (h : nilF K ⟨tm, ob⟩ d x) : ∃ v, fin K ⟨tm, ob⟩ d v ∧ ∀ (st2 : St) (K' : St → Prop), fin K' st2 d v → nilF K' st2 d x := by
  unfold nilF at *
  try unfold partF at *
  repeat' split at h
  all_goals (try dsimp only at *)
  all_goals first | exact h.elim | exact h.2.elim | exact ⟨_, h, fun st2 K' hk => by (try dsimp only); first | exact hk | (simp only [*, and_self, true_and, and_true, if_true, if_false, reduceIte, Bool.false_eq_true, not_true_eq_false]; done) | (simp only [*]; exact hk) | (simp [*]; done) | (simp [*]; exact hk)⟩ | exact ⟨_, h.2, fun st2 K' hk => by (try dsimp only); first | exact ⟨h.1, hk⟩ | (simp only [*, and_self, true_and, and_true, if_true, if_false, reduceIte, Bool.false_eq_true, not_true_eq_false]; done) | (simp only [*]; exact ⟨h.1, hk⟩) | (simp [*]; done) | (simp [*]; exact ⟨h.1, hk⟩)⟩ | exact ⟨_, h.2.2, fun st2 K' hk => by (try dsimp only); first | exact ⟨h.1, h.2.1, hk⟩ | (simp only [*, and_self, true_and, and_true, if_true, if_false, reduceIte, Bool.false_eq_true, not_true_eq_false]; done) | (simp only [*]; exact ⟨h.1, h.2.1, hk⟩) | (simp [*]; done) | (simp [*]; exact ⟨h.1, h.2.1, hk⟩)⟩ | exact ⟨_, h.2.2.2, fun st2 K' hk => by (try dsimp only); first | exact ⟨h.1, h.2.1, h.2.2.1, hk⟩ | (simp only [*, and_self, true_and, and_true, if_true, if_false, reduceIte, Bool.false_eq_true, not_true_eq_false]; done) | (simp only [*]; exact ⟨h.1, h.2.1, h.2.2.1, hk⟩) | (simp [*]; done) | (simp [*]; exact ⟨h.1, h.2.1, h.2.2.1, hk⟩)⟩ | skip
theorem binF_r (op : BinOp) (t : TypeId) (x y : AV) {tm : List AV} {ob : Obs} {d : Option Tmp} (h : binF E K ⟨tm, ob⟩ d op t x y) : ∃ v, fin K ⟨tm, ob⟩ d v ∧ ∀ (st2 : St) (K' : St → Prop), fin K' st2 d v → binF E K' st2 d op t x y := by
  unfold binF at *
  try unfold partF at *
  repeat' split at h
  all_goals (try dsimp only at *)
  all_goals first | exact h.elim | exact h.2.elim | exact ⟨_, h, fun st2 K' hk => by (try dsimp only); first | exact hk | (simp only [*, and_self, true_and, and_true, if_true, if_false, reduceIte, Bool.false_eq_true, not_true_eq_false]; done) | (simp only [*]; exact hk) | (simp [*]; done) | (simp [*]; exact hk)⟩ | exact ⟨_, h.2, fun st2 K' hk => by (try dsimp only); first | exact ⟨h.1, hk⟩ | (simp only [*, and_self, true_and, and_true, if_true, if_false, reduceIte, Bool.false_eq_true, not_true_eq_false]; done) | (simp only [*]; exact ⟨h.1, hk⟩) | (simp [*]; done) | (simp [*]; exact ⟨h.1, hk⟩)⟩ | exact ⟨_, h.2.2, fun st2 K' hk => by (try dsimp only); first | exact ⟨h.1, h.2.1, hk⟩ | (simp only [*, and_self, true_and, and_true, if_true, if_false, reduceIte, Bool.false_eq_true, not_true_eq_false]; done) | (simp only [*]; exact ⟨h.1, h.2.1, hk⟩) | (simp [*]; done) | (simp [*]; exact ⟨h.1, h.2.1, hk⟩)⟩ | exact ⟨_, h.2.2.2, fun st2 K' hk => by (try dsimp only); first | exact ⟨h.1, h.2.1, h.2.2.1, hk⟩ | (simp only [*, and_self, true_and, and_true, if_true, if_false, reduceIte, Bool.false_eq_true, not_true_eq_false]; done) | (simp only [*]; exact ⟨h.1, h.2.1, h.2.2.1, hk⟩) | (simp [*]; done) | (simp [*]; exact ⟨h.1, h.2.1, h.2.2.1, hk⟩)⟩ | skip
theorem unF_r (op : UnOp) (x : AV) {tm : List AV} {ob : Obs} {d : Option Tmp} (h : unF K ⟨tm, ob⟩ d op x) : ∃ v, fin K ⟨tm, ob⟩ d v ∧ ∀ (st2 : St) (K' : St → Prop), fin K' st2 d v → unF K' st2 d op x := by
  unfold unF at *
  try unfold partF at *
  repeat' split at h
  all_goals (try dsimp only at *)
  all_goals first | exact h.elim | exact h.2.elim | exact ⟨_, h, fun st2 K' hk => by (try dsimp only); first | exact hk | (simp only [*, and_self, true_and, and_true, if_true, if_false, reduceIte, Bool.false_eq_true, not_true_eq_false]; done) | (simp only [*]; exact hk) | (simp [*]; done) | (simp [*]; exact hk)⟩ | exact ⟨_, h.2, fun st2 K' hk => by (try dsimp only); first | exact ⟨h.1, hk⟩ | (simp only [*, and_self, true_and, and_true, if_true, if_false, reduceIte, Bool.false_eq_true, not_true_eq_false]; done) | (simp only [*]; exact ⟨h.1, hk⟩) | (simp [*]; done) | (simp [*]; exact ⟨h.1, hk⟩)⟩ | exact ⟨_, h.2.2, fun st2 K' hk => by (try dsimp only); first | exact ⟨h.1, h.2.1, hk⟩ | (simp only [*, and_self, true_and, and_true, if_true, if_false, reduceIte, Bool.false_eq_true, not_true_eq_false]; done) | (simp only [*]; exact ⟨h.1, h.2.1, hk⟩) | (simp [*]; done) | (simp [*]; exact ⟨h.1, h.2.1, hk⟩)⟩ | exact ⟨_, h.2.2.2, fun st2 K' hk => by (try dsimp only); first | exact ⟨h.1, h.2.1, h.2.2.1, hk⟩ | (simp only [*, and_self, true_and, and_true, if_true, if_false, reduceIte, Bool.false_eq_true, not_true_eq_false]; done) | (simp only [*]; exact ⟨h.1, h.2.1, h.2.2.1, hk⟩) | (simp [*]; done) | (simp [*]; exact ⟨h.1, h.2.1, h.2.2.1, hk⟩)⟩ | skip
theorem faF_r (t : TypeId) (f : Nat) (x : AV) {tm : List AV} {ob : Obs} {d : Option Tmp} (h : faF E K ⟨tm, ob⟩ d t f x) : ∃ v, fin K ⟨tm, ob⟩ d v ∧ ∀ (st2 : St) (K' : St → Prop), fin K' st2 d v → faF E K' st2 d t f x := by
  unfold faF at *
  try unfold partF at *
  repeat' split at h
  all_goals (try dsimp only at *)
  all_goals first | exact h.elim | exact h.2.elim | exact ⟨_, h, fun st2 K' hk => by (try dsimp only); first | exact hk | (simp only [*, and_self, true_and, and_true, if_true, if_false, reduceIte, Bool.false_eq_true, not_true_eq_false]; done) | (simp only [*]; exact hk) | (simp [*]; done) | (simp [*]; exact hk)⟩ | exact ⟨_, h.2, fun st2 K' hk => by (try dsimp only); first | exact ⟨h.1, hk⟩ | (simp only [*, and_self, true_and, and_true, if_true, if_false, reduceIte, Bool.false_eq_true, not_true_eq_false]; done) | (simp only [*]; exact ⟨h.1, hk⟩) | (simp [*]; done) | (simp [*]; exact ⟨h.1, hk⟩)⟩ | exact ⟨_, h.2.2, fun st2 K' hk => by (try dsimp only); first | exact ⟨h.1, h.2.1, hk⟩ | (simp only [*, and_self, true_and, and_true, if_true, if_false, reduceIte, Bool.false_eq_true, not_true_eq_false]; done) | (simp only [*]; exact ⟨h.1, h.2.1, hk⟩) | (simp [*]; done) | (simp [*]; exact ⟨h.1, h.2.1, hk⟩)⟩ | exact ⟨_, h.2.2.2, fun st2 K' hk => by (try dsimp only); first | exact ⟨h.1, h.2.1, h.2.2.1, hk⟩ | (simp only [*, and_self, true_and, and_true, if_true, if_false, reduceIte, Bool.false_eq_true, not_true_eq_false]; done) | (simp only [*]; exact ⟨h.1, h.2.1, h.2.2.1, hk⟩) | (simp [*]; done) | (simp [*]; exact ⟨h.1, h.2.1, h.2.2.1, hk⟩)⟩ | skip
theorem iaF_r (t : TypeId) (x i : AV) {tm : List AV} {ob : Obs} {d : Option Tmp} (h : iaF E K ⟨tm, ob⟩ d t x i) : ∃ v, fin K ⟨tm, ob⟩ d v ∧ ∀ (st2 : St) (K' : St → Prop), fin K' st2 d v → iaF E K' st2 d t x i := by
  unfold iaF at *
  try unfold partF at *
  repeat' split at h
  all_goals (try dsimp only at *)
  all_goals first | exact h.elim | exact h.2.elim | exact ⟨_, h, fun st2 K' hk => by (try dsimp only); first | exact hk | (simp only [*, and_self, true_and, and_true, if_true, if_false, reduceIte, Bool.false_eq_true, not_true_eq_false]; done) | (simp only [*]; exact hk) | (simp [*]; done) | (simp [*]; exact hk)⟩ | exact ⟨_, h.2, fun st2 K' hk => by (try dsimp only); first | exact ⟨h.1, hk⟩ | (simp only [*, and_self, true_and, and_true, if_true, if_false, reduceIte, Bool.false_eq_true, not_true_eq_false]; done) | (simp only [*]; exact ⟨h.1, hk⟩) | (simp [*]; done) | (simp [*]; exact ⟨h.1, hk⟩)⟩ | exact ⟨_, h.2.2, fun st2 K' hk => by (try dsimp only); first | exact ⟨h.1, h.2.1, hk⟩ | (simp only [*, and_self, true_and, and_true, if_true, if_false, reduceIte, Bool.false_eq_true, not_true_eq_false]; done) | (simp only [*]; exact ⟨h.1, h.2.1, hk⟩) | (simp [*]; done) | (simp [*]; exact ⟨h.1, h.2.1, hk⟩)⟩ | exact ⟨_, h.2.2.2, fun st2 K' hk => by (try dsimp only); first | exact ⟨h.1, h.2.1, h.2.2.1, hk⟩ | (simp only [*, and_self, true_and, and_true, if_true, if_false, reduceIte, Bool.false_eq_true, not_true_eq_false]; done) | (simp only [*]; exact ⟨h.1, h.2.1, h.2.2.1, hk⟩) | (simp [*]; done) | (simp [*]; exact ⟨h.1, h.2.1, h.2.2.1, hk⟩)⟩ | skip
theorem lenF_r (t : TypeId) (x : AV) {tm : List AV} {ob : Obs} {d : Option Tmp} (h : lenF E K ⟨tm, ob⟩ d t x) : ∃ v, fin K ⟨tm, ob⟩ d v ∧ ∀ (st2 : St) (K' : St → Prop), fin K' st2 d v → lenF E K' st2 d t x := by
  unfold lenF at *
  try unfold partF at *
  repeat' split at h
  all_goals (try dsimp only at *)
  all_goals first | exact h.elim | exact h.2.elim | exact ⟨_, h, fun st2 K' hk => by (try dsimp only); first | exact hk | (simp only [*, and_self, true_and, and_true, if_true, if_false, reduceIte, Bool.false_eq_true, not_true_eq_false]; done) | (simp only [*]; exact hk) | (simp [*]; done) | (simp [*]; exact hk)⟩ | exact ⟨_, h.2, fun st2 K' hk => by (try dsimp only); first | exact ⟨h.1, hk⟩ | (simp only [*, and_self, true_and, and_true, if_true, if_false, reduceIte, Bool.false_eq_true, not_true_eq_false]; done) | (simp only [*]; exact ⟨h.1, hk⟩) | (simp [*]; done) | (simp [*]; exact ⟨h.1, hk⟩)⟩ | exact ⟨_, h.2.2, fun st2 K' hk => by (try dsimp only); first | exact ⟨h.1, h.2.1, hk⟩ | (simp only [*, and_self, true_and, and_true, if_true, if_false, reduceIte, Bool.false_eq_true, not_true_eq_false]; done) | (simp only [*]; exact ⟨h.1, h.2.1, hk⟩) | (simp [*]; done) | (simp [*]; exact ⟨h.1, h.2.1, hk⟩)⟩ | exact ⟨_, h.2.2.2, fun st2 K' hk => by (try dsimp only); first | exact ⟨h.1, h.2.1, h.2.2.1, hk⟩ | (simp only [*, and_self, true_and, and_true, if_true, if_false, reduceIte, Bool.false_eq_true, not_true_eq_false]; done) | (simp only [*]; exact ⟨h.1, h.2.1, h.2.2.1, hk⟩) | (simp [*]; done) | (simp [*]; exact ⟨h.1, h.2.1, h.2.2.1, hk⟩)⟩ | skip
theorem mkfF_r (fn : Fn) (a b : List AV) {tm : List AV} {ob : Obs} {d : Option Tmp} (h : mkfF K ⟨tm, ob⟩ d fn a b) : ∃ v, fin K ⟨tm, ob⟩ d v ∧ ∀ (st2 : St) (K' : St → Prop), fin K' st2 d v → mkfF K' st2 d fn a b := by
  unfold mkfF at *
  try unfold partF at *
  repeat' split at h
  all_goals (try dsimp only at *)
  all_goals first | exact h.elim | exact h.2.elim | exact ⟨_, h, fun st2 K' hk => by (try dsimp only); first | exact hk | (simp only [*, and_self, true_and, and_true, if_true, if_false, reduceIte, Bool.false_eq_true, not_true_eq_false]; done) | (simp only [*]; exact hk) | (simp [*]; done) | (simp [*]; exact hk)⟩ | exact ⟨_, h.2, fun st2 K' hk => by (try dsimp only); first | exact ⟨h.1, hk⟩ | (simp only [*, and_self, true_and, and_true, if_true, if_false, reduceIte, Bool.false_eq_true, not_true_eq_false]; done) | (simp only [*]; exact ⟨h.1, hk⟩) | (simp [*]; done) | (simp [*]; exact ⟨h.1, hk⟩)⟩ | exact ⟨_, h.2.2, fun st2 K' hk => by (try dsimp only); first | exact ⟨h.1, h.2.1, hk⟩ | (simp only [*, and_self, true_and, and_true, if_true, if_false, reduceIte, Bool.false_eq_true, not_true_eq_false]; done) | (simp only [*]; exact ⟨h.1, h.2.1, hk⟩) | (simp [*]; done) | (simp [*]; exact ⟨h.1, h.2.1, hk⟩)⟩ | exact ⟨_, h.2.2.2, fun st2 K' hk => by (try dsimp only); first | exact ⟨h.1, h.2.1, h.2.2.1, hk⟩ | (simp only [*, and_self, true_and, and_true, if_true, if_false, reduceIte, Bool.false_eq_true, not_true_eq_false]; done) | (simp only [*]; exact ⟨h.1, h.2.1, h.2.2.1, hk⟩) | (simp [*]; done) | (simp [*]; exact ⟨h.1, h.2.1, h.2.2.1, hk⟩)⟩ | skip
theorem fF_r (t : TypeId) (f : Nat) (x : AV) {tm : List AV} {ob : Obs} {d : Option Tmp} (h : fF E K ⟨tm, ob⟩ d t f x) : ∃ v, fin K ⟨tm, ob⟩ d v ∧ ∀ (st2 : St) (K' : St → Prop), fin K' st2 d v → fF E K' st2 d t f x := by
  unfold fF at *
  try unfold partF at *
  repeat' split at h
  all_goals (try dsimp only at *)
  all_goals first | exact h.elim | exact h.2.elim | exact ⟨_, h, fun st2 K' hk => by (try dsimp only); first | exact hk | (simp only [*, and_self, true_and, and_true, if_true, if_false, reduceIte, Bool.false_eq_true, not_true_eq_false]; done) | (simp only [*]; exact hk) | (simp [*]; done) | (simp [*]; exact hk)⟩ | exact ⟨_, h.2, fun st2 K' hk => by (try dsimp only); first | exact ⟨h.1, hk⟩ | (simp only [*, and_self, true_and, and_true, if_true, if_false, reduceIte, Bool.false_eq_true, not_true_eq_false]; done) | (simp only [*]; exact ⟨h.1, hk⟩) | (simp [*]; done) | (simp [*]; exact ⟨h.1, hk⟩)⟩ | exact ⟨_, h.2.2, fun st2 K' hk => by (try dsimp only); first | exact ⟨h.1, h.2.1, hk⟩ | (simp only [*, and_self, true_and, and_true, if_true, if_false, reduceIte, Bool.false_eq_true, not_true_eq_false]; done) | (simp only [*]; exact ⟨h.1, h.2.1, hk⟩) | (simp [*]; done) | (simp [*]; exact ⟨h.1, h.2.1, hk⟩)⟩ | exact ⟨_, h.2.2.2, fun st2 K' hk => by (try dsimp only); first | exact ⟨h.1, h.2.1, h.2.2.1, hk⟩ | (simp only [*, and_self, true_and, and_true, if_true, if_false, reduceIte, Bool.false_eq_true, not_true_eq_false]; done) | (simp only [*]; exact ⟨h.1, h.2.1, h.2.2.1, hk⟩) | (simp [*]; done) | (simp [*]; exact ⟨h.1, h.2.1, h.2.2.1, hk⟩)⟩ | skip
theorem ixF_r (t : TypeId) (x i : AV) {tm : List AV} {ob : Obs} {d : Option Tmp} (h : ixF E K ⟨tm, ob⟩ d t x i) : ∃ v, fin K ⟨tm, ob⟩ d v ∧ ∀ (st2 : St) (K' : St → Prop), fin K' st2 d v → ixF E K' st2 d t x i := by
  unfold ixF at *
  try unfold partF at *
  repeat' split at h
  all_goals (try dsimp only at *)
  all_goals first | exact h.elim | exact h.2.elim | exact ⟨_, h, fun st2 K' hk => by (try dsimp only); first | exact hk | (simp only [*, and_self, true_and, and_true, if_true, if_false, reduceIte, Bool.false_eq_true, not_true_eq_false]; done) | (simp only [*]; exact hk) | (simp [*]; done) | (simp [*]; exact hk)⟩ | exact ⟨_, h.2, fun st2 K' hk => by (try dsimp only); first | exact ⟨h.1, hk⟩ | (simp only [*, and_self, true_and, and_true, if_true, if_false, reduceIte, Bool.false_eq_true, not_true_eq_false]; done) | (simp only [*]; exact ⟨h.1, hk⟩) | (simp [*]; done) | (simp [*]; exact ⟨h.1, hk⟩)⟩ | exact ⟨_, h.2.2, fun st2 K' hk => by (try dsimp only); first | exact ⟨h.1, h.2.1, hk⟩ | (simp only [*, and_self, true_and, and_true, if_true, if_false, reduceIte, Bool.false_eq_true, not_true_eq_false]; done) | (simp only [*]; exact ⟨h.1, h.2.1, hk⟩) | (simp [*]; done) | (simp [*]; exact ⟨h.1, h.2.1, hk⟩)⟩ | exact ⟨_, h.2.2.2, fun st2 K' hk => by (try dsimp only); first | exact ⟨h.1, h.2.1, h.2.2.1, hk⟩ | (simp only [*, and_self, true_and, and_true, if_true, if_false, reduceIte, Bool.false_eq_true, not_true_eq_false]; done) | (simp only [*]; exact ⟨h.1, h.2.1, h.2.2.1, hk⟩) | (simp [*]; done) | (simp [*]; exact ⟨h.1, h.2.1, h.2.2.1, hk⟩)⟩ | skip
theorem exF_r (i : Nat) (x : AV) {tm : List AV} {ob : Obs} {d : Option Tmp} (h : exF K ⟨tm, ob⟩ d i x) : ∃ v, fin K ⟨tm, ob⟩ d v ∧ ∀ (st2 : St) (K' : St → Prop), fin K' st2 d v → exF K' st2 d i x := by
  unfold exF at *
  try unfold partF at *
  repeat' split at h
  all_goals (try dsimp only at *)
  all_goals first | exact h.elim | exact h.2.elim | exact ⟨_, h, fun st2 K' hk => by (try dsimp only); first | exact hk | (simp only [*, and_self, true_and, and_true, if_true, if_false, reduceIte, Bool.false_eq_true, not_true_eq_false]; done) | (simp only [*]; exact hk) | (simp [*]; done) | (simp [*]; exact hk)⟩ | exact ⟨_, h.2, fun st2 K' hk => by (try dsimp only); first | exact ⟨h.1, hk⟩ | (simp only [*, and_self, true_and, and_true, if_true, if_false, reduceIte, Bool.false_eq_true, not_true_eq_false]; done) | (simp only [*]; exact ⟨h.1, hk⟩) | (simp [*]; done) | (simp [*]; exact ⟨h.1, hk⟩)⟩ | exact ⟨_, h.2.2, fun st2 K' hk => by (try dsimp only); first | exact ⟨h.1, h.2.1, hk⟩ | (simp only [*, and_self, true_and, and_true, if_true, if_false, reduceIte, Bool.false_eq_true, not_true_eq_false]; done) | (simp only [*]; exact ⟨h.1, h.2.1, hk⟩) | (simp [*]; done) | (simp [*]; exact ⟨h.1, h.2.1, hk⟩)⟩ | exact ⟨_, h.2.2.2, fun st2 K' hk => by (try dsimp only); first | exact ⟨h.1, h.2.1, h.2.2.1, hk⟩ | (simp only [*, and_self, true_and, and_true, if_true, if_false, reduceIte, Bool.false_eq_true, not_true_eq_false]; done) | (simp only [*]; exact ⟨h.1, h.2.1, h.2.2.1, hk⟩) | (simp [*]; done) | (simp [*]; exact ⟨h.1, h.2.1, h.2.2.1, hk⟩)⟩ | skip
theorem mmF_r (b : Bool) (x y : AV) {tm : List AV} {ob : Obs} {d : Option Tmp} (h : mmF K ⟨tm, ob⟩ d b x y) : ∃ v, fin K ⟨tm, ob⟩ d v ∧ ∀ (st2 : St) (K' : St → Prop), fin K' st2 d v → mmF K' st2 d b x y := by
  unfold mmF at *
  try unfold partF at *
  repeat' split at h
  all_goals (try dsimp only at *)
  all_goals first | exact h.elim | exact h.2.elim | exact ⟨_, h, fun st2 K' hk => by (try dsimp only); first | exact hk | (simp only [*, and_self, true_and, and_true, if_true, if_false, reduceIte, Bool.false_eq_true, not_true_eq_false]; done) | (simp only [*]; exact hk) | (simp [*]; done) | (simp [*]; exact hk)⟩ | exact ⟨_, h.2, fun st2 K' hk => by (try dsimp only); first | exact ⟨h.1, hk⟩ | (simp only [*, and_self, true_and, and_true, if_true, if_false, reduceIte, Bool.false_eq_true, not_true_eq_false]; done) | (simp only [*]; exact ⟨h.1, hk⟩) | (simp [*]; done) | (simp [*]; exact ⟨h.1, hk⟩)⟩ | exact ⟨_, h.2.2, fun st2 K' hk => by (try dsimp only); first | exact ⟨h.1, h.2.1, hk⟩ | (simp only [*, and_self, true_and, and_true, if_true, if_false, reduceIte, Bool.false_eq_true, not_true_eq_false]; done) | (simp only [*]; exact ⟨h.1, h.2.1, hk⟩) | (simp [*]; done) | (simp [*]; exact ⟨h.1, h.2.1, hk⟩)⟩ | exact ⟨_, h.2.2.2, fun st2 K' hk => by (try dsimp only); first | exact ⟨h.1, h.2.1, h.2.2.1, hk⟩ | (simp only [*, and_self, true_and, and_true, if_true, if_false, reduceIte, Bool.false_eq_true, not_true_eq_false]; done) | (simp only [*]; exact ⟨h.1, h.2.1, h.2.2.1, hk⟩) | (simp [*]; done) | (simp [*]; exact ⟨h.1, h.2.1, h.2.2.1, hk⟩)⟩ | skip
theorem slF_r (t : TypeId) {x : AV} (lo hi : Option AV) {tm : List AV} {ob : Obs} {d : Option Tmp} (hx : inD D x) (h : slF E K ⟨tm, ob⟩ d t x lo hi) : ∃ v, fin K ⟨tm, ob⟩ d v ∧ ∀ (st2 : St) (K' : St → Prop), sameD D ob st2.ob → fin K' st2 d v → slF E K' st2 d t x lo hi := by
  unfold slF at *
  split at h
  · split at h
    case h_2 => exact h.elim
    exact ⟨_, h.2, fun st2 K' _ hk => ⟨h.1, hk⟩⟩
  · split at h
    case h_2 => exact h.elim
    split at h
    case h_2 => exact h.elim
    exact ⟨_, h.2, fun st2 K' _ hk => ⟨h.1, hk⟩⟩
  · split at h
    case h_2 => exact h.elim
    split at h
    case h_2 => exact h.elim
    exact ⟨_, h.2, fun st2 K' _ hk => ⟨h.1, hk⟩⟩
  · split at h
    case h_2 => exact h.elim
    split at h
    case h_2 => exact h.elim
    exact ⟨_, h.2, fun st2 K' _ hk => ⟨h.1, hk⟩⟩
  · rename_i o1 g off
    split at h
    case h_2 => exact h.elim
    split at h
    case h_2 => exact h.elim
    rename_i h1 h2 h3
    refine ⟨_, h.2, fun st2 K' hs hk => ?_⟩
    rw [hs o1 hx, h1, h2, h3]
    exact ⟨h.1, hk⟩
  · exact h.elim
/-- A reading operation in one state answers so in every state that is the same where it looks. -/
theorem opF_read (hr : readOp o.op = true) (hD : readsIn D o st) (h : opF E o K st) : ∃ v, fin K st o.dst v ∧ ∀ (st2 : St) (K' : St → Prop), (∀ x ∈ o.op.operands, rd st2.tm x = rd st.tm x) → sameD D st.ob st2.ob → fin K' st2 o.dst v → opF E o K' st2 := by
  obtain ⟨tm, ob⟩ := st
  obtain ⟨dst, op, type, pos, after, guard⟩ := o
  have now : ∀ {x : Operand}, x ∈ op.operands → fin K ⟨tm, ob⟩ dst (rd tm x) → (∀ (st2 : St) (K' : St → Prop), fin K' st2 dst (rd st2.tm x) → opF E ⟨dst, op, type, pos, after, guard⟩ K' st2) →
      ∃ v, fin K ⟨tm, ob⟩ dst v ∧ ∀ (st2 : St) (K' : St → Prop), (∀ x ∈ op.operands, rd st2.tm x = rd tm x) → sameD D ob st2.ob → fin K' st2 dst v → opF E ⟨dst, op, type, pos, after, guard⟩ K' st2 := by
    intro x hx h1 h2
    refine ⟨_, h1, fun st2 K' h3 h4 h5 => h2 st2 K' ?_⟩
    rw [h3 x hx]; exact h5
  -- the others: what they answer does not hang on the rows
  have pure : ∀ {F : (St → Prop) → St → Option Tmp → Prop}, (∀ (K : St → Prop) tm ob d, F K ⟨tm, ob⟩ d → ∃ v, fin K ⟨tm, ob⟩ d v ∧ ∀ (st2 : St) (K' : St → Prop), fin K' st2 d v → F K' st2 d) → F K ⟨tm, ob⟩ dst → (∀ (st2 : St) (K' : St → Prop), (∀ x ∈ op.operands, rd st2.tm x = rd tm x) → F K' st2 dst → opF E ⟨dst, op, type, pos, after, guard⟩ K' st2) →
      ∃ v, fin K ⟨tm, ob⟩ dst v ∧ ∀ (st2 : St) (K' : St → Prop), (∀ x ∈ op.operands, rd st2.tm x = rd tm x) → sameD D ob st2.ob → fin K' st2 dst v → opF E ⟨dst, op, type, pos, after, guard⟩ K' st2 := by
    intro F hF h1 h2
    obtain ⟨v, h3, h4⟩ := hF K tm ob dst h1
    exact ⟨v, h3, fun st2 K' h5 _ h6 => h2 st2 K' h5 (h4 st2 K' h6)⟩
  cases op with
  | move x => exact now (x := x) (by simp [Op.operands]) h fun _ _ h => h
  | assign x => exact now (x := x) (by simp [Op.operands]) h fun _ _ h => h
  | load t x =>
    obtain ⟨v, h1, h2⟩ := load_read hD h
    refine ⟨v, h1, fun st2 K' h3 h4 h5 => ?_⟩
    show loadF _ _ _ _ _ _
    rw [h3 x (by simp [Op.operands])]
    exact h2 st2 K' h4 h5
  | pick c x y =>
    refine pure (F := fun K st d => pickF K st d (rd tm c) (rd tm x) (rd tm y)) (fun K tm' ob d h => ?_) h fun st2 K' h3 h4 => ?_
    · unfold pickF at *
      split at h
      case h_2 => exact h.elim
      rename_i b _
      cases b with
      | true => exact ⟨_, h.1 rfl, fun st2 K' hk => ⟨fun _ => hk, fun e => by cases e⟩⟩
      | false => exact ⟨_, h.2 rfl, fun st2 K' hk => ⟨fun e => (by cases e), fun _ => hk⟩⟩
    · show pickF _ _ _ _ _ _
      rw [h3 c (by simp [Op.operands]), h3 x (by simp [Op.operands]), h3 y (by simp [Op.operands])]; exact h4
  | build t ps =>
    obtain ⟨v, h1, h2⟩ := buildF_d _ _ h
    refine ⟨v, h1, fun st2 K' h3 h4 h5 => ?_⟩
    exact h2 K' st2.tm dst st2.ob (fun p hp => h3 p.2 (by simp only [Op.operands, List.mem_toArray, List.mem_map]; exact ⟨p, hp, rfl⟩)) h5
  | nilCheck x =>
    refine pure (F := fun K st d => nilF K st d (rd tm x)) (fun K tm' ob d h => nilF_r _ h) h fun st2 K' h3 h4 => ?_
    show nilF _ _ _ _
    rw [h3 x (by simp [Op.operands])]; exact h4
  | binOp op t x y u =>
    refine pure (F := fun K st d => binF E K st d op t (rd tm x) (rd tm y)) (fun K tm' ob d h => binF_r _ _ _ _ h) h fun st2 K' h3 h4 => ?_
    show binF _ _ _ _ _ _ _ _
    rw [h3 x (by simp [Op.operands]), h3 y (by simp [Op.operands])]; exact h4
  | unOp op t x =>
    refine pure (F := fun K st d => unF K st d op (rd tm x)) (fun K tm' ob d h => unF_r _ _ h) h fun st2 K' h3 h4 => ?_
    show unF _ _ _ _ _
    rw [h3 x (by simp [Op.operands])]; exact h4
  | fieldAddr t x f =>
    refine pure (F := fun K st d => faF E K st d t f (rd tm x)) (fun K tm' ob d h => faF_r _ _ _ h) h fun st2 K' h3 h4 => ?_
    show faF _ _ _ _ _ _ _
    rw [h3 x (by simp [Op.operands])]; exact h4
  | field t x f =>
    refine pure (F := fun K st d => fF E K st d t f (rd tm x)) (fun K tm' ob d h => fF_r _ _ _ h) h fun st2 K' h3 h4 => ?_
    show fF _ _ _ _ _ _ _
    rw [h3 x (by simp [Op.operands])]; exact h4
  | indexAddr t x y =>
    refine pure (F := fun K st d => iaF E K st d t (rd tm x) (rd tm y)) (fun K tm' ob d h => iaF_r _ _ _ h) h fun st2 K' h3 h4 => ?_
    show iaF _ _ _ _ _ _ _
    rw [h3 x (by simp [Op.operands]), h3 y (by simp [Op.operands])]; exact h4
  | index t x y =>
    refine pure (F := fun K st d => ixF E K st d t (rd tm x) (rd tm y)) (fun K tm' ob d h => ixF_r _ _ _ h) h fun st2 K' h3 h4 => ?_
    show ixF _ _ _ _ _ _ _
    rw [h3 x (by simp [Op.operands]), h3 y (by simp [Op.operands])]; exact h4
  | extract x i =>
    refine pure (F := fun K st d => exF K st d i (rd tm x)) (fun K tm' ob d h => exF_r _ _ h) h fun st2 K' h3 h4 => ?_
    show exF _ _ _ _ _
    rw [h3 x (by simp [Op.operands])]; exact h4
  | makeFunc fn first caps =>
    refine pure (F := fun K st d => mkfF K st d fn (first.toList.map (rd tm)) (caps.toList.map (rd tm))) (fun K tm' ob d h => mkfF_r _ _ _ h) h fun st2 K' h3 h4 => ?_
    show mkfF _ _ _ _ _ _
    rw [List.map_congr_left (fun x hx => h3 x (by simp [Op.operands]; exact .inl (by simpa using hx))), List.map_congr_left (l := caps.toList) (fun x hx => h3 x (by simp [Op.operands]; exact .inr (by simpa using hx)))]; exact h4
  | slice t x lo hi mx =>
    cases mx with
    | some _ => exact h.elim
    | none =>
      obtain ⟨v, h1, h2⟩ := slF_r t _ _ hD h
      refine ⟨v, h1, fun st2 K' h3 h4 h5 => ?_⟩
      have e1 : lo.map (rd st2.tm) = lo.map (rd tm) := by cases lo with | none => rfl | some y => simp only [Option.map_some]; rw [h3 y (by simp [Op.operands])]
      have e2 : hi.map (rd st2.tm) = hi.map (rd tm) := by cases hi with | none => rfl | some y => simp only [Option.map_some]; rw [h3 y (by simp [Op.operands])]
      show slF _ _ _ _ _ _ _ _
      rw [h3 x (by simp [Op.operands]), e1, e2]
      exact h2 st2 K' h4 h5
  | call c =>
    obtain ⟨callee, args, ts⟩ := c
    cases callee with
    | value f => cases hr
    | invoke => exact h.elim
    | builtin b =>
      have lift : ∀ {v : AV}, True := trivial
      unfold opF at h
      split at h
      all_goals (rename_i ho; first | exact h.elim | (exfalso; simp at ho; done) | skip)
      · rename_i x t
        simp only [Op.call.injEq, Call.mk.injEq, Callee.builtin.injEq] at ho
        obtain ⟨rfl, rfl, rfl⟩ := ho
        refine pure (F := fun K st d => lenF E K st d t (rd tm x)) (fun K tm' ob d h => lenF_r _ _ h) h fun st2 K' h3 h4 => ?_
        show lenF _ _ _ _ _ _
        rw [h3 x (by simp [Op.operands, Call.operands])]; exact h4
      · exfalso
        simp only [Op.call.injEq, Call.mk.injEq, Callee.builtin.injEq] at ho
        obtain ⟨rfl, rfl, rfl⟩ := ho
        cases hr
      · rename_i x y t
        simp only [Op.call.injEq, Call.mk.injEq, Callee.builtin.injEq] at ho
        obtain ⟨rfl, rfl, rfl⟩ := ho
        refine pure (F := fun K st d => mmF K st d true (rd tm x) (rd tm y)) (fun K tm' ob d h => mmF_r _ _ _ h) h fun st2 K' h3 h4 => ?_
        show mmF _ _ _ _ _ _
        rw [h3 x (by simp [Op.operands, Call.operands]), h3 y (by simp [Op.operands, Call.operands])]; exact h4
      · rename_i x y t
        simp only [Op.call.injEq, Call.mk.injEq, Callee.builtin.injEq] at ho
        obtain ⟨rfl, rfl, rfl⟩ := ho
        refine pure (F := fun K st d => mmF K st d false (rd tm x) (rd tm y)) (fun K tm' ob d h => mmF_r _ _ _ h) h fun st2 K' h3 h4 => ?_
        show mmF _ _ _ _ _ _
        rw [h3 x (by simp [Op.operands, Call.operands]), h3 y (by simp [Op.operands, Call.operands])]; exact h4
      · exfalso
        simp only [Op.call.injEq, Call.mk.injEq, Callee.builtin.injEq] at ho
        obtain ⟨rfl, rfl, rfl⟩ := ho
        cases hr
  | _ => cases hr
end
end Go.Proofs.YtkdkbnacelnljaaGreat.RE
