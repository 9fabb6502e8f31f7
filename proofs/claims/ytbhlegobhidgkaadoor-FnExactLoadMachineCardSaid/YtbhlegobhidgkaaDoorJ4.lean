/- Jobs that are right. Conditions: those that a theorem names. -/
import Derived.Test.YtbhlegobhidgkaaDoorJ3
set_option linter.unusedVariables false
set_option linter.unusedSimpArgs false
namespace Go.Proofs.YtbhlegobhidgkaaDoor.RE
open Go Go.RowKit
set_option maxRecDepth 100000
set_option maxHeartbeats 8000000
def cz (m : Mc) : Bool := decide (m.steps = 0 ∧ m.looks = 0 ∧ m.hits = 0)
def jA (j : Jb) : Bool := decide ((j.journal.size : Int) ≤ 2000000) && inI j.synced 0 j.journal.size
def jB (j : Jb) : Bool := jA j && (if j.state = 0 then mZero j.m else if j.state = 1 then mOk j.m && !j.m.over else if j.state = 2 then mOk j.m && j.m.over else false)
theorem argC {ob : Obs} {L : Lend} {al al' : List AV} {M : Lend} {a b c g1 g2 g3 : Nat} {m : Mc} {nr nv nm : Nat} {pre suf : List LV} (h : ArgsL ob L al al' M) (e1 : ob.getD a none = some ⟨g1, m.row.map cb⟩) (e2 : ob.getD b none = some ⟨g2, m.vals.map ci⟩) (e3 : ob.getD c none = some ⟨g3, lS m.memo⟩) (l1 : lk L a g1 = some (encB m.row)) (l2 : lk L b g2 = some (encI m.vals)) (l3 : lk L c g3 = some (encS m.memo))
    (hp : CellsL ob L M pre pre M) (hs : CellsL ob L M suf suf M) (n1 : nr = m.row.length := by rfl) (n2 : nv = m.vals.length := by rfl) (n3 : nm = m.memo.length := by rfl) :
    CellsL ob L M (mCells (.obj a g1 1 0 nr) (.obj b g2 1 0 nv) (.obj c g3 2 0 nm) m ++ suf) (mD m ++ suf) ((a, g1, encB m.row) :: (b, g2, encI m.vals) :: (c, g3, encS m.memo) :: M) := by
  subst n1; subst n2; subst n3
  exact .row e1 (lB_encB _ false).symm (by rw [List.drop_zero, Nat.mul_one, ← encB_len, List.take_length]) l1 (.same rfl (.same rfl (.same rfl (.row e2 (lI_encI _ false).symm (by rw [List.drop_zero, Nat.mul_one, ← encI_len, List.take_length]) l2 (.same rfl (.same rfl (.same rfl (.same rfl (.same rfl (.row e3 (lS_encS _ false).symm (by rw [List.drop_zero, ← encS_len, List.take_length]) l3 hs))))))))))
theorem argM {ob : Obs} {L : Lend} {al al' : List AV} {M : Lend} {a b c g1 g2 g3 : Nat} {m : Mc} (h : ArgsL ob L al al' M) (e1 : ob.getD a none = some ⟨g1, m.row.map cb⟩) (e2 : ob.getD b none = some ⟨g2, m.vals.map ci⟩) (e3 : ob.getD c none = some ⟨g3, lS m.memo⟩) (l1 : lk L a g1 = some (encB m.row)) (l2 : lk L b g2 = some (encI m.vals)) (l3 : lk L c g3 = some (encS m.memo)) :
    ArgsL ob L (.agg (mCells (.obj a g1 1 0 m.row.length) (.obj b g2 1 0 m.vals.length) (.obj c g3 2 0 m.memo.length) m) :: al) (.agg (mD m) :: al') ((a, g1, encB m.row) :: (b, g2, encI m.vals) :: (c, g3, encS m.memo) :: M) := by
  have := ArgsL.agg h (argC (pre := []) (suf := []) h e1 e2 e3 l1 l2 l3 .nil .nil)
  rwa [List.append_nil, List.append_nil] at this
theorem argJ {ob : Obs} {L : Lend} {al al' : List AV} {M : Lend} {a b c g1 g2 g3 : Nat} {j : Jb} (h : ArgsL ob L al al' M) (e1 : ob.getD a none = some ⟨g1, j.m.row.map cb⟩) (e2 : ob.getD b none = some ⟨g2, j.m.vals.map ci⟩) (e3 : ob.getD c none = some ⟨g3, lS j.m.memo⟩) (l1 : lk L a g1 = some (encB j.m.row)) (l2 : lk L b g2 = some (encI j.m.vals)) (l3 : lk L c g3 = some (encS j.m.memo)) :
    ArgsL ob L (.agg (jCells (mCells (.obj a g1 1 0 j.m.row.length) (.obj b g2 1 0 j.m.vals.length) (.obj c g3 2 0 j.m.memo.length) j.m) j) :: al) (.agg (jD j) :: al') ((a, g1, encB j.m.row) :: (b, g2, encI j.m.vals) :: (c, g3, encS j.m.memo) :: M) :=
  ArgsL.agg h (.same rfl (argC (pre := []) (suf := [.sc (.string j.journal), .sc (.int .i64 j.synced)]) h e1 e2 e3 l1 l2 l3 .nil (.same rfl (.same rfl .nil))))
end Go.Proofs.YtbhlegobhidgkaaDoor.RE
