/- Nodes, their parts, and when a list of nodes is a term: plain definitions. -/
import Derived.Test.YtlgjogfcpgfbnaaK0
import Derived.Test.YtlgjogfcpgfbnaaWWords
set_option linter.unusedVariables false
namespace Go.Proofs.Ytlgjogfcpgfbnaa.KM
open Go.RowKit Go.Proofs.YtlgjogfcpgfbnaaW.PrintWords

abbrev Nd := Go.Proofs.Ytlgjogfcpgfbnaa.K.S99
abbrev znd : Nd := Go.Proofs.Ytlgjogfcpgfbnaa.K.z99
def IsQ (op : Int) : Prop := op = 19 ∨ op = 20
instance (op : Int) : Decidable (IsQ op) := by unfold IsQ; exact inferInstance
def partsL (op a b c : Int) : List Int :=
  if op = 2 ∨ op = 17 ∨ op = 19 ∨ op = 20 then [a] else if 3 ≤ op ∧ op ≤ 16 then [a, b] else if op = 18 then [a, b, c] else []
def parts (n : Nd) : List Int := partsL n.f0 n.f3 n.f4 n.f5
def UsesP (op k a b c : Int) : Prop :=
  if op = 0 ∨ op = 1 then a = 0 ∧ b = 0 ∧ c = 0 else if op = 17 then b = 0 ∧ c = 0 else if op = 19 ∨ op = 20 then c = 0 else
  if op = 2 then k = 0 ∧ b = 0 ∧ c = 0 else if 3 ≤ op ∧ op ≤ 16 then k = 0 ∧ c = 0 else if op = 18 then k = 0 else k = 0 ∧ a = 0 ∧ b = 0 ∧ c = 0
instance (op k a b c : Int) : Decidable (UsesP op k a b c) := by unfold UsesP; infer_instance
def wd (t : List Nd) (p : Int) : Int := (t.getD p.toNat znd).f1
def WordP (w a : Int) : Prop := 1 ≤ w ∧ w ≤ 8 ∧ 0 ≤ a ∧ a < ((2 ^ w.toNat : Nat) : Int)
instance (w a : Int) : Decidable (WordP w a) := by unfold WordP; infer_instance
/-- What a node's kind asks, the parts being places ahead. -/
def KindP (op w k b : Int) (x y z : Int) : Prop :=
  if op = 0 then WordP w k else if op = 1 then 0 ≤ k ∧ k ≤ 7 else if op = 2 then x = w else if 3 ≤ op ∧ op ≤ 12 then x = w ∧ y = w else
  if 13 ≤ op ∧ op ≤ 15 then x = y ∧ w = 1 else if op = 16 then wrap64 (x + y) = w else if op = 17 then 0 ≤ k ∧ k ≤ wrap64 (x - w) else
  if op = 18 then x = 1 ∧ y = w ∧ z = w else (0 ≤ k ∧ k ≤ 7) ∧ (1 ≤ b ∧ b ≤ 8) ∧ x = 1 ∧ w = 1
instance (op w k b x y z : Int) : Decidable (KindP op w k b x y z) := by unfold KindP; infer_instance
def RightP (t : List Nd) (n : Nd) : Prop :=
  (1 ≤ n.f1 ∧ n.f1 ≤ 8) ∧ (0 ≤ n.f0 ∧ n.f0 ≤ 20) ∧ UsesP n.f0 n.f2 n.f3 n.f4 n.f5 ∧ (∀ p ∈ parts n, 0 ≤ p ∧ p < (t.length : Int)) ∧ KindP n.f0 n.f1 n.f2 n.f4 (wd t n.f3) (wd t n.f4) (wd t n.f5)
instance (t : List Nd) (n : Nd) : Decidable (RightP t n) := by unfold RightP; infer_instance
def TermP (t : List Nd) : Prop := 1 ≤ t.length ∧ t.length ≤ 80 ∧ ∀ i (h : i < t.length), RightP (t.take i) (t[i]'h)
end Go.Proofs.Ytlgjogfcpgfbnaa.KM
