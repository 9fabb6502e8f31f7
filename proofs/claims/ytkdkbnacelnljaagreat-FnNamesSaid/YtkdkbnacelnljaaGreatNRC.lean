/- The operations in the abstract memory. Conditions: those that a theorem names. -/
import Derived.Test.YtkdkbnacelnljaaGreatNRB
set_option linter.unusedVariables false
set_option linter.unusedSimpArgs false
namespace Go.Proofs.YtkdkbnacelnljaaGreat.RE
open Go

inductive Ty where
  | bool
  | int (k : IntKind)
  | str
  | sl (e : TypeId)
  | arr (n : Nat) (e : TypeId)
  | st (fs : List (TypeId × Nat))
  | other
structure TyI where
  ty : Ty
  size : Nat
  bytes : Nat
  z : List DV
def dvIs : Value → DV → Bool
  | .int k n, .sc (.int j m) => k == j && n == m
  | .bool a, .sc (.bool b) => a == b
  | .string a, .sc (.string b) => a.data.toList == b.data.toList
  | .slice none 0 0, .nils => true
  | .pointer none, .sc (.pointer none) => true
  | .nilFunc, .sc .nilFunc => true
  | .map none, .sc (.map none) => true
  | _, _ => false
def dvsAre : List Value → List DV → Bool
  | [], [] => true
  | v :: vs, d :: ds => dvIs v d && dvsAre vs ds
  | _, _ => false
def tyIs : TypeDesc → Ty → Bool
  | .bool, .bool => true
  | .int k, .int j => k == j
  | .string, .str => true
  | .slice e, .sl f => e == f
  | .array n e, .arr m f => n == m && e == f
  | .struct fs, .st gs => fs.toList.map (fun f => (f.type, f.offset)) == gs
  | .pointer _, .other => true
  | .func .., .other => true
  | .map .., .other => true
  | .named .., .other => false
  | _, _ => false
def tyChk (P : Program) (t : TypeId) (y : TyI) : Bool :=
  (match P.underlying t with | some d => tyIs d y.ty | none => false) &&
  (match P.info? t with
   | some i => i.size == y.size && i.bytes == y.bytes && (match i.zero with | some v => dvsAre v.cells.toList y.z && v.cells.size == y.size | none => false)
   | none => false)
def goB (P : Program) (f : FuncId) : Bool :=
  match P.funcs[f]? with
  | some fn => fn.body.isSome && !(fn.name == "runtime.NumGoroutine")
  | none => false
/-- Structs that == compares cell by cell: every field one cell of a number, a bool or a string. -/
def eqChk (P : Program) (t : TypeId) : Bool :=
  !P.stoodInHeld t && !P.eqGuardType P.depth t && match P.underlying t with
  | some (.struct fs) => fs.toList.zipIdx.all (fun p => p.1.offset == p.2 && p.1.name != "_" && (match P.underlying p.1.type with | some (.int _) => true | some .bool => true | some .string => true | _ => false) && ((P.info? p.1.type).map (·.size)) == some 1) && ((P.info? t).map (·.size)) == some fs.size
  | _ => false
structure Env where
  P : Program
  T : TypeId → Option TyI
  go : FuncId → Bool
  ok : ∀ t y, T t = some y → tyChk P t y = true
  gok : ∀ f, go f = true → goB P f = true
  mix : P.follows .mixedOrders = true
  eqo : TypeId → Bool
  eqok : ∀ t, eqo t = true → eqChk P t = true
def TyI.agg (y : TyI) : Bool := match y.ty with
  | .arr .. | .st _ => true
  | _ => false

def putT (tm : List AV) (d : Option Tmp) (v : AV) : List AV := match d with
  | some t => tm.set t v
  | none => tm
/-- What follows, an operation having answered. -/
def fin (K : St → Prop) (st : St) (d : Option Tmp) (v : AV) : Prop := K ⟨putT st.tm d v, st.ob⟩
def LV.cell : LV → Bool
  | .dead => false
  | .sc v => v.oneCell'
  | _ => true
def AV.cells : AV → Option (List LV)
  | .l x => if x.cell then some [x] else none
  | .agg cs => some cs
  | .tup _ => none

section
variable (E : Env) (K : St → Prop) (st : St) (d : Option Tmp)
def pickF : AV → AV → AV → Prop
  | .l (.sc (.bool c)), x, y => (c = true → fin K st d x) ∧ (c = false → fin K st d y)
  | _, _, _ => False
def newF (cs : List LV) : Prop := K ⟨putT st.tm d (.l (.ptr st.ob.length 0 0)), st.ob ++ [some ⟨0, cs⟩]⟩
def allocF (e : TypeId) : Prop := match E.T e with
  | some y => newF K st d (y.z.map (LV.ofD false))
  | none => False
def boxF (v : AV) : Prop := match v.cells with
  | some cs => newF K st d cs
  | none => False
def partF (agg : Bool) (size : Nat) (cs : List LV) (off : Nat) : Prop :=
  if agg then off + size ≤ cs.length ∧ fin K st d (.agg ((cs.drop off).take size)) else off < cs.length ∧ fin K st d (.l (cs.getD off .dead))
def dpartF (agg : Bool) (size : Nat) (b : Bool) (cs : List DV) : Prop :=
  if agg then size ≤ cs.length ∧ fin K st d (.agg ((cs.take size).map (LV.ofD b))) else 0 < cs.length ∧ fin K st d (.l (LV.ofD b (cs.getD 0 .nils)))
def loadF (t : TypeId) : AV → Prop
  | .l (.ptr o g off) => match E.T t, st.ob.getD o none with
    | some y, some x => x.g = g ∧ partF K st d y.agg y.size x.cs off
    | _, _ => False
  | .l (.dptr b cs) => match E.T t with
    | some y => dpartF K st d y.agg y.size b cs
    | none => False
  | _ => False
def spl (cs : List LV) (off : Nat) (vs : List LV) : List LV := cs.take off ++ vs ++ cs.drop (off + vs.length)
def storeF (t : TypeId) : AV → AV → Prop
  | .l (.ptr o g off), v => match E.T t, st.ob.getD o none, v.cells with
    | some y, some x, some vs => x.g = g ∧ vs.length = y.size ∧ off + vs.length ≤ x.cs.length ∧ K ⟨putT st.tm d (.l .dead), st.ob.set o (some ⟨x.g, spl x.cs off vs⟩)⟩
    | _, _, _ => False
  | _, _ => False
def faF (t : TypeId) (f : Nat) (x : AV) : Prop := match E.T t with
  | some ⟨.st fs, _, _, _⟩ => match fs[f]? with
    | some (ft, fo) => match E.T ft with
      | some y => 0 < y.size ∧ (match x with
        | .l (.ptr o g off) => fin K st d (.l (.ptr o g (off + fo)))
        | .l (.dptr b cs) => fo < cs.length ∧ fin K st d (.l (.dptr b (cs.drop fo)))
        | _ => False)
      | none => False
    | none => False
  | _ => False
def iaF (t : TypeId) : AV → AV → Prop
  | .l (.dsl b len cs), .l (.sc (.int _ i)) => match E.T t with
    | some ⟨.sl e, _, _, _⟩ => match E.T e with
      | some y => (0 ≤ i ∧ i < (len : Int)) ∧ i.toNat * y.size < cs.length ∧ fin K st d (.l (.dptr b (cs.drop (i.toNat * y.size))))
      | none => False
    | _ => False
  | .l (.obj o g sz off len), .l (.sc (.int _ i)) => match E.T t with
    | some ⟨.sl e, _, _, _⟩ => match E.T e with
      | some y => (0 ≤ i ∧ i < (len : Int)) ∧ y.size = sz ∧ 0 < sz ∧ fin K st d (.l (.ptr o g (off + i.toNat * sz)))
      | none => False
    | _ => False
  | .l (.ptr o g off), .l (.sc (.int _ i)) => match E.T t with
    | some ⟨.arr n e, _, _, _⟩ => match E.T e with
      | some y => (0 ≤ i ∧ i < (n : Int)) ∧ fin K st d (.l (.ptr o g (off + i.toNat * y.size)))
      | none => False
    | _ => False
  | _, _ => False
def lenF (t : TypeId) (x : AV) : Prop := match E.T t, x with
  | some ⟨.sl _, _, _, _⟩, .l .nils => fin K st d (.l (.sc (.int .i64 0)))
  | some ⟨.sl _, _, _, _⟩, .l (.dsl _ n _) => fin K st d (.l (.sc (.int .i64 n)))
  | some ⟨.sl _, _, _, _⟩, .l (.obj _ _ _ _ n) => fin K st d (.l (.sc (.int .i64 n)))
  | some ⟨.str, _, _, _⟩, .l (.sc (.string s)) => fin K st d (.l (.sc (.int .i64 s.size)))
  | _, _ => False
end

/-- The operation takes every state that fits to one of K. -/
def OpB (P : Program) (B : Base) (o : Oper) (K : St → Prop) (st : St) : Prop :=
  ∀ a w Q, Rel B st a w → o.wp P a w (fun a' w' => ∃ st', K st' ∧ Rel B st' a' w') Q

section
variable {P : Program} {B : Base} {o : Oper} {K : St → Prop} {st : St}
theorem OpB.val {r : AV} (hK : fin K st o.dst r) (h : ∀ (a : Act) (w : World) (cx : Cx), MemOk w cx st.ob → (∀ i, VA w cx.ρ (RO w cx st.ob) (st.tm.getD i (.l .dead)) (a.tmps.getD i undef)) → ∃ v, (execOp a.eval o).run P w = .ok (.value v) w ∧ VA w cx.ρ (RO w cx st.ob) r v) : OpB P B o K st := by
  rintro a w Q ⟨cx, hB, hM, hd, hl, ht⟩
  obtain ⟨v, hr, hv⟩ := h a w cx hM ht
  unfold Oper.wp
  rw [hr]
  exact ⟨_, hK, Rel.same hB hM hd hl ht hv⟩
theorem OpB.new {r : AV} {ob' : Obs} (hK : K ⟨putT st.tm o.dst r, ob'⟩) (h : ∀ (a : Act) (w : World) (cx : Cx), MemOk w cx st.ob → (∀ i, VA w cx.ρ (RO w cx st.ob) (st.tm.getD i (.l .dead)) (a.tmps.getD i undef)) →
    ∃ v w' cx', (execOp a.eval o).run P w = .ok (.value v) w' ∧ Ext w cx st.ob w' cx' ob' ∧ MemOk w' cx' ob' ∧ VA w' cx'.ρ (RO w' cx' ob') r v) : OpB P B o K st := by
  rintro a w Q ⟨cx, hB, hM, hd, hl, ht⟩
  obtain ⟨v, w', cx', hr, hE, hM', hv⟩ := h a w cx hM ht
  unfold Oper.wp
  rw [hr]
  exact ⟨_, hK, Rel.step hB hM hd hl ht hE hM' hv⟩
theorem OpB.act {ob' : Obs} (hK : K ⟨putT st.tm o.dst (.l .dead), ob'⟩) (h : ∀ (a : Act) (w : World) (cx : Cx), MemOk w cx st.ob → (∀ i, VA w cx.ρ (RO w cx st.ob) (st.tm.getD i (.l .dead)) (a.tmps.getD i undef)) →
    ∃ w' cx', (execOp a.eval o).run P w = .ok .skip w' ∧ Ext w cx st.ob w' cx' ob' ∧ MemOk w' cx' ob') : OpB P B o K st := by
  rintro a w Q ⟨cx, hB, hM, hd, hl, ht⟩
  obtain ⟨w', cx', hr, hE, hM'⟩ := h a w cx hM ht
  unfold Oper.wp
  rw [hr]
  exact ⟨_, hK, Rel.step hB hM hd hl ht hE hM' trivial⟩
end
end Go.Proofs.YtkdkbnacelnljaaGreat.RE
