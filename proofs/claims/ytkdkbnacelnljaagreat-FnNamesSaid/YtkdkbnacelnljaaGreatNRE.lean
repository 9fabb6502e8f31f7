/- The other operations in the abstract memory, and a region of them. Conditions: those that a theorem names. -/
import Derived.Test.YtkdkbnacelnljaaGreatNRD
import Derived.Maps.Own
import Derived.Maps.Views
set_option linter.unusedVariables false
set_option linter.unusedSimpArgs false
namespace Go.Proofs.YtkdkbnacelnljaaGreat.RE
open Go Go.RowKit

def cmpB (op : BinOp) (x y : Int) : Option Bool := match op with
  | .eql => some (decide (x = y))
  | .neq => some (!decide (x = y))
  | .lss => some (decide (x < y))
  | .leq => some (decide (x ≤ y))
  | .gtr => some (decide (y < x))
  | .geq => some (decide (y ≤ x))
  | _ => none
def ariB (op : BinOp) (k : IntKind) (x y : Int) : Option Int := match op with
  | .add => some (k.wrap (x + y))
  | .sub => some (k.wrap (x - y))
  | .mul => some (k.wrap (x * y))
  | .and => some (k.wrap (BitVec.ofInt k.bits x &&& BitVec.ofInt k.bits y).toNat)
  | .or => some (k.wrap (BitVec.ofInt k.bits x ||| BitVec.ofInt k.bits y).toNat)
  | .xor => some (k.wrap (BitVec.ofInt k.bits x ^^^ BitVec.ofInt k.bits y).toNat)
  | _ => none
/-- Cells that a struct's == compares. -/
def eq1 : Ty → LV → LV → Option Bool
  | .int _, .sc (.int k a), .sc (.int j b) => if k = j then some (decide (a = b)) else none
  | .bool, .sc (.bool a), .sc (.bool b) => some (a == b)
  | .str, .sc (.string a), .sc (.string b) => some (decide (a = b))
  | _, _, _ => none
def eqC (E : Env) : List (TypeId × Nat) → List LV → List LV → Option Bool
  | [], [], [] => some true
  | (t, _) :: fs, x :: xs, y :: ys => match E.T t with
    | some u => match eq1 u.ty x y, eqC E fs xs ys with
      | some a, some b => some (a && b)
      | _, _ => none
    | none => none
  | _, _, _ => none
def rowOf (n : Nat) (z : List LV) : List LV := (List.replicate n z).flatten
def fillF (place : Nat → Option (Nat × Nat)) (tm : List AV) (cs : List LV) : List (Nat × Operand) → Option (List LV)
  | [] => some cs
  | (i, x) :: r => match place i, (rd tm x).cells with
    | some (off, size), some vs => if vs.length = size ∧ off + size ≤ cs.length then fillF place tm (spl cs off vs) r else none
    | _, _ => none
def plcF (E : Env) : List (TypeId × Nat) → Option (List (Nat × Nat))
  | [] => some []
  | (t, o) :: r => match E.T t, plcF E r with
    | some y, some l => some ((o, y.size) :: l)
    | _, _ => none
/-- The cells of a slice that is appended. -/
def srcF (ob : Obs) (sz : Nat) : AV → Option (Nat × List LV)
  | .l .nils => some (0, [])
  | .l (.dsl b n cs) => if cs.length = n * sz then some (n, cs.map (LV.ofD b)) else none
  | .l (.obj o g s off n) => match ob.getD o none with
    | some x => if x.g = g ∧ s = sz ∧ off + n * sz ≤ x.cs.length then some (n, (x.cs.drop off).take (n * sz)) else none
    | none => none
  | _ => none
def strOf (s : ByteArray) : List LV := s.data.toList.map fun b => LV.sc (.int .u8 b.toNat)
def bytesOf : List LV → Option (List UInt8)
  | [] => some []
  | .sc (.int .u8 n) :: r => (bytesOf r).map (UInt8.ofNat n.toNat :: ·)
  | _ => none

section
variable (E : Env) (K : St → Prop) (st : St) (d : Option Tmp)
def bslF (t : TypeId) (len : Nat) (ps : List (Nat × Operand)) : Prop := match E.T t with
  | some ⟨.sl e, _, _, _⟩ => match E.T e with
    | some y => match fillF (fun i => some (i * y.size, y.size)) st.tm (rowOf len (y.z.map (LV.ofD false))) ps with
      | some cs => (len * y.size ≤ 2 ^ 24 ∧ 0 < y.size) ∧ K ⟨putT st.tm d (.l (.obj st.ob.length 0 y.size 0 len)), st.ob ++ [some ⟨0, cs⟩]⟩
      | none => False
    | none => False
  | _ => False
def buildF (t : TypeId) (ps : List (Nat × Operand)) : Prop := match E.T t with
  | some ⟨.st fs, _, _, z⟩ => match plcF E fs with
    | some pl => match fillF (fun i => pl[i]?) st.tm (z.map (LV.ofD false)) ps with
      | some cs => fin K st d (.agg cs)
      | none => False
    | none => False
  | some ⟨.arr _ e, _, _, z⟩ => match E.T e with
    | some y => match fillF (fun i => some (i * y.size, y.size)) st.tm (z.map (LV.ofD false)) ps with
      | some cs => fin K st d (.agg cs)
      | none => False
    | none => False
  | _ => False
def nilF : AV → Prop
  | .l (.ptr o g off) => fin K st d (.l (.ptr o g off))
  | .l (.dptr b cs) => fin K st d (.l (.dptr b cs))
  | _ => False
def binF (op : BinOp) (t : TypeId) : AV → AV → Prop
  | .l (.sc (.int k x)), .l (.sc (.int j y)) => match op with
    | .shl => 0 ≤ y ∧ fin K st d (.l (.sc (.int k (k.wrap (x * 2 ^ (min y.toNat k.bits))))))
    | .shr => 0 ≤ y ∧ fin K st d (.l (.sc (.int k (x.fdiv (2 ^ (min y.toNat k.bits))))))
    | .quo => (k = j ∧ y ≠ 0) ∧ fin K st d (.l (.sc (.int k (k.wrap (x.tdiv y)))))
    | .rem => (k = j ∧ y ≠ 0) ∧ fin K st d (.l (.sc (.int k (x.tmod y))))
    | _ => match cmpB op x y, ariB op k x y with
      | some b, _ => k = j ∧ fin K st d (.l (.sc (.bool b)))
      | none, some n => k = j ∧ fin K st d (.l (.sc (.int k n)))
      | none, none => False
  | .l (.sc (.bool x)), .l (.sc (.bool y)) => match E.T t, op with
    | some ⟨.bool, _, _, _⟩, .eql => fin K st d (.l (.sc (.bool (x == y))))
    | some ⟨.bool, _, _, _⟩, .neq => fin K st d (.l (.sc (.bool (!(x == y)))))
    | _, _ => False
  | .l (.sc (.string x)), .l (.sc (.string y)) => match op with
    | .add => (((x.size + y.size : Nat) : Int) ≤ 9223372036854775807) ∧ fin K st d (.l (.sc (.string (x ++ y))))
    | .eql => fin K st d (.l (.sc (.bool (decide (x = y)))))
    | .neq => fin K st d (.l (.sc (.bool (!decide (x = y)))))
    | _ => False
  | .agg xs, .agg ys => match E.T t with
    | some ⟨.st fs, _, _, _⟩ => match eqC E fs xs ys, op with
      | some b, .eql => E.eqo t = true ∧ fin K st d (.l (.sc (.bool b)))
      | some b, .neq => E.eqo t = true ∧ fin K st d (.l (.sc (.bool !b)))
      | _, _ => False
    | _ => False
  | _, _ => False
def unF (op : UnOp) : AV → Prop
  | .l (.sc (.bool b)) => match op with
    | .not => fin K st d (.l (.sc (.bool !b)))
    | _ => False
  | .l (.sc (.int k n)) => match op with
    | .neg => fin K st d (.l (.sc (.int k (k.wrap (0 - n)))))
    | _ => False
  | _ => False
def convF (s t : TypeId) : AV → Prop
  | .l (.sc (.int _ n)) => match E.T s, E.T t with
    | some ⟨.int _, _, _, _⟩, some ⟨.int k, _, _, _⟩ => fin K st d (.l (.sc (.int k (k.wrap n))))
    | _, _ => False
  | .l (.sc (.string x)) => match E.T s, E.T t with
    | some ⟨.str, _, _, _⟩, some ⟨.sl e, _, _, _⟩ => match E.T e with
      | some ⟨.int .u8, 1, _, _⟩ => x.size ≤ maxLen ∧ K ⟨putT st.tm d (.l (.obj st.ob.length 0 1 0 x.size)), st.ob ++ [some ⟨0, strOf x⟩]⟩
      | _ => False
    | some ⟨.str, _, _, _⟩, some ⟨.str, _, _, _⟩ => fin K st d (.l (.sc (.string x)))
    | _, _ => False
  | x => match E.T s, E.T t, srcF st.ob 1 x with
    | some ⟨.sl e, _, _, _⟩, some ⟨.str, _, _, _⟩, some (n, cs) => match E.T e, bytesOf cs with
      | some ⟨.int .u8, 1, _, _⟩, some bs => fin K st d (.l (.sc (.string ⟨bs.toArray⟩)))
      | _, _ => False
    | _, _, _ => False
def mkfF (fn : Fn) (first caps : List AV) : Prop := match fn, first, caps.mapM (fun x => match x with | .l (.ptr o g off) => some (o, g, off) | _ => none) with
  | .func f, [], some cs => fin K st d (.l (.clo f cs))
  | _, _, _ => False
def mksF (t : TypeId) : AV → AV → Prop
  | .l (.sc (.int _ n)), .l (.sc (.int _ c)) => match E.T t with
    | some ⟨.sl e, _, _, _⟩ => match E.T e with
      | some y => (0 ≤ n ∧ n = c ∧ (y.bytes : Int) * n ≤ 140737488355328 ∧ n ≤ 9223372036854775807 ∧ 0 < y.size) ∧ K ⟨putT st.tm d (.l (.obj st.ob.length 0 y.size 0 n.toNat)), st.ob ++ [some ⟨0, rowOf n.toNat (y.z.map (LV.ofD false))⟩]⟩
      | none => False
    | _ => False
  | _, _ => False
/-- The bounds of a slice expression. -/
def bndF (n : Nat) (lo hi : Option AV) : Option (Int × Int) := match lo, hi with
  | none, none => some (0, n)
  | some (.l (.sc (.int _ a))), none => some (a, n)
  | none, some (.l (.sc (.int _ b))) => some (0, b)
  | some (.l (.sc (.int _ a))), some (.l (.sc (.int _ b))) => some (a, b)
  | _, _ => none
def slF (t : TypeId) (x : AV) (lo hi : Option AV) : Prop := match x with
  | .l (.sc (.string s)) => match E.T t, bndF s.size lo hi with
    | some ⟨.str, _, _, _⟩, some (a, b) => (0 ≤ a ∧ a ≤ b ∧ b ≤ s.size) ∧ fin K st d (.l (.sc (.string (s.extract a.toNat b.toNat))))
    | _, _ => False
  | .l .nils => match E.T t, bndF 0 lo hi with
    | some ⟨.sl e, _, _, _⟩, some (a, b) => match E.T e with
      | some _ => (a = 0 ∧ b = 0) ∧ fin K st d (.l .nils)
      | none => False
    | _, _ => False
  | .l (.dsl bo len cs) => match E.T t, bndF len lo hi with
    | some ⟨.sl e, _, _, _⟩, some (a, b) => match E.T e with
      | some y => (0 ≤ a ∧ a ≤ b ∧ b ≤ len) ∧ fin K st d (.l (.dsl bo (b - a).toNat ((cs.drop (a.toNat * y.size)).take ((b - a).toNat * y.size))))
      | none => False
    | _, _ => False
  | .l (.obj o g sz off len) => match E.T t, bndF len lo hi with
    | some ⟨.sl e, _, _, _⟩, some (a, b) => match E.T e with
      | some y => (0 ≤ a ∧ a ≤ b ∧ b ≤ len ∧ y.size = sz) ∧ fin K st d (.l (.obj o g sz (off + a.toNat * sz) (b - a).toNat))
      | none => False
    | _, _ => False
  | .l (.ptr o g off) => match E.T t with
    | some ⟨.arr n e, _, _, _⟩ => match E.T e, bndF n lo hi, st.ob.getD o none with
      | some y, some (a, b), some q => (0 ≤ a ∧ a ≤ b ∧ b ≤ n ∧ q.g = g ∧ off + n * y.size ≤ q.cs.length ∧ n ≤ maxLen) ∧ fin K st d (.l (.obj o g y.size (off + a.toNat * y.size) (b - a).toNat))
      | _, _, _ => False
    | _ => False
  | _ => False
def fF (t : TypeId) (f : Nat) : AV → Prop
  | .agg cs => match E.T t with
    | some ⟨.st fs, _, _, _⟩ => match fs[f]? with
      | some (ft, fo) => match E.T ft with
        | some y => partF K st d y.agg y.size cs fo
        | none => False
      | none => False
    | _ => False
  | _ => False
def ixF (t : TypeId) : AV → AV → Prop
  | .l (.sc (.string s)), .l (.sc (.int _ i)) => match E.T t with
    | some ⟨.str, _, _, _⟩ => (0 ≤ i ∧ i < s.size) ∧ fin K st d (.l (.sc (.int .u8 (s.data.toList.getD i.toNat 0).toNat)))
    | _ => False
  | .agg cs, .l (.sc (.int _ i)) => match E.T t with
    | some ⟨.arr n e, _, _, _⟩ => match E.T e with
      | some y => (0 ≤ i ∧ i < (n : Int)) ∧ partF K st d y.agg y.size cs (i.toNat * y.size)
      | none => False
    | _ => False
  | _, _ => False
def exF (i : Nat) : AV → Prop
  | .tup ts => match ts[i]? with
    | some x => fin K st d x.up
    | none => False
  | _ => False
/-- append: onto nil, or onto an own row. -/
def appF (t : TypeId) (s x : AV) : Prop := match E.T t with
  | some ⟨.sl e, _, _, _⟩ => match E.T e with
    | some y => match s, srcF st.ob y.size x with
      | .l .nils, some (m, xs) => (m * y.bytes ≤ 140737488355328 ∧ m ≤ maxLen ∧ 0 < y.size) ∧ K ⟨putT st.tm d (.l (.obj st.ob.length 0 y.size 0 m)), st.ob ++ [some ⟨0, xs⟩]⟩
      | .l (.obj o g sz off n), some (m, xs) => match st.ob.getD o none with
        | some q => (q.g = g ∧ sz = y.size ∧ off + n * sz ≤ q.cs.length ∧ (n + m) * y.bytes ≤ 140737488355328 ∧ n + m ≤ maxLen ∧ 0 < sz) ∧
            K ⟨putT st.tm d (.l (.obj o (g + 1) sz 0 (n + m))), st.ob.set o (some ⟨g + 1, (q.cs.drop off).take (n * sz) ++ xs⟩)⟩
        | none => False
      | _, _ => False
    | none => False
  | _ => False
def mmF (mx : Bool) : AV → AV → Prop
  | .l (.sc (.int k x)), .l (.sc (.int _ y)) => fin K st d (.l (.sc (.int k (if mx then (if y > x then y else x) else (if y < x then y else x)))))
  | _, _ => False
def cpyF (t : TypeId) (x y : AV) : Prop := match E.T t, x with
  | some ⟨.sl e, _, _, _⟩, .l (.obj o g sz off n) => match E.T e, srcF st.ob 1 y, st.ob.getD o none with
    | some ⟨_, 1, _, _⟩, some (m, xs), some q => (q.g = g ∧ sz = 1 ∧ off + n ≤ q.cs.length) ∧
        K ⟨putT st.tm d (.l (.sc (.int .i64 (Nat.min m n)))), st.ob.set o (some ⟨g, spl q.cs off (xs.take (Nat.min m n))⟩)⟩
    | _, _, _ => False
  | _, _ => False
end
/-- What a map from strings to numbers holds: for each string its number (0: none), at most n entries. -/
def MapS (P : Program) (t : TypeId) (es : Array MapEntry) (clock n : Nat) (f : ByteArray → Int) : Prop :=
  ∃ k e, P.underlying t = some (.map k e) ∧ P.underlying k = some .string ∧ P.underlying e = some (.int .i64) ∧ (∀ w, (zeroValue e).run P w = .ok (.int .i64 0) w) ∧
    ∃ D : DataW Unit, (∀ (w : World) b, w.heap[b]? = some (.map es clock) → w.ownsMap P k (plainElem P e) b n D) ∧ Go.Maps.IsMap D ∧ ∀ s : ByteArray, s.size ≤ maxLen → D.atKey (.string s.data.toList) (.lit (.int .i64 0)) = .lit (.int .i64 (f s))
section
variable (E : Env) (K : St → Prop) (st : St) (d : Option Tmp)
def mkmF : Prop := K ⟨putT st.tm d (.l (.mp st.ob.length 0)), st.ob ++ [some ⟨0, [.mpc #[] 0]⟩]⟩
def lookF (t : TypeId) : AV → AV → Prop
  | .l (.mp o g), .l (.sc (.string s)) => match st.ob.getD o none with
    | some ⟨g', [.mpc es clock]⟩ => (g' = g ∧ s.size ≤ maxLen) ∧ ∃ n f, MapS E.P t es clock n f ∧ fin K st d (.l (.sc (.int .i64 (f s))))
    | _ => False
  | _, _ => False
def mupF (t : TypeId) : AV → AV → AV → Prop
  | .l (.mp o g), .l (.sc (.string s)), .l (.sc (.int .i64 v)) => match st.ob.getD o none with
    | some ⟨g', [.mpc es clock]⟩ => (g' = g ∧ s.size ≤ maxLen) ∧ ∃ n f, MapS E.P t es clock n f ∧ (n < maxLen ∧ (Lit.int .i64 v).wf = true) ∧ ∀ es' clock', MapS E.P t es' clock' (n + 1) (fun x => if x = s then v else f x) → K ⟨putT st.tm d (.l .dead), st.ob.set o (some ⟨g', [.mpc es' clock']⟩)⟩
    | _ => False
  | _, _, _ => False
end
/-- A call: what follows is asked for each answer. A name that the walk does not open. -/
def CallK (P : Program) (f : FuncId) (args : List AV) (st : St) (d : Option Tmp) (K : St → Prop) : Prop :=
  CallsA P f args st.ob (fun r ob' => K ⟨putT st.tm d r, ob'⟩)
def callF (E : Env) (K : St → Prop) (st : St) (d : Option Tmp) (f : AV) (args : List AV) : Prop := match f with
  | .l (.clo f caps) => E.go f = true ∧ CallK E.P f (args ++ caps.map fun c => .l (.ptr c.1 c.2.1 c.2.2)) st d K
  | _ => False
def opF (E : Env) (o : Oper) (K : St → Prop) (st : St) : Prop := match o.op with
  | .move x => fin K st o.dst (rd st.tm x)
  | .assign x => fin K st o.dst (rd st.tm x)
  | .pick c x y => pickF K st o.dst (rd st.tm c) (rd st.tm x) (rd st.tm y)
  | .alloc e => allocF E K st o.dst e
  | .box _ x => boxF K st o.dst (rd st.tm x)
  | .build t ps => buildF E K st o.dst t ps.toList
  | .buildSlice t n ps => bslF E K st o.dst t n ps.toList
  | .load t x => loadF E K st o.dst t (rd st.tm x)
  | .store t x v => storeF E K st o.dst t (rd st.tm x) (rd st.tm v)
  | .nilCheck x => nilF K st o.dst (rd st.tm x)
  | .binOp op t x y _ => binF E K st o.dst op t (rd st.tm x) (rd st.tm y)
  | .unOp op _ x => unF K st o.dst op (rd st.tm x)
  | .convert s t x => convF E K st o.dst s t (rd st.tm x)
  | .makeFunc fn first caps => mkfF K st o.dst fn (first.toList.map (rd st.tm)) (caps.toList.map (rd st.tm))
  | .makeSlice t l c => mksF E K st o.dst t (rd st.tm l) (rd st.tm c)
  | .slice t x lo hi none => slF E K st o.dst t (rd st.tm x) (lo.map (rd st.tm)) (hi.map (rd st.tm))
  | .fieldAddr t x f => faF E K st o.dst t f (rd st.tm x)
  | .field t x f => fF E K st o.dst t f (rd st.tm x)
  | .indexAddr t x i => iaF E K st o.dst t (rd st.tm x) (rd st.tm i)
  | .index t x i => ixF E K st o.dst t (rd st.tm x) (rd st.tm i)
  | .extract x i => exF K st o.dst i (rd st.tm x)
  | .makeMap _ none => mkmF K st o.dst
  | .lookup t m x false => lookF E K st o.dst t (rd st.tm m) (rd st.tm x)
  | .mapUpdate t m x v => mupF E K st o.dst t (rd st.tm m) (rd st.tm x) (rd st.tm v)
  | .call { callee := .value f, args := args, argTypes := _ } => callF E K st o.dst (rd st.tm f) (args.toList.map (rd st.tm))
  | .call { callee := .builtin .len, args := ⟨[x]⟩, argTypes := ⟨[t]⟩ } => lenF E K st o.dst t (rd st.tm x)
  | .call { callee := .builtin .append, args := ⟨[s, x]⟩, argTypes := ⟨[t, u]⟩ } => if t = u then appF E K st o.dst t (rd st.tm s) (rd st.tm x) else False
  | .call { callee := .builtin .max, args := ⟨[x, y]⟩, argTypes := _ } => mmF K st o.dst true (rd st.tm x) (rd st.tm y)
  | .call { callee := .builtin .min, args := ⟨[x, y]⟩, argTypes := _ } => mmF K st o.dst false (rd st.tm x) (rd st.tm y)
  | .call { callee := .builtin .copy, args := ⟨[x, y]⟩, argTypes := ⟨[t, _]⟩ } => cpyF E K st o.dst t (rd st.tm x) (rd st.tm y)
  | _ => False
end Go.Proofs.YtkdkbnacelnljaaGreat.RE
