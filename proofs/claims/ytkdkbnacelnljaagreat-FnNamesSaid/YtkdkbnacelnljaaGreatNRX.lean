/- Short rules for walks. Conditions: those that a theorem names. -/
import Derived.Test.YtkdkbnacelnljaaGreatNRW
set_option linter.unusedVariables false
set_option linter.unusedSimpArgs false
namespace Go.Proofs.YtkdkbnacelnljaaGreat.RE
open Go Go.RowKit
theorem andS {p q : Prop} (h : p) : (p ∧ q) = q := by simp [h]
theorem up' {x : Nat} : ((x : Int) + 1) = ((x + 1 : Nat) : Int) := rfl
theorem pushI' (l : List Int) (v : Int) : l.map ci ++ [.sc (.int .i64 v)] = (l ++ [v]).map ci := by simp
theorem pushB' (l : List Bool) (v : Bool) : l.map cb ++ [.sc (.bool v)] = (l ++ [v]).map cb := by simp
theorem pushL' (l : List Nd) (a b c d e f : Int) : lN l ++ [LV.sc (.int .i64 a), .sc (.int .i64 b), .sc (.int .i64 c), .sc (.int .i64 d), .sc (.int .i64 e), .sc (.int .i64 f)] = lN (l ++ [⟨a, b, c, d, e, f⟩]) := by rw [lN_app]; rfl
theorem atN0 {t : List Nd} (b : Bool) (h : 0 < t.length) : ((encN t).take 6).map (LV.ofD b) = nl (t.getD 0 default) := by
  have := atN (i := 0) b h
  simpa using this
/-! ### States by changes -/
inductive Chg where
  | k
  | d
  | d5
  | v (a : AV)
def updT (f : Nat → AV) : Nat → List Chg → List AV → List AV
  | _, [], tm => tm
  | _, _ :: _, [] => []
  | i, .k :: cs, x :: xs => x :: updT f (i + 1) cs xs
  | i, .d :: cs, _ :: xs => f i :: updT f (i + 1) cs xs
  | i, .d5 :: cs, _ :: _ :: _ :: _ :: _ :: xs => f i :: f (i + 1) :: f (i + 2) :: f (i + 3) :: f (i + 4) :: updT f (i + 5) cs xs
  | _, .d5 :: _, _ => []
  | i, .v a :: cs, _ :: xs => a :: updT f (i + 1) cs xs
section
variable {f : Nat → AV} {i : Nat} {x a : AV} {xs tm : List AV} {cs : List Chg}
theorem updT_nil : updT f i [] tm = tm := rfl
theorem updT_k : updT f i (.k :: cs) (x :: xs) = x :: updT f (i + 1) cs xs := rfl
theorem updT_d : updT f i (.d :: cs) (x :: xs) = f i :: updT f (i + 1) cs xs := rfl
theorem updT_d5 {x1 x2 x3 x4 x5 : AV} : updT f i (.d5 :: cs) (x1 :: x2 :: x3 :: x4 :: x5 :: xs) = f i :: f (i + 1) :: f (i + 2) :: f (i + 3) :: f (i + 4) :: updT f (i + 5) cs xs := rfl
theorem updT_v : updT f i (.v a :: cs) (x :: xs) = a :: updT f (i + 1) cs xs := rfl
end
section
variable {P : Program} {B : Base} {Q : Exit → St → Prop} {st : St}
theorem Wp.loopU {α : Type} {b : Code} (c : α → List Chg) (R : α → Obs) (I : α → Prop) (μ : α → Nat) (x0 : α) (h0 : I x0) (hs : ∃ f, st = ⟨updT f 0 (c x0) st.tm, R x0⟩)
    (step : ∀ x f (K : St → Prop), I x → (∀ y s', I y → μ y < μ x → (∃ f, s' = ⟨updT f 0 (c y) st.tm, R y⟩) → K s') → Wp P B b (thn K Q) ⟨updT f 0 (c x) st.tm, R x⟩) : Wp P B (.loop b) Q st := by
  refine Wp.loop (fun x s => I x ∧ ∃ f, s = ⟨updT f 0 (c x) st.tm, R x⟩) μ x0 ⟨h0, hs⟩ ?_
  rintro x s ⟨hI, f, rfl⟩
  exact step x f _ hI fun y s' h1 h2 h3 => ⟨y, ⟨h1, h3⟩, h2⟩
theorem Wp.loopU0 {α : Type} {b : Code} (c : α → List Chg) (I : α → Prop) (μ : α → Nat) (x0 : α) (h0 : I x0) (hs : ∃ f, st = ⟨updT f 0 (c x0) st.tm, st.ob⟩)
    (step : ∀ x f (K : St → Prop), I x → (∀ y s', I y → μ y < μ x → (∃ f, s' = ⟨updT f 0 (c y) st.tm, st.ob⟩) → K s') → Wp P B b (thn K Q) ⟨updT f 0 (c x) st.tm, st.ob⟩) : Wp P B (.loop b) Q st :=
  Wp.loopU c (fun _ => st.ob) I μ x0 h0 hs step
end
section
variable {B : Base} {Q : Exit → St → Prop} {st : St}
theorem Wp.seqU {α : Type} {x y : Code} (c : α → List Chg) (R : α → Obs) (I : α → Prop) (h1 : ∀ K : St → Prop, (∀ a s', I a → (∃ f, s' = ⟨updT f 0 (c a) st.tm, R a⟩) → K s') → Wp E.P B x (thn K Q) st)
    (h2 : ∀ a f, I a → Wp E.P B y Q ⟨updT f 0 (c a) st.tm, R a⟩) : Wp E.P B (.seq x y) Q st :=
  Wp.seqM (fun s => ∃ a, I a ∧ ∃ f, s = ⟨updT f 0 (c a) st.tm, R a⟩) (h1 _ fun a s' h3 h4 => ⟨a, h3, h4⟩) (by rintro s ⟨a, h3, f, rfl⟩; exact h2 a f h3)
theorem Wp.seqU0 {x y : Code} (c : List Chg) (h1 : ∀ K : St → Prop, (∀ s', (∃ f, s' = ⟨updT f 0 c st.tm, st.ob⟩) → K s') → Wp E.P B x (thn K Q) st)
    (h2 : ∀ f, Wp E.P B y Q ⟨updT f 0 c st.tm, st.ob⟩) : Wp E.P B (.seq x y) Q st :=
  Wp.seqM (fun s => ∃ f, s = ⟨updT f 0 c st.tm, st.ob⟩) (h1 _ fun s' h => h) (by rintro s ⟨f, rfl⟩; exact h2 f)
theorem Wp.condS {c : Operand} {x y : Code} {b : Bool} {p q : Prop} (h1 : p → Wp E.P B x Q st) (h2 : q → Wp E.P B y Q st) (hc : rd st.tm c = .l (.sc (.bool b)) := by rfl)
    (e1 : (b = true) = p := by first | (simp only [Bool.false_eq_true, Bool.true_eq_false, eq_self, decide_eq_true_eq, decide_eq_false_iff_not, Bool.and_eq_true, Bool.or_eq_true, Bool.or_eq_false_iff, Bool.not_eq_true', Bool.not_eq_false', Bool.not_eq_true, Bool.not_eq_false, Int.not_lt, Int.not_le]) <;> rfl | rfl) (e2 : (b = false) = q := by first | (simp only [Bool.false_eq_true, Bool.true_eq_false, eq_self, decide_eq_true_eq, decide_eq_false_iff_not, Bool.and_eq_true, Bool.or_eq_true, Bool.or_eq_false_iff, Bool.not_eq_true', Bool.not_eq_false', Bool.not_eq_true, Bool.not_eq_false, Int.not_lt, Int.not_le]) <;> rfl | rfl) : Wp E.P B (.cond c x y) Q st :=
  Wp.cond hc (fun h => h1 (e1.mp h)) (fun h => h2 (e2.mp h))
theorem retV {fn : Func} {x v : AV} (hx : x = v) (h : resA st.tm st.ob E fn.results.toList = some x := by rfl) (hf : v.flat = true := by rfl) : retQ E fn 0 (fun r ob => r = v ∧ ob = []) .ret st := by
  subst hx
  exact ⟨x, [], h, Nat.zero_le _, List.nodup_nil, by simp, AV.flat_ren hf, by simp [keepO]⟩
theorem retR {fn : Func} {o g sz n n' : Nat} {cs cs' : List LV} (hn : n = n') (hcs : cs = cs') (hf : cs.all LV.flat = true) (h : resA st.tm st.ob E fn.results.toList = some (.l (.obj o g sz 0 n)) := by rfl) (ho : st.ob.getD o none = some ⟨g, cs⟩ := by rfl) :
    retQ E fn 0 (fun r ob => r = .l (.obj 0 0 sz 0 n') ∧ ob = [some ⟨0, cs'⟩]) .ret st := by
  subst hn; subst hcs
  exact ⟨_, [o], h, Nat.zero_le _, by simp, by simp, ret_row ho hf⟩
end

/-! ### Calls: what is lent is found -/
abbrev Lend := List (Nat × Nat × List DV)
inductive CellsL (ob : Obs) (L : Lend) (M0 : Lend) : List LV → List LV → Lend → Prop
  | nil : CellsL ob L M0 [] [] M0
  | same {x : LV} {cs cs' : List LV} {M : Lend} : LV.toC [] L x = x → CellsL ob L M0 cs cs' M → CellsL ob L M0 (x :: cs) (x :: cs') M
  | row {o g sz off n : Nat} {c : List LV} {ds ds' : List DV} {cs cs' : List LV} {M : Lend} : ob.getD o none = some ⟨g, c⟩ → c = ds.map (LV.ofD false) → (ds.drop off).take (n * sz) = ds' → lk L o g = some ds → CellsL ob L M0 cs cs' M →
      CellsL ob L M0 (.obj o g sz off n :: cs) (.dsl true n ds' :: cs') ((o, g, ds) :: M)
inductive ArgsL (ob : Obs) (L : Lend) : List AV → List AV → Lend → Prop
  | nil : ArgsL ob L [] [] []
  | same {v : AV} {al al' : List AV} {M : Lend} : AV.toC [] L v = v → ArgsL ob L al al' M → ArgsL ob L (v :: al) (v :: al') M
  | row {o g sz n : Nat} {cs : List LV} {ds : List DV} {al al' : List AV} {M : Lend} : ob.getD o none = some ⟨g, cs⟩ → cs = ds.map (LV.ofD false) → n * sz = ds.length → lk L o g = some ds → ArgsL ob L al al' M →
      ArgsL ob L (.l (.obj o g sz 0 n) :: al) (.l (.dsl true n ds) :: al') ((o, g, ds) :: M)
  | agg {cs cs' : List LV} {al al' : List AV} {M0 M : Lend} : ArgsL ob L al al' M0 → CellsL ob L M0 cs cs' M → ArgsL ob L (.agg cs :: al) (.agg cs' :: al') M
theorem CellsL.lend {ob : Obs} {L M0 M : Lend} {cs cs' : List LV} (h0 : LendOk [] ob M0) (h : CellsL ob L M0 cs cs' M) : LendOk [] ob M := by
  induction h with
  | nil => exact h0
  | same _ _ ih => exact ih
  | row h1 h2 _ _ _ ih => exact LendOk.cons false _ h1 rfl h2 ih
theorem CellsL.map {ob : Obs} {L M0 M : Lend} {cs cs' : List LV} (h : CellsL ob L M0 cs cs' M) : cs.map (LV.toC [] L) = cs' := by
  induction h with
  | nil => rfl
  | same h _ ih => rw [List.map_cons, h, ih]
  | row h1 h2 h3 h4 _ ih =>
    rw [List.map_cons, ih]
    simp only [LV.toC, h4, h3]
def encB (l : List Bool) : List DV := l.map fun x => .sc (.bool x)
abbrev dB (l : List Bool) : AV := .l (.dsl true l.length (encB l))
theorem encB_len (l : List Bool) : (encB l).length = l.length := by simp [encB]
theorem lB_encB (l : List Bool) (b : Bool) : (encB l).map (LV.ofD b) = l.map cb := by
  simp only [encB, List.map_map]; rfl
theorem atDB {l : List Bool} {i : Nat} (h : i < l.length) : ((encB l).drop i).getD 0 .nils = .sc (.bool (l.getD i false)) := by
  rw [List.getD_eq_getElem?_getD, List.getElem?_drop, Nat.add_zero]
  simp [encB, List.getD_eq_getElem?_getD, h]
section
variable {ob : Obs} {L M : Lend} {al al' : List AV} {o g n : Nat}
theorem ArgsL.rowN {t : List Nd} (h : ob.getD o none = some ⟨g, lN t⟩) (hn : n = t.length) (hl : lk L o g = some (encN t)) (k : ArgsL ob L al al' M) : ArgsL ob L (.l (.obj o g 6 0 n) :: al) (dN t :: al') ((o, g, encN t) :: M) := by
  subst hn
  exact .row h (lN_encN t false).symm (encN_len t).symm hl k
theorem ArgsL.rowI {t : List Int} (h : ob.getD o none = some ⟨g, t.map ci⟩) (hn : n = t.length) (hl : lk L o g = some (encI t)) (k : ArgsL ob L al al' M) : ArgsL ob L (.l (.obj o g 1 0 n) :: al) (dI t :: al') ((o, g, encI t) :: M) := by
  subst hn
  exact .row h (lI_encI t false).symm (by rw [Nat.mul_one, encI_len]) hl k
theorem ArgsL.rowB {t : List Bool} (h : ob.getD o none = some ⟨g, t.map cb⟩) (hn : n = t.length) (hl : lk L o g = some (encB t)) (k : ArgsL ob L al al' M) : ArgsL ob L (.l (.obj o g 1 0 n) :: al) (dB t :: al') ((o, g, encB t) :: M) := by
  subst hn
  exact .row h (lB_encB t false).symm (by rw [Nat.mul_one, encB_len]) hl k
theorem ArgsL.rowS {t : List Sn} (h : ob.getD o none = some ⟨g, lS t⟩) (hn : n = t.length) (hl : lk L o g = some (encS t)) (k : ArgsL ob L al al' M) : ArgsL ob L (.l (.obj o g 2 0 n) :: al) (dS t :: al') ((o, g, encS t) :: M) := by
  subst hn
  exact .row h (lS_encS t false).symm (encS_len t).symm hl k
theorem ArgsL.rowT {t : List ByteArray} (h : ob.getD o none = some ⟨g, t.map ct⟩) (hn : n = t.length) (hl : lk L o g = some (encT t)) (k : ArgsL ob L al al' M) : ArgsL ob L (.l (.obj o g 1 0 n) :: al) (dT t :: al') ((o, g, encT t) :: M) := by
  subst hn
  exact .row h (lT_encT t false).symm (by rw [Nat.mul_one, encT_len]) hl k
theorem ArgsL.rowU {t : List UInt8} (h : ob.getD o none = some ⟨g, t.map cu⟩) (hn : n = t.length) (hl : lk L o g = some (encU t)) (k : ArgsL ob L al al' M) : ArgsL ob L (.l (.obj o g 1 0 n) :: al) (dU t :: al') ((o, g, encU t) :: M) := by
  subst hn
  exact .row h (lU_encU t false).symm (by rw [Nat.mul_one, encU_len]) hl k
theorem ArgsL.lend (h : ArgsL ob L al al' M) : LendOk [] ob M := by
  induction h with
  | nil => exact LendOk.nil
  | same _ _ ih => exact ih
  | row h1 h2 _ _ _ ih => exact LendOk.cons false _ h1 rfl h2 ih
  | agg _ h ih => exact h.lend ih
theorem ArgsL.map (h : ArgsL ob L al al' M) : al.map (AV.toC [] L) = al' := by
  induction h with
  | nil => rfl
  | same h _ ih => rw [List.map_cons, h, ih]
  | row h1 h2 h3 h4 _ ih =>
    rw [List.map_cons, ih]
    simp only [AV.toC, LV.toC, h4, List.drop_zero, h3, List.take_length]
  | agg _ h ih => rw [List.map_cons, ih, AV.toC, h.map]
end
section
variable {P : Program} {f : FuncId} {args args' : List AV} {st : St} {d : Option Tmp} {K : St → Prop}
theorem CallK.valA {v : AV} {L : Lend} (ha : ArgsL st.ob L args args' L := by (repeat' (first | exact ArgsL.nil | (apply ArgsL.rowN; rfl; (focus (first | rfl | omega | (simp only [encN_len, lN_len, encI_len, encB_len, encS_len, lS_len, encT_len, encU_len, List.length_drop, List.length_map, List.length_take, List.length_append, List.length_cons, List.length_nil, List.length_replicate, List.length_set, Int.toNat_natCast, renI, renB, renN, renn, renS, rens, renT, renU, Nat.zero_add]; done) | (simp only [encN_len, lN_len, encI_len, encB_len, encS_len, lS_len, encT_len, encU_len, List.length_drop, List.length_map, List.length_take, List.length_append, List.length_cons, List.length_nil, List.length_replicate, List.length_set, Int.toNat_natCast, renI, renB, renN, renn, renS, rens, renT, renU, Nat.zero_add]; omega))); rfl) | (apply ArgsL.rowI; rfl; (focus (first | rfl | omega | (simp only [encN_len, lN_len, encI_len, encB_len, encS_len, lS_len, encT_len, encU_len, List.length_drop, List.length_map, List.length_take, List.length_append, List.length_cons, List.length_nil, List.length_replicate, List.length_set, Int.toNat_natCast, renI, renB, renN, renn, renS, rens, renT, renU, Nat.zero_add]; done) | (simp only [encN_len, lN_len, encI_len, encB_len, encS_len, lS_len, encT_len, encU_len, List.length_drop, List.length_map, List.length_take, List.length_append, List.length_cons, List.length_nil, List.length_replicate, List.length_set, Int.toNat_natCast, renI, renB, renN, renn, renS, rens, renT, renU, Nat.zero_add]; omega))); rfl) | (apply ArgsL.rowB; rfl; (focus (first | rfl | omega | (simp only [encN_len, lN_len, encI_len, encB_len, encS_len, lS_len, encT_len, encU_len, List.length_drop, List.length_map, List.length_take, List.length_append, List.length_cons, List.length_nil, List.length_replicate, List.length_set, Int.toNat_natCast, renI, renB, renN, renn, renS, rens, renT, renU, Nat.zero_add]; done) | (simp only [encN_len, lN_len, encI_len, encB_len, encS_len, lS_len, encT_len, encU_len, List.length_drop, List.length_map, List.length_take, List.length_append, List.length_cons, List.length_nil, List.length_replicate, List.length_set, Int.toNat_natCast, renI, renB, renN, renn, renS, rens, renT, renU, Nat.zero_add]; omega))); rfl) | (apply ArgsL.rowS; rfl; (focus (first | rfl | omega | (simp only [encN_len, lN_len, encI_len, encB_len, encS_len, lS_len, encT_len, encU_len, List.length_drop, List.length_map, List.length_take, List.length_append, List.length_cons, List.length_nil, List.length_replicate, List.length_set, Int.toNat_natCast, renI, renB, renN, renn, renS, rens, renT, renU, Nat.zero_add]; done) | (simp only [encN_len, lN_len, encI_len, encB_len, encS_len, lS_len, encT_len, encU_len, List.length_drop, List.length_map, List.length_take, List.length_append, List.length_cons, List.length_nil, List.length_replicate, List.length_set, Int.toNat_natCast, renI, renB, renN, renn, renS, rens, renT, renU, Nat.zero_add]; omega))); rfl) | (apply ArgsL.rowT; rfl; (focus (first | rfl | omega | (simp only [encN_len, lN_len, encI_len, encB_len, encS_len, lS_len, encT_len, encU_len, List.length_drop, List.length_map, List.length_take, List.length_append, List.length_cons, List.length_nil, List.length_replicate, List.length_set, Int.toNat_natCast, renI, renB, renN, renn, renS, rens, renT, renU, Nat.zero_add]; done) | (simp only [encN_len, lN_len, encI_len, encB_len, encS_len, lS_len, encT_len, encU_len, List.length_drop, List.length_map, List.length_take, List.length_append, List.length_cons, List.length_nil, List.length_replicate, List.length_set, Int.toNat_natCast, renI, renB, renN, renn, renS, rens, renT, renU, Nat.zero_add]; omega))); rfl) | (apply ArgsL.rowU; rfl; (focus (first | rfl | omega | (simp only [encN_len, lN_len, encI_len, encB_len, encS_len, lS_len, encT_len, encU_len, List.length_drop, List.length_map, List.length_take, List.length_append, List.length_cons, List.length_nil, List.length_replicate, List.length_set, Int.toNat_natCast, renI, renB, renN, renn, renS, rens, renT, renU, Nat.zero_add]; done) | (simp only [encN_len, lN_len, encI_len, encB_len, encS_len, lS_len, encT_len, encU_len, List.length_drop, List.length_map, List.length_take, List.length_append, List.length_cons, List.length_nil, List.length_replicate, List.length_set, Int.toNat_natCast, renI, renB, renN, renn, renS, rens, renT, renU, Nat.zero_add]; omega))); rfl) | (apply ArgsL.same; rfl)))) (h : Val P f args' v) (k : K ⟨putT st.tm d v, st.ob⟩) (hv : v.flat = true := by rfl) : CallK P f args st d K :=
  CallK.val L ha.lend (by rw [ha.map]; exact h) hv k
/-- What is answered, and the rows that are new. -/
abbrev Ret (P : Program) (f : FuncId) (args : List AV) (r0 : AV) (ob0 : Obs) : Prop := CallsA P f args [] fun r ob => r = r0 ∧ ob = ob0
def obFlat (ob : Obs) : Bool := ob.all fun x => match x with
  | some x => x.cs.all LV.flat
  | none => true
def sh (n o g : Nat) : Option (Nat × Nat) := some (n + o, g)
theorem mB_nil (n : Nat) : mB [] n = sh n := by funext o g; simp [mB, sh]
theorem obFlat_ren {m : Nat → Nat → Option (Nat × Nat)} : ∀ {ob : Obs}, obFlat ob = true → ob.map (Option.map (Ob.ren m)) = ob
  | [], _ => rfl
  | none :: r, h => by
    simp only [obFlat, List.all_cons, Bool.true_and] at h
    simp only [List.map_cons, Option.map_none, obFlat_ren (ob := r) h]
  | some x :: r, h => by
    simp only [obFlat, List.all_cons, Bool.and_eq_true] at h
    simp only [List.map_cons, Option.map_some, obFlat_ren (ob := r) h.2, Ob.ren, map_flat h.1]
theorem obFlat_noB : ∀ {ob : Obs}, obFlat ob = true → obNoB ob = true
  | [], _ => rfl
  | none :: r, h => by
    simp only [obFlat, List.all_cons, Bool.true_and] at h
    simp only [obNoB, List.all_cons, Bool.true_and]
    exact obFlat_noB (ob := r) h
  | some x :: r, h => by
    simp only [obFlat, List.all_cons, Bool.and_eq_true] at h
    simp only [obNoB, List.all_cons, Bool.and_eq_true]
    exact ⟨List.all_eq_true.2 fun c hc => LV.flat_noB (List.all_eq_true.1 h.1 c hc), obFlat_noB (ob := r) h.2⟩
theorem CallK.retA {r0 : AV} {ob0 : Obs} {L : Lend} (ha : ArgsL st.ob L args args' L := by (repeat' (first | exact ArgsL.nil | (apply ArgsL.rowN; rfl; (focus (first | rfl | omega | (simp only [encN_len, lN_len, encI_len, encB_len, encS_len, lS_len, encT_len, encU_len, List.length_drop, List.length_map, List.length_take, List.length_append, List.length_cons, List.length_nil, List.length_replicate, List.length_set, Int.toNat_natCast, renI, renB, renN, renn, renS, rens, renT, renU, Nat.zero_add]; done) | (simp only [encN_len, lN_len, encI_len, encB_len, encS_len, lS_len, encT_len, encU_len, List.length_drop, List.length_map, List.length_take, List.length_append, List.length_cons, List.length_nil, List.length_replicate, List.length_set, Int.toNat_natCast, renI, renB, renN, renn, renS, rens, renT, renU, Nat.zero_add]; omega))); rfl) | (apply ArgsL.rowI; rfl; (focus (first | rfl | omega | (simp only [encN_len, lN_len, encI_len, encB_len, encS_len, lS_len, encT_len, encU_len, List.length_drop, List.length_map, List.length_take, List.length_append, List.length_cons, List.length_nil, List.length_replicate, List.length_set, Int.toNat_natCast, renI, renB, renN, renn, renS, rens, renT, renU, Nat.zero_add]; done) | (simp only [encN_len, lN_len, encI_len, encB_len, encS_len, lS_len, encT_len, encU_len, List.length_drop, List.length_map, List.length_take, List.length_append, List.length_cons, List.length_nil, List.length_replicate, List.length_set, Int.toNat_natCast, renI, renB, renN, renn, renS, rens, renT, renU, Nat.zero_add]; omega))); rfl) | (apply ArgsL.rowB; rfl; (focus (first | rfl | omega | (simp only [encN_len, lN_len, encI_len, encB_len, encS_len, lS_len, encT_len, encU_len, List.length_drop, List.length_map, List.length_take, List.length_append, List.length_cons, List.length_nil, List.length_replicate, List.length_set, Int.toNat_natCast, renI, renB, renN, renn, renS, rens, renT, renU, Nat.zero_add]; done) | (simp only [encN_len, lN_len, encI_len, encB_len, encS_len, lS_len, encT_len, encU_len, List.length_drop, List.length_map, List.length_take, List.length_append, List.length_cons, List.length_nil, List.length_replicate, List.length_set, Int.toNat_natCast, renI, renB, renN, renn, renS, rens, renT, renU, Nat.zero_add]; omega))); rfl) | (apply ArgsL.rowS; rfl; (focus (first | rfl | omega | (simp only [encN_len, lN_len, encI_len, encB_len, encS_len, lS_len, encT_len, encU_len, List.length_drop, List.length_map, List.length_take, List.length_append, List.length_cons, List.length_nil, List.length_replicate, List.length_set, Int.toNat_natCast, renI, renB, renN, renn, renS, rens, renT, renU, Nat.zero_add]; done) | (simp only [encN_len, lN_len, encI_len, encB_len, encS_len, lS_len, encT_len, encU_len, List.length_drop, List.length_map, List.length_take, List.length_append, List.length_cons, List.length_nil, List.length_replicate, List.length_set, Int.toNat_natCast, renI, renB, renN, renn, renS, rens, renT, renU, Nat.zero_add]; omega))); rfl) | (apply ArgsL.rowT; rfl; (focus (first | rfl | omega | (simp only [encN_len, lN_len, encI_len, encB_len, encS_len, lS_len, encT_len, encU_len, List.length_drop, List.length_map, List.length_take, List.length_append, List.length_cons, List.length_nil, List.length_replicate, List.length_set, Int.toNat_natCast, renI, renB, renN, renn, renS, rens, renT, renU, Nat.zero_add]; done) | (simp only [encN_len, lN_len, encI_len, encB_len, encS_len, lS_len, encT_len, encU_len, List.length_drop, List.length_map, List.length_take, List.length_append, List.length_cons, List.length_nil, List.length_replicate, List.length_set, Int.toNat_natCast, renI, renB, renN, renn, renS, rens, renT, renU, Nat.zero_add]; omega))); rfl) | (apply ArgsL.rowU; rfl; (focus (first | rfl | omega | (simp only [encN_len, lN_len, encI_len, encB_len, encS_len, lS_len, encT_len, encU_len, List.length_drop, List.length_map, List.length_take, List.length_append, List.length_cons, List.length_nil, List.length_replicate, List.length_set, Int.toNat_natCast, renI, renB, renN, renn, renS, rens, renT, renU, Nat.zero_add]; done) | (simp only [encN_len, lN_len, encI_len, encB_len, encS_len, lS_len, encT_len, encU_len, List.length_drop, List.length_map, List.length_take, List.length_append, List.length_cons, List.length_nil, List.length_replicate, List.length_set, Int.toNat_natCast, renI, renB, renN, renn, renS, rens, renT, renU, Nat.zero_add]; omega))); rfl) | (apply ArgsL.same; rfl)))) (h : Ret P f args' r0 ob0) (k : K ⟨putT st.tm d (r0.ren (sh st.ob.length)), st.ob ++ ob0⟩) (hf : obFlat ob0 = true := by (simp only [obFlat, List.all_cons, List.all_nil, lN_flat, flatI, flatB, lS_flat, flatT, flatU, Bool.and_true]) <;> rfl) (hr : r0.noB = true := by rfl) : CallK P f args st d K :=
  CallK.use (Q := fun r ob => r = r0 ∧ ob = ob0) [] L ha.lend (by rw [ha.map]; exact h) fun r ob1 ⟨h1, h2⟩ => by
    subst h1; subst h2
    refine ⟨Nat.zero_le _, .inr ⟨hr, obFlat_noB hf⟩, ?_⟩
    rw [obB_nil, obFlat_ren hf, mB_nil]
    exact k
theorem CallK.rowA {L : Lend} {sz n : Nat} {cs : List LV} (ha : ArgsL st.ob L args args' L := by (repeat' (first | exact ArgsL.nil | (apply ArgsL.rowN; rfl; (focus (first | rfl | omega | (simp only [encN_len, lN_len, encI_len, encB_len, encS_len, lS_len, encT_len, encU_len, List.length_drop, List.length_map, List.length_take, List.length_append, List.length_cons, List.length_nil, List.length_replicate, List.length_set, Int.toNat_natCast, renI, renB, renN, renn, renS, rens, renT, renU, Nat.zero_add]; done) | (simp only [encN_len, lN_len, encI_len, encB_len, encS_len, lS_len, encT_len, encU_len, List.length_drop, List.length_map, List.length_take, List.length_append, List.length_cons, List.length_nil, List.length_replicate, List.length_set, Int.toNat_natCast, renI, renB, renN, renn, renS, rens, renT, renU, Nat.zero_add]; omega))); rfl) | (apply ArgsL.rowI; rfl; (focus (first | rfl | omega | (simp only [encN_len, lN_len, encI_len, encB_len, encS_len, lS_len, encT_len, encU_len, List.length_drop, List.length_map, List.length_take, List.length_append, List.length_cons, List.length_nil, List.length_replicate, List.length_set, Int.toNat_natCast, renI, renB, renN, renn, renS, rens, renT, renU, Nat.zero_add]; done) | (simp only [encN_len, lN_len, encI_len, encB_len, encS_len, lS_len, encT_len, encU_len, List.length_drop, List.length_map, List.length_take, List.length_append, List.length_cons, List.length_nil, List.length_replicate, List.length_set, Int.toNat_natCast, renI, renB, renN, renn, renS, rens, renT, renU, Nat.zero_add]; omega))); rfl) | (apply ArgsL.rowB; rfl; (focus (first | rfl | omega | (simp only [encN_len, lN_len, encI_len, encB_len, encS_len, lS_len, encT_len, encU_len, List.length_drop, List.length_map, List.length_take, List.length_append, List.length_cons, List.length_nil, List.length_replicate, List.length_set, Int.toNat_natCast, renI, renB, renN, renn, renS, rens, renT, renU, Nat.zero_add]; done) | (simp only [encN_len, lN_len, encI_len, encB_len, encS_len, lS_len, encT_len, encU_len, List.length_drop, List.length_map, List.length_take, List.length_append, List.length_cons, List.length_nil, List.length_replicate, List.length_set, Int.toNat_natCast, renI, renB, renN, renn, renS, rens, renT, renU, Nat.zero_add]; omega))); rfl) | (apply ArgsL.rowS; rfl; (focus (first | rfl | omega | (simp only [encN_len, lN_len, encI_len, encB_len, encS_len, lS_len, encT_len, encU_len, List.length_drop, List.length_map, List.length_take, List.length_append, List.length_cons, List.length_nil, List.length_replicate, List.length_set, Int.toNat_natCast, renI, renB, renN, renn, renS, rens, renT, renU, Nat.zero_add]; done) | (simp only [encN_len, lN_len, encI_len, encB_len, encS_len, lS_len, encT_len, encU_len, List.length_drop, List.length_map, List.length_take, List.length_append, List.length_cons, List.length_nil, List.length_replicate, List.length_set, Int.toNat_natCast, renI, renB, renN, renn, renS, rens, renT, renU, Nat.zero_add]; omega))); rfl) | (apply ArgsL.rowT; rfl; (focus (first | rfl | omega | (simp only [encN_len, lN_len, encI_len, encB_len, encS_len, lS_len, encT_len, encU_len, List.length_drop, List.length_map, List.length_take, List.length_append, List.length_cons, List.length_nil, List.length_replicate, List.length_set, Int.toNat_natCast, renI, renB, renN, renn, renS, rens, renT, renU, Nat.zero_add]; done) | (simp only [encN_len, lN_len, encI_len, encB_len, encS_len, lS_len, encT_len, encU_len, List.length_drop, List.length_map, List.length_take, List.length_append, List.length_cons, List.length_nil, List.length_replicate, List.length_set, Int.toNat_natCast, renI, renB, renN, renn, renS, rens, renT, renU, Nat.zero_add]; omega))); rfl) | (apply ArgsL.rowU; rfl; (focus (first | rfl | omega | (simp only [encN_len, lN_len, encI_len, encB_len, encS_len, lS_len, encT_len, encU_len, List.length_drop, List.length_map, List.length_take, List.length_append, List.length_cons, List.length_nil, List.length_replicate, List.length_set, Int.toNat_natCast, renI, renB, renN, renn, renS, rens, renT, renU, Nat.zero_add]; done) | (simp only [encN_len, lN_len, encI_len, encB_len, encS_len, lS_len, encT_len, encU_len, List.length_drop, List.length_map, List.length_take, List.length_append, List.length_cons, List.length_nil, List.length_replicate, List.length_set, Int.toNat_natCast, renI, renB, renN, renn, renS, rens, renT, renU, Nat.zero_add]; omega))); rfl) | (apply ArgsL.same; rfl)))) (h : Row P f args' sz n cs) (k : K ⟨putT st.tm d (.l (.obj st.ob.length 0 sz 0 n)), st.ob ++ [some ⟨0, cs⟩]⟩) (hf : cs.all LV.flat = true := by first | exact lN_flat _ | exact flatI _ | exact flatB _ | exact lS_flat _ | exact flatT _ | exact flatU _ | rfl) : CallK P f args st d K :=
  CallK.row L ha.lend (by rw [ha.map]; exact h) hf k
end
theorem sh_eq {n o g : Nat} : sh n o g = some (n + o, g) := rfl
attribute [go_sem] lS_encS lT_encT lU_encU bytesOf_cu strOf_cu sh_eq updT_nil updT_k updT_d updT_d5 updT_v E_go
end Go.Proofs.YtkdkbnacelnljaaGreat.RE
