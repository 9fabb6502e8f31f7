/- Words for contracts: calls that leave nothing behind, rows of nodes, numbers. Conditions: those that a theorem names. -/
import Derived.Test.YtkdkbnacelnljaaGreatNRT
import Derived.KernelRfl
set_option linter.unusedVariables false
set_option linter.unusedSimpArgs false
namespace Go.Proofs.YtkdkbnacelnljaaGreat.RE
open Go Go.RowKit

/-! ### Numbers -/
theorem wr {x : Int} (h1 : -9223372036854775808 ≤ x) (h2 : x ≤ 9223372036854775807) : IntKind.i64.wrap x = x := by
  simp only [IntKind.wrap, IntKind.bits, IntKind.signed]
  simp
  omega
abbrev I (x : Int) : AV := .l (.sc (.int .i64 x))
abbrev T (x : Bool) : AV := .l (.sc (.bool x))
/-! ### Values that hold no row -/
def LV.flat : LV → Bool
  | .sc _ => true
  | .nils => true
  | .dsl b _ _ => !b
  | _ => false
def TV.flat : TV → Bool
  | .l x => x.flat
  | .agg cs => cs.all LV.flat
def AV.flat : AV → Bool
  | .l x => x.flat
  | .agg cs => cs.all LV.flat
  | .tup ts => ts.all TV.flat
theorem LV.flat_ren {m : Nat → Nat → Option (Nat × Nat)} {x : LV} (h : x.flat = true) : x.ren m = x := by
  cases x <;> first | rfl | simp [LV.flat] at h
theorem LV.flat_noB {x : LV} (h : x.flat = true) : x.noB = true := by
  cases x <;> first | rfl | (simp [LV.flat] at h; done) | (simpa [LV.flat, LV.noB] using h)
theorem map_flat {m : Nat → Nat → Option (Nat × Nat)} {cs : List LV} (h : cs.all LV.flat = true) : cs.map (LV.ren m) = cs := by
  exact (List.map_congr_left (f := LV.ren m) (g := id) fun x hx => LV.flat_ren (List.all_eq_true.1 h x hx)).trans (List.map_id cs)
theorem TV.flat_ren {m : Nat → Nat → Option (Nat × Nat)} {x : TV} (h : x.flat = true) : x.ren m = x := by
  cases x with
  | l x => simp only [TV.ren, LV.flat_ren (show x.flat = true from h)]
  | agg cs => simp only [TV.ren, map_flat (show cs.all LV.flat = true from h)]
theorem AV.flat_ren {m : Nat → Nat → Option (Nat × Nat)} {x : AV} (h : x.flat = true) : x.ren m = x := by
  cases x with
  | l x => simp only [AV.ren, LV.flat_ren (show x.flat = true from h)]
  | agg cs => simp only [AV.ren, map_flat (show cs.all LV.flat = true from h)]
  | tup ts =>
    simp only [AV.ren]
    rw [(List.map_congr_left (f := TV.ren m) (g := id) fun x hx => TV.flat_ren (List.all_eq_true.1 (show ts.all TV.flat = true from h) x hx)).trans (List.map_id ts)]
theorem TV.flat_noB {x : TV} (h : x.flat = true) : x.noB = true := by
  cases x with
  | l x => exact LV.flat_noB h
  | agg cs => exact List.all_eq_true.2 fun x hx => LV.flat_noB (List.all_eq_true.1 h x hx)
theorem AV.flat_noB {x : AV} (h : x.flat = true) : x.noB = true := by
  cases x with
  | l x => exact LV.flat_noB h
  | agg cs => exact List.all_eq_true.2 fun x hx => LV.flat_noB (List.all_eq_true.1 h x hx)
  | tup ts => exact List.all_eq_true.2 fun x hx => TV.flat_noB (List.all_eq_true.1 h x hx)

/-! ### Calls that hand no row over -/
theorem mrg_none {f : Nat → Option (Option Ob)} (h : ∀ i, f i = none) : ∀ (ob : Obs) (i : Nat), mrg f i ob = ob
  | [], _ => rfl
  | x :: xs, i => by simp [mrg, h, mrg_none h xs]
theorem obB_nil (ob ob' : Obs) : obB [] ob ob' = ob ++ ob'.map (Option.map (Ob.ren (mB [] ob.length))) := by
  unfold obB
  rw [mrg_none (fun i => by simp [List.idxOf?])]
  simp
abbrev Val (P : Program) (f : FuncId) (args : List AV) (v : AV) : Prop := CallsA P f args [] fun r ob => r = v ∧ ob = []
/-- A row that is lent. -/
theorem LendOk.nil {ob : Obs} : LendOk [] ob [] := ⟨List.nodup_nil, by simp, by simp, by simp⟩
theorem LendOk.cons {ob : Obs} {o g : Nat} {ds : List DV} {L : List (Nat × Nat × List DV)} (b : Bool) (x : Ob) (h1 : ob.getD o none = some x) (h2 : x.g = g) (h3 : x.cs = ds.map (LV.ofD b)) (h : LendOk [] ob L) : LendOk [] ob ((o, g, ds) :: L) :=
  ⟨h.nd, h.lt, by simp, fun p hp => by
    rcases List.mem_cons.1 hp with rfl | hp
    · exact ⟨x, h1, h2, b, h3⟩
    · exact h.ro p hp⟩
variable {P : Program} {f : FuncId} {args : List AV} {st : St} {d : Option Tmp} {K : St → Prop}
theorem CallK.val {v : AV} (L : List (Nat × Nat × List DV)) (hL : LendOk [] st.ob L) (h : Val P f (args.map (AV.toC [] L)) v) (hv : v.flat = true) (k : K ⟨putT st.tm d v, st.ob⟩) : CallK P f args st d K :=
  CallK.use [] L hL h fun r ob1 ⟨h1, h2⟩ => by
    subst h1; subst h2
    refine ⟨Nat.le_refl _, .inr ⟨AV.flat_noB hv, rfl⟩, ?_⟩
    rw [obB_nil, AV.flat_ren hv]
    simpa using k
/-- A call that leaves one new row: a slice of cells. -/
abbrev Row (P : Program) (f : FuncId) (args : List AV) (sz n : Nat) (cs : List LV) : Prop := CallsA P f args [] fun r ob => r = .l (.obj 0 0 sz 0 n) ∧ ob = [some ⟨0, cs⟩]
theorem CallK.row {sz n : Nat} {cs : List LV} (L : List (Nat × Nat × List DV)) (hL : LendOk [] st.ob L) (h : Row P f (args.map (AV.toC [] L)) sz n cs) (hv : cs.all LV.flat = true) (k : K ⟨putT st.tm d (.l (.obj st.ob.length 0 sz 0 n)), st.ob ++ [some ⟨0, cs⟩]⟩) : CallK P f args st d K :=
  CallK.use [] L hL h fun r ob1 ⟨h1, h2⟩ => by
    subst h1; subst h2
    refine ⟨Nat.zero_le _, .inr ⟨rfl, ?_⟩, ?_⟩
    · simp only [obNoB, List.all_cons, List.all_nil, Bool.and_true]
      exact List.all_eq_true.2 fun x hx => LV.flat_noB (List.all_eq_true.1 hv x hx)
    · rw [obB_nil]
      simp only [List.map_cons, List.map_nil, Option.map_some, Ob.ren, map_flat hv]
      simpa [AV.ren, LV.ren, mB] using k

/-! ### Rows of nodes -/
structure Nd where
  op : Int
  w : Int
  k : Int
  a : Int
  b : Int
  c : Int
deriving DecidableEq
instance : Inhabited Nd := ⟨⟨0, 0, 0, 0, 0, 0⟩⟩
def nd (n : Nd) : List DV := [.sc (.int .i64 n.op), .sc (.int .i64 n.w), .sc (.int .i64 n.k), .sc (.int .i64 n.a), .sc (.int .i64 n.b), .sc (.int .i64 n.c)]
def nl (n : Nd) : List LV := [.sc (.int .i64 n.op), .sc (.int .i64 n.w), .sc (.int .i64 n.k), .sc (.int .i64 n.a), .sc (.int .i64 n.b), .sc (.int .i64 n.c)]
def encN (t : List Nd) : List DV := t.flatMap nd
def lN (t : List Nd) : List LV := t.flatMap nl
abbrev dN (t : List Nd) : AV := .l (.dsl true t.length (encN t))
theorem nl_nd (n : Nd) (b : Bool) : (nd n).map (LV.ofD b) = nl n := rfl
theorem lN_encN (t : List Nd) (b : Bool) : (encN t).map (LV.ofD b) = lN t := by
  induction t with
  | nil => rfl
  | cons n t ih => simp only [encN, lN, List.flatMap_cons, List.map_append] at ih ⊢; rw [ih, nl_nd]
theorem lN_flat (t : List Nd) : (lN t).all LV.flat = true := by
  induction t with
  | nil => rfl
  | cons n t ih => simp only [lN, List.flatMap_cons, List.all_append] at ih ⊢; rw [ih]; rfl
theorem encN_len (t : List Nd) : (encN t).length = t.length * 6 := by
  induction t with
  | nil => rfl
  | cons n t ih => simp only [encN, List.flatMap_cons, List.length_append] at ih ⊢; rw [ih]; simp [nd]; omega
theorem lN_len (t : List Nd) : (lN t).length = t.length * 6 := by
  rw [← lN_encN t true, List.length_map, encN_len]
theorem encN_drop (t : List Nd) (i : Nat) : (encN t).drop (i * 6) = encN (t.drop i) := by
  induction t generalizing i with
  | nil => simp [encN]
  | cons n t ih =>
    cases i with
    | zero => simp
    | succ i =>
      simp only [encN, List.flatMap_cons, List.drop_succ_cons] at ih ⊢
      rw [List.drop_append, List.drop_of_length_le (by simp [nd]; omega)]
      simp only [List.nil_append]
      rw [← ih i]; congr 1; simp [nd]; omega
theorem encN_take (t : List Nd) (i : Nat) : (encN t).take (i * 6) = encN (t.take i) := by
  induction t generalizing i with
  | nil => simp [encN]
  | cons n t ih =>
    cases i with
    | zero => simp [encN]
    | succ i =>
      simp only [encN, List.flatMap_cons, List.take_succ_cons] at ih ⊢
      rw [List.take_append, List.take_of_length_le (by simp [nd]; omega), ← ih i]
      congr 2; simp [nd]; omega
theorem lN_drop (t : List Nd) (i : Nat) : (lN t).drop (i * 6) = lN (t.drop i) := by
  rw [← lN_encN t true, ← List.map_drop, encN_drop, lN_encN]
theorem lN_take (t : List Nd) (i : Nat) : (lN t).take (i * 6) = lN (t.take i) := by
  rw [← lN_encN t true, ← List.map_take, encN_take, lN_encN]
theorem lN_at {t : List Nd} {i : Nat} (h : i < t.length) : ((lN t).drop (i * 6)).take 6 = nl t[i] := by
  rw [lN_drop, List.drop_eq_getElem_cons h]; rfl
theorem encN_at {t : List Nd} {i : Nat} (b : Bool) (h : i < t.length) : (((encN t).drop (i * 6)).take 6).map (LV.ofD b) = nl t[i] := by
  rw [encN_drop, List.drop_eq_getElem_cons h]; rfl
theorem lN_app (t u : List Nd) : lN (t ++ u) = lN t ++ lN u := by simp [lN]
theorem getD_at {α : Type} {t : List α} {i : Nat} {d : α} (h : i < t.length) : t[i] = t.getD i d := by
  rw [List.getD_eq_getElem?_getD, List.getElem?_eq_getElem h]; rfl
theorem atN {t : List Nd} {i : Nat} (b : Bool) (h : i < t.length) : (((encN t).drop (i * 6)).take 6).map (LV.ofD b) = nl (t.getD i default) := by rw [encN_at b h, getD_at h]
theorem atL {t : List Nd} {i : Nat} (h : i < t.length) : ((lN t).drop (i * 6)).take 6 = nl (t.getD i default) := by rw [lN_at h, getD_at h]
theorem dropN {t : List Nd} {i : Nat} (h : i < t.length) : (encN t).drop (i * 6) = nd (t.getD i default) ++ encN (t.drop (i + 1)) := by
  rw [encN_drop, List.drop_eq_getElem_cons h, getD_at h]; rfl
theorem fN0 {t : List Nd} {i : Nat} (h : i < t.length) : ((encN t).drop (i * 6)).getD 0 .nils = .sc (.int .i64 (t.getD i default).op) := by rw [dropN h]; rfl
theorem fN1 {t : List Nd} {i : Nat} (h : i < t.length) : (((encN t).drop (i * 6)).drop 1).getD 0 .nils = .sc (.int .i64 (t.getD i default).w) := by rw [dropN h]; rfl
theorem fN2 {t : List Nd} {i : Nat} (h : i < t.length) : (((encN t).drop (i * 6)).drop 2).getD 0 .nils = .sc (.int .i64 (t.getD i default).k) := by rw [dropN h]; rfl
theorem fN3 {t : List Nd} {i : Nat} (h : i < t.length) : (((encN t).drop (i * 6)).drop 3).getD 0 .nils = .sc (.int .i64 (t.getD i default).a) := by rw [dropN h]; rfl
theorem fN4 {t : List Nd} {i : Nat} (h : i < t.length) : (((encN t).drop (i * 6)).drop 4).getD 0 .nils = .sc (.int .i64 (t.getD i default).b) := by rw [dropN h]; rfl
theorem fN5 {t : List Nd} {i : Nat} (h : i < t.length) : (((encN t).drop (i * 6)).drop 5).getD 0 .nils = .sc (.int .i64 (t.getD i default).c) := by rw [dropN h]; rfl
theorem fL0 {t : List Nd} {i : Nat} (h : i < t.length) : (lN t).getD (i * 6) .dead = .sc (.int .i64 (t.getD i default).op) := by
  have h2 : (((lN t).drop (i * 6)).take 6).getD 0 .dead = .sc (.int .i64 (t.getD i default).op) := by rw [atL h]; rfl
  rw [← h2]; simp [List.getD_eq_getElem?_getD]
theorem fL {t : List Nd} {i k : Nat} (h : i < t.length) (hk : k < 6) : (lN t).getD (i * 6 + k) .dead = (nl (t.getD i default)).getD k .dead := by
  rw [← atL h]
  simp only [List.getD_eq_getElem?_getD, List.getElem?_take, List.getElem?_drop, hk, if_true]

/-! ### Rows of numbers and of bools -/
abbrev ci (x : Int) : LV := .sc (.int .i64 x)
abbrev cb (x : Bool) : LV := .sc (.bool x)
theorem flatI (l : List Int) : (l.map ci).all LV.flat = true := by simp [LV.flat]
theorem flatB (l : List Bool) : (l.map cb).all LV.flat = true := by simp [LV.flat]
theorem atI {l : List Int} {i : Nat} (h : i < l.length) : (l.map ci).getD i .dead = .sc (.int .i64 (l.getD i 0)) := by
  simp [List.getD_eq_getElem?_getD, h]
theorem atB {l : List Bool} {i : Nat} (h : i < l.length) : (l.map cb).getD i .dead = .sc (.bool (l.getD i false)) := by
  simp [List.getD_eq_getElem?_getD, h]
theorem renI (m : Nat → Nat → Option (Nat × Nat)) (l : List Int) : (l.map ci).map (LV.ren m) = l.map ci := map_flat (flatI l)
theorem renB (m : Nat → Nat → Option (Nat × Nat)) (l : List Bool) : (l.map cb).map (LV.ren m) = l.map cb := map_flat (flatB l)
theorem renN (m : Nat → Nat → Option (Nat × Nat)) (l : List Nd) : (lN l).map (LV.ren m) = lN l := map_flat (lN_flat l)
theorem renn (m : Nat → Nat → Option (Nat × Nat)) (n : Nd) : (nl n).map (LV.ren m) = nl n := rfl
theorem pushI (l : List Int) (n : Nat) (h : l.length = n) (v : Int) : List.take n (l.map ci) ++ [.sc (.int .i64 v)] = (l ++ [v]).map ci := by
  rw [List.take_of_length_le (by simp; omega)]; simp
theorem pushB (l : List Bool) (n : Nat) (h : l.length = n) (v : Bool) : List.take n (l.map cb) ++ [.sc (.bool v)] = (l ++ [v]).map cb := by
  rw [List.take_of_length_le (by simp; omega)]; simp
theorem pushN (l : List Nd) (n : Nat) (h : l.length = n) (v : Nd) : List.take (n * 6) (lN l) ++ nl v = lN (l ++ [v]) := by
  rw [List.take_of_length_le (by rw [lN_len]; omega), lN_app]; simp [lN]
theorem pushL (l : List Nd) (n : Nat) (h : l.length = n) (v : Nd) : List.take (n * 6) (lN l) ++ [LV.sc (.int .i64 v.op), .sc (.int .i64 v.w), .sc (.int .i64 v.k), .sc (.int .i64 v.a), .sc (.int .i64 v.b), .sc (.int .i64 v.c)] = lN (l ++ [v]) := pushN l n h v
theorem take_push {α : Type} {l : List α} {x : Nat} (d : α) (h : x < l.length) : l.take (x + 1) = l.take x ++ [l.getD x d] := by
  rw [List.take_add_one, List.getD_eq_getElem?_getD, List.getElem?_eq_getElem h]; rfl
/-- A row that is answered. -/
theorem ret_row {o g sz n : Nat} {cs : List LV} {ob : Obs} (h : ob.getD o none = some ⟨g, cs⟩) (hf : cs.all LV.flat = true) : (AV.l (.obj o g sz 0 n)).ren (keepM 0 [o] ob) = .l (.obj 0 0 sz 0 n) ∧ keepO 0 [o] ob = [some ⟨0, cs⟩] := by
  refine ⟨?_, ?_⟩
  · simp only [AV.ren, LV.ren, keepM, h]
    simp [List.idxOf?]
  · simp only [keepO, h, List.take_zero, List.map_nil, List.nil_append, List.map_cons, Option.map_some, map_flat hf]
theorem setB {l : List Bool} {i : Nat} (h : i < l.length) (v : Bool) : List.take i (l.map cb) ++ [LV.sc (.bool v)] ++ List.drop (i + 1) (l.map cb) = (l.set i v).map cb := by
  rw [List.set_eq_take_append_cons_drop, if_pos h, List.map_append, List.map_cons, List.map_take, List.map_drop]; simp
theorem setI {l : List Int} {i : Nat} (h : i < l.length) (v : Int) : List.take i (l.map ci) ++ [LV.sc (.int .i64 v)] ++ List.drop (i + 1) (l.map ci) = (l.set i v).map ci := by
  rw [List.set_eq_take_append_cons_drop, if_pos h, List.map_append, List.map_cons, List.map_take, List.map_drop]; simp
theorem nT {b : Bool} (h : (!b) = true) : b = false := by simpa using h
theorem nF {b : Bool} (h : (!b) = false) : b = true := by simpa using h
theorem keepM_nil (n : Nat) (ob : Obs) (o g : Nat) : keepM n [] ob o g = if o < n then some (o, g) else none := by
  unfold keepM
  split <;> simp [List.idxOf?]
section
variable {m : Nat → Nat → Option (Nat × Nat)}
theorem aren_l {x : LV} : AV.ren m (.l x) = .l (x.ren m) := rfl
theorem aren_a {x : List LV} : AV.ren m (.agg x) = .agg (x.map (LV.ren m)) := rfl
theorem aren_t {x : List TV} : AV.ren m (.tup x) = .tup (x.map (TV.ren m)) := rfl
theorem tren_l {x : LV} : TV.ren m (.l x) = .l (x.ren m) := rfl
theorem tren_a {x : List LV} : TV.ren m (.agg x) = .agg (x.map (LV.ren m)) := rfl
theorem lren_dead : LV.ren m .dead = .dead := rfl
theorem lren_sc {x : Value} : LV.ren m (.sc x) = .sc x := rfl
theorem lren_nils : LV.ren m .nils = .nils := rfl
theorem lren_dsl {b : Bool} {n : Nat} {cs : List DV} : LV.ren m (.dsl b n cs) = .dsl b n cs := rfl
theorem lren_dptr {b : Bool} {cs : List DV} : LV.ren m (.dptr b cs) = .dptr b cs := rfl
def optO (sz off len : Nat) : Option (Nat × Nat) → LV
  | some p => .obj p.1 p.2 sz off len
  | none => .dead
theorem optO_s {sz off len : Nat} {p : Nat × Nat} : optO sz off len (some p) = .obj p.1 p.2 sz off len := rfl
theorem optO_n {sz off len : Nat} : optO sz off len none = .dead := rfl
def optP (off : Nat) : Option (Nat × Nat) → LV
  | some p => .ptr p.1 p.2 off
  | none => .dead
theorem optP_s {off : Nat} {p : Nat × Nat} : optP off (some p) = .ptr p.1 p.2 off := rfl
theorem optP_n {off : Nat} : optP off none = .dead := rfl
theorem lren_obj {o g sz off len : Nat} : LV.ren m (.obj o g sz off len) = optO sz off len (m o g) := by
  simp only [LV.ren, optO]; cases m o g <;> rfl
def optM : Option (Nat × Nat) → LV
  | some p => .mp p.1 p.2
  | none => .dead
theorem optM_s {p : Nat × Nat} : optM (some p) = .mp p.1 p.2 := rfl
theorem optM_n : optM none = .dead := rfl
theorem lren_mp {o g : Nat} : LV.ren m (.mp o g) = optM (m o g) := by
  simp only [LV.ren]
  cases m o g <;> rfl
theorem lren_mpc {a : Array MapEntry} {b : Nat} : LV.ren m (.mpc a b) = .mpc a b := rfl
theorem lren_ptr {o g off : Nat} : LV.ren m (.ptr o g off) = optP off (m o g) := by
  simp only [LV.ren, optP]; cases m o g <;> rfl
end
attribute [go_sem] lren_mp lren_mpc optM_s optM_n St.keep keepO keepM_nil aren_l aren_a aren_t tren_l tren_a lren_dead lren_sc lren_nils lren_dsl lren_dptr lren_obj lren_ptr optO_s optO_n optP_s optP_n maxLen obC AV.toC LV.toC lk
theorem Wp.seqM {E : Env} {B : Base} {x y : Code} {Q : Exit → St → Prop} {st : St} (M : St → Prop) (h1 : Wp E.P B x (thn M Q) st) (h2 : ∀ s, M s → Wp E.P B y Q s) : Wp E.P B (.seq x y) Q st :=
  Wp.seqK fun K hK => h1.mono fun e s h => by
    cases e <;> first | exact hK _ (h2 _ h) | exact h
/-- An operation without its place in the text. -/
def strip (o : Oper) : Oper := ⟨o.dst, o.op, 0, "", #[], o.guard⟩
theorem strip_mk {d : Option Tmp} {op : Op} {ty : TypeId} {pos : String} {after : Array Edge} {g : Option (Nat × Bool)} : strip ⟨d, op, ty, pos, after, g⟩ = ⟨d, op, 0, "", #[], g⟩ := rfl
theorem opF_strip {E : Env} (o : Oper) (K : St → Prop) (st : St) : opF E (strip o) K st = opF E o K st := by
  obtain ⟨d, op, ty, pos, after, g⟩ := o
  rfl
theorem regF_strip {E : Env} {ds : List (Option Tmp)} : ∀ (l : List Oper) (K : St → Prop) (st : St), regF E ds (l.map strip) K st = regF E ds l K st
  | [], _, _ => rfl
  | o :: r, K, st => by
    have e : regF E ds (r.map strip) K = regF E ds r K := funext fun s => regF_strip r K s
    simp only [List.map_cons, regF, e, opF_strip]
    rfl
theorem Wp.regionS {E : Env} {B : Base} {Q : Exit → St → Prop} {st : St} {id : Nat} {l : List Oper} (h : regF E (l.map (·.dst)) (l.map strip) (Q .normal) st) : Wp E.P B (.region id l.toArray false) Q st :=
  Wp.region (by rwa [regF_strip] at h)
def rdF (D : List Nat) (tm : List AV) : Op → Prop
  | .load _ x => inD D (rd tm x)
  | .slice _ x _ _ _ => inD D (rd tm x)
  | _ => True
def kpD (dd : Bool) (D : List Nat) (ob : Obs) (C : St → Prop) : St → Prop := if dd then keepD D ob C else C
def planG (E : Env) (ds : List (Option Tmp)) (D : List Nat) : List (Oper × Bool) → (St → Prop) → St → Prop
  | [], K, st => K st
  | (o, dd) :: r, K, st => rdF D st.tm o.op ∧ match o.guard with
    | none => opF E o (kpD dd D st.ob (planG E ds D r K)) st
    | some (j, want) => grdT E o (kpD dd D st.ob (planG E ds D r K)) st want (ds.getD j none)
theorem planG_ok {E : Env} {ds : List (Option Tmp)} {D : List Nat} : ∀ (l : List (Oper × Bool)) (K : St → Prop) (st : St), planG E ds D (l.map fun p => (strip p.1, p.2)) K st → planF E ds D l K st
  | [], _, _, h => h
  | (o, dd) :: r, K, st, h => by
    simp only [List.map_cons, planG] at h
    have ih0 : ∀ s, planG E ds D (r.map fun p => (strip p.1, p.2)) K s → planF E ds D r K s := planG_ok r K
    have ih : ∀ s, kpD dd D st.ob (planG E ds D (r.map fun p => (strip p.1, p.2)) K) s → (if dd then keepD D st.ob (planF E ds D r K) else planF E ds D r K) s := fun s hs => by
      cases dd with
      | true => exact ⟨hs.1, ih0 s hs.2⟩
      | false => exact ih0 s hs
    simp only [planF]
    refine ⟨fun _ => ?_, ?_⟩
    · have := h.1
      obtain ⟨d, op, ty, pos, after, g⟩ := o
      cases op <;> exact this
    · obtain ⟨d, op, ty, pos, after, g⟩ := o
      have h2 := h.2
      cases g with
      | none =>
        simp only [strip] at h2 ⊢
        exact opF_mono (show opF E ⟨d, op, ty, pos, after, none⟩ (kpD dd D st.ob (planG E ds D (r.map fun p => (strip p.1, p.2)) K)) st from h2) ih
      | some g =>
        obtain ⟨j, want⟩ := g
        simp only [strip] at h2 ⊢
        rw [grdT_iff] at h2 ⊢
        split at h2
        · obtain ⟨b, h3, h4, h5⟩ := h2
          exact ⟨b, h3, fun hb => opF_mono (show opF E ⟨d, op, ty, pos, after, some (j, want)⟩ (kpD dd D st.ob (planG E ds D (r.map fun p => (strip p.1, p.2)) K)) st from h4 hb) ih, fun hb => ih _ (h5 hb)⟩
        · exact h2
/-- The operations with their numbers: those of dd must leave D's rows as they are. -/
def flg (dd : List Nat) : Nat → List Oper → List (Oper × Bool)
  | _, [] => []
  | i, o :: r => (strip o, dd.contains i) :: flg dd (i + 1) r
theorem flg_ok (dd : List Nat) : ∀ (l : List Oper) (i : Nat), flg dd i l = (l.zipIdx i).map fun p => (strip p.1, dd.contains p.2)
  | [], _ => rfl
  | o :: r, i => by simp only [flg, List.zipIdx_cons, List.map_cons, flg_ok dd r (i + 1)]
theorem range_zip (l : List Oper) (dd : List Nat) : ((List.range l.length).map fun i => (l.getD i default, dd.contains i)) = l.zipIdx.map fun p => (p.1, dd.contains p.2) := by
  apply List.ext_getElem
  · simp
  · intro i h1 h2
    simp at h1 ⊢
    rw [List.getElem?_eq_getElem h1]; rfl
theorem Wp.drawI {E : Env} {B : Base} {id : Nat} {l : List Oper} {Q : Exit → St → Prop} {st : St} (D dd : List Nat) (hok : planOk l.toArray (fun i => dd.contains i) (List.range l.length) (Array.replicate l.length false) = true)
    (h : planG E (l.map (·.dst)) D (flg dd 0 l) (Q .normal) st) : Wp E.P B (.region id l.toArray true) Q st :=
  Wp.draw (List.range l.length) dd D (by simp) hok (by
    rw [range_zip]
    refine planG_ok _ _ _ ?_
    rw [flg_ok] at h
    rw [List.map_map]
    exact h)
theorem Wp.drawP {E : Env} {B : Base} {id : Nat} {l : List Oper} {Q : Exit → St → Prop} {st : St} (D dd pl : List Nat) (hl : pl.length = l.length) (hok : planOk l.toArray (fun i => dd.contains i) pl (Array.replicate l.length false) = true)
    (h : planG E (l.map (·.dst)) D (pl.map fun i => (strip (l.getD i default), dd.contains i)) (Q .normal) st) : Wp E.P B (.region id l.toArray true) Q st :=
  Wp.draw pl dd D hl hok (planG_ok _ _ _ (by rw [List.map_map]; exact h))
section
variable {E : Env} {ds : List (Option Tmp)} {D : List Nat} {rest : List (Oper × Bool)} {K : St → Prop} {st : St} {d : Option Tmp} {op : Op} {ty : TypeId} {pos : String} {after : Array Edge} {dd : Bool}
theorem planG_nil : planG E ds D [] K st = K st := rfl
theorem planG_none : planG E ds D ((⟨d, op, ty, pos, after, none⟩, dd) :: rest) K st = (rdF D st.tm op ∧ opF E ⟨d, op, ty, pos, after, none⟩ (kpD dd D st.ob (planG E ds D rest K)) st) := rfl
theorem planG_some {j : Nat} {want : Bool} : planG E ds D ((⟨d, op, ty, pos, after, some (j, want)⟩, dd) :: rest) K st = (rdF D st.tm op ∧ grdT E ⟨d, op, ty, pos, after, none⟩ (kpD dd D st.ob (planG E ds D rest K)) st want (ds.getD j none)) := by
  simp only [planG]
  congr 1
theorem kpD_f {ob : Obs} {C : St → Prop} : kpD false D ob C = C := rfl
theorem kpD_t {ob : Obs} {C : St → Prop} : kpD true D ob C = keepD D ob C := rfl
end
attribute [go_sem] flg kpD_f kpD_t
attribute [go_sem] strip_mk planG_nil planG_none planG_some rdF
/-- The state of a loop: the temps that count, the others as they are. -/
theorem anyT {p : (Nat → AV) → List AV} {ob ob' : Obs} {tm : List AV} (h : tm = p fun k => tm.getD k (.l .dead)) (ho : ob = ob') : ∃ f, (⟨tm, ob⟩ : St) = ⟨p f, ob'⟩ := ⟨_, by rw [← h, ho]⟩
theorem evc {G G' : Prop} (h : G') (e : G = G' := by (simp only [go_sem, nl, Nat.mul_one, Nat.one_mul, Nat.reducePow, Nat.reduceAdd, Nat.reduceMul, Nat.reduceSub, Nat.reduceLeDiff, Nat.reduceEqDiff, Nat.reduceLT, reduceIte, Int.reduceToNat, Int.reduceLE, Int.reduceLT, reduceCtorEq, List.contains_cons, List.contains_nil, Nat.reduceBEq, Bool.or_false, Bool.false_or, Bool.or_true, Bool.true_or, forall_eq, forall_eq_or_imp, List.mem_cons, List.not_mem_nil, or_false, false_or]) <;> rfl) : G := e.mpr h
end Go.Proofs.YtkdkbnacelnljaaGreat.RE
