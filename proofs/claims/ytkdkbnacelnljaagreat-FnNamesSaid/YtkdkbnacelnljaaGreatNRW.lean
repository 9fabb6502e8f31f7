/- More words for contracts: a row that is handed over, rows of numbers. Conditions: those that a theorem names. -/
import Derived.Test.YtkdkbnacelnljaaGreatNRU
set_option linter.unusedVariables false
set_option linter.unusedSimpArgs false
namespace Go.Proofs.YtkdkbnacelnljaaGreat.RE
open Go Go.RowKit
variable {P : Program} {f : FuncId} {args : List AV} {st : St} {d : Option Tmp} {K : St → Prop}

theorem LendOk.one {ob : Obs} {k : Nat} (h : k < ob.length) : LendOk [k] ob [] := ⟨by simp, by simpa using h, by simp, by simp⟩
/-- Rows of ints that are lent. -/
def encI (l : List Int) : List DV := l.map fun x => .sc (.int .i64 x)
abbrev dI (l : List Int) : AV := .l (.dsl true l.length (encI l))
theorem encI_len (l : List Int) : (encI l).length = l.length := by simp [encI]
theorem lI_encI (l : List Int) (b : Bool) : (encI l).map (LV.ofD b) = l.map ci := by
  simp only [encI, List.map_map]; rfl
theorem atDI {l : List Int} {i : Nat} (h : i < l.length) : ((encI l).drop i).getD 0 .nils = .sc (.int .i64 (l.getD i 0)) := by
  rw [List.getD_eq_getElem?_getD, List.getElem?_drop, Nat.add_zero]
  simp [encI, List.getD_eq_getElem?_getD, h]
/-! ### Rows of keys with numbers, of strings, of bytes -/
structure Sn where
  key : ByteArray
  ret : Int
deriving DecidableEq
instance : Inhabited Sn := ⟨⟨⟨#[]⟩, 0⟩⟩
def sn (s : Sn) : List DV := [.sc (.string s.key), .sc (.int .i64 s.ret)]
def sl (s : Sn) : List LV := [.sc (.string s.key), .sc (.int .i64 s.ret)]
def encS (t : List Sn) : List DV := t.flatMap sn
def lS (t : List Sn) : List LV := t.flatMap sl
abbrev dS (t : List Sn) : AV := .l (.dsl true t.length (encS t))
theorem lS_encS (t : List Sn) (b : Bool) : (encS t).map (LV.ofD b) = lS t := by
  induction t with
  | nil => rfl
  | cons n t ih => simp only [encS, lS, List.flatMap_cons, List.map_append] at ih ⊢; rw [ih]; rfl
theorem lS_flat (t : List Sn) : (lS t).all LV.flat = true := by
  induction t with
  | nil => rfl
  | cons n t ih => simp only [lS, List.flatMap_cons, List.all_append] at ih ⊢; rw [ih]; rfl
theorem encS_len (t : List Sn) : (encS t).length = t.length * 2 := by
  induction t with
  | nil => rfl
  | cons n t ih => simp only [encS, List.flatMap_cons, List.length_append] at ih ⊢; rw [ih]; simp [sn]; omega
theorem lS_len (t : List Sn) : (lS t).length = t.length * 2 := by rw [← lS_encS t true, List.length_map, encS_len]
theorem encS_drop (t : List Sn) (i : Nat) : (encS t).drop (i * 2) = encS (t.drop i) := by
  induction t generalizing i with
  | nil => simp [encS]
  | cons n t ih =>
    cases i with
    | zero => simp
    | succ i =>
      simp only [encS, List.flatMap_cons, List.drop_succ_cons] at ih ⊢
      rw [List.drop_append, List.drop_of_length_le (by simp [sn]; omega)]
      simp only [List.nil_append]
      rw [← ih i]; congr 1; simp [sn]; omega
theorem encS_take (t : List Sn) (i : Nat) : (encS t).take (i * 2) = encS (t.take i) := by
  induction t generalizing i with
  | nil => simp [encS]
  | cons n t ih =>
    cases i with
    | zero => simp [encS]
    | succ i =>
      simp only [encS, List.flatMap_cons, List.take_succ_cons] at ih ⊢
      rw [List.take_append, List.take_of_length_le (by simp [sn]; omega), ← ih i]
      congr 2; simp [sn]; omega
theorem lS_drop (t : List Sn) (i : Nat) : (lS t).drop (i * 2) = lS (t.drop i) := by rw [← lS_encS t true, ← List.map_drop, encS_drop, lS_encS]
theorem lS_take (t : List Sn) (i : Nat) : (lS t).take (i * 2) = lS (t.take i) := by rw [← lS_encS t true, ← List.map_take, encS_take, lS_encS]
theorem lS_app (t u : List Sn) : lS (t ++ u) = lS t ++ lS u := by simp [lS]
theorem dropS {t : List Sn} {i : Nat} (h : i < t.length) : (encS t).drop (i * 2) = sn (t.getD i default) ++ encS (t.drop (i + 1)) := by
  rw [encS_drop, List.drop_eq_getElem_cons h, getD_at h]; rfl
theorem atS {t : List Sn} {i : Nat} (b : Bool) (h : i < t.length) : (((encS t).drop (i * 2)).take 2).map (LV.ofD b) = sl (t.getD i default) := by rw [dropS h]; rfl
theorem fS0 {t : List Sn} {i : Nat} (h : i < t.length) : ((encS t).drop (i * 2)).getD 0 .nils = .sc (.string (t.getD i default).key) := by rw [dropS h]; rfl
theorem fS1 {t : List Sn} {i : Nat} (h : i < t.length) : (((encS t).drop (i * 2)).drop 1).getD 0 .nils = .sc (.int .i64 (t.getD i default).ret) := by rw [dropS h]; rfl
theorem dropLS {t : List Sn} {i : Nat} (h : i < t.length) : (lS t).drop (i * 2) = sl (t.getD i default) ++ lS (t.drop (i + 1)) := by
  rw [lS_drop, List.drop_eq_getElem_cons h, getD_at h]; rfl
theorem atLS {t : List Sn} {i : Nat} (h : i < t.length) : ((lS t).drop (i * 2)).take 2 = sl (t.getD i default) := by rw [dropLS h]; rfl
theorem fLS0 {t : List Sn} {i : Nat} (h : i < t.length) : (lS t).getD (i * 2) .dead = .sc (.string (t.getD i default).key) := by
  have h2 : ((lS t).drop (i * 2)).getD 0 .dead = .sc (.string (t.getD i default).key) := by rw [dropLS h]; rfl
  rw [← h2]; simp [List.getD_eq_getElem?_getD]
theorem fLS1 {t : List Sn} {i : Nat} (h : i < t.length) : (lS t).getD (i * 2 + 1) .dead = .sc (.int .i64 (t.getD i default).ret) := by
  have h2 : ((lS t).drop (i * 2)).getD 1 .dead = .sc (.int .i64 (t.getD i default).ret) := by rw [dropLS h]; rfl
  rw [← h2]; simp [List.getD_eq_getElem?_getD]
theorem pushS (l : List Sn) (n : Nat) (h : l.length = n) (k : ByteArray) (r : Int) : List.take (n * 2) (lS l) ++ [LV.sc (.string k), .sc (.int .i64 r)] = lS (l ++ [⟨k, r⟩]) := by
  rw [List.take_of_length_le (by rw [lS_len]; omega), lS_app]; rfl
theorem pushS' (l : List Sn) (k : ByteArray) (r : Int) : lS l ++ [LV.sc (.string k), .sc (.int .i64 r)] = lS (l ++ [⟨k, r⟩]) := by rw [lS_app]; rfl
theorem setS {l : List Sn} {i : Nat} (h : i < l.length) (k : ByteArray) (r : Int) : List.take (i * 2) (lS l) ++ [LV.sc (.string k), .sc (.int .i64 r)] ++ List.drop (i * 2 + 2) (lS l) = lS (l.set i ⟨k, r⟩) := by
  rw [List.set_eq_take_append_cons_drop, if_pos h, lS_app, lS_take, show i * 2 + 2 = (i + 1) * 2 by omega, lS_drop, List.append_assoc]; rfl
theorem renS (m : Nat → Nat → Option (Nat × Nat)) (l : List Sn) : (lS l).map (LV.ren m) = lS l := map_flat (lS_flat l)
theorem rens (m : Nat → Nat → Option (Nat × Nat)) (n : Sn) : (sl n).map (LV.ren m) = sl n := rfl
abbrev ct (x : ByteArray) : LV := .sc (.string x)
abbrev cu (x : UInt8) : LV := .sc (.int .u8 x.toNat)
theorem flatT (l : List ByteArray) : (l.map ct).all LV.flat = true := by simp [LV.flat]
theorem flatU (l : List UInt8) : (l.map cu).all LV.flat = true := by simp [LV.flat]
def encT (l : List ByteArray) : List DV := l.map fun x => .sc (.string x)
def encU (l : List UInt8) : List DV := l.map fun x => .sc (.int .u8 x.toNat)
abbrev dT (l : List ByteArray) : AV := .l (.dsl true l.length (encT l))
abbrev dU (l : List UInt8) : AV := .l (.dsl true l.length (encU l))
theorem encT_len (l : List ByteArray) : (encT l).length = l.length := by simp [encT]
theorem encU_len (l : List UInt8) : (encU l).length = l.length := by simp [encU]
theorem lT_encT (l : List ByteArray) (b : Bool) : (encT l).map (LV.ofD b) = l.map ct := by simp only [encT, List.map_map]; rfl
theorem lU_encU (l : List UInt8) (b : Bool) : (encU l).map (LV.ofD b) = l.map cu := by simp only [encU, List.map_map]; rfl
theorem atDT {l : List ByteArray} {i : Nat} (h : i < l.length) : ((encT l).drop i).getD 0 .nils = .sc (.string (l.getD i ⟨#[]⟩)) := by
  rw [List.getD_eq_getElem?_getD, List.getElem?_drop, Nat.add_zero]
  simp [encT, List.getD_eq_getElem?_getD, h]
theorem atDU {l : List UInt8} {i : Nat} (h : i < l.length) : ((encU l).drop i).getD 0 .nils = .sc (.int .u8 (l.getD i 0).toNat) := by
  rw [List.getD_eq_getElem?_getD, List.getElem?_drop, Nat.add_zero]
  simp [encU, List.getD_eq_getElem?_getD, h]
theorem atTx {l : List ByteArray} {i : Nat} (h : i < l.length) : (l.map ct).getD i .dead = .sc (.string (l.getD i ⟨#[]⟩)) := by
  simp [List.getD_eq_getElem?_getD, h]
theorem atUx {l : List UInt8} {i : Nat} (h : i < l.length) : (l.map cu).getD i .dead = .sc (.int .u8 (l.getD i 0).toNat) := by
  simp [List.getD_eq_getElem?_getD, h]
theorem renT (m : Nat → Nat → Option (Nat × Nat)) (l : List ByteArray) : (l.map ct).map (LV.ren m) = l.map ct := map_flat (flatT l)
theorem renU (m : Nat → Nat → Option (Nat × Nat)) (l : List UInt8) : (l.map cu).map (LV.ren m) = l.map cu := map_flat (flatU l)
theorem pushTx (l : List ByteArray) (n : Nat) (h : l.length = n) (v : ByteArray) : List.take n (l.map ct) ++ [.sc (.string v)] = (l ++ [v]).map ct := by
  rw [List.take_of_length_le (by simp; omega)]; simp
theorem pushTx' (l : List ByteArray) (v : ByteArray) : l.map ct ++ [.sc (.string v)] = (l ++ [v]).map ct := by simp
theorem setTx {l : List ByteArray} {i : Nat} (h : i < l.length) (v : ByteArray) : List.take i (l.map ct) ++ [LV.sc (.string v)] ++ List.drop (i + 1) (l.map ct) = (l.set i v).map ct := by
  rw [List.set_eq_take_append_cons_drop, if_pos h, List.map_append, List.map_cons, List.map_take, List.map_drop]; simp
theorem bytesOf_cu : ∀ l : List UInt8, bytesOf (l.map cu) = some l
  | [] => rfl
  | b :: l => by
    simp only [List.map_cons, bytesOf, bytesOf_cu l, Option.map_some]
    congr 2
    exact UInt8.toNat_inj.1 (by simp)
theorem strOf_cu (s : ByteArray) : strOf s = s.data.toList.map cu := rfl
end Go.Proofs.YtkdkbnacelnljaaGreat.RE
