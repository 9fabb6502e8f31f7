/- Machines and jobs as arguments: opened as lent rows. Conditions: those that a theorem names. -/
import Derived.Test.YtonacngeaknlcaaGreatDoorRV
import Derived.Test.YtonacngeaknlcaaGreatDoorJ1
import Derived.Test.YtonacngeaknlcaaGreatDoorD1
import Derived.Test.YtonacngeaknlcaaGreatDoorRS
import Derived.Test.YtonacngeaknlcaaGreatDoorJ4
import Derived.Test.YtonacngeaknlcaaGreatDoorM7
/-! Machines and jobs as arguments: opened as lent rows. Conditions: those that a theorem names. -/
set_option linter.unusedVariables false
set_option linter.unusedSimpArgs false
namespace Go.Proofs.YtonacngeaknlcaaGreatDoor.RE
set_option maxRecDepth 100000
open Go Go.RowKit Go.ChangeShapes Go.WideShapes Go.Deep
section
variable {P : Program} {W : World}
theorem opd_strB {t : TypeId} (ht : P.underlying t = some .string) : OpD P W t fun s : {b : ByteArray // b.size ≤ maxLen} => [DV.sc (.string s.1)] := by
  intro H enc base held fuel cs x h
  obtain ⟨n, rfl, _, hn⟩ := DataW.trod_string ht h
  exact ⟨⟨n, hn⟩, .cons (.sc _ rfl) .nil⟩
theorem opd_row {α : Type} {t et : TypeId} {sz : Nat} {e : α → List DV} (ht : P.underlying t = some (.slice et)) (hc : P.cellsOf et = sz) (he : ∀ v, (e v).length = sz) (h : OpD P W et e) : OpD P W t fun xs : {l : List α // l.length ≤ maxLen} => [DV.dsl xs.1.length (xs.1.flatMap e)] := by
  intro H enc base held fuel cs x hx
  obtain ⟨xs, v, rfl, hl, hv⟩ := open_rowD ht hc he h hx
  exact ⟨⟨xs, hl⟩, .cons hv .nil⟩
theorem flat_one {α β : Type} (f : α → β) (l : List α) : l.flatMap (fun x => [f x]) = l.map f := by
  induction l with
  | nil => rfl
  | cons x l ih => rw [List.flatMap_cons, ih]; rfl
end
structure MBd (m : Mc) : Prop where
  row : m.row.length ≤ maxLen
  ones : m.ones.size ≤ maxLen
  vals : m.vals.length ≤ maxLen
  memo : m.memo.length ≤ maxLen
  keys : ∀ s ∈ m.memo, s.key.size ≤ maxLen
def mV (m : Mc) : List DV := [.dsl m.row.length (encB m.row), .sc (.int .i64 m.n), .sc (.string m.ones), .sc (.int .i64 m.room), .dsl m.vals.length (encI m.vals), .sc (.int .i64 m.ret), .sc (.bool m.over), .sc (.int .i64 m.steps), .sc (.int .i64 m.looks), .sc (.int .i64 m.hits), .dsl m.memo.length (encS m.memo)]
def jV (j : Jb) : List DV := .sc (.int .i64 j.state) :: (mV j.m ++ [.sc (.string j.journal), .sc (.int .i64 j.synced)])
theorem mV_mD (m : Mc) : (mV m).map (LV.ofD true) = mD m := rfl
theorem jV_jD (j : Jb) : (jV j).map (LV.ofD true) = jD j := rfl
section
variable {W : World}
theorem oInt : OpD Tryz.prog W 3 fun n : Int => [DV.sc (.int .i64 n)] := opd_int (by kernel_rfl)
theorem oBool : OpD Tryz.prog W 4 fun n : Bool => [DV.sc (.bool n)] := opd_bool (by kernel_rfl)
theorem oStr : OpD Tryz.prog W 9 fun s : {b : ByteArray // b.size ≤ maxLen} => [DV.sc (.string s.1)] := opd_strB (by kernel_rfl)
theorem oTable : OpD Tryz.prog W 24 fun v : Int × {b : ByteArray // b.size ≤ maxLen} => [DV.sc (.int .i64 v.1)] ++ ([DV.sc (.string v.2.1)]) := by
  refine opd_struct (sz := 2) Tryz.underlying24 (by kernel_rfl) ?_
  simp only [List.toList_toArray]
  refine opdL_cons (sa := 1) (sb := 1) (a := fun x : Int => [DV.sc (.int .i64 x)]) (b := fun u : {b : ByteArray // b.size ≤ maxLen} => [DV.sc (.string u.1)]) rfl (by kernel_rfl) oInt ?_ (by simp)
  exact opdL_one rfl (by kernel_rfl) oStr
theorem oSeen : OpD Tryz.prog W 75 fun v : {b : ByteArray // b.size ≤ maxLen} × Int => [DV.sc (.string v.1.1)] ++ ([DV.sc (.int .i64 v.2)]) := by
  refine opd_struct (sz := 2) Tryz.underlying75 (by kernel_rfl) ?_
  simp only [List.toList_toArray]
  refine opdL_cons (sa := 1) (sb := 1) (a := fun x : {b : ByteArray // b.size ≤ maxLen} => [DV.sc (.string x.1)]) (b := fun u : Int => [DV.sc (.int .i64 u)]) rfl (by kernel_rfl) oStr ?_ (by simp)
  exact opdL_one rfl (by kernel_rfl) oInt
theorem oBools : OpD Tryz.prog W 22 fun l : {l : List Bool // l.length ≤ maxLen} => [DV.dsl l.1.length (encB l.1)] :=
  (opd_row (sz := 1) (e := fun n : Bool => [DV.sc (.bool n)]) Tryz.underlying22 (by kernel_rfl) (fun _ => rfl) oBool).iso id fun l => by simp only [encB, id, flat_one]
theorem oInts : OpD Tryz.prog W 25 fun l : {l : List Int // l.length ≤ maxLen} => [DV.dsl l.1.length (encI l.1)] :=
  (opd_row (sz := 1) (e := fun n : Int => [DV.sc (.int .i64 n)]) Tryz.underlying25 (by kernel_rfl) (fun _ => rfl) oInt).iso id fun l => by simp only [encI, id, flat_one]
def SBd (l : List Sn) : Prop := l.length ≤ maxLen ∧ ∀ s ∈ l, s.key.size ≤ maxLen
theorem oSeens : OpD Tryz.prog W 26 fun l : {l : List Sn // SBd l} => [DV.dsl l.1.length (encS l.1)] :=
  (opd_row (sz := 2) Tryz.underlying26 (by kernel_rfl) (fun _ => rfl) oSeen).iso (fun l => ⟨l.1.map fun v => ⟨v.1.1, v.2⟩, by simpa using l.2, fun s hs => by
    obtain ⟨v, _, rfl⟩ := List.mem_map.1 hs
    exact v.1.2⟩) fun l => by
      simp only [List.length_map, encS, List.flatMap_map]
      rfl
theorem oMachine0 : OpD Tryz.prog W 28 fun v : {l : List Bool // l.length ≤ maxLen} × (Int × {b : ByteArray // b.size ≤ maxLen}) × Int × {l : List Int // l.length ≤ maxLen} × Int × Bool × Int × Int × Int × {l : List Sn // SBd l} => [DV.dsl v.1.1.length (encB v.1.1)] ++ (([DV.sc (.int .i64 v.2.1.1)] ++ ([DV.sc (.string v.2.1.2.1)])) ++ ([DV.sc (.int .i64 v.2.2.1)] ++ ([DV.dsl v.2.2.2.1.1.length (encI v.2.2.2.1.1)] ++ ([DV.sc (.int .i64 v.2.2.2.2.1)] ++ ([DV.sc (.bool v.2.2.2.2.2.1)] ++ ([DV.sc (.int .i64 v.2.2.2.2.2.2.1)] ++ ([DV.sc (.int .i64 v.2.2.2.2.2.2.2.1)] ++ ([DV.sc (.int .i64 v.2.2.2.2.2.2.2.2.1)] ++ ([DV.dsl v.2.2.2.2.2.2.2.2.2.1.length (encS v.2.2.2.2.2.2.2.2.2.1)]))))))))) := by
  refine opd_struct (sz := 11) Tryz.underlying28 (by kernel_rfl) ?_
  simp only [List.toList_toArray]
  refine opdL_cons (sa := 1) (sb := 10) (a := fun x : {l : List Bool // l.length ≤ maxLen} => [DV.dsl x.1.length (encB x.1)]) (b := fun u : (Int × {b : ByteArray // b.size ≤ maxLen}) × Int × {l : List Int // l.length ≤ maxLen} × Int × Bool × Int × Int × Int × {l : List Sn // SBd l} => ([DV.sc (.int .i64 u.1.1)] ++ ([DV.sc (.string u.1.2.1)])) ++ ([DV.sc (.int .i64 u.2.1)] ++ ([DV.dsl u.2.2.1.1.length (encI u.2.2.1.1)] ++ ([DV.sc (.int .i64 u.2.2.2.1)] ++ ([DV.sc (.bool u.2.2.2.2.1)] ++ ([DV.sc (.int .i64 u.2.2.2.2.2.1)] ++ ([DV.sc (.int .i64 u.2.2.2.2.2.2.1)] ++ ([DV.sc (.int .i64 u.2.2.2.2.2.2.2.1)] ++ ([DV.dsl u.2.2.2.2.2.2.2.2.1.length (encS u.2.2.2.2.2.2.2.2.1)]))))))))) rfl (by kernel_rfl) oBools ?_ (by simp)
  refine opdL_cons (sa := 2) (sb := 8) (a := fun x : (Int × {b : ByteArray // b.size ≤ maxLen}) => ([DV.sc (.int .i64 x.1)] ++ ([DV.sc (.string x.2.1)]))) (b := fun u : Int × {l : List Int // l.length ≤ maxLen} × Int × Bool × Int × Int × Int × {l : List Sn // SBd l} => [DV.sc (.int .i64 u.1)] ++ ([DV.dsl u.2.1.1.length (encI u.2.1.1)] ++ ([DV.sc (.int .i64 u.2.2.1)] ++ ([DV.sc (.bool u.2.2.2.1)] ++ ([DV.sc (.int .i64 u.2.2.2.2.1)] ++ ([DV.sc (.int .i64 u.2.2.2.2.2.1)] ++ ([DV.sc (.int .i64 u.2.2.2.2.2.2.1)] ++ ([DV.dsl u.2.2.2.2.2.2.2.1.length (encS u.2.2.2.2.2.2.2.1)])))))))) rfl (by kernel_rfl) oTable ?_ (by simp)
  refine opdL_cons (sa := 1) (sb := 7) (a := fun x : Int => [DV.sc (.int .i64 x)]) (b := fun u : {l : List Int // l.length ≤ maxLen} × Int × Bool × Int × Int × Int × {l : List Sn // SBd l} => [DV.dsl u.1.1.length (encI u.1.1)] ++ ([DV.sc (.int .i64 u.2.1)] ++ ([DV.sc (.bool u.2.2.1)] ++ ([DV.sc (.int .i64 u.2.2.2.1)] ++ ([DV.sc (.int .i64 u.2.2.2.2.1)] ++ ([DV.sc (.int .i64 u.2.2.2.2.2.1)] ++ ([DV.dsl u.2.2.2.2.2.2.1.length (encS u.2.2.2.2.2.2.1)]))))))) rfl (by kernel_rfl) oInt ?_ (by simp)
  refine opdL_cons (sa := 1) (sb := 6) (a := fun x : {l : List Int // l.length ≤ maxLen} => [DV.dsl x.1.length (encI x.1)]) (b := fun u : Int × Bool × Int × Int × Int × {l : List Sn // SBd l} => [DV.sc (.int .i64 u.1)] ++ ([DV.sc (.bool u.2.1)] ++ ([DV.sc (.int .i64 u.2.2.1)] ++ ([DV.sc (.int .i64 u.2.2.2.1)] ++ ([DV.sc (.int .i64 u.2.2.2.2.1)] ++ ([DV.dsl u.2.2.2.2.2.1.length (encS u.2.2.2.2.2.1)])))))) rfl (by kernel_rfl) oInts ?_ (by simp)
  refine opdL_cons (sa := 1) (sb := 5) (a := fun x : Int => [DV.sc (.int .i64 x)]) (b := fun u : Bool × Int × Int × Int × {l : List Sn // SBd l} => [DV.sc (.bool u.1)] ++ ([DV.sc (.int .i64 u.2.1)] ++ ([DV.sc (.int .i64 u.2.2.1)] ++ ([DV.sc (.int .i64 u.2.2.2.1)] ++ ([DV.dsl u.2.2.2.2.1.length (encS u.2.2.2.2.1)]))))) rfl (by kernel_rfl) oInt ?_ (by simp)
  refine opdL_cons (sa := 1) (sb := 4) (a := fun x : Bool => [DV.sc (.bool x)]) (b := fun u : Int × Int × Int × {l : List Sn // SBd l} => [DV.sc (.int .i64 u.1)] ++ ([DV.sc (.int .i64 u.2.1)] ++ ([DV.sc (.int .i64 u.2.2.1)] ++ ([DV.dsl u.2.2.2.1.length (encS u.2.2.2.1)])))) rfl (by kernel_rfl) oBool ?_ (by simp)
  refine opdL_cons (sa := 1) (sb := 3) (a := fun x : Int => [DV.sc (.int .i64 x)]) (b := fun u : Int × Int × {l : List Sn // SBd l} => [DV.sc (.int .i64 u.1)] ++ ([DV.sc (.int .i64 u.2.1)] ++ ([DV.dsl u.2.2.1.length (encS u.2.2.1)]))) rfl (by kernel_rfl) oInt ?_ (by simp)
  refine opdL_cons (sa := 1) (sb := 2) (a := fun x : Int => [DV.sc (.int .i64 x)]) (b := fun u : Int × {l : List Sn // SBd l} => [DV.sc (.int .i64 u.1)] ++ ([DV.dsl u.2.1.length (encS u.2.1)])) rfl (by kernel_rfl) oInt ?_ (by simp)
  refine opdL_cons (sa := 1) (sb := 1) (a := fun x : Int => [DV.sc (.int .i64 x)]) (b := fun u : {l : List Sn // SBd l} => [DV.dsl u.1.length (encS u.1)]) rfl (by kernel_rfl) oInt ?_ (by simp)
  exact opdL_one rfl (by kernel_rfl) oSeens
theorem oMachine : OpD Tryz.prog W 28 fun m : {m : Mc // MBd m} => mV m.1 :=
  oMachine0.iso (fun (v : {l : List Bool // l.length ≤ maxLen} × (Int × {b : ByteArray // b.size ≤ maxLen}) × Int × {l : List Int // l.length ≤ maxLen} × Int × Bool × Int × Int × Int × {l : List Sn // SBd l}) => ⟨⟨v.1.1, v.2.1.1, v.2.1.2.1, v.2.2.1, v.2.2.2.1.1, v.2.2.2.2.1, v.2.2.2.2.2.1, v.2.2.2.2.2.2.1, v.2.2.2.2.2.2.2.1, v.2.2.2.2.2.2.2.2.1, v.2.2.2.2.2.2.2.2.2.1⟩, ⟨v.1.2, v.2.1.2.2, v.2.2.2.1.2, v.2.2.2.2.2.2.2.2.2.2.1, v.2.2.2.2.2.2.2.2.2.2.2⟩⟩) fun v => rfl
theorem oJob0 : OpD Tryz.prog W 30 fun v : Int × {m : Mc // MBd m} × {b : ByteArray // b.size ≤ maxLen} × Int => [DV.sc (.int .i64 v.1)] ++ (mV v.2.1.1 ++ ([DV.sc (.string v.2.2.1.1)] ++ ([DV.sc (.int .i64 v.2.2.2)]))) := by
  refine opd_struct (sz := 14) Tryz.underlying30 (by kernel_rfl) ?_
  simp only [List.toList_toArray]
  refine opdL_cons (sa := 1) (sb := 13) (a := fun x : Int => [DV.sc (.int .i64 x)]) (b := fun u : {m : Mc // MBd m} × {b : ByteArray // b.size ≤ maxLen} × Int => mV u.1.1 ++ ([DV.sc (.string u.2.1.1)] ++ ([DV.sc (.int .i64 u.2.2)]))) rfl (by kernel_rfl) oInt ?_ (by simp)
  refine opdL_cons (sa := 11) (sb := 2) (a := fun x : {m : Mc // MBd m} => mV x.1) (b := fun u : {b : ByteArray // b.size ≤ maxLen} × Int => [DV.sc (.string u.1.1)] ++ ([DV.sc (.int .i64 u.2)])) rfl (by kernel_rfl) oMachine ?_ (by simp)
  refine opdL_cons (sa := 1) (sb := 1) (a := fun x : {b : ByteArray // b.size ≤ maxLen} => [DV.sc (.string x.1)]) (b := fun u : Int => [DV.sc (.int .i64 u)]) rfl (by kernel_rfl) oStr ?_ (by simp)
  exact opdL_one rfl (by kernel_rfl) oInt
theorem oJob : OpD Tryz.prog W 30 fun j : {j : Jb // MBd j.m ∧ j.journal.size ≤ maxLen} => jV j.1 :=
  oJob0.iso (fun (v : Int × {m : Mc // MBd m} × {b : ByteArray // b.size ≤ maxLen} × Int) => ⟨⟨v.1, v.2.1.1, v.2.2.1.1, v.2.2.2⟩, v.2.1.2, v.2.2.1.2⟩) fun v => rfl
/-- A record as an argument. -/
theorem open_rec {P : Program} {α : Type} {t : TypeId} {e : α → List DV} {fs : Array Field} (ht : P.underlying t = some (.struct fs)) (h : OpD P W t e) {H : Type} {enc : TypeId × Value → H} {base : Nat} {held : Bool} {v : Value} {d : DataW H} {ps : List MemPlace} (hv : Value.okWide P W .any base t v) (hd : DataW.Trod enc P W 0 (fun _ => true) held t v d ps) :
    ∃ (x : α) (cs : Array Value), v = .agg cs ∧ All2 (VD W (rB W)) (e x) cs.toList := by
  obtain ⟨cs, rfl, _⟩ := okWide_struct ht hv
  obtain ⟨fuel, hf⟩ := hd
  obtain ⟨x, hx⟩ := h H enc 0 held fuel _ _ hf
  exact ⟨x, cs, rfl, hx⟩
theorem arg_agg {ds : List DV} {cs : Array Value} {ls : List LV} (hl : ds.map (LV.ofD true) = ls) (h : All2 (VD W (rB W)) ds cs.toList) : VA W (cx0 W).ρ (RO W (cx0 W) []) (.agg ls) (.agg cs) := by
  subst hl
  refine ⟨cs, rfl, All2.map_l (h.imp fun d v hd => ⟨?_, hd.one⟩)⟩
  have := hd.mono (r' := RO W (cx0 W) [] true) (w' := W) fun b hb => ⟨ro0 b hb, rfl⟩
  cases this with
  | sc v h => rfl
  | nils => rfl
  | dsl len cs a cap us h1 h1' h2 h3 => exact .dsl len cs a cap us h1 h1' h2 h3
end
end Go.Proofs.YtonacngeaknlcaaGreatDoor.RE
/-! Marks of machines in the laws. Conditions: those that a theorem names. -/
set_option linter.unusedVariables false
set_option linter.unusedSimpArgs false
namespace Go.Proofs.YtonacngeaknlcaaGreatDoor.RE
open Go Go.RowKit
set_option maxRecDepth 100000
set_option maxHeartbeats 8000000

theorem lS_set {n' : Sn} {c : LV} {j : Nat} (hj : j < 2) : ∀ {l : List Sn} {i : Nat}, i < l.length → sl n' = (sl (l.getD i default)).set j c → (lS l).set (i * 2 + j) c = lS (l.set i n')
  | a :: l, 0, _, h => by
    have e : lS (a :: l) = sl a ++ lS l := rfl
    rw [e, Nat.zero_mul, Nat.zero_add, List.set_append_left _ _ (by show j < 2; omega), List.set_cons_zero]
    show _ = sl n' ++ lS l
    rw [h]; rfl
  | a :: l, i + 1, h, h2 => by
    have e : lS (a :: l) = sl a ++ lS l := rfl
    have h3 := lS_set (n' := n') (c := c) hj (l := l) (i := i) (by simpa using h) (by simpa using h2)
    rw [e, List.set_append_right _ _ (by show 2 ≤ _; omega), List.set_cons_succ, show (i + 1) * 2 + j - (sl a).length = i * 2 + j by show (i + 1) * 2 + j - 2 = _; omega, h3]
    rfl
section
variable {l : List Sn} {i : Nat}
theorem setG0 (h : i < l.length) (k : ByteArray) : List.take (i * 2) (lS l) ++ LV.sc (.string k) :: List.drop (i * 2 + 1) (lS l) = lS (l.set i { l.getD i default with key := k }) := by
  rw [show List.take (i * 2) (lS l) ++ LV.sc (.string k) :: List.drop (i * 2 + 1) (lS l) = List.take (i * 2) (lS l) ++ [LV.sc (.string k)] ++ List.drop (i * 2 + 1) (lS l) by simp, cell_set (by rw [lS_len]; omega)]; exact lS_set (j := 0) (by decide) h rfl
theorem setG1 (h : i < l.length) (r : Int) : List.take (i * 2 + 1) (lS l) ++ LV.sc (.int .i64 r) :: List.drop (i * 2 + 1 + 1) (lS l) = lS (l.set i { l.getD i default with ret := r }) := by
  rw [show List.take (i * 2 + 1) (lS l) ++ LV.sc (.int .i64 r) :: List.drop (i * 2 + 1 + 1) (lS l) = List.take (i * 2 + 1) (lS l) ++ [LV.sc (.int .i64 r)] ++ List.drop (i * 2 + 1 + 1) (lS l) by simp, cell_set (by rw [lS_len]; omega)]; exact lS_set (j := 1) (by decide) h rfl
end
attribute [go_sem] setG0 setG1
/-! ### A mark as a text -/
def mkTx (k : Int) : ByteArray := if k ≤ 0 then ⟨#[109, 48]⟩ else mkB (109 :: decL k.toNat)
theorem bytes_digI (n : Nat) : bytesOf [.sc (.int .u8 (IntKind.u8.wrap (48 + (n : Int).tmod 10)))] = some [dig (n % 10)] := by
  have e : (n : Int).tmod 10 = ((n % 10 : Nat) : Int) := by rw [Int.tmod_eq_emod_of_nonneg (by omega)]; rfl
  rw [e]
  have : n % 10 = 0 ∨ n % 10 = 1 ∨ n % 10 = 2 ∨ n % 10 = 3 ∨ n % 10 = 4 ∨ n % 10 = 5 ∨ n % 10 = 6 ∨ n % 10 = 7 ∨ n % 10 = 8 ∨ n % 10 = 9 := by omega
  rcases this with h | h | h | h | h | h | h | h | h | h <;> rw [h] <;> rfl
theorem tmod_le (n : Nat) : 0 ≤ (n : Int).tmod 10 ∧ (n : Int).tmod 10 ≤ 9 := by
  rw [Int.tmod_eq_emod_of_nonneg (by omega)]; omega
theorem markText_c (k : Int) (h0 : 0 ≤ k) (hk : k ≤ 100000000) : Val E.P 74 [I k] (S (mkTx k)) := by
  refine CallsA.body (E := E) (fn := Tryz.f74) Tryz.func74 rfl fun B hB => ?_
  simp only [Tryz.ntmps74, go_sem, nl, Nat.reduceSub, Nat.reduceAdd, List.reduceReplicate]
  obtain ⟨n, rfl⟩ : ∃ n : Nat, k = n := ⟨k.toNat, by omega⟩
  refine Wp.seqK fun K1 hK1 => ?_
  refine rg ?_
  refine hK1 _ ?_
  clear hK1 K1
  refine Wp.seqK fun K2 hK2 => ?_
  refine Wp.seqK fun K3 hK3 => ?_
  refine rg ?_
  refine hK3 _ ?_
  clear hK3 K3
  refine Wp.condS (fun h5 => ?_) (fun h5 => ?_)
  · refine Wp.seqK fun K4 hK4 => ?_
    refine rg ?_
    refine hK4 _ ?_
    clear hK4 K4
    refine Wp.ret (retV ?_)
    try simp only [List.getD_cons_zero, List.getD_cons_succ]
    unfold mkTx
    rw [if_pos (by omega)]
  · refine Wp.skip ?_
    refine hK2 _ ?_
    clear hK2 K2
    refine Wp.seqK fun K5 hK5 => ?_
    refine rg ?_
    refine hK5 _ ?_
    clear hK5 K5
    refine Wp.seqK fun K6 hK6 => ?_
    refine Wp.block ?_
    refine Wp.loopU0 (α := Nat × List UInt8) (fun x => [.v (I (x.1 : Int)), .d, .d, .v (S (mkB x.2)), .d5, .d5, .d5, .d]) (fun x => x.1 ≤ n ∧ rest x.1 x.2 = decL n ∧ (x.2 = [] → 0 < x.1)) (fun x => x.1) (n, []) (⟨Nat.le_refl _, rfl, fun _ => by omega⟩) anyS ?_
    rintro x f7 K7 ⟨hn, he, hp⟩ hK7
    simp only [updT_k, updT_d, updT_d5, updT_v, updT_nil, Nat.reduceAdd]
    refine Wp.seqK fun K8 hK8 => ?_
    refine Wp.seqK fun K9 hK9 => ?_
    refine rg ?_
    refine hK9 _ ?_
    clear hK9 K9
    refine Wp.condS (fun h7 => ?_) (fun h7 => ?_)
    · have hc : x.2 = [] ∨ 0 < x.1 := .inr (by omega)
      refine Wp.skip ?_
      refine hK8 _ ?_
      clear hK8 K8
      refine Wp.block ?_
      refine Wp.seqK fun K10 hK10 => ?_
      refine rg ?_
      have htm := tmod_le x.1
      rw [wr (by omega) (by omega)]
      simp only [bytes_digI]
      refine ⟨dig_room he (by omega), ?_⟩
      refine hK10 _ ?_
      clear hK10 K10
      refine Wp.keepR 0 [] (by rw [hB]; simp) (by simp) (by simp) (by simp) ?_
      refine evd ?_
      refine rg ?_
      try simp only [thn, inB, if_true, reduceIte]
      exact hK7 (x.1 / 10, dig (x.1 % 10) :: x.2) _ ⟨by omega, (rest_step hc).trans he, fun e => by cases e⟩ (Nat.div_lt_self (by omega) (by decide)) (anyS (h := by simp only [tdiv10, one_app]; rw [wr (by omega) (by omega)]; rfl))
    · have hz : x.1 = 0 := by omega
      have hx : x.2 ≠ [] := fun e => by have := hp e; omega
      refine Wp.exit ?_
      try simp only [thn, inB, if_true, reduceIte]
      clear hK8 K8
      clear hK7 K7
      refine hK6 _ ?_
      clear hK6 K6
      refine Wp.seqK fun K11 hK11 => ?_
      refine rg ?_
      have h2 : x.2 = decL n := by rw [← he, rest_end hz hx]
      have h3 := decL_len 18 n (by have : 10 ^ (18 + 1) = 10000000000000000000 := rfl; omega)
      refine ⟨by rw [mkB_size, h2]; have h4 : #[(109 : UInt8)].size = 1 := rfl; omega, ?_⟩
      refine hK11 _ ?_
      clear hK11 K11
      refine Wp.ret (retV ?_)
      try simp only [List.getD_cons_zero, List.getD_cons_succ]
      unfold mkTx
      rw [if_neg (by omega), Int.toNat_natCast, ← he, rest_end hz hx, one_app]
def markBo (n : Nat) (k : Int) : List Bool := (List.range n).map fun (i : Nat) => decide ((k + (i : Int)).tmod 3 = 0)
theorem markBo_at {n i : Nat} {k : Int} (h : i < n) : (markBo n k).getD i false = decide ((k + (i : Int)).tmod 3 = 0) := by simp [markBo, List.getD_eq_getElem?_getD, h]
theorem markBo_len (n : Nat) (k : Int) : (markBo n k).length = n := by simp [markBo]
theorem markBoolS_c (l : List Bool) (g : Nat) (k : Int) (h0 : 0 ≤ k) (h1 : k ≤ 10000000) (hl : l.length ≤ 1048576) : CallsA E.P 41 [.l (.obj 0 g 1 0 l.length), I k] [some ⟨g, l.map cb⟩] fun r ob => r = I (k + l.length) ∧ ob = [some ⟨g, (markBo l.length k).map cb⟩] := by
  refine CallsA.body (E := E) (fn := Tryz.f41) Tryz.func41 rfl fun B hB => ?_
  simp only [Tryz.ntmps41, go_sem, nl, Nat.reduceSub, Nat.reduceAdd, List.reduceReplicate]
  refine Wp.seqK fun K1 hK1 => ?_
  refine rg ?_
  refine hK1 _ ?_
  clear hK1 K1
  refine Wp.seqK fun K2 hK2 => ?_
  refine Wp.seqK fun K3 hK3 => ?_
  refine rg ?_
  refine hK3 _ ?_
  clear hK3 K3
  refine Wp.block ?_
  refine Wp.loopU (α := Nat) (fun x => [.k, .v (I (k + x)), .d, .d, .d, .v (I x), .d5, .d5, .d5]) (fun x => [some ⟨g, (mkR (fun (i : Nat) => decide ((k + (i : Int)).tmod 3 = 0)) l x).map cb⟩]) (fun x => x ≤ l.length) (fun x => l.length - x) 0 (by omega) (anyS) ?_
  rintro x f4 K4 hx hK4
  simp only [updT_k, updT_d, updT_d5, updT_v, updT_nil, Nat.reduceAdd]
  have hml := mkR_len (fun (i : Nat) => decide ((k + (i : Int)).tmod 3 = 0)) l hx
  refine Wp.seqK fun K5 hK5 => ?_
  refine Wp.seqK fun K6 hK6 => ?_
  refine rg ?_
  refine hK6 _ ?_
  clear hK6 K6
  refine Wp.condS (fun h9 => ?_) (fun h9 => ?_)
  · refine Wp.skip ?_
    refine hK5 _ ?_
    clear hK5 K5
    refine Wp.seqK fun K7 hK7 => ?_
    refine Wp.block ?_
    refine Wp.seqK fun K8 hK8 => ?_
    refine rg ?_
    refine hK8 _ ?_
    clear hK8 K8
    refine rg ?_
    try simp only [thn, inB, if_true, reduceIte]
    refine hK7 _ ?_
    clear hK7 K7
    refine rg ?_
    rw [mkR_set (fun (i : Nat) => decide ((k + (i : Int)).tmod 3 = 0)) l (show x < l.length by omega)]
    exact hK4 (x + 1) _ (by omega) (by omega) anyS
  · have hxl : x = l.length := by omega
    subst hxl
    refine Wp.exit ?_
    try simp only [thn, inB, if_true, reduceIte]
    clear hK5 K5
    clear hK4 K4
    refine hK2 _ ?_
    clear hK2 K2
    refine Wp.seqK fun K9 hK9 => ?_
    refine rg ?_
    refine hK9 _ ?_
    clear hK9 K9
    refine Wp.ret (retH ?_ ?_)
    · rfl
    · rw [mkR_end]; rfl
theorem heldBoolS_c (n : Nat) (k : Int) (h0 : 0 ≤ k) (h1 : k ≤ 10000000) (hl : n ≤ 1048576) : Val E.P 44 [dB (markBo n k), I k] (I (k + n)) := by
  refine CallsA.body (E := E) (fn := Tryz.f44) Tryz.func44 rfl fun B hB => ?_
  simp only [Tryz.ntmps44, go_sem, nl, Nat.reduceSub, Nat.reduceAdd, List.reduceReplicate]
  have hml := markBo_len n k
  refine Wp.seqK fun K1 hK1 => ?_
  refine rg ?_
  refine hK1 _ ?_
  clear hK1 K1
  refine Wp.seqK fun K2 hK2 => ?_
  refine Wp.seqK fun K3 hK3 => ?_
  refine rg ?_
  refine hK3 _ ?_
  clear hK3 K3
  refine Wp.block ?_
  refine Wp.loopU0 (α := Nat) (fun x => [.k, .v (I (k + x)), .d, .d, .d, .v (I x), .d5, .d5, .d5, .d, .d]) (fun x => x ≤ n) (fun x => n - x) 0 (by omega) anyS ?_
  rintro x f4 K4 hx hK4
  simp only [updT_k, updT_d, updT_d5, updT_v, updT_nil, Nat.reduceAdd]
  refine Wp.seqK fun K5 hK5 => ?_
  refine Wp.seqK fun K6 hK6 => ?_
  refine rg ?_
  refine hK6 _ ?_
  clear hK6 K6
  refine Wp.condS (fun h9 => ?_) (fun h9 => ?_)
  · refine Wp.skip ?_
    refine hK5 _ ?_
    clear hK5 K5
    refine Wp.seqK fun K7 hK7 => ?_
    refine Wp.block ?_
    refine Wp.seqK fun K8 hK8 => ?_
    refine Wp.seqK fun K9 hK9 => ?_
    refine rg ?_
    refine hK9 _ ?_
    clear hK9 K9
    refine Wp.condS (fun h19 => ?_) (fun h19 => ?_)
    · exact absurd h19 (by rw [markBo_at (by omega)]; simp)
    · refine Wp.skip ?_
      refine hK8 _ ?_
      clear hK8 K8
      refine rg ?_
      try simp only [thn, inB, if_true, reduceIte]
      refine hK7 _ ?_
      clear hK7 K7
      refine rg ?_
      exact hK4 (x + 1) _ (by omega) (by omega) anyS
  · have hxl : x = n := by omega
    subst hxl
    refine Wp.exit ?_
    try simp only [thn, inB, if_true, reduceIte]
    clear hK5 K5
    clear hK4 K4
    refine hK2 _ ?_
    clear hK2 K2
    refine Wp.seqK fun K10 hK10 => ?_
    refine rg ?_
    refine hK10 _ ?_
    clear hK10 K10
    refine Wp.ret (retV ?_)
    try simp only [List.getD_cons_zero, List.getD_cons_succ]
def markSn (n : Nat) (k : Int) : List Sn := (List.range n).map fun (i : Nat) => (⟨mkTx (k + 2 * (i : Int)), k + 2 * (i : Int) + 1⟩ : Sn)
theorem markSn_at {n i : Nat} {k : Int} (h : i < n) : (markSn n k).getD i default = ⟨mkTx (k + 2 * (i : Int)), k + 2 * (i : Int) + 1⟩ := by simp [markSn, List.getD_eq_getElem?_getD, h]
theorem markSn_len (n : Nat) (k : Int) : (markSn n k).length = n := by simp [markSn]
theorem markSeenS_c (l : List Sn) (g : Nat) (k : Int) (h0 : 0 ≤ k) (h1 : k ≤ 10000000) (hl : l.length ≤ 1048576) : CallsA E.P 43 [.l (.obj 0 g 2 0 l.length), I k] [some ⟨g, lS l⟩] fun r ob => r = I (k + 2 * l.length) ∧ ob = [some ⟨g, lS (markSn l.length k)⟩] := by
  refine CallsA.body (E := E) (fn := Tryz.f43) Tryz.func43 rfl fun B hB => ?_
  simp only [Tryz.ntmps43, go_sem, nl, Nat.reduceSub, Nat.reduceAdd, List.reduceReplicate]
  refine Wp.seqK fun K1 hK1 => ?_
  refine rg ?_
  refine hK1 _ ?_
  clear hK1 K1
  refine Wp.seqK fun K2 hK2 => ?_
  refine Wp.seqK fun K3 hK3 => ?_
  refine rg ?_
  refine hK3 _ ?_
  clear hK3 K3
  refine Wp.block ?_
  refine Wp.loopU (α := Nat) (fun x => [.k, .v (I (k + 2 * x)), .d, .d, .d, .v (I x), .d5, .d5, .d5, .d5, .d, .d]) (fun x => [some ⟨g, lS (mkR (fun (i : Nat) => (⟨mkTx (k + 2 * (i : Int)), k + 2 * (i : Int) + 1⟩ : Sn)) l x)⟩]) (fun x => x ≤ l.length) (fun x => l.length - x) 0 (by omega) (anyS) ?_
  rintro x f4 K4 hx hK4
  simp only [updT_k, updT_d, updT_d5, updT_v, updT_nil, Nat.reduceAdd]
  have hml := mkR_len (fun (i : Nat) => (⟨mkTx (k + 2 * (i : Int)), k + 2 * (i : Int) + 1⟩ : Sn)) l hx
  refine Wp.seqK fun K5 hK5 => ?_
  refine Wp.seqK fun K6 hK6 => ?_
  refine rg ?_
  refine hK6 _ ?_
  clear hK6 K6
  refine Wp.condS (fun h9 => ?_) (fun h9 => ?_)
  · refine Wp.skip ?_
    refine hK5 _ ?_
    clear hK5 K5
    refine Wp.seqK fun K7 hK7 => ?_
    refine Wp.block ?_
    refine Wp.seqK fun K8 hK8 => ?_
    refine rg ?_
    refine ⟨rfl, CallK.valA (h := markText_c _ (by omega) (by omega)) (k := ?_)⟩
    refine evd ?_
    refine hK8 _ ?_
    clear hK8 K8
    refine Wp.seqK fun K9 hK9 => ?_
    refine rg ?_
    refine hK9 _ ?_
    clear hK9 K9
    refine Wp.seqK fun K10 hK10 => ?_
    refine rg ?_
    refine hK10 _ ?_
    clear hK10 K10
    refine rg ?_
    try simp only [thn, inB, if_true, reduceIte]
    refine hK7 _ ?_
    clear hK7 K7
    refine rg ?_
    exact hK4 (x + 1) _ (by omega) (by omega) (anyS (ho := by rw [← mkR_set (fun (i : Nat) => (⟨mkTx (k + 2 * (i : Int)), k + 2 * (i : Int) + 1⟩ : Sn)) l (show x < l.length by omega)]))
  · have hxl : x = l.length := by omega
    subst hxl
    refine Wp.exit ?_
    try simp only [thn, inB, if_true, reduceIte]
    clear hK5 K5
    clear hK4 K4
    refine hK2 _ ?_
    clear hK2 K2
    refine Wp.seqK fun K11 hK11 => ?_
    refine rg ?_
    refine hK11 _ ?_
    clear hK11 K11
    refine Wp.ret (retH ?_ ?_)
    · rfl
    · rw [mkR_end]; rfl
theorem heldSeenS_c (n : Nat) (k : Int) (h0 : 0 ≤ k) (h1 : k ≤ 10000000) (hl : n ≤ 1048576) : Val E.P 46 [dS (markSn n k), I k] (I (k + 2 * n)) := by
  refine CallsA.body (E := E) (fn := Tryz.f46) Tryz.func46 rfl fun B hB => ?_
  simp only [Tryz.ntmps46, go_sem, nl, Nat.reduceSub, Nat.reduceAdd, List.reduceReplicate]
  have hml := markSn_len n k
  refine Wp.seqK fun K1 hK1 => ?_
  refine rg ?_
  refine hK1 _ ?_
  clear hK1 K1
  refine Wp.seqK fun K2 hK2 => ?_
  refine Wp.seqK fun K3 hK3 => ?_
  refine rg ?_
  refine hK3 _ ?_
  clear hK3 K3
  refine Wp.block ?_
  refine Wp.loopU0 (α := Nat) (fun x => [.k, .v (I (k + 2 * x)), .d, .d, .d, .v (I x), .d5, .d5, .d5, .d5, .d5, .d]) (fun x => x ≤ n) (fun x => n - x) 0 (by omega) anyS ?_
  rintro x f4 K4 hx hK4
  simp only [updT_k, updT_d, updT_d5, updT_v, updT_nil, Nat.reduceAdd]
  refine Wp.seqK fun K5 hK5 => ?_
  refine Wp.seqK fun K6 hK6 => ?_
  refine rg ?_
  refine hK6 _ ?_
  clear hK6 K6
  refine Wp.condS (fun h9 => ?_) (fun h9 => ?_)
  · refine Wp.skip ?_
    refine hK5 _ ?_
    clear hK5 K5
    refine Wp.seqK fun K7 hK7 => ?_
    refine Wp.block ?_
    refine Wp.seqK fun K8 hK8 => ?_
    refine Wp.seqK fun K9 hK9 => ?_
    refine Wp.drawI [0, 1, 2, 3, 4, 5, 6, 7] [6] (by kernel_rfl) ?_
    refine evd ?_
    refine ⟨rfl, CallK.valA (h := markText_c _ (by omega) (by omega)) (k := ?_)⟩
    refine evd ?_
    refine hK9 _ ?_
    clear hK9 K9
    refine Wp.condS (fun h19 => ?_) (fun h19 => ?_)
    · exact absurd (show _ = _ by rw [markSn_at (by omega)]) h19
    · refine Wp.skip ?_
      refine hK8 _ ?_
      clear hK8 K8
      refine Wp.seqK fun K10 hK10 => ?_
      refine rg ?_
      refine hK10 _ ?_
      clear hK10 K10
      refine Wp.seqK fun K11 hK11 => ?_
      refine Wp.seqK fun K12 hK12 => ?_
      refine rg ?_
      refine hK12 _ ?_
      clear hK12 K12
      refine Wp.condS (fun h28 => ?_) (fun h28 => ?_)
      · exact absurd (show _ = _ by rw [markSn_at (by omega)]) h28
      · refine Wp.skip ?_
        refine hK11 _ ?_
        clear hK11 K11
        refine rg ?_
        try simp only [thn, inB, if_true, reduceIte]
        refine hK7 _ ?_
        clear hK7 K7
        refine rg ?_
        exact hK4 (x + 1) _ (by omega) (by omega) anyS
  · have hxl : x = n := by omega
    subst hxl
    refine Wp.exit ?_
    try simp only [thn, inB, if_true, reduceIte]
    clear hK5 K5
    clear hK4 K4
    refine hK2 _ ?_
    clear hK2 K2
    refine Wp.seqK fun K13 hK13 => ?_
    refine rg ?_
    refine hK13 _ ?_
    clear hK13 K13
    refine Wp.ret (retV ?_)
    try simp only [List.getD_cons_zero, List.getD_cons_succ]

/-! ### A machine's marks -/
def totM (m : Mc) : Int := m.row.length + m.vals.length + 2 * m.memo.length
def mkM (m : Mc) (k : Int) : Obs := [some ⟨0, (markBo m.row.length k).map cb⟩, some ⟨0, (markI m.vals.length (k + m.row.length)).map ci⟩, some ⟨0, lS (markSn m.memo.length (k + m.row.length + m.vals.length))⟩]
theorem mkM_shut (m : Mc) (k : Int) : obShut 3 (mkM m k) = true := by
  simp only [mkM, obShut, List.all_cons, List.all_nil, flat_shut (flatI _), flat_shut (flatB _), flat_shut (lS_flat _), Bool.and_true]
def mK (m : Mc) (k : Int) : List LV := mCells (.dsl true m.row.length (encB (markBo m.row.length k))) (.dsl true m.vals.length (encI (markI m.vals.length (k + m.row.length)))) (.dsl true m.memo.length (encS (markSn m.memo.length (k + m.row.length + m.vals.length)))) m
attribute [go_sem] mK
theorem argK {ob : Obs} {L : Lend} {a b c : Nat} {m : Mc} {k n : Int} (e1 : ob.getD a none = some ⟨0, (markBo m.row.length k).map cb⟩) (e2 : ob.getD b none = some ⟨0, (markI m.vals.length (k + m.row.length)).map ci⟩) (e3 : ob.getD c none = some ⟨0, lS (markSn m.memo.length (k + m.row.length + m.vals.length))⟩)
    (l1 : lk L a 0 = some (encB (markBo m.row.length k))) (l2 : lk L b 0 = some (encI (markI m.vals.length (k + m.row.length)))) (l3 : lk L c 0 = some (encS (markSn m.memo.length (k + m.row.length + m.vals.length)))) :
    ArgsL ob L [.agg (mO a b c m), I n] [.agg (mK m k), I n] [(a, 0, encB (markBo m.row.length k)), (b, 0, encI (markI m.vals.length (k + m.row.length))), (c, 0, encS (markSn m.memo.length (k + m.row.length + m.vals.length)))] := by
  refine .agg (.same rfl .nil) ?_
  unfold mO mK mCells
  refine .row e1 (lB_encB _ false).symm (by rw [List.drop_zero, Nat.mul_one, List.take_of_length_le (by rw [encB_len, markBo_len]; exact Nat.le_refl _)]) l1 ?_
  refine .same rfl (.same rfl (.same rfl ?_))
  refine .row e2 (lI_encI _ false).symm (by rw [List.drop_zero, Nat.mul_one, List.take_of_length_le (by rw [encI_len, markI_len]; exact Nat.le_refl _)]) l2 ?_
  refine .same rfl (.same rfl (.same rfl (.same rfl (.same rfl ?_))))
  refine .row e3 (lS_encS _ false).symm (by rw [List.drop_zero, List.take_of_length_le (by rw [encS_len, markSn_len]; exact Nat.le_refl _)]) l3 ?_
  exact .nil
theorem markMachine_c (m : Mc) (k : Int) (h0 : 0 ≤ k) (h1 : k ≤ 1000) (hr : m.row.length ≤ 100000) (hv : m.vals.length ≤ 100000) (hm : m.memo.length ≤ 1048576) : CallsA E.P 16 [.agg (mO 0 1 2 m), I k] (mR m) fun r ob => r = I (k + totM m) ∧ ob = mkM m k := by
  refine CallsA.body (E := E) (fn := Tryz.f16) Tryz.func16 rfl fun B hB => ?_
  simp only [Tryz.ntmps16, go_sem, nl, Nat.reduceSub, Nat.reduceAdd, List.reduceReplicate]
  refine Wp.seqK fun K1 hK1 => ?_
  refine rg ?_
  refine hK1 _ ?_
  clear hK1 K1
  refine Wp.seqK fun K2 hK2 => ?_
  refine rg ?_
  refine ⟨rfl, CallK.giveA 0 (markBoolS_c m.row 0 k h0 (by omega) (by omega)) ?_⟩
  refine evd ?_
  refine hK2 _ ?_
  clear hK2 K2
  refine Wp.seqK fun K3 hK3 => ?_
  refine rg ?_
  refine ⟨rfl, CallK.giveA 1 (markIntS_c m.vals 0 (k + m.row.length) (by omega) (by omega) (by omega)) ?_⟩
  refine evd ?_
  refine hK3 _ ?_
  clear hK3 K3
  refine Wp.seqK fun K4 hK4 => ?_
  refine rg ?_
  refine ⟨rfl, CallK.giveA 2 (markSeenS_c m.memo 0 (k + m.row.length + m.vals.length) (by omega) (by omega) (by omega)) ?_⟩
  refine evd ?_
  refine hK4 _ ?_
  clear hK4 K4
  refine Wp.seqK fun K5 hK5 => ?_
  refine rg ?_
  refine hK5 _ ?_
  clear hK5 K5
  refine Wp.ret (retH (hi := mkM_shut m k) ?_ ?_)
  · simp only [List.getD_cons_zero, List.getD_cons_succ]
    unfold totM
    rw [show k + ((m.row.length : Int) + m.vals.length + 2 * m.memo.length) = k + m.row.length + m.vals.length + 2 * m.memo.length by omega]
  · rfl
theorem heldBo_d (n : Nat) (k : Int) (h0 : 0 ≤ k) (h1 : k ≤ 10000000) (hl : n ≤ 1048576) : Val E.P 44 [.l (.dsl true n (encB (markBo n k))), I k] (I (k + n)) := by
  have := heldBoolS_c n k h0 h1 hl
  unfold dB at this
  rwa [markBo_len] at this
theorem heldI_d (n : Nat) (k : Int) (h0 : 0 ≤ k) (h1 : k ≤ 1048576) (hl : n ≤ 1048576) : Val E.P 45 [.l (.dsl true n (encI (markI n k))), I k] (I (k + n)) := by
  have := heldIntS_c n k h0 h1 hl
  unfold dI at this
  rwa [markI_len] at this
theorem heldS_d (n : Nat) (k : Int) (h0 : 0 ≤ k) (h1 : k ≤ 10000000) (hl : n ≤ 1048576) : Val E.P 46 [.l (.dsl true n (encS (markSn n k))), I k] (I (k + 2 * n)) := by
  have := heldSeenS_c n k h0 h1 hl
  unfold dS at this
  rwa [markSn_len] at this
theorem heldMachine_c (m : Mc) (k : Int) (h0 : 0 ≤ k) (h1 : k ≤ 1000) (hr : m.row.length ≤ 100000) (hv : m.vals.length ≤ 100000) (hm : m.memo.length ≤ 1048576) : Val E.P 17 [.agg (mK m k), I k] (I (k + totM m)) := by
  refine CallsA.body (E := E) (fn := Tryz.f17) Tryz.func17 rfl fun B hB => ?_
  simp only [Tryz.ntmps17, go_sem, nl, Nat.reduceSub, Nat.reduceAdd, List.reduceReplicate]
  refine Wp.seqK fun K1 hK1 => ?_
  refine rg ?_
  refine hK1 _ ?_
  clear hK1 K1
  refine Wp.seqK fun K2 hK2 => ?_
  refine rg ?_
  refine ⟨rfl, CallK.valA (h := heldBo_d m.row.length k h0 (by omega) (by omega)) (ha := .same rfl (.same rfl .nil)) (k := ?_)⟩
  refine evd ?_
  refine hK2 _ ?_
  clear hK2 K2
  refine Wp.seqK fun K3 hK3 => ?_
  refine Wp.seqK fun K4 hK4 => ?_
  refine rg ?_
  refine hK4 _ ?_
  clear hK4 K4
  refine Wp.condS (fun h10 => ?_) (fun h10 => ?_)
  · omega
  · refine Wp.skip ?_
    refine hK3 _ ?_
    clear hK3 K3
    refine Wp.seqK fun K5 hK5 => ?_
    refine rg ?_
    refine ⟨rfl, CallK.valA (h := heldI_d m.vals.length (k + m.row.length) (by omega) (by omega) (by omega)) (ha := .same rfl (.same rfl .nil)) (k := ?_)⟩
    refine evd ?_
    refine hK5 _ ?_
    clear hK5 K5
    refine Wp.seqK fun K6 hK6 => ?_
    refine Wp.seqK fun K7 hK7 => ?_
    refine rg ?_
    refine hK7 _ ?_
    clear hK7 K7
    refine Wp.condS (fun h16 => ?_) (fun h16 => ?_)
    · omega
    · refine Wp.skip ?_
      refine hK6 _ ?_
      clear hK6 K6
      refine Wp.seqK fun K8 hK8 => ?_
      refine rg ?_
      refine ⟨rfl, CallK.valA (h := heldS_d m.memo.length (k + m.row.length + m.vals.length) (by omega) (by omega) (by omega)) (ha := .same rfl (.same rfl .nil)) (k := ?_)⟩
      refine evd ?_
      refine hK8 _ ?_
      clear hK8 K8
      refine Wp.seqK fun K9 hK9 => ?_
      refine Wp.seqK fun K10 hK10 => ?_
      refine rg ?_
      refine hK10 _ ?_
      clear hK10 K10
      refine Wp.condS (fun h22 => ?_) (fun h22 => ?_)
      · omega
      · refine Wp.skip ?_
        refine hK9 _ ?_
        clear hK9 K9
        refine Wp.seqK fun K11 hK11 => ?_
        refine rg ?_
        refine hK11 _ ?_
        clear hK11 K11
        refine Wp.ret (retV ?_)
        try simp only [List.getD_cons_zero, List.getD_cons_succ]
        unfold totM
        rw [show k + ((m.row.length : Int) + m.vals.length + 2 * m.memo.length) = k + m.row.length + m.vals.length + 2 * m.memo.length by omega]
end Go.Proofs.YtonacngeaknlcaaGreatDoor.RE
/-! JobEnd, both sides. Conditions: those that a theorem names. -/
set_option linter.unusedVariables false
set_option linter.unusedSimpArgs false
namespace Go.Proofs.YtonacngeaknlcaaGreatDoor.RE
open Go Go.RowKit
set_option maxRecDepth 100000
set_option maxHeartbeats 8000000

/-! ### All rows are handed over -/
theorem shm_all (n M : Nat) : sameBelow M (shm n n) := fun o g _ => by
  unfold shm
  split
  · rfl
  · rw [show n + (o - n) = o by omega]
theorem ren_all {n M : Nat} {ob1 : Obs} (h : obShut M ob1 = true) : ob1.map (Option.map (Ob.ren (shm n n))) = ob1 := by
  refine (List.map_congr_left (g := id) fun x hx => ?_).trans (List.map_id ob1)
  have := List.all_eq_true.1 h x hx
  cases x with
  | none => rfl
  | some x => simp only [Option.map_some, Ob.ren, shut_map (shm_all n M) this, id]
theorem obB_all {M : Nat} {ob ob1 : Obs} (h1 : ob.length ≤ ob1.length) (h : obShut M ob1 = true) : obB (List.range ob.length) ob ob1 = ob1 := by
  have hr := ren_all (n := ob.length) h
  unfold obB
  rw [mB_range, List.length_range]
  have e2 : (ob1.drop ob.length).map (Option.map (Ob.ren (shm ob.length ob.length))) = ob1.drop ob.length := by rw [List.map_drop, hr]
  rw [e2]
  have e1 : mrg (fun o => ((List.range ob.length).idxOf? o).bind fun i => (ob1[i]?).map (Option.map (Ob.ren (shm ob.length ob.length)))) 0 ob = ob1.take ob.length := by
    apply List.ext_getElem?
    intro i
    rw [mrg_get]
    simp only [Nat.zero_add]
    by_cases hi : i < ob.length
    · rw [idx_range hi, List.getElem?_eq_getElem hi, List.getElem?_take_of_lt hi]
      simp only [Option.bind_some, Option.map_some]
      have e3 : (ob1[i]?).map (Option.map (Ob.ren (shm ob.length ob.length))) = ob1[i]? := by rw [← List.getElem?_map, hr]
      rw [e3, List.getElem?_eq_getElem (show i < ob1.length by omega)]
      rfl
    · rw [List.getElem?_eq_none (by omega), List.getElem?_eq_none (by rw [List.length_take]; omega)]
      rfl
  rw [e1, List.take_append_drop]
/-- The first m rows are handed over; what they hold afterwards may lead to new rows. -/
theorem obB_gen {m : Nat} {ob o1 new : Obs} (hm : m ≤ ob.length) (h1 : o1.length = m) : obB (List.range m) ob (o1 ++ new) = o1.map (Option.map (Ob.ren (shm m ob.length))) ++ ob.drop m ++ new.map (Option.map (Ob.ren (shm m ob.length))) := by
  unfold obB
  rw [mB_range]
  congr 1
  · apply List.ext_getElem?
    intro i
    rw [mrg_get]
    simp only [Nat.zero_add]
    by_cases hi : i < m
    · rw [idx_range hi, List.getElem?_append_left (by rw [List.length_map]; omega)]
      simp only [Option.bind_some]
      rw [List.getElem?_append_left (by omega), List.getElem?_eq_getElem (show i < ob.length by omega), List.getElem?_map, List.getElem?_eq_getElem (show i < o1.length by omega)]
      rfl
    · rw [idx_range_no hi, List.getElem?_append_right (by rw [List.length_map]; omega), List.getElem?_drop, List.length_map, h1, show m + (i - m) = i by omega]
      simp
  · rw [List.length_range, List.drop_append, List.drop_of_length_le (by omega), List.nil_append, h1, Nat.sub_self, List.drop_zero]
section
variable {P : Program} {f : FuncId} {args args' : List AV} {st : St} {d : Option Tmp} {K : St → Prop}
theorem CallK.handG (m : Nat) {r0 : AV} {obm o1 new : Obs} (h : CallsA P f args' obm fun r ob => r = r0 ∧ ob = o1 ++ new) (k : K ⟨putT st.tm d (r0.ren (shm m st.ob.length)), o1.map (Option.map (Ob.ren (shm m st.ob.length))) ++ st.ob.drop m ++ new.map (Option.map (Ob.ren (shm m st.ob.length)))⟩) (hs : obShut m obm = true) (hl : o1.length = m := by rfl) (ho : st.ob.take m = obm := by rfl) (ha : args.map (AV.toC (List.range m) []) = args' := by rfl) (hm : m ≤ st.ob.length := by simp) : CallK P f args st d K :=
  CallK.use (Q := fun r ob => r = r0 ∧ ob = o1 ++ new) (List.range m) [] ⟨List.nodup_range, fun s hs => by rw [List.mem_range] at hs; omega, by simp, by simp⟩ (by rw [obC_range hm (by rw [ho]; exact hs), ho, ha]; exact h) fun r ob1 ⟨h1, h2⟩ => by
    subst h1; subst h2
    refine ⟨by simp [hl], .inl rfl, ?_⟩
    rw [obB_gen hm hl, mB_range]
    exact k
theorem CallK.passR (σ : List Nat) {v : AV} {obm : Obs} (h : CallsA P f args' obm fun r ob => r = v ∧ ob = obm) (k : K ⟨putT st.tm d (v.ren (mB σ st.ob.length)), st.ob⟩) (ho : obC σ st.ob = obm) (ha : args.map (AV.toC σ []) = args' := by rfl)
    (hs : sigOk σ st.ob = true := by (simp only [sigOk, List.all_cons, List.all_nil, List.getD_cons_zero, List.getD_cons_succ, List.length_cons, List.length_nil, flat_within (lN_flat _), flat_within (flatI _), flat_within (flatB _), flat_within (lS_flat _), flat_within (flatT _), flat_within (flatU _), Bool.and_true]) <;> rfl) (hn : σ.Nodup := by decide) : CallK P f args st d K := by
  have hs' : ∀ s ∈ σ, s < st.ob.length ∧ ∀ x, st.ob.getD s none = some x → x.cs.all (LV.within σ) = true := fun s hm => by
    have := List.all_eq_true.1 hs s hm
    simp only [Bool.and_eq_true, decide_eq_true_eq] at this
    refine ⟨this.1, fun x hx => ?_⟩
    have h2 := this.2
    rw [hx] at h2; exact h2
  refine CallK.use (Q := fun r ob => r = v ∧ ob = obm) σ [] ⟨hn, fun s hm => (hs' s hm).1, by simp, by simp⟩ (by rw [ho, ha]; exact h) fun r ob1 ⟨h1, h2⟩ => ?_
  subst h1; subst h2
  refine ⟨by rw [← ho]; simp [obC], .inl rfl, ?_⟩
  rw [← ho, obB_same hn (fun s hm => (hs' s hm).1) (fun s hm => (hs' s hm).2)]
  exact k
end
/-! ### A machine in rows of one's own is lent, with a number -/
theorem argGI2 {ob : Obs} {L : Lend} {a b c : Nat} {G : Gh} {m : Mc} {n : Int} (e1 : ob.getD a none = some ⟨G.gr, m.row.map cb⟩) (e2 : ob.getD b none = some ⟨G.gv, (m.vals ++ G.jv).map ci⟩) (e3 : ob.getD c none = some ⟨G.gm, lS (G.pm ++ m.memo)⟩)
    (l1 : lk L a G.gr = some (encB m.row)) (l2 : lk L b G.gv = some (encI (m.vals ++ G.jv))) (l3 : lk L c G.gm = some (encS (G.pm ++ m.memo))) :
    ArgsL ob L [.agg (mCl a b c G m), I n] [.agg (mD m), I n] [(a, G.gr, encB m.row), (b, G.gv, encI (m.vals ++ G.jv)), (c, G.gm, encS (G.pm ++ m.memo))] := by
  refine .agg (.same rfl .nil) ?_
  unfold mCl mD mCells
  refine .row e1 (lB_encB _ false).symm (by rw [List.drop_zero, Nat.mul_one, List.take_of_length_le (by rw [encB_len]; exact Nat.le_refl _)]) l1 ?_
  refine .same rfl (.same rfl (.same rfl ?_))
  refine .row e2 (lI_encI _ false).symm (by rw [List.drop_zero, Nat.mul_one, encV_take]) l2 ?_
  refine .same rfl (.same rfl (.same rfl (.same rfl (.same rfl ?_))))
  refine .row e3 (lS_encS _ false).symm (by rw [encM_mid]) l3 ?_
  exact .nil
theorem mRw_flat2 (G : Gh) (m : Mc) : obFlat (mRw G m) = true := by
  simp only [mRw, obFlat, List.all_cons, List.all_nil, flatI, flatB, lS_flat, Bool.and_true]
theorem mCl_sh2 {n : Nat} (G : Gh) (m : Mc) : (AV.agg (mCl 0 1 2 G m)).ren (sh n) = .agg (mCl n (n + 1) (n + 2) G m) := by
  simp only [mCl, mCells, AV.ren, List.map_cons, List.map_nil, lren_obj, lren_sc, sh, Nat.add_zero]
  rfl
theorem CallK.machQ2 {P : Program} {f : FuncId} {args args' : List AV} {st : St} {d : Option Tmp} {K : St → Prop} {L : Lend} {m' : Mc} (h : CallsA P f args' [] (QR m')) (ha : ArgsL st.ob L args args' L) (k : ∀ G, K ⟨putT st.tm d (.agg (mCl st.ob.length (st.ob.length + 1) (st.ob.length + 2) G m')), st.ob ++ mRw G m'⟩) : CallK P f args st d K :=
  CallK.use (Q := QR m') [] L ha.lend (by rw [ha.map]; exact h) fun r ob1 ⟨G, e1, e2⟩ => by
    subst e1; subst e2
    refine ⟨Nat.zero_le _, .inr ⟨rfl, obFlat_noB (mRw_flat2 G m')⟩, ?_⟩
    rw [obB_nil, obFlat_ren (mRw_flat2 G m'), mB_nil, mCl_sh2]
    exact k G
/-! ### What JobEnd answers -/
def stI (m : Mc) : Int := if m.over = true then 2 else 1
def endJ (j : Jb) : Jb := { j with m := runN j.m 100000, state := stI (runN j.m 100000) }
def jgo (j : Jb) : Bool := jB j && decide (j.state = 1)
def endS (j : Jb) : Jb := if jgo j = true then endJ j else j
def endC (j : Jb) : Int := if jgo j = true then 0 else 5
abbrev opD : AV := .agg [.sc (.int .i64 1), .sc (.int .i64 100000), .sc (.string ⟨#[]⟩)]
theorem go_no {j : Jb} (h : jgo j = false) : endS j = j ∧ endC j = 5 := ⟨if_neg (by rw [h]; simp), if_neg (by rw [h]; simp)⟩
theorem go_yes {j : Jb} (h : jgo j = true) : endS j = endJ j ∧ endC j = 0 := ⟨if_pos h, if_pos h⟩
theorem go_1 {j : Jb} (h : jB j = false) : jgo j = false := by unfold jgo; rw [h]; rfl
theorem go_2 {j : Jb} (h : ¬ j.state = 1) : jgo j = false := by unfold jgo; rw [decide_eq_false h, Bool.and_false]
theorem go_3 {j : Jb} (h : jB j = true) (h2 : j.state = 1) : jgo j = true := by unfold jgo; rw [h, decide_eq_true h2]; rfl
theorem iCopyJ_c (j : Jb) (h1 : j.m.row.length ≤ 1048576) (h2 : j.m.vals.length ≤ 1048576) (h3 : j.m.memo.length ≤ 1048576) : Ret E.P 34 [.agg (jD j)] (.agg (jO 0 1 2 j)) (mR j.m) := by
  refine CallsA.body (E := E) (fn := Tryz.f34) Tryz.func34 rfl fun B hB => ?_
  simp only [Tryz.ntmps34, go_sem, nl, Nat.reduceSub, Nat.reduceAdd, List.reduceReplicate]
  refine Wp.seqK fun K1 hK1 => ?_
  refine rg ?_
  refine hK1 _ ?_
  clear hK1 K1
  refine Wp.seqK fun K2 hK2 => ?_
  refine rg ?_
  refine ⟨rfl, CallK.retA (h := iCopy_c j.m h1 h2 h3) (hf := mR_flat _) (k := ?_)⟩
  refine evd ?_
  refine hK2 _ ?_
  clear hK2 K2
  refine Wp.seqK fun K3 hK3 => ?_
  refine rg ?_
  refine hK3 _ ?_
  clear hK3 K3
  refine Wp.ret (retL [2, 3, 4] rfl (Nat.zero_le _) (by decide) (by simp) rfl ?_)
  simp only [keepO, List.take_zero, List.map_nil, List.nil_append, List.map_cons, List.getD_cons_zero, List.getD_cons_succ, Option.map_some, renB, renI, renS]
  try rfl
theorem sCopyJ_c (j : Jb) (h1 : j.m.row.length ≤ 1048576) (h2 : j.m.vals.length ≤ 1048576) (h3 : j.m.memo.length ≤ 1048576) : Ret E.P 22 [.agg (jD j)] (.agg (jO 0 1 2 j)) (mR j.m) := by
  refine CallsA.body (E := E) (fn := Tryz.f22) Tryz.func22 rfl fun B hB => ?_
  simp only [Tryz.ntmps22, go_sem, nl, Nat.reduceSub, Nat.reduceAdd, List.reduceReplicate]
  refine Wp.seqK fun K1 hK1 => ?_
  refine rg ?_
  refine hK1 _ ?_
  clear hK1 K1
  refine Wp.seqK fun K2 hK2 => ?_
  refine rg ?_
  refine ⟨rfl, CallK.retA (h := sCopy_c j.m h1 h2 h3) (hf := mR_flat _) (k := ?_)⟩
  refine evd ?_
  refine hK2 _ ?_
  clear hK2 K2
  refine Wp.seqK fun K3 hK3 => ?_
  refine rg ?_
  refine hK3 _ ?_
  clear hK3 K3
  refine Wp.ret (retL [2, 3, 4] rfl (Nat.zero_le _) (by decide) (by simp) rfl ?_)
  simp only [keepO, List.take_zero, List.map_nil, List.nil_append, List.map_cons, List.getD_cons_zero, List.getD_cons_succ, Option.map_some, renB, renI, renS]
  try rfl
theorem stateOf_c (m : Mc) : Val E.P 70 [.agg (mD m)] (I (stI m)) := by
  refine CallsA.body (E := E) (fn := Tryz.f70) Tryz.func70 rfl fun B hB => ?_
  simp only [Tryz.ntmps70, go_sem, nl, Nat.reduceSub, Nat.reduceAdd, List.reduceReplicate]
  refine Wp.seqK fun K1 hK1 => ?_
  refine rg ?_
  refine hK1 _ ?_
  clear hK1 K1
  refine Wp.seqK fun K2 hK2 => ?_
  refine Wp.seqK fun K3 hK3 => ?_
  refine rg ?_
  refine hK3 _ ?_
  clear hK3 K3
  refine Wp.condS (fun h4 => ?_) (fun h4 => ?_)
  · refine Wp.seqK fun K4 hK4 => ?_
    refine rg ?_
    refine hK4 _ ?_
    clear hK4 K4
    refine Wp.ret (retV ?_)
    try simp only [List.getD_cons_zero, List.getD_cons_succ]
    unfold stI
    rw [if_pos h4]
  · refine Wp.skip ?_
    refine hK2 _ ?_
    clear hK2 K2
    refine Wp.seqK fun K5 hK5 => ?_
    refine rg ?_
    refine hK5 _ ?_
    clear hK5 K5
    refine Wp.ret (retV ?_)
    try simp only [List.getD_cons_zero, List.getD_cons_succ]
    unfold stI
    rw [if_neg (by simpa using h4)]

theorem jR_shut (j : Jb) : obShut 4 (some ⟨0, jO 1 2 3 j⟩ :: mR j.m) = true := by
  simp only [mR, jO, jCells, mO, mCells, obShut, List.all_cons, List.all_nil, List.cons_append, List.nil_append, flat_shut (flatI _), flat_shut (flatB _), flat_shut (lS_flat _), Bool.and_true]
  rfl
theorem do_run (j : Jb) (hs : j.state = 1) (hf : j.m.Fits) : CallsA E.P 36 [.l (.ptr 0 0 0), opD] (some ⟨0, jO 1 2 3 j⟩ :: mR j.m) fun r ob => r = I 0 ∧ ob = (some ⟨0, jCells (mO 4 5 6 (runN j.m 100000)) (endJ j)⟩ :: mR j.m) ++ mR (runN j.m 100000) := by
  refine CallsA.body (E := E) (fn := Tryz.f36) Tryz.func36 rfl fun B hB => ?_
  simp only [Tryz.ntmps36, go_sem, nl, Nat.reduceSub, Nat.reduceAdd, List.reduceReplicate]
  refine Wp.seqK fun K1 hK1 => ?_
  refine rg ?_
  refine hK1 _ ?_
  clear hK1 K1
  refine Wp.seqK fun K2 hK2 => ?_
  refine Wp.seqK fun K3 hK3 => ?_
  refine rg ?_
  refine hK3 _ ?_
  clear hK3 K3
  refine Wp.block ?_
  refine Wp.seqK fun K4 hK4 => ?_
  refine rg ?_
  refine hK4 _ ?_
  clear hK4 K4
  refine Wp.condS (fun h7 => ?_) (fun h7 => ?_)
  · first | exact absurd h7 (by decide) | (simp at h7) | omega
  · refine Wp.seqK fun K5 hK5 => ?_
    refine rg ?_
    refine hK5 _ ?_
    clear hK5 K5
    refine Wp.condS (fun h15 => ?_) (fun h15 => ?_)
    · refine Wp.seqK fun K6 hK6 => ?_
      refine Wp.seqK fun K7 hK7 => ?_
      refine rg ?_
      refine grdA_split rfl (fun g5_6 => ?_) (fun g5_6 => ?_)
      · try simp only [decide_eq_true_eq, decide_eq_false_iff_not] at g5_6
        exact absurd hs (by simpa using g5_6)
      · try simp only [decide_eq_true_eq, decide_eq_false_iff_not] at g5_6
        try refine evd ?_
        refine ⟨rfl, CallK.valA (h := within_c _ _ _) (k := ?_)⟩
        refine evd ?_
        refine hK7 _ ?_
        clear hK7 K7
        refine Wp.condS (fun h27 => ?_) (fun h27 => ?_)
        · first | exact h27.elim | exact absurd h27 (by decide) | omega | simp at h27
        · refine Wp.skip ?_
          refine hK6 _ ?_
          clear hK6 K6
          refine Wp.seqK fun K8 hK8 => ?_
          refine Wp.drawS [0, 4] [7] (.one 0 (.one 1 (.one 2 (.one 3 (.one 4 (.one 5 (.one 6 (.one 7 (.one 8 (.one 9 (.one 10 .done))))))))))) rfl (by kernel_rfl) ?_
          simp only [flg, strip_mk]
          refine tG_one fun Kt7_1 ht7_1 => ?_
          refine evd ?_
          refine ht7_1 _ ?_
          clear ht7_1 Kt7_1
          refine tG_one fun Kt7_2 ht7_2 => ?_
          refine evd ?_
          refine ht7_2 _ ?_
          clear ht7_2 Kt7_2
          refine tG_one fun Kt7_3 ht7_3 => ?_
          refine evd ?_
          refine ht7_3 _ ?_
          clear ht7_3 Kt7_3
          refine tG_one fun Kt7_4 ht7_4 => ?_
          refine evd ?_
          refine ht7_4 _ ?_
          clear ht7_4 Kt7_4
          refine tG_one fun Kt7_5 ht7_5 => ?_
          refine evd ?_
          refine ht7_5 _ ?_
          clear ht7_5 Kt7_5
          refine tG_one fun Kt7_6 ht7_6 => ?_
          refine evd ?_
          refine ht7_6 _ ?_
          clear ht7_6 Kt7_6
          refine tG_one fun Kt7_7 ht7_7 => ?_
          refine evd ?_
          refine ht7_7 _ ?_
          clear ht7_7 Kt7_7
          refine tG_one fun Kt7_8 ht7_8 => ?_
          refine evd ?_
          refine ⟨rfl, CallK.retA (h := iRun_c j.m 100000 hf) (ha := argGI2 (G := ⟨0, 0, [], 0, []⟩) (m := j.m) (a := 1) (b := 2) (c := 3) rfl (by simp) rfl (by simp [lk]) (by simp [lk]) (by simp [lk])) (hf := mR_flat _) (k := ?_)⟩
          refine evd ?_
          refine ht7_8 _ ?_
          clear ht7_8 Kt7_8
          refine tG_one fun Kt7_9 ht7_9 => ?_
          refine evd ?_
          refine ht7_9 _ ?_
          clear ht7_9 Kt7_9
          refine tG_one fun Kt7_10 ht7_10 => ?_
          refine evd ?_
          refine ht7_10 _ ?_
          clear ht7_10 Kt7_10
          refine tG_one fun Kt7_11 ht7_11 => ?_
          refine evd ?_
          refine ht7_11 _ ?_
          clear ht7_11 Kt7_11
          refine tG_done ?_
          refine hK8 _ ?_
          clear hK8 K8
          refine Wp.seqK fun K9 hK9 => ?_
          refine rg ?_
          refine ⟨rfl, CallK.valA (h := stateOf_c (runN j.m 100000)) (ha := argM (m := runN j.m 100000) ArgsL.nil rfl rfl rfl (by simp [lk]) (by simp [lk]) (by simp [lk])) (k := ?_)⟩
          refine evd ?_
          refine hK9 _ ?_
          clear hK9 K9
          refine Wp.seqK fun K10 hK10 => ?_
          refine rg ?_
          refine hK10 _ ?_
          clear hK10 K10
          refine Wp.ret ⟨_, [5, 6, 7], rfl, by simp, by decide, by simp, rfl, ?_⟩
          simp only [keepO, List.take_succ_cons, List.take_zero, List.map_cons, List.map_nil, List.cons_append, List.nil_append, List.getD_cons_succ, List.getD_cons_zero, Option.map_some, renB, renI, renS, lren_obj, lren_sc, keepM_l, keepX_cons, keepX_nil]
          rfl
    · first | exact absurd rfl h15 | exact absurd h15 (by decide) | (simp at h15)
theorem do_no (j : Jb) (hs : ¬ j.state = 1) (hf : j.m.Fits) : CallsA E.P 36 [.l (.ptr 0 0 0), opD] (some ⟨0, jO 1 2 3 j⟩ :: mR j.m) fun r ob => r = I 5 ∧ ob = (some ⟨0, jO 1 2 3 j⟩ :: mR j.m) ++ [] := by
  refine CallsA.body (E := E) (fn := Tryz.f36) Tryz.func36 rfl fun B hB => ?_
  simp only [Tryz.ntmps36, go_sem, nl, Nat.reduceSub, Nat.reduceAdd, List.reduceReplicate]
  refine Wp.seqK fun K1 hK1 => ?_
  refine rg ?_
  refine hK1 _ ?_
  clear hK1 K1
  refine Wp.seqK fun K2 hK2 => ?_
  refine Wp.seqK fun K3 hK3 => ?_
  refine rg ?_
  refine hK3 _ ?_
  clear hK3 K3
  refine Wp.block ?_
  refine Wp.seqK fun K4 hK4 => ?_
  refine rg ?_
  refine hK4 _ ?_
  clear hK4 K4
  refine Wp.condS (fun h7 => ?_) (fun h7 => ?_)
  · first | exact absurd h7 (by decide) | (simp at h7) | omega
  · refine Wp.seqK fun K5 hK5 => ?_
    refine rg ?_
    refine hK5 _ ?_
    clear hK5 K5
    refine Wp.condS (fun h15 => ?_) (fun h15 => ?_)
    · refine Wp.seqK fun K6 hK6 => ?_
      refine Wp.seqK fun K7 hK7 => ?_
      refine rg ?_
      refine grdA_split rfl (fun g5_6 => ?_) (fun g5_6 => ?_)
      · try simp only [decide_eq_true_eq, decide_eq_false_iff_not] at g5_6
        try refine evd ?_
        refine hK7 _ ?_
        clear hK7 K7
        refine Wp.condS (fun h27 => ?_) (fun h27 => ?_)
        · refine Wp.seqK fun K8 hK8 => ?_
          refine rg ?_
          refine hK8 _ ?_
          clear hK8 K8
          refine Wp.ret ⟨_, [], rfl, by simp, by simp, by simp, rfl, ?_⟩
          simp only [keepO, List.take_succ_cons, List.take_zero, List.map_cons, List.map_nil, List.cons_append, List.nil_append, List.append_nil, List.getD_cons_succ, List.getD_cons_zero, Option.map_some, renB, renI, renS, lren_obj, lren_sc, keepM_l, keepX_cons, keepX_nil]
          rfl
        · first | exact h27.elim | exact absurd h27 (by decide) | omega | simp at h27
      · try simp only [decide_eq_true_eq, decide_eq_false_iff_not] at g5_6
        exact absurd (by simpa using g5_6) hs
    · first | exact absurd rfl h15 | exact absurd h15 (by decide) | (simp at h15)

theorem CallK.doJ {P : Program} {f : FuncId} {args : List AV} {st : St} {d : Option Tmp} {K : St → Prop} {j : Jb} (hr : j.state = 1 → CallsA P f [.l (.ptr 0 0 0), opD] (some ⟨0, jO 1 2 3 j⟩ :: mR j.m) fun r ob => r = I 0 ∧ ob = (some ⟨0, jCells (mO 4 5 6 (runN j.m 100000)) (endJ j)⟩ :: mR j.m) ++ mR (runN j.m 100000))
    (hn : ¬ j.state = 1 → CallsA P f [.l (.ptr 0 0 0), opD] (some ⟨0, jO 1 2 3 j⟩ :: mR j.m) fun r ob => r = I 5 ∧ ob = (some ⟨0, jO 1 2 3 j⟩ :: mR j.m) ++ [])
    (k1 : j.state = 1 → K ⟨putT st.tm d (I 0), (some ⟨0, jCells (mO 4 5 6 (runN j.m 100000)) (endJ j)⟩ :: mR j.m).map (Option.map (Ob.ren (shm 4 st.ob.length))) ++ st.ob.drop 4 ++ (mR (runN j.m 100000)).map (Option.map (Ob.ren (shm 4 st.ob.length)))⟩)
    (k2 : ¬ j.state = 1 → K ⟨putT st.tm d (I 5), (some ⟨0, jO 1 2 3 j⟩ :: mR j.m).map (Option.map (Ob.ren (shm 4 st.ob.length))) ++ st.ob.drop 4 ++ ([] : Obs).map (Option.map (Ob.ren (shm 4 st.ob.length)))⟩)
    (ho : st.ob.take 4 = some ⟨0, jO 1 2 3 j⟩ :: mR j.m := by rfl) (ha : args.map (AV.toC (List.range 4) []) = [.l (.ptr 0 0 0), opD] := by rfl) (hm : 4 ≤ st.ob.length := by simp) : CallK P f args st d K := by
  by_cases hs : j.state = 1
  · exact CallK.handG 4 (hr hs) (k1 hs) (jR_shut j) rfl ho ha hm
  · exact CallK.handG 4 (hn hs) (k2 hs) (jR_shut j) rfl ho ha hm
theorem iJobDo_c (j : Jb) (hf : j.m.Fits) (hj : j.journal.size ≤ 1048576) : Ret E.P 14 [.agg (jD j), opD] (.tup [.agg (jO 0 1 2 (endS j)), TI (endC j)]) (mR (endS j).m) := by
  refine CallsA.body (E := E) (fn := Tryz.f14) Tryz.func14 rfl fun B hB => ?_
  simp only [Tryz.ntmps14, go_sem, nl, Nat.reduceSub, Nat.reduceAdd, List.reduceReplicate]
  have hr0 := hf.row
  have ho0 := hf.ones
  have hv0 := hf.vals
  have hm0 := hf.memo
  refine Wp.seqK fun K1 hK1 => ?_
  refine rg ?_
  refine hK1 _ ?_
  clear hK1 K1
  refine Wp.seqK fun K2 hK2 => ?_
  refine rg ?_
  refine ⟨rfl, CallK.retA (h := iCopyJ_c j (by omega) (by omega) (by omega)) (hf := mR_flat _) (k := ?_)⟩
  refine evd ?_
  refine hK2 _ ?_
  clear hK2 K2
  refine Wp.seqK fun K3 hK3 => ?_
  refine Wp.seqK fun K4 hK4 => ?_
  refine rg ?_
  refine ⟨rfl, CallK.valA (h := iJobOk_c j hf (by omega)) (k := ?_)⟩
  refine evd ?_
  refine hK4 _ ?_
  clear hK4 K4
  refine Wp.condS (fun h12 => ?_) (fun h12 => ?_)
  · have hg := go_1 (by simpa using h12)
    refine Wp.seqK fun K5 hK5 => ?_
    refine rg ?_
    refine hK5 _ ?_
    clear hK5 K5
    rw [(go_no hg).1, (go_no hg).2]
    refine Wp.ret (retL [3, 4, 5] rfl (Nat.zero_le _) (by decide) (by simp) rfl ?_)
    simp only [keepO, List.take_zero, List.map_nil, List.nil_append, List.map_cons, List.getD_cons_zero, List.getD_cons_succ, Option.map_some, renB, renI, renS]
    try rfl
  · have hjb : jB j = true := by simpa using h12
    refine Wp.skip ?_
    refine hK3 _ ?_
    clear hK3 K3
    refine Wp.seqK fun K6 hK6 => ?_
    refine Wp.keepR 0 [6, 3, 4, 5, 1, 2] (by rw [hB]; simp) (by simp) (by decide) (by simp) ?_
    refine evd ?_
    refine rg ?_
    refine ⟨rfl, CallK.doJ (j := j) (fun hs => do_run j hs hf) (fun hs => do_no j hs hf) (fun hs => ?_) (fun hs => ?_)⟩
    · refine evd ?_
      have hg := go_3 hjb hs
      refine hK6 _ ?_
      clear hK6 K6
      refine Wp.seqK fun K7 hK7 => ?_
      refine rg ?_
      refine hK7 _ ?_
      clear hK7 K7
      rw [(go_yes hg).1, (go_yes hg).2]
      refine Wp.ret (retL [6, 7, 8] rfl (Nat.zero_le _) (by decide) (by simp) rfl ?_)
      simp only [keepO, List.take_zero, List.map_nil, List.nil_append, List.map_cons, List.getD_cons_zero, List.getD_cons_succ, Option.map_some, renB, renI, renS]
      try rfl
    · refine evd ?_
      have hg := go_2 hs
      refine hK6 _ ?_
      clear hK6 K6
      refine Wp.seqK fun K8 hK8 => ?_
      refine rg ?_
      refine hK8 _ ?_
      clear hK8 K8
      rw [(go_no hg).1, (go_no hg).2]
      refine Wp.ret (retL [1, 2, 3] rfl (Nat.zero_le _) (by decide) (by simp) rfl ?_)
      simp only [keepO, List.take_zero, List.map_nil, List.nil_append, List.map_cons, List.getD_cons_zero, List.getD_cons_succ, Option.map_some, renB, renI, renS]
      try rfl
theorem iJobEnd_c (j : Jb) (hf : j.m.Fits) (hj : j.journal.size ≤ 1048576) : Ret E.P 7 [.agg (jD j)] (.tup [.agg (jO 0 1 2 (endS j)), TI (endC j)]) (mR (endS j).m) := by
  refine CallsA.body (E := E) (fn := Tryz.f7) Tryz.func7 rfl fun B hB => ?_
  simp only [Tryz.ntmps7, go_sem, nl, Nat.reduceSub, Nat.reduceAdd, List.reduceReplicate]
  refine Wp.seqK fun K1 hK1 => ?_
  refine rg ?_
  refine hK1 _ ?_
  clear hK1 K1
  refine Wp.seqK fun K2 hK2 => ?_
  refine rg ?_
  refine ⟨rfl, CallK.retA (h := iJobDo_c j hf hj) (ha := .same rfl (.same rfl .nil)) (hf := mR_flat _) (k := ?_)⟩
  refine evd ?_
  refine hK2 _ ?_
  clear hK2 K2
  refine Wp.ret (retL [2, 3, 4] rfl (Nat.zero_le _) (by decide) (by simp) rfl ?_)
  simp only [keepO, List.take_zero, List.map_nil, List.nil_append, List.map_cons, List.getD_cons_zero, List.getD_cons_succ, Option.map_some, renB, renI, renS]
  try rfl

/-! ### The reference -/
def QJ (j : Jb) (c : Int) : AV → Obs → Prop := fun r ob => ∃ G, r = .tup [.agg (jCells (mCl 0 1 2 G j.m) j), TI c] ∧ ob = mRw G j.m
theorem retQJ {st : St} {fn : Func} {j : Jb} {c0 : Int} {G : Gh} {a b c : Nat} (π : List Nat) (ha : st.ob.getD a none = some ⟨G.gr, j.m.row.map cb⟩) (hb : st.ob.getD b none = some ⟨G.gv, (j.m.vals ++ G.jv).map ci⟩) (hc : st.ob.getD c none = some ⟨G.gm, lS (G.pm ++ j.m.memo)⟩)
    (h : resA st.tm st.ob E fn.results.toList = some (.tup [.agg (jCells (mCl a b c G j.m) j), TI c0]) := by rfl) (hπ : π = [a, b, c] := by rfl) (hd : π.Nodup := by decide) : retQ E fn 0 (QJ j c0) .ret st := by
  subst hπ
  have hab : a ≠ b ∧ a ≠ c ∧ b ≠ c := by simp at hd; omega
  refine ⟨_, [a, b, c], h, Nat.zero_le _, hd, by simp, ⟨0, 0, G.jv, 0, G.pm⟩, ?_, ?_⟩
  · simp only [jCells, mCl, mCells, AV.ren, TV.ren, List.map_cons, List.map_nil, List.map_append, lren_obj, lren_sc, keepM_l, keepX_cons, keepX_nil, ha, hb, hc]
    simp [hab, hab.1.symm, hab.2.1.symm, hab.2.2.symm, optO]
  · unfold keepO
    simp only [List.take_zero, List.map_nil, List.nil_append, List.map_cons, ha, hb, hc, Option.map_some, renB, renI, renS]
    rfl
theorem isM_shut (j : Jb) (m : Mc) (G : Gh) : obShut 6 (mR j.m ++ mRw G m) = true := by
  simp only [mR, mRw, obShut, List.all_cons, List.all_nil, List.cons_append, List.nil_append, flat_shut (flatI _), flat_shut (flatB _), flat_shut (lS_flat _), Bool.and_true]
theorem sIs_c (j : Jb) (m : Mc) (G : Gh) : CallsA E.P 26 [.agg (jO 0 1 2 j), .agg (mCl 3 4 5 G m)] (mR j.m ++ mRw G m) fun r ob => r = .agg (jCells (mCl 3 4 5 G m) { j with m := m, state := stI m }) ∧ ob = mR j.m ++ mRw G m := by
  refine CallsA.body (E := E) (fn := Tryz.f26) Tryz.func26 rfl fun B hB => ?_
  simp only [Tryz.ntmps26, go_sem, nl, Nat.reduceSub, Nat.reduceAdd, List.reduceReplicate]
  refine Wp.seqK fun K1 hK1 => ?_
  refine rg ?_
  refine hK1 _ ?_
  clear hK1 K1
  refine Wp.seqK fun K2 hK2 => ?_
  refine rg ?_
  refine hK2 _ ?_
  clear hK2 K2
  refine Wp.seqK fun K3 hK3 => ?_
  refine rg ?_
  refine hK3 _ ?_
  clear hK3 K3
  refine Wp.seqK fun K4 hK4 => ?_
  refine Wp.seqK fun K5 hK5 => ?_
  refine rg ?_
  refine hK5 _ ?_
  clear hK5 K5
  refine Wp.condS (fun h9 => ?_) (fun h9 => ?_)
  · refine rg ?_
    refine hK4 _ ?_
    clear hK4 K4
    refine Wp.seqK fun K6 hK6 => ?_
    refine rg ?_
    refine hK6 _ ?_
    clear hK6 K6
    refine Wp.ret (retE (m := 6) (Q := fun r ob => r = .agg (jCells (mCl 3 4 5 G m) { j with m := m, state := stI m }) ∧ ob = mR j.m ++ mRw G m) ⟨?_, rfl⟩ rfl (hi := isM_shut j m G))
    unfold stI
    first | rw [if_pos h9] | rw [if_neg (by simpa using h9)]
    rfl
  · refine Wp.skip ?_
    refine hK4 _ ?_
    clear hK4 K4
    refine Wp.seqK fun K7 hK7 => ?_
    refine rg ?_
    refine hK7 _ ?_
    clear hK7 K7
    refine Wp.ret (retE (m := 6) (Q := fun r ob => r = .agg (jCells (mCl 3 4 5 G m) { j with m := m, state := stI m }) ∧ ob = mR j.m ++ mRw G m) ⟨?_, rfl⟩ rfl (hi := isM_shut j m G))
    unfold stI
    first | rw [if_pos h9] | rw [if_neg (by simpa using h9)]
    rfl
theorem sJobDo_c (j : Jb) (hf : j.m.Fits) (hj : j.journal.size ≤ 1048576) : CallsA E.P 12 [.agg (jD j), opD] [] (QJ (endS j) (endC j)) := by
  refine CallsA.body (E := E) (fn := Tryz.f12) Tryz.func12 rfl fun B hB => ?_
  simp only [Tryz.ntmps12, go_sem, nl, Nat.reduceSub, Nat.reduceAdd, List.reduceReplicate]
  have hr0 := hf.row
  have ho0 := hf.ones
  have hv0 := hf.vals
  have hm0 := hf.memo
  refine Wp.seqK fun K1 hK1 => ?_
  refine rg ?_
  refine hK1 _ ?_
  clear hK1 K1
  refine Wp.seqK fun K2 hK2 => ?_
  refine rg ?_
  refine ⟨rfl, CallK.retA (h := sCopyJ_c j (by omega) (by omega) (by omega)) (hf := mR_flat _) (k := ?_)⟩
  refine evd ?_
  refine hK2 _ ?_
  clear hK2 K2
  refine Wp.seqK fun K3 hK3 => ?_
  refine Wp.seqK fun K4 hK4 => ?_
  refine rg ?_
  refine ⟨rfl, CallK.valA (h := sJobOk_c j hf (by omega)) (ha := argJ (j := j) ArgsL.nil rfl rfl rfl (by simp [lk]) (by simp [lk]) (by simp [lk])) (k := ?_)⟩
  refine evd ?_
  refine hK4 _ ?_
  clear hK4 K4
  refine Wp.condS (fun h12 => ?_) (fun h12 => ?_)
  · have hg := go_1 (by simpa using h12)
    refine Wp.seqK fun K5 hK5 => ?_
    refine rg ?_
    refine hK5 _ ?_
    clear hK5 K5
    rw [(go_no hg).1, (go_no hg).2]
    refine Wp.ret (retQJ (j := j) (c0 := 5) (G := ⟨0, 0, [], 0, []⟩) (a := 3) (b := 4) (c := 5) [3, 4, 5] rfl (by simp) rfl)
  · have hjb : jB j = true := by simpa using h12
    refine Wp.skip ?_
    refine hK3 _ ?_
    clear hK3 K3
    refine Wp.seqK fun K6 hK6 => ?_
    refine Wp.seqK fun K7 hK7 => ?_
    refine rg ?_
    refine hK7 _ ?_
    clear hK7 K7
    refine Wp.block ?_
    refine Wp.seqK fun K8 hK8 => ?_
    refine rg ?_
    refine hK8 _ ?_
    clear hK8 K8
    refine Wp.condS (fun h16 => ?_) (fun h16 => ?_)
    · first | exact absurd h16 (by decide) | (simp at h16) | omega
    · refine Wp.seqK fun K9 hK9 => ?_
      refine rg ?_
      refine hK9 _ ?_
      clear hK9 K9
      refine Wp.condS (fun h23 => ?_) (fun h23 => ?_)
      · refine Wp.seqK fun K10 hK10 => ?_
        refine Wp.seqU0 [.d, .d, .k, .k, .k, .d5, .d5, .d5, .d5, .d5, .d, .d, .d, .v (T (!decide (j.state = 1))), .d5, .d5, .d5, .d5, .d5, .d5, .d5, .d5, .d5, .d] (fun K11 hK11 => ?_) ?_
        · refine rg ?_
          refine grdA_split rfl (fun g8_4 => ?_) (fun g8_4 => ?_)
          · try simp only [decide_eq_true_eq, decide_eq_false_iff_not] at g8_4
            try refine evd ?_
            have hs : ¬ j.state = 1 := by simpa using g8_4
            exact hK11 _ (anyS (h := by rw [decide_eq_false hs]; rfl))
          · try simp only [decide_eq_true_eq, decide_eq_false_iff_not] at g8_4
            try refine evd ?_
            refine ⟨rfl, CallK.valA (h := l01In_c _ _ _) (k := ?_)⟩
            refine evd ?_
            have hs : j.state = 1 := by simpa using g8_4
            exact hK11 _ (anyS (h := by rw [decide_eq_true hs]; rfl))
        rintro f11
        simp only [updT_k, updT_d, updT_d5, updT_v, updT_nil, Nat.reduceAdd]
        refine Wp.condS (fun h33 => ?_) (fun h33 => ?_)
        · have hs : ¬ j.state = 1 := by simpa using h33
          have hg := go_2 hs
          refine Wp.seqK fun K12 hK12 => ?_
          refine rg ?_
          refine hK12 _ ?_
          clear hK12 K12
          rw [(go_no hg).1, (go_no hg).2]
          refine Wp.ret (retQJ (j := j) (c0 := 5) (G := ⟨0, 0, [], 0, []⟩) (a := 3) (b := 4) (c := 5) [3, 4, 5] rfl (by simp) rfl)
        · have hs : j.state = 1 := by simpa using h33
          have hg := go_3 hjb hs
          refine Wp.skip ?_
          refine hK10 _ ?_
          clear hK10 K10
          refine Wp.seqK fun K13 hK13 => ?_
          refine Wp.drawI [0, 1] [5, 6] (by kernel_rfl) ?_
          refine evd ?_
          refine ⟨rfl, CallK.machQ2 (h := sRun_c j.m 100000 hf) (ha := argGI2 (G := ⟨0, 0, [], 0, []⟩) (m := j.m) (a := 3) (b := 4) (c := 5) rfl (by simp) rfl (by simp [lk]) (by simp [lk]) (by simp [lk])) (fun G => ?_)⟩
          refine evd ?_
          refine ⟨rfl, CallK.passR [3, 4, 5, 6, 7, 8] (h := sIs_c j (runN j.m 100000) G) (ho := by simp only [mR, mRw, List.cons_append, List.nil_append, obC, List.map_cons, List.map_nil, List.getD_cons_zero, List.getD_cons_succ, Option.map_some, renB, renI, renS]) (k := ?_)⟩
          refine evd ?_
          refine hK13 _ ?_
          clear hK13 K13
          rw [(go_yes hg).1, (go_yes hg).2]
          refine Wp.ret (retQJ (j := endJ j) (c0 := 0) (G := G) (a := 6) (b := 7) (c := 8) [6, 7, 8] rfl rfl rfl)
      · first | exact absurd rfl h23 | exact absurd h23 (by decide) | (simp at h23)
end Go.Proofs.YtonacngeaknlcaaGreatDoor.RE
/-! Marks of jobs; rules for the law. Conditions: those that a theorem names. -/
set_option linter.unusedVariables false
set_option linter.unusedSimpArgs false
namespace Go.Proofs.YtonacngeaknlcaaGreatDoor.RE
open Go Go.RowKit
set_option maxRecDepth 100000
set_option maxHeartbeats 8000000
theorem markIntS_w (l : List Int) (g : Nat) (k : Int) (h0 : 0 ≤ k) (h1 : k ≤ 10000000) (hl : l.length ≤ 1048576) : CallsA E.P 42 [.l (.obj 0 g 1 0 l.length), I k] [some ⟨g, l.map ci⟩] fun r ob => r = I (k + l.length) ∧ ob = [some ⟨g, (markI l.length k).map ci⟩] := by
  refine CallsA.body (E := E) (fn := Tryz.f42) Tryz.func42 rfl fun B hB => ?_
  simp only [Tryz.ntmps42, go_sem, nl, Nat.reduceSub, Nat.reduceAdd, List.reduceReplicate]
  refine Wp.seqK fun K1 hK1 => ?_
  refine rg ?_
  refine hK1 _ ?_
  clear hK1 K1
  refine Wp.seqK fun K2 hK2 => ?_
  refine Wp.seqK fun K3 hK3 => ?_
  refine rg ?_
  refine hK3 _ ?_
  clear hK3 K3
  refine Wp.block ?_
  refine Wp.loopU (α := Nat) (fun x => [.k, .v (I (k + x)), .d, .d, .d, .v (I x), .d5, .d5, .d, .d, .d]) (fun x => [some ⟨g, (mkR (fun (i : Nat) => k + (i : Int)) l x).map ci⟩]) (fun x => x ≤ l.length) (fun x => l.length - x) 0 (by omega) (anyS) ?_
  rintro x f4 K4 hx hK4
  simp only [updT_k, updT_d, updT_d5, updT_v, updT_nil, Nat.reduceAdd]
  have hml := mkR_len (fun (i : Nat) => k + (i : Int)) l hx
  refine Wp.seqK fun K5 hK5 => ?_
  refine Wp.seqK fun K6 hK6 => ?_
  refine rg ?_
  refine hK6 _ ?_
  clear hK6 K6
  refine Wp.condS (fun h9 => ?_) (fun h9 => ?_)
  · refine Wp.skip ?_
    refine hK5 _ ?_
    clear hK5 K5
    refine Wp.seqK fun K7 hK7 => ?_
    refine Wp.block ?_
    refine Wp.seqK fun K8 hK8 => ?_
    refine rg ?_
    refine hK8 _ ?_
    clear hK8 K8
    refine rg ?_
    try simp only [thn, inB, if_true, reduceIte]
    refine hK7 _ ?_
    clear hK7 K7
    refine rg ?_
    rw [mkR_set _ _ (by omega)]
    exact hK4 (x + 1) _ (by omega) (by omega) anyS
  · have hxl : x = l.length := by omega
    subst hxl
    refine Wp.exit ?_
    try simp only [thn, inB, if_true, reduceIte]
    clear hK5 K5
    clear hK4 K4
    refine hK2 _ ?_
    clear hK2 K2
    refine Wp.seqK fun K9 hK9 => ?_
    refine rg ?_
    refine hK9 _ ?_
    clear hK9 K9
    refine Wp.ret (retH ?_ ?_)
    · rfl
    · rw [mkR_end]; rfl
theorem heldIntS_w (n : Nat) (k : Int) (h0 : 0 ≤ k) (h1 : k ≤ 10000000) (hl : n ≤ 1048576) : Val E.P 45 [dI (markI n k), I k] (I (k + n)) := by
  refine CallsA.body (E := E) (fn := Tryz.f45) Tryz.func45 rfl fun B hB => ?_
  simp only [Tryz.ntmps45, go_sem, nl, Nat.reduceSub, Nat.reduceAdd, List.reduceReplicate]
  have hml := markI_len n k
  refine Wp.seqK fun K1 hK1 => ?_
  refine rg ?_
  refine hK1 _ ?_
  clear hK1 K1
  refine Wp.seqK fun K2 hK2 => ?_
  refine Wp.seqK fun K3 hK3 => ?_
  refine rg ?_
  refine hK3 _ ?_
  clear hK3 K3
  refine Wp.block ?_
  refine Wp.loopU0 (α := Nat) (fun x => [.k, .v (I (k + x)), .d, .d, .d, .v (I x), .d5, .d5, .d5]) (fun x => x ≤ n) (fun x => n - x) 0 (by omega) anyS ?_
  rintro x f4 K4 hx hK4
  simp only [updT_k, updT_d, updT_d5, updT_v, updT_nil, Nat.reduceAdd]
  refine Wp.seqK fun K5 hK5 => ?_
  refine Wp.seqK fun K6 hK6 => ?_
  refine rg ?_
  refine hK6 _ ?_
  clear hK6 K6
  refine Wp.condS (fun h9 => ?_) (fun h9 => ?_)
  · refine Wp.skip ?_
    refine hK5 _ ?_
    clear hK5 K5
    refine Wp.seqK fun K7 hK7 => ?_
    refine Wp.block ?_
    refine Wp.seqK fun K8 hK8 => ?_
    refine Wp.seqK fun K9 hK9 => ?_
    refine rg ?_
    refine hK9 _ ?_
    clear hK9 K9
    refine Wp.condS (fun h17 => ?_) (fun h17 => ?_)
    · exact absurd (markI_at (by omega)) h17
    · refine Wp.skip ?_
      refine hK8 _ ?_
      clear hK8 K8
      refine rg ?_
      try simp only [thn, inB, if_true, reduceIte]
      refine hK7 _ ?_
      clear hK7 K7
      refine rg ?_
      exact hK4 (x + 1) _ (by omega) (by omega) anyS
  · have hxl : x = n := by omega
    subst hxl
    refine Wp.exit ?_
    try simp only [thn, inB, if_true, reduceIte]
    clear hK5 K5
    clear hK4 K4
    refine hK2 _ ?_
    clear hK2 K2
    refine Wp.seqK fun K10 hK10 => ?_
    refine rg ?_
    refine hK10 _ ?_
    clear hK10 K10
    refine Wp.ret (retV ?_)
    try simp only [List.getD_cons_zero, List.getD_cons_succ]
theorem markMachine_w (m : Mc) (k : Int) (h0 : 0 ≤ k) (h1 : k ≤ 1000) (hr : m.row.length ≤ 1048576) (hv : m.vals.length ≤ 1048576) (hm : m.memo.length ≤ 1048576) : CallsA E.P 16 [.agg (mO 0 1 2 m), I k] (mR m) fun r ob => r = I (k + totM m) ∧ ob = mkM m k := by
  refine CallsA.body (E := E) (fn := Tryz.f16) Tryz.func16 rfl fun B hB => ?_
  simp only [Tryz.ntmps16, go_sem, nl, Nat.reduceSub, Nat.reduceAdd, List.reduceReplicate]
  refine Wp.seqK fun K1 hK1 => ?_
  refine rg ?_
  refine hK1 _ ?_
  clear hK1 K1
  refine Wp.seqK fun K2 hK2 => ?_
  refine rg ?_
  refine ⟨rfl, CallK.giveA 0 (markBoolS_c m.row 0 k h0 (by omega) (by omega)) ?_⟩
  refine evd ?_
  refine hK2 _ ?_
  clear hK2 K2
  refine Wp.seqK fun K3 hK3 => ?_
  refine rg ?_
  refine ⟨rfl, CallK.giveA 1 (markIntS_w m.vals 0 (k + m.row.length) (by omega) (by omega) (by omega)) ?_⟩
  refine evd ?_
  refine hK3 _ ?_
  clear hK3 K3
  refine Wp.seqK fun K4 hK4 => ?_
  refine rg ?_
  refine ⟨rfl, CallK.giveA 2 (markSeenS_c m.memo 0 (k + m.row.length + m.vals.length) (by omega) (by omega) (by omega)) ?_⟩
  refine evd ?_
  refine hK4 _ ?_
  clear hK4 K4
  refine Wp.seqK fun K5 hK5 => ?_
  refine rg ?_
  refine hK5 _ ?_
  clear hK5 K5
  refine Wp.ret (retH (hi := mkM_shut m k) ?_ ?_)
  · simp only [List.getD_cons_zero, List.getD_cons_succ]
    unfold totM
    rw [show k + ((m.row.length : Int) + m.vals.length + 2 * m.memo.length) = k + m.row.length + m.vals.length + 2 * m.memo.length by omega]
  · rfl
theorem heldI_w (n : Nat) (k : Int) (h0 : 0 ≤ k) (h1 : k ≤ 10000000) (hl : n ≤ 1048576) : Val E.P 45 [.l (.dsl true n (encI (markI n k))), I k] (I (k + n)) := by
  have := heldIntS_w n k h0 h1 hl
  unfold dI at this
  rwa [markI_len] at this
theorem markMachine_v (m : Mc) (k : Int) (h0 : 0 ≤ k) (h1 : k ≤ 1000) (hr : m.row.length ≤ 1048576) (hv : m.vals.length ≤ 1048576) (hm : m.memo.length ≤ 1048576) : CallsA E.P 16 [.agg (mO 0 1 2 m), I k] (mR m) fun r ob => r = I (k + totM m) ∧ ob = mkM m k ++ [] := by
  simpa only [List.append_nil] using markMachine_w m k h0 h1 hr hv hm
theorem mR_shut3 (m : Mc) : obShut 3 (mR m) = true := by
  simp only [mR, obShut, List.all_cons, List.all_nil, flat_shut (flatI _), flat_shut (flatB _), flat_shut (lS_flat _), Bool.and_true]
theorem totM_n (m : Mc) : 0 ≤ totM m := by unfold totM; omega
def jK (j : Jb) (k : Int) : List LV := jCells (mK j.m k) j
attribute [go_sem] jK
theorem heldMachine_w (m : Mc) (k : Int) (h0 : 0 ≤ k) (h1 : k ≤ 1000) (hr : m.row.length ≤ 1048576) (hv : m.vals.length ≤ 1048576) (hm : m.memo.length ≤ 1048576) : Val E.P 17 [.agg (mK m k), I k] (I (k + totM m)) := by
  refine CallsA.body (E := E) (fn := Tryz.f17) Tryz.func17 rfl fun B hB => ?_
  simp only [Tryz.ntmps17, go_sem, nl, Nat.reduceSub, Nat.reduceAdd, List.reduceReplicate]
  refine Wp.seqK fun K1 hK1 => ?_
  refine rg ?_
  refine hK1 _ ?_
  clear hK1 K1
  refine Wp.seqK fun K2 hK2 => ?_
  refine rg ?_
  refine ⟨rfl, CallK.valA (h := heldBo_d m.row.length k h0 (by omega) (by omega)) (ha := .same rfl (.same rfl .nil)) (k := ?_)⟩
  refine evd ?_
  refine hK2 _ ?_
  clear hK2 K2
  refine Wp.seqK fun K3 hK3 => ?_
  refine Wp.seqK fun K4 hK4 => ?_
  refine rg ?_
  refine hK4 _ ?_
  clear hK4 K4
  refine Wp.condS (fun h10 => ?_) (fun h10 => ?_)
  · omega
  · refine Wp.skip ?_
    refine hK3 _ ?_
    clear hK3 K3
    refine Wp.seqK fun K5 hK5 => ?_
    refine rg ?_
    refine ⟨rfl, CallK.valA (h := heldI_w m.vals.length (k + m.row.length) (by omega) (by omega) (by omega)) (ha := .same rfl (.same rfl .nil)) (k := ?_)⟩
    refine evd ?_
    refine hK5 _ ?_
    clear hK5 K5
    refine Wp.seqK fun K6 hK6 => ?_
    refine Wp.seqK fun K7 hK7 => ?_
    refine rg ?_
    refine hK7 _ ?_
    clear hK7 K7
    refine Wp.condS (fun h16 => ?_) (fun h16 => ?_)
    · omega
    · refine Wp.skip ?_
      refine hK6 _ ?_
      clear hK6 K6
      refine Wp.seqK fun K8 hK8 => ?_
      refine rg ?_
      refine ⟨rfl, CallK.valA (h := heldS_d m.memo.length (k + m.row.length + m.vals.length) (by omega) (by omega) (by omega)) (ha := .same rfl (.same rfl .nil)) (k := ?_)⟩
      refine evd ?_
      refine hK8 _ ?_
      clear hK8 K8
      refine Wp.seqK fun K9 hK9 => ?_
      refine Wp.seqK fun K10 hK10 => ?_
      refine rg ?_
      refine hK10 _ ?_
      clear hK10 K10
      refine Wp.condS (fun h22 => ?_) (fun h22 => ?_)
      · omega
      · refine Wp.skip ?_
        refine hK9 _ ?_
        clear hK9 K9
        refine Wp.seqK fun K11 hK11 => ?_
        refine rg ?_
        refine hK11 _ ?_
        clear hK11 K11
        refine Wp.ret (retV ?_)
        try simp only [List.getD_cons_zero, List.getD_cons_succ]
        unfold totM
        rw [show k + ((m.row.length : Int) + m.vals.length + 2 * m.memo.length) = k + m.row.length + m.vals.length + 2 * m.memo.length by omega]
theorem markJob_w (j : Jb) (k : Int) (h0 : 0 ≤ k) (h1 : k ≤ 1000) (hr : j.m.row.length ≤ 1048576) (hv : j.m.vals.length ≤ 1048576) (hm : j.m.memo.length ≤ 1048576) : CallsA E.P 9 [.agg (jO 0 1 2 j), I k] (mR j.m) fun r ob => r = I (k + totM j.m) ∧ ob = mkM j.m k := by
  refine CallsA.body (E := E) (fn := Tryz.f9) Tryz.func9 rfl fun B hB => ?_
  simp only [Tryz.ntmps9, go_sem, nl, Nat.reduceSub, Nat.reduceAdd, List.reduceReplicate]
  refine Wp.seqK fun K1 hK1 => ?_
  refine rg ?_
  refine hK1 _ ?_
  clear hK1 K1
  refine Wp.seqK fun K2 hK2 => ?_
  refine rg ?_
  refine ⟨rfl, CallK.handA 3 (o1 := mkM j.m k) (new := []) (h := markMachine_v j.m k h0 h1 hr hv hm) (hs := mR_shut3 _) (hs1 := mkM_shut _ _) (k := ?_)⟩
  refine evd ?_
  simp only [mkM, List.cons_append, List.nil_append]
  refine hK2 _ ?_
  clear hK2 K2
  refine Wp.seqK fun K3 hK3 => ?_
  refine rg ?_
  refine hK3 _ ?_
  clear hK3 K3
  refine Wp.ret (retH (hi := mkM_shut j.m k) ?_ ?_)
  · rfl
  · rfl
theorem markJob_v (j : Jb) (k : Int) (h0 : 0 ≤ k) (h1 : k ≤ 1000) (hr : j.m.row.length ≤ 1048576) (hv : j.m.vals.length ≤ 1048576) (hm : j.m.memo.length ≤ 1048576) : CallsA E.P 9 [.agg (jO 0 1 2 j), I k] (mR j.m) fun r ob => r = I (k + totM j.m) ∧ ob = mkM j.m k ++ [] := by
  simpa only [List.append_nil] using markJob_w j k h0 h1 hr hv hm
theorem heldJob_w (j : Jb) (k : Int) (h0 : 0 ≤ k) (h1 : k ≤ 1000) (hr : j.m.row.length ≤ 1048576) (hv : j.m.vals.length ≤ 1048576) (hm : j.m.memo.length ≤ 1048576) : Val E.P 10 [.agg (jK j k), I k] (I (k + totM j.m)) := by
  refine CallsA.body (E := E) (fn := Tryz.f10) Tryz.func10 rfl fun B hB => ?_
  simp only [Tryz.ntmps10, go_sem, nl, Nat.reduceSub, Nat.reduceAdd, List.reduceReplicate]
  have htt := totM_n j.m
  refine Wp.seqK fun K1 hK1 => ?_
  refine rg ?_
  refine hK1 _ ?_
  clear hK1 K1
  refine Wp.seqK fun K2 hK2 => ?_
  refine rg ?_
  refine ⟨rfl, CallK.valA (h := heldMachine_w j.m k h0 h1 hr hv hm) (ha := .same rfl (.same rfl .nil)) (k := ?_)⟩
  refine evd ?_
  refine hK2 _ ?_
  clear hK2 K2
  refine Wp.seqK fun K3 hK3 => ?_
  refine Wp.seqK fun K4 hK4 => ?_
  refine rg ?_
  refine hK4 _ ?_
  clear hK4 K4
  refine Wp.condS (fun h10 => ?_) (fun h10 => ?_)
  · omega
  · refine Wp.skip ?_
    refine hK3 _ ?_
    clear hK3 K3
    refine Wp.seqK fun K5 hK5 => ?_
    refine rg ?_
    refine hK5 _ ?_
    clear hK5 K5
    refine Wp.ret (retV ?_)
    try simp only [List.getD_cons_zero, List.getD_cons_succ]

theorem argJK {ob : Obs} {L : Lend} {a b c : Nat} {j : Jb} {k n : Int} (e1 : ob.getD a none = some ⟨0, (markBo j.m.row.length k).map cb⟩) (e2 : ob.getD b none = some ⟨0, (markI j.m.vals.length (k + j.m.row.length)).map ci⟩) (e3 : ob.getD c none = some ⟨0, lS (markSn j.m.memo.length (k + j.m.row.length + j.m.vals.length))⟩)
    (l1 : lk L a 0 = some (encB (markBo j.m.row.length k))) (l2 : lk L b 0 = some (encI (markI j.m.vals.length (k + j.m.row.length)))) (l3 : lk L c 0 = some (encS (markSn j.m.memo.length (k + j.m.row.length + j.m.vals.length)))) :
    ArgsL ob L [.agg (jO a b c j), I n] [.agg (jK j k), I n] [(a, 0, encB (markBo j.m.row.length k)), (b, 0, encI (markI j.m.vals.length (k + j.m.row.length))), (c, 0, encS (markSn j.m.memo.length (k + j.m.row.length + j.m.vals.length)))] := by
  refine .agg (.same rfl .nil) ?_
  unfold jO jK jCells mO mK mCells
  refine .same rfl ?_
  refine .row e1 (lB_encB _ false).symm (by rw [List.drop_zero, Nat.mul_one, List.take_of_length_le (by rw [encB_len, markBo_len]; exact Nat.le_refl _)]) l1 ?_
  refine .same rfl (.same rfl (.same rfl ?_))
  refine .row e2 (lI_encI _ false).symm (by rw [List.drop_zero, Nat.mul_one, List.take_of_length_le (by rw [encI_len, markI_len]; exact Nat.le_refl _)]) l2 ?_
  refine .same rfl (.same rfl (.same rfl (.same rfl (.same rfl ?_))))
  refine .row e3 (lS_encS _ false).symm (by rw [List.drop_zero, List.take_of_length_le (by rw [encS_len, markSn_len]; exact Nat.le_refl _)]) l3 ?_
  exact .same rfl (.same rfl .nil)
theorem argJG {ob : Obs} {L : Lend} {al al' : List AV} {M : Lend} {a b c : Nat} {G : Gh} {j : Jb} (h : ArgsL ob L al al' M) (e1 : ob.getD a none = some ⟨G.gr, j.m.row.map cb⟩) (e2 : ob.getD b none = some ⟨G.gv, (j.m.vals ++ G.jv).map ci⟩) (e3 : ob.getD c none = some ⟨G.gm, lS (G.pm ++ j.m.memo)⟩)
    (l1 : lk L a G.gr = some (encB j.m.row)) (l2 : lk L b G.gv = some (encI (j.m.vals ++ G.jv))) (l3 : lk L c G.gm = some (encS (G.pm ++ j.m.memo))) :
    ArgsL ob L (.agg (jCells (mCl a b c G j.m) j) :: al) (.agg (jD j) :: al') ((a, G.gr, encB j.m.row) :: (b, G.gv, encI (j.m.vals ++ G.jv)) :: (c, G.gm, encS (G.pm ++ j.m.memo)) :: M) := by
  refine .agg h ?_
  unfold jCells jD jCells mCl mD mCells
  refine .same rfl ?_
  refine .row e1 (lB_encB _ false).symm (by rw [List.drop_zero, Nat.mul_one, List.take_of_length_le (by rw [encB_len]; exact Nat.le_refl _)]) l1 ?_
  refine .same rfl (.same rfl (.same rfl ?_))
  refine .row e2 (lI_encI _ false).symm (by rw [List.drop_zero, Nat.mul_one, encV_take]) l2 ?_
  refine .same rfl (.same rfl (.same rfl (.same rfl (.same rfl ?_))))
  refine .row e3 (lS_encS _ false).symm (by rw [encM_mid]) l3 ?_
  exact .same rfl (.same rfl .nil)
theorem CallK.jobQ {P : Program} {f : FuncId} {args args' : List AV} {st : St} {d : Option Tmp} {K : St → Prop} {L : Lend} {j : Jb} {c : Int} (h : CallsA P f args' [] (QJ j c)) (ha : ArgsL st.ob L args args' L) (k : ∀ G, K ⟨putT st.tm d (.tup [.agg (jCells (mCl st.ob.length (st.ob.length + 1) (st.ob.length + 2) G j.m) j), TI c]), st.ob ++ mRw G j.m⟩) : CallK P f args st d K :=
  CallK.use (Q := QJ j c) [] L ha.lend (by rw [ha.map]; exact h) fun r ob1 ⟨G, e1, e2⟩ => by
    subst e1; subst e2
    refine ⟨Nat.zero_le _, .inr ⟨rfl, obFlat_noB (mRw_flat2 G j.m)⟩, ?_⟩
    rw [obB_nil, obFlat_ren (mRw_flat2 G j.m), mB_nil]
    have e : AV.ren (sh st.ob.length) (.tup [.agg (jCells (mCl 0 1 2 G j.m) j), TI c]) = .tup [.agg (jCells (mCl st.ob.length (st.ob.length + 1) (st.ob.length + 2) G j.m) j), TI c] := by
      simp only [jCells, mCl, mCells, AV.ren, TV.ren, List.map_cons, List.map_nil, List.map_append, List.cons_append, List.nil_append, lren_obj, lren_sc, sh, Nat.add_zero]
      rfl
    rw [e]
    exact k G
theorem stepM_le {m : Mc} (h : RightM m) (k : Nat) : (runM k m).row.length ≤ 12 ∧ (runM k m).vals.length ≤ 12 ∧ (runM k m).memo.length ≤ 40 := by
  have hr := run_right k h
  have h1 := hr.row
  have h2 := hr.n
  have h3 := hr.vals
  have h4 := hr.memo
  have h5 := hr.room
  omega
theorem end_le {j : Jb} (hf : j.m.Fits) : (endS j).m.row.length ≤ 1048576 ∧ (endS j).m.vals.length ≤ 1048576 ∧ (endS j).m.memo.length ≤ 1048576 := by
  unfold endS
  split
  · show (runN j.m 100000).row.length ≤ 1048576 ∧ (runN j.m 100000).vals.length ≤ 1048576 ∧ (runN j.m 100000).memo.length ≤ 1048576
    unfold runN
    split
    · rename_i h
      unfold okR at h
      rw [Bool.and_eq_true] at h
      have hR : RightM j.m := mOk_iff.1 (by first | exact h.1 | exact h.2)
      have := stepM_le hR (100000 : Int).toNat
      omega
    · exact ⟨hf.row, hf.vals, hf.memo⟩
  · exact ⟨hf.row, hf.vals, hf.memo⟩

theorem obB_three {a b c : Nat} {ob : Obs} {y1 y2 y3 : Ob} (hab : a ≠ b) (hac : a ≠ c) (hbc : b ≠ c) (ha : a < ob.length) (hb : b < ob.length) (hc : c < ob.length) (f1 : y1.cs.all LV.flat = true) (f2 : y2.cs.all LV.flat = true) (f3 : y3.cs.all LV.flat = true) : obB [a, b, c] ob [some y1, some y2, some y3] = ((ob.set a (some y1)).set b (some y2)).set c (some y3) := by
  unfold obB
  simp only [List.length_cons, List.length_nil, List.drop_succ_cons, List.drop_zero, List.map_nil, List.append_nil, Nat.zero_add]
  have e : ∀ j, ([a, b, c] : List Nat).idxOf? j = if j = a then some 0 else if j = b then some 1 else if j = c then some 2 else none := fun j => by
    simp only [List.idxOf?, List.findIdx?_cons, List.findIdx?_nil, beq_iff_eq]
    by_cases h1 : j = a
    · subst h1; simp
    · rw [if_neg (fun h => h1 h.symm), if_neg h1]
      by_cases h2 : j = b
      · subst h2; simp
      · rw [if_neg (fun h => h2 h.symm), if_neg h2]
        by_cases h3 : j = c
        · subst h3; simp
        · rw [if_neg (fun h => h3 h.symm), if_neg h3]; rfl
  have g : ∀ (mm : Nat → Nat → Option (Nat × Nat)) (y : Ob), y.cs.all LV.flat = true → Ob.ren mm y = y := fun mm y h => by
    unfold Ob.ren
    rw [map_flat h]
  apply List.ext_getElem?
  intro j
  rw [mrg_get, Nat.zero_add, e]
  by_cases h1 : j = a
  · subst h1
    rw [if_pos rfl, List.getElem?_set_ne (Ne.symm hac), List.getElem?_set_ne (Ne.symm hab), List.getElem?_set_self ha, List.getElem?_eq_getElem ha]
    simp [g _ y1 f1]
  · rw [if_neg h1]
    by_cases h2 : j = b
    · subst h2
      rw [if_pos rfl, List.getElem?_set_ne (Ne.symm hbc), List.getElem?_set_self (by rw [List.length_set]; exact hb), List.getElem?_eq_getElem hb]
      simp [g _ y2 f2]
    · rw [if_neg h2]
      by_cases h3 : j = c
      · subst h3
        rw [if_pos rfl, List.getElem?_set_self (by rw [List.length_set, List.length_set]; exact hc), List.getElem?_eq_getElem hc]
        simp [g _ y3 f3]
      · rw [if_neg h3, List.getElem?_set_ne (Ne.symm h3), List.getElem?_set_ne (Ne.symm h2), List.getElem?_set_ne (Ne.symm h1)]
        cases ob[j]? <;> rfl
/-- Three flat rows are handed over and written. -/
theorem CallK.give3 {P : Program} {f : FuncId} {args args' : List AV} {st : St} {d : Option Tmp} {K : St → Prop} (a b c : Nat) {x1 x2 x3 y1 y2 y3 : Ob} {v : AV} (h : CallsA P f args' [some x1, some x2, some x3] fun r ob => r = v ∧ ob = [some y1, some y2, some y3])
    (k : K ⟨putT st.tm d v, ((st.ob.set a (some y1)).set b (some y2)).set c (some y3)⟩) (h1 : st.ob.getD a none = some x1) (h2 : st.ob.getD b none = some x2) (h3 : st.ob.getD c none = some x3)
    (e1 : x1.cs.all LV.flat = true) (e2 : x2.cs.all LV.flat = true) (e3 : x3.cs.all LV.flat = true) (f1 : y1.cs.all LV.flat = true) (f2 : y2.cs.all LV.flat = true) (f3 : y3.cs.all LV.flat = true) (hv : v.flat = true := by rfl) (hab : a ≠ b ∧ a ≠ c ∧ b ≠ c := by decide) (ha : args.map (AV.toC [a, b, c] []) = args' := by rfl) : CallK P f args st d K := by
  have lt : ∀ {i : Nat} {x : Ob}, st.ob.getD i none = some x → i < st.ob.length := fun {i x} h => by
    rcases Nat.lt_or_ge i st.ob.length with h' | h'
    · exact h'
    · rw [List.getD_eq_getElem?_getD, List.getElem?_eq_none h'] at h; cases h
  refine CallK.use (Q := fun r ob => r = v ∧ ob = [some y1, some y2, some y3]) [a, b, c] [] ⟨by simp [hab], (fun s hs => by
    simp only [List.mem_cons, List.not_mem_nil, or_false] at hs
    rcases hs with h | h | h
    · rw [h]; exact lt h1
    · rw [h]; exact lt h2
    · rw [h]; exact lt h3), by simp, by simp⟩ ?_ ?_
  · rw [ha, show obC [a, b, c] st.ob = [some x1, some x2, some x3] by simp only [obC, List.map_cons, List.map_nil, h1, h2, h3, Option.map_some, map_flat e1, map_flat e2, map_flat e3]]
    exact h
  · rintro r ob1 ⟨r1, r2⟩
    subst r1; subst r2
    refine ⟨by simp, .inl rfl, ?_⟩
    rw [obB_three hab.1 hab.2.1 hab.2.2 (lt h1) (lt h2) (lt h3) f1 f2 f3, AV.flat_ren hv]
    exact k
theorem sJobEnd_c (j : Jb) (hf : j.m.Fits) (hj : j.journal.size ≤ 1048576) : CallsA E.P 5 [.agg (jD j)] [] (QJ (endS j) (endC j)) := by
  refine CallsA.body (E := E) (fn := Tryz.f5) Tryz.func5 rfl fun B hB => ?_
  simp only [Tryz.ntmps5, go_sem, nl, Nat.reduceSub, Nat.reduceAdd, List.reduceReplicate]
  refine Wp.seqK fun K1 hK1 => ?_
  refine rg ?_
  refine hK1 _ ?_
  clear hK1 K1
  refine Wp.seqK fun K2 hK2 => ?_
  refine rg ?_
  refine ⟨rfl, CallK.jobQ (h := sJobDo_c j hf hj) (ha := .same rfl (.same rfl .nil)) (fun G => ?_)⟩
  refine evd ?_
  refine hK2 _ ?_
  clear hK2 K2
  refine Wp.ret (retQJ (j := endS j) (c0 := endC j) (G := G) (a := 2) (b := 3) (c := 4) [2, 3, 4] rfl rfl rfl)
end Go.Proofs.YtonacngeaknlcaaGreatDoor.RE
/-! The law of JobEnd. Conditions: those that a theorem names. -/
set_option linter.unusedVariables false
set_option linter.unusedSimpArgs false
namespace Go.Proofs.YtonacngeaknlcaaGreatDoor.RE
open Go Go.RowKit
set_option maxRecDepth 100000
set_option maxHeartbeats 8000000
theorem lawJobEnd_c (j : Jb) (hr : j.m.row.length ≤ 9223372036854775807) (ho : j.m.ones.size ≤ 9223372036854775807) (hv : j.m.vals.length ≤ 9223372036854775807) (hm : j.m.memo.length ≤ 9223372036854775807) (hk : ∀ s ∈ j.m.memo, s.key.size ≤ 9223372036854775807) (hj : j.journal.size ≤ 9223372036854775807) : Val E.P 3 [.agg (jD j)] (T true) := by
  refine CallsA.body (E := E) (fn := Tryz.f3) Tryz.func3 rfl fun B hB => ?_
  simp only [Tryz.ntmps3, go_sem, nl, Nat.reduceSub, Nat.reduceAdd, List.reduceReplicate]
  refine Wp.seqK fun K1 hK1 => ?_
  refine rg ?_
  refine hK1 _ ?_
  clear hK1 K1
  refine Wp.seqK fun K2 hK2 => ?_
  refine rg ?_
  refine hK2 _ ?_
  clear hK2 K2
  refine Wp.seqK fun K3 hK3 => ?_
  refine rg ?_
  refine ⟨rfl, CallK.valA (h := szJob_c j 1048576 (by omega) (by omega) (by omega) (by omega) (by omega) (by omega) hk (by omega)) (k := ?_)⟩
  refine evd ?_
  refine hK3 _ ?_
  clear hK3 K3
  refine Wp.seqK fun K4 hK4 => ?_
  refine Wp.seqK fun K5 hK5 => ?_
  refine rg ?_
  refine hK5 _ ?_
  clear hK5 K5
  refine Wp.condS (fun h18 => ?_) (fun h18 => ?_)
  · refine Wp.seqK fun K6 hK6 => ?_
    refine rg ?_
    refine hK6 _ ?_
    clear hK6 K6
    refine Wp.ret (retV ?_)
    try simp only [List.getD_cons_zero, List.getD_cons_succ]
    try rfl
  · have hs := szJ_le (l := 1048576) (by omega) h18
    have hf := hs.1
    have hr0 := hf.row
    have ho0 := hf.ones
    have hv0 := hf.vals
    have hm0 := hf.memo
    have hj2 := hs.2
    have hel := end_le hf
    have htt := totM_n j.m
    have htt2 := totM_n (endS j).m
    refine Wp.skip ?_
    refine hK4 _ ?_
    clear hK4 K4
    refine Wp.seqK fun K7 hK7 => ?_
    refine rg ?_
    refine ⟨rfl, CallK.retA (h := toJob_c j (by omega) (by omega) (by omega)) (hf := mR_flat _) (k := ?_)⟩
    refine evd ?_
    refine ⟨rfl, CallK.jobQ (h := sJobEnd_c j hf hj2) (ha := argJ (j := j) ArgsL.nil rfl rfl rfl (by simp [lk]) (by simp [lk]) (by simp [lk])) (fun G => ?_)⟩
    refine evd ?_
    refine hK7 _ ?_
    clear hK7 K7
    refine Wp.seqK fun K8 hK8 => ?_
    refine rg ?_
    refine ⟨rfl, CallK.retA (h := toJob_c j (by omega) (by omega) (by omega)) (hf := mR_flat _) (k := ?_)⟩
    refine evd ?_
    refine hK8 _ ?_
    clear hK8 K8
    refine Wp.seqK fun K9 hK9 => ?_
    refine rg ?_
    refine ⟨rfl, CallK.retA (h := iJobEnd_c j hf hj2) (ha := argJ (j := j) ArgsL.nil rfl rfl rfl (by simp [lk]) (by simp [lk]) (by simp [lk])) (hf := mR_flat _) (k := ?_)⟩
    refine evd ?_
    refine hK9 _ ?_
    clear hK9 K9
    refine Wp.seqK fun K10 hK10 => ?_
    refine Wp.seqK fun K11 hK11 => ?_
    refine rg ?_
    refine ⟨rfl, CallK.valA (h := eqJob_c (endS j) (by omega) (by omega) (by omega)) (ha := argJ (j := endS j) (argJG (G := G) (j := endS j) ArgsL.nil rfl rfl rfl (by simp [lk]) (by simp [lk]) (by simp [lk])) rfl rfl rfl (by simp [lk]) (by simp [lk]) (by simp [lk])) (k := ?_)⟩
    refine evd ?_
    refine hK11 _ ?_
    clear hK11 K11
    refine Wp.condS (fun h40 => ?_) (fun h40 => ?_)
    · first | exact h40.elim | exact absurd h40 (by decide) | omega | simp at h40
    · refine Wp.skip ?_
      refine hK10 _ ?_
      clear hK10 K10
      refine Wp.seqK fun K12 hK12 => ?_
      refine Wp.seqK fun K13 hK13 => ?_
      refine Wp.drawI [0, 11] [2, 3] (by kernel_rfl) ?_
      refine evd ?_
      refine ⟨rfl, CallK.retA (h := toJob_c j (by omega) (by omega) (by omega)) (hf := mR_flat _) (k := ?_)⟩
      refine evd ?_
      refine ⟨rfl, CallK.valA (h := eqJob_c j (by omega) (by omega) (by omega)) (ha := argJ (j := j) (argJ (j := j) ArgsL.nil rfl rfl rfl (by simp [lk]) (by simp [lk]) (by simp [lk])) rfl rfl rfl (by simp [lk]) (by simp [lk]) (by simp [lk])) (k := ?_)⟩
      refine evd ?_
      refine hK13 _ ?_
      clear hK13 K13
      refine Wp.condS (fun h45 => ?_) (fun h45 => ?_)
      · first | exact h45.elim | exact absurd h45 (by decide) | omega | simp at h45
      · refine Wp.skip ?_
        refine hK12 _ ?_
        clear hK12 K12
        refine Wp.seqU0 [.d, .k, .d, .d, .k, .k, .k, .k, .k, .v (I 1), .d5, .d5, .d5, .d5, .d5, .d5, .d5, .d5, .d5, .d5, .d5, .d5, .d5, .d5, .d5, .d5, .d5, .d] (fun K14 hK14 => ?_) ?_
        · refine rg ?_
          exact hK14 _ anyS
        rintro f14
        simp only [updT_k, updT_d, updT_d5, updT_v, updT_nil, Nat.reduceAdd]
        refine Wp.seqK fun K15 hK15 => ?_
        refine rg ?_
        refine ⟨rfl, CallK.give3 8 9 10 (h := markJob_w j 1 (by omega) (by omega) (by omega) (by omega) (by omega)) (k := ?_) rfl rfl rfl (flatB _) (flatI _) (lS_flat _) (flatB _) (flatI _) (lS_flat _)⟩
        refine evd ?_
        refine hK15 _ ?_
        clear hK15 K15
        refine Wp.seqK fun K16 hK16 => ?_
        refine Wp.seqK fun K17 hK17 => ?_
        refine rg ?_
        refine grdA_split rfl (fun g14_3 => ?_) (fun g14_3 => ?_)
        · try simp only [decide_eq_true_eq, decide_eq_false_iff_not] at g14_3
          omega
        · try simp only [decide_eq_true_eq, decide_eq_false_iff_not] at g14_3
          try refine evd ?_
          refine ⟨rfl, CallK.valA (h := eqJob_c (endS j) (by omega) (by omega) (by omega)) (ha := argJ (j := endS j) (argJG (G := G) (j := endS j) ArgsL.nil rfl rfl rfl (by simp [lk]) (by simp [lk]) (by simp [lk])) rfl rfl rfl (by simp [lk]) (by simp [lk]) (by simp [lk])) (k := ?_)⟩
          refine evd ?_
          refine hK17 _ ?_
          clear hK17 K17
          refine Wp.condS (fun h61 => ?_) (fun h61 => ?_)
          · first | exact h61.elim | exact absurd h61 (by decide) | omega | simp at h61
          · refine Wp.skip ?_
            refine hK16 _ ?_
            clear hK16 K16
            refine Wp.seqU0 [.d, .k, .d, .d, .k, .k, .d, .k, .d, .d, .v (I 1), .d5, .d5, .d5, .d5, .d5, .d5, .d5, .d5, .d5, .d5, .d5, .d5, .d5, .d5, .d5, .d5, .d5] (fun K18 hK18 => ?_) ?_
            · refine rg ?_
              exact hK18 _ anyS
            rintro f18
            simp only [updT_k, updT_d, updT_d5, updT_v, updT_nil, Nat.reduceAdd]
            refine Wp.seqK fun K19 hK19 => ?_
            refine rg ?_
            refine ⟨rfl, CallK.give3 12 13 14 (h := markJob_w (endS j) 1 (by omega) (by omega) (by omega) (by omega) (by omega)) (k := ?_) rfl rfl rfl (flatB _) (flatI _) (lS_flat _) (flatB _) (flatI _) (lS_flat _)⟩
            refine evd ?_
            refine hK19 _ ?_
            clear hK19 K19
            refine Wp.seqK fun K20 hK20 => ?_
            refine rg ?_
            refine hK20 _ ?_
            clear hK20 K20
            refine Wp.seqK fun K21 hK21 => ?_
            refine rg ?_
            refine ⟨rfl, CallK.valA (h := heldJob_w (endS j) 1 (by omega) (by omega) (by omega) (by omega) (by omega)) (ha := argJK (j := endS j) (k := 1) (a := 12) (b := 13) (c := 14) rfl rfl rfl (by simp [lk]) (by simp [lk]) (by simp [lk])) (k := ?_)⟩
            refine evd ?_
            refine hK21 _ ?_
            clear hK21 K21
            refine Wp.seqK fun K22 hK22 => ?_
            refine Wp.seqK fun K23 hK23 => ?_
            refine rg ?_
            refine hK23 _ ?_
            clear hK23 K23
            refine Wp.condS (fun h69 => ?_) (fun h69 => ?_)
            · omega
            · refine Wp.skip ?_
              refine hK22 _ ?_
              clear hK22 K22
              refine Wp.seqK fun K24 hK24 => ?_
              refine Wp.seqK fun K25 hK25 => ?_
              refine rg ?_
              refine hK25 _ ?_
              clear hK25 K25
              refine Wp.condS (fun h72 => ?_) (fun h72 => ?_)
              · first | exact h72.elim | exact absurd h72 (by decide) | omega | simp at h72
              · refine Wp.skip ?_
                refine hK24 _ ?_
                clear hK24 K24
                refine Wp.seqK fun K26 hK26 => ?_
                refine rg ?_
                refine ⟨rfl, CallK.retA (h := toJob_c j (by omega) (by omega) (by omega)) (hf := mR_flat _) (k := ?_)⟩
                refine evd ?_
                refine ⟨rfl, CallK.retA (h := iJobEnd_c j hf hj2) (ha := argJ (j := j) ArgsL.nil rfl rfl rfl (by simp [lk]) (by simp [lk]) (by simp [lk])) (hf := mR_flat _) (k := ?_)⟩
                refine evd ?_
                refine hK26 _ ?_
                clear hK26 K26
                refine Wp.seqK fun K27 hK27 => ?_
                refine Wp.seqK fun K28 hK28 => ?_
                refine rg ?_
                refine ⟨rfl, CallK.valA (h := eqJob_c (endS j) (by omega) (by omega) (by omega)) (ha := argJ (j := endS j) (argJG (G := G) (j := endS j) ArgsL.nil rfl rfl rfl (by simp [lk]) (by simp [lk]) (by simp [lk])) rfl rfl rfl (by simp [lk]) (by simp [lk]) (by simp [lk])) (k := ?_)⟩
                refine evd ?_
                refine hK28 _ ?_
                clear hK28 K28
                refine Wp.condS (fun h87 => ?_) (fun h87 => ?_)
                · first | exact h87.elim | exact absurd h87 (by decide) | omega | simp at h87
                · refine Wp.skip ?_
                  refine hK27 _ ?_
                  clear hK27 K27
                  refine Wp.seqK fun K29 hK29 => ?_
                  refine rg ?_
                  refine hK29 _ ?_
                  clear hK29 K29
                  refine Wp.seqK fun K30 hK30 => ?_
                  refine rg ?_
                  refine ⟨rfl, CallK.valA (h := heldJob_w (endS j) 1 (by omega) (by omega) (by omega) (by omega) (by omega)) (ha := argJK (j := endS j) (k := 1) (a := 12) (b := 13) (c := 14) rfl rfl rfl (by simp [lk]) (by simp [lk]) (by simp [lk])) (k := ?_)⟩
                  refine evd ?_
                  refine hK30 _ ?_
                  clear hK30 K30
                  refine Wp.seqK fun K31 hK31 => ?_
                  refine Wp.seqK fun K32 hK32 => ?_
                  refine rg ?_
                  refine hK32 _ ?_
                  clear hK32 K32
                  refine Wp.condS (fun h92 => ?_) (fun h92 => ?_)
                  · omega
                  · refine Wp.skip ?_
                    refine hK31 _ ?_
                    clear hK31 K31
                    refine Wp.seqK fun K33 hK33 => ?_
                    refine Wp.seqK fun K34 hK34 => ?_
                    refine rg ?_
                    refine hK34 _ ?_
                    clear hK34 K34
                    refine Wp.condS (fun h95 => ?_) (fun h95 => ?_)
                    · first | exact h95.elim | exact absurd h95 (by decide) | omega | simp at h95
                    · refine Wp.skip ?_
                      refine hK33 _ ?_
                      clear hK33 K33
                      refine Wp.seqK fun K35 hK35 => ?_
                      refine rg ?_
                      refine hK35 _ ?_
                      clear hK35 K35
                      refine Wp.ret (retV ?_)
                      try simp only [List.getD_cons_zero, List.getD_cons_succ]
                      try rfl
theorem lawJobEnd_b (j : Jb) (hb : MBd j.m ∧ j.journal.size ≤ maxLen) : Val E.P 3 [.agg (jD j)] (T true) := by
  obtain ⟨⟨h1, h2, h3, h4, h5⟩, h6⟩ := hb
  unfold maxLen at *
  exact lawJobEnd_c j (by omega) (by omega) (by omega) (by omega) (fun s hs => by have := h5 s hs; unfold maxLen at this; omega) (by omega)
end Go.Proofs.YtonacngeaknlcaaGreatDoor.RE
