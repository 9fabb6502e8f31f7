/- Machines and jobs as arguments: opened as lent rows. Conditions: those that a theorem names. -/
import Derived.Test.YtlgjogfcpgfbnaaRV
import Derived.Test.YtlgjogfcpgfbnaaJ1
set_option linter.unusedVariables false
set_option linter.unusedSimpArgs false
namespace Go.Proofs.Ytlgjogfcpgfbnaa.RE
set_option maxRecDepth 100000
open Go Go.RowKit Go.ChangeShapes Go.WideShapes Go.Deep
section
variable {P : Program} {W : World}
theorem opd_strB {t : TypeId} (ht : P.underlying t = some .string) : OpD P W t fun s : {b : ByteArray // b.size ≤ maxLen} => [DV.sc (.string s.1)] := by
  intro H enc base held fuel cs x h
  obtain ⟨n, rfl, _, hn⟩ := DataW.trod_string ht h
  exact ⟨⟨n, hn⟩, .cons (.sc _ rfl) .nil⟩
theorem opd_row {α : Type} {t et : TypeId} {sz : Nat} {e : α → List DV} (ht : P.underlying t = some (.slice et)) (hc : P.cellsOf et = sz) (he : ∀ v, (e v).length = sz) (h : OpD P W et e) : OpD P W t fun xs : {l : List α // l.length ≤ maxLen} => [DV.dsl xs.1.length (xs.1.flatMap e)] := by
  intro H enc base held fuel cs x hx
  obtain ⟨xs, v, rfl, hl, hv⟩ := open_rowD ht hc he h hx
  exact ⟨⟨xs, hl⟩, .cons hv .nil⟩
theorem flat_one {α β : Type} (f : α → β) (l : List α) : l.flatMap (fun x => [f x]) = l.map f := by
  induction l with
  | nil => rfl
  | cons x l ih => rw [List.flatMap_cons, ih]; rfl
end
structure MBd (m : Mc) : Prop where
  row : m.row.length ≤ maxLen
  ones : m.ones.size ≤ maxLen
  vals : m.vals.length ≤ maxLen
  memo : m.memo.length ≤ maxLen
  keys : ∀ s ∈ m.memo, s.key.size ≤ maxLen
def mV (m : Mc) : List DV := [.dsl m.row.length (encB m.row), .sc (.int .i64 m.n), .sc (.string m.ones), .sc (.int .i64 m.room), .dsl m.vals.length (encI m.vals), .sc (.int .i64 m.ret), .sc (.bool m.over), .sc (.int .i64 m.steps), .sc (.int .i64 m.looks), .sc (.int .i64 m.hits), .dsl m.memo.length (encS m.memo)]
def jV (j : Jb) : List DV := .sc (.int .i64 j.state) :: (mV j.m ++ [.sc (.string j.journal), .sc (.int .i64 j.synced)])
theorem mV_mD (m : Mc) : (mV m).map (LV.ofD true) = mD m := rfl
theorem jV_jD (j : Jb) : (jV j).map (LV.ofD true) = jD j := rfl
section
variable {W : World}
theorem oInt : OpD Try.prog W 3 fun n : Int => [DV.sc (.int .i64 n)] := opd_int (by kernel_rfl)
theorem oBool : OpD Try.prog W 4 fun n : Bool => [DV.sc (.bool n)] := opd_bool (by kernel_rfl)
theorem oStr : OpD Try.prog W 9 fun s : {b : ByteArray // b.size ≤ maxLen} => [DV.sc (.string s.1)] := opd_strB (by kernel_rfl)
theorem oTable : OpD Try.prog W 44 fun v : Int × {b : ByteArray // b.size ≤ maxLen} => [DV.sc (.int .i64 v.1)] ++ ([DV.sc (.string v.2.1)]) := by
  refine opd_struct (sz := 2) Try.underlying44 (by kernel_rfl) ?_
  simp only [List.toList_toArray]
  refine opdL_cons (sa := 1) (sb := 1) (a := fun x : Int => [DV.sc (.int .i64 x)]) (b := fun u : {b : ByteArray // b.size ≤ maxLen} => [DV.sc (.string u.1)]) rfl (by kernel_rfl) oInt ?_ (by simp)
  exact opdL_one rfl (by kernel_rfl) oStr
theorem oSeen : OpD Try.prog W 160 fun v : {b : ByteArray // b.size ≤ maxLen} × Int => [DV.sc (.string v.1.1)] ++ ([DV.sc (.int .i64 v.2)]) := by
  refine opd_struct (sz := 2) Try.underlying160 (by kernel_rfl) ?_
  simp only [List.toList_toArray]
  refine opdL_cons (sa := 1) (sb := 1) (a := fun x : {b : ByteArray // b.size ≤ maxLen} => [DV.sc (.string x.1)]) (b := fun u : Int => [DV.sc (.int .i64 u)]) rfl (by kernel_rfl) oStr ?_ (by simp)
  exact opdL_one rfl (by kernel_rfl) oInt
theorem oBools : OpD Try.prog W 43 fun l : {l : List Bool // l.length ≤ maxLen} => [DV.dsl l.1.length (encB l.1)] :=
  (opd_row (sz := 1) (e := fun n : Bool => [DV.sc (.bool n)]) Try.underlying43 (by kernel_rfl) (fun _ => rfl) oBool).iso id fun l => by simp only [encB, id, flat_one]
theorem oInts : OpD Try.prog W 45 fun l : {l : List Int // l.length ≤ maxLen} => [DV.dsl l.1.length (encI l.1)] :=
  (opd_row (sz := 1) (e := fun n : Int => [DV.sc (.int .i64 n)]) Try.underlying45 (by kernel_rfl) (fun _ => rfl) oInt).iso id fun l => by simp only [encI, id, flat_one]
def SBd (l : List Sn) : Prop := l.length ≤ maxLen ∧ ∀ s ∈ l, s.key.size ≤ maxLen
theorem oSeens : OpD Try.prog W 46 fun l : {l : List Sn // SBd l} => [DV.dsl l.1.length (encS l.1)] :=
  (opd_row (sz := 2) Try.underlying46 (by kernel_rfl) (fun _ => rfl) oSeen).iso (fun l => ⟨l.1.map fun v => ⟨v.1.1, v.2⟩, by simpa using l.2, fun s hs => by
    obtain ⟨v, _, rfl⟩ := List.mem_map.1 hs
    exact v.1.2⟩) fun l => by
      simp only [List.length_map, encS, List.flatMap_map]
      rfl
theorem oMachine0 : OpD Try.prog W 48 fun v : {l : List Bool // l.length ≤ maxLen} × (Int × {b : ByteArray // b.size ≤ maxLen}) × Int × {l : List Int // l.length ≤ maxLen} × Int × Bool × Int × Int × Int × {l : List Sn // SBd l} => [DV.dsl v.1.1.length (encB v.1.1)] ++ (([DV.sc (.int .i64 v.2.1.1)] ++ ([DV.sc (.string v.2.1.2.1)])) ++ ([DV.sc (.int .i64 v.2.2.1)] ++ ([DV.dsl v.2.2.2.1.1.length (encI v.2.2.2.1.1)] ++ ([DV.sc (.int .i64 v.2.2.2.2.1)] ++ ([DV.sc (.bool v.2.2.2.2.2.1)] ++ ([DV.sc (.int .i64 v.2.2.2.2.2.2.1)] ++ ([DV.sc (.int .i64 v.2.2.2.2.2.2.2.1)] ++ ([DV.sc (.int .i64 v.2.2.2.2.2.2.2.2.1)] ++ ([DV.dsl v.2.2.2.2.2.2.2.2.2.1.length (encS v.2.2.2.2.2.2.2.2.2.1)]))))))))) := by
  refine opd_struct (sz := 11) Try.underlying48 (by kernel_rfl) ?_
  simp only [List.toList_toArray]
  refine opdL_cons (sa := 1) (sb := 10) (a := fun x : {l : List Bool // l.length ≤ maxLen} => [DV.dsl x.1.length (encB x.1)]) (b := fun u : (Int × {b : ByteArray // b.size ≤ maxLen}) × Int × {l : List Int // l.length ≤ maxLen} × Int × Bool × Int × Int × Int × {l : List Sn // SBd l} => ([DV.sc (.int .i64 u.1.1)] ++ ([DV.sc (.string u.1.2.1)])) ++ ([DV.sc (.int .i64 u.2.1)] ++ ([DV.dsl u.2.2.1.1.length (encI u.2.2.1.1)] ++ ([DV.sc (.int .i64 u.2.2.2.1)] ++ ([DV.sc (.bool u.2.2.2.2.1)] ++ ([DV.sc (.int .i64 u.2.2.2.2.2.1)] ++ ([DV.sc (.int .i64 u.2.2.2.2.2.2.1)] ++ ([DV.sc (.int .i64 u.2.2.2.2.2.2.2.1)] ++ ([DV.dsl u.2.2.2.2.2.2.2.2.1.length (encS u.2.2.2.2.2.2.2.2.1)]))))))))) rfl (by kernel_rfl) oBools ?_ (by simp)
  refine opdL_cons (sa := 2) (sb := 8) (a := fun x : (Int × {b : ByteArray // b.size ≤ maxLen}) => ([DV.sc (.int .i64 x.1)] ++ ([DV.sc (.string x.2.1)]))) (b := fun u : Int × {l : List Int // l.length ≤ maxLen} × Int × Bool × Int × Int × Int × {l : List Sn // SBd l} => [DV.sc (.int .i64 u.1)] ++ ([DV.dsl u.2.1.1.length (encI u.2.1.1)] ++ ([DV.sc (.int .i64 u.2.2.1)] ++ ([DV.sc (.bool u.2.2.2.1)] ++ ([DV.sc (.int .i64 u.2.2.2.2.1)] ++ ([DV.sc (.int .i64 u.2.2.2.2.2.1)] ++ ([DV.sc (.int .i64 u.2.2.2.2.2.2.1)] ++ ([DV.dsl u.2.2.2.2.2.2.2.1.length (encS u.2.2.2.2.2.2.2.1)])))))))) rfl (by kernel_rfl) oTable ?_ (by simp)
  refine opdL_cons (sa := 1) (sb := 7) (a := fun x : Int => [DV.sc (.int .i64 x)]) (b := fun u : {l : List Int // l.length ≤ maxLen} × Int × Bool × Int × Int × Int × {l : List Sn // SBd l} => [DV.dsl u.1.1.length (encI u.1.1)] ++ ([DV.sc (.int .i64 u.2.1)] ++ ([DV.sc (.bool u.2.2.1)] ++ ([DV.sc (.int .i64 u.2.2.2.1)] ++ ([DV.sc (.int .i64 u.2.2.2.2.1)] ++ ([DV.sc (.int .i64 u.2.2.2.2.2.1)] ++ ([DV.dsl u.2.2.2.2.2.2.1.length (encS u.2.2.2.2.2.2.1)]))))))) rfl (by kernel_rfl) oInt ?_ (by simp)
  refine opdL_cons (sa := 1) (sb := 6) (a := fun x : {l : List Int // l.length ≤ maxLen} => [DV.dsl x.1.length (encI x.1)]) (b := fun u : Int × Bool × Int × Int × Int × {l : List Sn // SBd l} => [DV.sc (.int .i64 u.1)] ++ ([DV.sc (.bool u.2.1)] ++ ([DV.sc (.int .i64 u.2.2.1)] ++ ([DV.sc (.int .i64 u.2.2.2.1)] ++ ([DV.sc (.int .i64 u.2.2.2.2.1)] ++ ([DV.dsl u.2.2.2.2.2.1.length (encS u.2.2.2.2.2.1)])))))) rfl (by kernel_rfl) oInts ?_ (by simp)
  refine opdL_cons (sa := 1) (sb := 5) (a := fun x : Int => [DV.sc (.int .i64 x)]) (b := fun u : Bool × Int × Int × Int × {l : List Sn // SBd l} => [DV.sc (.bool u.1)] ++ ([DV.sc (.int .i64 u.2.1)] ++ ([DV.sc (.int .i64 u.2.2.1)] ++ ([DV.sc (.int .i64 u.2.2.2.1)] ++ ([DV.dsl u.2.2.2.2.1.length (encS u.2.2.2.2.1)]))))) rfl (by kernel_rfl) oInt ?_ (by simp)
  refine opdL_cons (sa := 1) (sb := 4) (a := fun x : Bool => [DV.sc (.bool x)]) (b := fun u : Int × Int × Int × {l : List Sn // SBd l} => [DV.sc (.int .i64 u.1)] ++ ([DV.sc (.int .i64 u.2.1)] ++ ([DV.sc (.int .i64 u.2.2.1)] ++ ([DV.dsl u.2.2.2.1.length (encS u.2.2.2.1)])))) rfl (by kernel_rfl) oBool ?_ (by simp)
  refine opdL_cons (sa := 1) (sb := 3) (a := fun x : Int => [DV.sc (.int .i64 x)]) (b := fun u : Int × Int × {l : List Sn // SBd l} => [DV.sc (.int .i64 u.1)] ++ ([DV.sc (.int .i64 u.2.1)] ++ ([DV.dsl u.2.2.1.length (encS u.2.2.1)]))) rfl (by kernel_rfl) oInt ?_ (by simp)
  refine opdL_cons (sa := 1) (sb := 2) (a := fun x : Int => [DV.sc (.int .i64 x)]) (b := fun u : Int × {l : List Sn // SBd l} => [DV.sc (.int .i64 u.1)] ++ ([DV.dsl u.2.1.length (encS u.2.1)])) rfl (by kernel_rfl) oInt ?_ (by simp)
  refine opdL_cons (sa := 1) (sb := 1) (a := fun x : Int => [DV.sc (.int .i64 x)]) (b := fun u : {l : List Sn // SBd l} => [DV.dsl u.1.length (encS u.1)]) rfl (by kernel_rfl) oInt ?_ (by simp)
  exact opdL_one rfl (by kernel_rfl) oSeens
theorem oMachine : OpD Try.prog W 48 fun m : {m : Mc // MBd m} => mV m.1 :=
  oMachine0.iso (fun (v : {l : List Bool // l.length ≤ maxLen} × (Int × {b : ByteArray // b.size ≤ maxLen}) × Int × {l : List Int // l.length ≤ maxLen} × Int × Bool × Int × Int × Int × {l : List Sn // SBd l}) => ⟨⟨v.1.1, v.2.1.1, v.2.1.2.1, v.2.2.1, v.2.2.2.1.1, v.2.2.2.2.1, v.2.2.2.2.2.1, v.2.2.2.2.2.2.1, v.2.2.2.2.2.2.2.1, v.2.2.2.2.2.2.2.2.1, v.2.2.2.2.2.2.2.2.2.1⟩, ⟨v.1.2, v.2.1.2.2, v.2.2.2.1.2, v.2.2.2.2.2.2.2.2.2.2.1, v.2.2.2.2.2.2.2.2.2.2.2⟩⟩) fun v => rfl
theorem oJob0 : OpD Try.prog W 50 fun v : Int × {m : Mc // MBd m} × {b : ByteArray // b.size ≤ maxLen} × Int => [DV.sc (.int .i64 v.1)] ++ (mV v.2.1.1 ++ ([DV.sc (.string v.2.2.1.1)] ++ ([DV.sc (.int .i64 v.2.2.2)]))) := by
  refine opd_struct (sz := 14) Try.underlying50 (by kernel_rfl) ?_
  simp only [List.toList_toArray]
  refine opdL_cons (sa := 1) (sb := 13) (a := fun x : Int => [DV.sc (.int .i64 x)]) (b := fun u : {m : Mc // MBd m} × {b : ByteArray // b.size ≤ maxLen} × Int => mV u.1.1 ++ ([DV.sc (.string u.2.1.1)] ++ ([DV.sc (.int .i64 u.2.2)]))) rfl (by kernel_rfl) oInt ?_ (by simp)
  refine opdL_cons (sa := 11) (sb := 2) (a := fun x : {m : Mc // MBd m} => mV x.1) (b := fun u : {b : ByteArray // b.size ≤ maxLen} × Int => [DV.sc (.string u.1.1)] ++ ([DV.sc (.int .i64 u.2)])) rfl (by kernel_rfl) oMachine ?_ (by simp)
  refine opdL_cons (sa := 1) (sb := 1) (a := fun x : {b : ByteArray // b.size ≤ maxLen} => [DV.sc (.string x.1)]) (b := fun u : Int => [DV.sc (.int .i64 u)]) rfl (by kernel_rfl) oStr ?_ (by simp)
  exact opdL_one rfl (by kernel_rfl) oInt
theorem oJob : OpD Try.prog W 50 fun j : {j : Jb // MBd j.m ∧ j.journal.size ≤ maxLen} => jV j.1 :=
  oJob0.iso (fun (v : Int × {m : Mc // MBd m} × {b : ByteArray // b.size ≤ maxLen} × Int) => ⟨⟨v.1, v.2.1.1, v.2.2.1.1, v.2.2.2⟩, v.2.1.2, v.2.2.1.2⟩) fun v => rfl
/-- A record as an argument. -/
theorem open_rec {P : Program} {α : Type} {t : TypeId} {e : α → List DV} {fs : Array Field} (ht : P.underlying t = some (.struct fs)) (h : OpD P W t e) {H : Type} {enc : TypeId × Value → H} {base : Nat} {held : Bool} {v : Value} {d : DataW H} {ps : List MemPlace} (hv : Value.okWide P W .any base t v) (hd : DataW.Trod enc P W 0 (fun _ => true) held t v d ps) :
    ∃ (x : α) (cs : Array Value), v = .agg cs ∧ All2 (VD W (rB W)) (e x) cs.toList := by
  obtain ⟨cs, rfl, _⟩ := okWide_struct ht hv
  obtain ⟨fuel, hf⟩ := hd
  obtain ⟨x, hx⟩ := h H enc 0 held fuel _ _ hf
  exact ⟨x, cs, rfl, hx⟩
theorem arg_agg {ds : List DV} {cs : Array Value} {ls : List LV} (hl : ds.map (LV.ofD true) = ls) (h : All2 (VD W (rB W)) ds cs.toList) : VA W (cx0 W).ρ (RO W (cx0 W) []) (.agg ls) (.agg cs) := by
  subst hl
  refine ⟨cs, rfl, All2.map_l (h.imp fun d v hd => ⟨?_, hd.one⟩)⟩
  have := hd.mono (r' := RO W (cx0 W) [] true) (w' := W) fun b hb => ⟨ro0 b hb, rfl⟩
  cases this with
  | sc v h => rfl
  | nils => rfl
  | dsl len cs a cap us h1 h1' h2 h3 => exact .dsl len cs a cap us h1 h1' h2 h3
end
end Go.Proofs.Ytlgjogfcpgfbnaa.RE
