/- A machine as a text, program. Conditions: those that a theorem names. -/
import Derived.Test.YtbhlegobhidgkaaDoorS1
import Derived.Test.YtbhlegobhidgkaaDoorS2
set_option linter.unusedVariables false
set_option linter.unusedSimpArgs false
namespace Go.Proofs.YtbhlegobhidgkaaDoor.RE
open Go Go.RowKit
set_option maxRecDepth 100000
set_option maxHeartbeats 8000000

/-! ### A machine as a text -/
def b01 (b : Bool) : Int := if b = true then 1 else 0
def decB (n : Int) : ByteArray := mkB (decL n.toNat)
def sp : ByteArray := ⟨#[32]⟩
def nlB : ByteArray := ⟨#[10]⟩
def rowL (m : Mc) : ByteArray := ⟨#[114, 111, 119, 32]⟩ ++ mkB (rowT m.row)
def tableL (m : Mc) : ByteArray := ⟨#[116, 97, 98, 108, 101, 32]⟩ ++ keyB m.n m.ones
def roomL (m : Mc) : ByteArray := ⟨#[114, 111, 111, 109, 32]⟩ ++ decB m.room
def valsL (m : Mc) : ByteArray := ⟨#[118, 97, 108, 115, 32]⟩ ++ mkB (valsT m.vals)
def retL' (m : Mc) : ByteArray := ⟨#[114, 101, 116, 32]⟩ ++ mkB (retT m.ret)
def overL (m : Mc) : ByteArray := ⟨#[111, 118, 101, 114, 32]⟩ ++ decB (b01 m.over)
def cntL (m : Mc) : ByteArray := ⟨#[99, 111, 117, 110, 116, 115, 32]⟩ ++ decB m.steps ++ sp ++ decB m.looks ++ sp ++ decB m.hits
def headL (m : Mc) : List ByteArray := [rowL m, tableL m, roomL m, valsL m, retL' m, overL m, cntL m]
def seenL (s : Sn) : ByteArray := ⟨#[115, 101, 101, 110, 32]⟩ ++ s.key ++ sp ++ decB s.ret
def saveL (m : Mc) : List ByteArray := headL m ++ m.memo.map seenL
def linB (l : List ByteArray) : List UInt8 := l.flatMap fun x => x.data.toList ++ [10]
def saveT (m : Mc) : ByteArray := mkB (linB (saveL m))
def allP (m : Mc) : Bool := m.memo.all fun s => plainB s.key
def saveB (m : Mc) : Bool := mOk m && (allP m && decide (((saveT m).size : Int) ≤ 400000))
def saveR (m : Mc) : ByteArray := if saveB m = true then saveT m else ⟨#[]⟩
theorem decL_small {n : Nat} (h : n ≤ 1000000000) : (decL n).length ≤ 10 := decL_len 9 n (by omega)
theorem keyL_len {n : Nat} (h : n ≤ 12) : (decL n).length ≤ 2 := decL_len 1 n (by omega)
structure OkN (m : Mc) : Prop where
  row : m.row.length ≤ 12
  n : 0 ≤ m.n ∧ m.n ≤ 12
  ones : m.ones.size ≤ 4096
  room : 0 ≤ m.room ∧ m.room ≤ 40
  vals : m.vals.length ≤ 12
  va : m.vals.all bitI = true
  ret : -1 ≤ m.ret ∧ m.ret ≤ 1
  steps : 0 ≤ m.steps ∧ m.steps ≤ 1000000000
  looks : 0 ≤ m.looks ∧ m.looks ≤ 1000000000
  hits : 0 ≤ m.hits ∧ m.hits ≤ 1000000000
  memo : m.memo.length ≤ 40
  mret : ∀ i, i < m.memo.length → bitI (m.memo.getD i default).ret = true
  tab : tableOk m.n m.ones = true
  mem : memN m.memo m.memo.length = true
theorem memN_ret {l : List Sn} : ∀ {n : Nat}, memN l n = true → ∀ i, i < n → bitI (l.getD i default).ret = true
  | 0, _, i, h => by omega
  | n + 1, h, i, hi => by
    rw [memN, Bool.and_eq_true, Bool.and_eq_true] at h
    by_cases he : i = n
    · subst he; exact h.2.1
    · exact memN_ret h.1 i (by omega)
theorem mOk_n {m : Mc} (h : mOk m = true) : OkN m := by
  unfold mOk mA mB' mC' mD' rowedB cntB inI at h
  simp only [Bool.and_eq_true, decide_eq_true_eq, Bool.not_eq_true'] at h
  obtain ⟨⟨⟨⟨⟨⟨⟨a1, a2⟩, a3, a4⟩, a5⟩, a6⟩, ⟨a7, a8, a9⟩, a10⟩, a11⟩, ⟨⟨a12, a13⟩, a14, a15⟩, a16, a17⟩ := h
  have ht : tokA m.n m.ones = true := by
    unfold tableOk at a1
    rw [Bool.and_eq_true] at a1
    exact a1.1
  unfold tokA at ht
  rw [decide_eq_true_eq] at ht
  have hp := pw12 ht.1 ht.2.1
  exact ⟨by omega, ⟨ht.1, ht.2.1⟩, by omega, ⟨a3, a4⟩, by omega, a7, ⟨a8, a9⟩, ⟨a12, a13⟩, ⟨a14, a15⟩, ⟨a16, a17⟩, by omega, memN_ret a11, a1, a11⟩
theorem sz_app (a b : ByteArray) : (a ++ b).size = a.size + b.size := ByteArray.size_append
theorem rowT_len (r : List Bool) : (rowT r).length ≤ r.length + 1 := by
  unfold rowT
  split
  · simp
  · simp
theorem valsT_len (r : List Int) : (valsT r).length ≤ r.length + 1 := by
  unfold valsT
  split
  · simp
  · simp
theorem retT_len {n : Int} (h : -1 ≤ n ∧ n ≤ 1) : (retT n).length ≤ 10 := by
  unfold retT
  split
  · simp
  · exact decL_small (by omega)
theorem decB_size {n : Int} (h : 0 ≤ n ∧ n ≤ 1000000000) : (decB n).size ≤ 10 := by
  unfold decB
  rw [mkB_size]
  exact decL_small (by omega)
theorem b01_le (b : Bool) : 0 ≤ b01 b ∧ b01 b ≤ 1 := by cases b <;> decide
theorem decimal_d (n : Int) (hn : 0 ≤ n ∧ n ≤ 1000000000) : Val E.P 26 [I n] (S (decB n)) := decimal_i n (by omega)
theorem key_i (n : Int) (o : ByteArray) (hn : 0 ≤ n ∧ n ≤ 12) (ho : o.size ≤ 1048576) : Val E.P 25 [.agg (tb n o)] (S (keyB n o)) := by
  have := key_c n.toNat o (by omega) ho
  rwa [Int.toNat_of_nonneg hn.1] at this
theorem keyB_size {n : Int} (o : ByteArray) (hn : 0 ≤ n ∧ n ≤ 12) : (keyB n o).size ≤ 3 + o.size := by
  unfold keyB
  rw [sz_app, sz_app, mkB_size]
  have := keyL_len (n := n.toNat) (by omega)
  have h1 : (⟨#[58]⟩ : ByteArray).size = 1 := rfl
  omega
def kS (l : List Sn) : Nat := (l.map fun s => s.key.size).sum
theorem kS_push {l : List Sn} {x : Nat} (h : x < l.length) : kS (l.take (x + 1)) = kS (l.take x) + (l.getD x default).key.size := by
  unfold kS
  rw [take_push default h, List.map_append, List.sum_append]; simp
theorem seenL_size {s : Sn} (hr : bitI s.ret = true) : (seenL s).size ≤ s.key.size + 16 ∧ s.key.size + 7 ≤ (seenL s).size := by
  have h4 := bitI_le hr
  have h5 := decB_size (n := s.ret) (by omega)
  have h6 : 1 ≤ (decB s.ret).size := by
    unfold decB
    rw [mkB_size]; exact decL_pos _
  unfold seenL
  rw [sz_app, sz_app, sz_app]
  have h1 : (⟨#[115, 101, 101, 110, 32]⟩ : ByteArray).size = 5 := rfl
  have h2 : sp.size = 1 := rfl
  omega

theorem linB_app (a b : List ByteArray) : linB (a ++ b) = linB a ++ linB b := by simp [linB]
theorem linB_cons (x : ByteArray) (r : List ByteArray) : linB (x :: r) = x.data.toList ++ [10] ++ linB r := by simp [linB]
theorem join_lin : ∀ (x : ByteArray) (r : List ByteArray), Lib.join ((x :: r).map (·.data.toList)) [10] ++ [10] = linB (x :: r) := by
  intro x r
  rw [List.map_cons, Lib.join_cons, linB_cons, List.append_assoc, List.append_assoc]
  congr 1
  unfold Lib.joinTail
  induction r with
  | nil => rfl
  | cons y r ih =>
    rw [List.map_cons, List.map_cons, List.flatten_cons, linB_cons]
    simp only [List.append_assoc] at ih ⊢
    rw [ih]
theorem linB_len : ∀ l : List ByteArray, (linB l).length = (l.map fun x => x.size + 1).sum
  | [] => rfl
  | x :: r => by
    rw [linB_cons, List.length_append, List.length_append, linB_len r, List.map_cons, List.sum_cons, ← size_list]; rfl
theorem head_len {m : Mc} (hn : OkN m) : (linB (headL m)).length ≤ 6000 := by
  have q1 := rowT_len m.row
  have q2 := keyB_size m.ones hn.n
  have q3 := decB_size (n := m.room) (by have := hn.room; omega)
  have q4 := valsT_len m.vals
  have q5 := retT_len hn.ret
  have q7 := decB_size (n := b01 m.over) (by have := b01_le m.over; omega)
  have q8 := decB_size hn.steps
  have q9 := decB_size hn.looks
  have q10 := decB_size hn.hits
  have z1 := hn.row
  have z3 := hn.ones
  have z5 := hn.vals
  have l0 : (⟨#[114, 111, 119, 32]⟩ : ByteArray).size = 4 := rfl
  have l1 : (⟨#[116, 97, 98, 108, 101, 32]⟩ : ByteArray).size = 6 := rfl
  have l2 : (⟨#[114, 111, 111, 109, 32]⟩ : ByteArray).size = 5 := rfl
  have l3 : (⟨#[118, 97, 108, 115, 32]⟩ : ByteArray).size = 5 := rfl
  have l4 : (⟨#[114, 101, 116, 32]⟩ : ByteArray).size = 4 := rfl
  have l5 : (⟨#[111, 118, 101, 114, 32]⟩ : ByteArray).size = 5 := rfl
  have l6 : (⟨#[99, 111, 117, 110, 116, 115, 32]⟩ : ByteArray).size = 7 := rfl
  have l7 : sp.size = 1 := rfl
  rw [linB_len]
  simp only [headL, List.map_cons, List.map_nil, List.sum_cons, List.sum_nil, rowL, tableL, roomL, valsL, retL', overL, cntL, sz_app, mkB_size, l0, l1, l2, l3, l4, l5, l6, l7]
  omega
theorem seen_len {l : List Sn} (hr : ∀ s ∈ l, bitI s.ret = true) : (linB (l.map seenL)).length ≤ kS l + 17 * l.length ∧ kS l ≤ (linB (l.map seenL)).length := by
  induction l with
  | nil => simp [linB, kS]
  | cons s l ih =>
    have h1 := ih (fun x hx => hr x (List.mem_cons_of_mem _ hx))
    have h2 := seenL_size (hr s List.mem_cons_self)
    rw [List.map_cons, linB_cons, List.length_append, List.length_append, ← size_list]
    simp only [kS, List.map_cons, List.sum_cons, List.length_cons, List.length_nil] at h1 ⊢
    omega
theorem mret_mem {m : Mc} (hn : OkN m) : ∀ s ∈ m.memo, bitI s.ret = true := by
  intro s hs
  obtain ⟨i, hi, rfl⟩ := List.getElem_of_mem hs
  rw [getD_at (d := default) hi]
  exact hn.mret i hi
theorem save_lin (m : Mc) : linB (saveL m) = linB (headL m) ++ linB (m.memo.map seenL) := linB_app _ _
theorem kS_le (l : List Sn) (x : Nat) : kS (l.take x) ≤ kS l := by
  have : kS l = kS (l.take x) + kS (l.drop x) := by
    unfold kS
    rw [← List.sum_append, ← List.map_append, List.take_append_drop]
  omega
theorem save_bad {m : Mc} (hn : OkN m) {x : Nat} (h : 400000 < kS (m.memo.take x)) : saveB m = false := by
  have h1 := kS_le m.memo x
  have h2 := seen_len (mret_mem hn)
  have h3 : (saveT m).size = (linB (saveL m)).length := mkB_size _
  rw [save_lin, List.length_append] at h3
  unfold saveB
  rw [decide_eq_false (show ¬ ((saveT m).size : Int) ≤ 400000 by omega), Bool.and_false, Bool.and_false]
theorem save_badP {m : Mc} {x : Nat} (hx : x < m.memo.length) (h : plainB (m.memo.getD x default).key = false) : saveB m = false := by
  have : allP m = false := by
    unfold allP
    rw [Bool.eq_false_iff]
    intro ha
    have := List.all_eq_true.1 ha _ (mem_getD (d := default) hx)
    rw [h] at this; cases this
  unfold saveB
  rw [this, Bool.false_and, Bool.and_false]
theorem allS_push {l : List Sn} {x : Nat} (hx : x < l.length) (h : (l.take x).all (fun s => plainB s.key) = true) (hb : plainB (l.getD x default).key = true) : (l.take (x + 1)).all (fun s => plainB s.key) = true := by
  rw [take_push default hx, List.all_append, h, List.all_cons, hb]; rfl
theorem headL_len (m : Mc) : (headL m).length = 7 := rfl
theorem seenP {l : List Sn} {x : Nat} (h : x < l.length) (m : Mc) : headL m ++ (l.take (x + 1)).map seenL = (headL m ++ (l.take x).map seenL) ++ [seenL (l.getD x default)] := by
  rw [take_push default h, List.map_append, List.append_assoc]; rfl
theorem join_small {m : Mc} (hn : OkN m) {x : Nat} (h : kS (m.memo.take x) ≤ 400000) : (Lib.join ((headL m ++ (m.memo.take x).map seenL).map (·.data.toList)) (⟨#[10]⟩ : ByteArray).data.toList).length ≤ 140737488355328 := by
  have h1 := join_lin (rowL m) ([tableL m, roomL m, valsL m, retL' m, overL m, cntL m] ++ (m.memo.take x).map seenL)
  have h2 := congrArg List.length h1
  rw [List.length_append, show rowL m :: ([tableL m, roomL m, valsL m, retL' m, overL m, cntL m] ++ (m.memo.take x).map seenL) = headL m ++ (m.memo.take x).map seenL from rfl, linB_app, List.length_append] at h2
  have h3 := head_len hn
  have h4 := seen_len (l := m.memo.take x) (fun s hs => mret_mem hn s (List.mem_of_mem_take hs))
  have h5 : (m.memo.take x).length ≤ 40 := by rw [List.length_take]; have := hn.memo; omega
  show (Lib.join ((headL m ++ (m.memo.take x).map seenL).map (·.data.toList)) [10]).length ≤ _
  omega
theorem joinB_size (xs : List ByteArray) (sep : ByteArray) : (joinB xs sep).size = (Lib.join (xs.map (·.data.toList)) sep.data.toList).length := mkB_size _
theorem join_save (m : Mc) : joinB (headL m ++ m.memo.map seenL) ⟨#[10]⟩ ++ ⟨#[10]⟩ = saveT m := by
  have h1 := join_lin (rowL m) ([tableL m, roomL m, valsL m, retL' m, overL m, cntL m] ++ m.memo.map seenL)
  show mkB (Lib.join ((headL m ++ m.memo.map seenL).map (·.data.toList)) [10]) ++ mkB [10] = mkB (linB (headL m ++ m.memo.map seenL))
  rw [mkB_app]
  exact congrArg mkB h1
theorem iSave_c (m : Mc) (hf : m.Fits) : Val E.P 8 [.agg (mD m)] (.tup [.l (.sc (.string (saveR m))), TB (saveB m)]) := by
  refine CallsA.body (E := E) (fn := Tryd.f8) Tryd.func8 rfl fun B hB => ?_
  simp only [Tryd.ntmps8, go_sem, nl, Nat.reduceSub, Nat.reduceAdd, List.reduceReplicate]
  have hk := hf.keys
  have hr0 := hf.row
  have ho0 := hf.ones
  have hv0 := hf.vals
  have hm0 := hf.memo
  have l0 : (#[114, 111, 119, 32] : Array UInt8).size = 4 := rfl
  have l1 : (#[116, 97, 98, 108, 101, 32] : Array UInt8).size = 6 := rfl
  have l2 : (#[114, 111, 111, 109, 32] : Array UInt8).size = 5 := rfl
  have l3 : (#[118, 97, 108, 115, 32] : Array UInt8).size = 5 := rfl
  have l4 : (#[114, 101, 116, 32] : Array UInt8).size = 4 := rfl
  have l5 : (#[111, 118, 101, 114, 32] : Array UInt8).size = 5 := rfl
  have l6 : (#[99, 111, 117, 110, 116, 115, 32] : Array UInt8).size = 7 := rfl
  have l7 : (#[32] : Array UInt8).size = 1 := rfl
  have l8 : (#[115, 101, 101, 110, 32] : Array UInt8).size = 5 := rfl
  have l9 : (#[10] : Array UInt8).size = 1 := rfl
  refine Wp.seqK fun K1 hK1 => ?_
  refine rg ?_
  refine hK1 _ ?_
  clear hK1 K1
  refine Wp.seqK fun K2 hK2 => ?_
  refine Wp.seqK fun K3 hK3 => ?_
  refine rg ?_
  refine ⟨rfl, CallK.valA (h := iMachineOk_c _ hf) (k := ?_)⟩
  refine evd ?_
  refine hK3 _ ?_
  clear hK3 K3
  refine Wp.condS (fun h11 => ?_) (fun h11 => ?_)
  · refine Wp.seqK fun K4 hK4 => ?_
    refine rg ?_
    refine hK4 _ ?_
    clear hK4 K4
    refine Wp.ret (retV ?_)
    show _ = AV.tup [.l (.sc (.string (saveR m))), TB (saveB m)]
    unfold saveR saveB
    rw [h11]; rfl
  · have hn := mOk_n h11
    have hhl := headL_len m
    have z10 := hn.memo
    refine Wp.skip ?_
    refine hK2 _ ?_
    clear hK2 K2
    refine Wp.seqU (α := Unit) (fun u_ => [.d, .k, .d, .d, .v (.l (.obj 1 0 1 0 7)), .d5, .d5, .d5, .d5, .d5, .d5, .d5, .d5, .d5, .d5, .d5, .d5, .d5, .d5, .d5, .d5, .d5, .d]) (fun u_ => [some ⟨0, mD m⟩, some ⟨0, (headL m).map ct⟩]) (fun u_ => True) (fun K5 hK5 => ?_) ?_
    · have q1 := rowT_len m.row
      have q2 := keyB_size m.ones hn.n
      have q3 := decB_size (n := m.room) (by have := hn.room; omega)
      have q4 := valsT_len m.vals
      have q5 := retT_len hn.ret
      have q6 := b01_le m.over
      have q7 := decB_size (n := b01 m.over) (by omega)
      have q8 := decB_size hn.steps
      have q9 := decB_size hn.looks
      have q10 := decB_size hn.hits
      have q11 := mkB_size (rowT m.row)
      have q12 := mkB_size (valsT m.vals)
      have q13 := mkB_size (retT m.ret)
      have c1 := sz_app ⟨#[99, 111, 117, 110, 116, 115, 32]⟩ (decB m.steps)
      have c2 := sz_app (⟨#[99, 111, 117, 110, 116, 115, 32]⟩ ++ decB m.steps) ⟨#[32]⟩
      have c3 := sz_app (⟨#[99, 111, 117, 110, 116, 115, 32]⟩ ++ decB m.steps ++ ⟨#[32]⟩) (decB m.looks)
      have c4 := sz_app (⟨#[99, 111, 117, 110, 116, 115, 32]⟩ ++ decB m.steps ++ ⟨#[32]⟩ ++ decB m.looks) ⟨#[32]⟩
      have l10 : (⟨#[32]⟩ : ByteArray).size = 1 := rfl
      have l11 : (⟨#[99, 111, 117, 110, 116, 115, 32]⟩ : ByteArray).size = 7 := rfl
      have z1 := hn.row
      have z2 := hn.n
      have z3 := hn.ones
      have z4 := hn.room
      have z5 := hn.vals
      have hva := hn.va
      have z6 := hn.ret
      have z7 := hn.steps
      have z8 := hn.looks
      have z9 := hn.hits
      have z10 := hn.memo
      refine Wp.drawP [0] [2, 6, 10, 14, 18, 22, 23, 27, 32, 37, 39] [0, 1, 4, 5, 8, 9, 12, 13, 16, 17, 20, 21, 25, 26, 30, 31, 35, 36, 2, 3, 6, 7, 10, 11, 14, 15, 18, 19, 22, 23, 24, 27, 28, 29, 32, 33, 34, 37, 38, 39, 40] rfl (by kernel_rfl) ?_
      refine evd ?_
      refine ⟨rfl, CallK.valA (h := iRowText_c _ (by omega)) (k := ?_)⟩
      refine evd ?_
      refine ⟨rfl, CallK.valA (h := key_i _ _ (by omega) (by omega)) (k := ?_)⟩
      refine evd ?_
      refine ⟨rfl, CallK.valA (h := decimal_d (m.room) (by omega)) (k := ?_)⟩
      refine evd ?_
      refine ⟨rfl, CallK.valA (h := bitsText_c _ (by omega) hva) (k := ?_)⟩
      refine evd ?_
      refine ⟨rfl, CallK.valA (h := decimal_r m.ret (by omega)) (k := ?_)⟩
      refine evd ?_
      refine ⟨rfl, CallK.valA (h := bit_c _) (k := ?_)⟩
      refine evd ?_
      refine ⟨rfl, CallK.valA (h := decimal_d (b01 m.over) (by omega)) (k := ?_)⟩
      refine evd ?_
      refine ⟨rfl, CallK.valA (h := decimal_d (m.steps) (by omega)) (k := ?_)⟩
      refine evd ?_
      refine ⟨rfl, CallK.valA (h := decimal_d (m.looks) (by omega)) (k := ?_)⟩
      refine evd ?_
      refine ⟨rfl, CallK.valA (h := decimal_d (m.hits) (by omega)) (k := ?_)⟩
      refine evd ?_
      exact hK5 () _ trivial anyS
    rintro _ f5 _
    simp only [updT_k, updT_d, updT_d5, updT_v, updT_nil, Nat.reduceAdd]
    refine Wp.seqK fun K6 hK6 => ?_
    refine rg ?_
    refine hK6 _ ?_
    clear hK6 K6
    refine Wp.seqK fun K7 hK7 => ?_
    refine Wp.seqK fun K8 hK8 => ?_
    refine rg ?_
    refine hK8 _ ?_
    clear hK8 K8
    refine Wp.block ?_
    refine Wp.loopU (α := Nat) (fun x => [.d, .d, .d, .d, .v (.l (.obj 1 x 1 0 (7 + x))), .v (I (kS (m.memo.take x) : Int)), .d5, .d5, .d5, .d5, .d5, .d5, .d5, .d5, .d5, .d, .d, .k, .k, .v (I x), .d5, .d5, .d5, .d5, .d5, .d5, .d5]) (fun x => [some ⟨0, mD m⟩, some ⟨x, (headL m ++ (m.memo.take x).map seenL).map ct⟩]) (fun x => x ≤ m.memo.length ∧ kS (m.memo.take x) ≤ 400000 ∧ (m.memo.take x).all (fun s => plainB s.key) = true) (fun x => m.memo.length - x) 0 (⟨Nat.zero_le _, by simp [kS], rfl⟩) (anyS (ho := by simp only [List.take_zero, List.map_nil, List.append_nil, mD, mCells])) ?_
    rintro x f9 K9 ⟨hx, hk4, hpa⟩ hK9
    simp only [updT_k, updT_d, updT_d5, updT_v, updT_nil, Nat.reduceAdd]
    refine Wp.seqK fun K10 hK10 => ?_
    refine rg ?_
    refine hK10 _ ?_
    clear hK10 K10
    refine Wp.seqK fun K11 hK11 => ?_
    refine Wp.condS (fun h56 => ?_) (fun h56 => ?_)
    · have hxl : x < m.memo.length := by omega
      have hkx := hk _ (mem_getD (d := default) hxl)
      have hks := kS_push hxl
      have hbr := hn.mret x hxl
      have hb2 := bitI_le hbr
      have s0 := decB_size (n := (m.memo.getD x default).ret) (by omega)
      have s1 := sz_app ⟨#[115, 101, 101, 110, 32]⟩ (m.memo.getD x default).key
      have s2 := sz_app (⟨#[115, 101, 101, 110, 32]⟩ ++ (m.memo.getD x default).key) ⟨#[32]⟩
      have s3 : (⟨#[115, 101, 101, 110, 32]⟩ : ByteArray).size = 5 := rfl
      have s4 : (⟨#[32]⟩ : ByteArray).size = 1 := rfl
      refine Wp.skip ?_
      refine hK11 _ ?_
      clear hK11 K11
      refine Wp.seqK fun K12 hK12 => ?_
      refine Wp.block ?_
      refine Wp.seqK fun K13 hK13 => ?_
      refine rg ?_
      refine hK13 _ ?_
      clear hK13 K13
      refine Wp.seqK fun K14 hK14 => ?_
      refine rg ?_
      refine hK14 _ ?_
      clear hK14 K14
      refine Wp.seqK fun K15 hK15 => ?_
      refine Wp.seqU0 [.d, .d, .d, .d, .k, .k, .d, .k, .d5, .d5, .d5, .d5, .d5, .d5, .d5, .d5, .d5, .k, .k, .k, .d5, .d5, .d5, .v (T (!(plainB (m.memo.getD x default).key && decide ((kS (m.memo.take (x + 1)) : Int) ≤ 400000)))), .d5, .d5, .d5, .d, .d, .d, .d] (fun K16 hK16 => ?_) ?_
      · refine rg ?_
        refine ⟨rfl, CallK.valA (h := isKey_c _ (by omega)) (k := ?_)⟩
        refine evd ?_
        refine grdA_split rfl (fun g9_5 => ?_) (fun g9_5 => ?_)
        · try simp only [Bool.not_eq_true', Bool.not_eq_false', decide_eq_true_eq, decide_eq_false_iff_not] at g9_5
          try refine evd ?_
          exact hK16 _ (anyS (h := by rw [g9_5]; rfl))
        · try simp only [Bool.not_eq_true', Bool.not_eq_false', decide_eq_true_eq, decide_eq_false_iff_not] at g9_5
          try refine evd ?_
          exact hK16 _ (anyS (h := by rw [g9_5, hks, Bool.true_and, j_le]; rfl))
      rintro f16
      simp only [updT_k, updT_d, updT_d5, updT_v, updT_nil, Nat.reduceAdd]
      refine Wp.condS (fun h71 => ?_) (fun h71 => ?_)
      · refine Wp.seqK fun K17 hK17 => ?_
        refine rg ?_
        refine hK17 _ ?_
        clear hK17 K17
        refine Wp.ret (retV ?_)
        show _ = AV.tup [.l (.sc (.string (saveR m))), TB (saveB m)]
        rcases Bool.eq_false_or_eq_true (plainB (m.memo.getD x default).key) with hp | hp
        · have hsb : saveB m = false := save_bad hn (x := x + 1) (by rw [hp, Bool.true_and, decide_eq_false_iff_not] at h71; omega)
          unfold saveR
          rw [hsb]; rfl
        · have hsb : saveB m = false := save_badP hxl hp
          unfold saveR
          rw [hsb]; rfl
      · have hpl := h71.1
        refine Wp.skip ?_
        refine hK15 _ ?_
        clear hK15 K15
        refine Wp.drawI [0, 2] [7, 9, 10] (by kernel_rfl) ?_
        refine evd ?_
        refine ⟨rfl, CallK.valA (h := decimal_d _ (by omega)) (k := ?_)⟩
        refine evd ?_
        try simp only [thn, inB, if_true, reduceIte]
        refine hK12 _ ?_
        clear hK12 K12
        refine Wp.keepR 2 [] (by rw [hB]; simp) (by simp) (by simp) (by simp) ?_
        refine evd ?_
        refine rg ?_
        exact hK9 (x + 1) _ ⟨hxl, by have := h71.2; omega, allS_push hxl hpa hpl⟩ (by omega) (anyS (h := by rw [hks]; rfl) (ho := by rw [seenP hxl]; rfl))
    · have hxl : x = m.memo.length := by omega
      have hjs := join_small hn hk4
      subst hxl
      rw [List.take_length] at hjs hk4 hpa
      refine Wp.exit ?_
      try simp only [thn, inB, if_true, reduceIte]
      clear hK11 K11
      clear hK9 K9
      refine hK7 _ ?_
      clear hK7 K7
      refine Wp.seqK fun K18 hK18 => ?_
      refine rg ?_
      refine ⟨rfl, CallK.valA (h := join_c _ _ (by simp only [List.length_append, List.length_map, List.length_take, headL_len]; omega) hjs) (k := ?_) (ha := .rowT rfl (by simp only [List.length_append, List.length_map, hhl]) (by simp [lk]) (.same rfl .nil))⟩
      refine evd ?_
      refine ⟨by have hz := joinB_size (headL m ++ m.memo.map seenL) ⟨#[10]⟩; have l9 : (#[10] : Array UInt8).size = 1 := rfl; omega, ?_⟩
      try refine evd ?_
      rw [join_save]
      refine hK18 _ ?_
      clear hK18 K18
      refine Wp.seqK fun K19 hK19 => ?_
      refine Wp.seqK fun K20 hK20 => ?_
      refine rg ?_
      refine hK20 _ ?_
      clear hK20 K20
      refine Wp.condS (fun h89 => ?_) (fun h89 => ?_)
      · refine Wp.seqK fun K21 hK21 => ?_
        refine rg ?_
        refine hK21 _ ?_
        clear hK21 K21
        refine Wp.ret (retV ?_)
        show _ = AV.tup [.l (.sc (.string (saveR m))), TB (saveB m)]
        have hsb : saveB m = false := by unfold saveB; rw [decide_eq_false (by omega), Bool.and_false, Bool.and_false]
        unfold saveR
        rw [hsb]; rfl
      · refine Wp.skip ?_
        refine hK19 _ ?_
        clear hK19 K19
        refine Wp.seqK fun K22 hK22 => ?_
        refine rg ?_
        refine hK22 _ ?_
        clear hK22 K22
        refine Wp.ret (retV ?_)
        show _ = AV.tup [.l (.sc (.string (saveR m))), TB (saveB m)]
        have hsb : saveB m = true := by unfold saveB; rw [h11, show allP m = true from hpa, decide_eq_true (by omega)]; rfl
        unfold saveR
        rw [hsb]; rfl
end Go.Proofs.YtbhlegobhidgkaaDoor.RE
