/- Digits and keys, plain. Conditions: those that a theorem names. -/
import Derived.Test.YtbhlegobhidgkaaDoorE5
import Derived.Test.YtbhlegobhidgkaaDoorJ2
import Derived.Test.YtbhlegobhidgkaaDoorRS
import Derived.Test.YtbhlegobhidgkaaDoorS1
import Derived.Test.YtbhlegobhidgkaaDoorD9
/-! Digits and keys, plain. Conditions: those that a theorem names. -/
set_option linter.unusedVariables false
set_option linter.unusedSimpArgs false
namespace Go.Proofs.YtbhlegobhidgkaaDoor.RE
open Go Go.RowKit
set_option maxRecDepth 100000
set_option maxHeartbeats 8000000
theorem dig_digB {k : Nat} (h : k < 10) : digB (dig k) = true := by
  have : k = 0 ∨ k = 1 ∨ k = 2 ∨ k = 3 ∨ k = 4 ∨ k = 5 ∨ k = 6 ∨ k = 7 ∨ k = 8 ∨ k = 9 := by omega
  rcases this with h | h | h | h | h | h | h | h | h | h <;> subst h <;> rfl
theorem dig_nat {k : Nat} (h : k < 10) : (dig k).toNat = 48 + k := by
  have : k = 0 ∨ k = 1 ∨ k = 2 ∨ k = 3 ∨ k = 4 ∨ k = 5 ∨ k = 6 ∨ k = 7 ∨ k = 8 ∨ k = 9 := by omega
  rcases this with h | h | h | h | h | h | h | h | h | h <;> subst h <;> rfl
theorem decL_dig (n : Nat) : (decL n).all digB = true := by
  rw [decL]
  split
  · rename_i h
    simp [dig_digB h]
  · rw [List.all_append, decL_dig (n / 10)]
    simp [dig_digB (Nat.mod_lt n (by decide : 0 < 10))]
termination_by n
decreasing_by omega
theorem numV_app (l : List UInt8) (b : UInt8) : numV (l ++ [b]) = 10 * numV l + (b.toNat - 48) := by simp [numV]
theorem decL_num (n : Nat) : numV (decL n) = n := by
  rw [decL]
  split
  · rename_i h
    show 10 * 0 + ((dig n).toNat - 48) = n
    rw [dig_nat h]; omega
  · rw [numV_app, decL_num (n / 10), dig_nat (Nat.mod_lt n (by decide : 0 < 10))]
    omega
termination_by n
decreasing_by omega
theorem bit_digB {b : UInt8} (h : bitB b = true) : digB b = true := by
  have := of_decide_eq_true h
  unfold digB
  simp only [Bool.and_eq_true, decide_eq_true_eq]
  omega
theorem keyB_list (n : Int) (o : ByteArray) : (keyB n o).data.toList = decL n.toNat ++ 58 :: o.data.toList := by
  unfold keyB
  rw [bapp, bapp, mkB_list, List.append_assoc]; rfl
end Go.Proofs.YtbhlegobhidgkaaDoor.RE
/-! A machine's steps, plain: what is right stays right, what is remembered is true, it ends. Conditions: those that a theorem names. -/
set_option linter.unusedVariables false
set_option linter.unusedSimpArgs false
namespace Go.Proofs.YtbhlegobhidgkaaDoor.RE
open Go Go.RowKit
set_option maxRecDepth 100000
set_option maxHeartbeats 8000000
/-! ### Tables and their halves -/
def tabN (n : Nat) (o : ByteArray) : Prop := o.size = 2 ^ n ∧ ∀ b ∈ o.data.toList, b = 48 ∨ b = 49
theorem bitB_iff {b : UInt8} : bitB b = true ↔ b = 48 ∨ b = 49 := by
  unfold bitB
  rw [decide_eq_true_eq]
  exact ⟨fun h => h.imp (fun h => UInt8.toNat_inj.1 h) (fun h => UInt8.toNat_inj.1 h), fun h => h.imp (fun h => by rw [h]; rfl) (fun h => by rw [h]; rfl)⟩
theorem tab_iff {n : Int} {o : ByteArray} : tableOk n o = true ↔ (0 ≤ n ∧ n ≤ 12) ∧ tabN n.toNat o := by
  unfold tableOk tokA tabN
  simp only [Bool.and_eq_true, decide_eq_true_eq, List.all_eq_true, bitB_iff]
  have : ((2 ^ n.toNat : Nat) : Int) = (2 : Int) ^ n.toNat := by simp
  constructor
  · rintro ⟨⟨h1, h2, h3⟩, h4⟩
    exact ⟨⟨h1, h2⟩, by omega, h4⟩
  · rintro ⟨⟨h1, h2⟩, h3, h4⟩
    exact ⟨⟨h1, h2, by omega⟩, h4⟩
def halfB (v : Int) (o : ByteArray) : ByteArray := o.extract (v.toNat * (o.size / 2)) (v.toNat * (o.size / 2) + o.size / 2)
def leftB (o : ByteArray) (l : List Int) : ByteArray := l.foldl (fun o v => halfB v o) o
theorem leftB_push (o : ByteArray) (l : List Int) (v : Int) : leftB o (l ++ [v]) = halfB v (leftB o l) := by simp [leftB]
theorem ext_mem {o : ByteArray} {a b : Nat} {x : UInt8} (h : x ∈ (o.extract a b).data.toList) : x ∈ o.data.toList := by
  rw [ext_list] at h
  exact List.mem_of_mem_drop (List.mem_of_mem_take h)
theorem bit_nat {v : Int} (h : bitI v = true) : v.toNat = 0 ∨ v.toNat = 1 := by
  have := bitI_le h; omega
theorem half_tab {n : Nat} {o : ByteArray} {v : Int} (h : tabN (n + 1) o) (hv : bitI v = true) : tabN n (halfB v o) := by
  refine ⟨?_, fun b hb => h.2 b (ext_mem hb)⟩
  unfold halfB
  rw [ByteArray.size_extract, h.1, Nat.pow_succ]
  rcases bit_nat hv with e | e <;> rw [e] <;> omega
theorem left_tab : ∀ {l : List Int} {n : Nat} {o : ByteArray}, tabN n o → l.all bitI = true → l.length ≤ n → tabN (n - l.length) (leftB o l)
  | [], n, o, h, _, _ => h
  | v :: l, 0, o, h, _, hl => by simp at hl
  | v :: l, n + 1, o, h, ha, hl => by
    rw [List.all_cons, Bool.and_eq_true] at ha
    have := left_tab (l := l) (n := n) (half_tab h ha.1) ha.2 (by simpa using hl)
    rw [List.length_cons, show n + 1 - (l.length + 1) = n - l.length by omega]
    exact this
theorem plV_app (l : List Int) (v : Int) : plV (l ++ [v]) = 2 * plV l + v := by simp [plV]
theorem plV_nn : ∀ {l : List Int}, l.all bitI = true → 0 ≤ plV l ∧ plV l < 2 ^ l.length := by
  intro l
  generalize hk : l.length = k
  induction k generalizing l with
  | zero => intro _; rw [List.eq_nil_of_length_eq_zero hk]; simp [plV]
  | succ k ih =>
    intro h
    have hne : l ≠ [] := fun e => by rw [e] at hk; cases hk
    have e := List.dropLast_concat_getLast hne
    rw [← e, List.all_append, Bool.and_eq_true] at h
    have h1 := ih (l := l.dropLast) (by simp [hk]) h.1
    have h2 := bitI_le (show bitI (l.getLast hne) = true by simpa using h.2)
    rw [← e, plV_app, Int.pow_succ]
    omega
theorem left_ext {n : Nat} {o : ByteArray} (ho : tabN n o) : ∀ {l : List Int}, l.all bitI = true → l.length ≤ n → leftB o l = o.extract ((plV l).toNat * 2 ^ (n - l.length)) (((plV l).toNat + 1) * 2 ^ (n - l.length)) := by
  intro l
  generalize hk : l.length = k
  induction k generalizing l with
  | zero =>
    intro _ _
    rw [List.eq_nil_of_length_eq_zero hk]
    refine ba_ext ?_
    rw [ext_list]
    show o.data.toList = _
    have e0 : (plV []).toNat = 0 := rfl
    rw [e0, Nat.zero_mul, Nat.zero_add, Nat.one_mul, List.drop_zero, Nat.sub_zero, List.take_of_length_le]
    have := size_list o
    have := ho.1
    simp only [Nat.sub_zero]
    omega
  | succ k ih =>
    intro h hl
    have hne : l ≠ [] := fun e => by rw [e] at hk; cases hk
    have e := List.dropLast_concat_getLast hne
    have hd : l.dropLast.length = k := by simp [hk]
    have h' := h
    rw [← e, List.all_append, Bool.and_eq_true] at h'
    have h1 := ih hd h'.1 (by omega)
    have h2 : bitI (l.getLast hne) = true := by simpa using h'.2
    have ht := left_tab ho h'.1 (by omega)
    have hp := plV_nn h'.1
    rw [hd] at ht
    rw [← e, leftB_push, plV_app]
    unfold halfB
    rw [ht.1, show n - k = (n - (k + 1)) + 1 by omega, Nat.pow_succ, Nat.mul_div_cancel _ (by decide : 0 < 2), h1]
    refine ba_ext ?_
    rw [ext_list, ext_list, ext_list, show n - k = (n - (k + 1)) + 1 by omega, Nat.pow_succ]
    generalize 2 ^ (n - (k + 1)) = z
    have e2 : (2 * plV l.dropLast + l.getLast hne).toNat = 2 * (plV l.dropLast).toNat + (l.getLast hne).toNat := by
      have := bitI_le h2
      omega
    rw [e2]
    generalize (plV l.dropLast).toNat = p
    have e3 : (p + 1) * (z * 2) - p * (z * 2) = 2 * z := by rw [← Nat.mul_sub_right_distrib]; simp; omega
    rw [e3, List.drop_take, List.drop_drop, List.take_take]
    rcases bit_nat h2 with e4 | e4 <;> rw [e4]
    · congr 1
      · simp only [Nat.zero_mul, Nat.zero_add, Nat.sub_zero, Nat.add_zero]
        rw [← Nat.mul_sub_right_distrib, show 2 * p + 1 - 2 * p = 1 by omega]
        omega
      · congr 1
        rw [Nat.zero_mul, Nat.add_zero, Nat.add_zero, ← Nat.mul_assoc, Nat.mul_comm (p * z) 2, ← Nat.mul_assoc]
    · congr 1
      · rw [← Nat.mul_sub_right_distrib (2 * p + 1 + 1), show 2 * p + 1 + 1 - (2 * p + 1) = 1 by omega]
        omega
      · congr 1
        rw [Nat.add_mul, Nat.mul_assoc, ← Nat.mul_assoc p z 2, Nat.mul_comm (p * z) 2]
/-! ### What a table comes to -/
def verd : List Bool → ByteArray → Int
  | [], o => ((o.data.toList.getD 0 0).toNat : Int) - 48
  | true :: r, o => if verd r (halfB 0 o) = 1 ∧ verd r (halfB 1 o) = 1 then 1 else 0
  | false :: r, o => if verd r (halfB 0 o) = 1 ∨ verd r (halfB 1 o) = 1 then 1 else 0
theorem verd_bit : ∀ {r : List Bool} {o : ByteArray}, tabN r.length o → verd r o = 0 ∨ verd r o = 1
  | [], o, h => by
    have h1 : 0 < o.data.toList.length := by have := h.1; rw [size_list] at this; rw [this]; exact Nat.one_pos
    have h2 := h.2 _ (mem_getD (d := 0) h1)
    unfold verd
    rcases h2 with h2 | h2 <;> rw [h2]
    · exact .inl rfl
    · exact .inr rfl
  | true :: r, o, h => by unfold verd; split <;> simp
  | false :: r, o, h => by unfold verd; split <;> simp
def hasB (c : UInt8) (o : ByteArray) : Bool := o.data.toList.contains c
def knownB (o : ByteArray) : Int := if hasB 49 o = true then (if hasB 48 o = true then -1 else 1) else 0
theorem verd_const {k : Int} {c : UInt8} (hc : (c.toNat : Int) - 48 = k) (hk : k = 0 ∨ k = 1) : ∀ {r : List Bool} {o : ByteArray}, tabN r.length o → (∀ b ∈ o.data.toList, b = c) → verd r o = k
  | [], o, h, ha => by
    have h1 : 0 < o.data.toList.length := by have := h.1; rw [size_list] at this; rw [this]; exact Nat.one_pos
    unfold verd
    rw [ha _ (mem_getD (d := 0) h1), hc]
  | true :: r, o, h, ha => by
    have h1 := verd_const hc hk (half_tab (v := 0) h rfl) fun b hb => ha b (ext_mem hb)
    have h2 := verd_const hc hk (half_tab (v := 1) h rfl) fun b hb => ha b (ext_mem hb)
    unfold verd
    rw [h1, h2]
    rcases hk with rfl | rfl <;> simp
  | false :: r, o, h, ha => by
    have h1 := verd_const hc hk (half_tab (v := 0) h rfl) fun b hb => ha b (ext_mem hb)
    have h2 := verd_const hc hk (half_tab (v := 1) h rfl) fun b hb => ha b (ext_mem hb)
    unfold verd
    rw [h1, h2]
    rcases hk with rfl | rfl <;> simp
theorem has_no {c : UInt8} {o : ByteArray} (h : hasB c o = false) : ∀ b ∈ o.data.toList, b ≠ c := fun b hb e => by
  subst e
  unfold hasB at h
  rw [List.contains_iff_mem.2 hb] at h; cases h
theorem known_bit {o : ByteArray} (h : 0 ≤ knownB o) : knownB o = 0 ∨ knownB o = 1 := by
  unfold knownB at *
  split at h
  · rename_i h1
    split at h
    · omega
    · rename_i h2
      rw [if_pos h1, if_neg h2]; simp
  · rename_i h1
    rw [if_neg h1]; simp
theorem known_ge (o : ByteArray) : -1 ≤ knownB o ∧ knownB o ≤ 1 := by
  unfold knownB
  repeat' split
  all_goals omega
theorem verd_known {r : List Bool} {o : ByteArray} (ht : tabN r.length o) (h : 0 ≤ knownB o) : verd r o = knownB o := by
  unfold knownB at *
  split at h
  · rename_i h1
    split at h
    · omega
    · rename_i h2
      rw [if_pos h1, if_neg h2]
      exact verd_const (c := 49) rfl (.inr rfl) ht fun b hb => (ht.2 b hb).resolve_left (has_no (by simpa using h2) b hb)
  · rename_i h1
    rw [if_neg h1]
    exact verd_const (c := 48) rfl (.inl rfl) ht fun b hb => (ht.2 b hb).resolve_right (has_no (by simpa using h1) b hb)
theorem known_one {o : ByteArray} (h : tabN 0 o) : 0 ≤ knownB o := by
  have hl : o.data.toList.length = 1 := by rw [← size_list]; exact h.1
  obtain ⟨x, hx⟩ := List.length_eq_one_iff.1 hl
  unfold knownB hasB
  rw [hx]
  have := h.2 x (by rw [hx]; simp)
  rcases this with e | e <;> subst e <;> decide
/-! ### A machine's steps -/
def findM (l : List Sn) (k : ByteArray) : Int := match l.find? fun s => decide (s.key = k) with
  | some s => s.ret
  | none => -1
def leftM (m : Mc) : ByteArray := leftB m.ones m.vals
def keyM (m : Mc) : ByteArray := keyB (m.n - m.vals.length) (leftM m)
def downM (m : Mc) : Mc := if 0 ≤ knownB (leftM m) then { m with ret := knownB (leftM m), looks := m.looks + 1 } else if 0 ≤ findM m.memo (keyM m) then { m with ret := findM m.memo (keyM m), hits := m.hits + 1 } else { m with vals := m.vals ++ [0] }
def pushM (m : Mc) : List Sn := if m.room < ((m.memo.length + 1 : Nat) : Int) then (m.memo ++ [(⟨keyM m, m.ret⟩ : Sn)]).drop 1 else m.memo ++ [(⟨keyM m, m.ret⟩ : Sn)]
def storeM (m : Mc) : Mc := if 0 < m.room ∧ findM m.memo (keyM m) < 0 then { m with memo := pushM m } else m
def upM (m : Mc) : Mc := if m.vals.length = 0 then { m with over := true } else
  if (m.row.getD (m.vals.length - 1) false ≠ decide (m.ret = 0)) ∧ m.vals.getD (m.vals.length - 1) 0 = 0 then { m with vals := m.vals.take (m.vals.length - 1) ++ [1], ret := -1 }
  else storeM { m with vals := m.vals.take (m.vals.length - 1) }
def stuckM (m : Mc) : Bool := m.over || (decide (m.steps = 1000000000) || (decide (m.looks = 1000000000) || decide (m.hits = 1000000000)))
def tickM (m : Mc) : Mc := { m with steps := m.steps + 1 }
def stepM (m : Mc) : Mc := if stuckM m = true then m else if m.ret < 0 then downM (tickM m) else upM (tickM m)
def runM : Nat → Mc → Mc
  | 0, m => m
  | n + 1, m => runM n (stepM m)
theorem runM_add : ∀ (a b : Nat) (m : Mc), runM (a + b) m = runM b (runM a m)
  | 0, b, m => by rw [Nat.zero_add]; rfl
  | a + 1, b, m => by rw [Nat.succ_add]; exact runM_add a b (stepM m)
theorem runM_stuck {m : Mc} (h : stuckM m = true) : ∀ n, runM n m = m
  | 0 => rfl
  | n + 1 => by
    have : stepM m = m := if_pos h
    rw [runM, this, runM_stuck h n]
theorem runM_last (n : Nat) (m : Mc) : runM (n + 1) m = stepM (runM n m) := by rw [runM_add n 1]; rfl
structure RightM (m : Mc) : Prop where
  n : 0 ≤ m.n ∧ m.n ≤ 12
  tab : tabN m.n.toNat m.ones
  row : (m.row.length : Int) = m.n
  room : 0 ≤ m.room ∧ m.room ≤ 40
  memo : (m.memo.length : Int) ≤ m.room
  vals : (m.vals.length : Int) ≤ m.n
  va : m.vals.all bitI = true
  ret : -1 ≤ m.ret ∧ m.ret ≤ 1
  over : m.over = true → 0 ≤ m.ret ∧ m.vals.length = 0
  mem : memN m.memo m.memo.length = true
  steps : 0 ≤ m.steps ∧ m.steps ≤ 1000000000
  looks : 0 ≤ m.looks ∧ m.looks ≤ 1000000000
  hits : 0 ≤ m.hits ∧ m.hits ≤ 1000000000
theorem mOk_iff {m : Mc} : mOk m = true ↔ RightM m := by
  unfold mOk mA mB' mC' mD' rowedB cntB inI
  simp only [Bool.and_eq_true, decide_eq_true_eq, Bool.not_eq_true', tab_iff]
  constructor
  · rintro ⟨⟨⟨⟨⟨⟨⟨⟨a0, a1⟩, a2⟩, a3, a4⟩, a5⟩, a6⟩, ⟨a7, a8, a9⟩, a10⟩, a11⟩, ⟨⟨a12, a13⟩, a14, a15⟩, a16, a17⟩
    refine RightM.mk a0 a1 a2 ⟨a3, a4⟩ a5 a6 a7 ⟨a8, a9⟩ (fun h => ?_) a11 ⟨a12, a13⟩ ⟨a14, a15⟩ ⟨a16, a17⟩
    rw [h, Bool.true_and, Bool.or_eq_false_iff, decide_eq_false_iff_not, decide_eq_false_iff_not] at a10
    omega
  · rintro ⟨a0, a1, a2, ⟨a3, a4⟩, a5, a6, a7, ⟨a8, a9⟩, h, a11, ⟨a12, a13⟩, ⟨a14, a15⟩, ⟨a16, a17⟩⟩
    refine ⟨⟨⟨⟨⟨⟨⟨⟨a0, a1⟩, a2⟩, a3, a4⟩, a5⟩, a6⟩, ⟨a7, a8, a9⟩, ?_⟩, a11⟩, ⟨⟨a12, a13⟩, a14, a15⟩, a16, a17⟩
    cases hb : m.over with
    | false => rfl
    | true =>
      have := h hb
      rw [decide_eq_false (by omega), decide_eq_false (by omega)]; rfl
theorem right_left {m : Mc} (h : RightM m) : tabN (m.n.toNat - m.vals.length) (leftM m) := left_tab h.tab h.va (by have := h.vals; omega)
/-- The memo: right verdicts, each key once. -/
theorem memN_iff : ∀ {l : List Sn} {n : Nat}, n ≤ l.length → (memN l n = true ↔ (∀ s ∈ l.take n, bitI s.ret = true) ∧ (l.take n).Pairwise fun a b => a.key ≠ b.key)
  | l, 0, _ => by simp [memN]
  | l, n + 1, h => by
    rw [memN, Bool.and_eq_true, Bool.and_eq_true, memN_iff (show n ≤ l.length by omega), take_push default (show n < l.length by omega), List.pairwise_append]
    have e : (!seenB (l.take n) (l.getD n default).key) = true ↔ ∀ a ∈ l.take n, ∀ b ∈ [l.getD n default], a.key ≠ b.key := by
      unfold seenB
      simp
    rw [e]
    constructor
    · rintro ⟨⟨h1, h2⟩, h3, h4⟩
      refine ⟨fun s hs => ?_, h2, by simp, h4⟩
      rcases List.mem_append.1 hs with hs | hs
      · exact h1 s hs
      · rw [List.mem_singleton.1 hs]; exact h3
    · rintro ⟨h1, h2, _, h4⟩
      exact ⟨⟨fun s hs => h1 s (List.mem_append_left _ hs), h2⟩, h1 _ (List.mem_append_right _ (by simp)), h4⟩
theorem mem_iff {l : List Sn} : memN l l.length = true ↔ (∀ s ∈ l, bitI s.ret = true) ∧ l.Pairwise fun a b => a.key ≠ b.key := by
  rw [memN_iff (Nat.le_refl _), List.take_length]
theorem find_none {l : List Sn} {k : ByteArray} (hr : ∀ s ∈ l, bitI s.ret = true) (h : findM l k < 0) : ∀ s ∈ l, s.key ≠ k := by
  unfold findM at h
  split at h
  · rename_i s hs
    have := bitI_le (hr s (List.mem_of_find?_eq_some hs))
    omega
  · rename_i hs
    intro s h1 h2
    have := List.find?_eq_none.1 hs s h1
    simp [h2] at this
theorem find_some {l : List Sn} {k : ByteArray} (h : 0 ≤ findM l k) : ∃ s ∈ l, s.key = k ∧ s.ret = findM l k := by
  unfold findM at h ⊢
  split at h
  · rename_i s hs
    have e := List.find?_some hs
    exact ⟨s, List.mem_of_find?_eq_some hs, by simpa using e, rfl⟩
  · omega
theorem push_mem {l : List Sn} {k : ByteArray} {r : Int} (h : memN l l.length = true) (hf : findM l k < 0) (hr : bitI r = true) : memN (l ++ [(⟨k, r⟩ : Sn)]) (l ++ [(⟨k, r⟩ : Sn)]).length = true ∧ memN ((l ++ [(⟨k, r⟩ : Sn)]).drop 1) ((l ++ [(⟨k, r⟩ : Sn)]).drop 1).length = true := by
  rw [mem_iff] at h
  have h2 : (∀ s ∈ l ++ [(⟨k, r⟩ : Sn)], bitI s.ret = true) ∧ (l ++ [(⟨k, r⟩ : Sn)]).Pairwise fun a b => a.key ≠ b.key := by
    refine ⟨fun s hs => ?_, ?_⟩
    · rcases List.mem_append.1 hs with hs | hs
      · exact h.1 s hs
      · rw [List.mem_singleton.1 hs]; exact hr
    · rw [List.pairwise_append]
      refine ⟨h.2, by simp, fun a ha b hb => ?_⟩
      rw [List.mem_singleton.1 hb]
      exact find_none h.1 hf a ha
  rw [mem_iff, mem_iff]
  exact ⟨h2, fun s hs => h2.1 s (List.mem_of_mem_drop hs), h2.2.sublist (List.drop_sublist _ _)⟩
theorem all_take {l : List Int} {k : Nat} (h : l.all bitI = true) : (l.take k).all bitI = true := List.all_eq_true.2 fun x hx => List.all_eq_true.1 h x (List.mem_of_mem_take hx)
theorem all_app1 {l : List Int} {v : Int} (h : l.all bitI = true) (hv : bitI v = true) : (l ++ [v]).all bitI = true := by rw [List.all_append, h]; simp [hv]
theorem store_right {m : Mc} (h : RightM m) (hr : 0 ≤ m.ret) : RightM (storeM m) := by
  unfold storeM
  split
  · rename_i hc
    have hp := push_mem h.mem hc.2 (r := m.ret) (by unfold bitI; have := h.ret; exact decide_eq_true (by omega))
    have hm := h.memo
    refine { h with memo := ?_, mem := ?_ }
    · show ((pushM m).length : Int) ≤ m.room
      unfold pushM
      split <;> simp <;> omega
    · show memN (pushM m) (pushM m).length = true
      unfold pushM
      split
      · exact hp.2
      · exact hp.1
  · exact h
theorem stuck_no {m : Mc} (h : ¬ stuckM m = true) : m.over = false ∧ m.steps ≠ 1000000000 ∧ m.looks ≠ 1000000000 ∧ m.hits ≠ 1000000000 := by
  unfold stuckM at h
  simp only [Bool.or_eq_true, decide_eq_true_eq, not_or, Bool.not_eq_true] at h
  exact h
theorem step_right {m : Mc} (h : RightM m) : RightM (stepM m) := by
  unfold stepM
  split
  · exact h
  rename_i hs
  obtain ⟨h1, h2, h3, h4⟩ := stuck_no hs
  have b1 := h.steps
  have b2 := h.looks
  have b3 := h.hits
  have ht : RightM (tickM m) := { h with steps := ⟨by show 0 ≤ m.steps + 1; omega, by show m.steps + 1 ≤ _; omega⟩ }
  split
  · rename_i hr
    unfold downM
    split
    · rename_i hk
      have := known_ge (leftM (tickM m))
      exact { ht with ret := ⟨by show -1 ≤ knownB _; omega, this.2⟩, looks := ⟨by show 0 ≤ m.looks + 1; omega, by show m.looks + 1 ≤ _; omega⟩, over := fun h => absurd (show m.over = true from h) (by rw [h1]; simp) }
    · rename_i hk
      split
      · rename_i hf
        obtain ⟨s, h5, h6, h7⟩ := find_some hf
        have := bitI_le ((mem_iff.1 h.mem).1 s h5)
        exact { ht with ret := ⟨by show -1 ≤ findM _ _; omega, by show findM _ _ ≤ 1; omega⟩, hits := ⟨by show 0 ≤ m.hits + 1; omega, by show m.hits + 1 ≤ _; omega⟩, over := fun h => absurd (show m.over = true from h) (by rw [h1]; simp) }
      · have hv := h.vals
        refine { ht with vals := ?_, va := all_app1 h.va rfl, over := fun h => absurd (show m.over = true from h) (by rw [h1]; simp) }
        show ((m.vals ++ [0]).length : Int) ≤ m.n
        rw [List.length_append, List.length_cons, List.length_nil]
        rcases Nat.lt_or_ge m.vals.length m.n.toNat with hl | hl
        · omega
        · exfalso
          have := right_left h
          rw [show m.n.toNat - m.vals.length = 0 by omega] at this
          exact hk (known_one this)
  · rename_i hr
    unfold upM
    split
    · rename_i hl
      exact { ht with over := fun _ => ⟨by show 0 ≤ m.ret; have : ¬ m.ret < 0 := hr; omega, hl⟩ }
    · rename_i hl
      have hv : ((tickM m).vals.length : Int) ≤ m.n := h.vals
      have hl' : ¬ m.vals.length = 0 := hl
      have hv' : (m.vals.length : Int) ≤ m.n := hv
      split
      · refine { ht with vals := ?_, va := all_app1 (all_take h.va) rfl, ret := ⟨by show -1 ≤ (-1 : Int); decide, by show (-1 : Int) ≤ 1; decide⟩, over := fun h => absurd (show m.over = true from h) (by rw [h1]; simp) }
        show ((m.vals.take (m.vals.length - 1) ++ [1]).length : Int) ≤ m.n
        rw [List.length_append, List.length_take, List.length_cons, List.length_nil]
        omega
      · refine store_right { ht with vals := ?_, va := all_take h.va, over := fun h => absurd (show m.over = true from h) (by rw [h1]; simp) } (by show 0 ≤ m.ret; have : ¬ m.ret < 0 := hr; omega)
        show ((m.vals.take (m.vals.length - 1)).length : Int) ≤ m.n
        rw [List.length_take]
        omega
theorem run_right : ∀ (n : Nat) {m : Mc}, RightM m → RightM (runM n m)
  | 0, _, h => h
  | n + 1, _, h => run_right n (step_right h)
/-! ### What is remembered is true -/
theorem app_inj58 : ∀ {a b x y : List UInt8}, (∀ c ∈ a, c ≠ 58) → (∀ c ∈ b, c ≠ 58) → a ++ 58 :: x = b ++ 58 :: y → a = b ∧ x = y
  | [], [], x, y, _, _, h => ⟨rfl, by simpa using h⟩
  | [], c :: b, x, y, _, hb, h => by
    have : 58 = c := (List.cons.inj h).1
    exact absurd this.symm (hb c List.mem_cons_self)
  | c :: a, [], x, y, ha, _, h => by
    have : c = 58 := (List.cons.inj h).1
    exact absurd this (ha c List.mem_cons_self)
  | c :: a, d :: b, x, y, ha, hb, h => by
    have h1 := List.cons.inj h
    have := app_inj58 (fun z hz => ha z (List.mem_cons_of_mem _ hz)) (fun z hz => hb z (List.mem_cons_of_mem _ hz)) h1.2
    rw [h1.1, this.1]
    exact ⟨rfl, this.2⟩
theorem dig58 {n : Nat} : ∀ c ∈ decL n, c ≠ 58 := fun c hc e => by
  have := List.all_eq_true.1 (decL_dig n) c hc
  rw [e] at this
  revert this; decide
theorem keyB_inj {n m : Int} {o p : ByteArray} (hn : 0 ≤ n) (hm : 0 ≤ m) (h : keyB n o = keyB m p) : n = m ∧ o = p := by
  have := congrArg (fun b : ByteArray => b.data.toList) h
  simp only [keyB_list] at this
  have h2 := app_inj58 dig58 dig58 this
  have h3 := congrArg numV h2.1
  rw [decL_num, decL_num] at h3
  exact ⟨by omega, ba_ext h2.2⟩
/-- A verdict that is remembered. -/
def trueS (row : List Bool) (s : Sn) : Prop := ∃ (k : Nat) (o : ByteArray), s.key = keyB k o ∧ k ≤ row.length ∧ tabN k o ∧ verd (row.drop (row.length - k)) o = s.ret
structure GoodM (m : Mc) : Prop where
  right : RightM m
  six : m.n ≤ 6
  memo : ∀ s ∈ m.memo, trueS m.row s
  ended : 0 ≤ m.ret → verd (m.row.drop m.vals.length) (leftM m) = m.ret
  first : ∀ d, d < m.vals.length → m.vals.getD d 0 = 1 → m.row.getD d false ≠ decide (verd (m.row.drop (d + 1)) (leftB m.ones (m.vals.take d ++ [0])) = 0)
theorem key_true {m : Mc} (h : RightM m) {r : Int} (hv : verd (m.row.drop m.vals.length) (leftM m) = r) : trueS m.row ⟨keyM m, r⟩ := by
  have hn := h.n
  have hw := h.row
  have hl := h.vals
  refine ⟨m.n.toNat - m.vals.length, leftM m, ?_, by omega, right_left h, ?_⟩
  · show keyB (m.n - m.vals.length) _ = _
    congr 1
    omega
  · rw [show m.row.length - (m.n.toNat - m.vals.length) = m.vals.length by omega]
    exact hv
theorem drop_getD {l : List Bool} {k : Nat} (h : k < l.length) : l.drop k = l.getD k false :: l.drop (k + 1) := by
  rw [List.drop_eq_getElem_cons h, getD_at (d := false) h]
theorem find_true {m : Mc} (h : RightM m) (ht : ∀ s ∈ m.memo, trueS m.row s) (hf : 0 ≤ findM m.memo (keyM m)) : verd (m.row.drop m.vals.length) (leftM m) = findM m.memo (keyM m) := by
  obtain ⟨s, h1, h2, h3⟩ := find_some hf
  obtain ⟨k, o, h4, h5, h6, h7⟩ := ht s h1
  have hn := h.n
  have hw := h.row
  have hl := h.vals
  have := keyB_inj (by omega) (by omega) (h4.symm.trans h2)
  rw [← h3, ← h7, this.2, show m.row.length - k = m.vals.length by omega]
theorem store_good {m : Mc} (h : GoodM m) (hr : 0 ≤ m.ret) : GoodM (storeM m) := by
  have h0 := store_right h.right hr
  unfold storeM at h0 ⊢
  split at h0
  · rename_i hc
    rw [if_pos hc]
    refine { right := h0, six := h.six, memo := ?_, ended := h.ended, first := h.first }
    have hp : ∀ s ∈ m.memo ++ [(⟨keyM m, m.ret⟩ : Sn)], trueS m.row s := fun s hs => by
      rcases List.mem_append.1 hs with hs | hs
      · exact h.memo s hs
      · rw [List.mem_singleton.1 hs]
        exact key_true h.right (h.ended hr)
    show ∀ s ∈ pushM m, trueS m.row s
    unfold pushM
    split
    · exact fun s hs => hp s (List.mem_of_mem_drop hs)
    · exact hp
  · rename_i hc
    rw [if_neg hc]
    exact h
theorem take_app {l : List Int} {k : Nat} (h : k = l.length) (x : List Int) : (l ++ x).take k = l := by subst h; simp
theorem first_take {l : List Int} {d k : Nat} (h : d < k) (hk : k ≤ l.length) : (l.take k).getD d 0 = l.getD d 0 ∧ (l.take k).take d = l.take d := by
  refine ⟨?_, by rw [List.take_take]; congr 1; omega⟩
  rw [List.getD_eq_getElem?_getD, List.getD_eq_getElem?_getD, List.getElem?_take_of_lt h]
theorem step_good {m : Mc} (h : GoodM m) : GoodM (stepM m) := by
  have hR := step_right h.right
  unfold stepM at hR ⊢
  split
  · exact h
  rename_i hs
  rw [if_neg hs] at hR
  split at hR
  · rename_i hr
    rw [if_pos hr]
    have hl : leftM (tickM m) = leftM m := rfl
    have ht := right_left h.right
    have hn := h.right.n
    have hw := h.right.row
    have hv := h.right.vals
    unfold downM at hR ⊢
    split at hR
    · rename_i hk
      rw [if_pos hk]
      refine { right := hR, six := h.six, memo := h.memo, ended := fun _ => ?_, first := h.first }
      refine verd_known (r := m.row.drop m.vals.length) (o := leftM m) ?_ hk
      rw [List.length_drop, show m.row.length - m.vals.length = m.n.toNat - m.vals.length by omega]; exact ht
    · rename_i hk
      rw [if_neg hk]
      split at hR
      · rename_i hf
        rw [if_pos hf]
        exact { right := hR, six := h.six, memo := h.memo, ended := fun _ => find_true (m := m) h.right h.memo hf, first := h.first }
      · rename_i hf
        rw [if_neg hf]
        refine { right := hR, six := h.six, memo := h.memo, ended := fun h0 => absurd (show 0 ≤ m.ret from h0) (by omega), first := ?_ }
        intro d hd h1
        have hd' : d < (m.vals ++ [0]).length := hd
        have h1' : (m.vals ++ [0]).getD d 0 = 1 := h1
        rw [List.length_append, List.length_cons, List.length_nil] at hd'
        rcases Nat.lt_or_ge d m.vals.length with hlt | hge
        · have e : (m.vals ++ [0]).getD d 0 = m.vals.getD d 0 := by rw [List.getD_eq_getElem?_getD, List.getElem?_append_left hlt, ← List.getD_eq_getElem?_getD]
          have := h.first d hlt (by rw [← e]; exact h1')
          show m.row.getD d false ≠ decide (verd (m.row.drop (d + 1)) (leftB m.ones ((m.vals ++ [0]).take d ++ [0])) = 0)
          rw [List.take_append_of_le_length (by omega)]
          exact this
        · have e : d = m.vals.length := by omega
          subst e
          rw [List.getD_eq_getElem?_getD, List.getElem?_append_right (Nat.le_refl _), Nat.sub_self] at h1'
          simp at h1'
  · rename_i hr
    rw [if_neg hr]
    have hn := h.right.n
    have hw := h.right.row
    have hv := h.right.vals
    have hr0 : 0 ≤ m.ret := by omega
    unfold upM at hR ⊢
    split at hR
    · rename_i hl
      rw [if_pos hl]
      exact { right := hR, six := h.six, memo := h.memo, ended := h.ended, first := h.first }
    · rename_i hl
      rw [if_neg hl]
      have hl' : ¬ m.vals.length = 0 := hl
      have ev : m.vals = m.vals.take (m.vals.length - 1) ++ [m.vals.getD (m.vals.length - 1) 0] := by
        rw [← take_push 0 (show m.vals.length - 1 < m.vals.length by omega), show m.vals.length - 1 + 1 = m.vals.length by omega, List.take_length]
      have hlt : (m.vals.take (m.vals.length - 1)).length = m.vals.length - 1 := by rw [List.length_take]; omega
      have hend := h.ended hr0
      split at hR
      · rename_i hc
        rw [if_pos hc]
        obtain ⟨hc1, hc2⟩ : (m.row.getD (m.vals.length - 1) false ≠ decide (m.ret = 0)) ∧ m.vals.getD (m.vals.length - 1) 0 = 0 := hc
        refine { right := hR, six := h.six, memo := h.memo, ended := fun h0 => absurd (show (0 : Int) ≤ -1 from h0) (by decide), first := ?_ }
        intro d hd h1
        have hd' : d < (m.vals.take (m.vals.length - 1) ++ [1]).length := hd
        have h1' : (m.vals.take (m.vals.length - 1) ++ [1]).getD d 0 = 1 := h1
        rw [List.length_append, hlt, List.length_cons, List.length_nil] at hd'
        show m.row.getD d false ≠ decide (verd (m.row.drop (d + 1)) (leftB m.ones ((m.vals.take (m.vals.length - 1) ++ [1]).take d ++ [0])) = 0)
        rcases Nat.lt_or_ge d (m.vals.length - 1) with hlt2 | hge
        · have e : (m.vals.take (m.vals.length - 1) ++ [1]).getD d 0 = m.vals.getD d 0 := by
            rw [List.getD_eq_getElem?_getD, List.getElem?_append_left (by omega), ← List.getD_eq_getElem?_getD, (first_take hlt2 (by omega)).1]
          have := h.first d (by omega) (by rw [← e]; exact h1')
          rw [List.take_append_of_le_length (by omega), (first_take hlt2 (by omega)).2]
          exact this
        · have e : d = m.vals.length - 1 := by omega
          subst e
          rw [take_app hlt.symm]
          rw [hc2] at ev
          rw [← ev]
          have : m.vals.length - 1 + 1 = m.vals.length := by omega
          rw [this]
          have h2 : verd (m.row.drop m.vals.length) (leftB m.ones m.vals) = m.ret := hend
          rw [h2]
          exact hc1
      · rename_i hc
        rw [if_neg hc]
        have hc' : ¬ ((m.row.getD (m.vals.length - 1) false ≠ decide (m.ret = 0)) ∧ m.vals.getD (m.vals.length - 1) 0 = 0) := hc
        have hr1 := h.right.ret
        -- the machine with the last value taken off
        have hR2 : RightM { tickM m with vals := m.vals.take (m.vals.length - 1) } := by
          obtain ⟨s1, s2, s3, s4⟩ := stuck_no hs
          have b1 := h.right.steps
          exact { h.right with steps := ⟨by show 0 ≤ m.steps + 1; omega, by show m.steps + 1 ≤ _; omega⟩, vals := (by show ((m.vals.take (m.vals.length - 1)).length : Int) ≤ m.n; omega), va := all_take h.right.va, over := fun h => absurd (show m.over = true from h) (by rw [s1]; simp) }
        refine store_good (m := { tickM m with vals := m.vals.take (m.vals.length - 1) }) { right := hR2, six := h.six, memo := h.memo, ended := fun _ => ?_, first := ?_ } hr0
        · show verd (m.row.drop (m.vals.take (m.vals.length - 1)).length) (leftB m.ones (m.vals.take (m.vals.length - 1))) = m.ret
          rw [hlt, drop_getD (show m.vals.length - 1 < m.row.length by omega), show m.vals.length - 1 + 1 = m.vals.length by omega]
          have hend2 : verd (m.row.drop m.vals.length) (halfB (m.vals.getD (m.vals.length - 1) 0) (leftB m.ones (m.vals.take (m.vals.length - 1)))) = m.ret := by
            rw [← leftB_push, ← ev]; exact hend
          have hbit : m.vals.getD (m.vals.length - 1) 0 = 0 ∨ m.vals.getD (m.vals.length - 1) 0 = 1 := by
            have := bitI_le (List.all_eq_true.1 h.right.va _ (mem_getD (d := 0) (show m.vals.length - 1 < m.vals.length by omega)))
            omega
          have hfst := h.first (m.vals.length - 1) (by omega)
          rw [leftB_push, show m.vals.length - 1 + 1 = m.vals.length by omega] at hfst
          have hb0 : verd (m.row.drop m.vals.length) (halfB 0 (leftB m.ones (m.vals.take (m.vals.length - 1)))) = 0 ∨ verd (m.row.drop m.vals.length) (halfB 0 (leftB m.ones (m.vals.take (m.vals.length - 1)))) = 1 := by
            refine verd_bit ?_
            rw [List.length_drop]
            have := left_tab h.right.tab (all_take (k := m.vals.length - 1) h.right.va) (by omega)
            rw [hlt, show m.n.toNat - (m.vals.length - 1) = (m.n.toNat - m.vals.length) + 1 by omega] at this
            have h3 := half_tab (v := 0) this rfl
            rwa [show m.row.length - m.vals.length = m.n.toNat - m.vals.length by omega]
          generalize leftB m.ones (m.vals.take (m.vals.length - 1)) = X at hend2 hfst hb0 ⊢
          generalize m.vals.getD (m.vals.length - 1) 0 = v at hend2 hfst hbit hc' ⊢
          generalize m.row.getD (m.vals.length - 1) false = b at hfst hc' ⊢
          generalize m.row.drop m.vals.length = R at hend2 hfst hb0 ⊢
          have hret : m.ret = 0 ∨ m.ret = 1 := by omega
          generalize m.ret = x at hret hend2 hc' ⊢
          rcases hbit with hv0 | hv0
          · subst hv0
            have hd0 : b = decide (x = 0) := Decidable.byContradiction fun e => hc' ⟨e, rfl⟩
            rcases hret with e | e <;> subst e
            · have : b = true := hd0
              subst this
              show (if verd R (halfB 0 X) = 1 ∧ verd R (halfB 1 X) = 1 then (1 : Int) else 0) = 0
              rw [if_neg (by rw [hend2]; simp)]
            · have : b = false := hd0
              subst this
              show (if verd R (halfB 0 X) = 1 ∨ verd R (halfB 1 X) = 1 then (1 : Int) else 0) = 1
              rw [if_pos (.inl hend2)]
          · subst hv0
            have h4 := hfst rfl
            cases b with
            | true =>
              have h5 : verd R (halfB 0 X) = 1 := hb0.resolve_left fun e => h4 (by rw [e]; rfl)
              show (if verd R (halfB 0 X) = 1 ∧ verd R (halfB 1 X) = 1 then (1 : Int) else 0) = x
              rw [hend2, h5]
              rcases hret with e | e <;> subst e <;> simp
            | false =>
              have h5 : verd R (halfB 0 X) = 0 := hb0.resolve_right fun e => h4 (by rw [e]; rfl)
              show (if verd R (halfB 0 X) = 1 ∨ verd R (halfB 1 X) = 1 then (1 : Int) else 0) = x
              rw [hend2, h5]
              rcases hret with e | e <;> subst e <;> simp
        · intro d hd h1
          have hd' : d < (m.vals.take (m.vals.length - 1)).length := hd
          have h1' : (m.vals.take (m.vals.length - 1)).getD d 0 = 1 := h1
          rw [hlt] at hd'
          have e := first_take (l := m.vals) hd' (by omega)
          rw [e.1] at h1'
          show m.row.getD d false ≠ decide (verd (m.row.drop (d + 1)) (leftB m.ones ((m.vals.take (m.vals.length - 1)).take d ++ [0])) = 0)
          rw [e.2]
          exact h.first d (by omega) h1'
theorem run_good : ∀ (n : Nat) {m : Mc}, GoodM m → GoodM (runM n m)
  | 0, _, h => h
  | n + 1, _, h => run_good n (step_good h)

/-! ### It ends -/
def costN : Nat → Nat
  | 0 => 1
  | n + 1 => 2 * costN n + 3
def pendN : Nat → List Int → Nat
  | _, [] => 0
  | n, v :: r => (if v = 0 then costN (n - 1) + 2 else 1) + pendN (n - 1) r
theorem pend_app : ∀ (l : List Int) (n : Nat) (v : Int), pendN n (l ++ [v]) = pendN n l + (if v = 0 then costN (n - l.length - 1) + 2 else 1)
  | [], n, v => by simp [pendN]
  | w :: l, n, v => by
    simp only [List.cons_append, pendN, pend_app l (n - 1) v, List.length_cons]
    rw [show n - 1 - l.length - 1 = n - (l.length + 1) - 1 by omega]
    omega
theorem pend_le : ∀ (l : List Int) (n : Nat), l.length ≤ n → costN (n - l.length) + pendN n l ≤ costN n
  | [], n, _ => by simp [pendN]
  | v :: l, n, h => by
    have h1 : l.length ≤ n - 1 := by simp at h; omega
    have ih := pend_le l (n - 1) h1
    have e : n = (n - 1) + 1 := by simp at h; omega
    have h2 : costN n = 2 * costN (n - 1) + 3 := by rw [e]; rfl
    rw [List.length_cons, show n - (l.length + 1) = n - 1 - l.length by omega, pendN, h2]
    split <;> omega
theorem costN_pos (n : Nat) : 1 ≤ costN n := by cases n <;> simp [costN]
def muM (m : Mc) : Nat := if m.over = true then 0 else (if m.ret < 0 then costN (m.n.toNat - m.vals.length) else 0) + pendN m.n.toNat m.vals + 1
theorem mu_le {m : Mc} (h : RightM m) : muM m ≤ costN m.n.toNat + 1 := by
  have := pend_le m.vals m.n.toNat (by have := h.vals; omega)
  unfold muM
  split
  · omega
  · split <;> omega
theorem mu_six {m : Mc} (h : RightM m) (h6 : m.n ≤ 6) : muM m ≤ 254 := by
  have h1 := mu_le h
  have h2 := h.n
  have : m.n.toNat = 0 ∨ m.n.toNat = 1 ∨ m.n.toNat = 2 ∨ m.n.toNat = 3 ∨ m.n.toNat = 4 ∨ m.n.toNat = 5 ∨ m.n.toNat = 6 := by omega
  rcases this with e | e | e | e | e | e | e <;> rw [e] at h1 <;> simp [costN] at h1 <;> omega
theorem store_mu (m : Mc) : muM (storeM m) = muM m := by
  unfold storeM
  split <;> rfl
theorem step_mu {m : Mc} (h : RightM m) (hs : ¬ stuckM m = true) : muM (stepM m) < muM m := by
  obtain ⟨h1, h2, h3, h4⟩ := stuck_no hs
  have hv := h.vals
  have e0 : muM m = (if m.ret < 0 then costN (m.n.toNat - m.vals.length) else 0) + pendN m.n.toNat m.vals + 1 := by
    unfold muM
    rw [if_neg (by rw [h1]; simp)]
  have hover : ∀ x : Mc, x.over = m.over → muM x = (if x.ret < 0 then costN (x.n.toNat - x.vals.length) else 0) + pendN x.n.toNat x.vals + 1 := fun x hx => by
    unfold muM
    rw [if_neg (by rw [hx, h1]; simp)]
  have key : ∀ x : Mc, x.over = m.over → (if x.ret < 0 then costN (x.n.toNat - x.vals.length) else 0) + pendN x.n.toNat x.vals + 1 < muM m → muM x < muM m := fun x hx h => by rw [hover x hx]; exact h
  unfold stepM
  rw [if_neg hs]
  by_cases hr : m.ret < 0
  · rw [if_pos hr] at e0 ⊢
    have hc := costN_pos (m.n.toNat - m.vals.length)
    unfold downM
    split
    · rename_i hk
      refine key _ rfl ?_
      show (if knownB (leftM (tickM m)) < 0 then _ else 0) + pendN m.n.toNat m.vals + 1 < _
      rw [if_neg (by omega)]
      omega
    · rename_i hk
      split
      · rename_i hf
        refine key _ rfl ?_
        show (if findM (tickM m).memo (keyM (tickM m)) < 0 then _ else 0) + pendN m.n.toNat m.vals + 1 < _
        rw [if_neg (by omega)]
        omega
      · have hl : m.vals.length < m.n.toNat := by
          rcases Nat.lt_or_ge m.vals.length m.n.toNat with hl | hl
          · exact hl
          · exfalso
            have := right_left h
            rw [show m.n.toNat - m.vals.length = 0 by omega] at this
            exact hk (known_one this)
        refine key _ rfl ?_
        show (if m.ret < 0 then costN (m.n.toNat - (m.vals ++ [0]).length) else 0) + pendN m.n.toNat (m.vals ++ [0]) + 1 < _
        rw [if_pos hr, pend_app, if_pos rfl, List.length_append, List.length_cons, List.length_nil, e0]
        have e1 : costN (m.n.toNat - m.vals.length) = 2 * costN (m.n.toNat - m.vals.length - 1) + 3 := by
          rw [show m.n.toNat - m.vals.length = (m.n.toNat - m.vals.length - 1) + 1 by omega]; rfl
        rw [show m.n.toNat - (m.vals.length + (0 + 1)) = m.n.toNat - m.vals.length - 1 by omega]
        omega
  · rw [if_neg hr] at e0 ⊢
    unfold upM
    split
    · show (if true = true then 0 else _) < _
      rw [if_pos rfl]
      omega
    · rename_i hl
      have hl' : ¬ m.vals.length = 0 := hl
      have ev : m.vals = m.vals.take (m.vals.length - 1) ++ [m.vals.getD (m.vals.length - 1) 0] := by
        rw [← take_push 0 (show m.vals.length - 1 < m.vals.length by omega), show m.vals.length - 1 + 1 = m.vals.length by omega, List.take_length]
      have hlt : (m.vals.take (m.vals.length - 1)).length = m.vals.length - 1 := by rw [List.length_take]; omega
      have e1 := pend_app (m.vals.take (m.vals.length - 1)) m.n.toNat (m.vals.getD (m.vals.length - 1) 0)
      rw [← ev] at e1
      split
      · rename_i hc
        have hc2 : m.vals.getD (m.vals.length - 1) 0 = 0 := hc.2
        rw [hc2, if_pos rfl] at e1
        refine key _ rfl ?_
        show (if (-1 : Int) < 0 then costN (m.n.toNat - (m.vals.take (m.vals.length - 1) ++ [1]).length) else 0) + pendN m.n.toNat (m.vals.take (m.vals.length - 1) ++ [1]) + 1 < _
        rw [if_pos (by decide), pend_app, if_neg (by decide), List.length_append, hlt, List.length_cons, List.length_nil, e0, e1, hlt]
        rw [show m.n.toNat - (m.vals.length - 1 + (0 + 1)) = m.n.toNat - (m.vals.length - 1) - 1 by omega]
        omega
      · rw [store_mu]
        refine key _ rfl ?_
        show (if m.ret < 0 then _ else 0) + pendN m.n.toNat (m.vals.take (m.vals.length - 1)) + 1 < _
        rw [if_neg hr, e0, e1]
        split <;> omega
/-- What is counted. -/
structure CntM (m : Mc) (k : Int) : Prop where
  steps : m.steps ≤ k
  looks : m.looks ≤ k
  hits : m.hits ≤ k
theorem step_cnt {m : Mc} {k : Int} (h : CntM m k) : CntM (stepM m) (k + 1) := by
  have h1 := h.steps
  have h2 := h.looks
  have h3 := h.hits
  unfold stepM
  split
  · exact ⟨by omega, by omega, by omega⟩
  split
  · unfold downM
    split
    · exact ⟨by show m.steps + 1 ≤ _; omega, by show m.looks + 1 ≤ _; omega, by show m.hits ≤ _; omega⟩
    · split
      · exact ⟨by show m.steps + 1 ≤ _; omega, by show m.looks ≤ _; omega, by show m.hits + 1 ≤ _; omega⟩
      · exact ⟨by show m.steps + 1 ≤ _; omega, by show m.looks ≤ _; omega, by show m.hits ≤ _; omega⟩
  · unfold upM
    split
    · exact ⟨by show m.steps + 1 ≤ _; omega, by show m.looks ≤ _; omega, by show m.hits ≤ _; omega⟩
    · split
      · exact ⟨by show m.steps + 1 ≤ _; omega, by show m.looks ≤ _; omega, by show m.hits ≤ _; omega⟩
      · unfold storeM
        split <;> exact ⟨by show m.steps + 1 ≤ _; omega, by show m.looks ≤ _; omega, by show m.hits ≤ _; omega⟩
theorem run_cnt : ∀ (n : Nat) {m : Mc} {k : Int}, CntM m k → CntM (runM n m) (k + n)
  | 0, _, _, h => by
    have h1 := h.steps
    have h2 := h.looks
    have h3 := h.hits
    exact ⟨by show _ ≤ _; simp [runM]; exact h1, by show _ ≤ _; simp [runM]; exact h2, by show _ ≤ _; simp [runM]; exact h3⟩
  | n + 1, m, k, h => by
    have := run_cnt n (step_cnt h)
    rw [runM, show k + ((n + 1 : Nat) : Int) = k + 1 + (n : Int) by omega]
    exact this
theorem run_over : ∀ (n : Nat) {m : Mc} {k : Int}, RightM m → CntM m k → k + n < 1000000000 → muM m ≤ n → (runM n m).over = true
  | 0, m, k, h, hc, hk, hm => by
    unfold muM at hm
    split at hm
    · assumption
    · omega
  | n + 1, m, k, h, hc, hk, hm => by
    by_cases hs : stuckM m = true
    · rw [runM_stuck hs]
      unfold stuckM at hs
      have h1 := hc.steps
      have h2 := hc.looks
      have h3 := hc.hits
      simp only [Bool.or_eq_true, decide_eq_true_eq] at hs
      rcases hs with hs | hs | hs | hs
      · exact hs
      all_goals omega
    · have := step_mu h hs
      exact run_over n (step_right h) (step_cnt hc) (by omega) (by omega)
theorem over_step {m : Mc} (h : m.over = true) : stepM m = m := if_pos (by unfold stuckM; rw [h]; rfl)
end Go.Proofs.YtbhlegobhidgkaaDoor.RE
/-! Regions that draw their order, step by step; what stands behind an operation, through others too. Conditions: those that a theorem names. -/
set_option linter.unusedVariables false
set_option linter.unusedSimpArgs false
namespace Go.Proofs.YtbhlegobhidgkaaDoor.RE
open Go Go.RowKit
section
variable {E : Env} {ds : List (Option Tmp)} {D : List Nat} {L : List (Oper × Bool)} {i j : Nat} {r s : Pl} {K : St → Prop} {st : St}
theorem tG_one (h : ∀ K1 : St → Prop, (∀ s, treeG E ds D L r K s → K1 s) → stepG E ds D (L.getD i (default, false)) K1 st) : treeG E ds D L (.one i r) K st := h _ fun _ h => h
theorem tG_two (h1 : ∀ K1 : St → Prop, (∀ s, treeG E ds D L r K s → K1 s) → stepG E ds D (L.getD i (default, false)) K1 st) (h2 : ∀ K1 : St → Prop, (∀ x, treeG E ds D L s K x → K1 x) → stepG E ds D (L.getD j (default, false)) K1 st) : treeG E ds D L (.two i j r s) K st := ⟨h1 _ fun _ h => h, h2 _ fun _ h => h⟩
theorem tG_done (h : K st) : treeG E ds D L .done K st := h
end
def next1 (ops : Array Oper) (i : Nat) (S : Nat → Bool) (j : Nat) : Bool := match ops[j]? with
  | some oj => oj.after.any fun e => Region.binds .any e && (e.on == i || S e.on)
  | none => false
/-- What is not listed and stands behind i, by at most n edges. -/
def behindB (ops : Array Oper) (listed : Array Bool) (i : Nat) : Nat → Nat → Bool
  | 0, _ => false
  | n + 1, j => !listed.getD j true && next1 ops i (behindB ops listed i n) j
theorem next1_mono {ops : Array Oper} {i j : Nat} {S T : Nat → Bool} (h : ∀ k, S k = true → T k = true) (hj : next1 ops i S j = true) : next1 ops i T j = true := by
  unfold next1 at *
  split at hj
  · obtain ⟨e, he, hb⟩ := Array.any_eq_true'.1 hj
    simp only [Bool.and_eq_true, Bool.or_eq_true] at hb
    refine Array.any_eq_true'.2 ⟨e, he, ?_⟩
    simp only [Bool.and_eq_true, Bool.or_eq_true]
    exact ⟨hb.1, hb.2.imp id (h _)⟩
  · cases hj
theorem behind_mono {ops : Array Oper} {listed : Array Bool} {i : Nat} : ∀ (n k : Nat), behindB ops listed i n k = true → behindB ops listed i (n + 1) k = true
  | 0, _, h => by cases h
  | n + 1, k, h => by
    simp only [behindB, Bool.and_eq_true] at h
    rw [behindB, Bool.and_eq_true]
    exact ⟨h.1, next1_mono (behind_mono n) h.2⟩
section
variable {E : Env} {ops : Array Oper} {D : List Nat} {DD : Nat → Bool} {K : St → Prop} {B : Base}
theorem anyG_first2 {i : Nat} {oi : Oper} {v : AV} {S : Nat → Bool} (hi : ops[i]? = some oi) (hro : readOp oi.op = true) (hS : ∀ j, S j = true → next1 ops i S j = true) : ∀ (fuel : Nat) (listed : Array Bool) (st : St),
    (∀ j, S j = true → listed.getD j true = false) → (∀ j oj, ops[j]? = some oj → j ≠ i → S j = false → listed.getD j true = false → (∀ e ∈ oj.after, Region.binds .any e = true → e.on ≠ i) → oi.apart ops oj = true ∧ (DD j = true ∨ readOp oj.op = true)) →
    i ∈ Region.ready .any ops listed → Yld E ops D oi v st → anyG E ops D DD K fuel (listed.setIfInBounds i true) ⟨putT st.tm oi.dst v, st.ob⟩ → anyG E ops D DD K (fuel + 1) listed st := by
  have take : ∀ (listed : Array Bool) (st : St) (K' : St → Prop), Yld E ops D oi v st → K' ⟨putT st.tm oi.dst v, st.ob⟩ → opH E ops D (DD i) oi K' st := by
    intro listed st K' hy hk
    have h1 : opG E ops oi (fun s => sameD D st.ob s.ob ∧ K' s) st := hy st _ ⟨fun _ _ => rfl, fun _ _ => rfl⟩ ⟨fun _ _ => rfl, hk⟩
    unfold opH
    split
    · exact h1
    · exact opG_mono h1 fun s hs => hs.2
  intro fuel
  induction fuel with
  | zero =>
    intro listed st _ _ hr hy H
    refine ⟨fun h => (by rw [h] at hr; cases hr), fun j hj => ?_⟩
    by_cases hji : j = i
    · subst hji; exact ⟨oi, hi, take listed st _ hy H⟩
    · have := ready_mono hj hji
      rw [H.1] at this
      cases this
  | succ fuel ih =>
    intro listed st hun0 hfree hr hy H
    refine ⟨fun h => (by rw [h] at hr; cases hr), fun j hj => ?_⟩
    by_cases hji : j = i
    · subst hji; exact ⟨oi, hi, take listed st _ hy H⟩
    · obtain ⟨oj, hoj, h1⟩ := H.2 j (ready_mono hj hji)
      obtain ⟨hjun, oj', hoj', hall⟩ := mem_ready.1 hj
      rw [hoj] at hoj'; cases hoj'
      have hnot : ∀ e ∈ oj.after, Region.binds .any e = true → e.on ≠ i := fun e he hb heq => by
        have h1 := hall e he hb
        have h0 := (mem_ready.1 hr).1
        rw [heq] at h1
        rcases Nat.lt_or_ge i listed.size with h' | h'
        · simp [h'] at h0 h1; rw [h0] at h1; cases h1
        · simp [Array.getElem?_eq_none h'] at h1
      have hnS : S j = false := by
        cases hSj : S j with
        | false => rfl
        | true =>
          exfalso
          have := hS j hSj
          unfold next1 at this
          rw [hoj] at this
          obtain ⟨e, he, hb⟩ := Array.any_eq_true'.1 this
          simp only [Bool.and_eq_true, Bool.or_eq_true, beq_iff_eq] at hb
          rcases hb.2 with h2 | h2
          · exact hnot e he hb.1 h2
          · have h3 := hall e he hb.1
            have h4 := hun0 e.on h2
            rcases Nat.lt_or_ge e.on listed.size with h' | h'
            · simp [h'] at h3 h4; rw [h3] at h4; cases h4
            · simp [Array.getElem?_eq_none h'] at h3
      obtain ⟨hap, hdd⟩ := hfree j oj hoj hji hnS hjun hnot
      refine ⟨oj, hoj, opH_mono (opH_put hap hdd hy h1) fun s ⟨h2, h3⟩ => ih (listed.setIfInBounds j true) s ?_ ?_ (ready_mono hr (Ne.symm hji)) h2 ?_⟩
      · intro k hk
        have hjk : j ≠ k := fun e => by subst e; rw [hnS] at hk; cases hk
        rw [getD_set_ne true hjk]; exact hun0 k hk
      · intro k ok hk hki hkS hun hno
        refine hfree k ok hk hki hkS ?_ hno
        by_cases hjk : j = k
        · subst hjk; exact hjun
        · rw [getD_set_ne true hjk] at hun; exact hun
      · rw [Array.setIfInBounds_comm _ _ hji]
        exact h3
def treeOk2 (ops : Array Oper) (DD : Nat → Bool) : Pl → Array Bool → Bool
  | .done, listed => (Region.ready .any ops listed).isEmpty
  | .one i r, listed => (match ops[i]? with
    | some o => if readOp o.op then !DD i && (Region.ready .any ops listed).contains i && Region.free .any ops listed i &&
          (List.range ops.size).all (fun j => j == i || listed.getD j true || behindB ops listed i 3 j || match ops[j]? with
            | some oj => oj.after.any (fun e => Region.binds .any e && e.on == i) || DD j || readOp oj.op
            | none => true)
        else Region.ready .any ops listed == [i]
    | none => false) && treeOk2 ops DD r (listed.setIfInBounds i true)
  | .two i j r s, listed => (Region.ready .any ops listed == [i, j] && r.depth == s.depth && (ops[i]?).isSome && (ops[j]?).isSome) && (treeOk2 ops DD r (listed.setIfInBounds i true) && treeOk2 ops DD s (listed.setIfInBounds j true))
theorem tree_ok2 {ds : List (Option Tmp)} {L : List (Oper × Bool)} (hL : ∀ i o, ops[i]? = some o → L.getD i (default, false) = (strip o, DD i)) (hds : ∀ j : Nat, ds.getD j none = (ops[j]?).bind (·.dst)) : ∀ (p : Pl) (listed : Array Bool) (st : St), treeOk2 ops DD p listed = true → treeG E ds D L p K st → anyG E ops D DD K p.depth listed st
  | .done, listed, st, h, hp => ⟨by simpa [treeOk2] using h, hp⟩
  | .one i r, listed, st, h, hp => by
    simp only [treeOk2, Bool.and_eq_true] at h
    obtain ⟨h1, h2⟩ := h
    split at h1
    case h_2 => cases h1
    rename_i o ho
    simp only [treeG, hL i o ho] at hp
    have ih := fun s => tree_ok2 hL hds r (listed.setIfInBounds i true) s h2
    split at h1
    · rename_i hro
      simp only [Bool.and_eq_true, Bool.not_eq_true'] at h1
      obtain ⟨⟨⟨h3, h4⟩, h5⟩, h6⟩ := h1
      have hp2 := stepG_G hds hp
      rw [h3] at hp2
      have hrd : readsIn D o st := by
        have h0 := hp.1
        obtain ⟨d, op, ty, pos, after, g⟩ := o
        cases op <;> exact h0
      obtain ⟨v, h7, h8⟩ := opG_read hro hrd hp2
      refine anyG_first2 (S := behindB ops listed i 3) ho hro (fun j hj => ?_) r.depth listed st (fun j hj => ?_) (fun j oj hj hji hS hun hno => ⟨Region.free_spec ho h5 j oj hj hji hun hno, ?_⟩) (by simpa using h4) h8 (ih _ h7)
      · simp only [behindB, Bool.and_eq_true] at hj ⊢
        exact next1_mono (fun k hk => behind_mono 2 k hk) hj.2
      · simp only [behindB, Bool.and_eq_true, Bool.not_eq_true'] at hj
        exact hj.1
      · have := List.all_eq_true.1 h6 j (by have := (Array.getElem?_eq_some_iff.1 hj).1; simpa using this)
        simp only [hj, Bool.or_eq_true, beq_iff_eq, hji, false_or, hun, hS, Bool.false_eq_true] at this
        rcases this with (h9 | h9) | h9
        · obtain ⟨e, he, hb⟩ := Array.any_eq_true'.1 h9
          simp only [Bool.and_eq_true, beq_iff_eq] at hb
          exact absurd hb.2 (hno e he hb.1)
        · exact .inl h9
        · exact .inr h9
    · simp only [beq_iff_eq] at h1
      refine ⟨fun h0 => (by rw [h1] at h0; cases h0), fun j hj => ?_⟩
      rw [h1] at hj
      simp at hj
      subst hj
      exact ⟨o, ho, stepG_H hds hp ih⟩
  | .two i j r s, listed, st, h, hp => by
    simp only [treeOk2, Bool.and_eq_true, beq_iff_eq] at h
    obtain ⟨⟨⟨⟨h1, h2⟩, h3⟩, h4⟩, h5, h6⟩ := h
    obtain ⟨oi, hi⟩ := Option.isSome_iff_exists.1 h3
    obtain ⟨oj, hj⟩ := Option.isSome_iff_exists.1 h4
    simp only [treeG, hL i oi hi, hL j oj hj] at hp
    refine ⟨fun h0 => (by rw [h1] at h0; cases h0), fun k hk => ?_⟩
    rw [h1] at hk
    simp only [List.mem_cons, List.not_mem_nil, or_false] at hk
    rcases hk with rfl | rfl
    · exact ⟨oi, hi, stepG_H hds hp.1 fun s => tree_ok2 hL hds r _ s h5⟩
    · refine ⟨oj, hj, stepG_H hds hp.2 fun s' hs => ?_⟩
      have := tree_ok2 hL hds s _ s' h6 hs
      rw [← h2] at this
      exact this
theorem Wp.drawS {id : Nat} {l : List Oper} {Q : Exit → St → Prop} {st : St} (D dd : List Nat) (p : Pl) (hl : p.depth = l.length) (hok : treeOk2 l.toArray (fun i => dd.contains i) p (Array.replicate l.length false) = true)
    (h : treeG E (l.map (·.dst)) D (flg dd 0 l) p (Q .normal) st) : Wp E.P B (.region id l.toArray true) Q st := by
  intro a w hr
  refine wp_region_any E.mix ?_
  have hr' : Rel B st a { w with drawn := w.drawn + 1 } := by
    obtain ⟨cx, hE, hM, hd, hlen, ht⟩ := hr
    have hE2 : Ext w cx st.ob { w with drawn := w.drawn + 1 } cx st.ob := ⟨rfl, rfl, rfl, Nat.le_refl _, fun _ _ h => ⟨rfl, h⟩, fun _ h => h, fun _ _ h => .inl h, fun _ _ _ h => h, fun _ => Iff.rfl⟩
    have hM2 : MemOk { w with drawn := w.drawn + 1 } cx st.ob := ⟨fun o x h => hM.rep o x h |>.imp fun l ⟨h1, hR⟩ => ⟨h1, hR.move (fun _ => rfl) (fun vs h => h.imp fun _ _ h => hE2.vc hM h) rfl (fun _ _ h => h)⟩, hM.gen, hM.top, hM.dis, hM.pml, hM.bsl⟩
    exact ⟨cx, hE.trans hE2, hM2, hd, hlen, fun i => hE2.va hM (ht i)⟩
  have hds : ∀ j : Nat, (l.map (·.dst)).getD j none = ((l.toArray)[j]?).bind (·.dst) := fun j => by have := dst_list l.toArray j; simpa using this
  have hL : ∀ i o, (l.toArray)[i]? = some o → (flg dd 0 l).getD i (default, false) = (strip o, dd.contains i) := fun i o ho => by
    rw [flg_ok, List.getD_eq_getElem?_getD, List.getElem?_map, List.getElem?_zipIdx]
    have : l[i]? = some o := by simpa using ho
    rw [this]; simp
  have h2 := tree_ok2 (E := E) (ops := l.toArray) (D := D) (DD := fun i => dd.contains i) (K := Q .normal) hL hds p (Array.replicate l.length false) st hok h
  have := anyG_ok (Q' := fun e a' w' => ∃ st', Q e st' ∧ Rel B st' a' w') (fun s hs a w hr => ⟨s, hs, hr⟩) p.depth (Array.replicate l.length false) st a _ h2 hr'
  rw [hl] at this
  simpa using this
end
end Go.Proofs.YtbhlegobhidgkaaDoor.RE
/-! What a machine calls. Conditions: those that a theorem names. -/
set_option linter.unusedVariables false
set_option linter.unusedSimpArgs false
namespace Go.Proofs.YtbhlegobhidgkaaDoor.RE
open Go Go.RowKit
set_option maxRecDepth 100000
set_option maxHeartbeats 8000000

/-! ### A byte in a text -/
theorem idx1_c (s : ByteArray) (c : UInt8) : Val E.P 120 [S s, .l (.sc (.int .u8 (c.toNat : Int)))] (I (Lib.indexByte s.data.toList c)) := by
  have := idx_c s c.toNat
  rwa [show ((c.toNat : Int)).toNat.toUInt8 = c from by simp] at this
theorem has_idx (c : UInt8) : ∀ l : List UInt8, decide (0 ≤ Lib.indexByte l c) = l.contains c
  | [] => rfl
  | b :: l => by
    have ih := has_idx c l
    have h := Lib.indexByte_ge l c
    rw [List.contains_cons]
    by_cases hb : b = c
    · subst hb
      have e0 : Lib.indexByte (b :: l) b = 0 := by simp [Lib.indexByte]
      rw [e0]; simp
    · have e0 : Lib.indexByte (b :: l) c = if (Lib.indexByte l c == -1) = true then -1 else Lib.indexByte l c + 1 := by rw [Lib.indexByte, if_neg (by simpa using hb)]
      rw [e0]
      have e : (c == b) = false := by simpa using fun e : c = b => hb e.symm
      rw [e, Bool.false_or, ← ih]
      split
      · rename_i h1
        have h1 : Lib.indexByte l c = -1 := by simpa using h1
        rw [h1]
      · rename_i h1
        have h1 : ¬ Lib.indexByte l c = -1 := by simpa using h1
        rw [decide_eq_decide]; omega
theorem index1_c (s : ByteArray) (c : UInt8) : Val E.P 114 [S s, S ⟨#[c]⟩] (I (Lib.indexByte s.data.toList c)) := by
  refine CallsA.body (E := E) (fn := Tryd.f114) Tryd.func114 rfl fun B hB => ?_
  simp only [Tryd.ntmps114, go_sem, nl, Nat.reduceSub, Nat.reduceAdd, List.reduceReplicate]
  refine Wp.seqK fun K1 hK1 => ?_
  refine rg ?_
  refine hK1 _ ?_
  clear hK1 K1
  refine Wp.seqU0 [.k, .k, .d, .d, .d, .v (I 1), .d5, .d5, .d5, .d5, .d5, .d5, .d5, .d5, .d5, .d5, .d5, .d5, .d5, .d5, .d5, .d5, .d5, .d5, .d5, .d5, .d5, .d5, .d5, .d5, .d5, .d5, .d5, .d, .d] (fun K2 hK2 => ?_) ?_
  · refine rg ?_
    exact hK2 _ anyS
  rintro f2
  simp only [updT_k, updT_d, updT_d5, updT_v, updT_nil, Nat.reduceAdd]
  refine Wp.seqK fun K3 hK3 => ?_
  refine Wp.block ?_
  refine Wp.seqU0 [.k, .k, .d, .d, .d, .k, .d5, .d5, .v (T (decide ((⟨#[c]⟩ : ByteArray) = s))), .d5, .d5, .d5, .d5, .d5, .d5, .d5, .d5, .d5, .d5, .d5, .d5, .d5, .d5, .d5, .d5, .d5, .d5, .d5, .d5, .d5, .d5, .d5, .d5, .d5, .d] (fun K4 hK4 => ?_) ?_
  · refine rg ?_
    exact hK4 _ anyS
  rintro f4
  simp only [updT_k, updT_d, updT_d5, updT_v, updT_nil, Nat.reduceAdd]
  refine Wp.condS (fun h16 => ?_) (fun h16 => ?_)
  · subst h16
    refine Wp.seqK fun K5 hK5 => ?_
    refine rg ?_
    refine hK5 _ ?_
    clear hK5 K5
    refine Wp.ret (retV ?_)
    try simp only [List.getD_cons_zero, List.getD_cons_succ]
    show I 0 = I (Lib.indexByte [c] c)
    simp [Lib.indexByte]
  · refine Wp.seqU0 [.k, .k, .d, .d, .d, .k, .d5, .d5, .d5, .d, .d, .d, .v (T true), .d5, .d5, .d5, .d5, .d5, .d5, .d5, .d5, .d5, .d5, .d5, .d5, .d5, .d5, .d5, .d5, .d5, .d5, .d5, .d5, .d5, .d5, .d5, .d, .d, .d] (fun K6 hK6 => ?_) ?_
    · refine rg ?_
      exact hK6 _ anyS
    rintro f6
    simp only [updT_k, updT_d, updT_d5, updT_v, updT_nil, Nat.reduceAdd]
    refine Wp.condS (fun h24 => ?_) (fun h24 => ?_)
    · refine Wp.seqK fun K7 hK7 => ?_
      refine rg ?_
      refine ⟨by show (0 : Int) < 1; decide, ?_⟩
      refine ⟨rfl, CallK.valA (h := idx1_c _ _) (k := ?_)⟩
      refine evd ?_
      refine hK7 _ ?_
      clear hK7 K7
      refine Wp.ret (retV ?_)
      try simp only [List.getD_cons_zero, List.getD_cons_succ]
      try rfl
    · exact absurd h24 (by decide)
theorem sIndex_c (s : ByteArray) (c : UInt8) : Val E.P 101 [S s, S ⟨#[c]⟩] (I (Lib.indexByte s.data.toList c)) := by
  refine CallsA.body (E := E) (fn := Tryd.f101) Tryd.func101 rfl fun B hB => ?_
  simp only [Tryd.ntmps101, go_sem, nl, Nat.reduceSub, Nat.reduceAdd, List.reduceReplicate]
  refine Wp.seqK fun K1 hK1 => ?_
  refine rg ?_
  refine hK1 _ ?_
  clear hK1 K1
  refine Wp.seqK fun K2 hK2 => ?_
  refine rg ?_
  refine ⟨rfl, CallK.valA (h := index1_c _ _) (k := ?_)⟩
  refine evd ?_
  refine hK2 _ ?_
  clear hK2 K2
  refine Wp.ret (retV ?_)
  try simp only [List.getD_cons_zero, List.getD_cons_succ]
theorem contains_c (s : ByteArray) (c : UInt8) : Val E.P 115 [S s, S ⟨#[c]⟩] (T (hasB c s)) := by
  refine CallsA.body (E := E) (fn := Tryd.f115) Tryd.func115 rfl fun B hB => ?_
  simp only [Tryd.ntmps115, go_sem, nl, Nat.reduceSub, Nat.reduceAdd, List.reduceReplicate]
  refine Wp.seqK fun K1 hK1 => ?_
  refine rg ?_
  refine hK1 _ ?_
  clear hK1 K1
  refine Wp.seqK fun K2 hK2 => ?_
  refine rg ?_
  refine ⟨rfl, CallK.valA (h := sIndex_c _ _) (k := ?_)⟩
  refine evd ?_
  refine hK2 _ ?_
  clear hK2 K2
  refine Wp.ret (retV ?_)
  try simp only [List.getD_cons_zero, List.getD_cons_succ]
  exact congrArg T (has_idx c _)
theorem known_c (n : Int) (o : ByteArray) : Val E.P 104 [.agg (tb n o)] (I (knownB o)) := by
  refine CallsA.body (E := E) (fn := Tryd.f104) Tryd.func104 rfl fun B hB => ?_
  simp only [Tryd.ntmps104, go_sem, nl, Nat.reduceSub, Nat.reduceAdd, List.reduceReplicate]
  refine Wp.seqK fun K1 hK1 => ?_
  refine rg ?_
  refine hK1 _ ?_
  clear hK1 K1
  refine Wp.seqK fun K2 hK2 => ?_
  refine rg ?_
  refine ⟨rfl, CallK.valA (h := contains_c _ _) (k := ?_)⟩
  refine evd ?_
  refine hK2 _ ?_
  clear hK2 K2
  refine Wp.seqK fun K3 hK3 => ?_
  refine Wp.seqU0 [.d, .d, .d, .k, .d5, .d, .d, .d, .v (T (hasB 49 o && hasB 48 o)), .d, .d] (fun K4 hK4 => ?_) ?_
  · refine rg ?_
    refine grdA_split rfl (fun g2_2 => ?_) (fun g2_2 => ?_)
    · try simp only [decide_eq_true_eq, decide_eq_false_iff_not] at g2_2
      try refine evd ?_
      refine ⟨rfl, CallK.valA (h := contains_c _ _) (k := ?_)⟩
      refine evd ?_
      exact hK4 _ (anyS (h := by first | rfl | (simp only [g2_2, Bool.true_or, Bool.or_true, Bool.false_or, Bool.or_false, Bool.true_and, Bool.and_true, Bool.false_and, Bool.and_false, Bool.not_true, Bool.not_false, decide_true, decide_false, eq_self, Int.reduceEq] <;> rfl)))
    · try simp only [decide_eq_true_eq, decide_eq_false_iff_not] at g2_2
      try refine evd ?_
      exact hK4 _ (anyS (h := by first | rfl | (simp only [g2_2, Bool.true_or, Bool.or_true, Bool.false_or, Bool.or_false, Bool.true_and, Bool.and_true, Bool.false_and, Bool.and_false, Bool.not_true, Bool.not_false, decide_true, decide_false, eq_self, Int.reduceEq] <;> rfl)))
  rintro f4
  simp only [updT_k, updT_d, updT_d5, updT_v, updT_nil, Nat.reduceAdd]
  refine Wp.condS (fun h12 => ?_) (fun h12 => ?_)
  · refine Wp.seqK fun K5 hK5 => ?_
    refine rg ?_
    refine hK5 _ ?_
    clear hK5 K5
    refine Wp.ret (retV ?_)
    try simp only [List.getD_cons_zero, List.getD_cons_succ]
    unfold knownB
    rw [if_pos h12.1, if_pos h12.2]
  · refine Wp.skip ?_
    refine hK3 _ ?_
    clear hK3 K3
    refine Wp.seqK fun K6 hK6 => ?_
    refine rg ?_
    refine ⟨rfl, CallK.valA (h := bit_c _) (k := ?_)⟩
    refine evd ?_
    refine hK6 _ ?_
    clear hK6 K6
    refine Wp.ret (retV ?_)
    try simp only [List.getD_cons_zero, List.getD_cons_succ]
    unfold knownB
    cases h1 : hasB 49 o
    · simp
    · rw [h1, Bool.true_and] at h12
      simp [h12]

theorem half_0 {o : ByteArray} {h : Nat} (hs : o.size = 2 * h) : halfB 0 o = o.extract 0 (o.size / 2) := by
  unfold halfB
  rw [show (0 : Int).toNat = 0 from rfl, Nat.zero_mul, Nat.zero_add]
theorem half_1 {o : ByteArray} {h : Nat} (hs : o.size = 2 * h) : halfB 1 o = o.extract (o.size / 2) o.size := by
  unfold halfB
  rw [show (1 : Int).toNat = 1 from rfl, Nat.one_mul, show o.size / 2 + o.size / 2 = o.size by omega]
theorem tdiv2 (n : Nat) : (n : Int).tdiv 2 = ((n / 2 : Nat) : Int) := by rw [Int.tdiv_eq_ediv_of_nonneg (by omega)]; rfl
theorem left_nums {n : Int} {o : ByteArray} {l : List Int} (ht : tabN n.toNat o) (hn : 0 ≤ n ∧ n ≤ 12) (ha : l.all bitI = true) (hl : (l.length : Int) ≤ n) :
    (0 ≤ plV l ∧ plV l ≤ 4096) ∧ (0 ≤ plV l * 2 ^ (n - l.length).toNat ∧ plV l * 2 ^ (n - l.length).toNat ≤ (plV l + 1) * 2 ^ (n - l.length).toNat ∧ (plV l + 1) * 2 ^ (n - l.length).toNat ≤ (o.size : Int)) ∧ (o.size : Int) ≤ 4096 ∧ (1 ≤ (2 : Int) ^ (n - l.length).toNat ∧ (2 : Int) ^ (n - l.length).toNat ≤ 4096) ∧
    o.extract (plV l * 2 ^ (n - l.length).toNat).toNat ((plV l + 1) * 2 ^ (n - l.length).toNat).toNat = leftB o l := by
  have hp := plV_nn ha
  have e0 : (n - l.length).toNat = n.toNat - l.length := by omega
  have hpw : (2 : Int) ^ (n - l.length).toNat = ((2 ^ (n.toNat - l.length) : Nat) : Int) := by rw [e0]; simp
  have hk : 2 ^ l.length * 2 ^ (n.toNat - l.length) = 2 ^ n.toNat := by rw [← Nat.pow_add]; congr 1; omega
  have h12 : 2 ^ n.toNat ≤ 2 ^ 12 := Nat.pow_le_pow_right (by decide) (by omega)
  have h12l : 2 ^ l.length ≤ 2 ^ 12 := Nat.pow_le_pow_right (by decide) (by omega)
  have h12k : 2 ^ (n.toNat - l.length) ≤ 2 ^ 12 := Nat.pow_le_pow_right (by decide) (by omega)
  have hz : 1 ≤ 2 ^ (n.toNat - l.length) := Nat.one_le_two_pow
  have h4 : (2 : Nat) ^ 12 = 4096 := rfl
  have hle := left_ext ht ha (by omega)
  have hs := ht.1
  have hp2 : ((2 ^ l.length : Nat) : Int) = (2 : Int) ^ l.length := by simp
  rw [hpw, hle]
  generalize 2 ^ (n.toNat - l.length) = z at *
  obtain ⟨p, hpe⟩ := Int.eq_ofNat_of_zero_le hp.1
  rw [hpe] at hp ⊢
  have hpl : p + 1 ≤ 2 ^ l.length := by omega
  have hmul : (p + 1) * z ≤ 2 ^ l.length * z := Nat.mul_le_mul_right _ hpl
  have c1 : ((p : Nat) : Int) * (z : Int) = ((p * z : Nat) : Int) := by simp
  have c2 : ((p : Int) + 1) * (z : Int) = (((p + 1) * z : Nat) : Int) := by simp
  have c3 : (p + 1) * z = p * z + z := by rw [Nat.add_mul, Nat.one_mul]
  rw [c1, c2]
  refine ⟨⟨by omega, by omega⟩, ⟨by omega, by omega, by omega⟩, by omega, ⟨by omega, by omega⟩, ?_⟩
  rw [Int.toNat_natCast, Int.toNat_natCast, Int.toNat_natCast]
theorem leftOf_c (n : Int) (o : ByteArray) (l : List Int) (ht : tabN n.toNat o) (hn : 0 ≤ n ∧ n ≤ 12) (ha : l.all bitI = true) (hl : (l.length : Int) ≤ n) : Val E.P 103 [.agg (tb n o), dI l] (.agg (tb (n - l.length) (leftB o l))) := by
  refine CallsA.body (E := E) (fn := Tryd.f103) Tryd.func103 rfl fun B hB => ?_
  simp only [Tryd.ntmps103, go_sem, nl, Nat.reduceSub, Nat.reduceAdd, List.reduceReplicate]
  have hb0 := left_nums ht hn ha hl
  obtain ⟨hb1, hb2, hb3, hb4, hb5⟩ := hb0
  refine Wp.seqK fun K1 hK1 => ?_
  refine rg ?_
  refine hK1 _ ?_
  clear hK1 K1
  refine Wp.seqK fun K2 hK2 => ?_
  refine rg ?_
  refine ⟨rfl, CallK.valA (h := placeOfBits_c _ (by omega)) (k := ?_)⟩
  refine evd ?_
  simp only [ha, if_true]
  refine hK2 _ ?_
  clear hK2 K2
  refine Wp.seqK fun K3 hK3 => ?_
  refine rg ?_
  refine hK3 _ ?_
  clear hK3 K3
  refine Wp.seqK fun K4 hK4 => ?_
  refine rg ?_
  refine hK4 _ ?_
  clear hK4 K4
  refine Wp.seqK fun K5 hK5 => ?_
  refine rg ?_
  refine hK5 _ ?_
  clear hK5 K5
  refine Wp.ret (retV ?_)
  try simp only [List.getD_cons_zero, List.getD_cons_succ]
  rw [hb5]; rfl
theorem sHalf0_c (n : Int) (o : ByteArray) (ht : tabN n.toNat o) (hn : 1 ≤ n ∧ n ≤ 12) : Val E.P 118 [.agg (tb n o), I 0] (.tup [.agg (tb (n - 1) (halfB 0 o)), TB true]) := by
  refine CallsA.body (E := E) (fn := Tryd.f118) Tryd.func118 rfl fun B hB => ?_
  simp only [Tryd.ntmps118, go_sem, nl, Nat.reduceSub, Nat.reduceAdd, List.reduceReplicate]
  have hsz : ∃ h : Nat, o.size = 2 * h ∧ h ≤ 4096 := by
    obtain ⟨k, hk⟩ : ∃ k, n.toNat = k + 1 := ⟨n.toNat - 1, by omega⟩
    have h1 := ht.1
    rw [hk, Nat.pow_succ] at h1
    have h2 : 2 ^ k ≤ 2 ^ 12 := Nat.pow_le_pow_right (by decide) (by omega)
    exact ⟨2 ^ k, by omega, by have : (2 : Nat) ^ 12 = 4096 := rfl; omega⟩
  obtain ⟨h, hs, hh⟩ := hsz
  have hto : tableOk n o = true := tab_iff.2 ⟨by omega, ht⟩
  refine Wp.seqK fun K1 hK1 => ?_
  refine rg ?_
  refine hK1 _ ?_
  clear hK1 K1
  refine Wp.seqK fun K2 hK2 => ?_
  refine Wp.seqU0 [.d, .k, .k, .d, .k, .d5, .d5, .d, .d, .d, .d, .v (T false), .d5, .d5, .d5, .d5] (fun K3 hK3 => ?_) ?_
  · refine rg ?_
    refine ⟨rfl, CallK.valA (h := sTableOk_c _ _ (by omega)) (k := ?_)⟩
    refine evd ?_
    refine grdA_split rfl (fun g1_4 => ?_) (fun g1_4 => ?_)
    · try simp only [decide_eq_true_eq, decide_eq_false_iff_not] at g1_4
      try refine evd ?_
      exfalso
      rw [hto] at g1_4
      cases g1_4
    · try simp only [decide_eq_true_eq, decide_eq_false_iff_not] at g1_4
      try refine evd ?_
      refine grdA_split rfl (fun g1_9 => ?_) (fun g1_9 => ?_)
      · try simp only [decide_eq_true_eq, decide_eq_false_iff_not] at g1_9
        try refine evd ?_
        exfalso
        omega
      · try simp only [decide_eq_true_eq, decide_eq_false_iff_not] at g1_9
        try refine evd ?_
        refine ⟨rfl, CallK.valA (h := l01In_c _ _ _) (k := ?_)⟩
        refine evd ?_
        exact hK3 _ (anyS (h := by rfl))
  rintro f3
  simp only [updT_k, updT_d, updT_d5, updT_v, updT_nil, Nat.reduceAdd]
  refine Wp.condS (fun h19 => ?_) (fun h19 => ?_)
  · cases h19
  · refine Wp.skip ?_
    refine hK2 _ ?_
    clear hK2 K2
    refine Wp.seqK fun K4 hK4 => ?_
    refine rg ?_
    rw [tdiv2]
    refine hK4 _ ?_
    clear hK4 K4
    refine Wp.seqK fun K5 hK5 => ?_
    refine Wp.drawI [0] [15] (by kernel_rfl) ?_
    refine evd ?_
    refine hK5 _ ?_
    clear hK5 K5
    refine Wp.ret (retV ?_)
    try simp only [List.getD_cons_zero, List.getD_cons_succ]
    have e : halfB 0 o = o.extract (0 * ((o.size / 2 : Nat) : Int)).toNat (0 * ((o.size / 2 : Nat) : Int) + ((o.size / 2 : Nat) : Int)).toNat := by
      unfold halfB
      congr 1 <;> omega
    rw [e]; rfl
theorem sHalf1_c (n : Int) (o : ByteArray) (ht : tabN n.toNat o) (hn : 1 ≤ n ∧ n ≤ 12) : Val E.P 118 [.agg (tb n o), I 1] (.tup [.agg (tb (n - 1) (halfB 1 o)), TB true]) := by
  refine CallsA.body (E := E) (fn := Tryd.f118) Tryd.func118 rfl fun B hB => ?_
  simp only [Tryd.ntmps118, go_sem, nl, Nat.reduceSub, Nat.reduceAdd, List.reduceReplicate]
  have hsz : ∃ h : Nat, o.size = 2 * h ∧ h ≤ 4096 := by
    obtain ⟨k, hk⟩ : ∃ k, n.toNat = k + 1 := ⟨n.toNat - 1, by omega⟩
    have h1 := ht.1
    rw [hk, Nat.pow_succ] at h1
    have h2 : 2 ^ k ≤ 2 ^ 12 := Nat.pow_le_pow_right (by decide) (by omega)
    exact ⟨2 ^ k, by omega, by have : (2 : Nat) ^ 12 = 4096 := rfl; omega⟩
  obtain ⟨h, hs, hh⟩ := hsz
  have hto : tableOk n o = true := tab_iff.2 ⟨by omega, ht⟩
  refine Wp.seqK fun K1 hK1 => ?_
  refine rg ?_
  refine hK1 _ ?_
  clear hK1 K1
  refine Wp.seqK fun K2 hK2 => ?_
  refine Wp.seqU0 [.d, .k, .k, .d, .k, .d5, .d5, .d, .d, .d, .d, .v (T false), .d5, .d5, .d5, .d5] (fun K3 hK3 => ?_) ?_
  · refine rg ?_
    refine ⟨rfl, CallK.valA (h := sTableOk_c _ _ (by omega)) (k := ?_)⟩
    refine evd ?_
    refine grdA_split rfl (fun g1_4 => ?_) (fun g1_4 => ?_)
    · try simp only [decide_eq_true_eq, decide_eq_false_iff_not] at g1_4
      try refine evd ?_
      exfalso
      rw [hto] at g1_4
      cases g1_4
    · try simp only [decide_eq_true_eq, decide_eq_false_iff_not] at g1_4
      try refine evd ?_
      refine grdA_split rfl (fun g1_9 => ?_) (fun g1_9 => ?_)
      · try simp only [decide_eq_true_eq, decide_eq_false_iff_not] at g1_9
        try refine evd ?_
        exfalso
        omega
      · try simp only [decide_eq_true_eq, decide_eq_false_iff_not] at g1_9
        try refine evd ?_
        refine ⟨rfl, CallK.valA (h := l01In_c _ _ _) (k := ?_)⟩
        refine evd ?_
        exact hK3 _ (anyS (h := by rfl))
  rintro f3
  simp only [updT_k, updT_d, updT_d5, updT_v, updT_nil, Nat.reduceAdd]
  refine Wp.condS (fun h19 => ?_) (fun h19 => ?_)
  · cases h19
  · refine Wp.skip ?_
    refine hK2 _ ?_
    clear hK2 K2
    refine Wp.seqK fun K4 hK4 => ?_
    refine rg ?_
    rw [tdiv2]
    refine hK4 _ ?_
    clear hK4 K4
    refine Wp.seqK fun K5 hK5 => ?_
    refine Wp.drawI [0] [15] (by kernel_rfl) ?_
    refine evd ?_
    refine hK5 _ ?_
    clear hK5 K5
    refine Wp.ret (retV ?_)
    try simp only [List.getD_cons_zero, List.getD_cons_succ]
    have e : halfB 1 o = o.extract (o.size / 2) (((o.size / 2 : Nat) : Int) + ((o.size / 2 : Nat) : Int)).toNat := by
      unfold halfB
      rw [show (1 : Int).toNat = 1 from rfl, Nat.one_mul]
      congr 1
    rw [e]; rfl
theorem sHalf_c (n v : Int) (o : ByteArray) (ht : tabN n.toNat o) (hn : 1 ≤ n ∧ n ≤ 12) (hv : bitI v = true) : Val E.P 118 [.agg (tb n o), I v] (.tup [.agg (tb (n - 1) (halfB v o)), TB true]) := by
  have := bitI_le hv
  by_cases h : v = 0
  · subst h; exact sHalf0_c n o ht hn
  · obtain rfl : v = 1 := by omega
    exact sHalf1_c n o ht hn

theorem known_diff {n : Nat} {o : ByteArray} (ht : tabN n o) {i : Nat} (hi : i < o.data.toList.length) (h : o.data.toList.getD i 0 ≠ o.data.toList.getD 0 0) : knownB o = -1 := by
  have h0 : 0 < o.data.toList.length := by omega
  have hm1 := mem_getD (d := (0 : UInt8)) hi
  have hm0 := mem_getD (d := (0 : UInt8)) h0
  have b1 := ht.2 _ hm1
  have b0 := ht.2 _ hm0
  have h49 : hasB 49 o = true := by
    unfold hasB
    rw [List.contains_iff_mem]
    rcases b1 with e | e
    · rcases b0 with e0 | e0
      · exact absurd (e.trans e0.symm) h
      · rw [← e0]; exact hm0
    · rw [← e]; exact hm1
  have h48 : hasB 48 o = true := by
    unfold hasB
    rw [List.contains_iff_mem]
    rcases b1 with e | e
    · rw [← e]; exact hm1
    · rcases b0 with e0 | e0
      · rw [← e0]; exact hm0
      · exact absurd (e.trans e0.symm) h
  unfold knownB
  rw [if_pos h49, if_pos h48]
theorem known_same {n : Nat} {o : ByteArray} (ht : tabN n o) (h : ∀ i, i < o.data.toList.length → o.data.toList.getD i 0 = o.data.toList.getD 0 0) : knownB o = ((o.data.toList.getD 0 0).toNat : Int) - 48 := by
  have h0 : 0 < o.data.toList.length := by
    rw [← size_list, ht.1]; exact Nat.two_pow_pos _
  have hm0 := mem_getD (d := (0 : UInt8)) h0
  have ha : ∀ b ∈ o.data.toList, b = o.data.toList.getD 0 0 := fun b hb => by
    obtain ⟨i, hi, rfl⟩ := List.getElem_of_mem hb
    rw [getD_at (d := 0) hi]; exact h i hi
  unfold knownB hasB
  rcases ht.2 _ hm0 with e | e
  · rw [e] at ha ⊢
    rw [if_neg (fun hc => by have := ha _ (List.contains_iff_mem.1 hc); revert this; decide)]; rfl
  · rw [e] at ha hm0 ⊢
    rw [if_pos (List.contains_iff_mem.2 hm0), if_neg (fun hc => by have := ha _ (List.contains_iff_mem.1 hc); revert this; decide)]; rfl
theorem sKnown_c (n : Int) (o : ByteArray) (ht : tabN n.toNat o) (hn : 0 ≤ n ∧ n ≤ 12) : Val E.P 107 [.agg (tb n o)] (I (knownB o)) := by
  refine CallsA.body (E := E) (fn := Tryd.f107) Tryd.func107 rfl fun B hB => ?_
  simp only [Tryd.ntmps107, go_sem, nl, Nat.reduceSub, Nat.reduceAdd, List.reduceReplicate]
  have hsz := size_list o
  have hto : tableOk n o = true := tab_iff.2 ⟨by omega, ht⟩
  have h0 : 1 ≤ o.size := by rw [ht.1]; exact Nat.two_pow_pos _
  have h12 : o.size ≤ 4096 := by
    rw [ht.1]
    exact Nat.pow_le_pow_right (n := 2) (by decide) (show n.toNat ≤ 12 by omega)
  refine Wp.seqK fun K1 hK1 => ?_
  refine rg ?_
  refine hK1 _ ?_
  clear hK1 K1
  refine Wp.seqK fun K2 hK2 => ?_
  refine Wp.seqK fun K3 hK3 => ?_
  refine rg ?_
  refine ⟨rfl, CallK.valA (h := sTableOk_c _ _ (by omega)) (k := ?_)⟩
  refine evd ?_
  refine hK3 _ ?_
  clear hK3 K3
  refine Wp.condS (fun h6 => ?_) (fun h6 => ?_)
  · rw [hto] at h6
    cases h6
  · refine Wp.skip ?_
    refine hK2 _ ?_
    clear hK2 K2
    refine Wp.seqK fun K4 hK4 => ?_
    refine Wp.seqK fun K5 hK5 => ?_
    refine rg ?_
    refine hK5 _ ?_
    clear hK5 K5
    refine Wp.block ?_
    refine Wp.loopU0 (α := Nat) (fun x => [.d, .k, .d, .v (I x), .d5, .d5, .d5, .d5, .d, .d, .d]) (fun x => (1 ≤ x ∧ x ≤ o.data.toList.length) ∧ ∀ i, i < x → o.data.toList.getD i 0 = o.data.toList.getD 0 0) (fun x => o.data.toList.length - x) 1 (⟨⟨Nat.le_refl _, by omega⟩, fun i hi => by rw [show i = 0 by omega]⟩) anyS ?_
    rintro x f6 K6 ⟨hx, ha⟩ hK6
    simp only [updT_k, updT_d, updT_d5, updT_v, updT_nil, Nat.reduceAdd]
    refine Wp.seqK fun K7 hK7 => ?_
    refine Wp.seqK fun K8 hK8 => ?_
    refine rg ?_
    refine hK8 _ ?_
    clear hK8 K8
    refine Wp.condS (fun h11 => ?_) (fun h11 => ?_)
    · have hxl : x < o.data.toList.length := by omega
      refine Wp.skip ?_
      refine hK7 _ ?_
      clear hK7 K7
      refine Wp.seqK fun K9 hK9 => ?_
      refine Wp.block ?_
      refine Wp.seqK fun K10 hK10 => ?_
      have hbx := byte_le (o.data.toList.getD x 0)
      have hb0 := byte_le (o.data.toList.getD 0 0)
      refine Wp.drawI [0] [] (by kernel_rfl) ?_
      refine evd ?_
      refine hK10 _ ?_
      clear hK10 K10
      refine Wp.condS (fun h21 => ?_) (fun h21 => ?_)
      · refine Wp.seqK fun K11 hK11 => ?_
        refine rg ?_
        refine hK11 _ ?_
        clear hK11 K11
        refine Wp.ret (retV ?_)
        try simp only [List.getD_cons_zero, List.getD_cons_succ]
        rw [known_diff ht hxl (fun e => h21 (by rw [e]))]
      · refine Wp.skip ?_
        try simp only [thn, inB, if_true, reduceIte]
        refine hK9 _ ?_
        clear hK9 K9
        refine rg ?_
        exact hK6 (x + 1) _ ⟨⟨by omega, hxl⟩, fun i hi => by
          rcases Nat.lt_succ_iff_lt_or_eq.1 hi with h | h
          · exact ha i h
          · rw [h]; exact UInt8.toNat_inj.1 (by omega)⟩ (by omega) anyS
    · have hxl : x = o.data.toList.length := by omega
      refine Wp.exit ?_
      try simp only [thn, inB, if_true, reduceIte]
      clear hK7 K7
      clear hK6 K6
      refine hK4 _ ?_
      clear hK4 K4
      refine Wp.seqK fun K12 hK12 => ?_
      have hb0 := byte_le (o.data.toList.getD 0 0)
      refine rg ?_
      refine hK12 _ ?_
      clear hK12 K12
      refine Wp.ret (retV ?_)
      try simp only [List.getD_cons_zero, List.getD_cons_succ]
      rw [known_same ht (fun i hi => ha i (by omega))]

theorem leftB_take {o : ByteArray} {l : List Int} {x : Nat} (h : x < l.length) : leftB o (l.take (x + 1)) = halfB (l.getD x 0) (leftB o (l.take x)) := by rw [take_push 0 h, leftB_push]
theorem sLeft_c (m : Mc) (hR : RightM m) : Val E.P 106 [.agg (mD m)] (.agg (tb (m.n - m.vals.length) (leftM m))) := by
  refine CallsA.body (E := E) (fn := Tryd.f106) Tryd.func106 rfl fun B hB => ?_
  simp only [Tryd.ntmps106, go_sem, nl, Nat.reduceSub, Nat.reduceAdd, List.reduceReplicate]
  have hnn := hR.n
  have hvl := hR.vals
  refine Wp.seqK fun K1 hK1 => ?_
  refine rg ?_
  refine hK1 _ ?_
  clear hK1 K1
  refine Wp.seqK fun K2 hK2 => ?_
  refine rg ?_
  refine hK2 _ ?_
  clear hK2 K2
  refine Wp.seqK fun K3 hK3 => ?_
  refine Wp.seqK fun K4 hK4 => ?_
  refine rg ?_
  refine hK4 _ ?_
  clear hK4 K4
  refine Wp.block ?_
  refine Wp.loopU (α := Nat) (fun x => [.d, .k, .k, .k, .v (I x), .d5, .d5, .d5, .d5, .d, .d, .d]) (fun x => [some ⟨0, mD m⟩, some ⟨0, tb 0 ⟨#[]⟩⟩, some ⟨0, tb (m.n - x) (leftB m.ones (m.vals.take x))⟩]) (fun x => x ≤ m.vals.length) (fun x => m.vals.length - x) 0 (Nat.zero_le _) (anyS (ho := by simp [leftB, mD, mCells, tb])) ?_
  rintro x f5 K5 hx hK5
  simp only [updT_k, updT_d, updT_d5, updT_v, updT_nil, Nat.reduceAdd]
  simp only [mD, mCells, tb]
  refine Wp.seqK fun K6 hK6 => ?_
  refine Wp.seqK fun K7 hK7 => ?_
  refine rg ?_
  refine hK7 _ ?_
  clear hK7 K7
  refine Wp.condS (fun h13 => ?_) (fun h13 => ?_)
  · have hxl : x < m.vals.length := by omega
    have hbx : bitI (m.vals.getD x 0) = true := List.all_eq_true.1 hR.va _ (mem_getD hxl)
    have htx : tabN (m.n - x).toNat (leftB m.ones (m.vals.take x)) := by
      have := left_tab hR.tab (all_take (k := x) hR.va) (by rw [List.length_take]; omega)
      rwa [List.length_take, show m.n.toNat - min x m.vals.length = (m.n - x).toNat by omega] at this
    refine Wp.skip ?_
    refine hK6 _ ?_
    clear hK6 K6
    refine Wp.seqK fun K8 hK8 => ?_
    refine Wp.block ?_
    refine Wp.seqU (α := Unit) (fun u_ => [.d, .k, .k, .k, .k, .v (.l (.ptr 3 0 0)), .d5, .d5, .d5, .d5, .d, .d]) (fun u_ => [some ⟨0, mD m⟩, some ⟨0, tb 0 ⟨#[]⟩⟩, some ⟨0, tb (m.n - x) (leftB m.ones (m.vals.take x))⟩, some ⟨0, tb (m.n - x - 1) (halfB (m.vals.getD x 0) (leftB m.ones (m.vals.take x)))⟩]) (fun u_ => True) (fun K9 hK9 => ?_) ?_
    · refine Wp.drawS [0, 2] [6, 10, 11] (.one 0 (.one 1 (.one 2 (.one 3 (.one 4 (.one 5 (.two 6 10 (.one 7 (.one 8 (.one 9 (.one 10 (.one 11 (.one 12 .done)))))) (.one 6 (.one 7 (.one 8 (.one 9 (.one 11 (.one 12 .done))))))))))))) rfl (by kernel_rfl) ?_
      simp only [flg, strip_mk]
      refine tG_one fun Kt5_1 ht5_1 => ?_
      refine evd ?_
      refine ht5_1 _ ?_
      clear ht5_1 Kt5_1
      refine tG_one fun Kt5_2 ht5_2 => ?_
      refine evd ?_
      refine ht5_2 _ ?_
      clear ht5_2 Kt5_2
      refine tG_one fun Kt5_3 ht5_3 => ?_
      refine evd ?_
      refine ht5_3 _ ?_
      clear ht5_3 Kt5_3
      refine tG_one fun Kt5_4 ht5_4 => ?_
      refine evd ?_
      refine ht5_4 _ ?_
      clear ht5_4 Kt5_4
      refine tG_one fun Kt5_5 ht5_5 => ?_
      refine evd ?_
      refine ht5_5 _ ?_
      clear ht5_5 Kt5_5
      refine tG_one fun Kt5_6 ht5_6 => ?_
      refine evd ?_
      refine ht5_6 _ ?_
      clear ht5_6 Kt5_6
      refine tG_two (fun Kt5_7 ht5_7 => ?_) (fun Kt5_7 ht5_7 => ?_)
      · refine evd ?_
        refine ⟨rfl, CallK.valA (h := sHalf_c _ _ _ htx (by omega) hbx) (k := ?_)⟩
        refine evd ?_
        refine ht5_7 _ ?_
        clear ht5_7 Kt5_7
        refine tG_one fun Kt5_8 ht5_8 => ?_
        refine evd ?_
        refine ht5_8 _ ?_
        clear ht5_8 Kt5_8
        refine tG_one fun Kt5_9 ht5_9 => ?_
        refine evd ?_
        refine ht5_9 _ ?_
        clear ht5_9 Kt5_9
        refine tG_one fun Kt5_10 ht5_10 => ?_
        refine evd ?_
        refine ht5_10 _ ?_
        clear ht5_10 Kt5_10
        refine tG_one fun Kt5_11 ht5_11 => ?_
        refine evd ?_
        refine ht5_11 _ ?_
        clear ht5_11 Kt5_11
        refine tG_one fun Kt5_12 ht5_12 => ?_
        refine evd ?_
        refine ht5_12 _ ?_
        clear ht5_12 Kt5_12
        refine tG_one fun Kt5_13 ht5_13 => ?_
        refine evd ?_
        refine ht5_13 _ ?_
        clear ht5_13 Kt5_13
        refine tG_done ?_
        exact hK9 () _ trivial (anyS)
      · refine evd ?_
        refine ht5_7 _ ?_
        clear ht5_7 Kt5_7
        refine tG_one fun Kt5_14 ht5_14 => ?_
        refine evd ?_
        refine ⟨rfl, CallK.valA (h := sHalf_c _ _ _ htx (by omega) hbx) (k := ?_)⟩
        refine evd ?_
        refine ht5_14 _ ?_
        clear ht5_14 Kt5_14
        refine tG_one fun Kt5_15 ht5_15 => ?_
        refine evd ?_
        refine ht5_15 _ ?_
        clear ht5_15 Kt5_15
        refine tG_one fun Kt5_16 ht5_16 => ?_
        refine evd ?_
        refine ht5_16 _ ?_
        clear ht5_16 Kt5_16
        refine tG_one fun Kt5_17 ht5_17 => ?_
        refine evd ?_
        refine ht5_17 _ ?_
        clear ht5_17 Kt5_17
        refine tG_one fun Kt5_18 ht5_18 => ?_
        refine evd ?_
        refine ht5_18 _ ?_
        clear ht5_18 Kt5_18
        refine tG_one fun Kt5_19 ht5_19 => ?_
        refine evd ?_
        refine ht5_19 _ ?_
        clear ht5_19 Kt5_19
        refine tG_done ?_
        exact hK9 () _ trivial (anyS)
    rintro _ f9 _
    simp only [updT_k, updT_d, updT_d5, updT_v, updT_nil, Nat.reduceAdd]
    simp only [mD, mCells, tb]
    refine rg ?_
    try simp only [thn, inB, if_true, reduceIte]
    refine hK8 _ ?_
    clear hK8 K8
    refine Wp.keepR 3 [] (by rw [hB]; simp) (by simp) (by simp) (by simp) ?_
    refine evd ?_
    refine rg ?_
    exact hK5 (x + 1) _ hxl (by omega) (anyS (ho := by rw [leftB_take hxl, show m.n - ((x + 1 : Nat) : Int) = m.n - x - 1 by omega]; rfl))
  · have hxl : x = m.vals.length := by omega
    subst hxl
    simp only [List.take_length]
    refine Wp.exit ?_
    try simp only [thn, inB, if_true, reduceIte]
    clear hK6 K6
    clear hK5 K5
    refine hK3 _ ?_
    clear hK3 K3
    refine Wp.seqK fun K10 hK10 => ?_
    refine rg ?_
    refine hK10 _ ?_
    clear hK10 K10
    refine Wp.ret (retV ?_)
    try simp only [List.getD_cons_zero, List.getD_cons_succ]
    rfl

def idxM (l : List Sn) (k : ByteArray) : Int := match l.findIdx? fun s => decide (s.key = k) with
  | some i => i
  | none => -1
theorem fidx_yes {l : List Sn} {k : ByteArray} {x : Nat} (hx : x < l.length) (h : (l.getD x default).key = k) (ha : ∀ i, i < x → (l.getD i default).key ≠ k) : (l.findIdx? fun s => decide (s.key = k)) = some x := by
  rw [List.findIdx?_eq_some_iff_getElem]
  refine ⟨hx, by rw [getD_at (d := default) hx]; simpa using h, fun j hj => ?_⟩
  rw [getD_at (d := default) (by omega)]
  simpa using ha j hj
theorem fidx_no {l : List Sn} {k : ByteArray} (ha : ∀ i, i < l.length → (l.getD i default).key ≠ k) : (l.findIdx? fun s => decide (s.key = k)) = none := by
  rw [List.findIdx?_eq_none_iff]
  intro s hs
  obtain ⟨i, hi, rfl⟩ := List.getElem_of_mem hs
  rw [getD_at (d := default) hi]
  simpa using ha i hi
theorem find_yes' {l : List Sn} {k : ByteArray} {x : Nat} (hx : x < l.length) (h : (l.getD x default).key = k) (ha : ∀ i, i < x → (l.getD i default).key ≠ k) : findM l k = (l.getD x default).ret := by
  have : (l.find? fun s => decide (s.key = k)) = some (l.getD x default) := by
    rw [List.find?_eq_some_iff_getElem]
    refine ⟨by simpa using h, x, hx, getD_at hx, fun j hj => ?_⟩
    rw [getD_at (d := default) (by omega)]
    simpa using ha j hj
  unfold findM
  rw [this]
theorem find_no' {l : List Sn} {k : ByteArray} (ha : ∀ i, i < l.length → (l.getD i default).key ≠ k) : findM l k = -1 := by
  have : (l.find? fun s => decide (s.key = k)) = none := by
    rw [List.find?_eq_none]
    intro s hs
    obtain ⟨i, hi, rfl⟩ := List.getElem_of_mem hs
    rw [getD_at (d := default) hi]
    simpa using ha i hi
  unfold findM
  rw [this]
theorem idx_find {l : List Sn} {k : ByteArray} (hr : ∀ s ∈ l, bitI s.ret = true) : (0 ≤ idxM l k ↔ 0 ≤ findM l k) ∧ idxM l k < (l.length : Int) + 0 ∧ -1 ≤ idxM l k ∧ (0 ≤ idxM l k → (idxM l k).toNat < l.length ∧ (l.getD (idxM l k).toNat default).ret = findM l k) := by
  unfold idxM
  cases h : l.findIdx? fun s => decide (s.key = k) with
  | none =>
    rw [List.findIdx?_eq_none_iff] at h
    have := find_no' (l := l) (k := k) fun i hi => by
      have := h _ (mem_getD (d := default) hi)
      simpa using this
    rw [this]
    refine ⟨by simp, ?_, by simp, fun h => by simp at h⟩
    show (-1 : Int) < _
    omega
  | some x =>
    rw [List.findIdx?_eq_some_iff_getElem] at h
    obtain ⟨hx, h1, h2⟩ := h
    rw [getD_at (d := default) hx] at h1
    have := find_yes' (l := l) (k := k) hx (by simpa using h1) fun i hi => by
      have := h2 i hi
      rw [getD_at (d := default) (by omega)] at this
      simpa using this
    rw [this]
    have hb := bitI_le (hr _ (mem_getD (d := default) hx))
    refine ⟨⟨fun _ => hb.1, fun _ => by simp⟩, ?_, by show (-1 : Int) ≤ ((x : Nat) : Int); omega, fun _ => ⟨by simpa using hx, by simp⟩⟩
    show ((x : Nat) : Int) < _
    omega
theorem sFind_c (l : List Sn) (k : ByteArray) (hl : l.length ≤ 1048576) : Val E.P 108 [dS l, S k] (I (findM l k)) := by
  refine CallsA.body (E := E) (fn := Tryd.f108) Tryd.func108 rfl fun B hB => ?_
  simp only [Tryd.ntmps108, go_sem, nl, Nat.reduceSub, Nat.reduceAdd, List.reduceReplicate]
  refine Wp.seqK fun K1 hK1 => ?_
  refine rg ?_
  refine hK1 _ ?_
  clear hK1 K1
  refine Wp.seqK fun K2 hK2 => ?_
  refine Wp.seqK fun K3 hK3 => ?_
  refine rg ?_
  refine hK3 _ ?_
  clear hK3 K3
  refine Wp.block ?_
  refine Wp.loopU0 (α := Nat) (fun x => [.k, .k, .d, .d, .d, .v (I x), .d5, .d5, .d5, .d, .d, .d]) (fun x => x ≤ l.length ∧ ∀ i, i < x → (l.getD i default).key ≠ k) (fun x => l.length - x) 0 (⟨Nat.zero_le _, fun i hi => absurd hi (by omega)⟩) anyS ?_
  rintro x f4 K4 ⟨hx, ha⟩ hK4
  simp only [updT_k, updT_d, updT_d5, updT_v, updT_nil, Nat.reduceAdd]
  refine Wp.seqK fun K5 hK5 => ?_
  refine Wp.seqK fun K6 hK6 => ?_
  refine rg ?_
  refine hK6 _ ?_
  clear hK6 K6
  refine Wp.condS (fun h9 => ?_) (fun h9 => ?_)
  · have hxl : x < l.length := by omega
    refine Wp.skip ?_
    refine hK5 _ ?_
    clear hK5 K5
    refine Wp.seqK fun K7 hK7 => ?_
    refine Wp.block ?_
    refine Wp.seqK fun K8 hK8 => ?_
    refine rg ?_
    refine hK8 _ ?_
    clear hK8 K8
    refine Wp.condS (fun h18 => ?_) (fun h18 => ?_)
    · refine Wp.seqK fun K9 hK9 => ?_
      refine rg ?_
      refine hK9 _ ?_
      clear hK9 K9
      refine Wp.ret (retV ?_)
      try simp only [List.getD_cons_zero, List.getD_cons_succ]
      rw [find_yes' hxl h18 ha]
    · refine Wp.skip ?_
      try simp only [thn, inB, if_true, reduceIte]
      refine hK7 _ ?_
      clear hK7 K7
      refine rg ?_
      exact hK4 (x + 1) _ ⟨hxl, fun i hi => by
        rcases Nat.lt_succ_iff_lt_or_eq.1 hi with h | h
        · exact ha i h
        · subst h; exact h18⟩ (by omega) anyS
  · have hxl : x = l.length := by omega
    refine Wp.exit ?_
    try simp only [thn, inB, if_true, reduceIte]
    clear hK5 K5
    clear hK4 K4
    refine hK2 _ ?_
    clear hK2 K2
    refine Wp.seqK fun K10 hK10 => ?_
    refine rg ?_
    refine hK10 _ ?_
    clear hK10 K10
    refine Wp.ret (retV ?_)
    try simp only [List.getD_cons_zero, List.getD_cons_succ]
    rw [find_no' (fun i hi => ha i (by omega))]
theorem seenFn_c (s : Sn) (k : ByteArray) : CallsA E.P 117 [.agg (sl s), .l (.ptr 0 0 0)] [some ⟨0, [ct k]⟩] fun r ob => r = T (decide (s.key = k)) ∧ ob = [some ⟨0, [ct k]⟩] := by
  refine CallsA.body (E := E) (fn := Tryd.f117) Tryd.func117 rfl fun B hB => ?_
  simp only [Tryd.ntmps117, go_sem, nl, Nat.reduceSub, Nat.reduceAdd, List.reduceReplicate]
  refine Wp.seqK fun K1 hK1 => ?_
  refine rg ?_
  refine hK1 _ ?_
  clear hK1 K1
  refine Wp.seqK fun K2 hK2 => ?_
  refine rg ?_
  refine hK2 _ ?_
  clear hK2 K2
  refine Wp.ret (retH (n := 1) rfl rfl)
theorem idxFn_c (l : List Sn) (k : ByteArray) (hl : l.length ≤ 1048576) : CallsA E.P 116 [dS l, .l (.clo 117 [(0, 0, 0)])] [some ⟨0, [ct k]⟩] fun r ob => r = I (idxM l k) ∧ ob = [some ⟨0, [ct k]⟩] := by
  refine CallsA.body (E := E) (fn := Tryd.f116) Tryd.func116 rfl fun B hB => ?_
  simp only [Tryd.ntmps116, go_sem, nl, Nat.reduceSub, Nat.reduceAdd, List.reduceReplicate]
  refine Wp.seqK fun K1 hK1 => ?_
  refine rg ?_
  refine hK1 _ ?_
  clear hK1 K1
  refine Wp.seqK fun K2 hK2 => ?_
  refine Wp.seqK fun K3 hK3 => ?_
  refine rg ?_
  refine hK3 _ ?_
  clear hK3 K3
  refine Wp.block ?_
  refine Wp.loopU (α := Nat) (fun x => [.k, .k, .d5, .k, .v (I x), .d5, .d5]) (fun x => [some ⟨0, [ct k]⟩]) (fun x => x ≤ l.length ∧ ∀ i, i < x → (l.getD i default).key ≠ k) (fun x => l.length - x) 0 (⟨Nat.zero_le _, fun i hi => absurd hi (by omega)⟩) (anyS) ?_
  rintro x f4 K4 ⟨hx, ha⟩ hK4
  simp only [updT_k, updT_d, updT_d5, updT_v, updT_nil, Nat.reduceAdd]
  refine Wp.seqK fun K5 hK5 => ?_
  refine rg ?_
  refine hK5 _ ?_
  clear hK5 K5
  refine Wp.seqK fun K6 hK6 => ?_
  refine Wp.condS (fun h9 => ?_) (fun h9 => ?_)
  · have hxl : x < l.length := by omega
    refine Wp.skip ?_
    refine hK6 _ ?_
    clear hK6 K6
    refine Wp.seqK fun K7 hK7 => ?_
    refine Wp.block ?_
    refine Wp.seqK fun K8 hK8 => ?_
    refine rg ?_
    refine hK8 _ ?_
    clear hK8 K8
    refine Wp.seqK fun K9 hK9 => ?_
    refine rg ?_
    refine ⟨by first | rfl | decide, CallK.passS [0] (seenFn_c (l.getD x default) k) ?_⟩
    refine evd ?_
    refine hK9 _ ?_
    clear hK9 K9
    refine Wp.condS (fun h16 => ?_) (fun h16 => ?_)
    · refine Wp.seqK fun K10 hK10 => ?_
      refine rg ?_
      refine hK10 _ ?_
      clear hK10 K10
      refine Wp.ret (retH (n := 1) ?_ rfl)
      show I _ = I (idxM l k)
      unfold idxM
      rw [fidx_yes hxl h16 ha]
    · refine Wp.skip ?_
      try simp only [thn, inB, if_true, reduceIte]
      refine hK7 _ ?_
      clear hK7 K7
      refine Wp.keepR 1 [] (by rw [hB]; simp) (by simp) (by simp) (by simp) ?_
      refine evd ?_
      refine rg ?_
      exact hK4 (x + 1) _ ⟨hxl, fun i hi => by
        rcases Nat.lt_succ_iff_lt_or_eq.1 hi with h | h
        · exact ha i h
        · subst h; exact h16⟩ (by omega) anyS
  · have hxl : x = l.length := by omega
    refine Wp.exit ?_
    try simp only [thn, inB, if_true, reduceIte]
    clear hK6 K6
    clear hK4 K4
    refine hK2 _ ?_
    clear hK2 K2
    refine Wp.seqK fun K11 hK11 => ?_
    refine rg ?_
    refine hK11 _ ?_
    clear hK11 K11
    refine Wp.ret (retH (n := 1) ?_ rfl)
    show I _ = I (idxM l k)
    unfold idxM
    rw [fidx_no (fun i hi => ha i (by omega))]
theorem copyInts_c (l : List Int) (hl : l.length ≤ 1048576) : Row E.P 86 [dI l] 1 l.length (l.map ci) := by
  refine CallsA.body (E := E) (fn := Tryd.f86) Tryd.func86 rfl fun B hB => ?_
  simp only [Tryd.ntmps86, go_sem, nl, Nat.reduceSub, Nat.reduceAdd, List.reduceReplicate]
  refine Wp.seqK fun K1 hK1 => ?_
  refine rg ?_
  refine hK1 _ ?_
  clear hK1 K1
  refine Wp.seqK fun K2 hK2 => ?_
  refine rg ?_
  refine hK2 _ ?_
  clear hK2 K2
  refine Wp.ret (retR rfl rfl (flatI _))
theorem iCopy_c (m : Mc) (h1 : m.row.length ≤ 1048576) (h2 : m.vals.length ≤ 1048576) (h3 : m.memo.length ≤ 1048576) : Ret E.P 44 [.agg (mD m)] (.agg (mO 0 1 2 m)) (mR m) := by
  refine CallsA.body (E := E) (fn := Tryd.f44) Tryd.func44 rfl fun B hB => ?_
  simp only [Tryd.ntmps44, go_sem, nl, Nat.reduceSub, Nat.reduceAdd, List.reduceReplicate]
  refine Wp.seqK fun K1 hK1 => ?_
  refine rg ?_
  refine hK1 _ ?_
  clear hK1 K1
  refine Wp.seqK fun K2 hK2 => ?_
  refine rg ?_
  refine hK2 _ ?_
  clear hK2 K2
  refine Wp.seqK fun K3 hK3 => ?_
  refine rg ?_
  refine ⟨rfl, CallK.rowA (h := copyInts_c _ (by omega)) (k := ?_)⟩
  refine evd ?_
  refine hK3 _ ?_
  clear hK3 K3
  refine Wp.seqK fun K4 hK4 => ?_
  refine rg ?_
  refine hK4 _ ?_
  clear hK4 K4
  refine Wp.seqK fun K5 hK5 => ?_
  refine rg ?_
  refine hK5 _ ?_
  clear hK5 K5
  refine Wp.ret (retL [2, 3, 4] rfl (Nat.zero_le _) (by decide) (by simp) rfl ?_)
  simp only [keepO, List.take_zero, List.map_nil, List.nil_append, List.map_cons, List.getD_cons_zero, List.getD_cons_succ, Option.map_some, renB, renI, renS, mR]
theorem sCopy_c (m : Mc) (h1 : m.row.length ≤ 1048576) (h2 : m.vals.length ≤ 1048576) (h3 : m.memo.length ≤ 1048576) : Ret E.P 67 [.agg (mD m)] (.agg (mO 0 1 2 m)) (mR m) := by
  refine CallsA.body (E := E) (fn := Tryd.f67) Tryd.func67 rfl fun B hB => ?_
  simp only [Tryd.ntmps67, go_sem, nl, Nat.reduceSub, Nat.reduceAdd, List.reduceReplicate]
  refine Wp.seqK fun K1 hK1 => ?_
  refine rg ?_
  refine hK1 _ ?_
  clear hK1 K1
  refine Wp.seqK fun K2 hK2 => ?_
  refine rg ?_
  refine hK2 _ ?_
  clear hK2 K2
  refine Wp.seqK fun K3 hK3 => ?_
  refine rg ?_
  refine hK3 _ ?_
  clear hK3 K3
  refine Wp.seqK fun K4 hK4 => ?_
  refine rg ?_
  refine hK4 _ ?_
  clear hK4 K4
  refine Wp.seqK fun K5 hK5 => ?_
  refine rg ?_
  refine hK5 _ ?_
  clear hK5 K5
  refine Wp.ret (retL [2, 3, 4] rfl (Nat.zero_le _) (by decide) (by simp) rfl ?_)
  simp only [keepO, List.take_zero, List.map_nil, List.nil_append, List.map_cons, List.getD_cons_zero, List.getD_cons_succ, Option.map_some, renB, renI, renS, mR]
end Go.Proofs.YtbhlegobhidgkaaDoor.RE
/-! Drawing: the cursor. Conditions: those that a theorem names. -/
set_option linter.unusedVariables false
set_option linter.unusedSimpArgs false
namespace Go.Proofs.YtbhlegobhidgkaaDoor.RE
open Go Go.RowKit
set_option maxRecDepth 100000
set_option maxHeartbeats 8000000

/-! ### Rows handed over, an answer that is told by a property -/
section
variable {P : Program} {f : FuncId} {args args' : List AV} {st : St} {d : Option Tmp} {K : St → Prop}
theorem CallK.handE (m : Nat) {Q : AV → Obs → Prop} {obm : Obs} (h : CallsA P f args' obm Q)
    (k : ∀ r ob1, Q r ob1 → ∃ o1 new, ob1 = o1 ++ new ∧ o1.length = m ∧ obShut m o1 = true ∧ K ⟨putT st.tm d (r.ren (shm m st.ob.length)), o1 ++ st.ob.drop m ++ new.map (Option.map (Ob.ren (shm m st.ob.length)))⟩)
    (ho : st.ob.take m = obm := by rfl) (ha : args.map (AV.toC (List.range m) []) = args' := by rfl)
    (hs : obShut m obm = true := by (simp only [obShut, List.all_cons, List.all_nil, flat_shut (lN_flat _), flat_shut (flatI _), flat_shut (flatB _), Bool.and_true]) <;> rfl) (hm : m ≤ st.ob.length := by simp) : CallK P f args st d K :=
  CallK.use (Q := Q) (List.range m) [] ⟨List.nodup_range, fun s hs => by rw [List.mem_range] at hs; omega, by simp, by simp⟩ (by rw [obC_range hm (by rw [ho]; exact hs), ho, ha]; exact h) fun r ob1 hq => by
    obtain ⟨o1, new, rfl, hl, hs1, hk⟩ := k r ob1 hq
    refine ⟨by simp [hl], .inl rfl, ?_⟩
    rw [obB_range hm hl hs1, mB_range]
    exact hk
end
section
variable {st : St}
/-- A return whose rows are those that were handed over. -/
theorem retE {fn : Func} {m : Nat} {Q : AV → Obs → Prop} {x x' : AV} {ob' : Obs} (hQ : Q x' ob') (hob : st.ob.take m = ob') (h : resA st.tm st.ob E fn.results.toList = some x := by rfl) (hx : x.ren (keepM m [] st.ob) = x' := by rfl)
    (hi : obShut m ob' = true := by (simp only [obShut, List.all_cons, List.all_nil, flat_shut (lN_flat _), flat_shut (flatI _), flat_shut (flatB _), Bool.and_true]) <;> rfl) (hn : m ≤ st.ob.length := by simp) : retQ E fn m Q .ret st := by
  refine ⟨x, [], h, hn, List.nodup_nil, by simp, ?_⟩
  rw [hx]
  have e : keepO m [] st.ob = ob' := by
    simp only [keepO, List.map_nil, List.append_nil]
    rw [hob]
    apply List.ext_getElem?
    intro i
    rw [List.getElem?_map]
    cases hx : ob'[i]? with
    | none => rfl
    | some y => cases y with
      | none => rfl
      | some y => simp only [Option.map_some, shut_map (keepM_below m st.ob) (shut_at hi hx)]
  rw [e]
  exact hQ
end
/-! ### The cursor -/
def encY (l : List Int) : List DV := l.map fun x => .sc (.int .u8 x)
abbrev dY (l : List Int) : AV := .l (.dsl true l.length (encY l))
theorem encY_len (l : List Int) : (encY l).length = l.length := by simp [encY]
theorem atDY {l : List Int} {i : Nat} (h : i < l.length) : ((encY l).drop i).getD 0 .nils = .sc (.int .u8 (l.getD i 0)) := by
  simp [encY, List.getD_eq_getElem?_getD, h]
abbrev cur (l : List Int) (i h : Int) : Ob := ⟨0, [.dsl true l.length (encY l), .sc (.int .i64 i), .sc (.int .i64 h)]⟩
attribute [go_sem] atDY encY_len wrU bits64 min64
theorem and255 (a : Int) : 0 ≤ IntKind.i64.wrap ((BitVec.ofInt 64 a &&& BitVec.ofInt 64 255).toNat : Int) ∧ IntKind.i64.wrap ((BitVec.ofInt 64 a &&& BitVec.ofInt 64 255).toNat : Int) ≤ 255 := by
  have h : (BitVec.ofInt 64 a &&& BitVec.ofInt 64 255).toNat ≤ 255 := by
    rw [BitVec.toNat_and]
    exact Nat.le_trans Nat.and_le_right (by decide)
  rw [wr (by omega) (by omega)]
  omega
def QCur (l : List Int) (p : AV → Prop) : AV → Obs → Prop := fun r ob => ∃ i2 h2, (0 ≤ i2 ∧ i2 ≤ (l.length : Int)) ∧ p r ∧ ob = [some (cur l i2 h2)]
def PI (lo hi : Int) (r : AV) : Prop := ∃ x, r = I x ∧ lo ≤ x ∧ x ≤ hi
def PT (r : AV) : Prop := ∃ x, r = T x
theorem retCur {st : St} {fn : Func} {l : List Int} {p : AV → Prop} {x : AV} {i2 h2 : Int} (hp : p x) (hi : 0 ≤ i2 ∧ i2 ≤ (l.length : Int)) (h : resA st.tm st.ob E fn.results.toList = some x := by rfl) (hob : st.ob.take 1 = [some (cur l i2 h2)] := by rfl)
    (hf : x.flat = true := by rfl) (hn : 1 ≤ st.ob.length := by simp) : retQ E fn 1 (QCur l p) .ret st :=
  retE (Q := QCur l p) ⟨i2, h2, hi, hp, rfl⟩ hob h (AV.flat_ren hf) rfl hn
theorem CallK.cur0 {P : Program} {f : FuncId} {args args' : List AV} {st : St} {d : Option Tmp} {K : St → Prop} {l : List Int} {i s : Int} {p : AV → Prop} {rest : Obs} (h : CallsA P f args' [some (cur l i s)] (QCur l p))
    (k : ∀ r i2 s2, p r → (0 ≤ i2 ∧ i2 ≤ (l.length : Int)) → K ⟨putT st.tm d r, some (cur l i2 s2) :: rest⟩) (hp : ∀ r, p r → r.flat = true) (ho : st.ob = some (cur l i s) :: rest := by rfl) (ha : args.map (AV.toC (List.range 1) []) = args' := by rfl) : CallK P f args st d K :=
  CallK.handE 1 h (fun r ob1 ⟨i2, s2, hi, hpr, e⟩ => ⟨[some (cur l i2 s2)], [], by rw [e]; rfl, rfl, rfl, by
    rw [ho, AV.flat_ren (hp r hpr)]
    simpa using k r i2 s2 hpr hi⟩) (by rw [ho]; rfl) ha rfl (by rw [ho]; simp)
theorem CallK.curI {P : Program} {f : FuncId} {args args' : List AV} {st : St} {d : Option Tmp} {K : St → Prop} {l : List Int} {i s lo hi : Int} {rest : Obs} (h : CallsA P f args' [some (cur l i s)] (QCur l (PI lo hi)))
    (k : ∀ x i2 s2, (lo ≤ x ∧ x ≤ hi) → (0 ≤ i2 ∧ i2 ≤ (l.length : Int)) → K ⟨putT st.tm d (I x), some (cur l i2 s2) :: rest⟩) (ho : st.ob = some (cur l i s) :: rest := by rfl) (ha : args.map (AV.toC (List.range 1) []) = args' := by rfl) : CallK P f args st d K :=
  CallK.cur0 h (fun r i2 s2 ⟨x, e, hx⟩ hi => by subst e; exact k x i2 s2 hx hi) (fun r ⟨x, e, _⟩ => by subst e; rfl) ho ha
theorem CallK.curT {P : Program} {f : FuncId} {args args' : List AV} {st : St} {d : Option Tmp} {K : St → Prop} {l : List Int} {i s : Int} {rest : Obs} (h : CallsA P f args' [some (cur l i s)] (QCur l PT))
    (k : ∀ x i2 s2, True → (0 ≤ i2 ∧ i2 ≤ (l.length : Int)) → K ⟨putT st.tm d (T x), some (cur l i2 s2) :: rest⟩) (ho : st.ob = some (cur l i s) :: rest := by rfl) (ha : args.map (AV.toC (List.range 1) []) = args' := by rfl) : CallK P f args st d K :=
  CallK.cur0 h (fun r i2 s2 ⟨x, e⟩ hi => by subst e; exact k x i2 s2 trivial hi) (fun r ⟨x, e⟩ => by subst e; rfl) ho ha
theorem mod_b {a n : Int} (h0 : 0 ≤ a) (hn : 0 < n) : 0 ≤ a.tmod n ∧ a.tmod n ≤ n - 1 := by
  rw [Int.tmod_eq_emod_of_nonneg h0]
  have := Int.emod_lt_of_pos a hn
  have := Int.emod_nonneg a (show n ≠ 0 by omega)
  omega
theorem l01Byte_c (l : List Int) (i h : Int) (hi : 0 ≤ i ∧ i ≤ (l.length : Int)) (hl : l.length ≤ 1048576) : CallsA E.P 74 [.l (.ptr 0 0 0)] [some (cur l i h)] (QCur l (PI 0 255)) := by
  refine CallsA.body (E := E) (fn := Tryd.f74) Tryd.func74 rfl fun B hB => ?_
  simp only [Tryd.ntmps74, go_sem, nl, Nat.reduceSub, Nat.reduceAdd, List.reduceReplicate]
  refine Wp.seqK fun K1 hK1 => ?_
  refine rg ?_
  refine hK1 _ ?_
  clear hK1 K1
  refine Wp.seqK fun K2 hK2 => ?_
  refine rg ?_
  refine hK2 _ ?_
  clear hK2 K2
  refine Wp.seqK fun K3 hK3 => ?_
  refine Wp.drawI [0] [] (by kernel_rfl) ?_
  refine evd ?_
  refine hK3 _ ?_
  clear hK3 K3
  refine Wp.seqK fun K4 hK4 => ?_
  refine Wp.seqK fun K5 hK5 => ?_
  refine Wp.drawI [0] [] (by kernel_rfl) ?_
  refine evd ?_
  refine hK5 _ ?_
  clear hK5 K5
  refine Wp.condS (fun h34 => ?_) (fun h34 => ?_)
  · refine Wp.seqK fun K6 hK6 => ?_
    refine Wp.drawI [0] [11] (by kernel_rfl) ?_
    refine evd ?_
    refine hK6 _ ?_
    clear hK6 K6
    refine rg ?_
    refine hK4 _ ?_
    clear hK4 K4
    refine Wp.seqK fun K7 hK7 => ?_
    refine rg ?_
    refine hK7 _ ?_
    clear hK7 K7
    refine Wp.ret (retCur (hp := ?_) (hi := ?_))
    · exact ⟨_, rfl, and255 _⟩
    · omega
  · refine Wp.skip ?_
    refine hK4 _ ?_
    clear hK4 K4
    refine Wp.seqK fun K8 hK8 => ?_
    refine rg ?_
    refine hK8 _ ?_
    clear hK8 K8
    refine Wp.ret (retCur (hp := ?_) (hi := ?_))
    · exact ⟨_, rfl, and255 _⟩
    · omega
theorem l01Below_c (l : List Int) (i h : Int) (hi : 0 ≤ i ∧ i ≤ (l.length : Int)) (hl : l.length ≤ 1048576) (n : Int) (hn : 1 ≤ n ∧ n ≤ 1000000) : CallsA E.P 24 [.l (.ptr 0 0 0), I n] [some (cur l i h)] (QCur l (PI 0 (n - 1))) := by
  refine CallsA.body (E := E) (fn := Tryd.f24) Tryd.func24 rfl fun B hB => ?_
  simp only [Tryd.ntmps24, go_sem, nl, Nat.reduceSub, Nat.reduceAdd, List.reduceReplicate]
  refine Wp.seqK fun K1 hK1 => ?_
  refine rg ?_
  refine hK1 _ ?_
  clear hK1 K1
  refine Wp.seqK fun K2 hK2 => ?_
  refine Wp.seqK fun K3 hK3 => ?_
  refine rg ?_
  refine hK3 _ ?_
  clear hK3 K3
  refine Wp.condS (fun h10 => ?_) (fun h10 => ?_)
  · refine Wp.seqK fun K4 hK4 => ?_
    refine rg ?_
    refine hK4 _ ?_
    clear hK4 K4
    refine Wp.ret (retCur (hp := ?_) (hi := ?_))
    · exact ⟨0, rfl, by omega, by omega⟩
    · omega
  · refine Wp.skip ?_
    refine hK2 _ ?_
    clear hK2 K2
    refine Wp.seqK fun K5 hK5 => ?_
    refine Wp.seqK fun K6 hK6 => ?_
    refine rg ?_
    refine hK6 _ ?_
    clear hK6 K6
    refine Wp.condS (fun h12 => ?_) (fun h12 => ?_)
    · refine Wp.seqK fun K7 hK7 => ?_
      refine rg ?_
      refine ⟨rfl, CallK.curI (h := l01Byte_c _ _ _ (by omega) (by omega)) (fun x4_1 i4_1 s4_1 hx4_1 hi4_1 => ?_)⟩
      refine evd ?_
      refine hK7 _ ?_
      clear hK7 K7
      refine Wp.ret (retCur (hp := ?_) (hi := ?_))
      · exact ⟨_, rfl, mod_b (by omega) (by omega)⟩
      · omega
    · refine Wp.skip ?_
      refine hK5 _ ?_
      clear hK5 K5
      refine Wp.seqK fun K8 hK8 => ?_
      refine rg ?_
      refine ⟨rfl, CallK.curI (h := l01Byte_c _ _ _ (by omega) (by omega)) (fun x5_1 i5_1 s5_1 hx5_1 hi5_1 => ?_)⟩
      refine evd ?_
      refine hK8 _ ?_
      clear hK8 K8
      refine Wp.seqK fun K9 hK9 => ?_
      refine rg ?_
      refine ⟨rfl, CallK.curI (h := l01Byte_c _ _ _ (by omega) (by omega)) (fun x6_1 i6_1 s6_1 hx6_1 hi6_1 => ?_)⟩
      refine evd ?_
      refine hK9 _ ?_
      clear hK9 K9
      refine Wp.seqK fun K10 hK10 => ?_
      refine rg ?_
      refine ⟨rfl, CallK.curI (h := l01Byte_c _ _ _ (by omega) (by omega)) (fun x7_1 i7_1 s7_1 hx7_1 hi7_1 => ?_)⟩
      refine evd ?_
      refine hK10 _ ?_
      clear hK10 K10
      refine Wp.seqK fun K11 hK11 => ?_
      refine rg ?_
      refine ⟨rfl, CallK.curI (h := l01Byte_c _ _ _ (by omega) (by omega)) (fun x8_1 i8_1 s8_1 hx8_1 hi8_1 => ?_)⟩
      refine evd ?_
      refine hK11 _ ?_
      clear hK11 K11
      refine Wp.seqK fun K12 hK12 => ?_
      refine rg ?_
      refine hK12 _ ?_
      clear hK12 K12
      refine Wp.ret (retCur (hp := ?_) (hi := ?_))
      · exact ⟨_, rfl, mod_b (by omega) (by omega)⟩
      · omega
theorem l01Once_c (l : List Int) (i h : Int) (hi : 0 ≤ i ∧ i ≤ (l.length : Int)) (hl : l.length ≤ 1048576) (n : Int) (hn : 1 ≤ n ∧ n ≤ 1000000) : CallsA E.P 95 [.l (.ptr 0 0 0), I n] [some (cur l i h)] (QCur l PT) := by
  refine CallsA.body (E := E) (fn := Tryd.f95) Tryd.func95 rfl fun B hB => ?_
  simp only [Tryd.ntmps95, go_sem, nl, Nat.reduceSub, Nat.reduceAdd, List.reduceReplicate]
  refine Wp.seqK fun K1 hK1 => ?_
  refine rg ?_
  refine hK1 _ ?_
  clear hK1 K1
  refine Wp.seqK fun K2 hK2 => ?_
  refine rg ?_
  refine ⟨rfl, CallK.curI (h := l01Below_c _ _ _ (by omega) (by omega) _ (by omega)) (fun x1_2 i1_2 s1_2 hx1_2 hi1_2 => ?_)⟩
  refine evd ?_
  refine hK2 _ ?_
  clear hK2 K2
  refine Wp.ret (retCur (hp := ?_) (hi := ?_))
  · exact ⟨_, rfl⟩
  · omega
end Go.Proofs.YtbhlegobhidgkaaDoor.RE
/-! Drawing: a new cursor. Conditions: those that a theorem names. -/
set_option linter.unusedVariables false
set_option linter.unusedSimpArgs false
namespace Go.Proofs.YtbhlegobhidgkaaDoor.RE
open Go Go.RowKit
set_option maxRecDepth 100000
set_option maxHeartbeats 8000000
theorem l01New_c (l : List Int) (hl : l.length ≤ 1048576) : CallsA E.P 21 [dY l] [] (fun r ob => ∃ h : Int, r = .l (.ptr 0 0 0) ∧ ob = [some (cur l 0 h)]) := by
  refine CallsA.body (E := E) (fn := Tryd.f21) Tryd.func21 rfl fun B hB => ?_
  simp only [Tryd.ntmps21, go_sem, nl, Nat.reduceSub, Nat.reduceAdd, List.reduceReplicate]
  refine Wp.seqK fun K1 hK1 => ?_
  refine rg ?_
  refine hK1 _ ?_
  clear hK1 K1
  refine Wp.seqK fun K2 hK2 => ?_
  refine rg ?_
  refine hK2 _ ?_
  clear hK2 K2
  refine Wp.seqK fun K3 hK3 => ?_
  refine Wp.seqK fun K4 hK4 => ?_
  refine rg ?_
  refine hK4 _ ?_
  clear hK4 K4
  refine Wp.block ?_
  refine Wp.loopU0 (α := Nat × Int) (fun x => [.k, .d, .d, .v (I x.2), .v (I (x.1 : Int)), .d5, .d5, .d5, .d5, .d5, .d, .d]) (fun x => x.1 ≤ l.length) (fun x => l.length - x.1) (0, 118118 + l.length) (Nat.zero_le _) anyS ?_
  rintro x f5 K5 hx hK5
  simp only [updT_k, updT_d, updT_d5, updT_v, updT_nil, Nat.reduceAdd]
  refine Wp.seqK fun K6 hK6 => ?_
  refine Wp.seqU0 [.k, .d, .d, .k, .k, .d5, .d5, .v (T (decide (x.1 < l.length ∧ x.1 < 4000))), .d5, .d5, .d5, .d] (fun K7 hK7 => ?_) ?_
  · refine rg ?_
    refine grdA_split rfl (fun g3_5 => ?_) (fun g3_5 => ?_)
    · try simp only [decide_eq_true_eq, decide_eq_false_iff_not] at g3_5
      try refine evd ?_
      have e : decide (x.1 < l.length ∧ x.1 < 4000) = decide ((x.1 : Int) < 4000) := by
        rw [decide_eq_decide]
        omega
      exact hK7 _ (anyS (h := by rw [e]; rfl))
    · try simp only [decide_eq_true_eq, decide_eq_false_iff_not] at g3_5
      try refine evd ?_
      have e : decide (x.1 < l.length ∧ x.1 < 4000) = false := decide_eq_false (by omega)
      exact hK7 _ (anyS (h := by rw [e]; rfl))
  rintro f7
  simp only [updT_k, updT_d, updT_d5, updT_v, updT_nil, Nat.reduceAdd]
  refine Wp.condS (fun h15 => ?_) (fun h15 => ?_)
  · refine Wp.skip ?_
    refine hK6 _ ?_
    clear hK6 K6
    refine Wp.seqK fun K8 hK8 => ?_
    refine Wp.block ?_
    refine rg ?_
    try simp only [thn, inB, if_true, reduceIte]
    refine hK8 _ ?_
    clear hK8 K8
    refine rg ?_
    exact hK5 (x.1 + 1, _) _ (by show x.1 + 1 ≤ _; omega) (by show l.length - (x.1 + 1) < l.length - x.1; omega) anyS
  · refine Wp.exit ?_
    try simp only [thn, inB, if_true, reduceIte]
    clear hK6 K6
    clear hK5 K5
    refine hK3 _ ?_
    clear hK3 K3
    refine Wp.seqK fun K9 hK9 => ?_
    refine rg ?_
    refine hK9 _ ?_
    clear hK9 K9
    refine Wp.ret ⟨_, [0], rfl, Nat.zero_le _, by simp, by simp, ?_⟩
    exact ⟨_, rfl, rfl⟩
def QPick (l : List Int) (y : Option Ob) (q : List Int) : AV → Obs → Prop := fun r ob => ∃ (i2 h2 x : Int), (0 ≤ i2 ∧ i2 ≤ (l.length : Int)) ∧ r = I x ∧ ob = [some (cur l i2 h2), y, some ⟨0, q.map ci⟩]
theorem retPick {st : St} {fn : Func} {l q : List Int} {g : Nat} {t : List Nd} {x i2 h2 : Int} (hi : 0 ≤ i2 ∧ i2 ≤ (l.length : Int)) (h : resA st.tm st.ob E fn.results.toList = some (I x) := by rfl) (hob : st.ob.take 3 = [some (cur l i2 h2), some ⟨g, lN t⟩, some ⟨0, q.map ci⟩] := by rfl) (hn : 3 ≤ st.ob.length := by simp) : retQ E fn 3 (QPick l (some ⟨g, lN t⟩) q) .ret st :=
  retE (Q := QPick l (some ⟨g, lN t⟩) q) ⟨i2, h2, x, hi, rfl, rfl⟩ hob h rfl (by (simp only [obShut, List.all_cons, List.all_nil, flat_shut (lN_flat _), flat_shut (flatI _), Bool.and_true]) <;> rfl) hn
theorem l01PickInt_c (l : List Int) (i h : Int) (hi : 0 ≤ i ∧ i ≤ (l.length : Int)) (hl : l.length ≤ 1048576) (g : Nat) (t : List Nd) (q : List Int) (hq : 1 ≤ q.length ∧ q.length ≤ 1000) : CallsA E.P 73 [.l (.ptr 0 0 0), .l (.obj 2 0 1 0 q.length)] [some (cur l i h), some ⟨g, lN t⟩, some ⟨0, q.map ci⟩] (QPick l (some ⟨g, lN t⟩) q) := by
  refine CallsA.body (E := E) (fn := Tryd.f73) Tryd.func73 rfl fun B hB => ?_
  simp only [Tryd.ntmps73, go_sem, nl, Nat.reduceSub, Nat.reduceAdd, List.reduceReplicate]
  refine Wp.seqK fun K1 hK1 => ?_
  refine rg ?_
  refine hK1 _ ?_
  clear hK1 K1
  refine Wp.seqK fun K2 hK2 => ?_
  refine rg ?_
  refine ⟨rfl, CallK.curI (h := l01Below_c _ _ _ (by omega) (by omega) (q.length : Int) (by omega)) (fun x1_4 i1_4 s1_4 hx1_4 hi1_4 => ?_)⟩
  refine evd ?_
  refine hK2 _ ?_
  clear hK2 K2
  refine Wp.ret (retPick (hi := ?_))
  omega
end Go.Proofs.YtbhlegobhidgkaaDoor.RE
/-! A machine steps, the program. Conditions: those that a theorem names. -/
set_option linter.unusedVariables false
set_option linter.unusedSimpArgs false
namespace Go.Proofs.YtbhlegobhidgkaaDoor.RE
open Go Go.RowKit
set_option maxRecDepth 100000
set_option maxHeartbeats 8000000

/-! ### A machine in rows of one's own: generations, what stands behind the values, what was taken off the memo's front -/
structure Gh where
  gr : Nat
  gv : Nat
  jv : List Int
  gm : Nat
  pm : List Sn
def mCl (a b c : Nat) (G : Gh) (m : Mc) : List LV := mCells (.obj a G.gr 1 0 m.row.length) (.obj b G.gv 1 0 m.vals.length) (.obj c G.gm 2 (G.pm.length * 2) m.memo.length) m
def mRw (G : Gh) (m : Mc) : Obs := [some ⟨G.gr, m.row.map cb⟩, some ⟨G.gv, (m.vals ++ G.jv).map ci⟩, some ⟨G.gm, lS (G.pm ++ m.memo)⟩]
def mOb (G : Gh) (m : Mc) : Obs := some ⟨0, mCl 1 2 3 G m⟩ :: mRw G m
def QM (m' : Mc) (r0 : AV) : AV → Obs → Prop := fun r ob => ∃ G', r = r0 ∧ ob = mOb G' m'
attribute [go_sem] mCl mRw mOb
theorem mOb_shut (G : Gh) (m : Mc) : obShut 4 (mOb G m) = true := by
  simp only [mOb, mRw, mCl, mCells, obShut, List.all_cons, List.all_nil, flat_shut (flatI _), flat_shut (flatB _), flat_shut (lS_flat _), Bool.and_true]
  rfl
theorem takeV (l j : List Int) (v : Int) : List.take l.length ((l ++ j).map ci) ++ [LV.sc (.int .i64 v)] = (l ++ [v]).map ci := by
  rw [List.map_append, List.take_left' (by simp)]; simp
theorem takeM' (p l : List Sn) (k : ByteArray) (r : Int) : List.drop (p.length * 2) (lS (p ++ l)) ++ [LV.sc (.string k), .sc (.int .i64 r)] = lS (l ++ [⟨k, r⟩]) := by
  rw [lS_app, List.drop_left' (lS_len p), lS_app]; rfl
theorem takeM (p l : List Sn) (k : ByteArray) (r : Int) : List.take (l.length * 2) (List.drop (p.length * 2) (lS (p ++ l))) ++ [LV.sc (.string k), .sc (.int .i64 r)] = lS (l ++ [⟨k, r⟩]) := by
  rw [lS_app, List.drop_left' (lS_len p), List.take_of_length_le (Nat.le_of_eq (lS_len l)), lS_app]; rfl
theorem encV_take (l j : List Int) : List.take l.length (encI (l ++ j)) = encI l := by
  unfold encI
  rw [List.map_append, List.take_left' (by simp)]
theorem encS_app (t u : List Sn) : encS (t ++ u) = encS t ++ encS u := by simp [encS]
theorem encM_mid (p l : List Sn) : List.take (l.length * 2) (List.drop (p.length * 2) (encS (p ++ l))) = encS l := by
  rw [encS_app, List.drop_left' (encS_len p), List.take_of_length_le (Nat.le_of_eq (encS_len l))]
theorem argsLeft (n : Int) (o : ByteArray) (k g : Nat) (l j : List Int) : [AV.agg [.sc (.int .i64 n), .sc (.string o)], .l (.obj k g 1 0 l.length)].map (AV.toC [] [(k, g, encI (l ++ j))]) = [.agg (tb n o), dI l] := by
  have h1 : lk [(k, g, encI (l ++ j))] k g = some (encI (l ++ j)) := by simp [lk]
  simp only [List.map_cons, List.map_nil, AV.toC, LV.toC, h1, List.drop_zero, Nat.mul_one, encV_take]; rfl
theorem memoAt {p l : List Sn} {k : Nat} (h : k < l.length) : (lS (p ++ l)).getD (p.length * 2 + k * 2 + 1) .dead = .sc (.int .i64 (l.getD k default).ret) := by
  have := fLS1 (t := p ++ l) (i := p.length + k) (by rw [List.length_append]; omega)
  rw [show p.length * 2 + k * 2 + 1 = (p.length + k) * 2 + 1 by omega, this]
  congr 3
  rw [List.getD_eq_getElem?_getD, List.getElem?_append_right (by omega), show p.length + k - p.length = k by omega, ← List.getD_eq_getElem?_getD]
theorem seen_c (m : Mc) (G : Gh) (k : ByteArray) (hm : m.memo.length ≤ 1048576) : CallsA E.P 105 [.l (.ptr 0 0 0), S k] (mOb G m) fun r ob => r = I (idxM m.memo k) ∧ ob = mOb G m := by
  refine CallsA.body (E := E) (fn := Tryd.f105) Tryd.func105 rfl fun B hB => ?_
  simp only [Tryd.ntmps105, go_sem, nl, Nat.reduceSub, Nat.reduceAdd, List.reduceReplicate]
  refine Wp.seqK fun K1 hK1 => ?_
  refine rg ?_
  refine hK1 _ ?_
  clear hK1 K1
  refine Wp.seqK fun K2 hK2 => ?_
  refine rg ?_
  refine ⟨by first | rfl | decide, CallK.use (Q := fun r ob => r = I (idxM m.memo k) ∧ ob = [some ⟨0, [ct k]⟩]) [4] [(3, G.gm, encS (G.pm ++ m.memo))] ⟨by simp, by simp, by simp, ?_⟩ ?_ (fun r ob1 ⟨e1, e2⟩ => ?_)⟩
  · intro p hp
    simp only [List.mem_singleton] at hp
    subst hp
    exact ⟨_, rfl, rfl, false, (lS_encS _ false).symm⟩
  · have h1 : lk [(3, G.gm, encS (G.pm ++ m.memo))] 3 G.gm = some (encS (G.pm ++ m.memo)) := by simp [lk]
    simp only [List.map_cons, List.map_nil, AV.toC, LV.toC, h1, encM_mid]
    exact idxFn_c _ _ (by omega)
  subst e1; subst e2
  refine ⟨by simp, .inr ⟨rfl, rfl⟩, ?_⟩
  rw [obB_one (k := 4) (g := 0) (cs := [ct k]) (by simp) rfl]
  refine evd ?_
  refine hK2 _ ?_
  clear hK2 K2
  refine Wp.ret (retE (m := 4) (Q := fun r ob => r = I (idxM m.memo k) ∧ ob = mOb G m) (x' := I (idxM m.memo k)) (ob' := mOb G m) ⟨rfl, rfl⟩ ?_ (hi := mOb_shut _ _))
  rfl
theorem key_j (n : Int) (o : ByteArray) (hn : 0 ≤ n ∧ n ≤ 12) (ho : o.size ≤ 1048576) : Val E.P 25 [.agg (tb n o)] (S (keyB n o)) := by
  have := key_c n.toNat o (by omega) ho
  rwa [Int.toNat_of_nonneg hn.1] at this
theorem down_c (m : Mc) (G : Gh) (hR : RightM m) (hk : m.looks < 1000000000) (hk2 : m.hits < 1000000000) : CallsA E.P 87 [.l (.ptr 0 0 0)] (mOb G m) (QM (downM m) (.tup [])) := by
  refine CallsA.body (E := E) (fn := Tryd.f87) Tryd.func87 rfl fun B hB => ?_
  simp only [Tryd.ntmps87, go_sem, nl, Nat.reduceSub, Nat.reduceAdd, List.reduceReplicate]
  have hnn := hR.n
  have hvl := hR.vals
  have hml := hR.memo
  have hrm := hR.room
  have hrw := hR.row
  have hrt := hR.ret
  have h12 : m.vals.length ≤ 12 := by omega
  have h40 : m.memo.length ≤ 40 := by omega
  have htl := right_left hR
  have hls : (leftM m).size ≤ 4096 := by
    rw [htl.1]
    exact Nat.pow_le_pow_right (n := 2) (by decide) (show m.n.toNat - m.vals.length ≤ 12 by omega)
  have hfi := idx_find (l := m.memo) (k := keyM m) (mem_iff.1 hR.mem).1
  have hst := hR.steps
  have hlo := hR.looks
  have hhi := hR.hits
  refine Wp.seqU (α := Unit) (fun u_ => [.k, .d, .v (.l (.ptr 4 0 0)), .d5, .d5, .d5, .d5, .d5, .d5, .d5, .d5, .d5, .d5, .d5, .d, .d, .d, .d]) (fun u_ => mOb G m ++ [some ⟨0, tb (m.n - m.vals.length) (leftM m)⟩]) (fun u_ => True) (fun K1 hK1 => ?_) ?_
  · refine Wp.drawS [0, 1, 2, 3] [8, 9, 10] (.one 0 (.one 1 (.one 2 (.one 3 (.one 4 (.one 5 (.one 6 (.one 7 (.two 8 9 (.one 9 (.one 10 .done)) (.one 8 (.one 10 .done))))))))))) rfl (by kernel_rfl) ?_
    simp only [flg, strip_mk]
    refine tG_one fun Kt0_1 ht0_1 => ?_
    refine evd ?_
    refine ht0_1 _ ?_
    clear ht0_1 Kt0_1
    refine tG_one fun Kt0_2 ht0_2 => ?_
    refine evd ?_
    refine ht0_2 _ ?_
    clear ht0_2 Kt0_2
    refine tG_one fun Kt0_3 ht0_3 => ?_
    refine evd ?_
    refine ht0_3 _ ?_
    clear ht0_3 Kt0_3
    refine tG_one fun Kt0_4 ht0_4 => ?_
    refine evd ?_
    refine ht0_4 _ ?_
    clear ht0_4 Kt0_4
    refine tG_one fun Kt0_5 ht0_5 => ?_
    refine evd ?_
    refine ht0_5 _ ?_
    clear ht0_5 Kt0_5
    refine tG_one fun Kt0_6 ht0_6 => ?_
    refine evd ?_
    refine ht0_6 _ ?_
    clear ht0_6 Kt0_6
    refine tG_one fun Kt0_7 ht0_7 => ?_
    refine evd ?_
    refine ht0_7 _ ?_
    clear ht0_7 Kt0_7
    refine tG_one fun Kt0_8 ht0_8 => ?_
    refine evd ?_
    refine ht0_8 _ ?_
    clear ht0_8 Kt0_8
    refine tG_two (fun Kt0_9 ht0_9 => ?_) (fun Kt0_9 ht0_9 => ?_)
    · refine evd ?_
      refine ⟨rfl, CallK.val [(2, G.gv, encI (m.vals ++ G.jv))] (LendOk.cons false _ rfl rfl (lI_encI _ false).symm LendOk.nil) (by rw [argsLeft]; exact leftOf_c _ _ _ hR.tab (by omega) hR.va (by omega)) rfl ?_⟩
      refine evd ?_
      refine ht0_9 _ ?_
      clear ht0_9 Kt0_9
      refine tG_one fun Kt0_10 ht0_10 => ?_
      refine evd ?_
      refine ht0_10 _ ?_
      clear ht0_10 Kt0_10
      refine tG_one fun Kt0_11 ht0_11 => ?_
      refine evd ?_
      refine ht0_11 _ ?_
      clear ht0_11 Kt0_11
      refine tG_done ?_
      exact hK1 () _ trivial (anyS)
    · refine evd ?_
      refine ht0_9 _ ?_
      clear ht0_9 Kt0_9
      refine tG_one fun Kt0_12 ht0_12 => ?_
      refine evd ?_
      refine ⟨rfl, CallK.val [(2, G.gv, encI (m.vals ++ G.jv))] (LendOk.cons false _ rfl rfl (lI_encI _ false).symm LendOk.nil) (by rw [argsLeft]; exact leftOf_c _ _ _ hR.tab (by omega) hR.va (by omega)) rfl ?_⟩
      refine evd ?_
      refine ht0_12 _ ?_
      clear ht0_12 Kt0_12
      refine tG_one fun Kt0_13 ht0_13 => ?_
      refine evd ?_
      refine ht0_13 _ ?_
      clear ht0_13 Kt0_13
      refine tG_done ?_
      exact hK1 () _ trivial (anyS)
  rintro _ f1 _
  simp only [updT_k, updT_d, updT_d5, updT_v, updT_nil, Nat.reduceAdd]
  simp only [mOb, mRw, mCl, mCells, tb, List.cons_append, List.nil_append]
  refine Wp.seqK fun K2 hK2 => ?_
  refine Wp.seqK fun K3 hK3 => ?_
  refine rg ?_
  refine ⟨rfl, CallK.valA (h := known_c _ _) (k := ?_)⟩
  refine evd ?_
  refine hK3 _ ?_
  clear hK3 K3
  refine Wp.seqK fun K4 hK4 => ?_
  refine rg ?_
  refine hK4 _ ?_
  clear hK4 K4
  refine Wp.condS (fun h17 => ?_) (fun h17 => ?_)
  · have hd : downM m = { m with ret := knownB (leftM m), looks := m.looks + 1 } := if_pos h17
    refine Wp.seqK fun K5 hK5 => ?_
    refine rg ?_
    refine hK5 _ ?_
    clear hK5 K5
    refine Wp.seqK fun K6 hK6 => ?_
    refine rg ?_
    refine hK6 _ ?_
    clear hK6 K6
    refine Wp.ret (retE (m := 4) (Q := QM (downM m) (.tup [])) (x' := .tup []) (ob' := mOb G ({ m with ret := knownB (leftM m), looks := m.looks + 1 })) ⟨G, rfl, by rw [hd]⟩ ?_ (hi := mOb_shut _ _))
    rfl
  · have hd0 : ¬ 0 ≤ knownB (leftM m) := by omega
    refine Wp.skip ?_
    refine hK2 _ ?_
    clear hK2 K2
    refine Wp.seqK fun K7 hK7 => ?_
    refine Wp.seqK fun K8 hK8 => ?_
    refine rg ?_
    refine ⟨rfl, CallK.valA (h := key_j _ _ (by omega) (by omega)) (k := ?_)⟩
    refine evd ?_
    refine ⟨by first | rfl | decide, CallK.handE 4 (seen_c m G (keyM m) (by omega)) (fun r ob1 ⟨e1, e2⟩ => ⟨mOb G m, [], by rw [e2, List.append_nil], rfl, mOb_shut _ _, ?_⟩) (hs := mOb_shut _ _)⟩
    subst e1
    refine evd ?_
    refine hK8 _ ?_
    clear hK8 K8
    refine Wp.seqK fun K9 hK9 => ?_
    refine rg ?_
    refine hK9 _ ?_
    clear hK9 K9
    refine Wp.condS (fun h34 => ?_) (fun h34 => ?_)
    · have hd : downM m = { m with ret := findM m.memo (keyM m), hits := m.hits + 1 } := by unfold downM; rw [if_neg hd0, if_pos (hfi.1.1 (by omega))]
      refine Wp.seqK fun K10 hK10 => ?_
      refine rg ?_
      rw [memoAt (by omega), (hfi.2.2.2 (by omega)).2]
      refine evd ?_
      refine hK10 _ ?_
      clear hK10 K10
      refine Wp.seqK fun K11 hK11 => ?_
      refine rg ?_
      refine hK11 _ ?_
      clear hK11 K11
      refine Wp.ret (retE (m := 4) (Q := QM (downM m) (.tup [])) (x' := .tup []) (ob' := mOb G ({ m with ret := findM m.memo (keyM m), hits := m.hits + 1 })) ⟨G, rfl, by rw [hd]⟩ ?_ (hi := mOb_shut _ _))
      rfl
    · have hd : downM m = { m with vals := m.vals ++ [0] } := by unfold downM; rw [if_neg hd0, if_neg (fun e => by have := hfi.1.2 e; omega)]
      refine Wp.skip ?_
      refine hK7 _ ?_
      clear hK7 K7
      refine rg ?_
      rw [takeV]
      refine (retE (m := 4) (Q := QM (downM m) (.tup [])) (x' := .tup []) (ob' := mOb { G with gv := G.gv + 1, jv := [] } ({ m with vals := m.vals ++ [0] })) ⟨{ G with gv := G.gv + 1, jv := [] }, rfl, by rw [hd]⟩ ?_ (hi := mOb_shut _ _))
      simp only [mOb, mRw, mCl, mCells, List.append_nil, List.nil_append, List.length_append, List.length_cons, List.length_nil, Nat.zero_add]
      rfl

theorem getD_app {l j : List Int} {k : Nat} (h : k < l.length) : (l ++ j).getD k 0 = l.getD k 0 := by
  rw [List.getD_eq_getElem?_getD, List.getElem?_append_left h, ← List.getD_eq_getElem?_getD]
theorem pop_right {m : Mc} (h : RightM m) (hl : ¬ m.vals.length = 0) : RightM { m with vals := m.vals.take (m.vals.length - 1) } := by
  have hv := h.vals
  refine { h with vals := ?_, va := all_take h.va, over := fun e => absurd (h.over e).2 hl }
  show ((m.vals.take (m.vals.length - 1)).length : Int) ≤ m.n
  rw [List.length_take]; omega
theorem setV {l j : List Int} {k : Nat} (h : l.length = k + 1) (v : Int) : (l ++ j).set k v = l.take k ++ [v] ++ j := by
  rw [List.set_append_left _ _ (by omega), List.set_eq_take_append_cons_drop, if_pos (by omega), List.drop_of_length_le (by omega)]
theorem up_c (m : Mc) (G : Gh) (hR : RightM m) : CallsA E.P 88 [.l (.ptr 0 0 0)] (mOb G m) (QM (upM m) (.tup [])) := by
  refine CallsA.body (E := E) (fn := Tryd.f88) Tryd.func88 rfl fun B hB => ?_
  simp only [Tryd.ntmps88, go_sem, nl, Nat.reduceSub, Nat.reduceAdd, List.reduceReplicate]
  have hnn := hR.n
  have hvl := hR.vals
  have hml := hR.memo
  have hrm := hR.room
  have hrw := hR.row
  have hrt := hR.ret
  have h12 : m.vals.length ≤ 12 := by omega
  have h40 : m.memo.length ≤ 40 := by omega
  have htl := right_left hR
  have hls : (leftM m).size ≤ 4096 := by
    rw [htl.1]
    exact Nat.pow_le_pow_right (n := 2) (by decide) (show m.n.toNat - m.vals.length ≤ 12 by omega)
  have hfi := idx_find (l := m.memo) (k := keyM m) (mem_iff.1 hR.mem).1
  have hst := hR.steps
  have hlo := hR.looks
  have hhi := hR.hits
  refine Wp.seqK fun K1 hK1 => ?_
  refine rg ?_
  refine hK1 _ ?_
  clear hK1 K1
  refine Wp.seqK fun K2 hK2 => ?_
  refine Wp.seqK fun K3 hK3 => ?_
  refine rg ?_
  refine hK3 _ ?_
  clear hK3 K3
  refine Wp.condS (fun h11 => ?_) (fun h11 => ?_)
  · have hl : m.vals.length = 0 := by omega
    have hd : upM m = { m with over := true } := if_pos hl
    refine Wp.seqK fun K4 hK4 => ?_
    refine rg ?_
    refine hK4 _ ?_
    clear hK4 K4
    refine Wp.ret (retE (m := 4) (Q := QM (upM m) (.tup [])) (x' := .tup []) (ob' := mOb G ({ m with over := true })) ⟨G, rfl, by rw [hd]⟩ ?_ (hi := mOb_shut _ _))
    rfl
  · have hl : ¬ m.vals.length = 0 := by omega
    have hkn : ((m.vals.length : Int) - 1).toNat = m.vals.length - 1 := by omega
    refine Wp.skip ?_
    refine hK2 _ ?_
    clear hK2 K2
    refine Wp.seqK fun K5 hK5 => ?_
    refine Wp.seqU0 [.k, .d, .k, .d5, .d5, .d5, .d5, .d5, .d5, .d, .d, .d, .d, .v (T (decide ((m.row.getD (m.vals.length - 1) false ≠ decide (m.ret = 0)) ∧ m.vals.getD (m.vals.length - 1) 0 = 0))), .d5, .d5, .d5, .d5, .d5, .d5, .d5, .d5, .d5, .d5, .d5, .d5, .d5, .d5] (fun K6 hK6 => ?_) ?_
    · refine Wp.drawI [0, 1, 2, 3, 4, 5, 6, 7] [] (by kernel_rfl) ?_
      refine evd ?_
      refine grdA_split rfl (fun g3_14 => ?_) (fun g3_14 => ?_)
      · try simp only [ne_eq] at g3_14
        try refine evd ?_
        have hP : m.row.getD (m.vals.length - 1) false ≠ decide (m.ret = 0) := by rw [← hkn]; simpa using g3_14
        have e : decide ((m.row.getD (m.vals.length - 1) false ≠ decide (m.ret = 0)) ∧ m.vals.getD (m.vals.length - 1) 0 = 0) = decide ((m.vals ++ G.jv).getD ((m.vals.length : Int) - 1).toNat 0 = 0) := by
          rw [hkn, getD_app (by omega), decide_eq_decide]
          exact ⟨fun h => h.2, fun h => ⟨hP, h⟩⟩
        exact hK6 _ (anyS (h := by rw [e]; rfl))
      · try simp only [ne_eq] at g3_14
        try refine evd ?_
        have hP : ¬ m.row.getD (m.vals.length - 1) false ≠ decide (m.ret = 0) := by rw [← hkn]; simpa using g3_14
        have e : decide ((m.row.getD (m.vals.length - 1) false ≠ decide (m.ret = 0)) ∧ m.vals.getD (m.vals.length - 1) 0 = 0) = false := decide_eq_false fun h => hP h.1
        exact hK6 _ (anyS (h := by rw [e]; rfl))
    rintro f6
    simp only [updT_k, updT_d, updT_d5, updT_v, updT_nil, Nat.reduceAdd]
    refine Wp.condS (fun h37 => ?_) (fun h37 => ?_)
    · have hd : upM m = { m with vals := m.vals.take (m.vals.length - 1) ++ [1], ret := -1 } := by unfold upM; rw [if_neg hl, if_pos h37]
      refine Wp.seqK fun K7 hK7 => ?_
      refine rg ?_
      rw [hkn, setV (show m.vals.length = m.vals.length - 1 + 1 by omega)]
      refine hK7 _ ?_
      clear hK7 K7
      refine Wp.seqK fun K8 hK8 => ?_
      refine rg ?_
      refine hK8 _ ?_
      clear hK8 K8
      refine Wp.ret (retE (m := 4) (Q := QM (upM m) (.tup [])) (x' := .tup []) (ob' := mOb G ({ m with vals := m.vals.take (m.vals.length - 1) ++ [1], ret := -1 })) ⟨G, rfl, by rw [hd]⟩ ?_ (hi := mOb_shut _ _))
      have e2 : m.vals.length = (m.vals.take (m.vals.length - 1) ++ [1]).length := by simp; omega
      simp only [mOb, mRw, mCl, mCells, ← e2, List.append_assoc, List.cons_append, List.nil_append]
      rfl
    · refine Wp.skip ?_
      refine hK5 _ ?_
      clear hK5 K5
      refine Wp.seqU (α := Mc × Gh) (fun x => [.k, .d5, .d5, .d5, .d5, .d5, .d5, .d5, .d5, .d5, .d5, .d5, .d5, .d5, .d5, .d5, .d5, .d5, .d5, .d5, .d5, .d5, .d, .d]) (fun x => mOb x.2 x.1) (fun x => x.1 = { m with vals := m.vals.take (m.vals.length - 1) } ∧ x.2 = { G with jv := m.vals.drop (m.vals.length - 1) ++ G.jv }) (fun K9 hK9 => ?_) ?_
      · refine rg ?_
        refine hK9 ({ m with vals := m.vals.take (m.vals.length - 1) }, { G with jv := m.vals.drop (m.vals.length - 1) ++ G.jv }) _ ⟨rfl, rfl⟩ (anyS (ho := ?_))
        have e1 : m.vals ++ G.jv = m.vals.take (m.vals.length - 1) ++ (m.vals.drop (m.vals.length - 1) ++ G.jv) := by rw [← List.append_assoc, List.take_append_drop]
        have e2 : ((m.vals.length : Int) - 1 - 0).toNat = (m.vals.take (m.vals.length - 1)).length := by rw [List.length_take]; omega
        rw [e1, e2]; rfl
      rintro ⟨m2, G2⟩ f9 ⟨hm2, hG2⟩
      simp only [updT_k, updT_d, updT_d5, updT_v, updT_nil, Nat.reduceAdd]
      dsimp only at hm2 hG2 ⊢
      simp only [mOb, mRw, mCl, mCells, tb, List.cons_append, List.nil_append]
      have hR2 : RightM m2 := by rw [hm2]; exact pop_right hR hl
      have hnn := hR2.n
      have hvl := hR2.vals
      have hml := hR2.memo
      have hrm := hR2.room
      have htl := right_left hR2
      have hls : (leftM m2).size ≤ 4096 := by
        rw [htl.1]
        exact Nat.pow_le_pow_right (n := 2) (by decide) (show m2.n.toNat - m2.vals.length ≤ 12 by omega)
      have hls2 : (leftB m2.ones m2.vals).size ≤ 4096 := hls
      have hfi := idx_find (l := m2.memo) (k := keyM m2) (mem_iff.1 hR2.mem).1
      have hu : upM m = storeM m2 := by unfold upM; rw [if_neg hl, if_neg h37, hm2]
      refine Wp.seqK fun K10 hK10 => ?_
      refine Wp.seqK fun K11 hK11 => ?_
      refine rg ?_
      refine hK11 _ ?_
      clear hK11 K11
      refine Wp.condS (fun h60 => ?_) (fun h60 => ?_)
      · have hd : upM m = m2 := by rw [hu]; exact if_neg (fun h => by omega)
        refine Wp.ret (retE (m := 4) (Q := QM (upM m) (.tup [])) (x' := .tup []) (ob' := mOb G2 (m2)) ⟨G2, rfl, by rw [hd]⟩ ?_ (hi := mOb_shut _ _))
        rfl
      · refine Wp.skip ?_
        refine hK10 _ ?_
        clear hK10 K10
        refine Wp.seqK fun K12 hK12 => ?_
        refine Wp.drawI [0, 1, 2, 3, 4, 5, 6, 7] [8, 9] (by kernel_rfl) ?_
        refine evd ?_
        refine ⟨rfl, CallK.val [(2, G2.gv, encI (m2.vals ++ G2.jv))] (LendOk.cons false _ rfl rfl (lI_encI _ false).symm LendOk.nil) (by rw [argsLeft]; exact leftOf_c _ _ _ hR2.tab (by omega) hR2.va (by omega)) rfl ?_⟩
        refine evd ?_
        refine ⟨rfl, CallK.valA (h := key_j _ _ (by omega) (by omega)) (k := ?_)⟩
        refine evd ?_
        refine hK12 _ ?_
        clear hK12 K12
        refine Wp.seqK fun K13 hK13 => ?_
        refine Wp.seqK fun K14 hK14 => ?_
        refine rg ?_
        refine ⟨by first | rfl | decide, CallK.handE 4 (seen_c m2 G2 (keyM m2) (by omega)) (fun r ob1 ⟨e1, e2⟩ => ⟨mOb G2 m2, [], by rw [e2, List.append_nil], rfl, mOb_shut _ _, ?_⟩) (hs := mOb_shut _ _)⟩
        subst e1
        refine evd ?_
        refine hK14 _ ?_
        clear hK14 K14
        refine Wp.condS (fun h74 => ?_) (fun h74 => ?_)
        · have hd : upM m = m2 := by rw [hu]; exact if_neg (fun h => by have := hfi.1.1 (by omega); omega)
          refine Wp.ret (retE (m := 4) (Q := QM (upM m) (.tup [])) (x' := .tup []) (ob' := mOb G2 (m2)) ⟨G2, rfl, by rw [hd]⟩ ?_ (hi := mOb_shut _ _))
          rfl
        · have hst : upM m = { m2 with memo := pushM m2 } := by rw [hu]; exact if_pos ⟨by omega, by have := hfi.1; omega⟩
          refine Wp.skip ?_
          refine hK13 _ ?_
          clear hK13 K13
          refine Wp.seqK fun K15 hK15 => ?_
          refine Wp.drawS [0, 1, 2] [11, 12] (.one 0 (.one 1 (.one 2 (.one 3 (.one 4 (.one 5 (.one 6 (.one 7 (.one 8 (.one 9 (.one 10 (.one 11 (.one 12 (.one 13 (.one 14 (.one 15 .done)))))))))))))))) rfl (by kernel_rfl) ?_
          simp only [flg, strip_mk]
          refine tG_one fun Kt10_1 ht10_1 => ?_
          refine evd ?_
          refine ht10_1 _ ?_
          clear ht10_1 Kt10_1
          refine tG_one fun Kt10_2 ht10_2 => ?_
          refine evd ?_
          refine ht10_2 _ ?_
          clear ht10_2 Kt10_2
          refine tG_one fun Kt10_3 ht10_3 => ?_
          refine evd ?_
          refine ht10_3 _ ?_
          clear ht10_3 Kt10_3
          refine tG_one fun Kt10_4 ht10_4 => ?_
          refine evd ?_
          refine ht10_4 _ ?_
          clear ht10_4 Kt10_4
          refine tG_one fun Kt10_5 ht10_5 => ?_
          refine evd ?_
          refine ht10_5 _ ?_
          clear ht10_5 Kt10_5
          refine tG_one fun Kt10_6 ht10_6 => ?_
          refine evd ?_
          refine ht10_6 _ ?_
          clear ht10_6 Kt10_6
          refine tG_one fun Kt10_7 ht10_7 => ?_
          refine evd ?_
          refine ht10_7 _ ?_
          clear ht10_7 Kt10_7
          refine tG_one fun Kt10_8 ht10_8 => ?_
          refine evd ?_
          refine ht10_8 _ ?_
          clear ht10_8 Kt10_8
          refine tG_one fun Kt10_9 ht10_9 => ?_
          refine evd ?_
          refine ht10_9 _ ?_
          clear ht10_9 Kt10_9
          refine tG_one fun Kt10_10 ht10_10 => ?_
          refine evd ?_
          refine ht10_10 _ ?_
          clear ht10_10 Kt10_10
          refine tG_one fun Kt10_11 ht10_11 => ?_
          refine evd ?_
          refine ht10_11 _ ?_
          clear ht10_11 Kt10_11
          refine tG_one fun Kt10_12 ht10_12 => ?_
          refine evd ?_
          refine ht10_12 _ ?_
          clear ht10_12 Kt10_12
          refine tG_one fun Kt10_13 ht10_13 => ?_
          refine evd ?_
          rw [takeM']
          refine ht10_13 _ ?_
          clear ht10_13 Kt10_13
          refine tG_one fun Kt10_14 ht10_14 => ?_
          refine evd ?_
          refine ht10_14 _ ?_
          clear ht10_14 Kt10_14
          refine tG_one fun Kt10_15 ht10_15 => ?_
          refine evd ?_
          refine ht10_15 _ ?_
          clear ht10_15 Kt10_15
          refine tG_one fun Kt10_16 ht10_16 => ?_
          refine evd ?_
          refine ht10_16 _ ?_
          clear ht10_16 Kt10_16
          refine tG_done ?_
          refine hK15 _ ?_
          clear hK15 K15
          refine Wp.seqK fun K16 hK16 => ?_
          refine Wp.drawI [0, 1, 2, 3, 4, 5, 6, 7] [] (by kernel_rfl) ?_
          refine evd ?_
          refine hK16 _ ?_
          clear hK16 K16
          refine Wp.condS (fun h99 => ?_) (fun h99 => ?_)
          · have hd : upM m = { m2 with memo := (m2.memo ++ [(⟨keyM m2, m2.ret⟩ : Sn)]).drop 1 } := by rw [hst]; unfold pushM; rw [if_pos (by omega)]
            refine rg ?_
            refine (retE (m := 4) (Q := QM (upM m) (.tup [])) (x' := .tup []) (ob' := mOb { G2 with gm := G2.gm + 1, pm := (m2.memo ++ [(⟨keyM m2, m2.ret⟩ : Sn)]).take 1 } ({ m2 with memo := (m2.memo ++ [(⟨keyM m2, m2.ret⟩ : Sn)]).drop 1 })) ⟨{ G2 with gm := G2.gm + 1, pm := (m2.memo ++ [(⟨keyM m2, m2.ret⟩ : Sn)]).take 1 }, rfl, by rw [hd]⟩ ?_ (hi := mOb_shut _ _))
            have l1 : ((m2.memo ++ [(⟨keyM m2, m2.ret⟩ : Sn)]).take 1).length = 1 := by simp
            have l2 : ((m2.memo ++ [(⟨keyM m2, m2.ret⟩ : Sn)]).drop 1).length = m2.memo.length := by simp
            have l3 : (((m2.memo.length + 1 : Nat) : Int) - 1).toNat = m2.memo.length := by omega
            simp only [mOb, mRw, mCl, mCells, List.take_append_drop, l1, l2, l3]
            rfl
          · have hd : upM m = { m2 with memo := (m2.memo ++ [(⟨keyM m2, m2.ret⟩ : Sn)]) } := by rw [hst]; unfold pushM; rw [if_neg (by omega)]
            refine Wp.skip ?_
            refine (retE (m := 4) (Q := QM (upM m) (.tup [])) (x' := .tup []) (ob' := mOb { G2 with gm := G2.gm + 1, pm := [] } ({ m2 with memo := (m2.memo ++ [(⟨keyM m2, m2.ret⟩ : Sn)]) })) ⟨{ G2 with gm := G2.gm + 1, pm := [] }, rfl, by rw [hd]⟩ ?_ (hi := mOb_shut _ _))
            simp only [mOb, mRw, mCl, mCells, List.append_nil, List.nil_append, List.length_append, List.length_cons, List.length_nil, Nat.zero_add]
            rfl
end Go.Proofs.YtbhlegobhidgkaaDoor.RE
/-! A machine runs, the program. Conditions: those that a theorem names. -/
set_option linter.unusedVariables false
set_option linter.unusedSimpArgs false
namespace Go.Proofs.YtbhlegobhidgkaaDoor.RE
open Go Go.RowKit
set_option maxRecDepth 100000
set_option maxHeartbeats 8000000

def keepX (n : Nat) (ob : Obs) (g o : Nat) : Nat → List Nat → Option (Nat × Nat)
  | _, [] => none
  | i, q :: π => if o = q then (match ob.getD q none with
    | some x => if x.g = g then some (n + i, 0) else none
    | none => none) else keepX n ob g o (i + 1) π
theorem keepX_nil {n : Nat} {ob : Obs} {g o i : Nat} : keepX n ob g o i [] = none := rfl
theorem keepX_cons {n : Nat} {ob : Obs} {g o i q : Nat} {π : List Nat} : keepX n ob g o i (q :: π) = if o = q then (match ob.getD q none with
    | some x => if x.g = g then some (n + i, 0) else none
    | none => none) else keepX n ob g o (i + 1) π := rfl
theorem keepX_eq {n : Nat} {ob : Obs} {g o : Nat} : ∀ (π : List Nat) (k : Nat), keepX n ob g o k π = (match π.idxOf? o, ob.getD o none with
    | some i, some x => if x.g = g then some (n + (k + i), 0) else none
    | _, _ => none)
  | [], k => by simp [keepX]
  | q :: π, k => by
    rw [keepX_cons]
    by_cases h : o = q
    · subst h
      rw [if_pos rfl]
      simp only [List.idxOf?, List.findIdx?_cons, beq_self_eq_true, if_true]
      cases ob.getD o none <;> rfl
    · rw [if_neg h, keepX_eq π (k + 1)]
      have e : (q :: π).idxOf? o = (π.idxOf? o).map (· + 1) := by
        simp only [List.idxOf?, List.findIdx?_cons]
        rw [if_neg (by simpa using fun e => h e.symm)]
      rw [e]
      cases π.idxOf? o with
      | none => rfl
      | some i =>
        simp only [Option.map_some]
        cases ob.getD o none with
        | none => rfl
        | some x => simp only [show k + 1 + i = k + (i + 1) by omega]
theorem keepM_l {n : Nat} {π : List Nat} {ob : Obs} {o g : Nat} : keepM n π ob o g = if o < n then some (o, g) else keepX n ob g o 0 π := by
  unfold keepM
  split
  · rfl
  · rw [keepX_eq]
    simp only [Nat.zero_add]
    cases π.idxOf? o <;> cases ob.getD o none <;> rfl
attribute [go_sem] keepM_l keepX_cons keepX_nil
/-- A machine in rows of one's own is lent. -/
theorem argG {ob : Obs} {L : Lend} {a b c : Nat} {G : Gh} {m : Mc} (e1 : ob.getD a none = some ⟨G.gr, m.row.map cb⟩) (e2 : ob.getD b none = some ⟨G.gv, (m.vals ++ G.jv).map ci⟩) (e3 : ob.getD c none = some ⟨G.gm, lS (G.pm ++ m.memo)⟩)
    (l1 : lk L a G.gr = some (encB m.row)) (l2 : lk L b G.gv = some (encI (m.vals ++ G.jv))) (l3 : lk L c G.gm = some (encS (G.pm ++ m.memo))) :
    ArgsL ob L [.agg (mCl a b c G m)] [.agg (mD m)] [(a, G.gr, encB m.row), (b, G.gv, encI (m.vals ++ G.jv)), (c, G.gm, encS (G.pm ++ m.memo))] := by
  refine .agg .nil ?_
  unfold mCl mD mCells
  refine .row e1 (lB_encB _ false).symm (by rw [List.drop_zero, Nat.mul_one, List.take_of_length_le (by rw [encB_len]; exact Nat.le_refl _)]) l1 ?_
  refine .same rfl (.same rfl (.same rfl ?_))
  refine .row e2 (lI_encI _ false).symm (by rw [List.drop_zero, Nat.mul_one, encV_take]) l2 ?_
  refine .same rfl (.same rfl (.same rfl (.same rfl (.same rfl ?_))))
  refine .row e3 (lS_encS _ false).symm (by rw [encM_mid]) l3 ?_
  exact .nil
theorem tick_right {m : Mc} (h : RightM m) (hs : stuckM m = false) : RightM (tickM m) := by
  obtain ⟨h1, h2, h3, h4⟩ := stuck_no (m := m) (by rw [hs]; simp)
  have b1 := h.steps
  exact { h with steps := ⟨by show 0 ≤ m.steps + 1; omega, by show m.steps + 1 ≤ _; omega⟩ }
theorem step_c (m : Mc) (G : Gh) (hR : RightM m) : CallsA E.P 46 [.l (.ptr 0 0 0)] (mOb G m) (QM (stepM m) (T (!stuckM m))) := by
  refine CallsA.body (E := E) (fn := Tryd.f46) Tryd.func46 rfl fun B hB => ?_
  simp only [Tryd.ntmps46, go_sem, nl, Nat.reduceSub, Nat.reduceAdd, List.reduceReplicate]
  have hst := hR.steps
  have hlo := hR.looks
  have hhi := hR.hits
  refine Wp.seqK fun K1 hK1 => ?_
  refine rg ?_
  refine hK1 _ ?_
  clear hK1 K1
  refine Wp.seqK fun K2 hK2 => ?_
  refine Wp.seqU0 [.k, .d5, .d5, .d5, .d5, .d5, .d, .v (T (stuckM m)), .d5, .d5, .d5, .d] (fun K3 hK3 => ?_) ?_
  · refine rg ?_
    refine grdA_split rfl (fun g1_5 => ?_) (fun g1_5 => ?_)
    · try simp only [decide_eq_true_eq, decide_eq_false_iff_not] at g1_5
      try refine evd ?_
      have e : stuckM m = true := by unfold stuckM; simp [g1_5]
      exact hK3 _ (anyS (h := by rw [e]; rfl))
    · try simp only [decide_eq_true_eq, decide_eq_false_iff_not] at g1_5
      try refine evd ?_
      refine grdA_split rfl (fun g1_12 => ?_) (fun g1_12 => ?_)
      · try simp only [decide_eq_true_eq, decide_eq_false_iff_not] at g1_12
        try refine evd ?_
        have e : stuckM m = true := by unfold stuckM; simp [g1_12]
        exact hK3 _ (anyS (h := by rw [e]; rfl))
      · try simp only [decide_eq_true_eq, decide_eq_false_iff_not] at g1_12
        try refine evd ?_
        refine grdA_split rfl (fun g1_19 => ?_) (fun g1_19 => ?_)
        · try simp only [decide_eq_true_eq, decide_eq_false_iff_not] at g1_19
          try refine evd ?_
          have e : stuckM m = true := by unfold stuckM; simp [g1_19]
          exact hK3 _ (anyS (h := by rw [e]; rfl))
        · try simp only [decide_eq_true_eq, decide_eq_false_iff_not] at g1_19
          try refine evd ?_
          have e : stuckM m = decide (m.hits = 1000000000) := by unfold stuckM; simp [g1_5, g1_12, g1_19]
          exact hK3 _ (anyS (h := by rw [e]; rfl))
  rintro f3
  simp only [updT_k, updT_d, updT_d5, updT_v, updT_nil, Nat.reduceAdd]
  refine Wp.condS (fun h27 => ?_) (fun h27 => ?_)
  · have hd : stepM m = m := if_pos h27
    refine Wp.seqK fun K4 hK4 => ?_
    refine rg ?_
    refine hK4 _ ?_
    clear hK4 K4
    refine Wp.ret (retE (m := 4) (Q := QM (stepM m) (T (!stuckM m))) (x' := T false) (ob' := mOb G m) ⟨G, by rw [h27]; rfl, by rw [hd]⟩ ?_ (hi := mOb_shut _ _))
    rfl
  · have hns := stuck_no (m := m) (by rw [h27]; simp)
    have hRt := tick_right hR h27
    have hns2 : ¬ stuckM m = true := by rw [h27]; simp
    refine Wp.skip ?_
    refine hK2 _ ?_
    clear hK2 K2
    refine Wp.seqK fun K5 hK5 => ?_
    refine rg ?_
    refine hK5 _ ?_
    clear hK5 K5
    refine Wp.seqU (α := Gh) (fun x => [.d5, .d5, .d5, .d5, .d5, .d5, .d5, .d5, .d, .d, .d, .d]) (fun x => mOb x (stepM m)) (fun x => True) (fun K6 hK6 => ?_) ?_
    · refine Wp.seqK fun K7 hK7 => ?_
      refine rg ?_
      refine hK7 _ ?_
      clear hK7 K7
      refine Wp.condS (fun h39 => ?_) (fun h39 => ?_)
      · have hd : stepM m = downM (tickM m) := by unfold stepM; rw [if_neg hns2, if_pos h39]
        refine rg ?_
        refine ⟨by first | rfl | decide, CallK.handE 4 (down_c (tickM m) G hRt (by show m.looks < _; omega) (by show m.hits < _; omega)) (fun r ob1 ⟨G2, e1, e2⟩ => ⟨mOb G2 (downM (tickM m)), [], by rw [e2, List.append_nil], rfl, mOb_shut _ _, ?_⟩) (hs := mOb_shut _ _)⟩
        subst e1
        refine evd ?_
        exact hK6 G2 _ trivial (anyS (ho := by rw [hd]; rfl))
      · have hd : stepM m = upM (tickM m) := by unfold stepM; rw [if_neg hns2, if_neg (by omega)]
        refine rg ?_
        refine ⟨by first | rfl | decide, CallK.handE 4 (up_c (tickM m) G hRt) (fun r ob1 ⟨G2, e1, e2⟩ => ⟨mOb G2 (upM (tickM m)), [], by rw [e2, List.append_nil], rfl, mOb_shut _ _, ?_⟩) (hs := mOb_shut _ _)⟩
        subst e1
        refine evd ?_
        exact hK6 G2 _ trivial (anyS (ho := by rw [hd]; rfl))
    rintro G3 f6 _
    simp only [updT_k, updT_d, updT_d5, updT_v, updT_nil, Nat.reduceAdd]
    refine Wp.seqK fun K8 hK8 => ?_
    refine rg ?_
    refine hK8 _ ?_
    clear hK8 K8
    refine Wp.ret (retE (m := 4) (Q := QM (stepM m) (T (!stuckM m))) (x' := T true) (ob' := mOb G3 (stepM m)) ⟨G3, by rw [h27]; rfl, rfl⟩ ?_ (hi := mOb_shut _ _))
    rfl

def okR (n : Int) (m : Mc) : Bool := inI n 0 100000 && mOk m
def runN (m : Mc) (n : Int) : Mc := if okR n m = true then runM n.toNat m else m
theorem runM_row : ∀ (n : Nat) (m : Mc), (runM n m).row = m.row ∧ (runM n m).n = m.n ∧ (runM n m).ones = m.ones ∧ (runM n m).room = m.room
  | 0, m => ⟨rfl, rfl, rfl, rfl⟩
  | n + 1, m => by
    have h := runM_row n (stepM m)
    have e : (stepM m).row = m.row ∧ (stepM m).n = m.n ∧ (stepM m).ones = m.ones ∧ (stepM m).room = m.room := by
      unfold stepM
      split
      · exact ⟨rfl, rfl, rfl, rfl⟩
      split
      · unfold downM
        split
        · exact ⟨rfl, rfl, rfl, rfl⟩
        · split <;> exact ⟨rfl, rfl, rfl, rfl⟩
      · unfold upM
        split
        · exact ⟨rfl, rfl, rfl, rfl⟩
        · split
          · exact ⟨rfl, rfl, rfl, rfl⟩
          · unfold storeM
            split <;> exact ⟨rfl, rfl, rfl, rfl⟩
    rw [runM, h.1, h.2.1, h.2.2.1, h.2.2.2]
    exact e
theorem right_fits {m : Mc} (h : RightM m) : m.row.length ≤ 1048576 ∧ m.vals.length ≤ 1048576 ∧ m.memo.length ≤ 1048576 := by
  have h1 := h.n
  have h2 := h.row
  have h3 := h.vals
  have h4 := h.memo
  have h5 := h.room
  omega
theorem run_end {m : Mc} {x k : Nat} (hx : x ≤ k) (hs : stuckM (runM x m) = true) : stepM (runM x m) = runM k m := by
  have e1 : stepM (runM x m) = runM x m := if_pos hs
  rw [e1, show k = x + (k - x) by omega, runM_add, runM_stuck hs]
theorem iRun_c (m : Mc) (n : Int) (hf : m.Fits) : Ret E.P 12 [.agg (mD m), I n] (.agg (mO 0 1 2 (runN m n))) (mR (runN m n)) := by
  refine CallsA.body (E := E) (fn := Tryd.f12) Tryd.func12 rfl fun B hB => ?_
  simp only [Tryd.ntmps12, go_sem, nl, Nat.reduceSub, Nat.reduceAdd, List.reduceReplicate]
  have h1 := hf.row
  have h2 := hf.vals
  have h3 := hf.memo
  refine Wp.seqK fun K1 hK1 => ?_
  refine rg ?_
  refine hK1 _ ?_
  clear hK1 K1
  refine Wp.seqK fun K2 hK2 => ?_
  refine rg ?_
  refine ⟨rfl, CallK.retA (h := iCopy_c m h1 h2 h3) (k := ?_) (hf := mR_flat _)⟩
  refine evd ?_
  refine hK2 _ ?_
  clear hK2 K2
  refine Wp.seqK fun K3 hK3 => ?_
  refine Wp.seqU0 [.d, .k, .d, .d, .k, .k, .d5, .d, .d, .d, .d, .v (T (!okR n m)), .d5, .d, .d, .d, .d] (fun K4 hK4 => ?_) ?_
  · refine rg ?_
    refine ⟨rfl, CallK.valA (h := within_c _ _ _) (k := ?_)⟩
    refine evd ?_
    refine grdA_split rfl (fun g2_4 => ?_) (fun g2_4 => ?_)
    · try simp only [decide_eq_true_eq, decide_eq_false_iff_not] at g2_4
      try refine evd ?_
      have e : okR n m = false := by unfold okR; rw [show inI n 0 100000 = false by unfold inI; revert g2_4; cases (decide (0 ≤ n) && decide (n ≤ 100000)) <;> simp]; rfl
      exact hK4 _ (anyS (h := by rw [e]; rfl))
    · try simp only [decide_eq_true_eq, decide_eq_false_iff_not] at g2_4
      try refine evd ?_
      refine ⟨rfl, CallK.valA (h := iMachineOk_c _ hf) (k := ?_)⟩
      refine evd ?_
      have e : okR n m = mOk m := by unfold okR; rw [show inI n 0 100000 = true by unfold inI; revert g2_4; cases (decide (0 ≤ n) && decide (n ≤ 100000)) <;> simp]; rfl
      exact hK4 _ (anyS (h := by rw [e]; rfl))
  rintro f4
  simp only [updT_k, updT_d, updT_d5, updT_v, updT_nil, Nat.reduceAdd]
  refine Wp.condS (fun h15 => ?_) (fun h15 => ?_)
  · have hno : runN m n = m := if_neg (by rw [h15]; simp)
    refine Wp.seqK fun K5 hK5 => ?_
    refine rg ?_
    refine hK5 _ ?_
    clear hK5 K5
    rw [hno]
    refine Wp.ret (retL [2, 3, 4] rfl (Nat.zero_le _) (by decide) (by simp) rfl ?_)
    simp only [keepO, List.take_zero, List.map_nil, List.nil_append, List.map_cons, List.getD_cons_zero, List.getD_cons_succ, Option.map_some, renB, renI, renS, mR]
  · have hok : okR n m = true := h15
    have hR : RightM m := mOk_iff.1 (by unfold okR at hok; rw [Bool.and_eq_true] at hok; exact hok.2)
    obtain ⟨k, hk⟩ : ∃ k : Nat, n = k := ⟨n.toNat, by unfold okR inI at hok; simp only [Bool.and_eq_true, decide_eq_true_eq] at hok; omega⟩
    have hrun : runN m n = runM k m := by unfold runN; rw [if_pos hok, hk]; rfl
    have hk5 : k ≤ 100000 := by unfold okR inI at hok; simp only [Bool.and_eq_true, decide_eq_true_eq] at hok; omega
    have hq := right_fits (run_right k hR)
    subst hk
    refine Wp.keepR 0 [5, 2, 3, 4, 1] (by rw [hB]; simp) (by simp) (by decide) (by simp) ?_
    refine evd ?_
    refine Wp.skip ?_
    refine hK3 _ ?_
    clear hK3 K3
    refine Wp.seqU (α := Gh) (fun G => [.d, .d, .d, .d, .k, .k, .d5, .d5, .d5, .d, .d, .d, .d]) (fun G => mOb G (runM k m) ++ [some ⟨0, [.nils, .sc (.int .i64 0), .sc (.string ⟨#[]⟩), .sc (.int .i64 0), .nils, .sc (.int .i64 0), .sc (.bool false), .sc (.int .i64 0), .sc (.int .i64 0), .sc (.int .i64 0), .nils]⟩]) (fun G => True) (fun K6 hK6 => ?_) ?_
    · refine Wp.seqK fun K7 hK7 => ?_
      refine rg ?_
      refine hK7 _ ?_
      clear hK7 K7
      refine Wp.block ?_
      refine Wp.loopU (α := Nat × Gh) (fun x => [.d, .d, .d, .d, .k, .k, .d5, .d5, .d, .k, .v (I (x.1 : Int)), .d5, .d]) (fun x => mOb x.2 (runM x.1 m) ++ [some ⟨0, [.nils, .sc (.int .i64 0), .sc (.string ⟨#[]⟩), .sc (.int .i64 0), .nils, .sc (.int .i64 0), .sc (.bool false), .sc (.int .i64 0), .sc (.int .i64 0), .sc (.int .i64 0), .nils]⟩]) (fun x => x.1 ≤ k) (fun x => k - x.1) (0, ⟨0, 0, [], 0, []⟩) (Nat.zero_le _) (anyS (ho := by simp only [mOb, mRw, mCl, mCells, runM, List.append_nil]; rfl)) ?_
      rintro x f8 K8 hx hK8
      simp only [updT_k, updT_d, updT_d5, updT_v, updT_nil, Nat.reduceAdd]
      simp only [mOb, mRw, mCl, mCells, List.cons_append, List.nil_append]
      refine Wp.seqK fun K9 hK9 => ?_
      refine rg ?_
      refine hK9 _ ?_
      clear hK9 K9
      refine Wp.seqK fun K10 hK10 => ?_
      refine Wp.condS (fun h19 => ?_) (fun h19 => ?_)
      · have hRx := run_right x.1 hR
        refine Wp.skip ?_
        refine hK10 _ ?_
        clear hK10 K10
        refine Wp.seqK fun K11 hK11 => ?_
        refine Wp.block ?_
        refine Wp.seqK fun K12 hK12 => ?_
        refine rg ?_
        refine ⟨by first | rfl | decide, CallK.handE 4 (step_c (runM x.1 m) x.2 hRx) (fun r ob1 ⟨G2, e1, e2⟩ => ⟨mOb G2 (stepM (runM x.1 m)), [], by rw [e2, List.append_nil], rfl, mOb_shut _ _, ?_⟩) (hs := mOb_shut _ _)⟩
        subst e1
        refine evd ?_
        refine hK12 _ ?_
        clear hK12 K12
        refine Wp.condS (fun h21 => ?_) (fun h21 => ?_)
        · refine Wp.exit ?_
          try simp only [thn, inB, if_true, reduceIte, Nat.zero_ne_one, Nat.one_ne_zero, Nat.reduceEqDiff]
          clear hK11 K11
          clear hK8 K8
          exact hK6 G2 _ trivial (anyS (ho := by rw [← run_end hx h21]; rfl))
        · refine Wp.skip ?_
          try simp only [thn, inB, if_true, reduceIte]
          refine hK11 _ ?_
          clear hK11 K11
          refine rg ?_
          exact hK8 (x.1 + 1, G2) _ (by show x.1 + 1 ≤ k; omega) (by show k - (x.1 + 1) < k - x.1; omega) (anyS (ho := by rw [runM_last]; rfl))
      · refine Wp.exit ?_
        try simp only [thn, inB, if_true, reduceIte, Nat.zero_ne_one, Nat.one_ne_zero, Nat.reduceEqDiff]
        clear hK10 K10
        clear hK8 K8
        have hxk : x.1 = k := by omega
        subst hxk
        exact hK6 x.2 _ trivial (anyS)
    rintro G3 f6 _
    simp only [updT_k, updT_d, updT_d5, updT_v, updT_nil, Nat.reduceAdd]
    simp only [mOb, mRw, mCl, mCells, List.cons_append, List.nil_append]
    refine Wp.seqK fun K13 hK13 => ?_
    refine rg ?_
    refine ⟨rfl, CallK.retA (h := iCopy_c (runM k m) hq.1 hq.2.1 hq.2.2) (ha := argG (G := G3) (m := runM k m) rfl rfl rfl (by simp [lk]) (by simp [lk]) (by simp [lk])) (k := ?_) (hf := mR_flat _)⟩
    refine evd ?_
    refine hK13 _ ?_
    clear hK13 K13
    rw [hrun]
    refine Wp.ret (retL [5, 6, 7] rfl (Nat.zero_le _) (by decide) (by simp) rfl ?_)
    simp only [keepO, List.take_zero, List.map_nil, List.nil_append, List.map_cons, List.getD_cons_zero, List.getD_cons_succ, Option.map_some, renB, renI, renS, mR]
end Go.Proofs.YtbhlegobhidgkaaDoor.RE
/-! A machine's step, what is left, verdicts; the program. Conditions: those that a theorem names. -/
set_option linter.unusedVariables false
set_option linter.unusedSimpArgs false
namespace Go.Proofs.YtbhlegobhidgkaaDoor.RE
open Go Go.RowKit
set_option maxRecDepth 100000
set_option maxHeartbeats 8000000
theorem verd_true {r : List Bool} {o : ByteArray} : verd (true :: r) o = if verd r (halfB 0 o) = 1 ∧ verd r (halfB 1 o) = 1 then 1 else 0 := rfl
theorem verd_false {r : List Bool} {o : ByteArray} : verd (false :: r) o = if verd r (halfB 0 o) = 1 ∨ verd r (halfB 1 o) = 1 then 1 else 0 := rfl
theorem verd_first {b : Bool} {r : List Bool} {o : ByteArray} (ht : tabN (r.length + 1) o) (h : b = decide (verd r (halfB 0 o) = 0)) : verd (b :: r) o = verd r (halfB 0 o) := by
  have h0 := verd_bit (half_tab (v := 0) ht rfl)
  rcases h0 with e | e
  · have hb : b = true := by rw [h, e]; rfl
    subst hb
    rw [verd_true, e, if_neg (by simp)]
  · have hb : b = false := by rw [h, e]; rfl
    subst hb
    rw [verd_false, e, if_pos (.inl rfl)]
theorem verd_second {b : Bool} {r : List Bool} {o : ByteArray} (ht : tabN (r.length + 1) o) (h : ¬ b = decide (verd r (halfB 0 o) = 0)) : verd (b :: r) o = verd r (halfB 1 o) := by
  have h0 := verd_bit (half_tab (v := 0) ht rfl)
  have h1 := verd_bit (half_tab (v := 1) ht rfl)
  rcases h0 with e | e
  · have hb : b = false := by cases b with
      | false => rfl
      | true => exact absurd (by rw [e]; rfl) h
    subst hb
    rw [verd_false, e]
    rcases h1 with e1 | e1 <;> rw [e1] <;> simp
  · have hb : b = true := by cases b with
      | true => rfl
      | false => exact absurd (by rw [e]; rfl) h
    subst hb
    rw [verd_true, e]
    rcases h1 with e1 | e1 <;> rw [e1] <;> simp
end Go.Proofs.YtbhlegobhidgkaaDoor.RE
/-! A machine runs, the reference. Conditions: those that a theorem names. -/
set_option linter.unusedVariables false
set_option linter.unusedSimpArgs false
namespace Go.Proofs.YtbhlegobhidgkaaDoor.RE
open Go Go.RowKit
set_option maxRecDepth 100000
set_option maxHeartbeats 8000000

/-- A machine by value whose rows are handed over; the memo may come in a new row. -/
def QS (m' : Mc) : AV → Obs → Prop := fun r ob => (∃ G', r = .agg (mCl 0 1 2 G' m') ∧ ob = mRw G' m') ∨ (∃ G' g, ∃ l : List Sn, r = .agg (mCl 0 1 3 G' m') ∧ ob = [some ⟨G'.gr, m'.row.map cb⟩, some ⟨G'.gv, (m'.vals ++ G'.jv).map ci⟩, some ⟨g, lS l⟩, some ⟨G'.gm, lS (G'.pm ++ m'.memo)⟩])
theorem mRw_shut (G : Gh) (m : Mc) : obShut 3 (mRw G m) = true := by
  simp only [mRw, obShut, List.all_cons, List.all_nil, flat_shut (flatI _), flat_shut (flatB _), flat_shut (lS_flat _), Bool.and_true]
theorem retQS2 {st : St} {fn : Func} {m m' : Mc} {G : Gh} {g q : Nat} {l : List Sn} {cs : List LV} (hm : m' = m) (hob : st.ob.take 3 = [some ⟨G.gr, m.row.map cb⟩, some ⟨G.gv, (m.vals ++ G.jv).map ci⟩, some ⟨g, lS l⟩]) (h6 : st.ob.getD 6 none = some ⟨q, lS (G.pm ++ m.memo)⟩) (hcs : cs = mCells (.obj 0 G.gr 1 0 m.row.length) (.obj 1 G.gv 1 0 m.vals.length) (.obj 6 q 2 (G.pm.length * 2) m.memo.length) m)
    (h : resA st.tm st.ob E fn.results.toList = some (.agg cs) := by rfl) (hn : 3 ≤ st.ob.length := by simp) : retQ E fn 3 (QS m') .ret st := by
  subst hm; subst hcs
  refine ⟨_, [6], h, hn, by simp, by simp, .inr ⟨{ G with gm := 0 }, g, l, ?_, ?_⟩⟩
  · simp only [mCl, mCells, AV.ren, List.map_cons, List.map_nil, lren_obj, lren_sc, keepM_l, keepX_cons, keepX_nil, h6]
    rfl
  · unfold keepO
    rw [hob]
    simp only [List.map_cons, List.map_nil, h6, Option.map_some, renB, renI, renS]
    rfl
theorem retQS {st : St} {fn : Func} {m m' : Mc} {G : Gh} {cs : List LV} (hm : m' = m) (hob : st.ob.take 3 = mRw G m) (hcs : cs = mCl 0 1 2 G m := by rfl) (h : resA st.tm st.ob E fn.results.toList = some (.agg cs) := by rfl) (hn : 3 ≤ st.ob.length := by simp) : retQ E fn 3 (QS m') .ret st := by
  subst hm; subst hcs
  exact retE (m := 3) (Q := QS m') (x' := .agg (mCl 0 1 2 G m')) (ob' := mRw G m') (.inl ⟨G, rfl, rfl⟩) hob h rfl (mRw_shut _ _) hn

theorem tkey_j (n : Int) (o : ByteArray) (ht : tabN n.toNat o) (hn : 0 ≤ n ∧ n ≤ 12) (ho : o.size ≤ 1048576) : Val E.P 39 [.agg (tb n o)] (S (keyB n o)) := by
  have := sTableKey_c n o ho
  unfold tkT at this
  rwa [if_pos (tab_iff.2 ⟨hn, ht⟩)] at this
theorem argsFind (k g : Nat) (p l : List Sn) (key : ByteArray) : [AV.l (.obj k g 2 (p.length * 2) l.length), S key].map (AV.toC [] [(k, g, encS (p ++ l))]) = [dS l, S key] := by
  have h1 : lk [(k, g, encS (p ++ l))] k g = some (encS (p ++ l)) := by simp [lk]
  simp only [List.map_cons, List.map_nil, AV.toC, LV.toC, h1, encM_mid]; rfl
theorem sDown_c (m : Mc) (G : Gh) (hR : RightM m) (hk : m.looks < 1000000000) (hk2 : m.hits < 1000000000) : CallsA E.P 93 [.agg (mCl 0 1 2 G m)] (mRw G m) (QS (downM m)) := by
  refine CallsA.body (E := E) (fn := Tryd.f93) Tryd.func93 rfl fun B hB => ?_
  simp only [Tryd.ntmps93, go_sem, nl, Nat.reduceSub, Nat.reduceAdd, List.reduceReplicate]
  have hnn := hR.n
  have hvl := hR.vals
  have hml := hR.memo
  have hrm := hR.room
  have hrw := hR.row
  have hrt := hR.ret
  have h12 : m.vals.length ≤ 12 := by omega
  have h40 : m.memo.length ≤ 40 := by omega
  have htl := right_left hR
  have hls : (leftM m).size ≤ 4096 := by
    rw [htl.1]
    exact Nat.pow_le_pow_right (n := 2) (by decide) (show m.n.toNat - m.vals.length ≤ 12 by omega)
  have hst := hR.steps
  have hlo := hR.looks
  have hhi := hR.hits
  have htl2 : tabN (m.n - m.vals.length).toNat (leftM m) := by rwa [show (m.n - m.vals.length).toNat = m.n.toNat - m.vals.length by omega]
  refine Wp.seqK fun K1 hK1 => ?_
  refine rg ?_
  refine hK1 _ ?_
  clear hK1 K1
  refine Wp.seqK fun K2 hK2 => ?_
  refine rg ?_
  refine ⟨rfl, CallK.valA (h := sLeft_c m hR) (ha := argG (G := G) (m := m) rfl rfl rfl (by simp [lk]) (by simp [lk]) (by simp [lk])) (k := ?_)⟩
  refine evd ?_
  refine hK2 _ ?_
  clear hK2 K2
  refine Wp.seqK fun K3 hK3 => ?_
  refine rg ?_
  refine ⟨rfl, CallK.valA (h := sKnown_c _ _ htl2 (by omega)) (k := ?_)⟩
  refine evd ?_
  refine hK3 _ ?_
  clear hK3 K3
  refine Wp.seqK fun K4 hK4 => ?_
  refine Wp.seqK fun K5 hK5 => ?_
  refine rg ?_
  refine hK5 _ ?_
  clear hK5 K5
  refine Wp.condS (fun h10 => ?_) (fun h10 => ?_)
  · have hd : downM m = { m with ret := knownB (leftM m), looks := m.looks + 1 } := if_pos h10
    refine Wp.seqK fun K6 hK6 => ?_
    refine rg ?_
    refine hK6 _ ?_
    clear hK6 K6
    refine Wp.seqK fun K7 hK7 => ?_
    refine rg ?_
    refine hK7 _ ?_
    clear hK7 K7
    refine Wp.seqK fun K8 hK8 => ?_
    refine rg ?_
    refine hK8 _ ?_
    clear hK8 K8
    refine Wp.ret (retQS (G := G) hd ?_)
    rfl
  · have hd0 : ¬ 0 ≤ knownB (leftM m) := by omega
    refine Wp.skip ?_
    refine hK4 _ ?_
    clear hK4 K4
    refine Wp.seqK fun K9 hK9 => ?_
    refine Wp.drawI [0, 1, 2, 3, 4, 5] [3, 4] (by kernel_rfl) ?_
    refine evd ?_
    refine ⟨rfl, CallK.valA (h := tkey_j _ _ htl2 (by omega) (by omega)) (k := ?_)⟩
    refine evd ?_
    refine ⟨rfl, CallK.val [(2, G.gm, encS (G.pm ++ m.memo))] (LendOk.cons false _ rfl rfl (lS_encS _ false).symm LendOk.nil) (by rw [argsFind]; exact sFind_c m.memo (keyM m) (by omega)) rfl ?_⟩
    refine evd ?_
    refine hK9 _ ?_
    clear hK9 K9
    refine Wp.seqK fun K10 hK10 => ?_
    refine Wp.seqK fun K11 hK11 => ?_
    refine rg ?_
    refine hK11 _ ?_
    clear hK11 K11
    refine Wp.condS (fun h24 => ?_) (fun h24 => ?_)
    · have hd : downM m = { m with ret := findM m.memo (keyM m), hits := m.hits + 1 } := by unfold downM; rw [if_neg hd0, if_pos h24]
      refine Wp.seqK fun K12 hK12 => ?_
      refine rg ?_
      refine hK12 _ ?_
      clear hK12 K12
      refine Wp.seqK fun K13 hK13 => ?_
      refine rg ?_
      refine hK13 _ ?_
      clear hK13 K13
      refine Wp.seqK fun K14 hK14 => ?_
      refine rg ?_
      refine hK14 _ ?_
      clear hK14 K14
      refine Wp.ret (retQS (G := G) hd ?_)
      rfl
    · have hd : downM m = { m with vals := m.vals ++ [0] } := by unfold downM; rw [if_neg hd0, if_neg (by omega)]
      refine Wp.skip ?_
      refine hK10 _ ?_
      clear hK10 K10
      refine Wp.seqK fun K15 hK15 => ?_
      refine rg ?_
      rw [takeV]
      refine hK15 _ ?_
      clear hK15 K15
      refine Wp.seqK fun K16 hK16 => ?_
      refine rg ?_
      refine hK16 _ ?_
      clear hK16 K16
      refine Wp.ret (retQS (G := { G with gv := G.gv + 1, jv := [] }) hd ?_ (hcs := by simp only [mCl, mCells, List.length_append, List.length_cons, List.length_nil, Nat.zero_add]; rfl))
      simp only [mOb, mRw, mCl, mCells, List.append_nil, List.nil_append, List.length_append, List.length_cons, List.length_nil, Nat.zero_add]
      rfl
theorem sUp_c (m : Mc) (G : Gh) (hR : RightM m) : CallsA E.P 94 [.agg (mCl 0 1 2 G m)] (mRw G m) (QS (upM m)) := by
  refine CallsA.body (E := E) (fn := Tryd.f94) Tryd.func94 rfl fun B hB => ?_
  simp only [Tryd.ntmps94, go_sem, nl, Nat.reduceSub, Nat.reduceAdd, List.reduceReplicate]
  have hnn := hR.n
  have hvl := hR.vals
  have hml := hR.memo
  have hrm := hR.room
  have hrw := hR.row
  have hrt := hR.ret
  have h12 : m.vals.length ≤ 12 := by omega
  have h40 : m.memo.length ≤ 40 := by omega
  have htl := right_left hR
  have hls : (leftM m).size ≤ 4096 := by
    rw [htl.1]
    exact Nat.pow_le_pow_right (n := 2) (by decide) (show m.n.toNat - m.vals.length ≤ 12 by omega)
  have hfi := idx_find (l := m.memo) (k := keyM m) (mem_iff.1 hR.mem).1
  have hst := hR.steps
  have hlo := hR.looks
  have hhi := hR.hits
  refine Wp.seqK fun K1 hK1 => ?_
  refine rg ?_
  refine hK1 _ ?_
  clear hK1 K1
  refine Wp.seqK fun K2 hK2 => ?_
  refine rg ?_
  refine hK2 _ ?_
  clear hK2 K2
  refine Wp.seqK fun K3 hK3 => ?_
  refine Wp.seqK fun K4 hK4 => ?_
  refine rg ?_
  refine hK4 _ ?_
  clear hK4 K4
  refine Wp.condS (fun h10 => ?_) (fun h10 => ?_)
  · have hl : m.vals.length = 0 := by omega
    have hd : upM m = { m with over := true } := if_pos hl
    refine Wp.seqK fun K5 hK5 => ?_
    refine rg ?_
    refine hK5 _ ?_
    clear hK5 K5
    refine Wp.seqK fun K6 hK6 => ?_
    refine rg ?_
    refine hK6 _ ?_
    clear hK6 K6
    refine Wp.ret (retQS (G := G) hd ?_)
    rfl
  · have hl : ¬ m.vals.length = 0 := by omega
    have hkn : ((m.vals.length : Int) - 1).toNat = m.vals.length - 1 := by omega
    refine Wp.skip ?_
    refine hK3 _ ?_
    clear hK3 K3
    refine Wp.seqK fun K7 hK7 => ?_
    refine Wp.seqU0 [.d, .k, .k, .k, .d5, .d5, .d5, .d5, .d5, .v (T (decide ((m.row.getD (m.vals.length - 1) false ≠ decide (m.ret = 0)) ∧ m.vals.getD (m.vals.length - 1) 0 = 0))), .d5, .d5, .d5, .d5, .d5, .d5, .d5, .d5, .d5, .d] (fun K8 hK8 => ?_) ?_
    · refine Wp.drawI [0, 1, 2, 3, 4, 5, 6, 7] [] (by kernel_rfl) ?_
      refine evd ?_
      refine grdA_split rfl (fun g5_10 => ?_) (fun g5_10 => ?_)
      · try simp only [ne_eq] at g5_10
        try refine evd ?_
        have hP : m.row.getD (m.vals.length - 1) false ≠ decide (m.ret = 0) := by rw [← hkn]; simpa using g5_10
        have e : decide ((m.row.getD (m.vals.length - 1) false ≠ decide (m.ret = 0)) ∧ m.vals.getD (m.vals.length - 1) 0 = 0) = decide ((m.vals ++ G.jv).getD ((m.vals.length : Int) - 1).toNat 0 = 0) := by
          rw [hkn, getD_app (by omega), decide_eq_decide]
          exact ⟨fun h => h.2, fun h => ⟨hP, h⟩⟩
        exact hK8 _ (anyS (h := by rw [e]; rfl))
      · try simp only [ne_eq] at g5_10
        try refine evd ?_
        have hP : ¬ m.row.getD (m.vals.length - 1) false ≠ decide (m.ret = 0) := by rw [← hkn]; simpa using g5_10
        have e : decide ((m.row.getD (m.vals.length - 1) false ≠ decide (m.ret = 0)) ∧ m.vals.getD (m.vals.length - 1) 0 = 0) = false := decide_eq_false fun h => hP h.1
        exact hK8 _ (anyS (h := by rw [e]; rfl))
    rintro f8
    simp only [updT_k, updT_d, updT_d5, updT_v, updT_nil, Nat.reduceAdd]
    refine Wp.condS (fun h29 => ?_) (fun h29 => ?_)
    · have h37 := h29
      have hd : upM m = { m with vals := m.vals.take (m.vals.length - 1) ++ [1], ret := -1 } := by unfold upM; rw [if_neg hl, if_pos h29]
      refine Wp.seqK fun K9 hK9 => ?_
      refine rg ?_
      rw [hkn, setV (show m.vals.length = m.vals.length - 1 + 1 by omega)]
      refine hK9 _ ?_
      clear hK9 K9
      refine Wp.seqK fun K10 hK10 => ?_
      refine rg ?_
      refine hK10 _ ?_
      clear hK10 K10
      refine Wp.seqK fun K11 hK11 => ?_
      refine rg ?_
      refine hK11 _ ?_
      clear hK11 K11
      have e2 : m.vals.length = (m.vals.take (m.vals.length - 1) ++ [1]).length := by simp; omega
      refine Wp.ret (retQS (G := G) hd ?_ (hcs := by simp only [mCl, mCells, ← e2]; rfl))
      simp only [mRw, List.append_assoc, List.cons_append, List.nil_append]
      rfl
    · have h37 := h29
      refine Wp.skip ?_
      refine hK7 _ ?_
      clear hK7 K7
      refine Wp.seqU (α := Mc × Gh) (fun x => [.d, .k, .k, .d5, .d5, .d5, .d5, .d5, .d5, .d5, .d5, .d5, .d5, .d5, .d5, .d5, .d5, .d, .d, .d]) (fun x => mRw x.2 x.1 ++ [some ⟨0, mCl 0 1 2 x.2 x.1⟩, some ⟨0, [.nils, .sc (.int .i64 0), .sc (.string ⟨#[]⟩), .sc (.int .i64 0), .nils, .sc (.int .i64 0), .sc (.bool false), .sc (.int .i64 0), .sc (.int .i64 0), .sc (.int .i64 0), .nils]⟩]) (fun x => x.1 = { m with vals := m.vals.take (m.vals.length - 1) } ∧ x.2 = { G with jv := m.vals.drop (m.vals.length - 1) ++ G.jv }) (fun K12 hK12 => ?_) ?_
      · refine rg ?_
        refine hK12 ({ m with vals := m.vals.take (m.vals.length - 1) }, { G with jv := m.vals.drop (m.vals.length - 1) ++ G.jv }) _ ⟨rfl, rfl⟩ (anyS (ho := ?_))
        have e1 : m.vals ++ G.jv = m.vals.take (m.vals.length - 1) ++ (m.vals.drop (m.vals.length - 1) ++ G.jv) := by rw [← List.append_assoc, List.take_append_drop]
        have e2 : ((m.vals.length : Int) - 1 - 0).toNat = (m.vals.take (m.vals.length - 1)).length := by rw [List.length_take]; omega
        rw [e1, e2]; rfl
      rintro ⟨m2, G2⟩ f12 ⟨hm2, hG2⟩
      simp only [updT_k, updT_d, updT_d5, updT_v, updT_nil, Nat.reduceAdd]
      dsimp only at hm2 hG2 ⊢
      simp only [mRw, mCl, mCells, tb, List.cons_append, List.nil_append]
      have hR2 : RightM m2 := by rw [hm2]; exact pop_right hR hl
      have hnn := hR2.n
      have hvl := hR2.vals
      have hml := hR2.memo
      have hrm := hR2.room
      have htl := right_left hR2
      have hls : (leftM m2).size ≤ 4096 := by
        rw [htl.1]
        exact Nat.pow_le_pow_right (n := 2) (by decide) (show m2.n.toNat - m2.vals.length ≤ 12 by omega)
      have hls2 : (leftB m2.ones m2.vals).size ≤ 4096 := hls
      have hfi := idx_find (l := m2.memo) (k := keyM m2) (mem_iff.1 hR2.mem).1
      have hu : upM m = storeM m2 := by unfold upM; rw [if_neg hl, if_neg h37, hm2]
      have htl2 : tabN (m2.n - m2.vals.length).toNat (leftM m2) := by rwa [show (m2.n - m2.vals.length).toNat = m2.n.toNat - m2.vals.length by omega]
      refine Wp.seqK fun K13 hK13 => ?_
      refine rg ?_
      refine ⟨rfl, CallK.valA (h := sLeft_c m2 hR2) (ha := argG (G := G2) (m := m2) rfl rfl rfl (by simp [lk]) (by simp [lk]) (by simp [lk])) (k := ?_)⟩
      refine evd ?_
      refine ⟨rfl, CallK.valA (h := tkey_j _ _ htl2 (by omega) (by omega)) (k := ?_)⟩
      refine evd ?_
      refine hK13 _ ?_
      clear hK13 K13
      refine Wp.seqK fun K14 hK14 => ?_
      refine Wp.seqU0 [.d, .k, .k, .d, .k, .d5, .d5, .d5, .d5, .d5, .d5, .d5, .d5, .d5, .d, .d, .d, .v (T (decide (0 < m2.room ∧ findM m2.memo (keyM m2) < 0))), .d5, .d5, .d5, .d5, .d, .d] (fun K15 hK15 => ?_) ?_
      · refine rg ?_
        refine grdA_split rfl (fun g11_4 => ?_) (fun g11_4 => ?_)
        · try simp only [decide_eq_true_eq, decide_eq_false_iff_not] at g11_4
          have hroom : 0 < m2.room := by simpa using g11_4
          try refine evd ?_
          refine ⟨rfl, CallK.val [(2, G2.gm, encS (G2.pm ++ m2.memo))] (LendOk.cons false _ rfl rfl (lS_encS _ false).symm LendOk.nil) (by rw [argsFind]; exact sFind_c m2.memo (keyM m2) (by omega)) rfl ?_⟩
          refine evd ?_
          have e : decide (0 < m2.room ∧ findM m2.memo (keyM m2) < 0) = decide (findM m2.memo (keyM m2) < 0) := by rw [decide_eq_decide]; omega
          exact hK15 _ (anyS (h := by rw [e]; rfl))
        · try simp only [decide_eq_true_eq, decide_eq_false_iff_not] at g11_4
          have hroom : ¬ 0 < m2.room := by simpa using g11_4
          try refine evd ?_
          have e : decide (0 < m2.room ∧ findM m2.memo (keyM m2) < 0) = false := decide_eq_false (by omega)
          exact hK15 _ (anyS (h := by rw [e]; rfl))
      rintro f15
      simp only [updT_k, updT_d, updT_d5, updT_v, updT_nil, Nat.reduceAdd]
      refine Wp.condS (fun h53 => ?_) (fun h53 => ?_)
      · have hst2 : upM m = { m2 with memo := pushM m2 } := by rw [hu]; exact if_pos h53
        refine Wp.seqK fun K16 hK16 => ?_
        refine rg ?_
        rw [takeM']
        refine hK16 _ ?_
        clear hK16 K16
        refine Wp.seqK fun K17 hK17 => ?_
        refine rg ?_
        refine hK17 _ ?_
        clear hK17 K17
        refine Wp.condS (fun h68 => ?_) (fun h68 => ?_)
        · have l3 : (((m2.memo.length + 1 : Nat) : Int) - 1).toNat = m2.memo.length := by omega
          have hd : upM m = { m2 with memo := (m2.memo ++ [(⟨keyM m2, m2.ret⟩ : Sn)]).drop 1 } := by rw [hst2]; unfold pushM; rw [if_pos (by omega)]
          refine rg ?_
          rw [l3, if_pos (by omega), show ∀ l : List Sn, List.drop 2 (lS l) = lS (l.drop 1) from fun l => lS_drop l 1]
          refine evd ?_
          refine hK14 _ ?_
          clear hK14 K14
          refine Wp.seqK fun K18 hK18 => ?_
          refine rg ?_
          refine hK18 _ ?_
          clear hK18 K18
          have l2 : ((m2.memo ++ [(⟨keyM m2, m2.ret⟩ : Sn)]).drop 1).length = m2.memo.length := by simp
          refine Wp.ret (retQS2 (G := { G2 with gm := 0, pm := [] }) hd rfl rfl ?_)
          simp only [mCells, l2]
          rfl
        · have hd : upM m = { m2 with memo := (m2.memo ++ [(⟨keyM m2, m2.ret⟩ : Sn)]) } := by rw [hst2]; unfold pushM; rw [if_neg (by omega)]
          refine Wp.skip ?_
          refine hK14 _ ?_
          clear hK14 K14
          refine Wp.seqK fun K19 hK19 => ?_
          refine rg ?_
          refine hK19 _ ?_
          clear hK19 K19
          refine Wp.ret (retQS (G := { G2 with gm := G2.gm + 1, pm := [] }) hd ?_ (hcs := by simp only [mCl, mCells, List.length_append, List.length_cons, List.length_nil, Nat.zero_add]; rfl))
          simp only [mOb, mRw, mCl, mCells, List.append_nil, List.nil_append, List.length_append, List.length_cons, List.length_nil, Nat.zero_add]
          rfl
      · have hd : upM m = m2 := by rw [hu]; exact if_neg h53
        refine Wp.skip ?_
        refine hK14 _ ?_
        clear hK14 K14
        refine Wp.seqK fun K20 hK20 => ?_
        refine rg ?_
        refine hK20 _ ?_
        clear hK20 K20
        refine Wp.ret (retQS (G := G2) hd ?_)
        rfl
end Go.Proofs.YtbhlegobhidgkaaDoor.RE
/-! A machine steps and runs, the reference. Conditions: those that a theorem names. -/
set_option linter.unusedVariables false
set_option linter.unusedSimpArgs false
namespace Go.Proofs.YtbhlegobhidgkaaDoor.RE
open Go Go.RowKit
set_option maxRecDepth 100000
set_option maxHeartbeats 8000000

/-- A call that answers a machine by value, its rows handed over: both ways. -/
theorem CallK.mach {P : Program} {f : FuncId} {args : List AV} {st : St} {d : Option Tmp} {K : St → Prop} {G : Gh} {m m' : Mc} {rest : Obs} (h : CallsA P f [.agg (mCl 0 1 2 G m)] (mRw G m) (QS m'))
    (k1 : ∀ G' : Gh, K ⟨putT st.tm d (.agg (mCl 0 1 2 G' m')), mRw G' m' ++ rest⟩)
    (k2 : ∀ (G' : Gh) (g : Nat) (l : List Sn), K ⟨putT st.tm d (.agg (mCells (.obj 0 G'.gr 1 0 m'.row.length) (.obj 1 G'.gv 1 0 m'.vals.length) (.obj (3 + rest.length) G'.gm 2 (G'.pm.length * 2) m'.memo.length) m')), [some ⟨G'.gr, m'.row.map cb⟩, some ⟨G'.gv, (m'.vals ++ G'.jv).map ci⟩, some ⟨g, lS l⟩] ++ rest ++ [some ⟨G'.gm, lS (G'.pm ++ m'.memo)⟩]⟩)
    (ho : st.ob = mRw G m ++ rest := by rfl) (ha : args.map (AV.toC (List.range 3) []) = [.agg (mCl 0 1 2 G m)] := by rfl) : CallK P f args st d K :=
  CallK.handE 3 h (fun r ob1 hq => by
    rcases hq with ⟨G', e1, e2⟩ | ⟨G', g, l, e1, e2⟩
    · refine ⟨mRw G' m', [], by rw [e2, List.append_nil], rfl, mRw_shut _ _, ?_⟩
      rw [ho, e1]
      have := k1 G'
      simpa [mCl, mCells, AV.ren, LV.ren, shm, mRw] using this
    · refine ⟨[some ⟨G'.gr, m'.row.map cb⟩, some ⟨G'.gv, (m'.vals ++ G'.jv).map ci⟩, some ⟨g, lS l⟩], [some ⟨G'.gm, lS (G'.pm ++ m'.memo)⟩], by rw [e2]; rfl, rfl, (by simp only [obShut, List.all_cons, List.all_nil, flat_shut (flatI _), flat_shut (flatB _), flat_shut (lS_flat _), Bool.and_true]), ?_⟩
      rw [ho, e1]
      have := k2 G' g l
      simp only [mCl, mCells, AV.ren, List.map_cons, List.map_nil, lren_obj, lren_sc, shm, Ob.ren, Option.map_some, renS, mRw, List.length_append, List.length_cons, List.length_nil, List.cons_append, List.nil_append, List.drop_succ_cons, List.drop_zero] at this ⊢
      simp [optO, Nat.add_comm] at this ⊢
      rw [show 1 + (1 + (List.length rest + 1)) = List.length rest + 3 by omega]
      exact this) (by rw [ho]; rfl) ha (mRw_shut _ _) (by rw [ho]; simp [mRw])
theorem retQS3 {st : St} {fn : Func} {m m' : Mc} {G : Gh} {g : Nat} {l : List Sn} {cs : List LV} (hm : m' = m) (hob : st.ob.take 3 = [some ⟨G.gr, m.row.map cb⟩, some ⟨G.gv, (m.vals ++ G.jv).map ci⟩, some ⟨g, lS l⟩]) (h6 : st.ob.getD 5 none = some ⟨G.gm, lS (G.pm ++ m.memo)⟩) (hcs : cs = mCells (.obj 0 G.gr 1 0 m.row.length) (.obj 1 G.gv 1 0 m.vals.length) (.obj 5 G.gm 2 (G.pm.length * 2) m.memo.length) m)
    (h : resA st.tm st.ob E fn.results.toList = some (.agg cs) := by rfl) (hn : 3 ≤ st.ob.length := by simp) : retQ E fn 3 (QS m') .ret st := by
  subst hm; subst hcs
  refine ⟨_, [5], h, hn, by simp, by simp, .inr ⟨{ G with gm := 0 }, g, l, ?_, ?_⟩⟩
  · simp only [mCl, mCells, AV.ren, List.map_cons, List.map_nil, lren_obj, lren_sc, keepM_l, keepX_cons, keepX_nil, h6]
    rfl
  · unfold keepO
    rw [hob]
    simp only [List.map_cons, List.map_nil, h6, Option.map_some, renB, renI, renS]
    rfl
theorem sStep_c (m : Mc) (G : Gh) (hR : RightM m) (hlk : m.looks < 1000000000) (hht : m.hits < 1000000000) : CallsA E.P 69 [.agg (mCl 0 1 2 G m)] (mRw G m) (QS (stepM m)) := by
  refine CallsA.body (E := E) (fn := Tryd.f69) Tryd.func69 rfl fun B hB => ?_
  simp only [Tryd.ntmps69, go_sem, nl, Nat.reduceSub, Nat.reduceAdd, List.reduceReplicate]
  have hst := hR.steps
  have hlo := hR.looks
  have hhi := hR.hits
  refine Wp.seqK fun K1 hK1 => ?_
  refine rg ?_
  refine hK1 _ ?_
  clear hK1 K1
  refine Wp.seqK fun K2 hK2 => ?_
  refine Wp.seqU0 [.d, .k, .k, .d5, .d, .v (T (stuckM m)), .d5, .d5, .d, .d] (fun K3 hK3 => ?_) ?_
  · refine rg ?_
    refine grdA_split rfl (fun g1_3 => ?_) (fun g1_3 => ?_)
    · try simp only [decide_eq_true_eq, decide_eq_false_iff_not] at g1_3
      try refine evd ?_
      have e : stuckM m = true := by unfold stuckM; simp [g1_3]
      exact hK3 _ (anyS (h := by rw [e]; rfl))
    · try simp only [decide_eq_true_eq, decide_eq_false_iff_not] at g1_3
      try refine evd ?_
      have e : stuckM m = decide (1000000000 ≤ m.steps) := by
        unfold stuckM
        rw [g1_3, decide_eq_false (show ¬ m.looks = 1000000000 by omega), decide_eq_false (show ¬ m.hits = 1000000000 by omega)]
        simp only [Bool.false_or, Bool.or_false]
        rw [decide_eq_decide]; omega
      exact hK3 _ (anyS (h := by rw [e]; rfl))
  rintro f3
  simp only [updT_k, updT_d, updT_d5, updT_v, updT_nil, Nat.reduceAdd]
  refine Wp.condS (fun h9 => ?_) (fun h9 => ?_)
  · have hd : stepM m = m := if_pos h9
    refine Wp.seqK fun K4 hK4 => ?_
    refine rg ?_
    refine hK4 _ ?_
    clear hK4 K4
    refine Wp.ret (retQS (G := G) hd ?_)
    rfl
  · have hns := stuck_no (m := m) (by rw [h9]; simp)
    have hRt := tick_right hR h9
    have hns2 : ¬ stuckM m = true := by rw [h9]; simp
    refine Wp.skip ?_
    refine hK2 _ ?_
    clear hK2 K2
    refine Wp.seqK fun K5 hK5 => ?_
    refine rg ?_
    refine hK5 _ ?_
    clear hK5 K5
    refine Wp.seqK fun K6 hK6 => ?_
    refine Wp.seqK fun K7 hK7 => ?_
    refine rg ?_
    refine hK7 _ ?_
    clear hK7 K7
    refine Wp.condS (fun h17 => ?_) (fun h17 => ?_)
    · have hd : stepM m = downM (tickM m) := by unfold stepM; rw [if_neg hns2, if_pos h17]
      refine Wp.seqK fun K8 hK8 => ?_
      refine rg ?_
      refine ⟨by first | rfl | decide, CallK.mach (h := sDown_c (tickM m) G hRt (by show m.looks < _; omega) (by show m.hits < _; omega)) (fun G2 => ?_) (fun G2 g2 l2 => ?_)⟩
      · refine evd ?_
        refine hK8 _ ?_
        clear hK8 K8
        refine Wp.ret (retQS (G := G2) hd ?_)
        rfl
      · refine evd ?_
        refine hK8 _ ?_
        clear hK8 K8
        refine Wp.ret (retQS3 (G := G2) hd rfl rfl rfl)
    · have hd : stepM m = upM (tickM m) := by unfold stepM; rw [if_neg hns2, if_neg (by omega)]
      refine Wp.skip ?_
      refine hK6 _ ?_
      clear hK6 K6
      refine Wp.seqK fun K9 hK9 => ?_
      refine rg ?_
      refine ⟨by first | rfl | decide, CallK.mach (h := sUp_c (tickM m) G hRt) (fun G2 => ?_) (fun G2 g2 l2 => ?_)⟩
      · refine evd ?_
        refine hK9 _ ?_
        clear hK9 K9
        refine Wp.ret (retQS (G := G2) hd ?_)
        rfl
      · refine evd ?_
        refine hK9 _ ?_
        clear hK9 K9
        refine Wp.ret (retQS3 (G := G2) hd rfl rfl rfl)

def go2 (m : Mc) : Bool := !m.over && (decide (m.looks < 1000000000) && decide (m.hits < 1000000000))
theorem go2_end {m : Mc} (hR : RightM m) {x k : Nat} (hx : x ≤ k) (h : (decide ((x : Int) < (k : Int)) && go2 (runM x m)) = false) : runM x m = runM k m := by
  by_cases hk : x = k
  · rw [hk]
  · rw [decide_eq_true (by omega), Bool.true_and] at h
    have h1 := run_right x hR
    have h2 := h1.looks
    have h3 := h1.hits
    have hs : stuckM (runM x m) = true := by
      unfold go2 at h
      unfold stuckM
      cases ho : (runM x m).over with
      | true => rfl
      | false =>
        rw [ho] at h
        simp only [Bool.not_false, Bool.true_and, Bool.and_eq_false_iff, decide_eq_false_iff_not] at h
        rcases h with h | h
        · rw [decide_eq_true (show (runM x m).looks = 1000000000 by omega)]; simp
        · rw [decide_eq_true (show (runM x m).hits = 1000000000 by omega)]; simp
    rw [show k = x + (k - x) by omega, runM_add, runM_stuck hs]
theorem go2_t {m : Mc} (h : go2 m = true) : m.looks < 1000000000 ∧ m.hits < 1000000000 := by
  unfold go2 at h
  simp only [Bool.and_eq_true, decide_eq_true_eq] at h
  exact h.2
def QR (m' : Mc) : AV → Obs → Prop := fun r ob => ∃ G, r = .agg (mCl 0 1 2 G m') ∧ ob = mRw G m'
theorem retQR {st : St} {fn : Func} {m m' : Mc} {G : Gh} {a b c : Nat} {cs : List LV} (π : List Nat) (hm : m' = m) (ha : st.ob.getD a none = some ⟨G.gr, m.row.map cb⟩) (hb : st.ob.getD b none = some ⟨G.gv, (m.vals ++ G.jv).map ci⟩) (hc : st.ob.getD c none = some ⟨G.gm, lS (G.pm ++ m.memo)⟩) (hcs : cs = mCl a b c G m)
    (h : resA st.tm st.ob E fn.results.toList = some (.agg cs) := by rfl) (hπ : π = [a, b, c] := by rfl) (hd : π.Nodup := by decide) : retQ E fn 0 (QR m') .ret st := by
  subst hm; subst hcs; subst hπ
  have hab : a ≠ b ∧ a ≠ c ∧ b ≠ c := by simp at hd; omega
  refine ⟨_, [a, b, c], h, Nat.zero_le _, hd, by simp, ⟨0, 0, G.jv, 0, G.pm⟩, ?_, ?_⟩
  · simp only [mCl, mCells, AV.ren, List.map_cons, List.map_nil, lren_obj, lren_sc, keepM_l, keepX_cons, keepX_nil, ha, hb, hc]
    simp [hab, hab.1.symm, hab.2.1.symm, hab.2.2.symm, optO]
  · unfold keepO
    simp only [List.take_zero, List.map_nil, List.nil_append, List.map_cons, ha, hb, hc, Option.map_some, renB, renI, renS]
    rfl
theorem sRun_c (m : Mc) (n : Int) (hf : m.Fits) : CallsA E.P 22 [.agg (mD m), I n] [] (QR (runN m n)) := by
  refine CallsA.body (E := E) (fn := Tryd.f22) Tryd.func22 rfl fun B hB => ?_
  simp only [Tryd.ntmps22, go_sem, nl, Nat.reduceSub, Nat.reduceAdd, List.reduceReplicate]
  have h1 := hf.row
  have h2 := hf.vals
  have h3 := hf.memo
  refine Wp.seqK fun K1 hK1 => ?_
  refine rg ?_
  refine hK1 _ ?_
  clear hK1 K1
  refine Wp.seqK fun K2 hK2 => ?_
  refine rg ?_
  refine ⟨rfl, CallK.retA (h := sCopy_c m h1 h2 h3) (k := ?_) (hf := mR_flat _)⟩
  refine evd ?_
  refine hK2 _ ?_
  clear hK2 K2
  refine Wp.seqK fun K3 hK3 => ?_
  refine Wp.seqU0 [.d, .k, .k, .d, .k, .d5, .d5, .v (T (!okR n m)), .d5, .d5, .d5, .d5, .d, .d, .d, .d] (fun K4 hK4 => ?_) ?_
  · refine rg ?_
    refine ⟨rfl, CallK.valA (h := sMachineOk_c _ hf) (ha := argG (G := ⟨0, 0, [], 0, []⟩) (m := m) (a := 2) (b := 3) (c := 4) rfl (by simp) rfl (by simp [lk]) (by simp [lk]) (by simp [lk])) (k := ?_)⟩
    refine evd ?_
    refine grdA_split rfl (fun g2_4 => ?_) (fun g2_4 => ?_)
    · try simp only [decide_eq_true_eq, decide_eq_false_iff_not] at g2_4
      try refine evd ?_
      have e : okR n m = false := by unfold okR; rw [show mOk m = false by simpa using g2_4, Bool.and_false]
      exact hK4 _ (anyS (h := by rw [e]; rfl))
    · try simp only [decide_eq_true_eq, decide_eq_false_iff_not] at g2_4
      try refine evd ?_
      refine ⟨rfl, CallK.valA (h := l01In_c _ _ _) (k := ?_)⟩
      refine evd ?_
      have e : okR n m = inI n 0 100000 := by unfold okR; rw [show mOk m = true by simpa using g2_4, Bool.and_true]
      exact hK4 _ (anyS (h := by rw [e]; rfl))
  rintro f4
  simp only [updT_k, updT_d, updT_d5, updT_v, updT_nil, Nat.reduceAdd]
  refine Wp.condS (fun h15 => ?_) (fun h15 => ?_)
  · have hno : runN m n = m := if_neg (by rw [h15]; simp)
    refine Wp.seqK fun K5 hK5 => ?_
    refine rg ?_
    refine hK5 _ ?_
    clear hK5 K5
    rw [hno]
    refine Wp.ret (retQR (G := ⟨0, 0, [], 0, []⟩) (a := 2) (b := 3) (c := 4) [2, 3, 4] rfl rfl (by simp) rfl rfl)
  · have hok : okR n m = true := h15
    have hR : RightM m := mOk_iff.1 (by unfold okR at hok; rw [Bool.and_eq_true] at hok; exact hok.2)
    obtain ⟨k, hk⟩ : ∃ k : Nat, n = k := ⟨n.toNat, by unfold okR inI at hok; simp only [Bool.and_eq_true, decide_eq_true_eq] at hok; omega⟩
    have hrun : runN m n = runM k m := by unfold runN; rw [if_pos hok, hk]; rfl
    have hk5 : k ≤ 100000 := by unfold okR inI at hok; simp only [Bool.and_eq_true, decide_eq_true_eq] at hok; omega
    subst hk
    refine Wp.keepR 0 [2, 3, 4, 0, 1] (by rw [hB]; simp) (by simp) (by decide) (by simp) ?_
    refine evd ?_
    refine Wp.skip ?_
    refine hK3 _ ?_
    clear hK3 K3
    refine Wp.seqU (α := Gh) (fun G => [.d, .d, .k, .d, .k, .d5, .d5, .d5, .d5, .d5, .d5, .d5]) (fun G => mRw G (runM k m) ++ [some ⟨0, mCl 0 1 2 G (runM k m)⟩, some ⟨0, [.nils, .sc (.int .i64 0), .sc (.string ⟨#[]⟩), .sc (.int .i64 0), .nils, .sc (.int .i64 0), .sc (.bool false), .sc (.int .i64 0), .sc (.int .i64 0), .sc (.int .i64 0), .nils]⟩]) (fun G => True) (fun K6 hK6 => ?_) ?_
    · refine Wp.seqK fun K7 hK7 => ?_
      refine rg ?_
      refine hK7 _ ?_
      clear hK7 K7
      refine Wp.block ?_
      refine Wp.loopU (α := Nat × Gh) (fun x => [.d, .k, .k, .d, .k, .v (I (x.1 : Int)), .d5, .d5, .d5, .d5, .d5, .d5, .d, .d, .d, .d]) (fun x => mRw x.2 (runM x.1 m) ++ [some ⟨0, mCl 0 1 2 x.2 (runM x.1 m)⟩, some ⟨0, [.nils, .sc (.int .i64 0), .sc (.string ⟨#[]⟩), .sc (.int .i64 0), .nils, .sc (.int .i64 0), .sc (.bool false), .sc (.int .i64 0), .sc (.int .i64 0), .sc (.int .i64 0), .nils]⟩]) (fun x => x.1 ≤ k) (fun x => k - x.1) (0, ⟨0, 0, [], 0, []⟩) (Nat.zero_le _) (anyS (ho := by simp only [mRw, mCl, mCells, runM, List.append_nil]; rfl)) ?_
      rintro x f8 K8 hx hK8
      simp only [updT_k, updT_d, updT_d5, updT_v, updT_nil, Nat.reduceAdd]
      simp only [mRw, mCl, mCells, List.cons_append, List.nil_append]
      refine Wp.seqK fun K9 hK9 => ?_
      refine Wp.seqU0 [.d, .k, .k, .d, .k, .k, .d5, .d5, .d5, .d5, .d5, .d, .d, .d, .v (T (decide ((x.1 : Int) < (k : Int)) && go2 (runM x.1 m))), .d5] (fun K10 hK10 => ?_) ?_
      · refine rg ?_
        refine grdA_split rfl (fun g5_4 => ?_) (fun g5_4 => ?_)
        · try simp only [decide_eq_true_eq, decide_eq_false_iff_not] at g5_4
          try refine evd ?_
          refine grdA_split rfl (fun g5_9 => ?_) (fun g5_9 => ?_)
          · try simp only [decide_eq_true_eq, decide_eq_false_iff_not] at g5_9
            try refine evd ?_
            refine grdA_split rfl (fun g5_14 => ?_) (fun g5_14 => ?_)
            · try simp only [decide_eq_true_eq, decide_eq_false_iff_not] at g5_14
              try refine evd ?_
              have e : (decide ((x.1 : Int) < (k : Int)) && go2 (runM x.1 m)) = decide ((runM x.1 m).hits < 1000000000) := by unfold go2; simp [g5_4, g5_9, g5_14]
              exact hK10 _ (anyS (h := by rw [e]; rfl))
            · try simp only [decide_eq_true_eq, decide_eq_false_iff_not] at g5_14
              try refine evd ?_
              have e : (decide ((x.1 : Int) < (k : Int)) && go2 (runM x.1 m)) = false := by unfold go2; simp [g5_4, g5_9, g5_14]
              exact hK10 _ (anyS (h := by rw [e]; rfl))
          · try simp only [decide_eq_true_eq, decide_eq_false_iff_not] at g5_9
            try refine evd ?_
            have e : (decide ((x.1 : Int) < (k : Int)) && go2 (runM x.1 m)) = false := by unfold go2; simp [g5_4, g5_9]
            exact hK10 _ (anyS (h := by rw [e]; rfl))
        · try simp only [decide_eq_true_eq, decide_eq_false_iff_not] at g5_4
          try refine evd ?_
          have e : (decide ((x.1 : Int) < (k : Int)) && go2 (runM x.1 m)) = false := by unfold go2; simp [g5_4]
          exact hK10 _ (anyS (h := by rw [e]; rfl))
      rintro f10
      simp only [updT_k, updT_d, updT_d5, updT_v, updT_nil, Nat.reduceAdd]
      refine Wp.condS (fun h34 => ?_) (fun h34 => ?_)
      · have hRx := run_right x.1 hR
        have hgo := go2_t h34.2
        have hxk : x.1 < k := by omega
        refine Wp.skip ?_
        refine hK9 _ ?_
        clear hK9 K9
        refine Wp.seqK fun K11 hK11 => ?_
        refine Wp.block ?_
        refine rg ?_
        refine ⟨by first | rfl | decide, CallK.mach (h := sStep_c (runM x.1 m) x.2 hRx hgo.1 hgo.2) (fun G2 => ?_) (fun G2 g2 l2 => ?_)⟩
        · refine evd ?_
          try simp only [thn, inB, if_true, reduceIte]
          refine hK11 _ ?_
          clear hK11 K11
          skip
          refine rg ?_
          exact hK8 (x.1 + 1, G2) _ (by show x.1 + 1 ≤ k; omega) (by show k - (x.1 + 1) < k - x.1; omega) (anyS (ho := by rw [runM_last]; rfl))
        · refine evd ?_
          try simp only [thn, inB, if_true, reduceIte]
          refine hK11 _ ?_
          clear hK11 K11
          refine Wp.keepR 0 [0, 1, 5, 3, 4] (by rw [hB]; simp) (by simp) (by decide) (by simp) ?_
          refine evd ?_
          refine rg ?_
          exact hK8 (x.1 + 1, ⟨0, 0, G2.jv, 0, G2.pm⟩) _ (by show x.1 + 1 ≤ k; omega) (by show k - (x.1 + 1) < k - x.1; omega) (anyS (ho := by rw [runM_last]; rfl))
      · refine Wp.exit ?_
        try simp only [thn, inB, if_true, reduceIte, Nat.zero_ne_one, Nat.one_ne_zero, Nat.reduceEqDiff]
        clear hK9 K9
        clear hK8 K8
        exact hK6 x.2 _ trivial (anyS (ho := by rw [← go2_end hR hx h34]; rfl))
    rintro G3 f6 _
    simp only [updT_k, updT_d, updT_d5, updT_v, updT_nil, Nat.reduceAdd]
    simp only [mRw, mCl, mCells, List.cons_append, List.nil_append]
    refine Wp.seqK fun K12 hK12 => ?_
    refine rg ?_
    refine hK12 _ ?_
    clear hK12 K12
    rw [hrun]
    refine Wp.ret (retQR (G := G3) (a := 0) (b := 1) (c := 2) [0, 1, 2] rfl rfl rfl rfl rfl)
end Go.Proofs.YtbhlegobhidgkaaDoor.RE
/-! The text of a key, plain. Conditions: those that a theorem names. -/
set_option linter.unusedVariables false
set_option linter.unusedSimpArgs false
namespace Go.Proofs.YtbhlegobhidgkaaDoor.RE
open Go Go.RowKit
set_option maxRecDepth 100000
set_option maxHeartbeats 8000000
/-! ### Its text -/
theorem keyB_plain {k : Nat} {o : ByteArray} (h : tabN k o) : plainB (keyB k o) = true := by
  unfold plainB
  rw [Bool.and_eq_true]
  refine ⟨decide_eq_true ?_, ?_⟩
  · rw [size_list, keyB_list]; simp; omega
  · rw [keyB_list]
    refine List.all_eq_true.2 fun b hb => ?_
    rcases List.mem_append.1 hb with hb | hb
    · rw [List.all_eq_true.1 (decL_dig _) b hb, Bool.or_true]
    · rcases List.mem_cons.1 hb with hb | hb
      · subst hb; rfl
      · rw [bit_digB (bitB_iff.2 (h.2 b hb)), Bool.or_true]
end Go.Proofs.YtbhlegobhidgkaaDoor.RE
/-! Pieces of a text between bytes, and what words are read as, plain. Conditions: those that a theorem names. -/
set_option linter.unusedVariables false
set_option linter.unusedSimpArgs false
namespace Go.Proofs.YtbhlegobhidgkaaDoor.RE
open Go Go.RowKit
set_option maxRecDepth 100000
set_option maxHeartbeats 8000000
def splB (c : UInt8) : List UInt8 → List (List UInt8)
  | [] => [[]]
  | b :: l => if b = c then [] :: splB c l else (splB c l).modifyHead (b :: ·)
theorem spl_ne (c : UInt8) : ∀ l, splB c l ≠ []
  | [] => by simp [splB]
  | b :: l => by
    rw [splB]
    split
    · simp
    · have := spl_ne c l
      cases h : splB c l with
      | nil => exact absurd h this
      | cons w r => simp
theorem spl_cut {c : UInt8} {l : List UInt8} : ∀ {w : List UInt8}, (∀ b ∈ w, b ≠ c) → splB c (w ++ c :: l) = w :: splB c l
  | [], _ => by simp [splB]
  | b :: w, h => by
    rw [List.cons_append, splB, if_neg (h b List.mem_cons_self), spl_cut fun x hx => h x (List.mem_cons_of_mem _ hx)]
    rfl
theorem spl_end {c : UInt8} : ∀ {w : List UInt8}, (∀ b ∈ w, b ≠ c) → splB c w = [w]
  | [], _ => rfl
  | b :: w, h => by
    rw [splB, if_neg (h b List.mem_cons_self), spl_end fun x hx => h x (List.mem_cons_of_mem _ hx)]
    rfl
theorem spl_count {c : UInt8} : ∀ l : List UInt8, (splB c l).length = l.count c + 1
  | [] => rfl
  | b :: l => by
    rw [splB]
    split
    · rename_i h
      subst h
      rw [List.length_cons, spl_count l, List.count_cons_self]
    · rename_i h
      rw [List.length_modifyHead, spl_count l, List.count_cons_of_ne h]
def pcs (c : UInt8) (s : ByteArray) : List ByteArray := (splB c s.data.toList).map mkB
theorem pcs_one {c : UInt8} {w : List UInt8} (h : ∀ b ∈ w, b ≠ c) : pcs c (mkB w) = [mkB w] := by
  unfold pcs
  rw [mkB_list, spl_end h]; rfl
theorem pcs_two {c : UInt8} {w l : List UInt8} (h : ∀ b ∈ w, b ≠ c) : pcs c (mkB (w ++ c :: l)) = mkB w :: pcs c (mkB l) := by
  unfold pcs
  rw [mkB_list, mkB_list, spl_cut h]; rfl
def wordsP (line name : ByteArray) : List ByteArray := if (pcs 32 line).getD 0 ⟨#[]⟩ = name then (pcs 32 line).drop 1 else []
def wordP (l : List ByteArray) (k : Nat) : ByteArray := l.getD k ⟨#[]⟩
def lnP (s : ByteArray) (k : Nat) : ByteArray := (pcs 10 s).getD k ⟨#[]⟩
def rowsOf (s : ByteArray) : List Bool := if s = ⟨#[45]⟩ then [] else s.data.toList.map fun b => b == 97
def rowOk (s : ByteArray) : Bool := decide (s ≠ ⟨#[]⟩ ∧ s.size ≤ 12) && decide (mkB (rowT (rowsOf s)) = s)
def rowQ (s : ByteArray) : List Bool := if rowOk s = true then rowsOf s else []
def bitsI (s : ByteArray) : List Int := (s.data.toList.filter fun b => b != 45).map fun b => (b.toNat : Int) - 48
def bitsS (s : ByteArray) : List Int := if s = ⟨#[45]⟩ then [] else s.data.toList.map fun b => (b.toNat : Int) - 48
def mOneB : ByteArray := ⟨#[45, 49]⟩
def rtI (s : ByteArray) : Int := if s = mOneB then -1 else if (s.data.toList.all digB = true ∧ s.data.toList.length ≤ 10) ∧ mkB (decL (numV s.data.toList)) = s then numV s.data.toList else -2
def bigB : ByteArray := ⟨#[49, 48, 48, 48, 48, 48, 48, 48, 48, 48]⟩
def rtS (s : ByteArray) : Int := if s = mOneB then -1 else if s = bigB then 1000000000 else if numS s < 0 then -2 else numS s
def nRow : List UInt8 := [114, 111, 119]
def nTable : List UInt8 := [116, 97, 98, 108, 101]
def nRoom : List UInt8 := [114, 111, 111, 109]
def nVals : List UInt8 := [118, 97, 108, 115]
def nRet : List UInt8 := [114, 101, 116]
def nOver : List UInt8 := [111, 118, 101, 114]
def nCnt : List UInt8 := [99, 111, 117, 110, 116, 115]
def nSeen : List UInt8 := [115, 101, 101, 110]
/-- What a text is read as, by the program. -/
def snI (line : ByteArray) : Sn := ⟨wordP (wordsP line (mkB nSeen)) 0, rtI (wordP (wordsP line (mkB nSeen)) 1)⟩
def keyI (s : ByteArray) : ByteArray := wordP (wordsP (lnP s 1) (mkB nTable)) 0
def memoI (s : ByteArray) : List Sn := (((pcs 10 s).drop 7).take ((pcs 10 s).length - 8)).map snI
def mI (s : ByteArray) : Mc where
  row := rowQ (wordP (wordsP (lnP s 0) (mkB nRow)) 0)
  n := okN (rkS (keyI s)) (rkN (keyI s))
  ones := okO (rkS (keyI s)) (rkO (keyI s))
  room := rtI (wordP (wordsP (lnP s 2) (mkB nRoom)) 0)
  vals := bitsI (wordP (wordsP (lnP s 3) (mkB nVals)) 0)
  ret := rtI (wordP (wordsP (lnP s 4) (mkB nRet)) 0)
  over := decide (lnP s 5 = ⟨#[111, 118, 101, 114, 32, 49]⟩)
  steps := rtI (wordP (wordsP (lnP s 6) (mkB nCnt)) 0)
  looks := rtI (wordP (wordsP (lnP s 6) (mkB nCnt)) 1)
  hits := rtI (wordP (wordsP (lnP s 6) (mkB nCnt)) 2)
  memo := memoI s
def iC (s : ByteArray) : Bool := decide (s.size ≤ 400000 ∧ 8 ≤ (pcs 10 s).length)
/-- What a text is read as, by the reference. -/
def wS (s : ByteArray) (i k : Nat) : ByteArray := (pcs 32 (lnP s i)).getD k ⟨#[]⟩
def snS (line : ByteArray) : Sn := ⟨(pcs 32 line).getD 1 ⟨#[]⟩, rtS ((pcs 32 line).getD 2 ⟨#[]⟩)⟩
def linesS (s : ByteArray) : List ByteArray := (pcs 10 s).take ((pcs 10 s).length - 1)
def mS (s : ByteArray) : Mc where
  row := rowQ (wS s 0 1)
  n := okN (rkS (wS s 1 1)) (rkN (wS s 1 1))
  ones := okO (rkS (wS s 1 1)) (rkO (wS s 1 1))
  room := rtS (wS s 2 1)
  vals := bitsS (wS s 3 1)
  ret := rtS (wS s 4 1)
  over := decide (wS s 5 1 = ⟨#[49]⟩)
  steps := rtS (wS s 6 1)
  looks := rtS (wS s 6 2)
  hits := rtS (wS s 6 3)
  memo := ((linesS s).drop 7).map snS
/-- How many words a line must have. -/
def wOk (i : Nat) (n : Nat) : Bool := decide (2 ≤ n ∧ (i = 6 → n = 4) ∧ (6 < i → n = 3))
def wsOk (l : List ByteArray) : Bool := (l.zipIdx).all fun p => wOk p.2 (pcs 32 p.1).length
def sC (s : ByteArray) : Bool := decide (s.size ≤ 400000 ∧ 7 ≤ (linesS s).length ∧ (linesS s).length ≤ 47) && (wsOk (linesS s) && (rowOk (wS s 0 1) && rkS (wS s 1 1)))
end Go.Proofs.YtbhlegobhidgkaaDoor.RE
