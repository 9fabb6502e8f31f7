/- A machine's steps, plain: what is right stays right, what is remembered is true, it ends. Conditions: those that a theorem names. -/
import Derived.Test.YtonacngeaknlcaaGreatDoorM0
set_option linter.unusedVariables false
set_option linter.unusedSimpArgs false
namespace Go.Proofs.YtonacngeaknlcaaGreatDoor.RE
open Go Go.RowKit
set_option maxRecDepth 100000
set_option maxHeartbeats 8000000
/-! ### Tables and their halves -/
def tabN (n : Nat) (o : ByteArray) : Prop := o.size = 2 ^ n ∧ ∀ b ∈ o.data.toList, b = 48 ∨ b = 49
theorem bitB_iff {b : UInt8} : bitB b = true ↔ b = 48 ∨ b = 49 := by
  unfold bitB
  rw [decide_eq_true_eq]
  exact ⟨fun h => h.imp (fun h => UInt8.toNat_inj.1 h) (fun h => UInt8.toNat_inj.1 h), fun h => h.imp (fun h => by rw [h]; rfl) (fun h => by rw [h]; rfl)⟩
theorem tab_iff {n : Int} {o : ByteArray} : tableOk n o = true ↔ (0 ≤ n ∧ n ≤ 12) ∧ tabN n.toNat o := by
  unfold tableOk tokA tabN
  simp only [Bool.and_eq_true, decide_eq_true_eq, List.all_eq_true, bitB_iff]
  have : ((2 ^ n.toNat : Nat) : Int) = (2 : Int) ^ n.toNat := by simp
  constructor
  · rintro ⟨⟨h1, h2, h3⟩, h4⟩
    exact ⟨⟨h1, h2⟩, by omega, h4⟩
  · rintro ⟨⟨h1, h2⟩, h3, h4⟩
    exact ⟨⟨h1, h2, by omega⟩, h4⟩
def halfB (v : Int) (o : ByteArray) : ByteArray := o.extract (v.toNat * (o.size / 2)) (v.toNat * (o.size / 2) + o.size / 2)
def leftB (o : ByteArray) (l : List Int) : ByteArray := l.foldl (fun o v => halfB v o) o
theorem leftB_push (o : ByteArray) (l : List Int) (v : Int) : leftB o (l ++ [v]) = halfB v (leftB o l) := by simp [leftB]
theorem ext_mem {o : ByteArray} {a b : Nat} {x : UInt8} (h : x ∈ (o.extract a b).data.toList) : x ∈ o.data.toList := by
  rw [ext_list] at h
  exact List.mem_of_mem_drop (List.mem_of_mem_take h)
theorem bit_nat {v : Int} (h : bitI v = true) : v.toNat = 0 ∨ v.toNat = 1 := by
  have := bitI_le h; omega
theorem half_tab {n : Nat} {o : ByteArray} {v : Int} (h : tabN (n + 1) o) (hv : bitI v = true) : tabN n (halfB v o) := by
  refine ⟨?_, fun b hb => h.2 b (ext_mem hb)⟩
  unfold halfB
  rw [ByteArray.size_extract, h.1, Nat.pow_succ]
  rcases bit_nat hv with e | e <;> rw [e] <;> omega
theorem left_tab : ∀ {l : List Int} {n : Nat} {o : ByteArray}, tabN n o → l.all bitI = true → l.length ≤ n → tabN (n - l.length) (leftB o l)
  | [], n, o, h, _, _ => h
  | v :: l, 0, o, h, _, hl => by simp at hl
  | v :: l, n + 1, o, h, ha, hl => by
    rw [List.all_cons, Bool.and_eq_true] at ha
    have := left_tab (l := l) (n := n) (half_tab h ha.1) ha.2 (by simpa using hl)
    rw [List.length_cons, show n + 1 - (l.length + 1) = n - l.length by omega]
    exact this
theorem plV_app (l : List Int) (v : Int) : plV (l ++ [v]) = 2 * plV l + v := by simp [plV]
theorem plV_nn : ∀ {l : List Int}, l.all bitI = true → 0 ≤ plV l ∧ plV l < 2 ^ l.length := by
  intro l
  generalize hk : l.length = k
  induction k generalizing l with
  | zero => intro _; rw [List.eq_nil_of_length_eq_zero hk]; simp [plV]
  | succ k ih =>
    intro h
    have hne : l ≠ [] := fun e => by rw [e] at hk; cases hk
    have e := List.dropLast_concat_getLast hne
    rw [← e, List.all_append, Bool.and_eq_true] at h
    have h1 := ih (l := l.dropLast) (by simp [hk]) h.1
    have h2 := bitI_le (show bitI (l.getLast hne) = true by simpa using h.2)
    rw [← e, plV_app, Int.pow_succ]
    omega
theorem left_ext {n : Nat} {o : ByteArray} (ho : tabN n o) : ∀ {l : List Int}, l.all bitI = true → l.length ≤ n → leftB o l = o.extract ((plV l).toNat * 2 ^ (n - l.length)) (((plV l).toNat + 1) * 2 ^ (n - l.length)) := by
  intro l
  generalize hk : l.length = k
  induction k generalizing l with
  | zero =>
    intro _ _
    rw [List.eq_nil_of_length_eq_zero hk]
    refine ba_ext ?_
    rw [ext_list]
    show o.data.toList = _
    have e0 : (plV []).toNat = 0 := rfl
    rw [e0, Nat.zero_mul, Nat.zero_add, Nat.one_mul, List.drop_zero, Nat.sub_zero, List.take_of_length_le]
    have := size_list o
    have := ho.1
    simp only [Nat.sub_zero]
    omega
  | succ k ih =>
    intro h hl
    have hne : l ≠ [] := fun e => by rw [e] at hk; cases hk
    have e := List.dropLast_concat_getLast hne
    have hd : l.dropLast.length = k := by simp [hk]
    have h' := h
    rw [← e, List.all_append, Bool.and_eq_true] at h'
    have h1 := ih hd h'.1 (by omega)
    have h2 : bitI (l.getLast hne) = true := by simpa using h'.2
    have ht := left_tab ho h'.1 (by omega)
    have hp := plV_nn h'.1
    rw [hd] at ht
    rw [← e, leftB_push, plV_app]
    unfold halfB
    rw [ht.1, show n - k = (n - (k + 1)) + 1 by omega, Nat.pow_succ, Nat.mul_div_cancel _ (by decide : 0 < 2), h1]
    refine ba_ext ?_
    rw [ext_list, ext_list, ext_list, show n - k = (n - (k + 1)) + 1 by omega, Nat.pow_succ]
    generalize 2 ^ (n - (k + 1)) = z
    have e2 : (2 * plV l.dropLast + l.getLast hne).toNat = 2 * (plV l.dropLast).toNat + (l.getLast hne).toNat := by
      have := bitI_le h2
      omega
    rw [e2]
    generalize (plV l.dropLast).toNat = p
    have e3 : (p + 1) * (z * 2) - p * (z * 2) = 2 * z := by rw [← Nat.mul_sub_right_distrib]; simp; omega
    rw [e3, List.drop_take, List.drop_drop, List.take_take]
    rcases bit_nat h2 with e4 | e4 <;> rw [e4]
    · congr 1
      · simp only [Nat.zero_mul, Nat.zero_add, Nat.sub_zero, Nat.add_zero]
        rw [← Nat.mul_sub_right_distrib, show 2 * p + 1 - 2 * p = 1 by omega]
        omega
      · congr 1
        rw [Nat.zero_mul, Nat.add_zero, Nat.add_zero, ← Nat.mul_assoc, Nat.mul_comm (p * z) 2, ← Nat.mul_assoc]
    · congr 1
      · rw [← Nat.mul_sub_right_distrib (2 * p + 1 + 1), show 2 * p + 1 + 1 - (2 * p + 1) = 1 by omega]
        omega
      · congr 1
        rw [Nat.add_mul, Nat.mul_assoc, ← Nat.mul_assoc p z 2, Nat.mul_comm (p * z) 2]
/-! ### What a table comes to -/
def verd : List Bool → ByteArray → Int
  | [], o => ((o.data.toList.getD 0 0).toNat : Int) - 48
  | true :: r, o => if verd r (halfB 0 o) = 1 ∧ verd r (halfB 1 o) = 1 then 1 else 0
  | false :: r, o => if verd r (halfB 0 o) = 1 ∨ verd r (halfB 1 o) = 1 then 1 else 0
theorem verd_bit : ∀ {r : List Bool} {o : ByteArray}, tabN r.length o → verd r o = 0 ∨ verd r o = 1
  | [], o, h => by
    have h1 : 0 < o.data.toList.length := by have := h.1; rw [size_list] at this; rw [this]; exact Nat.one_pos
    have h2 := h.2 _ (mem_getD (d := 0) h1)
    unfold verd
    rcases h2 with h2 | h2 <;> rw [h2]
    · exact .inl rfl
    · exact .inr rfl
  | true :: r, o, h => by unfold verd; split <;> simp
  | false :: r, o, h => by unfold verd; split <;> simp
def hasB (c : UInt8) (o : ByteArray) : Bool := o.data.toList.contains c
def knownB (o : ByteArray) : Int := if hasB 49 o = true then (if hasB 48 o = true then -1 else 1) else 0
theorem verd_const {k : Int} {c : UInt8} (hc : (c.toNat : Int) - 48 = k) (hk : k = 0 ∨ k = 1) : ∀ {r : List Bool} {o : ByteArray}, tabN r.length o → (∀ b ∈ o.data.toList, b = c) → verd r o = k
  | [], o, h, ha => by
    have h1 : 0 < o.data.toList.length := by have := h.1; rw [size_list] at this; rw [this]; exact Nat.one_pos
    unfold verd
    rw [ha _ (mem_getD (d := 0) h1), hc]
  | true :: r, o, h, ha => by
    have h1 := verd_const hc hk (half_tab (v := 0) h rfl) fun b hb => ha b (ext_mem hb)
    have h2 := verd_const hc hk (half_tab (v := 1) h rfl) fun b hb => ha b (ext_mem hb)
    unfold verd
    rw [h1, h2]
    rcases hk with rfl | rfl <;> simp
  | false :: r, o, h, ha => by
    have h1 := verd_const hc hk (half_tab (v := 0) h rfl) fun b hb => ha b (ext_mem hb)
    have h2 := verd_const hc hk (half_tab (v := 1) h rfl) fun b hb => ha b (ext_mem hb)
    unfold verd
    rw [h1, h2]
    rcases hk with rfl | rfl <;> simp
theorem has_no {c : UInt8} {o : ByteArray} (h : hasB c o = false) : ∀ b ∈ o.data.toList, b ≠ c := fun b hb e => by
  subst e
  unfold hasB at h
  rw [List.contains_iff_mem.2 hb] at h; cases h
theorem known_bit {o : ByteArray} (h : 0 ≤ knownB o) : knownB o = 0 ∨ knownB o = 1 := by
  unfold knownB at *
  split at h
  · rename_i h1
    split at h
    · omega
    · rename_i h2
      rw [if_pos h1, if_neg h2]; simp
  · rename_i h1
    rw [if_neg h1]; simp
theorem known_ge (o : ByteArray) : -1 ≤ knownB o ∧ knownB o ≤ 1 := by
  unfold knownB
  repeat' split
  all_goals omega
theorem verd_known {r : List Bool} {o : ByteArray} (ht : tabN r.length o) (h : 0 ≤ knownB o) : verd r o = knownB o := by
  unfold knownB at *
  split at h
  · rename_i h1
    split at h
    · omega
    · rename_i h2
      rw [if_pos h1, if_neg h2]
      exact verd_const (c := 49) rfl (.inr rfl) ht fun b hb => (ht.2 b hb).resolve_left (has_no (by simpa using h2) b hb)
  · rename_i h1
    rw [if_neg h1]
    exact verd_const (c := 48) rfl (.inl rfl) ht fun b hb => (ht.2 b hb).resolve_right (has_no (by simpa using h1) b hb)
theorem known_one {o : ByteArray} (h : tabN 0 o) : 0 ≤ knownB o := by
  have hl : o.data.toList.length = 1 := by rw [← size_list]; exact h.1
  obtain ⟨x, hx⟩ := List.length_eq_one_iff.1 hl
  unfold knownB hasB
  rw [hx]
  have := h.2 x (by rw [hx]; simp)
  rcases this with e | e <;> subst e <;> decide
/-! ### A machine's steps -/
def findM (l : List Sn) (k : ByteArray) : Int := match l.find? fun s => decide (s.key = k) with
  | some s => s.ret
  | none => -1
def leftM (m : Mc) : ByteArray := leftB m.ones m.vals
def keyM (m : Mc) : ByteArray := keyB (m.n - m.vals.length) (leftM m)
def downM (m : Mc) : Mc := if 0 ≤ knownB (leftM m) then { m with ret := knownB (leftM m), looks := m.looks + 1 } else if 0 ≤ findM m.memo (keyM m) then { m with ret := findM m.memo (keyM m), hits := m.hits + 1 } else { m with vals := m.vals ++ [0] }
def pushM (m : Mc) : List Sn := if m.room < ((m.memo.length + 1 : Nat) : Int) then (m.memo ++ [(⟨keyM m, m.ret⟩ : Sn)]).drop 1 else m.memo ++ [(⟨keyM m, m.ret⟩ : Sn)]
def storeM (m : Mc) : Mc := if 0 < m.room ∧ findM m.memo (keyM m) < 0 then { m with memo := pushM m } else m
def upM (m : Mc) : Mc := if m.vals.length = 0 then { m with over := true } else
  if (m.row.getD (m.vals.length - 1) false ≠ decide (m.ret = 0)) ∧ m.vals.getD (m.vals.length - 1) 0 = 0 then { m with vals := m.vals.take (m.vals.length - 1) ++ [1], ret := -1 }
  else storeM { m with vals := m.vals.take (m.vals.length - 1) }
def stuckM (m : Mc) : Bool := m.over || (decide (m.steps = 1000000000) || (decide (m.looks = 1000000000) || decide (m.hits = 1000000000)))
def tickM (m : Mc) : Mc := { m with steps := m.steps + 1 }
def stepM (m : Mc) : Mc := if stuckM m = true then m else if m.ret < 0 then downM (tickM m) else upM (tickM m)
def runM : Nat → Mc → Mc
  | 0, m => m
  | n + 1, m => runM n (stepM m)
theorem runM_add : ∀ (a b : Nat) (m : Mc), runM (a + b) m = runM b (runM a m)
  | 0, b, m => by rw [Nat.zero_add]; rfl
  | a + 1, b, m => by rw [Nat.succ_add]; exact runM_add a b (stepM m)
theorem runM_stuck {m : Mc} (h : stuckM m = true) : ∀ n, runM n m = m
  | 0 => rfl
  | n + 1 => by
    have : stepM m = m := if_pos h
    rw [runM, this, runM_stuck h n]
theorem runM_last (n : Nat) (m : Mc) : runM (n + 1) m = stepM (runM n m) := by rw [runM_add n 1]; rfl
structure RightM (m : Mc) : Prop where
  n : 0 ≤ m.n ∧ m.n ≤ 12
  tab : tabN m.n.toNat m.ones
  row : (m.row.length : Int) = m.n
  room : 0 ≤ m.room ∧ m.room ≤ 40
  memo : (m.memo.length : Int) ≤ m.room
  vals : (m.vals.length : Int) ≤ m.n
  va : m.vals.all bitI = true
  ret : -1 ≤ m.ret ∧ m.ret ≤ 1
  over : m.over = true → 0 ≤ m.ret ∧ m.vals.length = 0
  mem : memN m.memo m.memo.length = true
  steps : 0 ≤ m.steps ∧ m.steps ≤ 1000000000
  looks : 0 ≤ m.looks ∧ m.looks ≤ 1000000000
  hits : 0 ≤ m.hits ∧ m.hits ≤ 1000000000
theorem mOk_iff {m : Mc} : mOk m = true ↔ RightM m := by
  unfold mOk mA mB' mC' mD' rowedB cntB inI
  simp only [Bool.and_eq_true, decide_eq_true_eq, Bool.not_eq_true', tab_iff]
  constructor
  · rintro ⟨⟨⟨⟨⟨⟨⟨⟨a0, a1⟩, a2⟩, a3, a4⟩, a5⟩, a6⟩, ⟨a7, a8, a9⟩, a10⟩, a11⟩, ⟨⟨a12, a13⟩, a14, a15⟩, a16, a17⟩
    refine RightM.mk a0 a1 a2 ⟨a3, a4⟩ a5 a6 a7 ⟨a8, a9⟩ (fun h => ?_) a11 ⟨a12, a13⟩ ⟨a14, a15⟩ ⟨a16, a17⟩
    rw [h, Bool.true_and, Bool.or_eq_false_iff, decide_eq_false_iff_not, decide_eq_false_iff_not] at a10
    omega
  · rintro ⟨a0, a1, a2, ⟨a3, a4⟩, a5, a6, a7, ⟨a8, a9⟩, h, a11, ⟨a12, a13⟩, ⟨a14, a15⟩, ⟨a16, a17⟩⟩
    refine ⟨⟨⟨⟨⟨⟨⟨⟨a0, a1⟩, a2⟩, a3, a4⟩, a5⟩, a6⟩, ⟨a7, a8, a9⟩, ?_⟩, a11⟩, ⟨⟨a12, a13⟩, a14, a15⟩, a16, a17⟩
    cases hb : m.over with
    | false => rfl
    | true =>
      have := h hb
      rw [decide_eq_false (by omega), decide_eq_false (by omega)]; rfl
theorem right_left {m : Mc} (h : RightM m) : tabN (m.n.toNat - m.vals.length) (leftM m) := left_tab h.tab h.va (by have := h.vals; omega)
/-- The memo: right verdicts, each key once. -/
theorem memN_iff : ∀ {l : List Sn} {n : Nat}, n ≤ l.length → (memN l n = true ↔ (∀ s ∈ l.take n, bitI s.ret = true) ∧ (l.take n).Pairwise fun a b => a.key ≠ b.key)
  | l, 0, _ => by simp [memN]
  | l, n + 1, h => by
    rw [memN, Bool.and_eq_true, Bool.and_eq_true, memN_iff (show n ≤ l.length by omega), take_push default (show n < l.length by omega), List.pairwise_append]
    have e : (!seenB (l.take n) (l.getD n default).key) = true ↔ ∀ a ∈ l.take n, ∀ b ∈ [l.getD n default], a.key ≠ b.key := by
      unfold seenB
      simp
    rw [e]
    constructor
    · rintro ⟨⟨h1, h2⟩, h3, h4⟩
      refine ⟨fun s hs => ?_, h2, by simp, h4⟩
      rcases List.mem_append.1 hs with hs | hs
      · exact h1 s hs
      · rw [List.mem_singleton.1 hs]; exact h3
    · rintro ⟨h1, h2, _, h4⟩
      exact ⟨⟨fun s hs => h1 s (List.mem_append_left _ hs), h2⟩, h1 _ (List.mem_append_right _ (by simp)), h4⟩
theorem mem_iff {l : List Sn} : memN l l.length = true ↔ (∀ s ∈ l, bitI s.ret = true) ∧ l.Pairwise fun a b => a.key ≠ b.key := by
  rw [memN_iff (Nat.le_refl _), List.take_length]
theorem find_none {l : List Sn} {k : ByteArray} (hr : ∀ s ∈ l, bitI s.ret = true) (h : findM l k < 0) : ∀ s ∈ l, s.key ≠ k := by
  unfold findM at h
  split at h
  · rename_i s hs
    have := bitI_le (hr s (List.mem_of_find?_eq_some hs))
    omega
  · rename_i hs
    intro s h1 h2
    have := List.find?_eq_none.1 hs s h1
    simp [h2] at this
theorem find_some {l : List Sn} {k : ByteArray} (h : 0 ≤ findM l k) : ∃ s ∈ l, s.key = k ∧ s.ret = findM l k := by
  unfold findM at h ⊢
  split at h
  · rename_i s hs
    have e := List.find?_some hs
    exact ⟨s, List.mem_of_find?_eq_some hs, by simpa using e, rfl⟩
  · omega
theorem push_mem {l : List Sn} {k : ByteArray} {r : Int} (h : memN l l.length = true) (hf : findM l k < 0) (hr : bitI r = true) : memN (l ++ [(⟨k, r⟩ : Sn)]) (l ++ [(⟨k, r⟩ : Sn)]).length = true ∧ memN ((l ++ [(⟨k, r⟩ : Sn)]).drop 1) ((l ++ [(⟨k, r⟩ : Sn)]).drop 1).length = true := by
  rw [mem_iff] at h
  have h2 : (∀ s ∈ l ++ [(⟨k, r⟩ : Sn)], bitI s.ret = true) ∧ (l ++ [(⟨k, r⟩ : Sn)]).Pairwise fun a b => a.key ≠ b.key := by
    refine ⟨fun s hs => ?_, ?_⟩
    · rcases List.mem_append.1 hs with hs | hs
      · exact h.1 s hs
      · rw [List.mem_singleton.1 hs]; exact hr
    · rw [List.pairwise_append]
      refine ⟨h.2, by simp, fun a ha b hb => ?_⟩
      rw [List.mem_singleton.1 hb]
      exact find_none h.1 hf a ha
  rw [mem_iff, mem_iff]
  exact ⟨h2, fun s hs => h2.1 s (List.mem_of_mem_drop hs), h2.2.sublist (List.drop_sublist _ _)⟩
theorem all_take {l : List Int} {k : Nat} (h : l.all bitI = true) : (l.take k).all bitI = true := List.all_eq_true.2 fun x hx => List.all_eq_true.1 h x (List.mem_of_mem_take hx)
theorem all_app1 {l : List Int} {v : Int} (h : l.all bitI = true) (hv : bitI v = true) : (l ++ [v]).all bitI = true := by rw [List.all_append, h]; simp [hv]
theorem store_right {m : Mc} (h : RightM m) (hr : 0 ≤ m.ret) : RightM (storeM m) := by
  unfold storeM
  split
  · rename_i hc
    have hp := push_mem h.mem hc.2 (r := m.ret) (by unfold bitI; have := h.ret; exact decide_eq_true (by omega))
    have hm := h.memo
    refine { h with memo := ?_, mem := ?_ }
    · show ((pushM m).length : Int) ≤ m.room
      unfold pushM
      split <;> simp <;> omega
    · show memN (pushM m) (pushM m).length = true
      unfold pushM
      split
      · exact hp.2
      · exact hp.1
  · exact h
theorem stuck_no {m : Mc} (h : ¬ stuckM m = true) : m.over = false ∧ m.steps ≠ 1000000000 ∧ m.looks ≠ 1000000000 ∧ m.hits ≠ 1000000000 := by
  unfold stuckM at h
  simp only [Bool.or_eq_true, decide_eq_true_eq, not_or, Bool.not_eq_true] at h
  exact h
theorem step_right {m : Mc} (h : RightM m) : RightM (stepM m) := by
  unfold stepM
  split
  · exact h
  rename_i hs
  obtain ⟨h1, h2, h3, h4⟩ := stuck_no hs
  have b1 := h.steps
  have b2 := h.looks
  have b3 := h.hits
  have ht : RightM (tickM m) := { h with steps := ⟨by show 0 ≤ m.steps + 1; omega, by show m.steps + 1 ≤ _; omega⟩ }
  split
  · rename_i hr
    unfold downM
    split
    · rename_i hk
      have := known_ge (leftM (tickM m))
      exact { ht with ret := ⟨by show -1 ≤ knownB _; omega, this.2⟩, looks := ⟨by show 0 ≤ m.looks + 1; omega, by show m.looks + 1 ≤ _; omega⟩, over := fun h => absurd (show m.over = true from h) (by rw [h1]; simp) }
    · rename_i hk
      split
      · rename_i hf
        obtain ⟨s, h5, h6, h7⟩ := find_some hf
        have := bitI_le ((mem_iff.1 h.mem).1 s h5)
        exact { ht with ret := ⟨by show -1 ≤ findM _ _; omega, by show findM _ _ ≤ 1; omega⟩, hits := ⟨by show 0 ≤ m.hits + 1; omega, by show m.hits + 1 ≤ _; omega⟩, over := fun h => absurd (show m.over = true from h) (by rw [h1]; simp) }
      · have hv := h.vals
        refine { ht with vals := ?_, va := all_app1 h.va rfl, over := fun h => absurd (show m.over = true from h) (by rw [h1]; simp) }
        show ((m.vals ++ [0]).length : Int) ≤ m.n
        rw [List.length_append, List.length_cons, List.length_nil]
        rcases Nat.lt_or_ge m.vals.length m.n.toNat with hl | hl
        · omega
        · exfalso
          have := right_left h
          rw [show m.n.toNat - m.vals.length = 0 by omega] at this
          exact hk (known_one this)
  · rename_i hr
    unfold upM
    split
    · rename_i hl
      exact { ht with over := fun _ => ⟨by show 0 ≤ m.ret; have : ¬ m.ret < 0 := hr; omega, hl⟩ }
    · rename_i hl
      have hv : ((tickM m).vals.length : Int) ≤ m.n := h.vals
      have hl' : ¬ m.vals.length = 0 := hl
      have hv' : (m.vals.length : Int) ≤ m.n := hv
      split
      · refine { ht with vals := ?_, va := all_app1 (all_take h.va) rfl, ret := ⟨by show -1 ≤ (-1 : Int); decide, by show (-1 : Int) ≤ 1; decide⟩, over := fun h => absurd (show m.over = true from h) (by rw [h1]; simp) }
        show ((m.vals.take (m.vals.length - 1) ++ [1]).length : Int) ≤ m.n
        rw [List.length_append, List.length_take, List.length_cons, List.length_nil]
        omega
      · refine store_right { ht with vals := ?_, va := all_take h.va, over := fun h => absurd (show m.over = true from h) (by rw [h1]; simp) } (by show 0 ≤ m.ret; have : ¬ m.ret < 0 := hr; omega)
        show ((m.vals.take (m.vals.length - 1)).length : Int) ≤ m.n
        rw [List.length_take]
        omega
theorem run_right : ∀ (n : Nat) {m : Mc}, RightM m → RightM (runM n m)
  | 0, _, h => h
  | n + 1, _, h => run_right n (step_right h)
/-! ### What is remembered is true -/
theorem app_inj58 : ∀ {a b x y : List UInt8}, (∀ c ∈ a, c ≠ 58) → (∀ c ∈ b, c ≠ 58) → a ++ 58 :: x = b ++ 58 :: y → a = b ∧ x = y
  | [], [], x, y, _, _, h => ⟨rfl, by simpa using h⟩
  | [], c :: b, x, y, _, hb, h => by
    have : 58 = c := (List.cons.inj h).1
    exact absurd this.symm (hb c List.mem_cons_self)
  | c :: a, [], x, y, ha, _, h => by
    have : c = 58 := (List.cons.inj h).1
    exact absurd this (ha c List.mem_cons_self)
  | c :: a, d :: b, x, y, ha, hb, h => by
    have h1 := List.cons.inj h
    have := app_inj58 (fun z hz => ha z (List.mem_cons_of_mem _ hz)) (fun z hz => hb z (List.mem_cons_of_mem _ hz)) h1.2
    rw [h1.1, this.1]
    exact ⟨rfl, this.2⟩
theorem dig58 {n : Nat} : ∀ c ∈ decL n, c ≠ 58 := fun c hc e => by
  have := List.all_eq_true.1 (decL_dig n) c hc
  rw [e] at this
  revert this; decide
theorem keyB_inj {n m : Int} {o p : ByteArray} (hn : 0 ≤ n) (hm : 0 ≤ m) (h : keyB n o = keyB m p) : n = m ∧ o = p := by
  have := congrArg (fun b : ByteArray => b.data.toList) h
  simp only [keyB_list] at this
  have h2 := app_inj58 dig58 dig58 this
  have h3 := congrArg numV h2.1
  rw [decL_num, decL_num] at h3
  exact ⟨by omega, ba_ext h2.2⟩
/-- A verdict that is remembered. -/
def trueS (row : List Bool) (s : Sn) : Prop := ∃ (k : Nat) (o : ByteArray), s.key = keyB k o ∧ k ≤ row.length ∧ tabN k o ∧ verd (row.drop (row.length - k)) o = s.ret
structure GoodM (m : Mc) : Prop where
  right : RightM m
  six : m.n ≤ 6
  memo : ∀ s ∈ m.memo, trueS m.row s
  ended : 0 ≤ m.ret → verd (m.row.drop m.vals.length) (leftM m) = m.ret
  first : ∀ d, d < m.vals.length → m.vals.getD d 0 = 1 → m.row.getD d false ≠ decide (verd (m.row.drop (d + 1)) (leftB m.ones (m.vals.take d ++ [0])) = 0)
theorem key_true {m : Mc} (h : RightM m) {r : Int} (hv : verd (m.row.drop m.vals.length) (leftM m) = r) : trueS m.row ⟨keyM m, r⟩ := by
  have hn := h.n
  have hw := h.row
  have hl := h.vals
  refine ⟨m.n.toNat - m.vals.length, leftM m, ?_, by omega, right_left h, ?_⟩
  · show keyB (m.n - m.vals.length) _ = _
    congr 1
    omega
  · rw [show m.row.length - (m.n.toNat - m.vals.length) = m.vals.length by omega]
    exact hv
theorem drop_getD {l : List Bool} {k : Nat} (h : k < l.length) : l.drop k = l.getD k false :: l.drop (k + 1) := by
  rw [List.drop_eq_getElem_cons h, getD_at (d := false) h]
theorem find_true {m : Mc} (h : RightM m) (ht : ∀ s ∈ m.memo, trueS m.row s) (hf : 0 ≤ findM m.memo (keyM m)) : verd (m.row.drop m.vals.length) (leftM m) = findM m.memo (keyM m) := by
  obtain ⟨s, h1, h2, h3⟩ := find_some hf
  obtain ⟨k, o, h4, h5, h6, h7⟩ := ht s h1
  have hn := h.n
  have hw := h.row
  have hl := h.vals
  have := keyB_inj (by omega) (by omega) (h4.symm.trans h2)
  rw [← h3, ← h7, this.2, show m.row.length - k = m.vals.length by omega]
theorem store_good {m : Mc} (h : GoodM m) (hr : 0 ≤ m.ret) : GoodM (storeM m) := by
  have h0 := store_right h.right hr
  unfold storeM at h0 ⊢
  split at h0
  · rename_i hc
    rw [if_pos hc]
    refine { right := h0, six := h.six, memo := ?_, ended := h.ended, first := h.first }
    have hp : ∀ s ∈ m.memo ++ [(⟨keyM m, m.ret⟩ : Sn)], trueS m.row s := fun s hs => by
      rcases List.mem_append.1 hs with hs | hs
      · exact h.memo s hs
      · rw [List.mem_singleton.1 hs]
        exact key_true h.right (h.ended hr)
    show ∀ s ∈ pushM m, trueS m.row s
    unfold pushM
    split
    · exact fun s hs => hp s (List.mem_of_mem_drop hs)
    · exact hp
  · rename_i hc
    rw [if_neg hc]
    exact h
theorem take_app {l : List Int} {k : Nat} (h : k = l.length) (x : List Int) : (l ++ x).take k = l := by subst h; simp
theorem first_take {l : List Int} {d k : Nat} (h : d < k) (hk : k ≤ l.length) : (l.take k).getD d 0 = l.getD d 0 ∧ (l.take k).take d = l.take d := by
  refine ⟨?_, by rw [List.take_take]; congr 1; omega⟩
  rw [List.getD_eq_getElem?_getD, List.getD_eq_getElem?_getD, List.getElem?_take_of_lt h]
theorem step_good {m : Mc} (h : GoodM m) : GoodM (stepM m) := by
  have hR := step_right h.right
  unfold stepM at hR ⊢
  split
  · exact h
  rename_i hs
  rw [if_neg hs] at hR
  split at hR
  · rename_i hr
    rw [if_pos hr]
    have hl : leftM (tickM m) = leftM m := rfl
    have ht := right_left h.right
    have hn := h.right.n
    have hw := h.right.row
    have hv := h.right.vals
    unfold downM at hR ⊢
    split at hR
    · rename_i hk
      rw [if_pos hk]
      refine { right := hR, six := h.six, memo := h.memo, ended := fun _ => ?_, first := h.first }
      refine verd_known (r := m.row.drop m.vals.length) (o := leftM m) ?_ hk
      rw [List.length_drop, show m.row.length - m.vals.length = m.n.toNat - m.vals.length by omega]; exact ht
    · rename_i hk
      rw [if_neg hk]
      split at hR
      · rename_i hf
        rw [if_pos hf]
        exact { right := hR, six := h.six, memo := h.memo, ended := fun _ => find_true (m := m) h.right h.memo hf, first := h.first }
      · rename_i hf
        rw [if_neg hf]
        refine { right := hR, six := h.six, memo := h.memo, ended := fun h0 => absurd (show 0 ≤ m.ret from h0) (by omega), first := ?_ }
        intro d hd h1
        have hd' : d < (m.vals ++ [0]).length := hd
        have h1' : (m.vals ++ [0]).getD d 0 = 1 := h1
        rw [List.length_append, List.length_cons, List.length_nil] at hd'
        rcases Nat.lt_or_ge d m.vals.length with hlt | hge
        · have e : (m.vals ++ [0]).getD d 0 = m.vals.getD d 0 := by rw [List.getD_eq_getElem?_getD, List.getElem?_append_left hlt, ← List.getD_eq_getElem?_getD]
          have := h.first d hlt (by rw [← e]; exact h1')
          show m.row.getD d false ≠ decide (verd (m.row.drop (d + 1)) (leftB m.ones ((m.vals ++ [0]).take d ++ [0])) = 0)
          rw [List.take_append_of_le_length (by omega)]
          exact this
        · have e : d = m.vals.length := by omega
          subst e
          rw [List.getD_eq_getElem?_getD, List.getElem?_append_right (Nat.le_refl _), Nat.sub_self] at h1'
          simp at h1'
  · rename_i hr
    rw [if_neg hr]
    have hn := h.right.n
    have hw := h.right.row
    have hv := h.right.vals
    have hr0 : 0 ≤ m.ret := by omega
    unfold upM at hR ⊢
    split at hR
    · rename_i hl
      rw [if_pos hl]
      exact { right := hR, six := h.six, memo := h.memo, ended := h.ended, first := h.first }
    · rename_i hl
      rw [if_neg hl]
      have hl' : ¬ m.vals.length = 0 := hl
      have ev : m.vals = m.vals.take (m.vals.length - 1) ++ [m.vals.getD (m.vals.length - 1) 0] := by
        rw [← take_push 0 (show m.vals.length - 1 < m.vals.length by omega), show m.vals.length - 1 + 1 = m.vals.length by omega, List.take_length]
      have hlt : (m.vals.take (m.vals.length - 1)).length = m.vals.length - 1 := by rw [List.length_take]; omega
      have hend := h.ended hr0
      split at hR
      · rename_i hc
        rw [if_pos hc]
        obtain ⟨hc1, hc2⟩ : (m.row.getD (m.vals.length - 1) false ≠ decide (m.ret = 0)) ∧ m.vals.getD (m.vals.length - 1) 0 = 0 := hc
        refine { right := hR, six := h.six, memo := h.memo, ended := fun h0 => absurd (show (0 : Int) ≤ -1 from h0) (by decide), first := ?_ }
        intro d hd h1
        have hd' : d < (m.vals.take (m.vals.length - 1) ++ [1]).length := hd
        have h1' : (m.vals.take (m.vals.length - 1) ++ [1]).getD d 0 = 1 := h1
        rw [List.length_append, hlt, List.length_cons, List.length_nil] at hd'
        show m.row.getD d false ≠ decide (verd (m.row.drop (d + 1)) (leftB m.ones ((m.vals.take (m.vals.length - 1) ++ [1]).take d ++ [0])) = 0)
        rcases Nat.lt_or_ge d (m.vals.length - 1) with hlt2 | hge
        · have e : (m.vals.take (m.vals.length - 1) ++ [1]).getD d 0 = m.vals.getD d 0 := by
            rw [List.getD_eq_getElem?_getD, List.getElem?_append_left (by omega), ← List.getD_eq_getElem?_getD, (first_take hlt2 (by omega)).1]
          have := h.first d (by omega) (by rw [← e]; exact h1')
          rw [List.take_append_of_le_length (by omega), (first_take hlt2 (by omega)).2]
          exact this
        · have e : d = m.vals.length - 1 := by omega
          subst e
          rw [take_app hlt.symm]
          rw [hc2] at ev
          rw [← ev]
          have : m.vals.length - 1 + 1 = m.vals.length := by omega
          rw [this]
          have h2 : verd (m.row.drop m.vals.length) (leftB m.ones m.vals) = m.ret := hend
          rw [h2]
          exact hc1
      · rename_i hc
        rw [if_neg hc]
        have hc' : ¬ ((m.row.getD (m.vals.length - 1) false ≠ decide (m.ret = 0)) ∧ m.vals.getD (m.vals.length - 1) 0 = 0) := hc
        have hr1 := h.right.ret
        -- the machine with the last value taken off
        have hR2 : RightM { tickM m with vals := m.vals.take (m.vals.length - 1) } := by
          obtain ⟨s1, s2, s3, s4⟩ := stuck_no hs
          have b1 := h.right.steps
          exact { h.right with steps := ⟨by show 0 ≤ m.steps + 1; omega, by show m.steps + 1 ≤ _; omega⟩, vals := (by show ((m.vals.take (m.vals.length - 1)).length : Int) ≤ m.n; omega), va := all_take h.right.va, over := fun h => absurd (show m.over = true from h) (by rw [s1]; simp) }
        refine store_good (m := { tickM m with vals := m.vals.take (m.vals.length - 1) }) { right := hR2, six := h.six, memo := h.memo, ended := fun _ => ?_, first := ?_ } hr0
        · show verd (m.row.drop (m.vals.take (m.vals.length - 1)).length) (leftB m.ones (m.vals.take (m.vals.length - 1))) = m.ret
          rw [hlt, drop_getD (show m.vals.length - 1 < m.row.length by omega), show m.vals.length - 1 + 1 = m.vals.length by omega]
          have hend2 : verd (m.row.drop m.vals.length) (halfB (m.vals.getD (m.vals.length - 1) 0) (leftB m.ones (m.vals.take (m.vals.length - 1)))) = m.ret := by
            rw [← leftB_push, ← ev]; exact hend
          have hbit : m.vals.getD (m.vals.length - 1) 0 = 0 ∨ m.vals.getD (m.vals.length - 1) 0 = 1 := by
            have := bitI_le (List.all_eq_true.1 h.right.va _ (mem_getD (d := 0) (show m.vals.length - 1 < m.vals.length by omega)))
            omega
          have hfst := h.first (m.vals.length - 1) (by omega)
          rw [leftB_push, show m.vals.length - 1 + 1 = m.vals.length by omega] at hfst
          have hb0 : verd (m.row.drop m.vals.length) (halfB 0 (leftB m.ones (m.vals.take (m.vals.length - 1)))) = 0 ∨ verd (m.row.drop m.vals.length) (halfB 0 (leftB m.ones (m.vals.take (m.vals.length - 1)))) = 1 := by
            refine verd_bit ?_
            rw [List.length_drop]
            have := left_tab h.right.tab (all_take (k := m.vals.length - 1) h.right.va) (by omega)
            rw [hlt, show m.n.toNat - (m.vals.length - 1) = (m.n.toNat - m.vals.length) + 1 by omega] at this
            have h3 := half_tab (v := 0) this rfl
            rwa [show m.row.length - m.vals.length = m.n.toNat - m.vals.length by omega]
          generalize leftB m.ones (m.vals.take (m.vals.length - 1)) = X at hend2 hfst hb0 ⊢
          generalize m.vals.getD (m.vals.length - 1) 0 = v at hend2 hfst hbit hc' ⊢
          generalize m.row.getD (m.vals.length - 1) false = b at hfst hc' ⊢
          generalize m.row.drop m.vals.length = R at hend2 hfst hb0 ⊢
          have hret : m.ret = 0 ∨ m.ret = 1 := by omega
          generalize m.ret = x at hret hend2 hc' ⊢
          rcases hbit with hv0 | hv0
          · subst hv0
            have hd0 : b = decide (x = 0) := Decidable.byContradiction fun e => hc' ⟨e, rfl⟩
            rcases hret with e | e <;> subst e
            · have : b = true := hd0
              subst this
              show (if verd R (halfB 0 X) = 1 ∧ verd R (halfB 1 X) = 1 then (1 : Int) else 0) = 0
              rw [if_neg (by rw [hend2]; simp)]
            · have : b = false := hd0
              subst this
              show (if verd R (halfB 0 X) = 1 ∨ verd R (halfB 1 X) = 1 then (1 : Int) else 0) = 1
              rw [if_pos (.inl hend2)]
          · subst hv0
            have h4 := hfst rfl
            cases b with
            | true =>
              have h5 : verd R (halfB 0 X) = 1 := hb0.resolve_left fun e => h4 (by rw [e]; rfl)
              show (if verd R (halfB 0 X) = 1 ∧ verd R (halfB 1 X) = 1 then (1 : Int) else 0) = x
              rw [hend2, h5]
              rcases hret with e | e <;> subst e <;> simp
            | false =>
              have h5 : verd R (halfB 0 X) = 0 := hb0.resolve_right fun e => h4 (by rw [e]; rfl)
              show (if verd R (halfB 0 X) = 1 ∨ verd R (halfB 1 X) = 1 then (1 : Int) else 0) = x
              rw [hend2, h5]
              rcases hret with e | e <;> subst e <;> simp
        · intro d hd h1
          have hd' : d < (m.vals.take (m.vals.length - 1)).length := hd
          have h1' : (m.vals.take (m.vals.length - 1)).getD d 0 = 1 := h1
          rw [hlt] at hd'
          have e := first_take (l := m.vals) hd' (by omega)
          rw [e.1] at h1'
          show m.row.getD d false ≠ decide (verd (m.row.drop (d + 1)) (leftB m.ones ((m.vals.take (m.vals.length - 1)).take d ++ [0])) = 0)
          rw [e.2]
          exact h.first d (by omega) h1'
theorem run_good : ∀ (n : Nat) {m : Mc}, GoodM m → GoodM (runM n m)
  | 0, _, h => h
  | n + 1, _, h => run_good n (step_good h)

/-! ### It ends -/
def costN : Nat → Nat
  | 0 => 1
  | n + 1 => 2 * costN n + 3
def pendN : Nat → List Int → Nat
  | _, [] => 0
  | n, v :: r => (if v = 0 then costN (n - 1) + 2 else 1) + pendN (n - 1) r
theorem pend_app : ∀ (l : List Int) (n : Nat) (v : Int), pendN n (l ++ [v]) = pendN n l + (if v = 0 then costN (n - l.length - 1) + 2 else 1)
  | [], n, v => by simp [pendN]
  | w :: l, n, v => by
    simp only [List.cons_append, pendN, pend_app l (n - 1) v, List.length_cons]
    rw [show n - 1 - l.length - 1 = n - (l.length + 1) - 1 by omega]
    omega
theorem pend_le : ∀ (l : List Int) (n : Nat), l.length ≤ n → costN (n - l.length) + pendN n l ≤ costN n
  | [], n, _ => by simp [pendN]
  | v :: l, n, h => by
    have h1 : l.length ≤ n - 1 := by simp at h; omega
    have ih := pend_le l (n - 1) h1
    have e : n = (n - 1) + 1 := by simp at h; omega
    have h2 : costN n = 2 * costN (n - 1) + 3 := by rw [e]; rfl
    rw [List.length_cons, show n - (l.length + 1) = n - 1 - l.length by omega, pendN, h2]
    split <;> omega
theorem costN_pos (n : Nat) : 1 ≤ costN n := by cases n <;> simp [costN]
def muM (m : Mc) : Nat := if m.over = true then 0 else (if m.ret < 0 then costN (m.n.toNat - m.vals.length) else 0) + pendN m.n.toNat m.vals + 1
theorem mu_le {m : Mc} (h : RightM m) : muM m ≤ costN m.n.toNat + 1 := by
  have := pend_le m.vals m.n.toNat (by have := h.vals; omega)
  unfold muM
  split
  · omega
  · split <;> omega
theorem mu_six {m : Mc} (h : RightM m) (h6 : m.n ≤ 6) : muM m ≤ 254 := by
  have h1 := mu_le h
  have h2 := h.n
  have : m.n.toNat = 0 ∨ m.n.toNat = 1 ∨ m.n.toNat = 2 ∨ m.n.toNat = 3 ∨ m.n.toNat = 4 ∨ m.n.toNat = 5 ∨ m.n.toNat = 6 := by omega
  rcases this with e | e | e | e | e | e | e <;> rw [e] at h1 <;> simp [costN] at h1 <;> omega
theorem store_mu (m : Mc) : muM (storeM m) = muM m := by
  unfold storeM
  split <;> rfl
theorem step_mu {m : Mc} (h : RightM m) (hs : ¬ stuckM m = true) : muM (stepM m) < muM m := by
  obtain ⟨h1, h2, h3, h4⟩ := stuck_no hs
  have hv := h.vals
  have e0 : muM m = (if m.ret < 0 then costN (m.n.toNat - m.vals.length) else 0) + pendN m.n.toNat m.vals + 1 := by
    unfold muM
    rw [if_neg (by rw [h1]; simp)]
  have hover : ∀ x : Mc, x.over = m.over → muM x = (if x.ret < 0 then costN (x.n.toNat - x.vals.length) else 0) + pendN x.n.toNat x.vals + 1 := fun x hx => by
    unfold muM
    rw [if_neg (by rw [hx, h1]; simp)]
  have key : ∀ x : Mc, x.over = m.over → (if x.ret < 0 then costN (x.n.toNat - x.vals.length) else 0) + pendN x.n.toNat x.vals + 1 < muM m → muM x < muM m := fun x hx h => by rw [hover x hx]; exact h
  unfold stepM
  rw [if_neg hs]
  by_cases hr : m.ret < 0
  · rw [if_pos hr] at e0 ⊢
    have hc := costN_pos (m.n.toNat - m.vals.length)
    unfold downM
    split
    · rename_i hk
      refine key _ rfl ?_
      show (if knownB (leftM (tickM m)) < 0 then _ else 0) + pendN m.n.toNat m.vals + 1 < _
      rw [if_neg (by omega)]
      omega
    · rename_i hk
      split
      · rename_i hf
        refine key _ rfl ?_
        show (if findM (tickM m).memo (keyM (tickM m)) < 0 then _ else 0) + pendN m.n.toNat m.vals + 1 < _
        rw [if_neg (by omega)]
        omega
      · have hl : m.vals.length < m.n.toNat := by
          rcases Nat.lt_or_ge m.vals.length m.n.toNat with hl | hl
          · exact hl
          · exfalso
            have := right_left h
            rw [show m.n.toNat - m.vals.length = 0 by omega] at this
            exact hk (known_one this)
        refine key _ rfl ?_
        show (if m.ret < 0 then costN (m.n.toNat - (m.vals ++ [0]).length) else 0) + pendN m.n.toNat (m.vals ++ [0]) + 1 < _
        rw [if_pos hr, pend_app, if_pos rfl, List.length_append, List.length_cons, List.length_nil, e0]
        have e1 : costN (m.n.toNat - m.vals.length) = 2 * costN (m.n.toNat - m.vals.length - 1) + 3 := by
          rw [show m.n.toNat - m.vals.length = (m.n.toNat - m.vals.length - 1) + 1 by omega]; rfl
        rw [show m.n.toNat - (m.vals.length + (0 + 1)) = m.n.toNat - m.vals.length - 1 by omega]
        omega
  · rw [if_neg hr] at e0 ⊢
    unfold upM
    split
    · show (if true = true then 0 else _) < _
      rw [if_pos rfl]
      omega
    · rename_i hl
      have hl' : ¬ m.vals.length = 0 := hl
      have ev : m.vals = m.vals.take (m.vals.length - 1) ++ [m.vals.getD (m.vals.length - 1) 0] := by
        rw [← take_push 0 (show m.vals.length - 1 < m.vals.length by omega), show m.vals.length - 1 + 1 = m.vals.length by omega, List.take_length]
      have hlt : (m.vals.take (m.vals.length - 1)).length = m.vals.length - 1 := by rw [List.length_take]; omega
      have e1 := pend_app (m.vals.take (m.vals.length - 1)) m.n.toNat (m.vals.getD (m.vals.length - 1) 0)
      rw [← ev] at e1
      split
      · rename_i hc
        have hc2 : m.vals.getD (m.vals.length - 1) 0 = 0 := hc.2
        rw [hc2, if_pos rfl] at e1
        refine key _ rfl ?_
        show (if (-1 : Int) < 0 then costN (m.n.toNat - (m.vals.take (m.vals.length - 1) ++ [1]).length) else 0) + pendN m.n.toNat (m.vals.take (m.vals.length - 1) ++ [1]) + 1 < _
        rw [if_pos (by decide), pend_app, if_neg (by decide), List.length_append, hlt, List.length_cons, List.length_nil, e0, e1, hlt]
        rw [show m.n.toNat - (m.vals.length - 1 + (0 + 1)) = m.n.toNat - (m.vals.length - 1) - 1 by omega]
        omega
      · rw [store_mu]
        refine key _ rfl ?_
        show (if m.ret < 0 then _ else 0) + pendN m.n.toNat (m.vals.take (m.vals.length - 1)) + 1 < _
        rw [if_neg hr, e0, e1]
        split <;> omega
/-- What is counted. -/
structure CntM (m : Mc) (k : Int) : Prop where
  steps : m.steps ≤ k
  looks : m.looks ≤ k
  hits : m.hits ≤ k
theorem step_cnt {m : Mc} {k : Int} (h : CntM m k) : CntM (stepM m) (k + 1) := by
  have h1 := h.steps
  have h2 := h.looks
  have h3 := h.hits
  unfold stepM
  split
  · exact ⟨by omega, by omega, by omega⟩
  split
  · unfold downM
    split
    · exact ⟨by show m.steps + 1 ≤ _; omega, by show m.looks + 1 ≤ _; omega, by show m.hits ≤ _; omega⟩
    · split
      · exact ⟨by show m.steps + 1 ≤ _; omega, by show m.looks ≤ _; omega, by show m.hits + 1 ≤ _; omega⟩
      · exact ⟨by show m.steps + 1 ≤ _; omega, by show m.looks ≤ _; omega, by show m.hits ≤ _; omega⟩
  · unfold upM
    split
    · exact ⟨by show m.steps + 1 ≤ _; omega, by show m.looks ≤ _; omega, by show m.hits ≤ _; omega⟩
    · split
      · exact ⟨by show m.steps + 1 ≤ _; omega, by show m.looks ≤ _; omega, by show m.hits ≤ _; omega⟩
      · unfold storeM
        split <;> exact ⟨by show m.steps + 1 ≤ _; omega, by show m.looks ≤ _; omega, by show m.hits ≤ _; omega⟩
theorem run_cnt : ∀ (n : Nat) {m : Mc} {k : Int}, CntM m k → CntM (runM n m) (k + n)
  | 0, _, _, h => by
    have h1 := h.steps
    have h2 := h.looks
    have h3 := h.hits
    exact ⟨by show _ ≤ _; simp [runM]; exact h1, by show _ ≤ _; simp [runM]; exact h2, by show _ ≤ _; simp [runM]; exact h3⟩
  | n + 1, m, k, h => by
    have := run_cnt n (step_cnt h)
    rw [runM, show k + ((n + 1 : Nat) : Int) = k + 1 + (n : Int) by omega]
    exact this
theorem run_over : ∀ (n : Nat) {m : Mc} {k : Int}, RightM m → CntM m k → k + n < 1000000000 → muM m ≤ n → (runM n m).over = true
  | 0, m, k, h, hc, hk, hm => by
    unfold muM at hm
    split at hm
    · assumption
    · omega
  | n + 1, m, k, h, hc, hk, hm => by
    by_cases hs : stuckM m = true
    · rw [runM_stuck hs]
      unfold stuckM at hs
      have h1 := hc.steps
      have h2 := hc.looks
      have h3 := hc.hits
      simp only [Bool.or_eq_true, decide_eq_true_eq] at hs
      rcases hs with hs | hs | hs | hs
      · exact hs
      all_goals omega
    · have := step_mu h hs
      exact run_over n (step_right h) (step_cnt hc) (by omega) (by omega)
theorem over_step {m : Mc} (h : m.over = true) : stepM m = m := if_pos (by unfold stuckM; rw [h]; rfl)
end Go.Proofs.YtonacngeaknlcaaGreatDoor.RE
