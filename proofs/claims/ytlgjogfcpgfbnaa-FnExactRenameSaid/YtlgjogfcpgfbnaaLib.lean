/- Plain lemmas on bytes, decimal texts, rounds: no Go, no memory. -/
import Derived.Test.YtlgjogfcpgfbnaaWWords
import Derived.Lib.Strings
namespace Go.Proofs.Ytlgjogfcpgfbnaa.Lib0
open Go.RowKit Go.Proofs.YtlgjogfcpgfbnaaW.PrintWords

/-! ### rounds -/
theorem Ev.pos {α : Type} {c : Prop} [Decidable c] {A B : Nat → Option α} {r : α} (h : c) (k : Ev A r) : Ev (fun n => if c then A n else B n) r := by
  obtain ⟨K, k⟩ := k
  exact ⟨K, fun n hn => by simp only [if_pos h]; exact k n hn⟩
theorem Ev.neg {α : Type} {c : Prop} [Decidable c] {A B : Nat → Option α} {r : α} (h : ¬ c) (k : Ev B r) : Ev (fun n => if c then A n else B n) r := by
  obtain ⟨K, k⟩ := k
  exact ⟨K, fun n hn => by simp only [if_neg h]; exact k n hn⟩
theorem Ev.eq {α : Type} {g : Nat → Option α} {r s : α} (k : Ev g r) (h : r = s) : Ev g s := by rw [← h]; exact k
theorem Ev.bindc {α β : Type} {g : Option α} {f : Nat → α → Option β} {a : α} {r : β} (h : g = some a) (k : Ev (fun n => f n a) r) : Ev (fun n => g.bind (f n)) r := by
  obtain ⟨K, k⟩ := k
  exact ⟨K, fun n hn => by rw [h]; exact k n hn⟩

/-! ### bytes -/
theorem ba_ext {s t : ByteArray} (h : s.data.toList = t.data.toList) : s = t := by
  obtain ⟨a⟩ := s; obtain ⟨b⟩ := t; have h1 : a = b := Array.toList_inj.1 h; rw [h1]
theorem toList_data (s : ByteArray) : s.toList = s.data.toList := ByteArray.toList_eq s
theorem toList_inj {s t : ByteArray} : s.toList = t.toList ↔ s = t := by
  constructor
  · intro h; rw [toList_data, toList_data] at h; exact ba_ext h
  · rintro rfl; rfl
theorem size_data (s : ByteArray) : s.size = s.data.toList.length := Lib.size_eq s
theorem append_data (s t : ByteArray) : (s ++ t).data.toList = s.data.toList ++ t.data.toList := by simp
theorem extract_data (s : ByteArray) (a b : Nat) : (s.extract a b).data.toList = (s.data.toList.drop a).take (b - a) := Lib.extract_data s a b
theorem mk_data (l : List UInt8) : (⟨l.toArray⟩ : ByteArray).data.toList = l := rfl
theorem append_size (s t : ByteArray) : (s ++ t).size = s.size + t.size := by simp
theorem bt_data (s : ByteArray) (i : Nat) : bt s (i : Int) = if h : i < s.data.toList.length then ((s.data.toList[i]'h).toNat : Int) else 0 := by
  unfold bt
  simp only [Int.toNat_natCast]
  by_cases h : i < s.size
  · have h' : i < s.data.toList.length := by rw [← size_data]; exact h
    rw [dif_pos h, dif_pos h']
    rfl
  · have h' : ¬ i < s.data.toList.length := by rw [← size_data]; exact h
    rw [dif_neg h, dif_neg h']
theorem wrap64_id {n : Int} (h0 : -9223372036854775808 ≤ n) (h1 : n ≤ 9223372036854775807) : wrap64 n = n := by
  unfold wrap64; omega
theorem wrapu64_id {n : Int} (h0 : 0 ≤ n) (h1 : n ≤ 18446744073709551615) : IntKind.u64.wrap n = n := by
  have : IntKind.u64.wrap n = n % 18446744073709551616 := rfl
  rw [this]; omega
theorem wrapu64_eq (n : Int) : IntKind.u64.wrap n = n % 18446744073709551616 := rfl

/-! ### decimal texts -/
def dig (n : Nat) : UInt8 := UInt8.ofNat (48 + n % 10)
def decL (n : Nat) : List UInt8 := if n < 10 then [dig n] else decL (n / 10) ++ [dig n]
termination_by n
theorem decL_lt {n : Nat} (h : n < 10) : decL n = [dig n] := by rw [decL, if_pos h]
theorem decL_ge {n : Nat} (h : 10 ≤ n) : decL n = decL (n / 10) ++ [dig n] := by rw [decL, if_neg (by omega)]
theorem decL_ne (n : Nat) : decL n ≠ [] := by
  by_cases h : n < 10
  · rw [decL_lt h]; simp
  · rw [decL_ge (by omega)]; simp
def decZ (n : Nat) : List UInt8 := if n = 0 then [] else decL n
theorem decZ_zero : decZ 0 = [] := rfl
theorem decZ_step {n : Nat} (h : n ≠ 0) : decZ n = decZ (n / 10) ++ [dig n] := by
  unfold decZ
  rw [if_neg h]
  by_cases h1 : n < 10
  · rw [decL_lt h1, if_pos (by omega)]; rfl
  · rw [decL_ge (by omega), if_neg (by omega)]
theorem decL_step (n : Nat) : decL n = decZ (n / 10) ++ [dig n] := by
  by_cases h : n < 10
  · rw [decL_lt h]; unfold decZ; rw [if_pos (by omega)]; rfl
  · rw [decL_ge (by omega)]; unfold decZ; rw [if_neg (by omega)]
def decB (n : Nat) : ByteArray := ⟨(decL n).toArray⟩
def decI (n : Int) : ByteArray := if n < 0 then (⟨#[45]⟩ : ByteArray) ++ decB n.natAbs else decB n.natAbs
theorem decL_len_le (n : Nat) : (decL n).length ≤ n + 1 := by
  induction n using Nat.strongRecOn with
  | ind n ih =>
    by_cases h : n < 10
    · rw [decL_lt h]; simp
    · rw [decL_ge (by omega)]
      have := ih (n / 10) (by omega)
      simp
      omega
theorem decL_len {n : Nat} : ∀ {d : Nat}, n < 10 ^ (d + 1) → (decL n).length ≤ d + 1 := by
  intro d
  induction d generalizing n with
  | zero => intro h; rw [decL_lt (by simpa using h)]; simp
  | succ d ih =>
    intro h
    by_cases h1 : n < 10
    · rw [decL_lt h1]; simp
    · rw [decL_ge (by omega)]
      have := ih (n := n / 10) (by rw [Nat.pow_succ] at h; omega)
      simp
      omega
def isDig (c : UInt8) : Prop := 48 ≤ c.toNat ∧ c.toNat ≤ 57
instance (c : UInt8) : Decidable (isDig c) := by unfold isDig; exact inferInstance
theorem dig_toNat (n : Nat) : (dig n).toNat = 48 + n % 10 := by
  unfold dig
  rw [UInt8.toNat_ofNat']
  omega
theorem dig_isDig (n : Nat) : isDig (dig n) := by unfold isDig; rw [dig_toNat]; omega
theorem dig_of {c : UInt8} (h : isDig c) {n : Nat} (hn : n % 10 = c.toNat - 48) : dig n = c := by
  apply UInt8.toNat_inj.1
  rw [dig_toNat]; unfold isDig at h; omega
theorem decL_digs (n : Nat) : ∀ c ∈ decL n, isDig c := by
  induction n using Nat.strongRecOn with
  | ind n ih =>
    by_cases h : n < 10
    · rw [decL_lt h]; intro c hc; simp at hc; rw [hc]; exact dig_isDig n
    · rw [decL_ge (by omega)]
      intro c hc
      rw [List.mem_append] at hc
      rcases hc with hc | hc
      · exact ih (n / 10) (by omega) c hc
      · simp at hc; rw [hc]; exact dig_isDig n
/-- The number of digits, from a number on. -/
def numF (v : Nat) (l : List UInt8) : Nat := l.foldl (fun v c => 10 * v + (c.toNat - 48)) v
theorem numF_nil (v : Nat) : numF v [] = v := by simp only [numF, List.foldl_nil]
theorem numF_cons (v : Nat) (c : UInt8) (l : List UInt8) : numF v (c :: l) = numF (10 * v + (c.toNat - 48)) l := by simp only [numF, List.foldl_cons]
theorem numF_snoc (v : Nat) (l : List UInt8) (c : UInt8) : numF v (l ++ [c]) = 10 * numF v l + (c.toNat - 48) := by simp [numF]
def numL (l : List UInt8) : Nat := numF 0 l
theorem numL_snoc (l : List UInt8) (c : UInt8) : numL (l ++ [c]) = 10 * numL l + (c.toNat - 48) := numF_snoc 0 l c
theorem numF_lt (l : List UInt8) : ∀ v, (∀ c ∈ l, isDig c) → numF v l < (v + 1) * 10 ^ l.length := by
  induction l with
  | nil => intro v _; simp [numF]
  | cons c l ih =>
    intro v h
    rw [numF_cons]
    have h1 := ih (10 * v + (c.toNat - 48)) (fun x hx => h x (List.mem_cons_of_mem _ hx))
    have h2 : isDig c := h c (List.mem_cons_self ..)
    refine Nat.lt_of_lt_of_le h1 ?_
    rw [List.length_cons, Nat.pow_succ, Nat.mul_comm (10 ^ l.length) 10, ← Nat.mul_assoc]
    refine Nat.mul_le_mul_right _ ?_
    unfold isDig at h2
    omega
theorem numL_lt (l : List UInt8) (h : ∀ c ∈ l, isDig c) : numL l < 10 ^ l.length := by
  have := numF_lt l 0 h
  simpa [numL] using this
theorem numL_decL (n : Nat) : numL (decL n) = n := by
  induction n using Nat.strongRecOn with
  | ind n ih =>
    by_cases h : n < 10
    · rw [decL_lt h]; simp [numL, numF]; rw [dig_toNat]; omega
    · rw [decL_ge (by omega), numL_snoc, ih (n / 10) (by omega), dig_toNat]; omega
theorem decL_inj {a b : Nat} (h : decL a = decL b) : a = b := by
  rw [← numL_decL a, ← numL_decL b, h]
/-- No needless nought ahead. -/
def plain (l : List UInt8) : Prop := 1 < l.length → l.head? ≠ some 48
theorem plain_iff (l : List UInt8) (hd : ∀ c ∈ l, isDig c) (hne : l ≠ []) : decL (numL l) = l ↔ plain l := by
  suffices H : ∀ n, ∀ l : List UInt8, l.length = n → (∀ c ∈ l, isDig c) → l ≠ [] → (decL (numL l) = l ↔ plain l) from H _ l rfl hd hne
  intro n
  induction n with
  | zero => intro l hl _ hne; exact absurd (List.eq_nil_of_length_eq_zero hl) hne
  | succ n ih =>
    intro l hl hd hne
    obtain ⟨l0, c, rfl⟩ : ∃ l0 c, l = l0 ++ [c] := ⟨l.dropLast, l.getLast hne, (List.dropLast_concat_getLast hne).symm⟩
    have hc : isDig c := hd c (by simp)
    have hl0 : l0.length = n := by simp at hl; exact hl
    have hd0 : ∀ x ∈ l0, isDig x := fun x hx => hd x (by simp [hx])
    rw [numL_snoc]
    have hcm : (10 * numL l0 + (c.toNat - 48)) % 10 = c.toNat - 48 := by unfold isDig at hc; omega
    have hdc : dig (10 * numL l0 + (c.toNat - 48)) = c := dig_of hc hcm
    rw [decL_step, hdc]
    have hq : (10 * numL l0 + (c.toNat - 48)) / 10 = numL l0 := by unfold isDig at hc; omega
    rw [hq]
    rw [List.append_left_inj]
    by_cases h0 : l0 = []
    · subst h0
      simp [plain, numL, numF, decZ]
    · have hp0 := ih l0 hl0 hd0 h0
      have hlen0 : 0 < l0.length := List.length_pos_iff.2 h0
      have hhead : (l0 ++ [c]).head? = l0.head? := by cases l0 with
        | nil => exact absurd rfl h0
        | cons a t => rfl
      unfold plain
      rw [hhead]
      by_cases hz : numL l0 = 0
      · rw [hz]
        constructor
        · intro h; exact absurd h.symm h0
        · intro h
          exfalso
          have h48 : l0.head? = some 48 := by
            cases l0 with
            | nil => exact absurd rfl h0
            | cons a t =>
              have ha : isDig a := hd0 a (List.mem_cons_self ..)
              have : numF (a.toNat - 48) t = 0 := by simpa [numL, numF_cons] using hz
              have mono : ∀ (t : List UInt8) v, v ≤ numF v t := by
                intro t
                induction t with
                | nil => intro v; exact Nat.le_refl _
                | cons b t ih => intro v; rw [numF_cons]; exact Nat.le_trans (by omega) (ih _)
              have h1 := mono t (a.toNat - 48)
              have h2 : a.toNat = 48 := by unfold isDig at ha; omega
              simp only [List.head?_cons, Option.some.injEq]
              exact UInt8.toNat_inj.1 (by rw [h2]; rfl)
          exact h (by simp; omega) h48
      · have hdz : decZ (numL l0) = decL (numL l0) := by unfold decZ; rw [if_neg hz]
        rw [hdz, hp0]
        unfold plain
        constructor
        · intro h _
          by_cases h1 : 1 < l0.length
          · exact h h1
          · intro h48
            apply hz
            obtain ⟨a, rfl⟩ : ∃ a, l0 = [a] := by
              match l0, hlen0, h1 with
              | [a], _, _ => exact ⟨a, rfl⟩
              | a :: b :: t, _, h1 => simp at h1
            simp at h48
            subst h48
            rfl
        · intro h _
          exact h (by simp; omega)
end Go.Proofs.Ytlgjogfcpgfbnaa.Lib0
