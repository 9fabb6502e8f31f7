/- What a term is worth, plain: ways, what suits, the value by the program and by the reference are one. Conditions: those that a theorem names. -/
import Derived.Test.YtkdkbnacelnljaaGreatND10
import Derived.Test.YtkdkbnacelnljaaGreatNDA
set_option linter.unusedVariables false
set_option linter.unusedSimpArgs false
namespace Go.Proofs.YtkdkbnacelnljaaGreat.RE
open Go Go.RowKit
set_option maxRecDepth 100000
set_option maxHeartbeats 8000000
theorem mem_gV {α : Type} {l : List α} {i : Nat} {d : α} (h : i < l.length) : l.getD i d ∈ l := by
  rw [List.getD_eq_getElem?_getD, List.getElem?_eq_getElem h]; exact List.getElem_mem h
/-! ### Words -/
theorem word_t {w a : Int} (h : wordOk w a = true) : 1 ≤ w ∧ w ≤ 8 ∧ 0 ≤ a ∧ a < 2 ^ w.toNat := of_decide_eq_true h
theorem word_of {w a : Int} (h1 : 1 ≤ w) (h2 : w ≤ 8) (h3 : 0 ≤ a) (h4 : a < 2 ^ w.toNat) : wordOk w a = true := decide_eq_true ⟨h1, h2, h3, h4⟩
theorem pw8 {w : Int} (h1 : 1 ≤ w) (h2 : w ≤ 8) : 2 ≤ (2 : Int) ^ w.toNat ∧ (2 : Int) ^ w.toNat ≤ 256 := by
  have : w = 1 ∨ w = 2 ∨ w = 3 ∨ w = 4 ∨ w = 5 ∨ w = 6 ∨ w = 7 ∨ w = 8 := by omega
  rcases this with h | h | h | h | h | h | h | h <;> subst h <;> decide
theorem word_byte {w a : Int} (h : wordOk w a = true) : 0 ≤ a ∧ a ≤ 255 := by
  have := word_t h
  have := pw8 this.1 this.2.1
  omega
theorem cut_w {w x : Int} (h1 : 1 ≤ w) (h2 : w ≤ 8) : wordOk w (cutT w x) = true := by
  have := pw8 h1 h2
  exact word_of h1 h2 (Int.emod_nonneg _ (by omega)) (Int.emod_lt_of_pos _ (by omega))
theorem bit_w (b : Bool) : wordOk 1 (bitT b) = true := by cases b <;> decide
theorem ite_w {p : Prop} [Decidable p] {w a b : Int} (h1 : p → wordOk w a = true) (h2 : ¬ p → wordOk w b = true) : wordOk w (if p then a else b) = true := by
  split
  · exact h1 ‹_›
  · exact h2 ‹_›
theorem zero_w {w : Int} (h1 : 1 ≤ w) (h2 : w ≤ 8) : wordOk w 0 = true := word_of h1 h2 (Int.le_refl _) (by have := pw8 h1 h2; omega)
theorem top_w {w : Int} (h1 : 1 ≤ w) (h2 : w ≤ 8) : wordOk w (2 ^ w.toNat - 1) = true := word_of h1 h2 (by have := pw8 h1 h2; omega) (by omega)
theorem less_w {w a c : Int} (h : wordOk w a = true) (h0 : 0 ≤ c) (h1 : c ≤ a) : wordOk w c = true := by
  have := word_t h
  exact word_of this.1 this.2.1 h0 (by omega)
theorem bv_small {w a : Int} (h : wordOk w a = true) : (BitVec.ofInt 64 a).toNat = a.toNat ∧ a.toNat < 2 ^ w.toNat := by
  have hv := word_t h
  have hb := word_byte h
  refine ⟨?_, ?_⟩
  · rw [BitVec.toNat_ofInt, Int.emod_eq_of_lt hb.1 (by omega)]
  · have h2 : ((2 ^ w.toNat : Nat) : Int) = 2 ^ w.toNat := by simp
    omega
theorem nat_w {w : Int} {n : Nat} (h1 : 1 ≤ w) (h2 : w ≤ 8) (h : n < 2 ^ w.toNat) : wordOk w (IntKind.i64.wrap (n : Int)) = true := by
  have h3 : ((2 ^ w.toNat : Nat) : Int) = 2 ^ w.toNat := by simp
  have hp := pw8 h1 h2
  rw [wr (by omega) (by omega)]
  exact word_of h1 h2 (by omega) (by omega)
theorem andT_w {w a b : Int} (ha : wordOk w a = true) (hb : wordOk w b = true) : wordOk w (andT a b) = true := by
  have hw := word_t ha
  have e : andT a b = IntKind.i64.wrap (((BitVec.ofInt 64 a &&& BitVec.ofInt 64 b).toNat : Nat) : Int) := rfl
  rw [e, BitVec.toNat_and, (bv_small ha).1, (bv_small hb).1]
  exact nat_w hw.1 hw.2.1 (Nat.and_lt_two_pow _ (bv_small hb).2)
theorem orT_w {w a b : Int} (ha : wordOk w a = true) (hb : wordOk w b = true) : wordOk w (orT a b) = true := by
  have hw := word_t ha
  have e : orT a b = IntKind.i64.wrap (((BitVec.ofInt 64 a ||| BitVec.ofInt 64 b).toNat : Nat) : Int) := rfl
  rw [e, BitVec.toNat_or, (bv_small ha).1, (bv_small hb).1]
  exact nat_w hw.1 hw.2.1 (Nat.or_lt_two_pow (bv_small ha).2 (bv_small hb).2)
theorem xorT_w {w a b : Int} (ha : wordOk w a = true) (hb : wordOk w b = true) : wordOk w (xorT a b) = true := by
  have hw := word_t ha
  have e : xorT a b = IntKind.i64.wrap (((BitVec.ofInt 64 a ^^^ BitVec.ofInt 64 b).toNat : Nat) : Int) := rfl
  rw [e, BitVec.toNat_xor, (bv_small ha).1, (bv_small hb).1]
  exact nat_w hw.1 hw.2.1 (Nat.xor_lt_two_pow (bv_small ha).2 (bv_small hb).2)
theorem bin_w {op w a b : Int} (ha : wordOk w a = true) (hb : wordOk w b = true) : wordOk w (binT op w a b) = true := by
  have hw := word_t ha
  have hv := word_t hb
  have hp := pw8 hw.1 hw.2.1
  have z := zero_w hw.1 hw.2.1
  unfold binT
  refine ite_w (fun _ => andT_w ha hb) fun _ => ite_w (fun _ => orT_w ha hb) fun _ => ite_w (fun _ => xorT_w ha hb) fun _ => ?_
  refine ite_w (fun _ => ?_) fun _ => ite_w (fun _ => ?_) fun _ => ite_w (fun _ => ?_) fun _ => ite_w (fun _ => ?_) fun _ => ite_w (fun _ => ?_) fun _ => ite_w (fun _ => ?_) fun _ => ?_
  · exact ite_w (fun _ => cut_w hw.1 hw.2.1) fun _ => z
  · exact ite_w (fun _ => cut_w hw.1 hw.2.1) fun _ => z
  · exact ite_w (fun _ => cut_w hw.1 hw.2.1) fun _ => z
  · refine ite_w (fun _ => ite_w (fun _ => top_w hw.1 hw.2.1) fun _ => ?_) fun _ => z
    have h1 : 0 ≤ a.tdiv b := Int.tdiv_nonneg hw.2.2.1 hv.2.2.1
    have h2 : a.tdiv b ≤ a := by rw [Int.tdiv_eq_ediv_of_nonneg hw.2.2.1]; exact Int.ediv_le_self _ hw.2.2.1
    rw [wr (by omega) (by omega)]
    exact less_w ha h1 h2
  · refine ite_w (fun _ => ite_w (fun _ => ha) fun hb0 => ?_) fun _ => z
    have h1 : 0 ≤ a.tmod b := Int.tmod_nonneg _ hw.2.2.1
    have h2 : a.tmod b ≤ a := by
      rw [Int.tmod_eq_emod_of_nonneg hw.2.2.1]
      have h3 := Int.emod_add_mul_ediv a b
      have h4 : 0 ≤ b * (a / b) := Int.mul_nonneg hv.2.2.1 (Int.ediv_nonneg hw.2.2.1 hv.2.2.1)
      omega
    exact less_w ha h1 h2
  · exact ite_w (fun _ => cut_w hw.1 hw.2.1) fun _ => z
  · refine ite_w (fun _ => ?_) fun _ => z
    exact less_w ha (Int.ediv_nonneg hw.2.2.1 (by have : (0 : Int) ≤ 2 ^ b.toNat := Int.pow_nonneg (by decide); exact this)) (Int.ediv_le_self _ hw.2.2.1)
/-- What a right node asks of its parts. -/
structure NodeR (t : List Nd) (i : Nat) (n : Nd) : Prop where
  w : 1 ≤ n.w ∧ n.w ≤ 8
  pts : ∀ p ∈ parts n, 0 ≤ p ∧ p < (i : Int)
  rul : rule n ((parts n).map (wAt t)) = true
theorem okT_node {t : List Nd} (h : okT t = true) {i : Nat} (hi : i < t.length) : NodeR t i (t.getD i default) := by
  have h1 := okT_at h hi
  unfold sRight at h1
  simp only [Bool.and_eq_true, decide_eq_true_eq, List.all_eq_true] at h1
  exact ⟨h1.2.1, h1.1, h1.2.2⟩
theorem app_word {t : List Nd} {i : Nat} {n : Nd} (h : NodeR t i n) (h1 : n.op ≠ 1) (hq : isQ n.op = false) (x : Nat → Int) (hx : ∀ k, k < (parts n).length → wordOk (wAt t ((parts n).getD k 0)) (x k) = true) (hx0 : ∀ k, (parts n).length ≤ k → x k = 0) (w : Int) (hw : w = if (parts n).length = 0 then 1 else wAt t ((parts n).getD 0 0)) :
    wordOk n.w (appT n w (x 0) (x 1) (x 2)) = true := by
  obtain ⟨⟨w1, w2⟩, hp, hr⟩ := h
  have hb : ∀ k, 0 ≤ x k ∧ x k ≤ 255 := fun k => by
    rcases Nat.lt_or_ge k (parts n).length with hk | hk
    · exact word_byte (hx k hk)
    · rw [hx0 k hk]; omega
  have hwr : 1 ≤ w ∧ w ≤ 8 := by
    rw [hw]
    split
    · omega
    · have := word_t (hx 0 (by omega)); omega
  have hok : appOk n w (x 0) (x 1) (x 2) = true := by
    unfold appOk
    simp only [Bool.and_eq_true, decide_eq_true_eq]
    have a0 := hb 0
    have a1 := hb 1
    have a2 := hb 2
    omega
  unfold appT
  rw [if_pos hok]
  have hz := zero_w w1 w2
  unfold isQ at hq
  simp only [Bool.or_eq_false_iff, decide_eq_false_iff_not] at hq
  refine ite_w (fun h0 => ?_) fun h0 => ite_w (fun h2 => ?_) fun h2 => ite_w (fun h3 => ?_) fun h3 => ite_w (fun h4 => ?_) fun h4 => ite_w (fun h5 => ?_) fun h5 => ite_w (fun h6 => ?_) fun h6 => ite_w (fun h7 => ?_) fun h7 => ite_w (fun h8 => ?_) fun h8 => ite_w (fun h9 => ?_) fun _ => hz
  · unfold rule at hr
    rw [if_pos h0] at hr
    simp only [Bool.and_eq_true] at hr
    exact hr.1.1.1
  · have e := parts_1 (n := n) (.inl h2)
    rw [e] at hx hr
    unfold rule at hr
    rw [if_neg h0, if_neg h1, if_pos h2] at hr
    simp only [Bool.and_eq_true, decide_eq_true_eq, List.map_cons, List.map_nil, List.getD_cons_zero] at hr
    have hx := hx 0 (by simp)
    simp only [List.getD_cons_zero, hr.1.1.1] at hx
    unfold flipT
    rw [if_pos hx]
    have := word_t hx
    exact word_of w1 w2 (by omega) (by omega)
  · have e := parts_2 (n := n) (by omega)
    rw [e] at hx hr
    unfold rule at hr
    rw [if_neg h0, if_neg h1, if_neg h2, if_pos (by simp; omega)] at hr
    simp only [Bool.and_eq_true, decide_eq_true_eq, List.map_cons, List.map_nil, List.getD_cons_zero, List.getD_cons_succ] at hr
    have hy := hx 1 (by simp)
    have hx := hx 0 (by simp)
    simp only [List.getD_cons_zero, List.getD_cons_succ, hr.1.1.1, hr.1.1.2] at hx hy
    exact bin_w hx hy
  · unfold rule at hr
    rw [if_neg h0, if_neg h1, if_neg h2, if_neg (by simp; omega), if_pos (by simp; omega)] at hr
    simp only [Bool.and_eq_true, decide_eq_true_eq] at hr
    rw [hr.1.1.2]
    exact bit_w _
  · unfold rule at hr
    rw [if_neg h0, if_neg h1, if_neg h2, if_neg (by simp; omega), if_pos (by simp; omega)] at hr
    simp only [Bool.and_eq_true, decide_eq_true_eq] at hr
    rw [hr.1.1.2]
    exact bit_w _
  · unfold rule at hr
    rw [if_neg h0, if_neg h1, if_neg h2, if_neg (by simp; omega), if_pos (by simp; omega)] at hr
    simp only [Bool.and_eq_true, decide_eq_true_eq] at hr
    rw [hr.1.1.2]
    exact bit_w _
  · have e := parts_2 (n := n) (by omega)
    rw [e] at hx hr hw
    unfold rule at hr
    rw [if_neg h0, if_neg h1, if_neg h2, if_neg (by simp; omega), if_neg (by simp; omega), if_pos h7] at hr
    simp only [Bool.and_eq_true, decide_eq_true_eq, List.map_cons, List.map_nil, List.getD_cons_zero, List.getD_cons_succ] at hr
    have hy := hx 1 (by simp)
    have hx := hx 0 (by simp)
    simp only [List.getD_cons_zero, List.getD_cons_succ, List.length_cons, List.length_nil] at hx hy hw
    have e1 := hr.1.1
    have a1 := word_t hx
    have a2 := word_t hy
    rw [wr (by omega) (by omega)] at e1
    rw [if_neg (by decide)] at hw
    rw [if_neg (by omega)]
    have e3 : (n.w - w).toNat = (wAt t n.b).toNat := by omega
    have e4 : n.w.toNat = (wAt t n.a).toNat + (wAt t n.b).toNat := by omega
    rw [e3]
    refine word_of w1 w2 (Int.add_nonneg (Int.mul_nonneg a1.2.2.1 (Int.pow_nonneg (by decide))) a2.2.2.1) ?_
    rw [e4, Int.pow_add]
    have hA : (x 0 + 1) * (2 : Int) ^ (wAt t n.b).toNat ≤ 2 ^ (wAt t n.a).toNat * 2 ^ (wAt t n.b).toNat := Int.mul_le_mul_of_nonneg_right (by omega) (Int.pow_nonneg (by decide))
    rw [Int.add_mul, Int.one_mul] at hA
    omega
  · unfold sliceT
    exact ite_w (fun _ => cut_w w1 w2) fun _ => hz
  · have e := parts_3 (n := n) h9
    rw [e] at hx hr
    unfold rule at hr
    rw [if_neg h0, if_neg h1, if_neg h2, if_neg (by simp; omega), if_neg (by simp; omega), if_neg (by omega), if_neg (by omega), if_pos h9] at hr
    simp only [Bool.and_eq_true, decide_eq_true_eq, List.map_cons, List.map_nil, List.getD_cons_zero, List.getD_cons_succ] at hr
    have hy := hx 1 (by simp)
    have hz2 := hx 2 (by simp)
    simp only [List.getD_cons_zero, List.getD_cons_succ, hr.1.1.2, hr.1.2] at hy hz2
    exact ite_w (fun _ => hy) fun _ => hz2
/-! ### What a node is worth -/
section
variable (q : Bool → List Int → Int) (t : List Nd)
def appN (n : Nd) (x : Nat → Int) : Int := appT n (if (parts n).length = 0 then 1 else wAt t ((parts n).getD 0 0)) (x 0) (x 1) (x 2)
def evF : Nat → List Int → Nat → Int
  | 0, _, _ => 0
  | f + 1, env, i => if (t.getD i default).op = 1 then env.getD (t.getD i default).k.toNat 0
    else if isQ (t.getD i default).op = true then q (decide ((t.getD i default).op = 19)) ((List.range (2 ^ (t.getD i default).b.toNat)).map fun (x : Nat) => evF f (env.set (t.getD i default).k.toNat x) (t.getD i default).a.toNat)
    else appN t (t.getD i default) fun k => if k < (parts (t.getD i default)).length then evF f env ((parts (t.getD i default)).getD k 0).toNat else 0
def evT (env : List Int) (i : Nat) : Int := evF q t (i + 1) env i
end
theorem appN_congr {t : List Nd} {n : Nd} {x y : Nat → Int} (h : ∀ k, x k = y k) : appN t n x = appN t n y := by
  unfold appN
  rw [h, h, h]
theorem parts_q {n : Nd} (h : isQ n.op = true) : parts n = [n.a] := parts_1 (by unfold isQ at h; simp at h; omega)
theorem evF_fuel {q : Bool → List Int → Int} {t : List Nd} (hp : PartsOk t) : ∀ (f g i : Nat) (env : List Int), i < t.length → i < f → i < g → evF q t f env i = evF q t g env i
  | 0, _, _, _, _, h, _ => by omega
  | _, 0, _, _, _, _, h => by omega
  | f + 1, g + 1, i, env, hi, h1, h2 => by
    have ih := fun j env (hj : j < i) => evF_fuel (q := q) hp f g j env (by omega) (by omega) (by omega)
    simp only [evF]
    split
    · rfl
    split
    · rename_i h3 h4
      have := hp i hi (t.getD i default).a (by rw [parts_q h4]; simp)
      congr 1
      refine List.map_congr_left fun x _ => ih _ _ (by omega)
    · refine appN_congr fun k => ?_
      split
      · rename_i hk
        have := hp i hi _ (mem_gV (d := 0) hk)
        exact ih _ _ (by omega)
      · rfl
theorem evT_eq {q : Bool → List Int → Int} {t : List Nd} (hp : PartsOk t) {i : Nat} (hi : i < t.length) (env : List Int) : evT q t env i =
    if (t.getD i default).op = 1 then env.getD (t.getD i default).k.toNat 0
    else if isQ (t.getD i default).op = true then q (decide ((t.getD i default).op = 19)) ((List.range (2 ^ (t.getD i default).b.toNat)).map fun (x : Nat) => evT q t (env.set (t.getD i default).k.toNat x) (t.getD i default).a.toNat)
    else appN t (t.getD i default) fun k => if k < (parts (t.getD i default)).length then evT q t env ((parts (t.getD i default)).getD k 0).toNat else 0 := by
  unfold evT
  rw [evF]
  split
  · rfl
  split
  · rename_i h3 h4
    have := hp i hi (t.getD i default).a (by rw [parts_q h4]; simp)
    congr 1
    exact List.map_congr_left fun x _ => evF_fuel hp _ _ _ _ (by omega) (by omega) (by omega)
  · refine appN_congr fun k => ?_
    split
    · rename_i hk
      have := hp i hi _ (mem_gV (d := 0) hk)
      exact evF_fuel hp _ _ _ _ (by omega) (by omega) (by omega)
    · rfl
/-- A quantifier by the program: all worth the one number. By the reference: counted. -/
def quI (all : Bool) (l : List Int) : Int := if l.all (fun v => decide (v = bitT all)) = true then bitT all else 1 - bitT all
def quS (all : Bool) (l : List Int) : Int := if all = true then bitT (l.all fun v => decide (v = 1)) else bitT (l.any fun v => decide (v = 1))
theorem qu_eq {l : List Int} (h : ∀ v ∈ l, v = 0 ∨ v = 1) (all : Bool) : quI all l = quS all l := by
  unfold quI quS
  cases all with
  | true =>
    simp only [if_true]
    rw [show bitT true = 1 from rfl]
    split
    · rename_i h1; rw [h1]; rfl
    · rename_i h1; rw [Bool.not_eq_true] at h1; rw [h1]; rfl
  | false =>
    simp only [Bool.false_eq_true, if_false]
    rw [show bitT false = 0 from rfl]
    have : (l.any fun v => decide (v = 1)) = !(l.all fun v => decide (v = 0)) := by
      rw [List.not_all_eq_any_not]
      induction l with
      | nil => rfl
      | cons a l ih =>
        rw [List.any_cons, List.any_cons, ih fun v hv => h v (List.mem_cons_of_mem _ hv)]
        congr 1
        rcases h a List.mem_cons_self with e | e <;> subst e <;> rfl
    rw [this]
    cases l.all fun v => decide (v = 0) <;> rfl
theorem quS_bit (all : Bool) (l : List Int) : wordOk 1 (quS all l) = true := by
  unfold quS
  split <;> exact bit_w _
/-! ### Ways, and what suits -/
inductive Pth (t : List Nd) (ps : Nat → Bool) : Nat → Nat → Prop
  | here {i : Nat} : Pth t ps i i
  | step {i j : Nat} {p : Int} : ps i = true → p ∈ parts (t.getD i default) → Pth t ps p.toNat j → Pth t ps i j
theorem Pth.trans {t : List Nd} {ps : Nat → Bool} {i j k : Nat} (h : Pth t ps i j) (h2 : Pth t ps j k) : Pth t ps i k := by
  induction h with
  | here => exact h2
  | step a b _ ih => exact .step a b (ih h2)
theorem Pth.tail {t : List Nd} {ps : Nat → Bool} {i j : Nat} {p : Int} (h : Pth t ps i j) (h1 : ps j = true) (h2 : p ∈ parts (t.getD j default)) : Pth t ps i p.toNat := h.trans (.step h1 h2 .here)
theorem Pth.all {t : List Nd} {ps : Nat → Bool} {i j : Nat} (h : Pth t ps i j) : Pth t (fun _ => true) i j := by
  induction h with
  | here => exact .here
  | step a b _ ih => exact .step rfl b ih
theorem Pth.le {t : List Nd} {ps : Nat → Bool} {i j : Nat} (hp : PartsOk t) (h : Pth t ps i j) : i < t.length → j ≤ i := by
  induction h with
  | here => intro _; exact Nat.le_refl _
  | @step i j p a b _ ih => intro hi; have := hp i hi p b; have := ih (by omega); omega
structure Fit (t : List Nd) (env : List Int) (i : Nat) : Prop where
  free : ∀ j, Pth t (passV t (t.getD j default).k) i j → (t.getD j default).op = 1 → wordOk (t.getD j default).w (env.getD (t.getD j default).k.toNat 0) = true
  bound : ∀ q, Pth t (fun _ => true) i q → isQ (t.getD q default).op = true → ∀ j, Pth t (passV t (t.getD q default).k) (t.getD q default).a.toNat j → (t.getD j default).op = 1 → (t.getD j default).k = (t.getD q default).k → (t.getD j default).w = (t.getD q default).b
theorem Fit.part {t : List Nd} {env : List Int} {i : Nat} {p : Int} (h : Fit t env i) (hq : isQ (t.getD i default).op = false) (hp : p ∈ parts (t.getD i default)) : Fit t env p.toNat :=
  ⟨fun j hj => h.free j (.step (by unfold passV; rw [hq]; rfl) hp hj), fun q hq => h.bound q (.step rfl hp hq)⟩
theorem var_rule {t : List Nd} {i : Nat} {n : Nd} (h : NodeR t i n) (h1 : n.op = 1) : 0 ≤ n.k ∧ n.k ≤ 7 := by
  have hr := h.rul
  unfold rule at hr
  rw [if_neg (by omega), if_pos h1] at hr
  simp only [Bool.and_eq_true, decide_eq_true_eq] at hr
  omega
theorem quant_rule {t : List Nd} {i : Nat} {n : Nd} (h : NodeR t i n) (hq : isQ n.op = true) : (0 ≤ n.k ∧ n.k ≤ 7) ∧ (1 ≤ n.b ∧ n.b ≤ 8) ∧ wAt t n.a = 1 ∧ n.w = 1 := by
  have hr := h.rul
  rw [rule_q (by unfold isQ at hq; simp at hq; omega), parts_q hq] at hr
  simp only [Bool.and_eq_true, decide_eq_true_eq, List.map_cons, List.map_nil, List.getD_cons_zero] at hr
  omega
theorem getD_set_ne {α : Type} {l : List α} {i j : Nat} {x d : α} (h : i ≠ j) : (l.set i x).getD j d = l.getD j d := by
  rw [List.getD_eq_getElem?_getD, List.getElem?_set_ne h, ← List.getD_eq_getElem?_getD]
theorem getD_set_eq {α : Type} {l : List α} {i : Nat} {x d : α} (h : i < l.length) : (l.set i x).getD i d = x := by
  rw [List.getD_eq_getElem?_getD, List.getElem?_set_self h]; rfl
theorem Fit.quant {t : List Nd} (hok : okT t = true) {env : List Int} (he : env.length = 8) {i : Nat} (hi : i < t.length) (h : Fit t env i) (hq : isQ (t.getD i default).op = true) {x : Nat} (hx : x < 2 ^ (t.getD i default).b.toNat) : Fit t (env.set (t.getD i default).k.toNat x) (t.getD i default).a.toNat := by
  have hr := quant_rule (okT_node hok hi) hq
  have hp : (t.getD i default).a ∈ parts (t.getD i default) := by rw [parts_q hq]; simp
  refine ⟨fun j hj h1 => ?_, fun q hq => h.bound q (.step rfl hp hq)⟩
  have hpa := okT_parts hok i hi _ hp
  have hjl := hj.le (okT_parts hok) (by omega)
  have hv := var_rule (okT_node hok (show j < t.length by omega)) h1
  by_cases hk : (t.getD j default).k = (t.getD i default).k
  · have hb := h.bound i .here hq j (hk ▸ hj) h1 hk
    rw [hk, getD_set_eq (by omega), hb]
    refine word_of hr.2.1.1 hr.2.1.2 (by omega) ?_
    have : ((2 ^ (t.getD i default).b.toNat : Nat) : Int) = (2 : Int) ^ (t.getD i default).b.toNat := by simp
    omega
  · rw [getD_set_ne (by omega)]
    refine h.free j (.step ?_ hp hj) h1
    unfold passV
    rw [decide_eq_false (fun e => hk e.symm)]
    simp
theorem fit_word {t : List Nd} (hok : okT t = true) : ∀ (m i : Nat) (env : List Int), i < m → i < t.length → env.length = 8 → Fit t env i → wordOk (t.getD i default).w (evT quS t env i) = true ∧ evT quI t env i = evT quS t env i
  | 0, _, _, h, _, _, _ => by omega
  | m + 1, i, env, hm, hi, he, hF => by
    have hn := okT_node hok hi
    have hP := okT_parts hok
    rw [evT_eq hP hi, evT_eq hP hi]
    by_cases h1 : (t.getD i default).op = 1
    · rw [if_pos h1, if_pos h1]
      exact ⟨hF.free i .here h1, rfl⟩
    rw [if_neg h1, if_neg h1]
    by_cases hq : isQ (t.getD i default).op = true
    · rw [if_pos hq, if_pos hq]
      have hr := quant_rule hn hq
      have hpa := hP i hi (t.getD i default).a (by rw [parts_q hq]; simp)
      have ih : ∀ x, x < 2 ^ (t.getD i default).b.toNat → wordOk (t.getD (t.getD i default).a.toNat default).w (evT quS t (env.set (t.getD i default).k.toNat (x : Nat)) (t.getD i default).a.toNat) = true ∧ evT quI t (env.set (t.getD i default).k.toNat (x : Nat)) (t.getD i default).a.toNat = evT quS t (env.set (t.getD i default).k.toNat (x : Nat)) (t.getD i default).a.toNat := fun x hx =>
        fit_word hok m _ _ (by omega) (by omega) (by rw [List.length_set]; exact he) (hF.quant hok he hi hq hx)
      have e : ((List.range (2 ^ (t.getD i default).b.toNat)).map fun (x : Nat) => evT quI t (env.set (t.getD i default).k.toNat x) (t.getD i default).a.toNat) = (List.range (2 ^ (t.getD i default).b.toNat)).map fun (x : Nat) => evT quS t (env.set (t.getD i default).k.toNat x) (t.getD i default).a.toNat :=
        List.map_congr_left fun x hx => (ih x (by simpa using hx)).2
      refine ⟨by rw [hr.2.2.2]; exact quS_bit _ _, ?_⟩
      rw [e]
      refine qu_eq (fun v hv => ?_) _
      obtain ⟨x, hx, rfl⟩ := List.mem_map.1 hv
      have h2 := word_t (ih x (by simpa using hx)).1
      have h3 : (t.getD (t.getD i default).a.toNat default).w = 1 := hr.2.2.1
      rw [h3] at h2
      have h4 : (2 : Int) ^ (1 : Int).toNat = 2 := rfl
      omega
    · rw [if_neg hq, if_neg hq]
      rw [Bool.not_eq_true] at hq
      have ih : ∀ k, k < (parts (t.getD i default)).length → wordOk (wAt t ((parts (t.getD i default)).getD k 0)) (evT quS t env ((parts (t.getD i default)).getD k 0).toNat) = true ∧ evT quI t env ((parts (t.getD i default)).getD k 0).toNat = evT quS t env ((parts (t.getD i default)).getD k 0).toNat := fun k hk => by
        have hpa := hP i hi _ (mem_gV (d := 0) hk)
        exact fit_word hok m _ _ (by omega) (by omega) he (hF.part hq (mem_gV hk))
      refine ⟨?_, appN_congr fun k => ?_⟩
      · unfold appN
        refine app_word hn h1 hq (fun k => if k < (parts (t.getD i default)).length then evT quS t env ((parts (t.getD i default)).getD k 0).toNat else 0) (fun k hk => ?_) (fun k hk => if_neg (by omega)) _ rfl
        simp only [if_pos hk]
        exact (ih k hk).1
      · split
        · rename_i hk; exact (ih k hk).2
        · rfl
/-! ### What is reached from a node -/
def atR (n r : Nat) : List Bool := (List.range n).map fun i => decide (i = r)
theorem atR_get {n r j : Nat} : (atR n r).getD j false = decide (j < n ∧ j = r) := by
  unfold atR
  rcases Nat.lt_or_ge j n with h | h
  · simp [List.getD_eq_getElem?_getD, h]
  · rw [List.getD_eq_getElem?_getD, List.getElem?_eq_none (by simpa using h)]
    simp; omega
theorem rootR_at (n : Nat) (h : 1 ≤ n) : rootR n = atR n (n - 1) := by
  unfold rootR atR
  refine List.map_congr_left fun i hi => ?_
  rw [List.mem_range] at hi
  rw [decide_eq_decide]; omega
def reachR (t : List Nd) (ps : Nat → Bool) (r : Nat) : List Bool := runR t ps (r + 1) (atR t.length r)
theorem reachR_len (t : List Nd) (ps : Nat → Bool) (r : Nat) : (reachR t ps r).length = t.length := by
  unfold reachR
  rw [runR_len]; simp [atR]
theorem reachR_iff {t : List Nd} (hp : PartsOk t) (ps : Nat → Bool) {r : Nat} (hr : r < t.length) (j : Nat) : (reachR t ps r).getD j false = true ↔ Pth t ps r j := by
  obtain ⟨k1, m1, c1, s1⟩ := runR_ok ps hp (r + 1) (atR t.length r) (by omega) (by simp [atR])
  constructor
  · have go : ∀ m j, t.length - j ≤ m → (reachR t ps r).getD j false = true → Pth t ps r j := by
      intro m
      induction m with
      | zero =>
        intro j hj h
        have := getD_lt h
        rw [reachR_len] at this; omega
      | succ m ih =>
        intro j hj h
        have hlt := getD_lt h
        rw [reachR_len] at hlt
        rcases s1 j h with h1 | ⟨i, h1, h2, h3, h4, p, h5, h6⟩
        · rw [atR_get, decide_eq_true_eq] at h1
          rw [h1.2]; exact .here
        · have := (ih i (by omega) h3).tail h4 h5
          rwa [h6] at this
    exact fun h => go _ j (Nat.le_refl _) h
  · have hroot : (reachR t ps r).getD r false = true := m1 r (by rw [atR_get, decide_eq_true_eq]; exact ⟨hr, rfl⟩)
    have go : ∀ i j, Pth t ps i j → i ≤ r → (reachR t ps r).getD i false = true → (reachR t ps r).getD j false = true := by
      intro i j h
      induction h with
      | here => intro _ h; exact h
      | @step i j p a b _ ih =>
        intro h1 h2
        have := hp i (by omega) p b
        exact ih (by omega) (c1 i (by omega) h2 a p b)
    exact fun h => go r j h (Nat.le_refl _) hroot
theorem reachP_at {t : List Nd} (h : 1 ≤ t.length) (ps : Nat → Bool) : reachP t ps = reachR t ps (t.length - 1) := by
  unfold reachP reachR
  rw [rootR_at _ h, show t.length - 1 + 1 = t.length by omega]
theorem reachT_at {t : List Nd} (h : 1 ≤ t.length) : reachT t = reachR t (fun _ => true) (t.length - 1) := reachP_at h _
/-! ### What suits, as the program asks it -/
def vOk (t : List Nd) (env : List Int) (v : Nat) : Bool := (List.range t.length).all fun i => !(((freeR t v).getD i false && decide ((t.getD i default).op = 1)) && decide ((t.getD i default).k = v)) || wordOk (t.getD i default).w (env.getD v 0)
def innT (t : List Nd) (i : Nat) : List Bool := reachR t (passV t (t.getD i default).k) (t.getD i default).a.toNat
def qOk (t : List Nd) (i : Nat) : Bool := !((reachT t).getD i false && isQ (t.getD i default).op) || (List.range t.length).all fun j => !(((innT t i).getD j false && decide ((t.getD j default).op = 1)) && decide ((t.getD j default).k = (t.getD i default).k)) || decide ((t.getD j default).w = (t.getD i default).b)
def suitsT (t : List Nd) (env : List Int) : Bool := (List.range 8).all (vOk t env) && (List.range t.length).all (qOk t)
theorem imp_bool {a b : Bool} : (!a || b) = true ↔ (a = true → b = true) := by cases a <;> cases b <;> simp
theorem suits_iff {t : List Nd} (hok : okT t = true) (env : List Int) : suitsT t env = true ↔ Fit t env (t.length - 1) := by
  have hP := okT_parts hok
  have h0 := (okT_len hok).1
  have hlast : t.length - 1 < t.length := by omega
  unfold suitsT
  rw [Bool.and_eq_true, List.all_eq_true, List.all_eq_true]
  have hf : ∀ v j, (freeR t v).getD j false = true ↔ Pth t (passV t v) (t.length - 1) j := fun v j => by
    unfold freeR
    rw [reachP_at h0]
    exact reachR_iff hP _ hlast j
  have hr : ∀ j, (reachT t).getD j false = true ↔ Pth t (fun _ => true) (t.length - 1) j := fun j => by
    rw [reachT_at h0]
    exact reachR_iff hP _ hlast j
  constructor
  · rintro ⟨h1, h2⟩
    refine ⟨fun j hj ho => ?_, fun q hq hqq j hj ho hk => ?_⟩
    · have hl := hj.le hP hlast
      have hv := var_rule (okT_node hok (show j < t.length by omega)) ho
      have h3 := h1 (t.getD j default).k.toNat (List.mem_range.2 (by omega))
      unfold vOk at h3
      have h4 := List.all_eq_true.1 h3 j (List.mem_range.2 (by omega))
      rw [imp_bool] at h4
      refine h4 ?_
      rw [show (((t.getD j default).k.toNat : Nat) : Int) = (t.getD j default).k by omega]
      simp only [Bool.and_eq_true, decide_eq_true_eq]
      exact ⟨⟨(hf _ _).2 hj, ho⟩, trivial⟩
    · have hl := hq.le hP hlast
      have hql : q < t.length := by omega
      have hpa := hP q hql (t.getD q default).a (by rw [parts_q hqq]; simp)
      have hl2 := hj.le hP (by omega)
      have h3 := h2 q (List.mem_range.2 (by omega))
      unfold qOk at h3
      rw [imp_bool] at h3
      have h4 := h3 (by rw [Bool.and_eq_true]; exact ⟨(hr _).2 hq, hqq⟩)
      have h5 := List.all_eq_true.1 h4 j (List.mem_range.2 (by omega))
      rw [imp_bool] at h5
      have h6 := h5 (by
        simp only [Bool.and_eq_true, decide_eq_true_eq]
        exact ⟨⟨(reachR_iff hP _ (by omega) j).2 hj, ho⟩, hk⟩)
      exact of_decide_eq_true h6
  · rintro ⟨h1, h2⟩
    refine ⟨fun v hv => ?_, fun i hi => ?_⟩
    · unfold vOk
      refine List.all_eq_true.2 fun j hj => ?_
      rw [imp_bool]
      intro h3
      simp only [Bool.and_eq_true, decide_eq_true_eq] at h3
      obtain ⟨⟨h3, h4⟩, h5⟩ := h3
      have h6 := (hf _ _).1 h3
      rw [← h5] at h6
      have := h1 j h6 h4
      rwa [h5, show ((v : Nat) : Int).toNat = v by omega] at this
    · unfold qOk
      rw [imp_bool]
      intro h3
      rw [Bool.and_eq_true] at h3
      have hi' : i < t.length := by simpa using hi
      have hpa := hP i hi' (t.getD i default).a (by rw [parts_q h3.2]; simp)
      refine List.all_eq_true.2 fun j hj => ?_
      rw [imp_bool]
      intro h4
      simp only [Bool.and_eq_true, decide_eq_true_eq] at h4
      exact decide_eq_true (h2 i ((hr _).1 h3.1) h3.2 j ((reachR_iff hP _ (by omega) j).1 h4.1.1) h4.1.2 h4.2)
/-! ### What suits, as the reference asks it: the widths of a variable as bits -/
def orL (l : List Nat) (ps : List Int) (b : Nat) : Nat := ps.foldl (fun b p => b ||| l.getD p.toNat 0) b
def rawM (t : List Nd) (v : Int) (l : List Nat) (i : Nat) : Nat := orL l (parts (t.getD i default)) (if (t.getD i default).op = 1 ∧ (t.getD i default).k = v then 2 ^ (t.getD i default).w.toNat else 0)
def oneM (t : List Nd) (v : Int) (l : List Nat) (i : Nat) : Nat := if isQ (t.getD i default).op = true ∧ (t.getD i default).k = v then 0 else rawM t v l i
def mskB (t : List Nd) (v : Int) : Nat → List Nat
  | 0 => []
  | i + 1 => mskB t v i ++ [oneM t v (mskB t v i) i]
def msk (t : List Nd) (v : Int) (i : Nat) : Nat := oneM t v (mskB t v i) i
def raw (t : List Nd) (v : Int) (i : Nat) : Nat := rawM t v (mskB t v i) i
theorem mskB_len (t : List Nd) (v : Int) : ∀ i, (mskB t v i).length = i
  | 0 => rfl
  | i + 1 => by simp [mskB, mskB_len t v i]
theorem mskB_get (t : List Nd) (v : Int) : ∀ {i j : Nat}, j < i → (mskB t v i).getD j 0 = msk t v j
  | i + 1, j, h => by
    have hl := mskB_len t v i
    simp only [mskB]
    by_cases hj : j < i
    · rw [List.getD_eq_getElem?_getD, List.getElem?_append_left (by omega), ← List.getD_eq_getElem?_getD, mskB_get t v hj]
    · have : j = i := by omega
      subst this
      rw [List.getD_eq_getElem?_getD, List.getElem?_append_right (by omega)]
      simp [hl, msk]
theorem orL_bit (l : List Nat) (x : Nat) : ∀ (ps : List Int) (b : Nat), (orL l ps b).testBit x = (b.testBit x || ps.any fun p => (l.getD p.toNat 0).testBit x)
  | [], b => by simp [orL]
  | p :: ps, b => by
    rw [show orL l (p :: ps) b = orL l ps (b ||| l.getD p.toNat 0) from rfl, orL_bit l x ps, Nat.testBit_or, List.any_cons, Bool.or_assoc]
theorem pw_bit {a x : Nat} : (2 ^ a).testBit x = true ↔ a = x := by
  rw [Nat.testBit_two_pow]; simp
theorem raw_iff {t : List Nd} (hok : okT t = true) {v : Int} : ∀ (m i : Nat), i < m → i < t.length → ∀ x : Nat, ((raw t v i).testBit x = true ↔ ((t.getD i default).op = 1 ∧ (t.getD i default).k = v ∧ (t.getD i default).w.toNat = x) ∨ ∃ p ∈ parts (t.getD i default), ∃ j, Pth t (passV t v) p.toNat j ∧ (t.getD j default).op = 1 ∧ (t.getD j default).k = v ∧ (t.getD j default).w.toNat = x) ∧
    ((msk t v i).testBit x = true ↔ ∃ j, Pth t (passV t v) i j ∧ (t.getD j default).op = 1 ∧ (t.getD j default).k = v ∧ (t.getD j default).w.toNat = x)
  | 0, i, h, _, _ => by omega
  | m + 1, i, hm, hi, x => by
    have hP := okT_parts hok
    have hraw : (raw t v i).testBit x = true ↔ ((t.getD i default).op = 1 ∧ (t.getD i default).k = v ∧ (t.getD i default).w.toNat = x) ∨ ∃ p ∈ parts (t.getD i default), ∃ j, Pth t (passV t v) p.toNat j ∧ (t.getD j default).op = 1 ∧ (t.getD j default).k = v ∧ (t.getD j default).w.toNat = x := by
      unfold raw rawM
      rw [orL_bit, Bool.or_eq_true, List.any_eq_true]
      refine or_congr ?_ ⟨?_, ?_⟩
      · split
        · rename_i h
          rw [pw_bit]
          exact ⟨fun e => ⟨h.1, h.2, e⟩, fun e => e.2.2⟩
        · rename_i h
          simp only [Nat.zero_testBit, Bool.false_eq_true, false_iff]
          exact fun e => h ⟨e.1, e.2.1⟩
      · rintro ⟨p, h1, h2⟩
        have := hP i hi p h1
        rw [mskB_get t v (by omega)] at h2
        exact ⟨p, h1, ((raw_iff hok m p.toNat (by omega) (by omega) x).2).1 h2⟩
      · rintro ⟨p, h1, h2⟩
        have := hP i hi p h1
        refine ⟨p, h1, ?_⟩
        rw [mskB_get t v (by omega)]
        exact ((raw_iff hok m p.toNat (by omega) (by omega) x).2).2 h2
    refine ⟨hraw, ?_⟩
    unfold msk oneM
    split
    · rename_i h
      simp only [Nat.zero_testBit, Bool.false_eq_true, false_iff]
      rintro ⟨j, h1, h2, _⟩
      cases h1 with
      | here =>
        have := h.1
        rw [h2] at this; exact absurd this (by decide)
      | step a _ _ =>
        unfold passV at a
        rw [h.1, decide_eq_true h.2] at a
        cases a
    · rename_i h
      rw [show rawM t v (mskB t v i) i = raw t v i from rfl, hraw]
      constructor
      · rintro (⟨h1, h2, h3⟩ | ⟨p, h1, j, h2, h3⟩)
        · exact ⟨i, .here, h1, h2, h3⟩
        · refine ⟨j, .step ?_ h1 h2, h3⟩
          unfold passV
          cases hq : isQ (t.getD i default).op with
          | false => rfl
          | true =>
            rw [decide_eq_false fun e => h ⟨hq, e⟩]; rfl
      · rintro ⟨j, h1, h2⟩
        cases h1 with
        | here => exact .inl h2
        | step a b c => exact .inr ⟨_, b, j, c, h2⟩
def bOk (t : List Nd) (i : Nat) : Bool := !(isQ (t.getD i default).op) || (decide (raw t (t.getD i default).k i = 0) || decide (raw t (t.getD i default).k i = 2 ^ (t.getD i default).b.toNat))
def wOkM (t : List Nd) (env : List Int) (v : Nat) : Bool := (List.range 8).all fun w => !(decide (msk t v (t.length - 1) / 2 ^ (w + 1) % 2 = 1)) || wordOk ((w + 1 : Nat) : Int) (env.getD v 0)
def fitsT (t : List Nd) (env : List Int) : Bool := (List.range t.length).all (bOk t) && (List.range 8).all (wOkM t env)
theorem bits_one {n b : Nat} : (n = 0 ∨ n = 2 ^ b) ↔ ∀ x, n.testBit x = true → x = b := by
  constructor
  · rintro (h | h) x hx
    · subst h; simp at hx
    · subst h; exact (pw_bit.1 hx).symm
  · intro h
    by_cases h0 : n.testBit b = true
    · refine .inr (Nat.eq_of_testBit_eq fun x => ?_)
      rw [Bool.eq_iff_iff, pw_bit]
      exact ⟨fun hx => (h x hx).symm, fun hx => by subst hx; exact h0⟩
    · refine .inl (Nat.eq_of_testBit_eq fun x => ?_)
      rw [Nat.zero_testBit, Bool.eq_false_iff]
      intro hx
      have := h x hx
      subst this
      exact h0 hx
theorem fits_iff {t : List Nd} (hok : okT t = true) (hall : ∀ i, i < t.length → Pth t (fun _ => true) (t.length - 1) i) (env : List Int) : fitsT t env = true ↔ Fit t env (t.length - 1) := by
  have hP := okT_parts hok
  have h0 := (okT_len hok).1
  have hlast : t.length - 1 < t.length := by omega
  unfold fitsT
  rw [Bool.and_eq_true, List.all_eq_true, List.all_eq_true]
  have hb : ∀ i, i < t.length → isQ (t.getD i default).op = true → (bOk t i = true ↔ ∀ j, Pth t (passV t (t.getD i default).k) (t.getD i default).a.toNat j → (t.getD j default).op = 1 → (t.getD j default).k = (t.getD i default).k → (t.getD j default).w = (t.getD i default).b) := by
    intro i hi hq
    have hr := quant_rule (okT_node hok hi) hq
    have hpa := hP i hi (t.getD i default).a (by rw [parts_q hq]; simp)
    unfold bOk
    rw [imp_bool, Bool.or_eq_true, decide_eq_true_eq, decide_eq_true_eq, bits_one]
    constructor
    · intro h j hj ho hk
      have hl := hj.le hP (by omega)
      have hw := (okT_node hok (show j < t.length by omega)).w
      have := h hq _ (((raw_iff hok (i + 1) i (by omega) hi (t.getD j default).w.toNat).1).2 (.inr ⟨(t.getD i default).a, by rw [parts_q hq]; simp, j, hj, ho, hk, rfl⟩))
      omega
    · intro h _ x hx
      rcases ((raw_iff hok (i + 1) i (by omega) hi x).1).1 hx with ⟨h1, _⟩ | ⟨p, h1, j, h2, h3, h4, h5⟩
      · rw [h1] at hq; exact absurd hq (by decide)
      · rw [parts_q hq, List.mem_singleton] at h1
        subst h1
        have := h j h2 h3 h4
        omega
  constructor
  · rintro ⟨h1, h2⟩
    refine ⟨fun j hj ho => ?_, fun q hq hqq => ?_⟩
    · have hl := hj.le hP hlast
      have hn := okT_node hok (show j < t.length by omega)
      have hv := var_rule hn ho
      have hw := hn.w
      have h3 := h2 (t.getD j default).k.toNat (List.mem_range.2 (by omega))
      unfold wOkM at h3
      have h4 := List.all_eq_true.1 h3 ((t.getD j default).w.toNat - 1) (List.mem_range.2 (by omega))
      rw [imp_bool, show (t.getD j default).w.toNat - 1 + 1 = (t.getD j default).w.toNat by omega, show (((t.getD j default).k.toNat : Nat) : Int) = (t.getD j default).k by omega, show (((t.getD j default).w.toNat : Nat) : Int) = (t.getD j default).w by omega] at h4
      refine h4 (decide_eq_true ?_)
      have := ((raw_iff hok t.length (t.length - 1) hlast hlast (t.getD j default).w.toNat).2).2 ⟨j, hj, ho, rfl, rfl⟩
      rw [Nat.testBit_eq_decide_div_mod_eq, decide_eq_true_eq] at this
      exact this
    · have hl := hq.le hP hlast
      exact (hb q (by omega) hqq).1 (h1 q (List.mem_range.2 (by omega)))
  · rintro ⟨h1, h2⟩
    refine ⟨fun i hi => ?_, fun v hv => ?_⟩
    · have hi' : i < t.length := by simpa using hi
      by_cases hq : isQ (t.getD i default).op = true
      · exact (hb i hi' hq).2 (h2 i (hall i hi') hq)
      · unfold bOk
        rw [Bool.not_eq_true] at hq
        rw [hq]; rfl
    · unfold wOkM
      refine List.all_eq_true.2 fun w hw => ?_
      rw [imp_bool]
      intro h3
      rw [← Nat.testBit_eq_decide_div_mod_eq] at h3
      obtain ⟨j, hj, ho, hk, hw2⟩ := ((raw_iff hok t.length (t.length - 1) hlast hlast (w + 1)).2).1 h3
      have hl := hj.le hP hlast
      have hww := (okT_node hok (show j < t.length by omega)).w
      rw [← hk] at hj
      have := h1 j hj ho
      rw [hk, show ((v : Nat) : Int).toNat = v by omega] at this
      rwa [show (t.getD j default).w = ((w + 1 : Nat) : Int) by omega] at this
/-! ### A term within another one -/
theorem ren_parts (f : Int → Int) (n : Nd) : parts (renF f n) = (parts n).map f := by
  unfold parts
  show (if ((decide (n.op = 2) || decide (n.op = 17)) || isQ n.op) = true then [rA f n] else if (decide (3 ≤ n.op) && decide (n.op ≤ 16)) = true then [rA f n, rB' f n] else if n.op = 18 then [rA f n, rB' f n, rC f n] else []) = _
  by_cases h1 : ((decide (n.op = 2) || decide (n.op = 17)) || isQ n.op) = true
  · have e : parts n = [n.a] := by unfold parts; rw [if_pos h1]
    rw [if_pos h1, if_pos h1]
    unfold rA
    rw [e]; rfl
  · rw [if_neg h1, if_neg h1]
    by_cases h2 : (decide (3 ≤ n.op) && decide (n.op ≤ 16)) = true
    · have e : parts n = [n.a, n.b] := by unfold parts; rw [if_neg h1, if_pos h2]
      rw [if_pos h2, if_pos h2]
      unfold rA rB'
      rw [e]; rfl
    · rw [if_neg h2, if_neg h2]
      by_cases h3 : n.op = 18
      · have e : parts n = [n.a, n.b, n.c] := by unfold parts; rw [if_neg h1, if_neg h2, if_pos h3]
        rw [if_pos h3, if_pos h3]
        unfold rA rB' rC
        rw [e]; rfl
      · rw [if_neg h3, if_neg h3]; rfl
theorem ren_a {f : Int → Int} {n : Nd} (h : (parts n).length = 0) : (renF f n).a = n.a := if_neg (by omega)
theorem ren_b {f : Int → Int} {n : Nd} (h : (parts n).length ≤ 1) : (renF f n).b = n.b := if_neg (by omega)
theorem ren_c {f : Int → Int} {n : Nd} (h : (parts n).length ≤ 2) : (renF f n).c = n.c := if_neg (by omega)
theorem ren_rule (f : Int → Int) (n : Nd) (w : List Int) : rule (renF f n) w = rule n w := by
  have l1 : (n.op = 2 ∨ n.op = 17 ∨ n.op = 19 ∨ n.op = 20) → (parts n).length = 1 := fun h => by rw [parts_1 h]; rfl
  have l2 : (3 ≤ n.op ∧ n.op ≤ 16) → (parts n).length = 2 := fun h => by rw [parts_2 h]; rfl
  have l0 : n.op = 0 ∨ n.op = 1 → (parts n).length = 0 := fun h => by rw [parts_0 (by omega)]; rfl
  have e1 : (renF f n).op = n.op := rfl
  have e2 : (renF f n).w = n.w := rfl
  have e3 : (renF f n).k = n.k := rfl
  unfold rule
  rw [e1, e2, e3]
  by_cases h0 : n.op = 0
  · rw [if_pos h0, if_pos h0, ren_a (l0 (.inl h0)), ren_b (by have := l0 (.inl h0); omega), ren_c (by have := l0 (.inl h0); omega)]
  rw [if_neg h0, if_neg h0]
  by_cases h1 : n.op = 1
  · rw [if_pos h1, if_pos h1, ren_a (l0 (.inr h1)), ren_b (by have := l0 (.inr h1); omega), ren_c (by have := l0 (.inr h1); omega)]
  rw [if_neg h1, if_neg h1]
  by_cases h2 : n.op = 2
  · rw [if_pos h2, if_pos h2, ren_b (by have := l1 (.inl h2); omega), ren_c (by have := l1 (.inl h2); omega)]
  rw [if_neg h2, if_neg h2]
  by_cases h3 : (decide (3 ≤ n.op) && decide (n.op ≤ 12)) = true
  · rw [if_pos h3, if_pos h3, ren_c (by have := l2 (by simp at h3; omega); omega)]
  rw [if_neg h3, if_neg h3]
  by_cases h4 : (decide (13 ≤ n.op) && decide (n.op ≤ 15)) = true
  · rw [if_pos h4, if_pos h4, ren_c (by have := l2 (by simp at h4; omega); omega)]
  rw [if_neg h4, if_neg h4]
  by_cases h5 : n.op = 16
  · rw [if_pos h5, if_pos h5, ren_c (by have := l2 (by omega); omega)]
  rw [if_neg h5, if_neg h5]
  by_cases h6 : n.op = 17
  · rw [if_pos h6, if_pos h6, ren_b (by have := l1 (by omega); omega), ren_c (by have := l1 (by omega); omega)]
  rw [if_neg h6, if_neg h6]
  by_cases h7 : n.op = 18
  · rw [if_pos h7, if_pos h7]
  rw [if_neg h7, if_neg h7]
  by_cases h8 : isQ n.op = true
  · rw [if_pos h8, if_pos h8, ren_b (by have := l1 (by unfold isQ at h8; simp at h8; omega); omega), ren_c (by have := l1 (by unfold isQ at h8; simp at h8; omega); omega)]
  rw [if_neg h8, if_neg h8]
theorem map_getD0 {l : List Int} (f : Int → Int) {k : Nat} (h : k < l.length) : (l.map f).getD k 0 = f (l.getD k 0) := by
  rw [List.getD_eq_getElem?_getD, List.getElem?_map, List.getElem?_eq_getElem h, ← getD_at (d := 0) h]; rfl
structure Emb0 (t p : List Nd) (R : Nat → Prop) (pl : Nat → Nat) : Prop where
  lt : ∀ i, R i → i < t.length
  ltp : ∀ i, R i → pl i < p.length
  node : ∀ i, R i → p.getD (pl i) default = renF (fun q => (pl q.toNat : Int)) (t.getD i default)
  clo : ∀ i, R i → ∀ q ∈ parts (t.getD i default), R q.toNat
structure Emb (t p : List Nd) (R : Nat → Prop) (pl : Nat → Nat) : Prop extends Emb0 t p R pl where
  mono : ∀ i j, R i → R j → i < j → pl i < pl j
  onto : ∀ j, j < p.length → ∃ i, R i ∧ pl i = j
section
variable {t p : List Nd} {R : Nat → Prop} {pl : Nat → Nat}
theorem Emb0.pts (h : Emb0 t p R pl) {i : Nat} (hi : R i) : parts (p.getD (pl i) default) = (parts (t.getD i default)).map fun q => (pl q.toNat : Int) := by
  rw [h.node i hi, ren_parts]
theorem Emb0.w (h : Emb0 t p R pl) {i : Nat} (hi : R i) : wAt p (pl i : Int) = wAt t (i : Int) := by
  unfold wAt
  rw [show ((pl i : Nat) : Int).toNat = pl i by omega, h.node i hi]; rfl
theorem Emb.ok (h : Emb t p R pl) (hok : okT t = true) (h1 : 1 ≤ p.length) (h80 : p.length ≤ 80) : okT p = true := by
  have hP := okT_parts hok
  unfold okT
  rw [Bool.and_eq_true, Bool.and_eq_true, decide_eq_true_eq, decide_eq_true_eq, List.all_eq_true]
  refine ⟨⟨by omega, by omega⟩, fun j hj => ?_⟩
  obtain ⟨i, hi, rfl⟩ := h.onto j (by simpa using hj)
  have hn := okT_node hok (h.lt i hi)
  unfold sRight
  simp only [Bool.and_eq_true, decide_eq_true_eq, List.all_eq_true]
  have hw : (parts (p.getD (pl i) default)).map (wAt p) = (parts (t.getD i default)).map (wAt t) := by
    rw [h.pts hi, List.map_map]
    refine List.map_congr_left fun q hq => ?_
    have h2 := hP i (h.lt i hi) q hq
    have := h.w (h.clo i hi q hq)
    show wAt p (pl q.toNat : Int) = wAt t q
    rw [this, show ((q.toNat : Nat) : Int) = q by omega]
  refine ⟨fun q hq => ?_, ?_, ?_⟩
  · rw [h.pts hi] at hq
    obtain ⟨x, hx, rfl⟩ := List.mem_map.1 hq
    have h2 := hP i (h.lt i hi) x hx
    have := h.mono x.toNat i (h.clo i hi x hx) hi (by omega)
    omega
  · rw [h.node i hi]; exact hn.w
  · rw [hw, h.node i hi, ren_rule]; exact hn.rul
theorem appN_op {t p : List Nd} {n m : Nd} {x y : Nat → Int} (h1 : n.op = m.op) (h2 : n.w = m.w) (h3 : n.k = m.k) (h4 : (if (parts n).length = 0 then 1 else wAt p ((parts n).getD 0 0)) = if (parts m).length = 0 then 1 else wAt t ((parts m).getD 0 0)) (h : ∀ k, x k = y k) : appN p n x = appN t m y := by
  unfold appN
  rw [h4, h, h, h]
  unfold appT appOk
  rw [h1, h2, h3]
theorem Emb0.ev (h : Emb0 t p R pl) (hP : PartsOk t) (hPp : PartsOk p) (q : Bool → List Int → Int) : ∀ (m i : Nat) (env : List Int), i < m → R i → evT q p env (pl i) = evT q t env i
  | 0, _, _, hm, _ => by omega
  | m + 1, i, env, hm, hi => by
    have hp := h.pts hi
    rw [evT_eq hPp (h.ltp i hi), evT_eq hP (h.lt i hi)]
    have e1 : (p.getD (pl i) default).op = (t.getD i default).op := by rw [h.node i hi]; rfl
    have e2 : (p.getD (pl i) default).k = (t.getD i default).k := by rw [h.node i hi]; rfl
    have e3 : (p.getD (pl i) default).w = (t.getD i default).w := by rw [h.node i hi]; rfl
    rw [e1, e2]
    by_cases h1 : (t.getD i default).op = 1
    · rw [if_pos h1, if_pos h1]
    rw [if_neg h1, if_neg h1]
    by_cases hq : isQ (t.getD i default).op = true
    · rw [if_pos hq, if_pos hq]
      have hpa : (t.getD i default).a ∈ parts (t.getD i default) := by rw [parts_q hq]; simp
      have h2 := hP i (h.lt i hi) _ hpa
      have e4 : (p.getD (pl i) default).b = (t.getD i default).b := by rw [h.node i hi]; exact ren_b (by rw [parts_q hq]; simp)
      have e5 : (p.getD (pl i) default).a.toNat = pl (t.getD i default).a.toNat := by
        rw [parts_q (by rw [e1]; exact hq), parts_q hq] at hp
        simp only [List.map_cons, List.map_nil, List.cons.injEq, and_true] at hp
        rw [hp]; omega
      rw [e4, e5]
      congr 1
      exact List.map_congr_left fun x _ => h.ev hP hPp q m _ _ (by omega) (h.clo i hi _ hpa)
    · rw [if_neg hq, if_neg hq]
      refine appN_op e1 e3 e2 ?_ fun k => ?_
      · rw [hp, List.length_map]
        by_cases h0 : (parts (t.getD i default)).length = 0
        · rw [if_pos h0, if_pos h0]
        · rw [if_neg h0, if_neg h0]
          have hm0 := mem_gV (d := 0) (show 0 < (parts (t.getD i default)).length by omega)
          have h2 := hP i (h.lt i hi) _ hm0
          have := h.w (h.clo i hi _ hm0)
          rw [map_getD0 _ (show 0 < (parts (t.getD i default)).length by omega), this]
          congr 1
          omega
      · rw [hp, List.length_map]
        by_cases hk : k < (parts (t.getD i default)).length
        · rw [if_pos hk, if_pos hk]
          have hm0 := mem_gV (d := 0) hk
          have h2 := hP i (h.lt i hi) _ hm0
          have := h.ev hP hPp q m _ env (by omega) (h.clo i hi _ hm0)
          rw [map_getD0 _ hk, show ∀ x : Nat, ((pl x : Nat) : Int).toNat = pl x from fun x => by omega]
          exact this
        · rw [if_neg hk, if_neg hk]
theorem Emb0.path (h : Emb0 t p R pl) (hP : PartsOk t) {ps ps' : Nat → Bool} (he : ∀ i, R i → ps' (pl i) = ps i) {i j : Nat} (hi : R i) (hp : Pth t ps i j) : R j ∧ Pth p ps' (pl i) (pl j) := by
  induction hp with
  | here => exact ⟨hi, .here⟩
  | @step i j q a b c ih =>
    have h1 := h.clo i hi q b
    obtain ⟨h2, h3⟩ := ih h1
    refine ⟨h2, ?_⟩
    have : ((pl q.toNat : Nat) : Int) ∈ parts (p.getD (pl i) default) := by rw [h.pts hi]; exact List.mem_map.2 ⟨q, b, rfl⟩
    have h4 := Pth.step (t := p) (ps := ps') (p := ((pl q.toNat : Nat) : Int)) (j := pl j) (by rw [he i hi]; exact a) this (by rw [show ((pl q.toNat : Nat) : Int).toNat = pl q.toNat by omega]; exact h3)
    exact h4
theorem Emb0.back (h : Emb0 t p R pl) (hP : PartsOk t) {ps ps' : Nat → Bool} (he : ∀ i, R i → ps' (pl i) = ps i) {x y : Nat} (hp : Pth p ps' x y) : ∀ i, R i → pl i = x → ∃ j, R j ∧ pl j = y ∧ Pth t ps i j := by
  induction hp with
  | here => intro i hi e; exact ⟨i, hi, e, .here⟩
  | @step x y q a b c ih =>
    intro i hi e
    subst e
    rw [h.pts hi] at b
    obtain ⟨z, hz, rfl⟩ := List.mem_map.1 b
    have h2 := hP i (h.lt i hi) z hz
    obtain ⟨j, h3, h4, h5⟩ := ih z.toNat (h.clo i hi z hz) (by omega)
    exact ⟨j, h3, h4, .step (by rw [← he i hi]; exact a) hz h5⟩
theorem Emb0.pass (h : Emb0 t p R pl) (v : Int) : ∀ i, R i → passV p v (pl i) = passV t v i := fun i hi => by
  unfold passV
  rw [h.node i hi]; rfl
theorem Emb0.fit (h : Emb0 t p R pl) (hP : PartsOk t) {env : List Int} {i : Nat} (hi : R i) : Fit p env (pl i) ↔ Fit t env i := by
  have fop : ∀ j, R j → (p.getD (pl j) default).op = (t.getD j default).op := fun j hj => by rw [h.node j hj]; rfl
  have fk : ∀ j, R j → (p.getD (pl j) default).k = (t.getD j default).k := fun j hj => by rw [h.node j hj]; rfl
  have fw : ∀ j, R j → (p.getD (pl j) default).w = (t.getD j default).w := fun j hj => by rw [h.node j hj]; rfl
  have fa : ∀ q, R q → isQ (t.getD q default).op = true → R (t.getD q default).a.toNat ∧ (p.getD (pl q) default).a.toNat = pl (t.getD q default).a.toNat ∧ (p.getD (pl q) default).b = (t.getD q default).b := fun q hq hqq => by
    have hpa : (t.getD q default).a ∈ parts (t.getD q default) := by rw [parts_q hqq]; simp
    have hp := h.pts hq
    rw [parts_q (by rw [fop q hq]; exact hqq), parts_q hqq] at hp
    simp only [List.map_cons, List.map_nil, List.cons.injEq, and_true] at hp
    refine ⟨h.clo q hq _ hpa, by rw [hp]; omega, ?_⟩
    rw [h.node q hq]; exact ren_b (by rw [parts_q hqq]; simp)
  constructor
  · rintro ⟨h1, h2⟩
    refine ⟨fun j hj ho => ?_, fun q hq hqq j hj ho hk => ?_⟩
    · obtain ⟨hj2, hj3⟩ := h.path hP (h.pass (t.getD j default).k) hi hj
      have := h1 (pl j) (by rw [fk j hj2]; exact hj3) (by rw [fop j hj2]; exact ho)
      rwa [fw j hj2, fk j hj2] at this
    · obtain ⟨hq2, hq3⟩ := h.path hP (ps' := fun _ => true) (fun _ _ => rfl) hi hq
      obtain ⟨ha, hb, hc⟩ := fa q hq2 hqq
      obtain ⟨hj2, hj3⟩ := h.path hP (h.pass (t.getD q default).k) ha hj
      have := h2 (pl q) hq3 (by rw [fop q hq2]; exact hqq) (pl j) (by rw [fk q hq2, hb]; exact hj3) (by rw [fop j hj2]; exact ho) (by rw [fk j hj2, fk q hq2]; exact hk)
      rwa [fw j hj2, hc] at this
  · rintro ⟨h1, h2⟩
    refine ⟨fun y hy ho => ?_, fun y hy hqq x hx ho hk => ?_⟩
    · have hy' := hy
      obtain ⟨j, hj, rfl, hj3⟩ := h.back hP (h.pass (p.getD y default).k) hy i hi rfl
      rw [fk j hj] at hj3 ⊢
      rw [fop j hj] at ho
      rw [fw j hj]
      exact h1 j hj3 ho
    · obtain ⟨q, hq, rfl, hq3⟩ := h.back hP (ps := fun _ => true) (fun _ _ => rfl) hy i hi rfl
      rw [fop q hq] at hqq
      obtain ⟨ha, hb, hc⟩ := fa q hq hqq
      rw [hb] at hx
      obtain ⟨j, hj, rfl, hj3⟩ := h.back hP (h.pass (p.getD (pl q) default).k) hx _ ha rfl
      rw [fk q hq] at hj3
      rw [fop j hj] at ho
      rw [fk j hj, fk q hq] at hk
      rw [fw j hj, hc]
      exact h2 q hq3 hqq j hj3 ho hk
end
/-! ### A term without what is not reached, within the term -/
def plN (t : List Nd) (i : Nat) : Nat := (prn t (reachT t) i).2.length
section
variable {t : List Nd} {is : List Bool}
theorem prn_pl : ∀ {x j : Nat}, j < x → (prn t is x).1.getD j 0 = ((prn t is j).2.length : Int)
  | x + 1, j, h => by
    have hl := (prn_len t is x).1
    show ((prn t is x).1 ++ [((prn t is x).2.length : Int)]).getD j 0 = _
    by_cases hj : j < x
    · rw [List.getD_eq_getElem?_getD, List.getElem?_append_left (by omega), ← List.getD_eq_getElem?_getD, prn_pl hj]
    · have : j = x := by omega
      subst this
      rw [List.getD_eq_getElem?_getD, List.getElem?_append_right (by omega)]
      simp [hl]
theorem prn_step (x : Nat) : (prn t is (x + 1)).2 = if is.getD x false = true then (prn t is x).2 ++ [renum (prn t is (x + 1)).1 (t.getD x default)] else (prn t is x).2 := rfl
theorem prn_mono : ∀ {x j : Nat}, j ≤ x → (prn t is j).2.length ≤ (prn t is x).2.length
  | 0, j, h => by rw [Nat.le_zero.1 h]; exact Nat.le_refl _
  | x + 1, j, h => by
    by_cases hj : j = x + 1
    · rw [hj]; exact Nat.le_refl _
    · have := prn_mono (x := x) (j := j) (by omega)
      rw [prn_step]
      split
      · simp; omega
      · exact this
theorem prn_lt {x j : Nat} (h : j < x) (hr : is.getD j false = true) : (prn t is j).2.length < (prn t is x).2.length := by
  have := prn_mono (t := t) (is := is) (show j + 1 ≤ x from h)
  rw [prn_step, if_pos hr] at this
  simp at this; omega
theorem prn_node : ∀ {x j : Nat}, j < x → is.getD j false = true → (prn t is x).2.getD (prn t is j).2.length default = renum (prn t is (j + 1)).1 (t.getD j default)
  | x + 1, j, h, hr => by
    rw [prn_step]
    by_cases hj : j = x
    · subst hj
      rw [if_pos hr, List.getD_eq_getElem?_getD, List.getElem?_append_right (Nat.le_refl _), Nat.sub_self]; rfl
    · have ih := prn_node (x := x) (j := j) (by omega) hr
      have hlt := prn_lt (t := t) (x := x) (j := j) (by omega) hr
      split
      · rw [List.getD_eq_getElem?_getD, List.getElem?_append_left hlt, ← List.getD_eq_getElem?_getD, ih]
      · exact ih
theorem prn_onto : ∀ {x y : Nat}, y < (prn t is x).2.length → ∃ j, j < x ∧ is.getD j false = true ∧ (prn t is j).2.length = y
  | 0, y, h => absurd h (Nat.not_lt_zero _)
  | x + 1, y, h => by
    rw [prn_step] at h
    split at h
    · rename_i hr
      rw [List.length_append] at h
      by_cases hy : y < (prn t is x).2.length
      · obtain ⟨j, h1, h2⟩ := prn_onto hy
        exact ⟨j, by omega, h2⟩
      · exact ⟨x, by omega, hr, by simp at h; omega⟩
    · obtain ⟨j, h1, h2⟩ := prn_onto h
      exact ⟨j, by omega, h2⟩
end
abbrev RchT (t : List Nd) (i : Nat) : Prop := (reachT t).getD i false = true
theorem prune_eq {t : List Nd} (hok : okT t = true) : pruneT t = (prn t (reachT t) t.length).2 := if_pos hok
theorem rch_lt {t : List Nd} {i : Nat} (h : RchT t i) : i < t.length := by
  have := getD_lt h
  rwa [reachT_len] at this
theorem rch_iff {t : List Nd} (hok : okT t = true) {i : Nat} : RchT t i ↔ Pth t (fun _ => true) (t.length - 1) i := by
  have h0 := (okT_len hok).1
  unfold RchT
  rw [reachT_at h0]
  exact reachR_iff (okT_parts hok) _ (by omega) i
theorem prune_emb {t : List Nd} (hok : okT t = true) : Emb t (pruneT t) (RchT t) (plN t) where
  lt _ h := rch_lt h
  ltp i h := by rw [prune_eq hok]; exact prn_lt (rch_lt h) h
  node i h := by
    have hP := okT_parts hok i (rch_lt h)
    rw [prune_eq hok]
    show (prn t (reachT t) t.length).2.getD (prn t (reachT t) i).2.length default = _
    rw [prn_node (rch_lt h) h]
    have ha : 0 < (parts (t.getD i default)).length → (prn t (reachT t) (i + 1)).1.getD (t.getD i default).a.toNat 0 = ((plN t (t.getD i default).a.toNat : Nat) : Int) := fun h0 => by
      have := part_a hP h0
      exact prn_pl (by omega)
    have hb : 1 < (parts (t.getD i default)).length → (prn t (reachT t) (i + 1)).1.getD (t.getD i default).b.toNat 0 = ((plN t (t.getD i default).b.toNat : Nat) : Int) := fun h0 => by
      have := part_b hP h0
      exact prn_pl (by omega)
    have hc : 2 < (parts (t.getD i default)).length → (prn t (reachT t) (i + 1)).1.getD (t.getD i default).c.toNat 0 = ((plN t (t.getD i default).c.toNat : Nat) : Int) := fun h0 => by
      have := part_c hP h0
      exact prn_pl (by omega)
    unfold renum renF ra rb rc rA rB' rC
    congr 1
    · split
      · rename_i h0; exact ha h0
      · rfl
    · split
      · rename_i h0; exact hb h0
      · rfl
    · split
      · rename_i h0; exact hc h0
      · rfl
  clo i h q hq := (rch_iff hok).2 (((rch_iff hok).1 h).tail rfl hq)
  mono i j h1 h2 h3 := prn_lt h3 h1
  onto j h := by
    rw [prune_eq hok] at h
    obtain ⟨i, h1, h2, h3⟩ := prn_onto h
    exact ⟨i, h2, h3⟩
theorem prune_root {t : List Nd} (hok : okT t = true) : RchT t (t.length - 1) ∧ 1 ≤ (pruneT t).length ∧ plN t (t.length - 1) = (pruneT t).length - 1 := by
  have h0 := (okT_len hok).1
  have hr : RchT t (t.length - 1) := (rch_iff hok).2 .here
  refine ⟨hr, ?_, ?_⟩
  · have := (prune_emb hok).ltp _ hr; omega
  · have h1 : (prn t (reachT t) (t.length - 1 + 1)).2 = (prn t (reachT t) (t.length - 1)).2 ++ [renum (prn t (reachT t) (t.length - 1 + 1)).1 (t.getD (t.length - 1) default)] := by rw [prn_step, if_pos hr]
    rw [show t.length - 1 + 1 = t.length by omega] at h1
    rw [prune_eq hok, h1]
    simp [plN]
theorem prune_ok {t : List Nd} (hok : okT t = true) : okT (pruneT t) = true := by
  have := (prn_len t (reachT t) t.length).2
  have := okT_len hok
  exact (prune_emb hok).ok hok (prune_root hok).2.1 (by rw [prune_eq hok]; omega)
theorem prune_all {t : List Nd} (hok : okT t = true) : ∀ j, j < (pruneT t).length → Pth (pruneT t) (fun _ => true) ((pruneT t).length - 1) j := fun j hj => by
  obtain ⟨i, hi, rfl⟩ := (prune_emb hok).onto j hj
  have := ((prune_emb hok).path (okT_parts hok) (ps := fun _ => true) (ps' := fun _ => true) (fun _ _ => rfl) (prune_root hok).1 ((rch_iff hok).1 hi)).2
  rwa [(prune_root hok).2.2] at this
/-! ### The value -/
def qbit (n : Nd) : Int := if isQ n.op = true then n.b else 0
def qbN (t : List Nd) : Nat → Int
  | 0 => 0
  | x + 1 => qbN t x + if (reachT t).getD x false = true then qbit (t.getD x default) else 0
def qbP (p : List Nd) : Nat → Int
  | 0 => 0
  | x + 1 => qbP p x + qbit (p.getD x default)
theorem qbP_app (p : List Nd) (n : Nd) : ∀ x, x ≤ p.length → qbP (p ++ [n]) x = qbP p x
  | 0, _ => rfl
  | x + 1, h => by
    rw [qbP, qbP, qbP_app p n x (by omega), List.getD_eq_getElem?_getD, List.getElem?_append_left (by omega), ← List.getD_eq_getElem?_getD]
theorem ren_qbit (l : List Int) (n : Nd) : qbit (renum l n) = qbit n := by
  unfold qbit
  show (if isQ n.op = true then rb l n else 0) = _
  split
  · rename_i h
    exact if_neg (by rw [parts_q h]; simp)
  · rfl
theorem qb_prn (t : List Nd) : ∀ x, qbP (prn t (reachT t) x).2 (prn t (reachT t) x).2.length = qbN t x
  | 0 => rfl
  | x + 1 => by
    have ih := qb_prn t x
    rw [prn_step, qbN]
    split
    · rw [List.length_append, List.length_cons, List.length_nil, qbP, qbP_app _ _ _ (Nat.le_refl _), ih, List.getD_eq_getElem?_getD, List.getElem?_append_right (Nat.le_refl _), Nat.sub_self]
      show _ + qbit (renum _ _) = _
      rw [ren_qbit]
    · rw [ih, Int.add_zero]
def qbT (t : List Nd) : Int := qbN t t.length
theorem qb_prune {t : List Nd} (hok : okT t = true) : qbP (pruneT t) (pruneT t).length = qbT t := by
  rw [prune_eq hok]; exact qb_prn t t.length
/-- A term's value, by the program and by the reference. -/
def vOkI (t : List Nd) (env : List Int) : Bool := ((okT t && decide (env.length = 8)) && suitsT t env) && decide (qbT t ≤ 12)
def vOkS (t : List Nd) (env : List Int) : Bool := (okT t && decide (env.length = 8)) && (decide (qbP (pruneT t) (pruneT t).length ≤ 12) && fitsT (pruneT t) env)
def valI (t : List Nd) (env : List Int) : Int := if vOkI t env = true then evT quI t env (t.length - 1) else 0
def valS (t : List Nd) (env : List Int) : Int := if vOkS t env = true then evT quS (pruneT t) env ((pruneT t).length - 1) else 0
theorem prune_fit {t : List Nd} (hok : okT t = true) (env : List Int) : fitsT (pruneT t) env = suitsT t env := by
  rw [Bool.eq_iff_iff, fits_iff (prune_ok hok) (prune_all hok), suits_iff hok, ← (prune_root hok).2.2]
  exact (prune_emb hok).fit (okT_parts hok) (prune_root hok).1
theorem val_eq (t : List Nd) (env : List Int) : vOkI t env = vOkS t env ∧ valI t env = valS t env := by
  have h : vOkI t env = vOkS t env := by
    unfold vOkI vOkS
    by_cases hok : okT t = true
    · rw [prune_fit hok, qb_prune hok, Bool.and_assoc, Bool.and_comm (suitsT t env)]
    · rw [Bool.not_eq_true] at hok
      rw [hok]; rfl
  refine ⟨h, ?_⟩
  unfold valI valS
  rw [← h]
  split
  · rename_i hv
    unfold vOkI at hv
    simp only [Bool.and_eq_true, decide_eq_true_eq] at hv
    obtain ⟨⟨⟨hok, he⟩, hs⟩, _⟩ := hv
    have h0 := (okT_len hok).1
    rw [(fit_word hok t.length (t.length - 1) env (by omega) (by omega) he ((suits_iff hok env).1 hs)).2, ← (prune_root hok).2.2]
    exact ((prune_emb hok).ev (okT_parts hok) (okT_parts (prune_ok hok)) quS t.length (t.length - 1) env (by omega) (prune_root hok).1).symm
  · rfl
end Go.Proofs.YtkdkbnacelnljaaGreat.RE
