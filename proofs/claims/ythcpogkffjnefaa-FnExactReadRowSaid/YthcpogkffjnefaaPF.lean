/- Rows of flags as texts: the laws on ReadRow and RowText. -/
import Derived.Test.YthcpogkffjnefaaPE
set_option linter.unusedVariables false
set_option linter.unusedSimpArgs false
namespace Go.Proofs.Ythcpogkffjnefaa.JP
open Go.RowKit Go.Proofs.YthcpogkffjnefaaW.PrintWords Go.Proofs.YthcpogkffjnefaaW.PrintLast Go.Proofs.Ythcpogkffjnefaa.Lib0 Go.Proofs.Ythcpogkffjnefaa.J

def fl (b : Bool) : UInt8 := if b then 97 else 115
def flI (b : Bool) : Int := if b then 97 else 115
def rowL (l : List Bool) : List UInt8 := if l = [] then [45] else l.map fl
theorem str_fl (l : List Bool) : strOfNums (l.map flI) = mkB (l.map fl) := by
  unfold strOfNums mkB
  congr 2
  rw [List.map_map]
  apply List.map_congr_left
  intro b _
  cases b <;> rfl
theorem impl_RowText_loop (xs : List Bool) (hl : xs.length ≤ 1000000000) : ∀ (r : List Bool) (i : Nat) (acc : List Bool), xs.drop i = r → i ≤ xs.length → acc = xs.take i →
    Ev (fun k => impl_RowText.l0 k (acc.map flI) xs (xs.length : Int) (i : Int)) (mkB (xs.map fl)) := by
  intro r
  induction r with
  | nil =>
    intro i acc hr hi ha
    have h1 := dropl_nil hr
    refine Ev.round ?_
    simp only [impl_RowText.l0]
    refine Ev.neg (by omega) (Ev.eq (Ev.now _) ?_)
    rw [str_fl, ha, List.take_of_length_le h1]
  | cons b r ih =>
    intro i acc hr hi ha
    obtain ⟨hb, hlt, hr'⟩ := rdOf_drop (d := false) hr
    have hal : acc.length = i := by rw [ha, List.length_take]; omega
    have hn : acc ++ [b] = xs.take (i + 1) := by
      rw [List.take_add_one, ← ha]
      have : xs[i]? = some b := by
        have h2 := List.drop_eq_getElem_cons hlt
        rw [hr] at h2
        injection h2 with h2 _
        rw [List.getElem?_eq_getElem hlt, h2]
      rw [this]; rfl
    have key := ih (i + 1) (acc ++ [b]) hr' (by omega) hn
    refine Ev.round ?_
    simp only [impl_RowText.l0, up i (by omega), hb]
    refine Ev.pos (by omega) (Ev.pos (by omega) (Ev.pos (by omega) ?_))
    cases b with
    | true =>
      refine Ev.pos rfl (Ev.pos (by rw [List.length_map]; omega) ?_)
      rw [List.map_append] at key
      exact key
    | false =>
      refine Ev.neg (by simp) (Ev.pos (by rw [List.length_map]; omega) ?_)
      rw [List.map_append] at key
      exact key
theorem spec_RowText_loop (xs : List Bool) (hl : xs.length ≤ 1000000000) : ∀ (r : List Bool) (i : Nat) (acc : List Bool), xs.drop i = r → i ≤ xs.length → acc = xs.take i →
    Ev (fun k => spec_RowText.l0 k xs (acc.map flI) (i : Int)) (mkB (rowL xs)) := by
  intro r
  induction r with
  | nil =>
    intro i acc hr hi ha
    have h1 := dropl_nil hr
    rw [List.take_of_length_le h1] at ha
    subst ha
    refine Ev.round ?_
    simp only [spec_RowText.l0]
    refine Ev.neg (by omega) ?_
    unfold rowL
    by_cases he : acc = []
    · refine Ev.pos (by rw [he]; rfl) (Ev.eq (Ev.now _) ?_)
      rw [if_pos he]; rfl
    · have : 0 < acc.length := List.length_pos_iff.2 he
      refine Ev.neg (by rw [List.length_map]; omega) (Ev.eq (Ev.now _) ?_)
      rw [if_neg he, str_fl]
  | cons b r ih =>
    intro i acc hr hi ha
    obtain ⟨hb, hlt, hr'⟩ := rdOf_drop (d := false) hr
    have hal : acc.length = i := by rw [ha, List.length_take]; omega
    have hn : acc ++ [b] = xs.take (i + 1) := by
      rw [List.take_add_one, ← ha]
      have : xs[i]? = some b := by
        have h2 := List.drop_eq_getElem_cons hlt
        rw [hr] at h2
        injection h2 with h2 _
        rw [List.getElem?_eq_getElem hlt, h2]
      rw [this]; rfl
    have key := ih (i + 1) (acc ++ [b]) hr' (by omega) hn
    refine Ev.round ?_
    simp only [spec_RowText.l0, up i (by omega), hb]
    refine Ev.pos (by omega) (Ev.pos (by omega) ?_)
    cases b with
    | true =>
      refine Ev.pos rfl (Ev.pos (by rw [List.length_map]; omega) ?_)
      rw [List.map_append] at key
      exact key
    | false =>
      refine Ev.neg (by simp) (Ev.pos (by rw [List.length_map]; omega) ?_)
      rw [List.map_append] at key
      exact key
theorem impl_RowText_ev (xs : List Bool) (hl : xs.length ≤ 1000000000) : Ev (fun k => impl_RowText.f k xs) (mkB (rowL xs)) := by
  unfold impl_RowText.f rowL
  by_cases he : xs = []
  · refine Ev.pos (by rw [he]; rfl) (Ev.eq (Ev.now _) ?_)
    rw [if_pos he]; rfl
  · have : 0 < xs.length := List.length_pos_iff.2 he
    refine Ev.eq ?_ (congrArg mkB (if_neg he).symm)
    exact Ev.neg (by omega) (impl_RowText_loop xs hl xs 0 [] rfl (by omega) rfl)
theorem spec_RowText_ev (xs : List Bool) (hl : xs.length ≤ 1000000000) : Ev (fun k => spec_RowText.f k xs) (mkB (rowL xs)) := by
  unfold spec_RowText.f
  exact spec_RowText_loop xs hl xs 0 [] rfl (by omega) rfl
/-! ### the way back -/
def flagOk (c : UInt8) : Prop := c = 97 ∨ c = 115
instance (c : UInt8) : Decidable (flagOk c) := by unfold flagOk; exact inferInstance
def back (l : List UInt8) : List Bool := l.map (· == 97)
theorem back_fl (l : List UInt8) : (back l).map fl = l ↔ ∀ c ∈ l, flagOk c := by
  unfold back
  rw [List.map_map]
  induction l with
  | nil => simp
  | cons c l ih =>
    simp only [List.map_cons, List.cons.injEq, ih, List.mem_cons, forall_eq_or_imp]
    constructor
    · rintro ⟨h, h2⟩
      refine ⟨?_, h2⟩
      unfold flagOk
      simp only [Function.comp, fl] at h
      split at h
      · exact .inl h.symm
      · exact .inr h.symm
    · rintro ⟨h, h2⟩
      refine ⟨?_, h2⟩
      rcases h with rfl | rfl <;> rfl
def rowOf (l : List UInt8) : List Bool × Bool := if l = [45] then ([], true) else if 1 ≤ l.length ∧ l.length ≤ 12 ∧ ∀ c ∈ l, flagOk c then (back l, true) else ([], false)
theorem spec_ReadRow_loop (s : ByteArray) (h12 : s.size ≤ 12) : ∀ (r : List UInt8) (i : Nat) (acc : List Bool), s.data.toList.drop i = r → i ≤ s.size → acc.length = i →
    Ev (fun k => spec_ReadRow.l0 k s acc (i : Int)) (if (∀ c ∈ r, flagOk c) then (acc ++ back r, true) else ([], false)) := by
  intro r
  induction r with
  | nil =>
    intro i acc hr hi ha
    have h1 := drop_nil hr
    refine Ev.round ?_
    simp only [spec_ReadRow.l0]
    refine Ev.neg (by omega) (Ev.eq (Ev.now _) ?_)
    simp [back]
  | cons c r ih =>
    intro i acc hr hi ha
    obtain ⟨hb, hlt, hr'⟩ := bt_drop hr
    have key := ih (i + 1) (acc ++ [(bt s (i : Int) == 97)]) hr' (by omega) (by simp; omega)
    refine Ev.round ?_
    simp only [spec_ReadRow.l0, up i (by omega)]
    refine Ev.pos (by omega) (Ev.pos (by omega) ?_)
    have hbb : (bt s (i : Int) == 97) = (c == 97) := by
      rw [hb, Bool.eq_iff_iff, beq_iff_eq, beq_iff_eq]
      exact u8_eq (n := 97)
    rw [hbb] at key ⊢
    have hk : flagOk c → Ev (fun k => spec_ReadRow.l0 k s (acc ++ [(c == 97)]) ((i + 1 : Nat) : Int)) (if (∀ x ∈ c :: r, flagOk x) then (acc ++ back (c :: r), true) else ([], false)) := by
      intro hc
      refine Ev.eq key ?_
      have hiff : (∀ x ∈ c :: r, flagOk x) ↔ (∀ x ∈ r, flagOk x) := by simp [hc]
      simp only [hiff]
      have : acc ++ [c == 97] ++ back r = acc ++ back (c :: r) := by simp [back]
      rw [this]
    by_cases h97 : c = 97
    · exact Ev.pos (by rw [hb, h97]; rfl) (Ev.pos (by omega) (hk (.inl h97)))
    · refine Ev.neg (by rw [hb]; exact fun e => h97 ((u8_eq (n := 97)).1 e)) ?_
      by_cases h115 : c = 115
      · exact Ev.pos (by rw [hb, h115]; rfl) (Ev.pos (by omega) (hk (.inr h115)))
      · refine Ev.neg (by rw [hb]; exact fun e => h115 ((u8_eq (n := 115)).1 e)) (Ev.eq (Ev.now _) ?_)
        rw [if_neg]
        intro h
        rcases h c (List.mem_cons_self ..) with h | h
        · exact h97 h
        · exact h115 h
theorem spec_ReadRow_ev (s : ByteArray) : Ev (fun k => spec_ReadRow.f k s) (rowOf s.data.toList) := by
  unfold spec_ReadRow.f rowOf
  refine Ev.bindc rfl ?_
  by_cases h45 : s.data.toList = [45]
  · refine Ev.pos (by rw [toList_data]; exact h45) (Ev.eq (Ev.now _) ?_)
    rw [if_pos h45]
  · refine Ev.neg (by rw [toList_data]; exact h45) (Ev.bindc (l01In_eq _ _ _) ?_)
    have hsz := size_data s
    refine Ev.eq ?_ (if_neg h45).symm
    by_cases h : 1 ≤ s.size ∧ s.size ≤ 12
    · refine Ev.pos (by simp; omega) (Ev.eq (spec_ReadRow_loop s h.2 s.data.toList 0 [] rfl (by omega) rfl) ?_)
      by_cases hf : ∀ c ∈ s.data.toList, flagOk c
      · rw [if_pos hf, if_pos ⟨by omega, by omega, hf⟩]; simp
      · rw [if_neg hf, if_neg (fun h => hf h.2.2)]
    · refine Ev.neg (by simp; omega) (Ev.eq (Ev.now _) ?_)
      rw [if_neg (fun h' => h ⟨by omega, by omega⟩)]
theorem impl_ReadRow_loop (s : ByteArray) (h12 : s.size ≤ 12) (h1 : 1 ≤ s.size) (h45 : s.data.toList ≠ [45]) : ∀ (r : List UInt8) (i : Nat) (acc : List Bool), s.data.toList.drop i = r → i ≤ s.size → acc = back (s.data.toList.take i) →
    Ev (fun k => impl_ReadRow.l0 k s acc (s.size : Int) (i : Int)) (rowOf s.data.toList) := by
  have hsz := size_data s
  intro r
  induction r with
  | nil =>
    intro i acc hr hi ha
    have h1 := drop_nil hr
    have hil : i = s.data.toList.length := by omega
    have hacc : acc = back s.data.toList := by rw [ha, hil, List.take_length]
    have hal : acc.length = s.size := by rw [hacc, back, List.length_map]; omega
    refine Ev.round ?_
    simp only [impl_ReadRow.l0]
    refine Ev.neg (by omega) (Ev.bind (impl_RowText_ev acc (by omega)) ?_)
    have hne : acc ≠ [] := by intro e; rw [e] at hal; simp at hal; omega
    have hrow : rowL acc = acc.map fl := by unfold rowL; rw [if_neg hne]
    unfold rowOf
    refine Ev.eq ?_ (if_neg h45).symm
    rw [hrow, hacc]
    have hiff := back_fl s.data.toList
    by_cases hf : ∀ c ∈ s.data.toList, flagOk c
    · refine Ev.eq ?_ (if_pos ⟨by omega, by omega, hf⟩).symm
      refine Ev.pos ?_ (Ev.now _)
      rw [toList_data, toList_data, mkB_data, hiff.2 hf]
    · refine Ev.eq ?_ (if_neg (fun h => hf h.2.2)).symm
      refine Ev.neg ?_ (Ev.now _)
      rw [toList_data, toList_data, mkB_data]
      exact fun e => hf (hiff.1 e)
  | cons c r ih =>
    intro i acc hr hi ha
    obtain ⟨hb, hlt, hr'⟩ := bt_drop hr
    have hn : acc ++ [(bt s (i : Int) == 97)] = back (s.data.toList.take (i + 1)) := by
      have hbb : (bt s (i : Int) == 97) = (c == 97) := by
        rw [hb, Bool.eq_iff_iff, beq_iff_eq, beq_iff_eq]
        exact u8_eq (n := 97)
      have : s.data.toList[i]? = some c := by
        have hlt' : i < s.data.toList.length := by omega
        have h2 := List.drop_eq_getElem_cons hlt'
        rw [hr] at h2
        injection h2 with h2 _
        rw [List.getElem?_eq_getElem hlt', h2]
      rw [List.take_add_one, this, hbb, ha]
      simp [back]
    have hal : acc.length ≤ 12 := by rw [ha, back, List.length_map, List.length_take]; omega
    refine Ev.round ?_
    simp only [impl_ReadRow.l0, up i (by omega)]
    exact Ev.pos (by omega) (Ev.neg (by rw [toList_data]; exact h45) (Ev.pos (by omega) (Ev.pos (by omega) (Ev.pos (by omega) (ih (i + 1) _ hr' (by omega) hn)))))
theorem impl_ReadRow_dash (s : ByteArray) (h45 : s.data.toList = [45]) : Ev (fun k => impl_ReadRow.l0 k s [] (s.size : Int) 0) ([], true) := by
  have hsz : s.size = 1 := by rw [size_data, h45]; rfl
  refine Ev.round ?_
  simp only [impl_ReadRow.l0]
  refine Ev.pos (by omega) (Ev.pos (by rw [toList_data]; exact h45) (Ev.round ?_))
  have : wrap64 (0 + 1) = 1 := by rw [wrap64_id (by omega) (by omega)]; rfl
  simp only [impl_ReadRow.l0, this]
  refine Ev.neg (by omega) (Ev.bind (impl_RowText_ev [] (by simp)) ?_)
  refine Ev.pos ?_ (Ev.now _)
  rw [toList_data, toList_data, mkB_data, h45]
  rfl
theorem impl_ReadRow_ev (s : ByteArray) : Ev (fun k => impl_ReadRow.f k s) (rowOf s.data.toList) := by
  have hsz := size_data s
  have bad : Ev (fun k => impl_ReadRow.j0 k s true) ([], false) := by
    refine Ev.round ?_
    simp only [impl_ReadRow.j0]
    exact Ev.pos (by simp) (Ev.now _)
  unfold impl_ReadRow.f
  by_cases h0 : s.data.toList = []
  · refine Ev.pos (by rw [toList_data]; exact h0) (Ev.eq bad ?_)
    rw [h0]; rfl
  · have hp : 0 < s.data.toList.length := List.length_pos_iff.2 h0
    refine Ev.neg (by rw [toList_data]; exact h0) ?_
    by_cases h12 : s.size ≤ 12
    · rw [decide_eq_false (by omega)]
      refine Ev.round ?_
      simp only [impl_ReadRow.j0]
      refine Ev.neg (by simp) ?_
      by_cases h45 : s.data.toList = [45]
      · refine Ev.eq (impl_ReadRow_dash s h45) ?_
        rw [h45]; rfl
      · exact impl_ReadRow_loop s h12 (by omega) h45 s.data.toList 0 [] rfl (by omega) rfl
    · rw [decide_eq_true (by omega)]
      refine Ev.eq bad ?_
      unfold rowOf
      rw [if_neg, if_neg]
      · intro h; omega
      · intro h; rw [h] at hsz; simp at hsz; omega
/-! ### marks on flags -/
def markB (n : Nat) : Bool := Int.tmod (n : Int) 3 == 0
def marksFrom (q n : Nat) : List Bool := (List.range n).map fun j => markB (q + j)
theorem markBoolS_loop (q0 : Nat) : ∀ (d : Nat) (xs : List Bool) (i : Nat), i + d = xs.length → q0 + xs.length < 9000000000000000000 → (∀ j (h : j < xs.length), j < i → xs[j]'h = markB (q0 + j)) →
    Ev (fun k => laws_markBoolS.l0 k xs ((q0 + i : Nat) : Int) (i : Int)) (((q0 + xs.length : Nat) : Int), marksFrom q0 xs.length) := by
  intro d
  induction d with
  | zero =>
    intro xs i hi hq hm
    refine Ev.round ?_
    simp only [laws_markBoolS.l0]
    have : i = xs.length := by omega
    subst this
    refine Ev.neg (by omega) (Ev.eq (Ev.now _) ?_)
    have : xs = marksFrom q0 xs.length := by
      apply List.ext_getElem
      · simp [marksFrom]
      · intro j h1 h2
        rw [hm j h1 (by omega)]
        simp [marksFrom]
    rw [← this]
  | succ d ih =>
    intro xs i hi hq hm
    have key := ih (xs.set i (markB (q0 + i))) (i + 1) (by simp; omega) (by simp; omega) (by
      intro j h hj
      rw [List.getElem_set]
      split
      · rename_i e; subst e; rfl
      · rename_i e; exact hm j (by simpa using h) (by omega))
    refine Ev.round ?_
    simp only [laws_markBoolS.l0]
    rw [up (q0 + i) (by omega), up i (by omega)]
    refine Ev.pos (by omega) (Ev.pos (by omega) ?_)
    rw [Int.toNat_natCast]
    rw [List.length_set] at key
    exact key
theorem markBoolS_ev (xs : List Bool) (h : xs.length < 8000000000000000000) : Ev (fun k => laws_markBoolS.f k xs 1) (((1 + xs.length : Nat) : Int), marksFrom 1 xs.length) := by
  unfold laws_markBoolS.f
  exact markBoolS_loop 1 xs.length xs 0 (by omega) (by omega) (fun j _ h => absurd h (by omega))
theorem heldBoolS_loop (q0 n : Nat) (hq : q0 + n < 9000000000000000000) : ∀ (d i : Nat), i + d = n → Ev (fun k => laws_heldBoolS.l0 k (marksFrom q0 n) ((q0 + i : Nat) : Int) (i : Int)) ((q0 + n : Nat) : Int) := by
  have hl : (marksFrom q0 n).length = n := by simp [marksFrom]
  intro d
  induction d with
  | zero =>
    intro i hi
    refine Ev.round ?_
    simp only [laws_heldBoolS.l0, hl]
    have : i = n := by omega
    subst this
    exact Ev.neg (by omega) (Ev.now _)
  | succ d ih =>
    intro i hi
    refine Ev.round ?_
    simp only [laws_heldBoolS.l0, hl]
    rw [up (q0 + i) (by omega), up i (by omega)]
    have hr : rdOf false (marksFrom q0 n) (i : Int) = markB (q0 + i) := by
      unfold rdOf
      rw [Int.toNat_natCast, List.getD_eq_getElem?_getD, List.getElem?_eq_getElem (by omega)]
      simp [marksFrom]
    refine Ev.pos (by omega) (Ev.pos (by omega) (Ev.neg (by rw [hr]; unfold markB; simp) ?_))
    exact ih (i + 1) (by omega)
theorem heldBoolS_ev (n : Nat) (h : n < 8000000000000000000) : Ev (fun k => laws_heldBoolS.f k (marksFrom 1 n) 1) ((1 + n : Nat) : Int) := by
  unfold laws_heldBoolS.f
  exact heldBoolS_loop 1 n (by omega) n 0 (by omega)
theorem rowOf_len (l : List UInt8) : (rowOf l).1.length ≤ 12 := by
  unfold rowOf
  split
  · simp
  · split
    · rename_i h; simp [back]; omega
    · simp
theorem FnExactReadRow : laws_FnExactReadRow.Pure := by
  intro a0 h0
  apply Ev.rounds
  unfold laws_FnExactReadRow.f
  by_cases hb : (a0.size : Int) > 1048576
  · exact Ev.pos hb (Ev.now _)
  have hi := impl_ReadRow_ev a0
  have hs := spec_ReadRow_ev a0
  have hl := rowOf_len a0.data.toList
  generalize rowOf a0.data.toList = R at hi hs hl
  have hh := heldBoolS_ev R.1.length (by omega)
  refine Ev.neg hb (Ev.bind hs (Ev.bind hi (Ev.bind (eqBoolS_ev _ (by omega)) (Ev.pos (by simp) ?_))))
  have hb' : (R.2 != R.2) = false := by simp
  simp only [hb']
  refine Ev.round ?_
  simp only [laws_FnExactReadRow.j0]
  refine Ev.neg (by simp) (Ev.bind (markBoolS_ev _ (by omega)) (Ev.bind hh ?_))
  refine Ev.neg (by omega) (Ev.pos rfl (Ev.bind hi (Ev.bind (eqBoolS_ev _ (by omega)) (Ev.pos (by simp) ?_))))
  simp only [hb']
  refine Ev.round ?_
  simp only [laws_FnExactReadRow.j1]
  refine Ev.neg (by simp) (Ev.bind hh ?_)
  exact Ev.neg (by omega) (Ev.pos rfl (Ev.now _))
/-! ### RowText -/
theorem toBoolS_loop (xs : List Bool) (hl : xs.length ≤ 1000000000) : ∀ (d : Nat) (ys : List Bool) (i : Nat), i + d = xs.length → ys.length = xs.length → (∀ j (h : j < xs.length) (h' : j < ys.length), j < i → ys[j]'h' = xs[j]'h) →
    Ev (fun k => laws_toBoolS.l0 k xs ys (i : Int)) xs := by
  intro d
  induction d with
  | zero =>
    intro ys i hi hy hm
    refine Ev.round ?_
    simp only [laws_toBoolS.l0]
    refine Ev.neg (by omega) (Ev.eq (Ev.now _) ?_)
    apply List.ext_getElem hy
    intro j h1 h2
    exact hm j h2 h1 (by omega)
  | succ d ih =>
    intro ys i hi hy hm
    have hlt : i < xs.length := by omega
    have hr : rdOf false xs (i : Int) = xs[i] := by
      unfold rdOf
      rw [Int.toNat_natCast, List.getD_eq_getElem?_getD, List.getElem?_eq_getElem hlt]
      rfl
    have key := ih (ys.set i xs[i]) (i + 1) (by omega) (by simp; omega) (by
      intro j h h' hj
      rw [List.getElem_set]
      split
      · rename_i e; subst e; rfl
      · rename_i e; exact hm j h (by simpa using h') (by omega))
    refine Ev.round ?_
    simp only [laws_toBoolS.l0, up i (by omega), hr]
    refine Ev.pos (by omega) (Ev.pos (by omega) (Ev.pos (by omega) ?_))
    rw [Int.toNat_natCast]
    exact key
theorem toBoolS_ev (xs : List Bool) (hl : xs.length ≤ 1000000000) : Ev (fun k => laws_toBoolS.f k xs) xs := by
  unfold laws_toBoolS.f
  refine Ev.pos (by omega) (Ev.pos (by omega) ?_)
  exact toBoolS_loop xs hl xs.length _ 0 (by omega) (by simp) (fun j _ _ h => absurd h (by omega))
theorem FnExactRowText (l0 : List Bool) : ∃ k, laws_FnExactRowText.f k l0 = some true := by
  apply Ev.rounds
  unfold laws_FnExactRowText.f
  by_cases hb : (l0.length : Int) > 1048576
  · exact Ev.pos hb (Ev.now _)
  have ht := toBoolS_ev l0 (by omega)
  refine Ev.neg hb (Ev.bind ht (Ev.bind (spec_RowText_ev l0 (by omega)) (Ev.bind ht (Ev.bind (impl_RowText_ev l0 (by omega)) ?_))))
  exact Ev.pos rfl (Ev.bind ht (Ev.bind (eqBoolS_ev l0 (by omega)) (Ev.pos (by simp) (Ev.now _))))
end Go.Proofs.Ythcpogkffjnefaa.JP
