/- Records one behind the other, as lists of bytes: no Go, no memory. -/
import Derived.Test.YthcpogkffjnefaaLib
namespace Go.Proofs.Ythcpogkffjnefaa.Lib0
open Go.RowKit Go.Proofs.YthcpogkffjnefaaW.PrintWords

def recOf (p : List UInt8) : List UInt8 := decL p.length ++ 58 :: (p ++ [59])
def IsRec (r p : List UInt8) : Prop := p.length ≤ 400000 ∧ ∃ rest, r = recOf p ++ rest
def NoRec (r : List UInt8) : Prop := ∀ p, ¬ IsRec r p
def NumOk (l : List UInt8) : Prop := 1 ≤ l.length ∧ l.length ≤ 9 ∧ plain l ∧ ∀ c ∈ l, isDig c
/-- How many bytes there are ahead of a colon; at most b are asked. -/
def scan : Nat → List UInt8 → Nat
  | 0, _ => 0
  | _ + 1, [] => 0
  | b + 1, c :: r => if c = 58 then 0 else 1 + scan b r
theorem scan_le (b : Nat) (r : List UInt8) : scan b r ≤ b ∧ scan b r ≤ r.length := by
  induction b generalizing r with
  | zero => simp [scan]
  | succ b ih =>
    cases r with
    | nil => simp [scan]
    | cons c r =>
      simp only [scan]
      have := ih r
      split
      · simp
      · simp; omega
theorem scan_digs (d : List UInt8) (hd : ∀ c ∈ d, isDig c) (x : List UInt8) : ∀ b, d.length ≤ b → scan b (d ++ 58 :: x) = d.length := by
  induction d with
  | nil => intro b _; cases b <;> simp [scan]
  | cons c d ih =>
    intro b hb
    cases b with
    | zero => simp at hb
    | succ b =>
      have hc : isDig c := hd c (List.mem_cons_self ..)
      have hne : c ≠ 58 := by rintro rfl; revert hc; unfold isDig; decide
      simp only [List.cons_append, scan, if_neg hne]
      rw [ih (fun a ha => hd a (List.mem_cons_of_mem _ ha)) b (by simp at hb; omega)]
      simp; omega
theorem decL_six {n : Nat} (h : n ≤ 400000) : (decL n).length ≤ 6 := decL_len (d := 5) (by omega)
theorem recOf_length (p : List UInt8) : (recOf p).length = (decL p.length).length + p.length + 2 := by simp [recOf]; omega
theorem recOf_scan {p : List UInt8} (hp : p.length ≤ 400000) (x : List UInt8) {b : Nat} (hb : 6 ≤ b) : scan b (recOf p ++ x) = (decL p.length).length := by
  have e : recOf p ++ x = decL p.length ++ 58 :: (p ++ [59] ++ x) := by simp [recOf]
  rw [e]
  exact scan_digs _ (decL_digs _) _ b (Nat.le_trans (decL_six hp) hb)
theorem recOf_inj {p q x y : List UInt8} (hp : p.length ≤ 400000) (hq : q.length ≤ 400000) (h : recOf p ++ x = recOf q ++ y) : p = q ∧ x = y := by
  have h1 := recOf_scan hp x (b := 6) (Nat.le_refl _)
  have h2 := recOf_scan hq y (b := 6) (Nat.le_refl _)
  rw [h, h2] at h1
  have ep : recOf p ++ x = decL p.length ++ 58 :: (p ++ [59] ++ x) := by simp [recOf]
  have eq : recOf q ++ y = decL q.length ++ 58 :: (q ++ [59] ++ y) := by simp [recOf]
  rw [ep, eq] at h
  obtain ⟨ha, hb⟩ := List.append_inj h h1.symm
  have hl : p.length = q.length := decL_inj ha
  injection hb with _ hb
  rw [List.append_assoc, List.append_assoc] at hb
  obtain ⟨hc, hd⟩ := List.append_inj hb hl
  simp at hd
  exact ⟨hc, hd⟩
theorem NumOk_decL {n : Nat} (h : n ≤ 400000) : NumOk (decL n) := by
  have h6 := decL_six h
  have hne := decL_ne n
  refine ⟨List.length_pos_iff.2 hne, by omega, ?_, decL_digs n⟩
  have := plain_iff (decL n) (decL_digs n) hne
  rw [numL_decL] at this
  exact this.1 rfl
theorem NumOk_num {l : List UInt8} (h : NumOk l) : decL (numL l) = l := by
  have hne : l ≠ [] := by rintro rfl; exact absurd h.1 (by simp)
  exact (plain_iff l h.2.2.2 hne).2 h.2.2.1
/-- What a reader of a record comes to, whichever bound it has on the digits. -/
theorem rec_cases (r : List UInt8) {b : Nat} (hb : 6 ≤ b) (m : Nat) (hm : m = scan b r) :
    (¬ (m < r.length ∧ r[m]? = some 58) ∧ NoRec r) ∨
    (m < r.length ∧ r[m]? = some 58 ∧ ¬ NumOk (r.take m) ∧ NoRec r) ∨
    (m < r.length ∧ r[m]? = some 58 ∧ NumOk (r.take m) ∧ 400000 < numL (r.take m) ∧ NoRec r) ∨
    (m < r.length ∧ r[m]? = some 58 ∧ NumOk (r.take m) ∧ numL (r.take m) ≤ 400000 ∧ r.length ≤ m + 1 + numL (r.take m) ∧ NoRec r) ∨
    (m < r.length ∧ r[m]? = some 58 ∧ NumOk (r.take m) ∧ numL (r.take m) ≤ 400000 ∧ m + 1 + numL (r.take m) < r.length ∧ r[m + 1 + numL (r.take m)]? ≠ some 59 ∧ NoRec r) ∨
    (m < r.length ∧ r[m]? = some 58 ∧ NumOk (r.take m) ∧ numL (r.take m) ≤ 400000 ∧ m + 1 + numL (r.take m) < r.length ∧ r[m + 1 + numL (r.take m)]? = some 59 ∧
      IsRec r ((r.drop (m + 1)).take (numL (r.take m))) ∧ (recOf ((r.drop (m + 1)).take (numL (r.take m)))).length = m + numL (r.take m) + 2) := by
  -- what a record shows
  have shows : ∀ p, IsRec r p → m < r.length ∧ r[m]? = some 58 ∧ r.take m = decL p.length ∧ p.length ≤ 400000 ∧ m + 1 + p.length < r.length ∧ r[m + 1 + p.length]? = some 59 := by
    rintro p ⟨hp, rest, rfl⟩
    rw [recOf_scan hp rest hb] at hm
    have e : recOf p ++ rest = decL p.length ++ 58 :: (p ++ 59 :: rest) := by simp [recOf]
    rw [e, hm]
    refine ⟨by simp, by simp, by simp, hp, by simp; omega, ?_⟩
    rw [List.getElem?_append_right (by omega)]
    have : (decL p.length).length + 1 + p.length - (decL p.length).length = p.length + 1 := by omega
    rw [this, List.getElem?_cons_succ, List.getElem?_append_right (Nat.le_refl _)]
    simp
  by_cases h1 : m < r.length ∧ r[m]? = some 58
  · obtain ⟨h1, h2⟩ := h1
    by_cases h3 : NumOk (r.take m)
    · have hn := NumOk_num h3
      by_cases h4 : numL (r.take m) ≤ 400000
      · by_cases h5 : m + 1 + numL (r.take m) < r.length
        · by_cases h6 : r[m + 1 + numL (r.take m)]? = some 59
          · refine .inr (.inr (.inr (.inr (.inr ⟨h1, h2, h3, h4, h5, h6, ?_, ?_⟩))))
            · have hl : ((r.drop (m + 1)).take (numL (r.take m))).length = numL (r.take m) := by simp; omega
              refine ⟨by rw [hl]; exact h4, r.drop (m + 1 + numL (r.take m) + 1), ?_⟩
              unfold recOf
              rw [hl, hn]
              have hd1 : r.drop m = 58 :: r.drop (m + 1) := by
                obtain ⟨hlt, hv⟩ := List.getElem?_eq_some_iff.1 h2
                rw [List.drop_eq_getElem_cons hlt, hv]
              have hd2 : r.drop (m + 1 + numL (r.take m)) = 59 :: r.drop (m + 1 + numL (r.take m) + 1) := by
                obtain ⟨hlt, hv⟩ := List.getElem?_eq_some_iff.1 h6
                rw [List.drop_eq_getElem_cons hlt, hv]
              have hd3 : r.drop (m + 1) = (r.drop (m + 1)).take (numL (r.take m)) ++ r.drop (m + 1 + numL (r.take m)) := by
                conv => lhs; rw [← List.take_append_drop (numL (r.take m)) (r.drop (m + 1))]
                rw [List.drop_drop]
              conv => lhs; rw [← List.take_append_drop m r, hd1, hd3, hd2]
              simp
            · rw [recOf_length]
              have hl : ((r.drop (m + 1)).take (numL (r.take m))).length = numL (r.take m) := by simp; omega
              rw [hl, hn]
              simp
              omega
          · refine .inr (.inr (.inr (.inr (.inl ⟨h1, h2, h3, h4, h5, h6, fun p hp => ?_⟩))))
            obtain ⟨_, _, a, _, _, c⟩ := shows p hp
            rw [a, numL_decL] at h6
            exact h6 c
        · refine .inr (.inr (.inr (.inl ⟨h1, h2, h3, h4, by omega, fun p hp => ?_⟩)))
          obtain ⟨_, _, a, _, c, _⟩ := shows p hp
          rw [a, numL_decL] at h5
          exact h5 c
      · refine .inr (.inr (.inl ⟨h1, h2, h3, by omega, fun p hp => ?_⟩))
        obtain ⟨_, _, a, c, _, _⟩ := shows p hp
        rw [a, numL_decL] at h4
        exact h4 c
    · refine .inr (.inl ⟨h1, h2, h3, fun p hp => ?_⟩)
      obtain ⟨_, _, a, c, _, _⟩ := shows p hp
      rw [a] at h3
      exact h3 (NumOk_decL c)
  · refine .inl ⟨h1, fun p hp => ?_⟩
    obtain ⟨a, c, _⟩ := shows p hp
    exact h1 ⟨a, c⟩

/-! ### many -/
def recs (ps : List (List UInt8)) : List UInt8 := ps.flatMap recOf
theorem recs_nil : recs [] = [] := rfl
theorem recs_cons (p : List UInt8) (ps : List (List UInt8)) : recs (p :: ps) = recOf p ++ recs ps := by simp [recs]
theorem recs_append (ps qs : List (List UInt8)) : recs (ps ++ qs) = recs ps ++ recs qs := by simp [recs]
def Fits (ps : List (List UInt8)) : Prop := ∀ p ∈ ps, p.length ≤ 400000
def Parse (r : List UInt8) (ps : List (List UInt8)) : Prop := Fits ps ∧ ∃ rest, r = recs ps ++ rest ∧ NoRec rest
theorem Parse.exists (r : List UInt8) : ∃ ps, Parse r ps := by
  suffices H : ∀ n (r : List UInt8), r.length = n → ∃ ps, Parse r ps from H _ r rfl
  intro n
  induction n using Nat.strongRecOn with
  | ind n ih =>
    intro r hr
    by_cases h : ∃ p, IsRec r p
    · obtain ⟨p, hp, rest, rfl⟩ := h
      have hl := recOf_length p
      simp at hr
      obtain ⟨ps, hf, rest', h1, h2⟩ := ih rest.length (by omega) rest rfl
      refine ⟨p :: ps, ?_, rest', ?_, h2⟩
      · intro q hq
        rcases List.mem_cons.1 hq with rfl | hq
        · exact hp
        · exact hf q hq
      · rw [recs_cons, List.append_assoc, ← h1]
    · exact ⟨[], by intro q hq; simp at hq, r, rfl, fun p hp => h ⟨p, hp⟩⟩
theorem NoRec_nil : NoRec [] := by
  rintro p ⟨_, rest, h⟩
  have := recOf_length p
  have h2 := congrArg List.length h
  simp at h2
  omega
theorem Parse_recs {ps : List (List UInt8)} (h : Fits ps) : Parse (recs ps) ps := ⟨h, [], by simp, NoRec_nil⟩
theorem Parse.unique {r : List UInt8} {ps qs : List (List UInt8)} (h : Parse r ps) (k : Parse r qs) : ps = qs := by
  induction ps generalizing r qs with
  | nil =>
    obtain ⟨_, rest, rfl, hn⟩ := h
    cases qs with
    | nil => rfl
    | cons q qs =>
      obtain ⟨hf, rest', h1, _⟩ := k
      rw [recs_cons, List.append_assoc] at h1
      exact absurd ⟨hf q (List.mem_cons_self ..), _, h1⟩ (hn q)
  | cons p ps ih =>
    obtain ⟨hf, rest, rfl, hn⟩ := h
    cases qs with
    | nil =>
      obtain ⟨_, rest', h1, hn'⟩ := k
      rw [recs_cons, List.append_assoc] at h1
      exact absurd ⟨hf p (List.mem_cons_self ..), _, by rw [recs_nil, List.nil_append] at h1; exact h1.symm⟩ (hn' p)
    | cons q qs =>
      obtain ⟨hf', rest', h1, hn'⟩ := k
      rw [recs_cons, recs_cons, List.append_assoc, List.append_assoc] at h1
      obtain ⟨rfl, h2⟩ := recOf_inj (hf p (List.mem_cons_self ..)) (hf' q (List.mem_cons_self ..)) h1
      rw [ih (r := recs ps ++ rest) ⟨fun x hx => hf x (List.mem_cons_of_mem _ hx), rest, rfl, hn⟩ ⟨fun x hx => hf' x (List.mem_cons_of_mem _ hx), rest', h2, hn'⟩]
/-- Cut off anywhere: the whole records ahead of the cut are left. -/
theorem Parse.cut {ps : List (List UInt8)} (h : Fits ps) (n : Nat) : ∃ m, m ≤ ps.length ∧ Parse ((recs ps).take n) (ps.take m) ∧ (recs (ps.take m)).length ≤ n ∧ (m = ps.length ↔ ((recs ps).length ≤ n ∨ ps = [])) := by
  induction ps generalizing n with
  | nil => exact ⟨0, Nat.le_refl _, ⟨by intro q hq; simp at hq, [], by simp [recs], NoRec_nil⟩, by simp [recs], by simp⟩
  | cons p ps ih =>
    have hp := h p (List.mem_cons_self ..)
    have hf : Fits ps := fun x hx => h x (List.mem_cons_of_mem _ hx)
    by_cases hn : (recOf p).length ≤ n
    · obtain ⟨m, h1, ⟨hf2, rest, h2, h3⟩, h4, h5⟩ := ih hf (n - (recOf p).length)
      refine ⟨m + 1, by simp; omega, ⟨?_, rest, ?_, h3⟩, ?_, ?_⟩
      · intro q hq
        rw [List.take_succ_cons] at hq
        rcases List.mem_cons.1 hq with rfl | hq
        · exact hp
        · exact hf2 q hq
      · rw [recs_cons, List.take_append, h2, List.take_succ_cons, recs_cons, List.take_of_length_le hn, List.append_assoc]
      · rw [List.take_succ_cons, recs_cons]; simp; omega
      · rw [recs_cons]
        simp
        rw [h5]
        constructor
        · rintro (h | h)
          · omega
          · subst h; simp [recs]; omega
        · intro h; exact .inl (by omega)
    · refine ⟨0, by omega, ⟨by intro q hq; simp at hq, (recs (p :: ps)).take n, by simp [recs], ?_⟩, by simp [recs], ?_⟩
      · rintro q ⟨hq, y, hy⟩
        have e : (recs (p :: ps)).take n = (recOf p).take n := by rw [recs_cons, List.take_append]; simp; omega
        rw [e] at hy
        have h2 : recOf p ++ [] = recOf q ++ (y ++ (recOf p).drop n) := by
          rw [← List.append_assoc, ← hy]; simp
        obtain ⟨rfl, h3⟩ := recOf_inj hp hq h2
        have h4 := congrArg List.length h3
        simp at h4
        omega
      · rw [recs_cons]
        simp
        omega
end Go.Proofs.Ythcpogkffjnefaa.Lib0
