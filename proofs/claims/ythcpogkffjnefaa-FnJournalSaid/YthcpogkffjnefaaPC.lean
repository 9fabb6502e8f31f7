/- What the readers of one record and of all records come to. -/
import Derived.Test.YthcpogkffjnefaaPB
set_option linter.unusedVariables false
set_option linter.unusedSimpArgs false
namespace Go.Proofs.Ythcpogkffjnefaa.JP
open Go.RowKit Go.Proofs.YthcpogkffjnefaaW.PrintWords Go.Proofs.YthcpogkffjnefaaW.PrintLast Go.Proofs.Ythcpogkffjnefaa.Lib0 Go.Proofs.Ythcpogkffjnefaa.J

def mkB (l : List UInt8) : ByteArray := ⟨l.toArray⟩
theorem mkB_data (l : List UInt8) : (mkB l).data.toList = l := rfl
theorem mkB_of (s : ByteArray) : mkB s.data.toList = s := ba_ext (by rw [mkB_data])
theorem getElem_drop' {s : ByteArray} {a m : Nat} {c : UInt8} (h : (s.data.toList.drop a)[m]? = some c) : bt s ((a + m : Nat) : Int) = (c.toNat : Int) ∧ a + m < s.size := by
  rw [List.getElem?_drop] at h
  obtain ⟨hlt, hv⟩ := List.getElem?_eq_some_iff.1 h
  exact ⟨by rw [bt_get s _ hlt, hv], by rw [size_data]; exact hlt⟩
theorem u8_eq {c : UInt8} {n : UInt8} : (c.toNat : Int) = (n.toNat : Int) ↔ c = n := by
  constructor
  · intro h; exact UInt8.toNat_inj.1 (by omega)
  · rintro rfl; rfl
theorem ex_data (s : ByteArray) (a m : Nat) : (s.extract ((a : Nat) : Int).toNat ((a + m : Nat) : Int).toNat).data.toList = (s.data.toList.drop a).take m := by
  rw [Int.toNat_natCast, Int.toNat_natCast, extract_data]
  congr 1
  omega
theorem recordAt_scan (s : ByteArray) (hs : s.size ≤ 140737488351232) (at_ : Nat) (res : ByteArray × Int × Bool) : ∀ (b : Nat) (r : List UInt8) (i : Nat), s.data.toList.drop i = r → i ≤ s.size → at_ ≤ i → i - at_ + b = 9 →
    Ev (fun k => impl_recordAt.j1 k s (at_ : Int) ((i + scan b r : Nat) : Int)) res → Ev (fun k => impl_recordAt.l0 k s (at_ : Int) (i : Int)) res := by
  intro b
  induction b with
  | zero =>
    intro r i hr hi ha hb h
    refine Ev.round ?_
    simp only [impl_recordAt.l0]
    simp only [scan, Nat.add_zero] at h
    by_cases hlt : (i : Int) < (s.size : Int)
    · refine Ev.pos hlt (Ev.neg ?_ h)
      rw [wrap64_id (by omega) (by omega)]; omega
    · exact Ev.neg hlt h
  | succ b ih =>
    intro r i hr hi ha hb h
    refine Ev.round ?_
    simp only [impl_recordAt.l0]
    cases r with
    | nil =>
      have := drop_nil hr
      simp only [scan, Nat.add_zero] at h
      exact Ev.neg (by omega) h
    | cons c r =>
      obtain ⟨hbt, hlt, hr'⟩ := bt_drop hr
      refine Ev.pos (by omega) (Ev.pos (by rw [wrap64_id (by omega) (by omega)]; omega) (Ev.pos (by omega) ?_))
      rw [hbt]
      simp only [scan] at h
      by_cases hc : c = 58
      · rw [if_pos hc, Nat.add_zero] at h
        refine Ev.pos ?_ h
        rw [hc]; rfl
      · rw [if_neg hc] at h
        refine Ev.neg (fun e => hc (u8_eq.1 e)) ?_
        have e2 : wrap64 ((i : Int) + 1) = ((i + 1 : Nat) : Int) := by rw [wrap64_id (by omega) (by omega)]; omega
        rw [e2]
        refine ih r (i + 1) hr' (by omega) (by omega) (by omega) ?_
        have e3 : i + 1 + scan b r = i + (1 + scan b r) := by omega
        rw [e3]; exact h
theorem l12Next_scan (s : ByteArray) (hs : s.size ≤ 140737488351232) (at_ : Nat) (hat : at_ ≤ s.size) (res : ByteArray × Int) : ∀ (b : Nat) (r : List UInt8) (i : Nat), s.data.toList.drop i = r → i ≤ s.size → at_ ≤ i → i - at_ + b = 7 →
    Ev (fun k => spec_l12Next.j1 k s (at_ : Int) ((i + scan b r : Nat) : Int)) res → Ev (fun k => spec_l12Next.l0 k s (at_ : Int) (i : Int)) res := by
  intro b
  induction b with
  | zero =>
    intro r i hr hi ha hb h
    refine Ev.round ?_
    simp only [spec_l12Next.l0]
    simp only [scan, Nat.add_zero] at h
    by_cases hlt : (i : Int) < (s.size : Int)
    · refine Ev.pos hlt (Ev.neg ?_ h)
      rw [wrap64_id (by omega) (by omega)]; omega
    · exact Ev.neg hlt h
  | succ b ih =>
    intro r i hr hi ha hb h
    refine Ev.round ?_
    simp only [spec_l12Next.l0]
    cases r with
    | nil =>
      have := drop_nil hr
      simp only [scan, Nat.add_zero] at h
      exact Ev.neg (by omega) h
    | cons c r =>
      obtain ⟨hbt, hlt, hr'⟩ := bt_drop hr
      refine Ev.pos (by omega) (Ev.pos (by rw [wrap64_id (by omega) (by omega)]; omega) (Ev.pos (by omega) ?_))
      rw [hbt]
      simp only [scan] at h
      by_cases hc : c = 58
      · rw [if_pos hc, Nat.add_zero] at h
        refine Ev.pos ?_ h
        rw [hc]; rfl
      · rw [if_neg hc] at h
        refine Ev.neg (fun e => hc (u8_eq.1 e)) ?_
        have e2 : wrap64 ((i : Int) + 1) = ((i + 1 : Nat) : Int) := by rw [wrap64_id (by omega) (by omega)]; omega
        rw [e2]
        refine ih r (i + 1) hr' (by omega) (by omega) (by omega) ?_
        have e3 : i + 1 + scan b r = i + (1 + scan b r) := by omega
        rw [e3]; exact h
theorem recordAt_ev (s : ByteArray) (hs : s.size ≤ 140737488351232) (at_ : Nat) (hat : at_ ≤ s.size) :
    (∀ p, IsRec (s.data.toList.drop at_) p → Ev (fun k => impl_recordAt.f k s (at_ : Int)) (mkB p, ((at_ + (recOf p).length : Nat) : Int), true)) ∧
    (NoRec (s.data.toList.drop at_) → Ev (fun k => impl_recordAt.f k s (at_ : Int)) ((⟨#[]⟩ : ByteArray), (0 : Int), false)) := by
  have hsz := size_data s
  generalize hr : s.data.toList.drop at_ = r
  have hrl : at_ + r.length = s.size := by rw [← hr, List.length_drop]; omega
  have hsc := scan_le 9 r
  obtain ⟨m, hm⟩ : ∃ m, m = scan 9 r := ⟨_, rfl⟩
  have start : ∀ res, Ev (fun k => impl_recordAt.j1 k s (at_ : Int) ((at_ + m : Nat) : Int)) res → Ev (fun k => impl_recordAt.f k s (at_ : Int)) res := by
    intro res h
    unfold impl_recordAt.f
    exact recordAt_scan s hs at_ res 9 r at_ hr hat (Nat.le_refl _) (by omega) (by rw [← hm]; exact h)
  have hno : ∀ b, Ev (fun k => impl_recordAt.j2 k s (at_ : Int) ((at_ + m : Nat) : Int) b) ((⟨#[]⟩ : ByteArray), (0 : Int), false) ∨ b = false := by
    intro b
    cases b with
    | false => exact .inr rfl
    | true =>
      refine .inl (Ev.round ?_)
      simp only [impl_recordAt.j2]
      exact Ev.pos (by simp) (Ev.now _)
  have bad : ∀ p, ¬ IsRec r p → IsRec r p → Ev (fun k => impl_recordAt.f k s (at_ : Int)) (mkB p, ((at_ + (recOf p).length : Nat) : Int), true) := fun p h h' => absurd h' h
  have ex := ex_data s at_ m
  rw [hr] at ex
  -- behind the colon
  have colon : m < r.length → r[m]? = some 58 → ∀ res, Ev (fun k => impl_recordAt.j2 k s (at_ : Int) ((at_ + m : Nat) : Int) false) res → Ev (fun k => impl_recordAt.f k s (at_ : Int)) res := by
    intro h1 h2 res h
    refine start res (Ev.round ?_)
    simp only [impl_recordAt.j1]
    obtain ⟨hb, hl⟩ := getElem_drop' (s := s) (a := at_) (m := m) (c := 58) (by rw [hr]; exact h2)
    refine Ev.neg (by omega) (Ev.pos (by omega) (Ev.pos (by omega) ?_))
    rw [hb]
    exact h
  have e1 : wrap64 (((at_ + m : Nat) : Int) + 1) = ((at_ + m + 1 : Nat) : Int) := by rw [wrap64_id (by omega) (by omega)]; omega
  obtain ⟨v, hv⟩ : ∃ v, numL (r.take m) = v := ⟨_, rfl⟩
  have RC := rec_cases r (b := 9) (by omega) m hm
  rw [hv] at RC
  have HV : PLift (numL (r.take m) = v) := ⟨hv⟩
  clear hv
  rcases RC with ⟨h1, hN⟩ | ⟨h1, h2, h3, hN⟩ | ⟨h1, h2, h3, h4, hN⟩ | ⟨h1, h2, h3, h4, h5, hN⟩ | ⟨h1, h2, h3, h4, h5, h6, hN⟩ | ⟨h1, h2, h3, h4, h5, h6, h7, h8⟩
  · refine ⟨fun p => bad p (hN p), fun _ => start _ (Ev.round ?_)⟩
    simp only [impl_recordAt.j1]
    by_cases hge : ((at_ + m : Nat) : Int) ≥ (s.size : Int)
    · refine Ev.pos hge ?_
      rcases hno true with h | h
      · exact h
      · cases h
    · refine Ev.neg hge (Ev.pos (by omega) (Ev.pos (by omega) ?_))
      have hlt : m < r.length := by omega
      have hne : ¬ r[m]? = some 58 := fun h => h1 ⟨hlt, h⟩
      obtain ⟨hb, _⟩ := getElem_drop' (s := s) (a := at_) (m := m) (c := r[m]) (by rw [hr]; exact List.getElem?_eq_getElem hlt)
      have : (bt s ((at_ + m : Nat) : Int) != 58) = true := by
        rw [hb, bne_iff_ne]
        intro e
        apply hne
        rw [List.getElem?_eq_getElem hlt]
        exact congrArg some ((u8_eq (n := 58)).1 e)
      rw [this]
      rcases hno true with h | h
      · exact h
      · cases h
  · refine ⟨fun p => bad p (hN p), fun _ => colon h1 h2 _ (Ev.round ?_)⟩
    simp only [impl_recordAt.j2]
    refine Ev.neg (by simp) (Ev.pos (by omega) (Ev.pos (by omega) (Ev.pos (by omega) ?_)))
    refine Ev.bind ((readNumber_ev _).2 (by rw [ex]; exact h3)) ?_
    exact Ev.neg (by simp) (Ev.now _)
  · refine ⟨fun p => bad p (hN p), fun _ => colon h1 h2 _ (Ev.round ?_)⟩
    simp only [impl_recordAt.j2]
    refine Ev.neg (by simp) (Ev.pos (by omega) (Ev.pos (by omega) (Ev.pos (by omega) ?_)))
    refine Ev.bind ((readNumber_ev _).1 (by rw [ex]; exact h3)) ?_
    simp only [ex, HV.down]
    exact Ev.pos (by simp) (Ev.pos (by omega) (Ev.now _))
  · refine ⟨fun p => bad p (hN p), fun _ => colon h1 h2 _ (Ev.round ?_)⟩
    simp only [impl_recordAt.j2]
    refine Ev.neg (by simp) (Ev.pos (by omega) (Ev.pos (by omega) (Ev.pos (by omega) ?_)))
    refine Ev.bind ((readNumber_ev _).1 (by rw [ex]; exact h3)) ?_
    simp only [ex, HV.down, e1]
    refine Ev.pos (by simp) (Ev.neg (by omega) (Ev.pos ?_ (Ev.now _)))
    rw [wrap64_id (by omega) (by omega)]; omega
  · refine ⟨fun p => bad p (hN p), fun _ => colon h1 h2 _ (Ev.round ?_)⟩
    simp only [impl_recordAt.j2]
    refine Ev.neg (by simp) (Ev.pos (by omega) (Ev.pos (by omega) (Ev.pos (by omega) ?_)))
    refine Ev.bind ((readNumber_ev _).1 (by rw [ex]; exact h3)) ?_
    simp only [ex, HV.down, e1]
    have e2 : wrap64 (((at_ + m + 1 : Nat) : Int) + (v : Int)) = ((at_ + (m + 1 + v) : Nat) : Int) := by rw [wrap64_id (by omega) (by omega)]; omega
    rw [e2]
    clear e1 e2
    refine Ev.pos (by simp) (Ev.neg (by omega) (Ev.neg (by omega) (Ev.pos (by omega) (Ev.pos (by omega) (Ev.neg ?_ (Ev.now _))))))
    obtain ⟨hb, _⟩ := getElem_drop' (s := s) (a := at_) (m := m + 1 + v) (c := r[m + 1 + v]) (by rw [hr]; exact List.getElem?_eq_getElem h5)
    rw [hb]
    intro e
    apply h6
    rw [List.getElem?_eq_getElem h5]
    exact congrArg some ((u8_eq (n := 59)).1 e)
  · refine ⟨fun p hp => ?_, fun hN => absurd h7 (hN _)⟩
    have hpe : p = (r.drop (m + 1)).take (v) := by
      obtain ⟨ha, x, hx⟩ := hp
      obtain ⟨hb, y, hy⟩ := h7
      exact (recOf_inj ha hb (hx.symm.trans hy)).1
    have H8 := PLift.up h8
    clear h8
    rw [hpe]
    clear hpe
    refine colon h1 h2 _ (Ev.round ?_)
    simp only [impl_recordAt.j2]
    refine Ev.neg (by simp) (Ev.pos (by omega) (Ev.pos (by omega) (Ev.pos (by omega) ?_)))
    refine Ev.bind ((readNumber_ev _).1 (by rw [ex]; exact h3)) ?_
    simp only [ex, HV.down, e1]
    have e2 : wrap64 (((at_ + m + 1 : Nat) : Int) + (v : Int)) = ((at_ + (m + 1 + v) : Nat) : Int) := by rw [wrap64_id (by omega) (by omega)]; omega
    have e3 : wrap64 ((wrap64 (((at_ + m : Nat) : Int) + (v : Int))) + 2) = ((at_ + (m + v + 2) : Nat) : Int) := by
      rw [wrap64_id (n := ((at_ + m : Nat) : Int) + _) (by omega) (by omega), wrap64_id (by omega) (by omega)]; omega
    rw [e2, e3, H8.down]
    clear e1 e2 e3
    obtain ⟨hb, _⟩ := getElem_drop' (s := s) (a := at_) (m := m + 1 + v) (c := 59) (by rw [hr]; exact h6)
    refine Ev.pos (by simp) (Ev.neg (by omega) (Ev.neg (by omega) (Ev.pos (by omega) (Ev.pos (by omega) (Ev.pos hb (Ev.pos (by omega) (Ev.pos (by omega) (Ev.pos (by omega) ?_))))))))
    refine Ev.eq (Ev.now _) ?_
    have : s.extract ((at_ + m + 1 : Nat) : Int).toNat ((at_ + (m + 1 + v) : Nat) : Int).toNat = mkB ((r.drop (m + 1)).take (v)) := by
      apply ba_ext
      rw [mkB_data, Int.toNat_natCast, Int.toNat_natCast, extract_data, ← hr, List.drop_drop]
      congr 1
      omega
    rw [this]
theorem l12Next_ev (s : ByteArray) (hs : s.size ≤ 140737488351232) (at_ : Nat) (hat : at_ ≤ s.size) :
    (∀ p, IsRec (s.data.toList.drop at_) p → Ev (fun k => spec_l12Next.f k s (at_ : Int)) (mkB p, ((at_ + (recOf p).length : Nat) : Int))) ∧
    (NoRec (s.data.toList.drop at_) → Ev (fun k => spec_l12Next.f k s (at_ : Int)) ((⟨#[]⟩ : ByteArray), (-1 : Int))) := by
  have hsz := size_data s
  generalize hr : s.data.toList.drop at_ = r
  have hrl : at_ + r.length = s.size := by rw [← hr, List.length_drop]; omega
  have hsc := scan_le 7 r
  obtain ⟨m, hm⟩ : ∃ m, m = scan 7 r := ⟨_, rfl⟩
  have start : ∀ res, Ev (fun k => spec_l12Next.j1 k s (at_ : Int) ((at_ + m : Nat) : Int)) res → Ev (fun k => spec_l12Next.f k s (at_ : Int)) res := by
    intro res h
    unfold spec_l12Next.f
    exact l12Next_scan s hs at_ hat res 7 r at_ hr hat (Nat.le_refl _) (by omega) (by rw [← hm]; exact h)
  have hno : Ev (fun k => spec_l12Next.j2 k s (at_ : Int) ((at_ + m : Nat) : Int) true) ((⟨#[]⟩ : ByteArray), (-1 : Int)) := by
    refine Ev.round ?_
    simp only [spec_l12Next.j2]
    exact Ev.pos (by simp) (Ev.now _)
  have bad : ∀ p, ¬ IsRec r p → IsRec r p → Ev (fun k => spec_l12Next.f k s (at_ : Int)) (mkB p, ((at_ + (recOf p).length : Nat) : Int)) := fun p h h' => absurd h' h
  have ex := ex_data s at_ m
  rw [hr] at ex
  have colon : m < r.length → r[m]? = some 58 → ∀ res, Ev (fun k => spec_l12Next.j2 k s (at_ : Int) ((at_ + m : Nat) : Int) false) res → Ev (fun k => spec_l12Next.f k s (at_ : Int)) res := by
    intro h1 h2 res h
    refine start res (Ev.round ?_)
    simp only [spec_l12Next.j1]
    obtain ⟨hb, hl⟩ := getElem_drop' (s := s) (a := at_) (m := m) (c := 58) (by rw [hr]; exact h2)
    refine Ev.neg (by omega) (Ev.pos (by omega) (Ev.pos (by omega) ?_))
    rw [hb]
    exact h
  have e1 : wrap64 (((at_ + m : Nat) : Int) + 1) = ((at_ + m + 1 : Nat) : Int) := by rw [wrap64_id (by omega) (by omega)]; omega
  have e4 : wrap64 ((wrap64 ((s.size : Int) - ((at_ + m : Nat) : Int))) - 2) = (s.size : Int) - ((at_ + m : Nat) : Int) - 2 := by
    rw [wrap64_id (n := (s.size : Int) - _) (by omega) (by omega), wrap64_id (by omega) (by omega)]
  obtain ⟨v, hv⟩ : ∃ v, numL (r.take m) = v := ⟨_, rfl⟩
  have RC := rec_cases r (b := 7) (by omega) m hm
  rw [hv] at RC
  have HV : PLift (numL (r.take m) = v) := ⟨hv⟩
  clear hv
  rcases RC with ⟨h1, hN⟩ | ⟨h1, h2, h3, hN⟩ | ⟨h1, h2, h3, h4, hN⟩ | ⟨h1, h2, h3, h4, h5, hN⟩ | ⟨h1, h2, h3, h4, h5, h6, hN⟩ | ⟨h1, h2, h3, h4, h5, h6, h7, h8⟩
  · refine ⟨fun p => bad p (hN p), fun _ => start _ (Ev.round ?_)⟩
    simp only [spec_l12Next.j1]
    by_cases hge : ((at_ + m : Nat) : Int) ≥ (s.size : Int)
    · exact Ev.pos hge hno
    · refine Ev.neg hge (Ev.pos (by omega) (Ev.pos (by omega) ?_))
      have hlt : m < r.length := by omega
      have hne : ¬ r[m]? = some 58 := fun h => h1 ⟨hlt, h⟩
      obtain ⟨hb, _⟩ := getElem_drop' (s := s) (a := at_) (m := m) (c := r[m]) (by rw [hr]; exact List.getElem?_eq_getElem hlt)
      have : (bt s ((at_ + m : Nat) : Int) != 58) = true := by
        rw [hb, bne_iff_ne]
        intro e
        apply hne
        rw [List.getElem?_eq_getElem hlt]
        exact congrArg some ((u8_eq (n := 58)).1 e)
      rw [this]
      exact hno
  · refine ⟨fun p => bad p (hN p), fun _ => colon h1 h2 _ (Ev.round ?_)⟩
    simp only [spec_l12Next.j2]
    refine Ev.neg (by simp) (Ev.pos (by omega) (Ev.pos (by omega) (Ev.pos (by omega) ?_)))
    refine Ev.bind ((l03Num_ev _).2 (by rw [ex]; exact h3)) (Ev.bindc (l01In_eq _ _ _) ?_)
    exact Ev.neg (by simp) (Ev.now _)
  · refine ⟨fun p => bad p (hN p), fun _ => colon h1 h2 _ (Ev.round ?_)⟩
    simp only [spec_l12Next.j2]
    refine Ev.neg (by simp) (Ev.pos (by omega) (Ev.pos (by omega) (Ev.pos (by omega) ?_)))
    refine Ev.bind ((l03Num_ev _).1 (by rw [ex]; exact h3)) (Ev.bindc (l01In_eq _ _ _) ?_)
    simp only [ex, HV.down]
    exact Ev.neg (by simp; omega) (Ev.now _)
  · refine ⟨fun p => bad p (hN p), fun _ => colon h1 h2 _ (Ev.round ?_)⟩
    simp only [spec_l12Next.j2]
    refine Ev.neg (by simp) (Ev.pos (by omega) (Ev.pos (by omega) (Ev.pos (by omega) ?_)))
    refine Ev.bind ((l03Num_ev _).1 (by rw [ex]; exact h3)) (Ev.bindc (l01In_eq _ _ _) ?_)
    simp only [ex, HV.down, e1, e4]
    clear e1 e4
    exact Ev.pos (by simp; omega) (Ev.pos (by omega) (Ev.now _))
  · refine ⟨fun p => bad p (hN p), fun _ => colon h1 h2 _ (Ev.round ?_)⟩
    simp only [spec_l12Next.j2]
    refine Ev.neg (by simp) (Ev.pos (by omega) (Ev.pos (by omega) (Ev.pos (by omega) ?_)))
    refine Ev.bind ((l03Num_ev _).1 (by rw [ex]; exact h3)) (Ev.bindc (l01In_eq _ _ _) ?_)
    simp only [ex, HV.down, e1, e4]
    have e2 : wrap64 (((at_ + m + 1 : Nat) : Int) + (v : Int)) = ((at_ + (m + 1 + v) : Nat) : Int) := by rw [wrap64_id (by omega) (by omega)]; omega
    rw [e2]
    clear e1 e2 e4
    refine Ev.pos (by simp; omega) (Ev.neg (by omega) (Ev.pos (by omega) (Ev.pos (by omega) (Ev.neg ?_ (Ev.now _)))))
    obtain ⟨hb, _⟩ := getElem_drop' (s := s) (a := at_) (m := m + 1 + v) (c := r[m + 1 + v]) (by rw [hr]; exact List.getElem?_eq_getElem h5)
    rw [hb]
    intro e
    apply h6
    rw [List.getElem?_eq_getElem h5]
    exact congrArg some ((u8_eq (n := 59)).1 e)
  · refine ⟨fun p hp => ?_, fun hN => absurd h7 (hN _)⟩
    have hpe : p = (r.drop (m + 1)).take (v) := by
      obtain ⟨ha, x, hx⟩ := hp
      obtain ⟨hb, y, hy⟩ := h7
      exact (recOf_inj ha hb (hx.symm.trans hy)).1
    have H8 := PLift.up h8
    clear h8
    rw [hpe]
    clear hpe
    refine colon h1 h2 _ (Ev.round ?_)
    simp only [spec_l12Next.j2]
    refine Ev.neg (by simp) (Ev.pos (by omega) (Ev.pos (by omega) (Ev.pos (by omega) ?_)))
    refine Ev.bind ((l03Num_ev _).1 (by rw [ex]; exact h3)) (Ev.bindc (l01In_eq _ _ _) ?_)
    simp only [ex, HV.down, e1, e4]
    have e2 : wrap64 (((at_ + m + 1 : Nat) : Int) + (v : Int)) = ((at_ + (m + 1 + v) : Nat) : Int) := by rw [wrap64_id (by omega) (by omega)]; omega
    have e3 : wrap64 ((wrap64 (((at_ + m : Nat) : Int) + 2)) + (v : Int)) = ((at_ + (m + v + 2) : Nat) : Int) := by
      rw [wrap64_id (n := ((at_ + m : Nat) : Int) + _) (by omega) (by omega), wrap64_id (by omega) (by omega)]; omega
    rw [e2, e3, H8.down]
    clear e1 e2 e3 e4
    obtain ⟨hb, _⟩ := getElem_drop' (s := s) (a := at_) (m := m + 1 + v) (c := 59) (by rw [hr]; exact h6)
    refine Ev.pos (by simp; omega) (Ev.neg (by omega) (Ev.pos (by omega) (Ev.pos (by omega) (Ev.pos hb (Ev.pos (by omega) (Ev.pos (by omega) (Ev.pos (by omega) ?_)))))))
    refine Ev.eq (Ev.now _) ?_
    have : s.extract ((at_ + m + 1 : Nat) : Int).toNat ((at_ + (m + 1 + v) : Nat) : Int).toNat = mkB ((r.drop (m + 1)).take (v)) := by
      apply ba_ext
      rw [mkB_data, Int.toNat_natCast, Int.toNat_natCast, extract_data, ← hr, List.drop_drop]
      congr 1
      omega
    rw [this]

/-! ### all records -/
theorem impl_Records_loop (s : ByteArray) (hs : s.size ≤ 2000000) : ∀ (ps : List (List UInt8)) (at_ : Nat) (acc : List ByteArray), at_ ≤ s.size → acc.length ≤ at_ → Parse (s.data.toList.drop at_) ps →
    Ev (fun k => impl_Records.l0 k s acc (at_ : Int)) (acc ++ ps.map mkB, ((at_ + (recs ps).length : Nat) : Int)) := by
  intro ps
  induction ps with
  | nil =>
    rintro at_ acc hat hacc ⟨_, rest, h, hn⟩
    rw [recs_nil, List.nil_append] at h
    refine Ev.round ?_
    simp only [impl_Records.l0]
    refine Ev.bind ((recordAt_ev s (by omega) at_ hat).2 (by rw [h]; exact hn)) ?_
    refine Ev.neg (by simp) ?_
    exact Ev.eq (Ev.now _) (by simp [recs_nil])
  | cons p ps ih =>
    rintro at_ acc hat hacc ⟨hf, rest, h, hn⟩
    rw [recs_cons, List.append_assoc] at h
    have hp := hf p (List.mem_cons_self ..)
    have hl := recOf_length p
    have hlen : (s.data.toList.drop at_).length = (recOf p).length + (recs ps ++ rest).length := by rw [h, List.length_append]
    rw [List.length_drop, ← size_data] at hlen
    refine Ev.round ?_
    simp only [impl_Records.l0]
    refine Ev.bind ((recordAt_ev s (by omega) at_ hat).1 p ⟨hp, _, h⟩) ?_
    refine Ev.pos (by simp) (Ev.pos (by omega) ?_)
    have := ih (at_ + (recOf p).length) (acc ++ [mkB p]) (by omega) (by simp; omega) ⟨fun q hq => hf q (List.mem_cons_of_mem _ hq), rest, ?_, hn⟩
    · refine Ev.eq this ?_
      rw [recs_cons]
      simp
      omega
    · rw [← List.drop_drop, h]
      simp
theorem impl_Records_ev (s : ByteArray) (hs : s.size ≤ 2000000) (ps : List (List UInt8)) (h : Parse s.data.toList ps) :
    Ev (fun k => impl_Records.f k s) (ps.map mkB, (((recs ps).length : Nat) : Int)) := by
  unfold impl_Records.f
  refine Ev.bindc rfl (Ev.neg (by omega) ?_)
  have := impl_Records_loop s hs ps 0 [] (by omega) (by simp) (by rw [List.drop_zero]; exact h)
  simpa using this
theorem spec_Records_loop (s : ByteArray) (hs : s.size ≤ 2000000) : ∀ (ps : List (List UInt8)) (at_ : Nat) (acc : List ByteArray), at_ ≤ s.size → acc.length ≤ at_ → Parse (s.data.toList.drop at_) ps →
    Ev (fun k => spec_Records.l0 k s acc (at_ : Int)) (acc ++ ps.map mkB, ((at_ + (recs ps).length : Nat) : Int)) := by
  intro ps
  induction ps with
  | nil =>
    rintro at_ acc hat hacc ⟨_, rest, h, hn⟩
    rw [recs_nil, List.nil_append] at h
    refine Ev.round ?_
    simp only [spec_Records.l0]
    refine Ev.pos (by omega) (Ev.bind ((l12Next_ev s (by omega) at_ hat).2 (by rw [h]; exact hn)) ?_)
    refine Ev.pos (by simp) ?_
    exact Ev.eq (Ev.now _) (by simp [recs_nil])
  | cons p ps ih =>
    rintro at_ acc hat hacc ⟨hf, rest, h, hn⟩
    rw [recs_cons, List.append_assoc] at h
    have hp := hf p (List.mem_cons_self ..)
    have hl := recOf_length p
    have hlen : (s.data.toList.drop at_).length = (recOf p).length + (recs ps ++ rest).length := by rw [h, List.length_append]
    rw [List.length_drop, ← size_data] at hlen
    refine Ev.round ?_
    simp only [spec_Records.l0]
    refine Ev.pos (by omega) (Ev.bind ((l12Next_ev s (by omega) at_ hat).1 p ⟨hp, _, h⟩) ?_)
    refine Ev.neg (by simp; omega) (Ev.pos (by omega) ?_)
    have := ih (at_ + (recOf p).length) (acc ++ [mkB p]) (by omega) (by simp; omega) ⟨fun q hq => hf q (List.mem_cons_of_mem _ hq), rest, ?_, hn⟩
    · refine Ev.eq this ?_
      rw [recs_cons]
      simp
      omega
    · rw [← List.drop_drop, h]
      simp
theorem spec_Records_ev (s : ByteArray) (hs : s.size ≤ 2000000) (ps : List (List UInt8)) (h : Parse s.data.toList ps) :
    Ev (fun k => spec_Records.f k s) (ps.map mkB, (((recs ps).length : Nat) : Int)) := by
  unfold spec_Records.f
  have := spec_Records_loop s hs ps 0 [] (by omega) (by simp) (by rw [List.drop_zero]; exact h)
  simpa using this
end Go.Proofs.Ythcpogkffjnefaa.JP
