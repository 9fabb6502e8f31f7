/- What is drawn; the laws FnTorn and FnJournal. -/
import Derived.Test.YthcpogkffjnefaaPD
import Derived.Test.YthcpogkffjnefaaJl
import Derived.Test.YthcpogkffjnefaaJm
import Derived.Test.YthcpogkffjnefaaJo
set_option linter.unusedVariables false
set_option linter.unusedSimpArgs false
namespace Go.Proofs.Ythcpogkffjnefaa.JP
open Go.RowKit Go.Proofs.YthcpogkffjnefaaW.PrintWords Go.Proofs.YthcpogkffjnefaaW.PrintLast Go.Proofs.Ythcpogkffjnefaa.Lib0 Go.Proofs.Ythcpogkffjnefaa.J

theorem i64_mod (x : Int) : IntKind.i64.wrap x = wrap64 x := i64_w x
/-- What is masked by 255 is a byte. -/
theorem and255 (x : Int) : 0 ≤ Go.bits .and .i64 x 255 ∧ Go.bits .and .i64 x 255 ≤ 255 := by
  have h : Go.bits .and .i64 x 255 = IntKind.i64.wrap ((BitVec.ofInt 64 x &&& BitVec.ofInt 64 255).toNat : Int) := rfl
  rw [h, i64_mod]
  have h2 : (BitVec.ofInt 64 x &&& BitVec.ofInt 64 255).toNat ≤ 255 := by
    rw [BitVec.toNat_and]
    have : (BitVec.ofInt 64 255).toNat = 255 := rfl
    rw [this]
    exact Nat.and_le_right
  rw [wrap64_id (by omega) (by omega)]
  omega
theorem byte_ok (b : List Int) (i h : Int) (hi : 0 ≤ i) (hl : b.length ≤ 9000000000000000000) : ∃ x i' h', spec_l01Byte.f b i h = some (x, i', h') ∧ 0 ≤ x ∧ x ≤ 255 ∧ 0 ≤ i' := by
  unfold spec_l01Byte.f
  by_cases hc : i < (b.length : Int)
  · rw [if_pos hc, if_pos hi]
    obtain ⟨h0, h1⟩ := and255 (wrap64 ((Go.bits .and .i64 (Go.bits .xor .i64 ((wrap64 ((wrap64 (h * 6364136223846793005)) + 1442695040888963407)) / 8589934592) ((wrap64 ((wrap64 (h * 6364136223846793005)) + 1442695040888963407)) / 35184372088832)) 255) + (wrap64 (rd b i))))
    exact ⟨_, _, _, rfl, h0, h1, by rw [wrap64_id (by omega) (by omega)]; omega⟩
  · rw [if_neg hc]
    obtain ⟨h0, h1⟩ := and255 (Go.bits .xor .i64 ((wrap64 ((wrap64 (h * 6364136223846793005)) + 1442695040888963407)) / 8589934592) ((wrap64 ((wrap64 (h * 6364136223846793005)) + 1442695040888963407)) / 35184372088832))
    exact ⟨_, _, _, rfl, h0, h1, hi⟩
theorem below_ok (b : List Int) (i h n : Int) (hi : 0 ≤ i) (hl : b.length ≤ 9000000000000000000) (hn : n ≤ 4000000000000000000) : ∃ x i' h', spec_l01Below.f b i h n = some (x, i', h') ∧ 0 ≤ x ∧ (0 < n → x < n) ∧ 0 ≤ i' := by
  unfold spec_l01Below.f
  by_cases h0 : n ≤ 0
  · rw [if_pos h0]; exact ⟨_, _, _, rfl, by omega, by omega, hi⟩
  · rw [if_neg h0]
    by_cases h1 : n ≤ 256
    · rw [if_pos h1]
      obtain ⟨x, i', h', e, a, c, d⟩ := byte_ok b i h hi hl
      rw [e, Option.bind_some, if_neg (by omega)]
      exact ⟨_, _, _, rfl, Int.tmod_nonneg _ a, fun _ => Int.tmod_lt_of_pos _ (by omega), d⟩
    · rw [if_neg h1]
      obtain ⟨x, i1, h1', e1, a1, c1, d1⟩ := byte_ok b i h hi hl
      obtain ⟨y, i2, h2', e2, a2, c2, d2⟩ := byte_ok b i1 h1' d1 hl
      obtain ⟨z, i3, h3', e3, a3, c3, d3⟩ := byte_ok b i2 h2' d2 hl
      obtain ⟨w, i4, h4', e4, a4, c4, d4⟩ := byte_ok b i3 h3' d3 hl
      rw [e1, Option.bind_some]
      simp only [e2, Option.bind_some, e3, e4]
      rw [if_neg (by omega)]
      refine ⟨_, _, _, rfl, Int.tmod_nonneg _ ?_, fun _ => Int.tmod_lt_of_pos _ (by omega), d4⟩
      rw [wrap64_id (n := x * 16777216) (by omega) (by omega), wrap64_id (n := y * 65536) (by omega) (by omega), wrap64_id (n := z * 256) (by omega) (by omega), wrap64_id (n := x * 16777216 + _) (by omega) (by omega), wrap64_id (n := x * 16777216 + y * 65536 + _) (by omega) (by omega), wrap64_id (by omega) (by omega)]
      omega
theorem pick_ok (b : List Int) (i h : Int) (l : List ByteArray) (hi : 0 ≤ i) (hl : b.length ≤ 9000000000000000000) (hp : 0 < l.length) (hq : l.length ≤ 100) : ∃ x i' h', spec_l01Pick.f b i h l = some (x, i', h') ∧ x ∈ l ∧ 0 ≤ i' := by
  unfold spec_l01Pick.f
  obtain ⟨x, i', h', e, a, c, d⟩ := below_ok b i h (l.length : Int) hi hl (by omega)
  have hx := c (by omega)
  rw [e, Option.bind_some, if_pos a, if_pos hx]
  refine ⟨_, _, _, rfl, ?_, d⟩
  unfold rdOf
  have hlt : x.toNat < l.length := by omega
  rw [List.getD_eq_getElem?_getD, List.getElem?_eq_getElem hlt]
  exact List.getElem_mem hlt
def Drawn (b : List Int) (g : Nat → Option (ByteArray × Int × Int)) (m : Nat) : Prop := ∃ s i h, Ev g (s, i, h) ∧ s.size ≤ m ∧ 0 ≤ i
theorem piece_size (x : ByteArray) (h : x ∈ ([(⟨#[97]⟩ : ByteArray), (⟨#[58]⟩ : ByteArray), (⟨#[59]⟩ : ByteArray), (⟨#[48]⟩ : ByteArray), (⟨#[51, 58, 120, 59]⟩ : ByteArray), (⟨#[10]⟩ : ByteArray)] : List ByteArray)) : x.size ≤ 4 := by
  simp only [List.mem_cons, List.not_mem_nil, or_false] at h
  rcases h with rfl | rfl | rfl | rfl | rfl | rfl <;> decide
theorem piece2_size (x : ByteArray) (h : x ∈ ([(⟨#[48]⟩ : ByteArray), (⟨#[58]⟩ : ByteArray), (⟨#[59]⟩ : ByteArray), (⟨#[49, 58, 97, 59]⟩ : ByteArray), (⟨#[120]⟩ : ByteArray)] : List ByteArray)) : x.size ≤ 4 := by
  simp only [List.mem_cons, List.not_mem_nil, or_false] at h
  rcases h with rfl | rfl | rfl | rfl | rfl <;> decide
theorem ex_size (s : ByteArray) (a b : Nat) : (s.extract a b).size ≤ b - a := by
  rw [size_data, extract_data, List.length_take]; omega
theorem ex_size2 (s : ByteArray) (a : Nat) : (s.extract a s.size).size ≤ s.size - a := ex_size s a s.size
theorem journal_end (b : List Int) (hl : b.length ≤ 9000000000000000000) (j : ByteArray) (x4 x5 i h : Int) (hi : 0 ≤ i) (hj : j.size ≤ 1000) (hx : ¬ x5 < x4) : Drawn b (fun k => spec_l12Journal.l0 k j x4 x5 b i h) (j.size + 4) := by
  have hw : wrap64 ((j.size : Int) + 1) = (j.size : Int) + 1 := wrap64_id (by omega) (by omega)
  obtain ⟨x, i1, h1, e1, a1, c1, d1⟩ := below_ok b i h ((j.size : Int) + 1) hi hl (by omega)
  obtain ⟨y, i2, h2, e2, a2, c2, d2⟩ := below_ok b i1 h1 6 d1 hl (by omega)
  have hxl := c1 (by omega)
  by_cases y0 : y = 0
  · refine ⟨j.extract 0 x.toNat, i2, h2, Ev.round ?_, ?_, d2⟩
    · simp only [spec_l12Journal.l0, hw]
      refine Ev.neg hx (Ev.bindc e1 (Ev.bindc e2 (Ev.pos y0 (Ev.pos a1 (Ev.pos (by omega) (Ev.now _))))))
    · have := ex_size j 0 x.toNat; omega
  · by_cases y1 : y = 1
    · obtain ⟨p, i3, h3, e3, hm, d3⟩ := pick_ok b i2 h2 (hi := d2) (hl := hl) (l := [(⟨#[48]⟩ : ByteArray), (⟨#[58]⟩ : ByteArray), (⟨#[59]⟩ : ByteArray), (⟨#[49, 58, 97, 59]⟩ : ByteArray), (⟨#[120]⟩ : ByteArray)]) (hp := by simp) (hq := by simp)
      have hp := piece2_size p hm
      have s1 := ex_size j 0 x.toNat
      have s2 := ex_size2 j x.toNat
      have s3 : (j.extract 0 x.toNat ++ p ++ j.extract x.toNat j.size).size ≤ j.size + 4 := by rw [append_size, append_size]; omega
      refine ⟨j.extract 0 x.toNat ++ p ++ j.extract x.toNat j.size, i3, h3, Ev.round ?_, s3, d3⟩
      simp only [spec_l12Journal.l0, hw]
      refine Ev.neg hx (Ev.bindc e1 (Ev.bindc e2 (Ev.neg y0 (Ev.pos y1 (Ev.pos a1 (Ev.pos (by omega) (Ev.bindc e3 ?_)))))))
      exact Ev.pos (by dsimp only; omega) (Ev.pos (by dsimp only; rw [append_size]; omega) (Ev.now _))
    · refine ⟨j, i2, h2, Ev.round ?_, by omega, d2⟩
      simp only [spec_l12Journal.l0, hw]
      exact Ev.neg hx (Ev.bindc e1 (Ev.bindc e2 (Ev.neg y0 (Ev.neg y1 (Ev.now _)))))
theorem journal_in (b : List Int) (hl : b.length ≤ 9000000000000000000) (j : ByteArray) (x4 x5 : Int) (hj : j.size ≤ 900) (M : Nat)
    (next : ∀ (r : ByteArray) (i h : Int), r.size ≤ 60 → 0 ≤ i → Drawn b (fun k => spec_l12Journal.l0 k (j ++ r) x4 (wrap64 (x5 + 1)) b i h) M) :
    ∀ (d : Nat) (s : ByteArray) (x7 x8 i h : Int), x7 - x8 = d → 0 ≤ x8 → x7 ≤ 13 → s.size ≤ 4 * x8.toNat → 0 ≤ i → Drawn b (fun k => spec_l12Journal.l1 k j x4 x5 s x7 x8 b i h) M := by
  intro d
  induction d with
  | zero =>
    intro s x7 x8 i h hd h8 h7 hs hi
    have hr := spec_Record_ev s (by omega)
    rw [if_pos (by omega)] at hr
    have hrs := recB_size s
    have hd6 := decL_len (n := s.size) (d := 1) (by omega)
    obtain ⟨t, i', h', e, a, c⟩ := next (recB s) i h (by omega) hi
    refine ⟨t, i', h', Ev.round ?_, a, c⟩
    simp only [spec_l12Journal.l1]
    exact Ev.neg (by omega) (Ev.bind hr (Ev.pos (by omega) e))
  | succ d ih =>
    intro s x7 x8 i h hd h8 h7 hs hi
    obtain ⟨p, i3, h3, e3, hm, d3⟩ := pick_ok b i h (hi := hi) (hl := hl) (l := [(⟨#[97]⟩ : ByteArray), (⟨#[58]⟩ : ByteArray), (⟨#[59]⟩ : ByteArray), (⟨#[48]⟩ : ByteArray), (⟨#[51, 58, 120, 59]⟩ : ByteArray), (⟨#[10]⟩ : ByteArray)]) (hp := by simp) (hq := by simp)
    have hp := piece_size p hm
    have hw : wrap64 (x8 + 1) = x8 + 1 := wrap64_id (by omega) (by omega)
    obtain ⟨t, i', h', e, a, c⟩ := ih (s ++ p) x7 (x8 + 1) i3 h3 (by omega) (by omega) h7 (by rw [append_size]; omega) d3
    refine ⟨t, i', h', Ev.round ?_, a, c⟩
    simp only [spec_l12Journal.l1, hw]
    exact Ev.pos (by omega) (Ev.bindc e3 (Ev.pos (by dsimp only; omega) e))
theorem journal_loop (b : List Int) (hl : b.length ≤ 9000000000000000000) : ∀ (d : Nat) (j : ByteArray) (x4 x5 i h : Int), x4 - x5 = d → 0 ≤ x5 → x4 ≤ 5 → j.size ≤ 60 * x5.toNat → 0 ≤ i → Drawn b (fun k => spec_l12Journal.l0 k j x4 x5 b i h) 304 := by
  intro d
  induction d with
  | zero =>
    intro j x4 x5 i h hd h5 h4 hj hi
    obtain ⟨s, i', h', e, a, c⟩ := journal_end b hl j x4 x5 i h hi (by omega) (by omega)
    exact ⟨s, i', h', e, by omega, c⟩
  | succ d ih =>
    intro j x4 x5 i h hd h5 h4 hj hi
    obtain ⟨x, i1, h1, e1, a1, c1, d1⟩ := below_ok b i h 14 hi hl (by omega)
    have hw : wrap64 (x5 + 1) = x5 + 1 := wrap64_id (by omega) (by omega)
    obtain ⟨s, i', h', e, a, c⟩ := journal_in b hl j x4 x5 (by omega) 304 (by
      intro r i h hr hi
      rw [hw]
      exact ih (j ++ r) x4 (x5 + 1) i h (by omega) (by omega) h4 (by rw [append_size]; omega) hi) x.toNat ⟨#[]⟩ x 0 i1 h1 (by omega) (by omega) (by have := c1 (by omega); omega) (by have : (⟨#[]⟩ : ByteArray).size = 0 := rfl; omega) d1
    refine ⟨s, i', h', Ev.round ?_, a, c⟩
    simp only [spec_l12Journal.l0]
    exact Ev.pos (by omega) (Ev.bindc e1 e)
theorem journal_ok (b : List Int) (hl : b.length ≤ 9000000000000000000) (i h : Int) (hi : 0 ≤ i) : Drawn b (fun k => spec_l12Journal.f k b i h) 304 := by
  obtain ⟨x, i1, h1, e1, a1, c1, d1⟩ := below_ok b i h 6 hi hl (by omega)
  obtain ⟨s, i', h', e, a, c⟩ := journal_loop b hl x.toNat ⟨#[]⟩ x 0 i1 h1 (by omega) (by omega) (by have := c1 (by omega); omega) (by have : (⟨#[]⟩ : ByteArray).size = 0 := rfl; omega) d1
  refine ⟨s, i', h', ?_, a, c⟩
  unfold spec_l12Journal.f
  exact Ev.bindc e1 e
theorem new_ok (b : List Int) (hl : b.length ≤ 9000000000000000000) : ∃ h, Ev (fun k => spec_l01New.f k b) (b, 0, h) := by
  suffices H : ∀ (d i : Nat) (h : Int), i + d = b.length → ∃ h', Ev (fun k => spec_l01New.l0 k b h (i : Int)) (b, (0 : Int), h') from by
    obtain ⟨h', e⟩ := H b.length 0 (wrap64 (118118 + (b.length : Int))) (by omega)
    exact ⟨h', by unfold spec_l01New.f; exact e⟩
  intro d
  induction d with
  | zero =>
    intro i h hi
    refine ⟨h, Ev.round ?_⟩
    simp only [spec_l01New.l0]
    exact Ev.neg (by omega) (Ev.now _)
  | succ d ih =>
    intro i h hi
    by_cases hc : (i : Int) < 4000
    · obtain ⟨h', e⟩ := ih (i + 1) (Go.bits .and .i64 (wrap64 ((wrap64 ((wrap64 (h * 131)) + (wrap64 (rd b (i : Int))))) + 7)) 1073741823) (by omega)
      refine ⟨h', Ev.round ?_⟩
      have hw : wrap64 ((i : Int) + 1) = ((i + 1 : Nat) : Int) := by rw [wrap64_id (by omega) (by omega)]; omega
      simp only [spec_l01New.l0, hw]
      exact Ev.pos (by omega) (Ev.pos hc (Ev.pos (by omega) e))
    · refine ⟨h, Ev.round ?_⟩
      simp only [spec_l01New.l0]
      exact Ev.pos (by omega) (Ev.neg hc (Ev.now _))
theorem torn_eq (s : ByteArray) (n : Int) : ∃ m, impl_Torn.f s n = some (mkB (s.data.toList.take m)) ∧ spec_Torn.f s n = some (mkB (s.data.toList.take m)) ∧ m ≤ s.size ∧ ((s.size : Int) ≤ n → m = s.size) ∧ (n < (s.size : Int) → m = n.toNat) := by
  have hi : ∀ m, m = mx 0 (mn n (s.size : Int)) → impl_Torn.f s n = (if 0 ≤ m then (if m ≤ (s.size : Int) then some (s.extract 0 m.toNat) else none) else none) := by
    intro m hm; unfold impl_Torn.f; rw [← hm]
  have hx : ∀ m : Nat, s.extract 0 m = mkB (s.data.toList.take m) := fun m => ba_ext (by rw [extract_data, mkB_data, List.drop_zero, Nat.sub_zero])
  have hw : s = mkB (s.data.toList.take s.size) := ba_ext (by rw [mkB_data, size_data, List.take_length])
  have he : (⟨#[]⟩ : ByteArray) = mkB (s.data.toList.take 0) := ba_ext (by rw [mkB_data]; rfl)
  unfold spec_Torn.f
  by_cases h1 : n < 0
  · have hm : (0 : Int) = mx 0 (mn n (s.size : Int)) := by unfold mx mn; split <;> split at * <;> omega
    refine ⟨0, ?_, by rw [if_pos h1, he], by omega, by omega, by omega⟩
    rw [hi 0 hm, if_pos (by omega), if_pos (by omega)]
    exact congrArg some (hx 0)
  · by_cases h2 : n > (s.size : Int)
    · have hm : (s.size : Int) = mx 0 (mn n (s.size : Int)) := by unfold mx mn; split <;> split at * <;> omega
      refine ⟨s.size, ?_, by rw [if_neg h1, if_pos h2, ← hw], Nat.le_refl _, by omega, by omega⟩
      rw [hi _ hm, if_pos (by omega), if_pos (by omega), Int.toNat_natCast, hx]
    · have hm : n = mx 0 (mn n (s.size : Int)) := by unfold mx mn; split <;> split at * <;> omega
      refine ⟨n.toNat, ?_, ?_, by omega, by omega, by omega⟩
      · rw [hi _ hm, if_pos (by omega), if_pos (by omega), hx]
      · rw [if_neg h1, if_neg h2, if_pos (by omega), if_pos (by omega), hx]
theorem drawTorn_ok (b : List Int) (hl : b.length ≤ 9000000000000000000) : ∃ j n, Ev (fun k => spec_DrawTorn.f k b) (j, n) ∧ j.size ≤ 304 := by
  obtain ⟨h0, e0⟩ := new_ok b hl
  obtain ⟨j, i1, h1, e1, a1, c1⟩ := journal_ok b hl 0 h0 (by omega)
  have hw : wrap64 ((j.size : Int) + 3) = (j.size : Int) + 3 := wrap64_id (by omega) (by omega)
  obtain ⟨x, i2, h2, e2, a2, c2, d2⟩ := below_ok b i1 h1 ((j.size : Int) + 3) c1 hl (by omega)
  obtain ⟨y, i3, h3, e3, a3, c3, d3⟩ := below_ok b i2 h2 12 d2 hl (by omega)
  have e3' : spec_l01Once.f b i2 h2 12 = some (y == 0, i3, h3) := by unfold spec_l01Once.f; rw [e3]; rfl
  by_cases hy : (y == 0) = true
  · obtain ⟨z, i4, h4, e4, a4, c4, d4⟩ := below_ok b i3 h3 2 d3 hl (by omega)
    have hz := c4 (by omega)
    have e4' : spec_l01PickInt.f b i3 h3 [9223372036854775807, (-9223372036854775808)] = some (rd [9223372036854775807, (-9223372036854775808)] z, i4, h4) := by
      unfold spec_l01PickInt.f
      have : (([9223372036854775807, (-9223372036854775808)] : List Int).length : Int) = 2 := rfl
      rw [this, e4, Option.bind_some, if_pos a4, if_pos hz]
    refine ⟨j, rd [9223372036854775807, (-9223372036854775808)] z, ?_, a1⟩
    · unfold spec_DrawTorn.f
      refine Ev.bind e0 (Ev.bind e1 ?_)
      simp only [hw]
      exact Ev.bindc e2 (Ev.bindc e3' (Ev.pos hy (Ev.bindc e4' (Ev.now _))))
  · refine ⟨j, wrap64 (x - 1), ?_, a1⟩
    unfold spec_DrawTorn.f
    refine Ev.bind e0 (Ev.bind e1 ?_)
    simp only [hw]
    exact Ev.bindc e2 (Ev.bindc e3' (Ev.neg hy (Ev.now _)))
theorem drawAppend_ok (b : List Int) (hl : b.length ≤ 9000000000000000000) : ∃ j s, Ev (fun k => spec_DrawAppend.f k b) (j, s) ∧ j.size ≤ 304 ∧ s.size ≤ 304 := by
  obtain ⟨h0, e0⟩ := new_ok b hl
  obtain ⟨j, i1, h1, e1, a1, c1⟩ := journal_ok b hl 0 h0 (by omega)
  obtain ⟨s, i2, h2, e2, a2, c2⟩ := journal_ok b hl i1 h1 c1
  refine ⟨j, s, ?_, a1, a2⟩
  unfold spec_DrawAppend.f
  exact Ev.bind e0 (Ev.bind e1 (Ev.bind e2 (Ev.now _)))
/-! ### FnTorn -/
theorem big_ok (b : List Int) : laws_big.f b = some (decide ((b.length : Int) > 1048576)) := rfl
theorem mkB_size (l : List UInt8) : (mkB l).size = l.length := by rw [size_data, mkB_data]
theorem recs_len_le {r : List UInt8} {ps : List (List UInt8)} (h : Parse r ps) : (recs ps).length ≤ r.length := by
  obtain ⟨_, rest, he, _⟩ := h
  rw [he]; simp
theorem rd_map {α : Type} (f : α → ByteArray) (l : List α) (i : Nat) (h : i < l.length) : rdOf ByteArray.empty (l.map f) (i : Int) = f (l[i]'h) := by
  unfold rdOf
  rw [Int.toNat_natCast, List.getD_eq_getElem?_getD, List.getElem?_map, List.getElem?_eq_getElem h]
  rfl
theorem torn_loop (j : ByteArray) (n : Int) (hj : j.size ≤ 2000000) (ps : List (List UInt8)) (hP : Parse j.data.toList ps) (m : Nat) (hm : m ≤ ps.length) (hiff : (n ≥ (((recs ps).length : Nat) : Int)) ∨ ps = [] ↔ m = ps.length) :
    ∀ (d i : Nat), i + d = m → Ev (fun k => laws_FnTorn.l0 k j n (ps.map mkB) (((recs ps).length : Nat) : Int) ((ps.take m).map mkB) (i : Int)) true := by
  have hlen := parse_len hP
  rw [← size_data] at hlen
  have hT : Ev (fun k => impl_Tidy.f k j) (mkB (recs ps)) := impl_Tidy_ev j hj ps hP
  have hT2 : Ev (fun k => impl_Tidy.f k (mkB (recs ps))) (mkB (recs ps)) := by
    refine impl_Tidy_ev _ ?_ ps (by rw [mkB_data]; exact Parse_recs hP.1)
    rw [mkB_size]
    have := recs_len_le hP
    rw [← size_data] at this
    omega
  have hml : ((ps.take m).map mkB).length = m := by simp; omega
  intro d
  induction d with
  | zero =>
    intro i hi
    refine Ev.round ?_
    simp only [laws_FnTorn.l0, hml, List.length_map]
    refine Ev.neg (by omega) ?_
    by_cases hc : n ≥ (((recs ps).length : Nat) : Int)
    · have := hiff.1 (.inl hc)
      refine Ev.pos hc (Ev.pos (by simp; omega) ?_)
      exact Ev.bind hT (Ev.bind hT2 (Ev.bind hT (Ev.eq (Ev.now _) (by simp))))
    · refine Ev.neg hc (Ev.pos ?_ ?_)
      · by_cases he : ps = []
        · subst he
          have : m = 0 := by simpa using hm
          subst this
          rfl
        · have h1 : ¬ m = ps.length := fun h => by
            rcases hiff.2 h with h | h
            · exact hc h
            · exact he h
          have h2 : 0 < ps.length := List.length_pos_iff.2 he
          have e1 : ((m : Int) == (ps.length : Int)) = false := by simp; omega
          have e2 : ((ps.length : Int) == 0) = false := by simp; omega
          rw [e1, e2]; rfl
      · exact Ev.bind hT (Ev.bind hT2 (Ev.bind hT (Ev.eq (Ev.now _) (by simp))))
  | succ d ih =>
    intro i hi
    have hw : wrap64 ((i : Int) + 1) = ((i + 1 : Nat) : Int) := by rw [wrap64_id (by omega) (by omega)]; omega
    refine Ev.round ?_
    simp only [laws_FnTorn.l0, hml, List.length_map, hw]
    clear hw
    have e : rdOf ByteArray.empty ((ps.take m).map mkB) (i : Int) = rdOf ByteArray.empty (ps.map mkB) (i : Int) := by
      rw [rd_map mkB _ i (by simp; omega), rd_map mkB _ i (by omega)]
      congr 1
      simp
    exact Ev.pos (by omega) (Ev.pos (by omega) (Ev.pos (by omega) (Ev.pos (by rw [e]) (ih (i + 1) (by omega)))))
theorem FnTorn : laws_FnTorn.Pure := by
  intro l0 hl _ _
  apply Ev.rounds
  unfold laws_FnTorn.f
  refine Ev.bindc (big_ok l0) ?_
  by_cases hb : (l0.length : Int) > 1048576
  · exact Ev.pos (by simpa using hb) (Ev.now _)
  refine Ev.neg (by simpa using hb) ?_
  obtain ⟨j, n, e, hj⟩ := drawTorn_ok l0 (by omega)
  refine Ev.bind e ?_
  obtain ⟨mm, t1, t2, _⟩ := torn_eq j n
  refine Ev.bindc t1 (Ev.bindc t2 (Ev.pos rfl ?_))
  clear t1 t2
  obtain ⟨ps, hP⟩ := Parse.exists j.data.toList
  have hrl := recs_len_le hP
  rw [← size_data] at hrl
  have hT : Ev (fun k => impl_Tidy.f k j) (mkB (recs ps)) := impl_Tidy_ev j (by omega) ps hP
  have hR : Ev (fun k => impl_Records.f k (mkB (recs ps))) (ps.map mkB, (((recs ps).length : Nat) : Int)) :=
    impl_Records_ev _ (by rw [mkB_size]; omega) ps (by rw [mkB_data]; exact Parse_recs hP.1)
  obtain ⟨m2, t3, _, hm2, hm3, hm4⟩ := torn_eq (mkB (recs ps)) n
  rw [mkB_size] at hm2 hm3 hm4
  rw [mkB_data] at t3
  obtain ⟨m, hm, hcut, hcl, hciff⟩ := Parse.cut hP.1 m2
  have hR2 : Ev (fun k => impl_Records.f k (mkB ((recs ps).take m2))) ((ps.take m).map mkB, (((recs (ps.take m)).length : Nat) : Int)) :=
    impl_Records_ev _ (by rw [mkB_size, List.length_take]; omega) (ps.take m) (by rw [mkB_data]; exact hcut)
  refine Ev.bind hT (Ev.bind hR (Ev.bind hT (Ev.bindc t3 (Ev.bind hR2 (Ev.bind hT ?_)))))
  refine Ev.pos (by rw [mkB_size]) (Ev.neg (by simp; omega) ?_)
  rw [decide_eq_false (by omega)]
  refine Ev.round ?_
  simp only [laws_FnTorn.j0]
  refine Ev.neg (by simp) ?_
  refine torn_loop j n (by omega) ps hP m hm ?_ m 0 (by omega)
  rw [hciff]
  constructor
  · rintro (h | h)
    · exact .inl (by have := hm3 h; omega)
    · exact .inr h
  · rintro (h | h)
    · by_cases hc : n < (((recs ps).length : Nat) : Int)
      · have := hm4 hc
        by_cases h0 : 0 ≤ n
        · omega
        · right
          have h3 : (recs ps).length = 0 := by omega
          cases ps with
          | nil => rfl
          | cons p ps =>
            have := recOf_length p
            rw [recs_cons, List.length_append] at h3
            omega
      · exact .inl (by omega)
    · exact .inr h
/-! ### FnJournal -/
theorem journal_l0 (ps : List (List UInt8)) (s : List UInt8) (hl : ps.length ≤ 2000000) : ∀ (d i : Nat), i + d = ps.length → Ev (fun k => laws_FnJournal.l0 k (ps.map mkB) (ps.map mkB) ((ps ++ [s]).map mkB) (i : Int)) true := by
  intro d
  induction d with
  | zero =>
    intro i hi
    refine Ev.round ?_
    simp only [laws_FnJournal.l0, List.length_map]
    exact Ev.neg (by omega) (Ev.now _)
  | succ d ih =>
    intro i hi
    have hw : wrap64 ((i : Int) + 1) = ((i + 1 : Nat) : Int) := by rw [wrap64_id (by omega) (by omega)]; omega
    refine Ev.round ?_
    simp only [laws_FnJournal.l0, List.length_map, hw]
    clear hw
    have e : rdOf ByteArray.empty ((ps ++ [s]).map mkB) (i : Int) = rdOf ByteArray.empty (ps.map mkB) (i : Int) := by
      rw [rd_map mkB _ i (by simp; omega), rd_map mkB _ i (by omega)]
      congr 1
      rw [List.getElem_append_left]
    exact Ev.pos (by omega) (Ev.pos (by omega) (Ev.pos (by simp; omega) (Ev.pos (by rw [e]) (Ev.pos (by omega) (Ev.pos (by simp) (ih (i + 1) (by omega)))))))
theorem FnJournal : laws_FnJournal.Pure := by
  intro l0 hl _ _
  apply Ev.rounds
  unfold laws_FnJournal.f
  refine Ev.bindc (big_ok l0) ?_
  by_cases hb : (l0.length : Int) > 1048576
  · exact Ev.pos (by simpa using hb) (Ev.now _)
  refine Ev.neg (by simpa using hb) ?_
  obtain ⟨j, s, e, hj, hs⟩ := drawAppend_ok l0 (by omega)
  refine Ev.bind e ?_
  obtain ⟨ps, hP⟩ := Parse.exists j.data.toList
  have hlen := parse_len hP
  rw [← size_data] at hlen
  have hrl := recs_len_le hP
  rw [← size_data] at hrl
  have hT : Ev (fun k => impl_Tidy.f k j) (mkB (recs ps)) := impl_Tidy_ev j (by omega) ps hP
  have hx : j.extract 0 ((((recs ps).length : Nat) : Int)).toNat = mkB (recs ps) := by
    apply ba_ext
    obtain ⟨_, rest, he, _⟩ := hP
    rw [Int.toNat_natCast, extract_data, mkB_data, he]
    simp
  refine Ev.bind (impl_Records_ev j (by omega) ps hP) (Ev.bind (spec_Records_ev j (by omega) ps hP) ?_)
  refine Ev.pos rfl (Ev.pos rfl (Ev.bind hT (Ev.pos (by dsimp only; omega) (Ev.pos (by dsimp only; omega) ?_))))
  have hb1 : ((mkB (recs ps)).toList != (j.extract 0 ((((recs ps).length : Nat) : Int)).toNat).toList) = false := by rw [hx]; simp
  simp only [hb1]
  have hds := decL_len (n := s.size) (d := 2) (by omega)
  have hrs := recB_size s
  have hA : appB (mkB (recs ps)) s = (mkB (recs ps) ++ recB s, true) := by
    unfold appB
    rw [if_pos]
    rw [mkB_size]
    omega
  have hk : mkB (recs ps) ++ recB s = mkB (recs (ps ++ [s.data.toList])) := by
    apply ba_ext
    rw [append_data, mkB_data, recB, mkB_data, mkB_data, recs_append]
    simp [recs]
  have hF : Fits (ps ++ [s.data.toList]) := by
    intro q hq
    rcases List.mem_append.1 hq with hq | hq
    · exact hP.1 q hq
    · simp at hq; rw [hq, ← size_data]; omega
  have hP2 : Parse (mkB (recs (ps ++ [s.data.toList]))).data.toList (ps ++ [s.data.toList]) := by rw [mkB_data]; exact Parse_recs hF
  have hks : (mkB (recs (ps ++ [s.data.toList]))).size ≤ 2000000 := by rw [← hk, append_size, mkB_size]; omega
  have hAp := impl_Append_ev (mkB (recs ps)) s (by rw [mkB_size]; omega) (by omega)
  rw [hA, hk] at hAp
  have hL : lastB (ps ++ [s.data.toList]) = (s, true) := by
    unfold lastB
    rw [List.getLast?_concat]
    simp only [mkB_of]
  have hLast := impl_Last_ev _ hks _ hP2
  rw [hL] at hLast
  have hRec := impl_Record_ev s (by omega)
  rw [if_pos (by omega)] at hRec
  refine Ev.round ?_
  simp only [laws_FnJournal.j0]
  refine Ev.neg (by simp) (Ev.bind hT (Ev.bind hAp (Ev.bind (impl_Records_ev _ hks _ hP2) (Ev.bind hLast ?_))))
  refine Ev.pos rfl (Ev.pos rfl (Ev.pos rfl (Ev.pos ?_ (Ev.pos ?_ (Ev.pos (by omega) (Ev.pos (by omega) (Ev.bind hRec (Ev.pos ?_ ?_))))))))
  · rw [wrap64_id (by simp; omega) (by simp; omega)]; simp
  · rw [mkB_size]
  · rw [hx, mkB_size]; omega
  · have hb2 : ((mkB (recs (ps ++ [s.data.toList]))).toList != ((j.extract 0 ((((recs ps).length : Nat) : Int)).toNat) ++ recB s).toList) = false := by rw [hx, hk]; simp
    simp only [hb2]
    refine Ev.round ?_
    simp only [laws_FnJournal.j1]
    exact Ev.neg (by simp) (journal_l0 ps s.data.toList (by omega) ps.length 0 (by omega))
end Go.Proofs.Ythcpogkffjnefaa.JP
