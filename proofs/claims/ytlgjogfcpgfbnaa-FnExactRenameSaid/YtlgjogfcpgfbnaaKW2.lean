/- The walk of isRight. -/
import Derived.Test.YtlgjogfcpgfbnaaKS1
import Derived.Test.YtlgjogfcpgfbnaaK3u
import Derived.Outline
set_option linter.unusedVariables false
set_option linter.unusedSimpArgs false
namespace Go.Proofs.Ytlgjogfcpgfbnaa.KS
open Go.RowKit Go.Proofs.YtlgjogfcpgfbnaaW.PrintWords Go.Proofs.YtlgjogfcpgfbnaaW.PrintLast Go.Proofs.YtlgjogfcpgfbnaaW.PrintMore Go.Proofs.Ytlgjogfcpgfbnaa.Lib0 Go.Proofs.Ytlgjogfcpgfbnaa.K Go.Proofs.Ytlgjogfcpgfbnaa.KM
attribute [local go_sem high] eqA99

theorem isWidthB (a : Int) (b : Bool) (h : decide (1 ≤ a ∧ a ≤ 8) = b) (w : World) : Calls Try.prog 226 #[.int .i64 a] w fun e w' => e = .returned (.bool b) ∧ Drawn0 w w' := h ▸ isWidth a w
theorem isVarB (a : Int) (b : Bool) (h : decide (0 ≤ a ∧ a ≤ 7) = b) (w : World) : Calls Try.prog 96 #[.int .i64 a] w fun e w' => e = .returned (.bool b) ∧ Drawn0 w w' := h ▸ isVar a w
theorem withinB (a b c : Int) (r : Bool) (h : decide (b ≤ a ∧ a ≤ c) = r) (w : World) : Calls Try.prog 100 #[.int .i64 a, .int .i64 b, .int .i64 c] w fun e w' => e = .returned (.bool r) ∧ Drawn0 w w' := h ▸ within a b c w
theorem uses_dec {op k a b c : Int} {P : Bool} (h : P = true ↔ UsesP op k a b c) : P = decide (UsesP op k a b c) := by
  rw [Bool.eq_iff_iff, h, decide_eq_true_iff]
theorem usesOnly_ev (a0 a1 a2 a3 a4 a5 : Int) : Ev (fun k => impl_usesOnly.f k a0 a1 a2 a3 a4 a5) (decide (UsesP a0 a2 a3 a4 a5)) := by
  unfold impl_usesOnly.f
  refine Ev.bind (Parts_ev a0 a1 a2 a3 a4 a5) ?_
  by_cases h0 : a0 = 0
  · refine Ev.pos h0 (Ev.step (fun _ => rfl) ?_)
    simp only [impl_usesOnly.j0]
    refine Ev.pos trivial (Ev.eq (Ev.now _) (uses_dec ?_))
    unfold UsesP; rw [if_pos (.inl h0)]; simp
  refine Ev.neg h0 (Ev.step (fun _ => rfl) ?_)
  simp only [impl_usesOnly.j0]
  by_cases h1 : a0 = 1
  · refine Ev.pos (by simp [h1]) (Ev.eq (Ev.now _) (uses_dec ?_))
    unfold UsesP; rw [if_pos (.inr h1)]; simp
  refine Ev.neg (by simp [h1]) ?_
  by_cases h17 : a0 = 17
  · refine Ev.pos h17 (Ev.eq (Ev.now _) (uses_dec ?_))
    unfold UsesP; rw [if_neg (by omega), if_pos h17]; simp
  refine Ev.neg h17 (Ev.bindc (isQuant_eq _ _ _ _ _ _) ?_)
  by_cases hq : a0 = 19 ∨ a0 = 20
  · refine Ev.pos (decide_eq_true hq) (Ev.eq (Ev.now _) (uses_dec ?_))
    unfold UsesP; rw [if_neg (by omega), if_neg h17, if_pos hq]; simp
  refine Ev.neg (fun hh => hq (of_decide_eq_true hh)) ?_
  by_cases h2 : a0 = 2
  · have hp : partsL a0 a3 a4 a5 = [a3] := by unfold partsL; rw [if_pos (.inl h2)]
    rw [hp]
    refine Ev.pos (by simp) (Ev.neg (by simp) (Ev.neg (by simp) (Ev.eq (Ev.now _) (uses_dec ?_))))
    unfold UsesP; rw [if_neg (by omega), if_neg h17, if_neg hq, if_pos h2]; simp
  by_cases h3 : 3 ≤ a0 ∧ a0 ≤ 16
  · have hp : partsL a0 a3 a4 a5 = [a3, a4] := by unfold partsL; rw [if_neg (by omega), if_pos h3]
    rw [hp]
    refine Ev.pos (by simp) (Ev.pos (by simp) (Ev.neg (by simp) (Ev.eq (Ev.now _) (uses_dec ?_))))
    unfold UsesP; rw [if_neg (by omega), if_neg h17, if_neg hq, if_neg h2, if_pos h3]; simp
  by_cases h18 : a0 = 18
  · have hp : partsL a0 a3 a4 a5 = [a3, a4, a5] := by unfold partsL; rw [if_neg (by omega), if_neg h3, if_pos h18]
    rw [hp]
    refine Ev.pos (by simp) (Ev.pos (by simp) (Ev.pos (by simp) (Ev.eq (Ev.now _) (uses_dec ?_))))
    unfold UsesP; rw [if_neg (by omega), if_neg h17, if_neg hq, if_neg h2, if_neg h3, if_pos h18]; simp
  have hp : partsL a0 a3 a4 a5 = [] := by unfold partsL; rw [if_neg (by omega), if_neg h3, if_neg h18]
  rw [hp]
  refine Ev.neg (by simp) (Ev.eq (Ev.now _) (uses_dec ?_))
  unfold UsesP; rw [if_neg (by omega), if_neg h17, if_neg hq, if_neg h2, if_neg h3, if_neg h18]; simp
theorem usesOnly (a0 a1 a2 a3 a4 a5 : Int) (r : Bool) (h : decide (UsesP a0 a2 a3 a4 a5) = r) (w : World) : Calls Try.prog 227 #[.agg #[.int .i64 a0, .int .i64 a1, .int .i64 a2, .int .i64 a3, .int .i64 a4, .int .i64 a5]] w fun e w' => e = .returned (.bool r) ∧ Below w.heap.size w w' := by
  obtain ⟨K, hK⟩ := usesOnly_ev a0 a1 a2 a3 a4 a5
  exact impl_usesOnly.calls K a0 a1 a2 a3 a4 a5 r w (h ▸ hK K (Nat.le_refl _))

/-- A row of whole numbers that a call has just made, read by its places. -/
def Pcs (W : World) (B : Nat) (A : Option Addr) (L : List Int) : Prop := ∀ j (h : j < L.length), ∃ g, A = some ⟨g, 0, none⟩ ∧ B ≤ g ∧ g < W.heap.size ∧ W.cell? ⟨g, j, none⟩ = some (.int .i64 (L[j]'h))
theorem Pcs.of {W : World} {B : Nat} {v : Value} {L : List Int} (h : Kd.R (Kd.int .i64) 3 W B (fun _ => True) v L) : ∃ A c, v = .slice A L.length c ∧ Pcs W B A L := by
  obtain ⟨A, c, rfl⟩ := Kd.R_slice h
  refine ⟨A, c, rfl, fun j hj => ?_⟩
  obtain ⟨g, cap, he, hg, hl, _⟩ := Kd.R_form h (by omega)
  injection he with he _ _
  subst he
  refine ⟨g, rfl, hg, hl, ?_⟩
  have := (Kd.R_celln (0 : Int) h (j : Int) (by omega) (by omega)).1
  rw [Int.toNat_natCast] at this
  rw [this]
  unfold rdOf
  rw [Int.toNat_natCast, List.getD_eq_getElem?_getD, List.getElem?_eq_getElem hj]
  rfl
theorem Pcs.below {W W' : World} {B : Nat} {A : Option Addr} {L : List Int} (h : Pcs W B A L) (hb : ∀ g, B ≤ g → g < W.heap.size → W'.heap[g]? = W.heap[g]?) (hs : W.heap.size ≤ W'.heap.size) : Pcs W' B A L := by
  intro j hj
  obtain ⟨g, h1, h2, h3, h4⟩ := h j hj
  refine ⟨g, h1, h2, by omega, ?_⟩
  rw [← h4]
  unfold World.cell?
  rw [hb g h2 h3]
theorem PartsC (a0 a1 a2 a3 a4 a5 : Int) (w : World) : Calls Try.prog 87 #[.agg #[.int .i64 a0, .int .i64 a1, .int .i64 a2, .int .i64 a3, .int .i64 a4, .int .i64 a5]] w fun e w' =>
    ∃ A c, e = .returned (.slice A (partsL a0 a3 a4 a5).length c) ∧ Pcs w' w.heap.size A (partsL a0 a3 a4 a5) ∧ Below w.heap.size w w' := by
  refine (Parts a0 a1 a2 a3 a4 a5 w).mono ?_
  rintro e w' ⟨v, rfl, ho, hb⟩
  obtain ⟨A, c, rfl, hp⟩ := Pcs.of ho
  exact ⟨A, c, rfl, hp, hb⟩
theorem partsL_len (a0 a b c : Int) : (partsL a0 a b c).length ≤ 3 := by
  unfold partsL; repeat' split
  all_goals simp
/-- The widths of the parts so far. -/
def av (l0 : List Nd) (L : List Int) (i j : Nat) : Int := if j < i then wd l0 (L.getD j 0) else 0

def restB (l0 : List Nd) (a0 a1 a2 a3 a4 a5 : Int) : Bool := decide ((∀ p ∈ partsL a0 a3 a4 a5, 0 ≤ p ∧ p < (l0.length : Int)) ∧ KindP a0 a1 a2 a4 (wd l0 a3) (wd l0 a4) (wd l0 a5))
theorem restB_no {l0 : List Nd} {a0 a1 a2 a3 a4 a5 : Int} {L : List Int} (h : partsL a0 a3 a4 a5 = L) (i : Nat) (hi : i < L.length) (hn : ¬ (0 ≤ L[i] ∧ L[i] < (l0.length : Int))) : restB l0 a0 a1 a2 a3 a4 a5 = false := by
  subst h
  unfold restB
  rw [decide_eq_false]
  intro hh
  exact hn (hh.1 _ (List.getElem_mem hi))
theorem ret_bool {a b : Bool} (h : a = b) : Ending.returned (.bool a) = .returned (.bool b) := by rw [h]
theorem av_set (l0 : List Nd) (L : List Int) (i : Nat) (hi : i < L.length) (h3 : L.length ≤ 3) (T : TypeId) (x : Value) (hx : x = .int .i64 (wd l0 (L[i]'hi))) :
    (#[.int .i64 (av l0 L i 0), .int .i64 (av l0 L i 1), .int .i64 (av l0 L i 2)] : Array Value).setIfInBounds i x = #[.int .i64 (av l0 L (i + 1) 0), .int .i64 (av l0 L (i + 1) 1), .int .i64 (av l0 L (i + 1) 2)] := by
  subst hx
  have : i = 0 ∨ i = 1 ∨ i = 2 := by omega
  rcases this with rfl | rfl | rfl <;> simp [av, List.getElem?_eq_getElem hi]
set_option maxHeartbeats 1000000 in
set_option maxRecDepth 100000 in
theorem isRight_run (A0 : Option Addr) (c0 : Nat) (l0 : List Nd) (a0 a1 a2 a3 a4 a5 : Int) (w : World) (hr0 : Kd.C k99 w A0 l0.length l0) (hc0 : l0.length ≤ c0)
    (hW : decide (1 ≤ a1 ∧ a1 ≤ 8) = true) (hO : decide (0 ≤ a0 ∧ a0 ≤ 20) = true) (hU : decide (UsesP a0 a2 a3 a4 a5) = true) :
    Calls Try.prog 165 #[.slice A0 l0.length c0, .agg #[.int .i64 a0, .int .i64 a1, .int .i64 a2, .int .i64 a3, .int .i64 a4, .int .i64 a5]] w fun e w' =>
      e = .returned (.bool (restB l0 a0 a1 a2 a3 a4 a5)) ∧ Below w.heap.size w w' := by
  have HW := Aside0.mk hW
  have HO := Aside0.mk hO
  have HU := Aside0.mk hU
  have HR := Aside0.mk hr0
  clear hW hO hU hr0
  go_enter Try.func165, Try.ntmps165
  go_upto_region 3 with (first | (go_at_call 226; refine (isWidthB a1 true HW.out _).mono ?_; rintro e w' ⟨rfl, ⟨nd, rfl⟩⟩) | (go_at_call 100; refine (withinB a0 0 20 true HO.out _).mono ?_; rintro e w' ⟨rfl, ⟨nd, rfl⟩⟩) | (go_at_call 227; refine (usesOnly a0 a1 a2 a3 a4 a5 true HU.out _).mono ?_; rintro e w1 ⟨rfl, hb⟩))
  have HB := Aside0.mk (below_then (pw_below_drewN (below_alloc (Below.refl w.heap.size w) _) _) (by simp) hb)
  have BN := Aside0.mk ((hb.block w.heap.size (by simp)).trans (heap_alloc_new w _))
  clear hb
  have q0 := (blk_cell BN.out 0).trans (List.getElem?_toArray ..)
  have q1 := (blk_cell BN.out 1).trans (List.getElem?_toArray ..)
  have q2 := (blk_cell BN.out 2).trans (List.getElem?_toArray ..)
  have q3 := (blk_cell BN.out 3).trans (List.getElem?_toArray ..)
  have q4 := (blk_cell BN.out 4).trans (List.getElem?_toArray ..)
  have q5 := (blk_cell BN.out 5).trans (List.getElem?_toArray ..)
  have hs1 : w.heap.size < w1.heap.size := blk_lt BN.out
  obtain ⟨L, hL⟩ : ∃ L, partsL a0 a3 a4 a5 = L := ⟨_, rfl⟩
  have hl3 := partsL_len a0 a3 a4 a5
  rw [hL] at hl3
  have HL := Aside0.mk hL
  clear hL
  go_wp2_with (first | (go_at_call 87; refine (PartsC a0 a1 a2 a3 a4 a5 _).mono ?_; rintro e w2 ⟨A1, c1, rfl, ho, hb⟩; rw [HL.out] at ho ⊢))
  have hlen : (l0.length : Int) ≤ 9223372036854775807 := by have := HR.out.2.1; omega
  have HB2 := Aside0.mk (below_step (below_alloc HB.out _) hb)
  have hs2 := hb.size
  have BN2 := Aside0.mk ((hb.block w.heap.size (by simp; omega)).trans ((heap_alloc_old _ _ (by omega)).trans BN.out))
  have BA2 := Aside0.mk ((hb.block w1.heap.size (by simp)).trans (heap_alloc_new w1 _))
  have HP2 := Aside0.mk (show Pcs w2 (w1.heap.size + 1) A1 L by simpa using ho)
  clear hb ho q0 q1 q2 q3 q4 q5
  go_loopg [6, 7, 27] L.length (fun kq v6 v7 v27 wc => ∃ i : Nat, i ≤ L.length ∧ L.length - i = kq ∧ v27 = .int .i64 (i : Int) ∧ Aside0 (∀ j (h : j < L.length), j < i → 0 ≤ L[j]'h ∧ L[j]'h < (l0.length : Int)) ∧
    Aside0 (wc.heap[w.heap.size]? = some (.cells #[.int .i64 a0, .int .i64 a1, .int .i64 a2, .int .i64 a3, .int .i64 a4, .int .i64 a5] 99 (0, 0))) ∧
    Aside0 (wc.heap[w1.heap.size]? = some (.cells #[.int .i64 (av l0 L i 0), .int .i64 (av l0 L i 1), .int .i64 (av l0 L i 2)] 183 (0, 0))) ∧ Aside0 (Pcs wc (w1.heap.size + 1) A1 L) ∧ Aside0 (Below w.heap.size w wc))
  case atStart =>
    refine ⟨0, Nat.zero_le _, rfl, rfl, ⟨fun j _ h => absurd h (by omega)⟩, BN2, ?_, HP2, HB2⟩
    simpa [av] using BA2
  case round =>
    obtain ⟨i, hi, hk, rfl, HI, BNc, BAc, HPc, HBc⟩ := hrel
    by_cases hlt : i < L.length
    · obtain ⟨g, rfl, hg1, hg2, hcell⟩ := HPc.out i hlt
      by_cases hr : 0 ≤ L[i] ∧ L[i] < (l0.length : Int)
      · have hwi : decide (0 ≤ L[i] ∧ L[i] ≤ (l0.length : Int) - 1) = true := decide_eq_true (by omega)
        obtain ⟨ad, rfl, _, hx, _⟩ := at_T99 HR.out L[i] hr.1 hr.2
        replace hx := pw_cell_below HBc.out hx
        have HWI := Aside0.mk hwi
        have HR' := Aside0.mk hr
        clear hwi hr
        have b0 : decide (0 ≤ (i : Int)) = true := by simp
        have b1 : decide ((i : Int) < (L.length : Int)) = true := decide_eq_true (by omega)
        have r0 := HR'.out.1
        have r1 := HR'.out.2
        have f0 := blk_frozen BAc.out i
        have hav : ∃ x, wr.cell? ⟨w1.heap.size, i, none⟩ = some x := by
          rw [blk_cell BAc.out]
          have : i = 0 ∨ i = 1 ∨ i = 2 := by omega
          rcases this with rfl | rfl | rfl <;> exact ⟨_, rfl⟩
        obtain ⟨x0, hx0⟩ := hav
        go_wp2_with (first | (go_at_call 100; refine (withinB _ _ _ true HWI.out _).mono ?_; rintro e w' ⟨rfl, ⟨nd, rfl⟩⟩))
        go_roundg (L.length - (i + 1))
        case measure => omega
        case rel =>
          refine ⟨i + 1, hlt, rfl, rfl, ⟨fun j h hj => ?_⟩, ⟨blk_far (blk_drewN BNc.out _) (by simp; omega) _⟩, ⟨?_⟩, ⟨HPc.out.below (fun g hg _ => ?_) (by simp)⟩, ⟨below_set (pw_below_drewN HBc.out _) (Nat.le_of_lt hs1)⟩⟩
          · by_cases hji : j < i
            · exact HI.out j h hji
            · obtain rfl : j = i := by omega
              exact HR'.out
          · refine (blk_set (blk_drewN BAc.out _) i _).trans ?_
            rw [av_set l0 L i hlt hl3 0 (.int .i64 (rd_T99 l0 L[i]).f1) rfl]
          · exact (Below.heap_setCell _ _ _ _ (by simp; omega)).trans (by rw [World.heap_drewN])
      · have hwi : decide (0 ≤ L[i] ∧ L[i] ≤ (l0.length : Int) - 1) = false := decide_eq_false (by omega)
        have HF := Aside0.mk (restB_no (a1 := a1) (a2 := a2) HL.out i hlt hr)
        have HWI := Aside0.mk hwi
        clear hwi hr
        go_wp2_with (first | (go_at_call 100; refine (withinB _ _ _ false HWI.out _).mono ?_; rintro e w' ⟨rfl, ⟨nd, rfl⟩⟩))
        go_ret
        exact ⟨ret_bool HF.out.symm, pw_below_drewN HBc.out _⟩
    · obtain rfl : i = L.length := by omega
      have q0 := (blk_cell BNc.out 0).trans (List.getElem?_toArray ..)
      have q1 := (blk_cell BNc.out 1).trans (List.getElem?_toArray ..)
      have q2 := (blk_cell BNc.out 2).trans (List.getElem?_toArray ..)
      have q4 := (blk_cell BNc.out 4).trans (List.getElem?_toArray ..)
      have e0 := (blk_cell BAc.out 0).trans (List.getElem?_toArray ..)
      have e1 := (blk_cell BAc.out 1).trans (List.getElem?_toArray ..)
      have e2 := (blk_cell BAc.out 2).trans (List.getElem?_toArray ..)
      have hall : ∀ p ∈ partsL a0 a3 a4 a5, 0 ≤ p ∧ p < (l0.length : Int) := by
        rw [HL.out]
        intro p hp
        obtain ⟨j, hj, rfl⟩ := List.getElem_of_mem hp
        exact HI.out j hj hj
      have HK := Aside0.mk (show restB l0 a0 a1 a2 a3 a4 a5 = decide (KindP a0 a1 a2 a4 (wd l0 a3) (wd l0 a4) (wd l0 a5)) by unfold restB; apply decide_eq_decide.2; exact ⟨fun h => h.2, fun h => ⟨hall, h⟩⟩)
      clear hall
      obtain ⟨x0, hx0⟩ : ∃ x0, av l0 L L.length 0 = x0 := ⟨_, rfl⟩
      obtain ⟨x1, hx1⟩ : ∃ x1, av l0 L L.length 1 = x1 := ⟨_, rfl⟩
      obtain ⟨x2, hx2⟩ : ∃ x2, av l0 L L.length 2 = x2 := ⟨_, rfl⟩
      rw [hx0, hx1, hx2] at BAc
      rw [hx0] at e0
      rw [hx1] at e1
      rw [hx2] at e2
      have hO := HO.out
      simp only [decide_eq_true_eq] at hO
      have hcl : a0 = 0 ∨ a0 = 1 ∨ a0 = 2 ∨ (3 ≤ a0 ∧ a0 ≤ 12) ∨ (13 ≤ a0 ∧ a0 ≤ 15) ∨ a0 = 16 ∨ a0 = 17 ∨ a0 = 18 ∨ (a0 = 19 ∨ a0 = 20) := by omega
      clear hO
      have n0 : ∀ c : Int, a0 ≠ c → (a0 == c) = false := fun c h => by simp [h]
      rcases hcl with h | h | h | h | h | h | h | h | h
      · have t0 : (a0 == 0) = true := by simp [h]
        have HR1 := Aside0.mk (show decide (WordP a1 a2) = restB l0 a0 a1 a2 a3 a4 a5 by rw [HK.out]; apply decide_eq_decide.2; unfold KindP; simp [h])
        clear h n0
        go_wp2_with (first | (go_at_call 219; refine (WordOk a1 a2 _).mono ?_; rw [HR1.out]; rintro e w' ⟨rfl, ⟨nd, rfl⟩⟩))
        go_ret
        exact ⟨rfl, pw_below_drewN HBc.out _⟩
      · have t0 := n0 0 (by omega)
        have t1 : (a0 == 1) = true := by simp [h]
        have HR1 := Aside0.mk (show decide (0 ≤ a2 ∧ a2 ≤ 7) = restB l0 a0 a1 a2 a3 a4 a5 by rw [HK.out]; apply decide_eq_decide.2; unfold KindP; simp [h])
        clear h n0
        go_wp2_with (first | (go_at_call 96; refine (isVar a2 _).mono ?_; rw [HR1.out]; rintro e w' ⟨rfl, ⟨nd, rfl⟩⟩))
        go_ret
        exact ⟨rfl, pw_below_drewN HBc.out _⟩
      · have t0 := n0 0 (by omega)
        have t1 := n0 1 (by omega)
        have t2 : (a0 == 2) = true := by simp [h]
        have E0 : x0 = wd l0 a3 := by rw [← hx0, ← HL.out]; simp [av, partsL, h]
        have HR1 := Aside0.mk (show (x0 == a1) = restB l0 a0 a1 a2 a3 a4 a5 by rw [HK.out, E0, Bool.eq_iff_iff, beq_iff_eq, decide_eq_true_iff]; unfold KindP; simp [h])
        clear h n0 hx0 hx1 hx2 E0
        go_wp2
        go_ret
        exact ⟨ret_bool HR1.out, HBc.out⟩
      · have t0 := n0 0 (by omega)
        have t1 := n0 1 (by omega)
        have t2 := n0 2 (by omega)
        have HW1 := Aside0.mk (show decide (3 ≤ a0 ∧ a0 ≤ 12) = true from decide_eq_true h)
        have E0 : x0 = wd l0 a3 := by rw [← hx0, ← HL.out]; simp [av, partsL, show ¬ (a0 = 2 ∨ a0 = 17 ∨ a0 = 19 ∨ a0 = 20) by omega, show 3 ≤ a0 ∧ a0 ≤ 16 by omega]
        have E1 : x1 = wd l0 a4 := by rw [← hx1, ← HL.out]; simp [av, partsL, show ¬ (a0 = 2 ∨ a0 = 17 ∨ a0 = 19 ∨ a0 = 20) by omega, show 3 ≤ a0 ∧ a0 ≤ 16 by omega]
        have HR0 := Aside0.mk (show restB l0 a0 a1 a2 a3 a4 a5 = decide (x0 = a1 ∧ x1 = a1) by rw [HK.out, E0, E1]; apply decide_eq_decide.2; unfold KindP; rw [if_neg (by omega), if_neg (by omega), if_neg (by omega), if_pos h])
        clear h n0 hx0 hx1 hx2 E0 E1
        by_cases y0 : x0 = a1
        · have z0 : (x0 == a1) = true := by simp [y0]
          by_cases y1 : x1 = a1
          · have z1 : (x1 == a1) = true := by simp [y1]
            have HR1 := Aside0.mk (show restB l0 a0 a1 a2 a3 a4 a5 = true by rw [HR0.out]; exact decide_eq_true ⟨y0, y1⟩)
            clear y0 y1
            go_wp2_with (first | (go_at_call 100; (with_reducible refine (withinB a0 3 12 true HW1.out _).mono ?_); rintro e w' ⟨rfl, ⟨nd, rfl⟩⟩))
            go_ret
            exact ⟨ret_bool HR1.out.symm, pw_below_drewN HBc.out _⟩
          · have z1 : (x1 == a1) = false := by simp [y1]
            have HR1 := Aside0.mk (show restB l0 a0 a1 a2 a3 a4 a5 = false by rw [HR0.out]; exact decide_eq_false (fun h => y1 h.2))
            clear y0 y1
            go_wp2_with (first | (go_at_call 100; (with_reducible refine (withinB a0 3 12 true HW1.out _).mono ?_); rintro e w' ⟨rfl, ⟨nd, rfl⟩⟩))
            go_ret
            exact ⟨ret_bool HR1.out.symm, pw_below_drewN HBc.out _⟩
        · have z0 : (x0 == a1) = false := by simp [y0]
          have HR1 := Aside0.mk (show restB l0 a0 a1 a2 a3 a4 a5 = false by rw [HR0.out]; exact decide_eq_false (fun h => y0 h.1))
          clear y0
          go_wp2_with (first | (go_at_call 100; refine (withinB _ _ _ true HW1.out _).mono ?_; rintro e w' ⟨rfl, ⟨nd, rfl⟩⟩))
          go_ret
          exact ⟨ret_bool HR1.out.symm, pw_below_drewN HBc.out _⟩
      · have t0 := n0 0 (by omega)
        have t1 := n0 1 (by omega)
        have t2 := n0 2 (by omega)
        have HW1 := Aside0.mk (show decide (3 ≤ a0 ∧ a0 ≤ 12) = false from decide_eq_false (by omega))
        have HW2 := Aside0.mk (show decide (13 ≤ a0 ∧ a0 ≤ 15) = true from decide_eq_true (by omega))
        have E0 : x0 = wd l0 a3 := by rw [← hx0, ← HL.out]; simp [av, partsL, show ¬ (a0 = 2 ∨ a0 = 17 ∨ a0 = 19 ∨ a0 = 20) by omega, show 3 ≤ a0 ∧ a0 ≤ 16 by omega]
        have E1 : x1 = wd l0 a4 := by rw [← hx1, ← HL.out]; simp [av, partsL, show ¬ (a0 = 2 ∨ a0 = 17 ∨ a0 = 19 ∨ a0 = 20) by omega, show 3 ≤ a0 ∧ a0 ≤ 16 by omega]
        have HR0 := Aside0.mk (show restB l0 a0 a1 a2 a3 a4 a5 = decide (x0 = x1 ∧ a1 = 1) by rw [HK.out, E0, E1]; apply decide_eq_decide.2; unfold KindP; rw [if_neg (by omega), if_neg (by omega), if_neg (by omega), if_neg (by omega), if_pos h])
        clear h n0 hx0 hx1 hx2 E0 E1
        by_cases y0 : x0 = x1
        · have z0 : (x0 == x1) = true := by simp [y0]
          by_cases y1 : a1 = 1
          · have z1 : (a1 == 1) = true := by simp [y1]
            have HR1 := Aside0.mk (show restB l0 a0 a1 a2 a3 a4 a5 = true by rw [HR0.out]; exact decide_eq_true ⟨y0, y1⟩)
            clear y0 y1
            go_wp2_with (first | (go_at_call 100; (with_reducible refine (withinB a0 3 12 false HW1.out _).mono ?_); rintro e w' ⟨rfl, ⟨nd, rfl⟩⟩) | (go_at_call 100; (with_reducible refine (withinB a0 13 15 true HW2.out _).mono ?_); rintro e w' ⟨rfl, ⟨nd, rfl⟩⟩))
            go_ret
            exact ⟨ret_bool HR1.out.symm, by first | exact HBc.out | exact pw_below_drewN HBc.out _ | exact pw_below_drewN (pw_below_drewN HBc.out _) _⟩
          · have z1 : (a1 == 1) = false := by simp [y1]
            have HR1 := Aside0.mk (show restB l0 a0 a1 a2 a3 a4 a5 = false by rw [HR0.out]; exact decide_eq_false (fun h => y1 (h.2)))
            clear y0 y1
            go_wp2_with (first | (go_at_call 100; (with_reducible refine (withinB a0 3 12 false HW1.out _).mono ?_); rintro e w' ⟨rfl, ⟨nd, rfl⟩⟩) | (go_at_call 100; (with_reducible refine (withinB a0 13 15 true HW2.out _).mono ?_); rintro e w' ⟨rfl, ⟨nd, rfl⟩⟩))
            go_ret
            exact ⟨ret_bool HR1.out.symm, by first | exact HBc.out | exact pw_below_drewN HBc.out _ | exact pw_below_drewN (pw_below_drewN HBc.out _) _⟩
        · have z0 : (x0 == x1) = false := by simp [y0]
          have HR1 := Aside0.mk (show restB l0 a0 a1 a2 a3 a4 a5 = false by rw [HR0.out]; exact decide_eq_false (fun h => y0 (h.1)))
          clear y0
          go_wp2_with (first | (go_at_call 100; (with_reducible refine (withinB a0 3 12 false HW1.out _).mono ?_); rintro e w' ⟨rfl, ⟨nd, rfl⟩⟩) | (go_at_call 100; (with_reducible refine (withinB a0 13 15 true HW2.out _).mono ?_); rintro e w' ⟨rfl, ⟨nd, rfl⟩⟩))
          go_ret
          exact ⟨ret_bool HR1.out.symm, by first | exact HBc.out | exact pw_below_drewN HBc.out _ | exact pw_below_drewN (pw_below_drewN HBc.out _) _⟩
      · have t0 := n0 0 (by omega)
        have t1 := n0 1 (by omega)
        have t2 := n0 2 (by omega)
        have t16 : (a0 == 16) = true := by simp [h]
        have HW1 := Aside0.mk (show decide (3 ≤ a0 ∧ a0 ≤ 12) = false from decide_eq_false (by omega))
        have HW2 := Aside0.mk (show decide (13 ≤ a0 ∧ a0 ≤ 15) = false from decide_eq_false (by omega))
        have E0 : x0 = wd l0 a3 := by rw [← hx0, ← HL.out]; simp [av, partsL, h]
        have E1 : x1 = wd l0 a4 := by rw [← hx1, ← HL.out]; simp [av, partsL, h]
        have HR1 := Aside0.mk (show restB l0 a0 a1 a2 a3 a4 a5 = (wrap64 (x0 + x1) == a1) by rw [HK.out, E0, E1, Bool.eq_iff_iff, beq_iff_eq, decide_eq_true_iff]; unfold KindP; simp [h])
        clear h n0 hx0 hx1 hx2 E0 E1
        go_wp2_with (first | (go_at_call 100; (with_reducible refine (withinB a0 3 12 false HW1.out _).mono ?_); rintro e w' ⟨rfl, ⟨nd, rfl⟩⟩) | (go_at_call 100; (with_reducible refine (withinB a0 13 15 false HW2.out _).mono ?_); rintro e w' ⟨rfl, ⟨nd, rfl⟩⟩))
        go_ret
        exact ⟨ret_bool HR1.out.symm, by first | exact HBc.out | exact pw_below_drewN HBc.out _ | exact pw_below_drewN (pw_below_drewN HBc.out _) _⟩
      · have t0 := n0 0 (by omega)
        have t1 := n0 1 (by omega)
        have t2 := n0 2 (by omega)
        have t16 := n0 16 (by omega)
        have t17 : (a0 == 17) = true := by simp [h]
        have HW1 := Aside0.mk (show decide (3 ≤ a0 ∧ a0 ≤ 12) = false from decide_eq_false (by omega))
        have HW2 := Aside0.mk (show decide (13 ≤ a0 ∧ a0 ≤ 15) = false from decide_eq_false (by omega))
        have E0 : x0 = wd l0 a3 := by rw [← hx0, ← HL.out]; simp [av, partsL, h]
        have HR0 := Aside0.mk (show decide (0 ≤ a2 ∧ a2 ≤ wrap64 (x0 - a1)) = restB l0 a0 a1 a2 a3 a4 a5 by rw [HK.out, E0]; apply decide_eq_decide.2; unfold KindP; simp [h])
        clear h n0 hx0 hx1 hx2 E0
        go_wp2_with (first | (go_at_call 100; (with_reducible refine (withinB a0 3 12 false HW1.out _).mono ?_); rintro e w' ⟨rfl, ⟨nd, rfl⟩⟩) | (go_at_call 100; (with_reducible refine (withinB a0 13 15 false HW2.out _).mono ?_); rintro e w' ⟨rfl, ⟨nd, rfl⟩⟩) | (go_at_call 100; (with_reducible refine (withinB a2 0 (wrap64 (x0 - a1)) _ HR0.out _).mono ?_); rintro e w' ⟨rfl, ⟨nd, rfl⟩⟩))
        go_ret
        exact ⟨rfl, by first | exact HBc.out | exact pw_below_drewN HBc.out _ | exact pw_below_drewN (pw_below_drewN HBc.out _) _⟩
      · have t0 := n0 0 (by omega)
        have t1 := n0 1 (by omega)
        have t2 := n0 2 (by omega)
        have t16 := n0 16 (by omega)
        have t17 := n0 17 (by omega)
        have t18 : (a0 == 18) = true := by simp [h]
        have HW1 := Aside0.mk (show decide (3 ≤ a0 ∧ a0 ≤ 12) = false from decide_eq_false (by omega))
        have HW2 := Aside0.mk (show decide (13 ≤ a0 ∧ a0 ≤ 15) = false from decide_eq_false (by omega))
        have E0 : x0 = wd l0 a3 := by rw [← hx0, ← HL.out]; simp [av, partsL, h]
        have E1 : x1 = wd l0 a4 := by rw [← hx1, ← HL.out]; simp [av, partsL, h]
        have E2 : x2 = wd l0 a5 := by rw [← hx2, ← HL.out]; simp [av, partsL, h]
        have HR0 := Aside0.mk (show restB l0 a0 a1 a2 a3 a4 a5 = decide (x0 = 1 ∧ x1 = a1 ∧ x2 = a1) by rw [HK.out, E0, E1, E2]; apply decide_eq_decide.2; unfold KindP; simp [h])
        clear h n0 hx0 hx1 hx2 E0 E1 E2
        by_cases y0 : x0 = 1
        · have z0 : (x0 == 1) = true := by simp [y0]
          by_cases y1 : x1 = a1
          · have z1 : (x1 == a1) = true := by simp [y1]
            by_cases y2 : x2 = a1
            · have z2 : (x2 == a1) = true := by simp [y2]
              have HR1 := Aside0.mk (show restB l0 a0 a1 a2 a3 a4 a5 = true by rw [HR0.out]; exact decide_eq_true ⟨y0, y1, y2⟩)
              clear y0 y1 y2
              go_wp2_with (first | (go_at_call 100; (with_reducible refine (withinB a0 3 12 false HW1.out _).mono ?_); rintro e w' ⟨rfl, ⟨nd, rfl⟩⟩) | (go_at_call 100; (with_reducible refine (withinB a0 13 15 false HW2.out _).mono ?_); rintro e w' ⟨rfl, ⟨nd, rfl⟩⟩))
              go_ret
              exact ⟨ret_bool HR1.out.symm, by first | exact HBc.out | exact pw_below_drewN HBc.out _ | exact pw_below_drewN (pw_below_drewN HBc.out _) _⟩
            · have z2 : (x2 == a1) = false := by simp [y2]
              have HR1 := Aside0.mk (show restB l0 a0 a1 a2 a3 a4 a5 = false by rw [HR0.out]; exact decide_eq_false (fun h => y2 (h.2.2)))
              clear y0 y1 y2
              go_wp2_with (first | (go_at_call 100; (with_reducible refine (withinB a0 3 12 false HW1.out _).mono ?_); rintro e w' ⟨rfl, ⟨nd, rfl⟩⟩) | (go_at_call 100; (with_reducible refine (withinB a0 13 15 false HW2.out _).mono ?_); rintro e w' ⟨rfl, ⟨nd, rfl⟩⟩))
              go_ret
              exact ⟨ret_bool HR1.out.symm, by first | exact HBc.out | exact pw_below_drewN HBc.out _ | exact pw_below_drewN (pw_below_drewN HBc.out _) _⟩
          · have z1 : (x1 == a1) = false := by simp [y1]
            have HR1 := Aside0.mk (show restB l0 a0 a1 a2 a3 a4 a5 = false by rw [HR0.out]; exact decide_eq_false (fun h => y1 (h.2.1)))
            clear y0 y1
            go_wp2_with (first | (go_at_call 100; (with_reducible refine (withinB a0 3 12 false HW1.out _).mono ?_); rintro e w' ⟨rfl, ⟨nd, rfl⟩⟩) | (go_at_call 100; (with_reducible refine (withinB a0 13 15 false HW2.out _).mono ?_); rintro e w' ⟨rfl, ⟨nd, rfl⟩⟩))
            go_ret
            exact ⟨ret_bool HR1.out.symm, by first | exact HBc.out | exact pw_below_drewN HBc.out _ | exact pw_below_drewN (pw_below_drewN HBc.out _) _⟩
        · have z0 : (x0 == 1) = false := by simp [y0]
          have HR1 := Aside0.mk (show restB l0 a0 a1 a2 a3 a4 a5 = false by rw [HR0.out]; exact decide_eq_false (fun h => y0 (h.1)))
          clear y0
          go_wp2_with (first | (go_at_call 100; (with_reducible refine (withinB a0 3 12 false HW1.out _).mono ?_); rintro e w' ⟨rfl, ⟨nd, rfl⟩⟩) | (go_at_call 100; (with_reducible refine (withinB a0 13 15 false HW2.out _).mono ?_); rintro e w' ⟨rfl, ⟨nd, rfl⟩⟩))
          go_ret
          exact ⟨ret_bool HR1.out.symm, by first | exact HBc.out | exact pw_below_drewN HBc.out _ | exact pw_below_drewN (pw_below_drewN HBc.out _) _⟩
      · have t0 := n0 0 (by omega)
        have t1 := n0 1 (by omega)
        have t2 := n0 2 (by omega)
        have t16 := n0 16 (by omega)
        have t17 := n0 17 (by omega)
        have t18 := n0 18 (by omega)
        have HW1 := Aside0.mk (show decide (3 ≤ a0 ∧ a0 ≤ 12) = false from decide_eq_false (by omega))
        have HW2 := Aside0.mk (show decide (13 ≤ a0 ∧ a0 ≤ 15) = false from decide_eq_false (by omega))
        have E0 : x0 = wd l0 a3 := by rw [← hx0, ← HL.out]; rcases h with h | h <;> simp [av, partsL, h]
        have HR0 := Aside0.mk (show restB l0 a0 a1 a2 a3 a4 a5 = decide ((0 ≤ a2 ∧ a2 ≤ 7) ∧ (1 ≤ a4 ∧ a4 ≤ 8) ∧ x0 = 1 ∧ a1 = 1) by rw [HK.out, E0]; apply decide_eq_decide.2; unfold KindP; rcases h with h | h <;> simp [h])
        clear h n0 hx0 hx1 hx2 E0
        by_cases y0 : 0 ≤ a2 ∧ a2 ≤ 7
        · have Z0 := Aside0.mk (show decide (0 ≤ a2 ∧ a2 ≤ 7) = true from decide_eq_true y0)
          by_cases y1 : 1 ≤ a4 ∧ a4 ≤ 8
          · have Z1 := Aside0.mk (show decide (1 ≤ a4 ∧ a4 ≤ 8) = true from decide_eq_true y1)
            by_cases y2 : x0 = 1
            · have z2 : (x0 == 1) = true := by simp [y2]
              by_cases y3 : a1 = 1
              · have z3 : (a1 == 1) = true := by simp [y3]
                have HR1 := Aside0.mk (show restB l0 a0 a1 a2 a3 a4 a5 = true by rw [HR0.out]; exact decide_eq_true ⟨y0, y1, y2, y3⟩)
                clear y0 y1 y2 y3
                go_wp2_with (first | (go_at_call 100; (with_reducible refine (withinB a0 3 12 false HW1.out _).mono ?_); rintro e w' ⟨rfl, ⟨nd, rfl⟩⟩) | (go_at_call 100; (with_reducible refine (withinB a0 13 15 false HW2.out _).mono ?_); rintro e w' ⟨rfl, ⟨nd, rfl⟩⟩) | (go_at_call 96; (with_reducible refine (isVarB a2 true Z0.out _).mono ?_); rintro e w' ⟨rfl, ⟨nd, rfl⟩⟩) | (go_at_call 226; (with_reducible refine (isWidthB a4 true Z1.out _).mono ?_); rintro e w' ⟨rfl, ⟨nd, rfl⟩⟩))
                go_ret
                exact ⟨ret_bool HR1.out.symm, by first | exact HBc.out | exact pw_below_drewN HBc.out _ | exact pw_below_drewN (pw_below_drewN HBc.out _) _⟩
              · have z3 : (a1 == 1) = false := by simp [y3]
                have HR1 := Aside0.mk (show restB l0 a0 a1 a2 a3 a4 a5 = false by rw [HR0.out]; exact decide_eq_false (fun h => y3 (h.2.2.2)))
                clear y0 y1 y2 y3
                go_wp2_with (first | (go_at_call 100; (with_reducible refine (withinB a0 3 12 false HW1.out _).mono ?_); rintro e w' ⟨rfl, ⟨nd, rfl⟩⟩) | (go_at_call 100; (with_reducible refine (withinB a0 13 15 false HW2.out _).mono ?_); rintro e w' ⟨rfl, ⟨nd, rfl⟩⟩) | (go_at_call 96; (with_reducible refine (isVarB a2 true Z0.out _).mono ?_); rintro e w' ⟨rfl, ⟨nd, rfl⟩⟩) | (go_at_call 226; (with_reducible refine (isWidthB a4 true Z1.out _).mono ?_); rintro e w' ⟨rfl, ⟨nd, rfl⟩⟩))
                go_ret
                exact ⟨ret_bool HR1.out.symm, by first | exact HBc.out | exact pw_below_drewN HBc.out _ | exact pw_below_drewN (pw_below_drewN HBc.out _) _⟩
            · have z2 : (x0 == 1) = false := by simp [y2]
              have HR1 := Aside0.mk (show restB l0 a0 a1 a2 a3 a4 a5 = false by rw [HR0.out]; exact decide_eq_false (fun h => y2 (h.2.2.1)))
              clear y0 y1 y2
              go_wp2_with (first | (go_at_call 100; (with_reducible refine (withinB a0 3 12 false HW1.out _).mono ?_); rintro e w' ⟨rfl, ⟨nd, rfl⟩⟩) | (go_at_call 100; (with_reducible refine (withinB a0 13 15 false HW2.out _).mono ?_); rintro e w' ⟨rfl, ⟨nd, rfl⟩⟩) | (go_at_call 96; (with_reducible refine (isVarB a2 true Z0.out _).mono ?_); rintro e w' ⟨rfl, ⟨nd, rfl⟩⟩) | (go_at_call 226; (with_reducible refine (isWidthB a4 true Z1.out _).mono ?_); rintro e w' ⟨rfl, ⟨nd, rfl⟩⟩))
              go_ret
              exact ⟨ret_bool HR1.out.symm, by first | exact HBc.out | exact pw_below_drewN HBc.out _ | exact pw_below_drewN (pw_below_drewN HBc.out _) _⟩
          · have Z1 := Aside0.mk (show decide (1 ≤ a4 ∧ a4 ≤ 8) = false from decide_eq_false y1)
            have HR1 := Aside0.mk (show restB l0 a0 a1 a2 a3 a4 a5 = false by rw [HR0.out]; exact decide_eq_false (fun h => y1 (h.2.1)))
            clear y0 y1
            go_wp2_with (first | (go_at_call 100; (with_reducible refine (withinB a0 3 12 false HW1.out _).mono ?_); rintro e w' ⟨rfl, ⟨nd, rfl⟩⟩) | (go_at_call 100; (with_reducible refine (withinB a0 13 15 false HW2.out _).mono ?_); rintro e w' ⟨rfl, ⟨nd, rfl⟩⟩) | (go_at_call 96; (with_reducible refine (isVarB a2 true Z0.out _).mono ?_); rintro e w' ⟨rfl, ⟨nd, rfl⟩⟩) | (go_at_call 226; (with_reducible refine (isWidthB a4 false Z1.out _).mono ?_); rintro e w' ⟨rfl, ⟨nd, rfl⟩⟩))
            go_ret
            exact ⟨ret_bool HR1.out.symm, by first | exact HBc.out | exact pw_below_drewN HBc.out _ | exact pw_below_drewN (pw_below_drewN HBc.out _) _⟩
        · have Z0 := Aside0.mk (show decide (0 ≤ a2 ∧ a2 ≤ 7) = false from decide_eq_false y0)
          have HR1 := Aside0.mk (show restB l0 a0 a1 a2 a3 a4 a5 = false by rw [HR0.out]; exact decide_eq_false (fun h => y0 (h.1)))
          clear y0
          go_wp2_with (first | (go_at_call 100; (with_reducible refine (withinB a0 3 12 false HW1.out _).mono ?_); rintro e w' ⟨rfl, ⟨nd, rfl⟩⟩) | (go_at_call 100; (with_reducible refine (withinB a0 13 15 false HW2.out _).mono ?_); rintro e w' ⟨rfl, ⟨nd, rfl⟩⟩) | (go_at_call 96; (with_reducible refine (isVarB a2 false Z0.out _).mono ?_); rintro e w' ⟨rfl, ⟨nd, rfl⟩⟩))
          go_ret
          exact ⟨ret_bool HR1.out.symm, by first | exact HBc.out | exact pw_below_drewN HBc.out _ | exact pw_below_drewN (pw_below_drewN HBc.out _) _⟩
theorem RightP_split (l0 : List Nd) (a0 a1 a2 a3 a4 a5 : Int) : decide (RightP l0 ⟨a0, a1, a2, a3, a4, a5⟩) = (decide (1 ≤ a1 ∧ a1 ≤ 8) && (decide (0 ≤ a0 ∧ a0 ≤ 20) && (decide (UsesP a0 a2 a3 a4 a5) && restB l0 a0 a1 a2 a3 a4 a5))) := by
  rw [Bool.eq_iff_iff]
  unfold restB RightP parts
  simp only [Bool.and_eq_true, decide_eq_true_eq]
  exact decide_eq_true_iff
set_option maxHeartbeats 1000000 in
set_option maxRecDepth 100000 in
/-- What isRight tells. -/
theorem isRight (A0 : Option Addr) (c0 : Nat) (l0 : List Nd) (a0 a1 a2 a3 a4 a5 : Int) (w : World) (hr0 : Kd.C k99 w A0 l0.length l0) (hc0 : l0.length ≤ c0) :
    Calls Try.prog 165 #[.slice A0 l0.length c0, .agg #[.int .i64 a0, .int .i64 a1, .int .i64 a2, .int .i64 a3, .int .i64 a4, .int .i64 a5]] w fun e w' =>
      e = .returned (.bool (decide (RightP l0 ⟨a0, a1, a2, a3, a4, a5⟩))) ∧ Below w.heap.size w w' := by
  have HS := Aside0.mk (RightP_split l0 a0 a1 a2 a3 a4 a5)
  generalize decide (RightP l0 ⟨a0, a1, a2, a3, a4, a5⟩) = R at HS
  by_cases hW : 1 ≤ a1 ∧ a1 ≤ 8
  · have HW := Aside0.mk (decide_eq_true hW)
    by_cases hO : 0 ≤ a0 ∧ a0 ≤ 20
    · have HO := Aside0.mk (decide_eq_true hO)
      by_cases hU : UsesP a0 a2 a3 a4 a5
      · have HU := Aside0.mk (decide_eq_true hU)
        have e : R = restB l0 a0 a1 a2 a3 a4 a5 := by rw [HS.out, HW.out, HO.out, HU.out]; simp
        rw [e]
        exact isRight_run A0 c0 l0 a0 a1 a2 a3 a4 a5 w hr0 hc0 HW.out HO.out HU.out
      · have HU := Aside0.mk (decide_eq_false hU)
        have HR1 := Aside0.mk (show R = false by rw [HS.out, HU.out]; simp)
        clear hW hO hU hr0
        go_enter Try.func165, Try.ntmps165
        go_wp2_with (first | (go_at_call 226; refine (isWidthB a1 true HW.out _).mono ?_; rintro e w' ⟨rfl, ⟨nd, rfl⟩⟩) | (go_at_call 100; refine (withinB a0 0 20 true HO.out _).mono ?_; rintro e w' ⟨rfl, ⟨nd, rfl⟩⟩) | (go_at_call 227; refine (usesOnly a0 a1 a2 a3 a4 a5 false HU.out _).mono ?_; rintro e w1 ⟨rfl, hb⟩))
        go_ret
        exact ⟨ret_bool HR1.out.symm, below_then (pw_below_drewN (below_alloc (Below.refl w.heap.size w) _) _) (by simp) hb⟩
    · have HO := Aside0.mk (decide_eq_false hO)
      have HR1 := Aside0.mk (show R = false by rw [HS.out, HO.out]; simp)
      clear hW hO hr0
      go_enter Try.func165, Try.ntmps165
      go_wp2_with (first | (go_at_call 226; refine (isWidthB a1 true HW.out _).mono ?_; rintro e w' ⟨rfl, ⟨nd, rfl⟩⟩) | (go_at_call 100; refine (withinB a0 0 20 false HO.out _).mono ?_; rintro e w' ⟨rfl, ⟨nd, rfl⟩⟩))
      go_ret
      exact ⟨ret_bool HR1.out.symm, pw_below_drewN (below_alloc (Below.refl w.heap.size w) _) _⟩
  · have HW := Aside0.mk (decide_eq_false hW)
    have HR1 := Aside0.mk (show R = false by rw [HS.out, HW.out]; simp)
    clear hW hr0
    go_enter Try.func165, Try.ntmps165
    go_wp2_with (first | (go_at_call 226; refine (isWidthB a1 false HW.out _).mono ?_; rintro e w' ⟨rfl, ⟨nd, rfl⟩⟩))
    go_ret
    exact ⟨ret_bool HR1.out.symm, pw_below_drewN (below_alloc (Below.refl w.heap.size w) _) _⟩
end Go.Proofs.Ytlgjogfcpgfbnaa.KS
