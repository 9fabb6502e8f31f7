/- Contracts of functions of the program, of the reference and of laws: each Go function answers what the Lean function of its name answers. Conditions: those that a theorem names. -/
import Derived.Test.YtlgjogfcpgfbnaaKS3
namespace Go.Proofs.Ytlgjogfcpgfbnaa.K
open Go.RowKit Go.Proofs.YtlgjogfcpgfbnaaW.PrintWords Go.Proofs.YtlgjogfcpgfbnaaW.PrintLast Go.Proofs.YtlgjogfcpgfbnaaW.PrintMore Go.Proofs.Ytlgjogfcpgfbnaa.KM
attribute [local go_sem] max2_int min2_int max_two min_two max_three min_three max_four min_four
set_option linter.unusedVariables false
set_option linter.unusedSimpArgs false
attribute [local go_sem high] eqA23 eqA99

/-! ### spec_l15Named: function 170 -/
def spec_l15Named.f (a0_0 : Int) (a0_1 : Int) (a0_2 : Int) (a0_3 : Int) (a0_4 : Int) (a0_5 : Int) : Option (Bool) := if a0_0 = 1 then (some true) else ((spec_l02Quant.f a0_0).bind fun t371 => (some t371))
set_option maxHeartbeats 8000000 in
set_option maxRecDepth 100000 in
theorem spec_l15Named.calls (a0_0 : Int) (a0_1 : Int) (a0_2 : Int) (a0_3 : Int) (a0_4 : Int) (a0_5 : Int) (r : Bool) (w : World) (h : spec_l15Named.f a0_0 a0_1 a0_2 a0_3 a0_4 a0_5 = some r) :
    Calls Try.prog 170 #[.agg #[.int .i64 a0_0, .int .i64 a0_1, .int .i64 a0_2, .int .i64 a0_3, .int .i64 a0_4, .int .i64 a0_5]] w fun e w' => e = .returned (.bool r) ∧ Below w.heap.size w w' := by
  have hu99 := Try.underlying99
  have HB := Aside0.mk (Below.refl w.heap.size w)
  have H : (if a0_0 = 1 then (some true) else ((spec_l02Quant.f a0_0).bind fun t371 => (some t371))) = some r := h
  clear h
  by_cases c2 : a0_0 = 1
  · rw [if_pos c2] at H
    have c2b0 : (a0_0 == 1) = true := beq_iff_eq.mpr c2
    have c2b1 : (a0_0 != 1) = false := bne_eq_false_iff_eq.mpr c2
    clear c2
    obtain rfl := Option.some.inj H
    go_enter Try.func170, Try.ntmps170
    go_wp2_with (first | ((with_reducible refine gate_dst (N := 1) rfl ?_); refine box_event ?hg (N := 1) ?hd (cs := #[.int .i64 a0_0, .int .i64 a0_1, .int .i64 a0_2, .int .i64 a0_3, .int .i64 a0_4, .int .i64 a0_5]) (t := 99) ?hr ?_; (case hd => rfl); (case hg => rfl); (case hr => first | (go_simp; done) | (go_simp; rfl)); intro gb370 hg w3 hbox hb; have n0_ := Aside0.mk (below_step (by repeat (first | (with_reducible first | exact HB.out | apply below_alloc | apply pw_below_drewN | apply below_drew1) | exact HB.out)) hb); have n1_ := Aside0.mk (hbox); have n2_ := Aside0.mk ((by rw [hg]; exact (below_size (by repeat (first | (with_reducible first | exact HB.out | apply below_alloc | apply pw_below_drewN | apply below_drew1) | exact HB.out))) : w.heap.size ≤ gb370)); have n3_ := Aside0.mk ((by rw [hg]; exact (below_size (by repeat (first | (with_reducible first | exact HB.out | apply below_alloc | apply pw_below_drewN | apply below_drew1) | exact HB.out))) : w.heap.size ≤ gb370)); clear HB; have HB := n0_; have BK370 := n1_; have GW370 := n2_; have GE370 := n3_; clear n0_ n1_ n2_ n3_; clear hb hbox hg; have hcz4_0 : w3.cell? ⟨gb370, 0, none⟩ = some (.int .i64 a0_0) := (blk_cell BK370.out 0).trans rfl; have hcz4_1 : w3.cell? ⟨gb370, 1, none⟩ = some (.int .i64 a0_1) := (blk_cell BK370.out 1).trans rfl; have hcz4_2 : w3.cell? ⟨gb370, 2, none⟩ = some (.int .i64 a0_2) := (blk_cell BK370.out 2).trans rfl; have hcz4_3 : w3.cell? ⟨gb370, 3, none⟩ = some (.int .i64 a0_3) := (blk_cell BK370.out 3).trans rfl; have hcz4_4 : w3.cell? ⟨gb370, 4, none⟩ = some (.int .i64 a0_4) := (blk_cell BK370.out 4).trans rfl; have hcz4_5 : w3.cell? ⟨gb370, 5, none⟩ = some (.int .i64 a0_5) := (blk_cell BK370.out 5).trans rfl; have hfz4_0 := blk_frozen BK370.out 0; have hfz4_1 := blk_frozen BK370.out 1; have hfz4_2 := blk_frozen BK370.out 2; have hfz4_3 := blk_frozen BK370.out 3; have hfz4_4 := blk_frozen BK370.out 4; have hfz4_5 := blk_frozen BK370.out 5))
    go_ret
    exact ⟨by first | rfl | (simp [errW_none, errW_some] <;> rfl) | (simp [*, errW_none, errW_some] <;> rfl), by repeat (first | (with_reducible first | exact HB.out | apply below_alloc | apply pw_below_drewN | apply below_drew1 | refine below_set ?_ GE370.out) | exact HB.out)⟩
  · rw [if_neg c2] at H
    have c2b0 : (a0_0 == 1) = false := beq_eq_false_iff_ne.mpr c2
    have c2b1 : (a0_0 != 1) = true := bne_iff_ne.mpr c2
    replace H := Option.bind_eq_some_iff.mp H
    obtain ⟨t371, A50, H⟩ := H
    replace H : (some t371) = some r := H
    have A5 := Aside0.mk A50
    clear A50
    obtain rfl := Option.some.inj H
    go_enter Try.func170, Try.ntmps170
    go_wp2_with (first | ((with_reducible refine gate_dst (N := 1) rfl ?_); refine box_event ?hg (N := 1) ?hd (cs := #[.int .i64 a0_0, .int .i64 a0_1, .int .i64 a0_2, .int .i64 a0_3, .int .i64 a0_4, .int .i64 a0_5]) (t := 99) ?hr ?_; (case hd => rfl); (case hg => rfl); (case hr => first | (go_simp; done) | (go_simp; rfl)); intro gb370 hg w6 hbox hb; have n0_ := Aside0.mk (below_step (by repeat (first | (with_reducible first | exact HB.out | apply below_alloc | apply pw_below_drewN | apply below_drew1) | exact HB.out)) hb); have n1_ := Aside0.mk (hbox); have n2_ := Aside0.mk ((by rw [hg]; exact (below_size (by repeat (first | (with_reducible first | exact HB.out | apply below_alloc | apply pw_below_drewN | apply below_drew1) | exact HB.out))) : w.heap.size ≤ gb370)); have n3_ := Aside0.mk ((by rw [hg]; exact (below_size (by repeat (first | (with_reducible first | exact HB.out | apply below_alloc | apply pw_below_drewN | apply below_drew1) | exact HB.out))) : w.heap.size ≤ gb370)); clear HB; have HB := n0_; have BK370 := n1_; have GW370 := n2_; have GE370 := n3_; clear n0_ n1_ n2_ n3_; clear hb hbox hg; have hcz7_0 : w6.cell? ⟨gb370, 0, none⟩ = some (.int .i64 a0_0) := (blk_cell BK370.out 0).trans rfl; have hcz7_1 : w6.cell? ⟨gb370, 1, none⟩ = some (.int .i64 a0_1) := (blk_cell BK370.out 1).trans rfl; have hcz7_2 : w6.cell? ⟨gb370, 2, none⟩ = some (.int .i64 a0_2) := (blk_cell BK370.out 2).trans rfl; have hcz7_3 : w6.cell? ⟨gb370, 3, none⟩ = some (.int .i64 a0_3) := (blk_cell BK370.out 3).trans rfl; have hcz7_4 : w6.cell? ⟨gb370, 4, none⟩ = some (.int .i64 a0_4) := (blk_cell BK370.out 4).trans rfl; have hcz7_5 : w6.cell? ⟨gb370, 5, none⟩ = some (.int .i64 a0_5) := (blk_cell BK370.out 5).trans rfl; have hfz7_0 := blk_frozen BK370.out 0; have hfz7_1 := blk_frozen BK370.out 1; have hfz7_2 := blk_frozen BK370.out 2; have hfz7_3 := blk_frozen BK370.out 3; have hfz7_4 := blk_frozen BK370.out 4; have hfz7_5 := blk_frozen BK370.out 5) | (go_at_call 140; (with_reducible refine (spec_l02Quant.calls a0_0 t371 _ A5.out).mono ?_); rintro e w' ⟨rfl, ⟨nd, rfl⟩⟩))
    go_ret
    exact ⟨by first | rfl | (simp [errW_none, errW_some] <;> rfl) | (simp [*, errW_none, errW_some] <;> rfl), by repeat (first | (with_reducible first | exact HB.out | apply below_alloc | apply pw_below_drewN | apply below_drew1 | refine below_set ?_ GE370.out) | exact HB.out)⟩

/-! ### spec_l15Nums: function 94 -/
mutual
def spec_l15Nums.l0 : Nat → List (S99) → List Bool → Int → Option (List Bool)
  | 0, _, _, _ => none
  | k + 1, x0, x3, x4 => if x4 < 8 then (spec_l15Nums.l1 k x0 x3 x4 false 0) else (some x3)
def spec_l15Nums.l1 : Nat → List (S99) → List Bool → Int → Bool → Int → Option (List Bool)
  | 0, _, _, _, _, _ => none
  | k + 1, x0, x3, x4, x5, x6 => if x6 < (x0.length : Int) then (if x5 = true then (spec_l15Nums.l1 k x0 x3 x4 true (wrap64 (x6 + 1))) else (if 0 ≤ x6 then ((spec_l15Named.f ((rd_T99 x0 x6).f0) ((rd_T99 x0 x6).f1) ((rd_T99 x0 x6).f2) ((rd_T99 x0 x6).f3) ((rd_T99 x0 x6).f4) ((rd_T99 x0 x6).f5)).bind fun t376 => (if t376 = true then (spec_l15Nums.l1 k x0 x3 x4 (((rd_T99 x0 x6).f2) == x4) (wrap64 (x6 + 1))) else (spec_l15Nums.l1 k x0 x3 x4 false (wrap64 (x6 + 1))))) else (none))) else (if x3.length < 140737488355328 then (spec_l15Nums.l0 k x0 (x3 ++ [x5]) (wrap64 (x4 + 1))) else (none))
end
def spec_l15Nums.f (k : Nat) (l0 : List (S99)) : Option (List Bool) := spec_l15Nums.l0 k l0 (([] : List Bool)) 0
theorem spec_l15Nums.mono_l : ∀ k, (∀ y0 y1 y2, LeO (spec_l15Nums.l0 k y0 y1 y2) (spec_l15Nums.l0 (k + 1) y0 y1 y2)) ∧ (∀ y0 y1 y2 y3 y4, LeO (spec_l15Nums.l1 k y0 y1 y2 y3 y4) (spec_l15Nums.l1 (k + 1) y0 y1 y2 y3 y4))
  | 0 => ⟨fun _ _ _ r h => by simp [spec_l15Nums.l0] at h, fun _ _ _ _ _ r h => by simp [spec_l15Nums.l1] at h⟩
  | k + 1 => by
    obtain ⟨ih0, ih1⟩ := spec_l15Nums.mono_l k
    refine ⟨?_, ?_⟩
    · intro y0 y1 y2
      unfold spec_l15Nums.l0
      repeat' first
      | (with_reducible exact ih0 _ _ _)
      | (with_reducible exact ih1 _ _ _ _ _)
      | (with_reducible exact LeO.refl _)
      | (with_reducible exact LeO.none _)
      | (with_reducible refine LeO.ite ?_ ?_)
      | (with_reducible refine LeO.bind ?_ (fun _ => ?_))
      | exact ih0 _ _ _
      | exact ih1 _ _ _ _ _
      | exact LeO.none _
      | refine LeO.ite ?_ ?_
      | refine LeO.bind ?_ (fun _ => ?_)
    · intro y0 y1 y2 y3 y4
      unfold spec_l15Nums.l1
      repeat' first
      | (with_reducible exact ih0 _ _ _)
      | (with_reducible exact ih1 _ _ _ _ _)
      | (with_reducible exact LeO.refl _)
      | (with_reducible exact LeO.none _)
      | (with_reducible refine LeO.ite ?_ ?_)
      | (with_reducible refine LeO.bind ?_ (fun _ => ?_))
      | exact ih0 _ _ _
      | exact ih1 _ _ _ _ _
      | exact LeO.none _
      | refine LeO.ite ?_ ?_
      | refine LeO.bind ?_ (fun _ => ?_)
theorem spec_l15Nums.mono : ∀ a0 k, LeO (spec_l15Nums.f k a0) (spec_l15Nums.f (k + 1) a0) := by
  intro a0 k
  obtain ⟨ih0, ih1⟩ := spec_l15Nums.mono_l k
  unfold spec_l15Nums.f
  repeat' first
      | (with_reducible exact ih0 _ _ _)
      | (with_reducible exact ih1 _ _ _ _ _)
      | (with_reducible exact LeO.refl _)
      | (with_reducible exact LeO.none _)
      | (with_reducible refine LeO.ite ?_ ?_)
      | (with_reducible refine LeO.bind ?_ (fun _ => ?_))
      | exact ih0 _ _ _
      | exact ih1 _ _ _ _ _
      | exact LeO.none _
      | refine LeO.ite ?_ ?_
      | refine LeO.bind ?_ (fun _ => ?_)
set_option maxHeartbeats 8000000 in
set_option maxRecDepth 100000 in
theorem spec_l15Nums.calls (k : Nat) (A0 : Option Addr) (c0 : Nat) (l0 : List (S99)) (r : List Bool) (w : World) (hr0 : Kd.C k99 w A0 l0.length l0) (hc0 : l0.length ≤ c0) (h : spec_l15Nums.f k l0 = some r) :
    Calls Try.prog 94 #[.slice A0 l0.length c0] w fun e w' => ∃ v0_ : Value, e = .returned (v0_) ∧ Kd.R Kd.bool 4 w' w.heap.size (fun _ => True) v0_ r ∧ Below w.heap.size w w' := by
  have hu99 := Try.underlying99
  have HR0 := Aside0.mk hr0
  have HC0 := Aside0.mk hc0
  clear hr0 hc0
  have HB := Aside0.mk (Below.refl w.heap.size w)
  have H : (spec_l15Nums.l0 k l0 (([] : List Bool)) 0) = some r := h
  clear h
  obtain ⟨y372, hy372⟩ : ∃ y_ : List Bool, y_ = (([] : List Bool)) := ⟨_, rfl⟩
  replace H : (spec_l15Nums.l0 k l0 y372 0) = some r := by first | (rw [hy372]; with_reducible exact H) | (have H2_ := (Option.bind_some _ _).symm.trans H; rw [hy372]; with_reducible exact H2_) | (have H2_ := (Option.bind_some _ _).symm.trans H; with_reducible exact H2_) | with_reducible exact H | (rw [hy372]; exact H) | exact H
  have Ny372 := Aside0.mk hy372
  clear hy372
  have H' := Aside0.mk H
  clear H
  go_enter Try.func94, Try.ntmps94
  go_wp2_with (first | ((with_reducible refine gate_dst (N := 7) rfl ?_); refine Kd.R_lit Kd.bool _ 4 ?hg (N := 7) ?hd (xs := ([] : List Bool)) (inner := []) (ok := fun _ => True) (okp := fun _ => True) ?hr ?hp (fun _ hk => hk) trivial (Below.refl _ _) (Nat.le_refl _) (by simp) ?_; (case hd => rfl); (case hg => rfl); (case hr => first | (go_simp; done) | (go_simp; rfl)); (case hp => exact (Reps.none _ _)); intro v373 w2 ho3 hb hg_ hnew_; clear hg_ hnew_; (first | rw [← Ny372.out] at ho3 | (simp only [Int.reduceToNat] at ho3; rw [← Ny372.out] at ho3)); have n0_ := Aside0.mk (Kd.R_lower ho3 (below_size (by repeat (first | (with_reducible first | exact HB.out | apply below_alloc | apply pw_below_drewN | apply below_drew1) | exact HB.out)))); have n1_ := Aside0.mk (below_step (by repeat (first | (with_reducible first | exact HB.out | apply below_alloc | apply pw_below_drewN | apply below_drew1) | exact HB.out)) hb); clear HB; have HO374 := n0_; have HB := n1_; clear n0_ n1_; clear hb ho3))
  go_loopg [3, 4] k (fun kq v3 v4 w' => ∃ (x3_1 : List Bool) (x4_1 : Int), v4 = .int .i64 x4_1 ∧ Aside0 (spec_l15Nums.l0 kq l0 x3_1 x4_1 = some r) ∧ Aside0 (kq ≤ k) ∧ Aside0 (Kd.R Kd.bool 4 w' w.heap.size (fun _ => True) v3 x3_1) ∧ Aside0 (Below w.heap.size w w'))
  case atStart => exact ⟨(y372), (0), (by first | rfl | (simp; done) | (simp [*]; done)), H', ⟨Nat.le_refl _⟩, ⟨by (with_reducible repeat (first | apply Kd.R_alloc | apply Kd.R_drewN | apply Kd.R_drew)); exact HO374.out⟩, ⟨by repeat (first | (with_reducible first | exact HB.out | apply below_alloc | apply pw_below_drewN | apply below_drew1) | exact HB.out)⟩⟩
  case round =>
    clear H'
    try clear p2
    obtain ⟨x3_1, x4_1, rfl, HA, HK1, HO_3, HB⟩ := hrel
    cases gk with
    | zero => exact absurd HA.out (by simp [spec_l15Nums.l0])
    | succ k1 =>
      have H := HA.out
      clear HA
      simp only [spec_l15Nums.l0] at H
      by_cases c4 : x4_1 < 8
      · rw [if_pos c4] at H
        have c4b0 : decide (x4_1 < 8) = true := decide_eq_true c4
        clear c4
        have H' := Aside0.mk H
        clear H
        go_wp2
        go_loopg [5, 6] k1 (fun kq v5 v6 w' => ∃ (x5_2 : Bool) (x6_2 : Int), v5 = .bool x5_2 ∧ v6 = .int .i64 x6_2 ∧ Aside0 (spec_l15Nums.l1 kq l0 x3_1 x4_1 x5_2 x6_2 = some r) ∧ Aside0 (kq ≤ k1) ∧ Aside0 (Kd.R Kd.bool 4 w' w.heap.size (fun _ => True) u3 x3_1) ∧ Aside0 (Below w.heap.size w w'))
        case atStart => exact ⟨(false), (0), (by first | rfl | (simp; done) | (simp [*]; done)), (by first | rfl | (simp; done) | (simp [*]; done)), H', ⟨Nat.le_refl _⟩, ⟨by (with_reducible repeat (first | apply Kd.R_alloc | apply Kd.R_drewN | apply Kd.R_drew)); exact HO_3.out⟩, ⟨by repeat (first | (with_reducible first | exact HB.out | apply below_alloc | apply pw_below_drewN | apply below_drew1) | exact HB.out)⟩⟩
        case round =>
          clear H'
          try clear p2
          try clear c4
          try clear c4b0
          try clear p2
          obtain ⟨x5_2, x6_2, rfl, rfl, HA, HK2, HO_3, HB⟩ := hrel
          cases gk with
          | zero => exact absurd HA.out (by simp [spec_l15Nums.l1])
          | succ k2 =>
            have H := HA.out
            clear HA
            simp only [spec_l15Nums.l1] at H
            by_cases c5 : x6_2 < (l0.length : Int)
            · rw [if_pos c5] at H
              have c5b0 : decide (x6_2 < (l0.length : Int)) = true := decide_eq_true c5
              clear c5
              by_cases c6 : x5_2 = true
              · subst c6
                have H1 : (spec_l15Nums.l1 k2 l0 x3_1 x4_1 true (wrap64 (x6_2 + 1))) = some r := by rw [if_pos rfl] at H; exact H
                clear H
                have H := H1
                clear H1
                have H' := Aside0.mk H
                clear H
                go_wp2
                go_roundg k2
                case measure => have := HK1.out; have := HK2.out; omega
                case rel => exact ⟨(true), (wrap64 (x6_2 + 1)), (by first | rfl | (simp; done) | (simp [*]; done)), (by first | rfl | (simp; done) | (simp [*]; done)), H', ⟨by have := HK1.out; have := HK2.out; omega⟩, ⟨by (with_reducible repeat (first | apply Kd.R_alloc | apply Kd.R_drewN | apply Kd.R_drew)); exact HO_3.out⟩, ⟨by repeat (first | (with_reducible first | exact HB.out | apply below_alloc | apply pw_below_drewN | apply below_drew1) | exact HB.out)⟩⟩
              · replace c6 := Bool.eq_false_iff.mpr c6
                subst c6
                have H1 : (if 0 ≤ x6_2 then ((spec_l15Named.f ((rd_T99 l0 x6_2).f0) ((rd_T99 l0 x6_2).f1) ((rd_T99 l0 x6_2).f2) ((rd_T99 l0 x6_2).f3) ((rd_T99 l0 x6_2).f4) ((rd_T99 l0 x6_2).f5)).bind fun t376 => (if t376 = true then (spec_l15Nums.l1 k2 l0 x3_1 x4_1 (((rd_T99 l0 x6_2).f2) == x4_1) (wrap64 (x6_2 + 1))) else (spec_l15Nums.l1 k2 l0 x3_1 x4_1 false (wrap64 (x6_2 + 1))))) else (none)) = some r := by rw [if_neg (show ¬ (false = true) by decide)] at H; exact H
                clear H
                have H := H1
                clear H1
                by_cases c7 : 0 ≤ x6_2
                · rw [if_pos c7] at H
                  have c7b0 : decide (0 ≤ x6_2) = true := decide_eq_true c7
                  clear c7
                  replace H := Option.bind_eq_some_iff.mp H
                  obtain ⟨t376, A80, H⟩ := H
                  replace H : (if t376 = true then (spec_l15Nums.l1 k2 l0 x3_1 x4_1 (((rd_T99 l0 x6_2).f2) == x4_1) (wrap64 (x6_2 + 1))) else (spec_l15Nums.l1 k2 l0 x3_1 x4_1 false (wrap64 (x6_2 + 1)))) = some r := H
                  have A8 := Aside0.mk A80
                  clear A80
                  by_cases c9 : t376 = true
                  · subst c9
                    have H1 : (spec_l15Nums.l1 k2 l0 x3_1 x4_1 (((rd_T99 l0 x6_2).f2) == x4_1) (wrap64 (x6_2 + 1))) = some r := by rw [if_pos rfl] at H; exact H
                    clear H
                    have H := H1
                    clear H1
                    have H' := Aside0.mk H
                    clear H
                    have p375 : 0 ≤ (x6_2 : Int) := of_decide_eq_true (by first | (with_reducible assumption) | assumption)
                    have q375 : x6_2 < (l0.length : Int) := of_decide_eq_true (by first | (with_reducible assumption) | assumption)
                    obtain ⟨ad375, e375, hx375_0, hx375_1, hx375_2, hx375_3, hx375_4, hx375_5⟩ := at_T99 HR0.out x6_2 p375 q375
                    cases e375
                    replace hx375_0 := (HB.out.cell (World.block_lt_of_cell? w _ hx375_0)).trans hx375_0
                    replace hx375_1 := (HB.out.cell (World.block_lt_of_cell? w _ hx375_1)).trans hx375_1
                    replace hx375_2 := (HB.out.cell (World.block_lt_of_cell? w _ hx375_2)).trans hx375_2
                    replace hx375_3 := (HB.out.cell (World.block_lt_of_cell? w _ hx375_3)).trans hx375_3
                    replace hx375_4 := (HB.out.cell (World.block_lt_of_cell? w _ hx375_4)).trans hx375_4
                    replace hx375_5 := (HB.out.cell (World.block_lt_of_cell? w _ hx375_5)).trans hx375_5
                    replace p375 := eq_true p375
                    replace q375 := eq_true q375
                    go_wp2_with (first | (go_at_call 170; (with_reducible refine (spec_l15Named.calls ((rd_T99 l0 x6_2).f0) ((rd_T99 l0 x6_2).f1) ((rd_T99 l0 x6_2).f2) ((rd_T99 l0 x6_2).f3) ((rd_T99 l0 x6_2).f4) ((rd_T99 l0 x6_2).f5) true _ A8.out).mono ?_); rintro e w10 ⟨rfl, hb⟩; have n0_ := Aside0.mk (Kd.R_below (by (with_reducible repeat (first | apply Kd.R_alloc | apply Kd.R_drewN | apply Kd.R_drew)); exact HO_3.out) hb); have n1_ := Aside0.mk (below_step (by repeat (first | (with_reducible first | exact HB.out | apply below_alloc | apply pw_below_drewN | apply below_drew1) | exact HB.out)) hb); clear HO_3; clear HB; have HO_3 := n0_; have HB := n1_; clear n0_ n1_; (try clear hb); (try clear hb2); (try clear hk); (try clear hi); have p377 : 0 ≤ (x6_2 : Int) := of_decide_eq_true (by first | (with_reducible assumption) | assumption); have q377 : x6_2 < (l0.length : Int) := of_decide_eq_true (by first | (with_reducible assumption) | assumption); obtain ⟨ad377, e377, hx377_0, hx377_1, hx377_2, hx377_3, hx377_4, hx377_5⟩ := at_T99 HR0.out x6_2 p377 q377; obtain rfl : ad375 = ad377 := (by injection e377); replace hx377_0 := (HB.out.cell (World.block_lt_of_cell? w _ hx377_0)).trans hx377_0; replace hx377_1 := (HB.out.cell (World.block_lt_of_cell? w _ hx377_1)).trans hx377_1; replace hx377_2 := (HB.out.cell (World.block_lt_of_cell? w _ hx377_2)).trans hx377_2; replace hx377_3 := (HB.out.cell (World.block_lt_of_cell? w _ hx377_3)).trans hx377_3; replace hx377_4 := (HB.out.cell (World.block_lt_of_cell? w _ hx377_4)).trans hx377_4; replace hx377_5 := (HB.out.cell (World.block_lt_of_cell? w _ hx377_5)).trans hx377_5; replace p377 := eq_true p377; replace q377 := eq_true q377))
                    go_roundg k2
                    case measure => have := HK1.out; have := HK2.out; omega
                    case rel => exact ⟨((((rd_T99 l0 x6_2).f2) == x4_1)), (wrap64 (x6_2 + 1)), (by first | rfl | (simp; done) | (simp [*]; done)), (by first | rfl | (simp; done) | (simp [*]; done)), H', ⟨by have := HK1.out; have := HK2.out; omega⟩, ⟨by (with_reducible repeat (first | apply Kd.R_alloc | apply Kd.R_drewN | apply Kd.R_drew)); exact HO_3.out⟩, ⟨by repeat (first | (with_reducible first | exact HB.out | apply below_alloc | apply pw_below_drewN | apply below_drew1) | exact HB.out)⟩⟩
                  · replace c9 := Bool.eq_false_iff.mpr c9
                    subst c9
                    have H1 : (spec_l15Nums.l1 k2 l0 x3_1 x4_1 false (wrap64 (x6_2 + 1))) = some r := by rw [if_neg (show ¬ (false = true) by decide)] at H; exact H
                    clear H
                    have H := H1
                    clear H1
                    have H' := Aside0.mk H
                    clear H
                    have p375 : 0 ≤ (x6_2 : Int) := of_decide_eq_true (by first | (with_reducible assumption) | assumption)
                    have q375 : x6_2 < (l0.length : Int) := of_decide_eq_true (by first | (with_reducible assumption) | assumption)
                    obtain ⟨ad375, e375, hx375_0, hx375_1, hx375_2, hx375_3, hx375_4, hx375_5⟩ := at_T99 HR0.out x6_2 p375 q375
                    cases e375
                    replace hx375_0 := (HB.out.cell (World.block_lt_of_cell? w _ hx375_0)).trans hx375_0
                    replace hx375_1 := (HB.out.cell (World.block_lt_of_cell? w _ hx375_1)).trans hx375_1
                    replace hx375_2 := (HB.out.cell (World.block_lt_of_cell? w _ hx375_2)).trans hx375_2
                    replace hx375_3 := (HB.out.cell (World.block_lt_of_cell? w _ hx375_3)).trans hx375_3
                    replace hx375_4 := (HB.out.cell (World.block_lt_of_cell? w _ hx375_4)).trans hx375_4
                    replace hx375_5 := (HB.out.cell (World.block_lt_of_cell? w _ hx375_5)).trans hx375_5
                    replace p375 := eq_true p375
                    replace q375 := eq_true q375
                    go_wp2_with (first | (go_at_call 170; (with_reducible refine (spec_l15Named.calls ((rd_T99 l0 x6_2).f0) ((rd_T99 l0 x6_2).f1) ((rd_T99 l0 x6_2).f2) ((rd_T99 l0 x6_2).f3) ((rd_T99 l0 x6_2).f4) ((rd_T99 l0 x6_2).f5) false _ A8.out).mono ?_); rintro e w11 ⟨rfl, hb⟩; have n0_ := Aside0.mk (Kd.R_below (by (with_reducible repeat (first | apply Kd.R_alloc | apply Kd.R_drewN | apply Kd.R_drew)); exact HO_3.out) hb); have n1_ := Aside0.mk (below_step (by repeat (first | (with_reducible first | exact HB.out | apply below_alloc | apply pw_below_drewN | apply below_drew1) | exact HB.out)) hb); clear HO_3; clear HB; have HO_3 := n0_; have HB := n1_; clear n0_ n1_; (try clear hb); (try clear hb2); (try clear hk); (try clear hi)))
                    go_roundg k2
                    case measure => have := HK1.out; have := HK2.out; omega
                    case rel => exact ⟨(false), (wrap64 (x6_2 + 1)), (by first | rfl | (simp; done) | (simp [*]; done)), (by first | rfl | (simp; done) | (simp [*]; done)), H', ⟨by have := HK1.out; have := HK2.out; omega⟩, ⟨by (with_reducible repeat (first | apply Kd.R_alloc | apply Kd.R_drewN | apply Kd.R_drew)); exact HO_3.out⟩, ⟨by repeat (first | (with_reducible first | exact HB.out | apply below_alloc | apply pw_below_drewN | apply below_drew1) | exact HB.out)⟩⟩
                · rw [if_neg c7] at H
                  exact absurd H (by simp)
            · rw [if_neg c5] at H
              have c5b0 : decide (x6_2 < (l0.length : Int)) = false := decide_eq_false c5
              clear c5
              by_cases c12 : x3_1.length < 140737488355328
              · rw [if_pos c12] at H
                have LMc12 := Aside0.mk c12
                clear c12
                obtain ⟨y378, hy378⟩ : ∃ y_ : List Bool, y_ = (x3_1 ++ [x5_2]) := ⟨_, rfl⟩
                replace H : (spec_l15Nums.l0 k2 l0 y378 (wrap64 (x4_1 + 1))) = some r := by first | (rw [hy378]; with_reducible exact H) | (have H2_ := (Option.bind_some _ _).symm.trans H; rw [hy378]; with_reducible exact H2_) | (have H2_ := (Option.bind_some _ _).symm.trans H; with_reducible exact H2_) | with_reducible exact H | (rw [hy378]; exact H) | exact H
                have Ny378 := Aside0.mk hy378
                clear hy378
                have H' := Aside0.mk H
                clear H
                go_wp2_with (first | ((with_reducible refine gate_builtin (b := .append) (xs := #[.tmp 35, .tmp 37]) rfl ?_); at_builtin; refine Kd.R_append Kd.bool (w0 := w) w.heap.size rfl (.tmp 35) (.tmp 37) 43 4 (.bool false) 1 rfl Try.underlying43 info4 rfl (by decide) (by omega) u3 x3_1 x5_2 [.bool x5_2] (fun _ => True) (fun _ => False) rfl rfl ?aP (fun _ hk => hk.elim) ?aF ?aO ?aB ?aS ?aL ?_; (case aP => exact rfl); (case aB => exact (by repeat (first | (with_reducible first | exact HB.out | apply below_alloc | apply pw_below_drewN | apply below_drew1) | exact HB.out))); (case aF => exact (fun _ _ => trivial)); (case aO => exact (by (with_reducible repeat (first | apply Kd.R_alloc | apply Kd.R_drewN | apply Kd.R_drew)); exact HO_3.out)); (case aS => exact (below_size (by repeat (first | (with_reducible first | exact HB.out | apply below_alloc | apply pw_below_drewN | apply below_drew1) | exact HB.out)))); (case aL => have := LMc12.out; omega); intro v379 w13 ho hb hg hat; rw [← Ny378.out] at ho; have n0_ := Aside0.mk (hb); have n1_ := Aside0.mk (ho); clear HB; clear HO_3; have HB := n0_; have HO380 := n1_; clear n0_ n1_; clear ho hb hg hat))
                go_roundg k2
                case measure => have := HK1.out; have := HK2.out; omega
                case rel => exact ⟨(y378), (wrap64 (x4_1 + 1)), (by first | rfl | (simp; done) | (simp [*]; done)), H', ⟨by have := HK1.out; have := HK2.out; omega⟩, ⟨by (with_reducible repeat (first | apply Kd.R_alloc | apply Kd.R_drewN | apply Kd.R_drew)); exact HO380.out⟩, ⟨by repeat (first | (with_reducible first | exact HB.out | apply below_alloc | apply pw_below_drewN | apply below_drew1) | exact HB.out)⟩⟩
              · rw [if_neg c12] at H
                exact absurd H (by simp)
      · rw [if_neg c4] at H
        have c4b0 : decide (x4_1 < 8) = false := decide_eq_false c4
        clear c4
        obtain rfl := Option.some.inj H
        go_wp2
        go_ret
        exact ⟨_, by first | rfl | (simp [errW_none, errW_some] <;> rfl) | (simp [*, errW_none, errW_some] <;> rfl), by (with_reducible repeat (first | apply Kd.R_alloc | apply Kd.R_drewN | apply Kd.R_drew)); exact HO_3.out, by repeat (first | (with_reducible first | exact HB.out | apply below_alloc | apply pw_below_drewN | apply below_drew1) | exact HB.out)⟩

/-! ### spec_l15Turn: function 95 -/
def spec_l15Turn.l0 : Nat → List (S99) → Int → Int → List (S99) → Int → Option ((List (S99)))
  | 0, _, _, _, _, _ => none
  | k + 1, x0, x1, x2, x7, x8 => if x8 < (x0.length : Int) then (if 0 ≤ x8 then ((spec_l15Named.f ((rd_T99 x0 x8).f0) ((rd_T99 x0 x8).f1) ((rd_T99 x0 x8).f2) ((rd_T99 x0 x8).f3) ((rd_T99 x0 x8).f4) ((rd_T99 x0 x8).f5)).bind fun t386 => (if t386 = true then (if ((rd_T99 x0 x8).f2) = x1 then (if x7.length < 2932031007402 then (spec_l15Turn.l0 k x0 x1 x2 (x7 ++ [(⟨(rd_T99 x0 x8).f0, (rd_T99 x0 x8).f1, x2, (rd_T99 x0 x8).f3, (rd_T99 x0 x8).f4, (rd_T99 x0 x8).f5⟩ : S99)]) (wrap64 (x8 + 1))) else (none)) else (if x7.length < 2932031007402 then (spec_l15Turn.l0 k x0 x1 x2 (x7 ++ [(⟨(rd_T99 x0 x8).f0, (rd_T99 x0 x8).f1, (rd_T99 x0 x8).f2, (rd_T99 x0 x8).f3, (rd_T99 x0 x8).f4, (rd_T99 x0 x8).f5⟩ : S99)]) (wrap64 (x8 + 1))) else (none))) else (if x7.length < 2932031007402 then (spec_l15Turn.l0 k x0 x1 x2 (x7 ++ [(⟨(rd_T99 x0 x8).f0, (rd_T99 x0 x8).f1, (rd_T99 x0 x8).f2, (rd_T99 x0 x8).f3, (rd_T99 x0 x8).f4, (rd_T99 x0 x8).f5⟩ : S99)]) (wrap64 (x8 + 1))) else (none)))) else (none)) else (some x7)
def spec_l15Turn.f (k : Nat) (l0 : List (S99)) (a1 : Int) (a2 : Int) : Option ((List (S99))) := spec_l15Turn.l0 k l0 a1 a2 (([] : List (S99))) 0
theorem spec_l15Turn.mono_l : ∀ k, (∀ y0 y1 y2 y3 y4, LeO (spec_l15Turn.l0 k y0 y1 y2 y3 y4) (spec_l15Turn.l0 (k + 1) y0 y1 y2 y3 y4))
  | 0 => fun _ _ _ _ _ r h => by simp [spec_l15Turn.l0] at h
  | k + 1 => by
    have ih0 := spec_l15Turn.mono_l k
    · intro y0 y1 y2 y3 y4
      unfold spec_l15Turn.l0
      repeat' first
      | (with_reducible exact ih0 _ _ _ _ _)
      | (with_reducible exact LeO.refl _)
      | (with_reducible exact LeO.none _)
      | (with_reducible refine LeO.ite ?_ ?_)
      | (with_reducible refine LeO.bind ?_ (fun _ => ?_))
      | exact ih0 _ _ _ _ _
      | exact LeO.none _
      | refine LeO.ite ?_ ?_
      | refine LeO.bind ?_ (fun _ => ?_)
theorem spec_l15Turn.mono : ∀ a0 a1 a2 k, LeO (spec_l15Turn.f k a0 a1 a2) (spec_l15Turn.f (k + 1) a0 a1 a2) := by
  intro a0 a1 a2 k
  have ih0 := spec_l15Turn.mono_l k
  unfold spec_l15Turn.f
  repeat' first
      | (with_reducible exact ih0 _ _ _ _ _)
      | (with_reducible exact LeO.refl _)
      | (with_reducible exact LeO.none _)
      | (with_reducible refine LeO.ite ?_ ?_)
      | (with_reducible refine LeO.bind ?_ (fun _ => ?_))
      | exact ih0 _ _ _ _ _
      | exact LeO.none _
      | refine LeO.ite ?_ ?_
      | refine LeO.bind ?_ (fun _ => ?_)
set_option maxHeartbeats 8000000 in
set_option maxRecDepth 100000 in
theorem spec_l15Turn.calls (k : Nat) (A0 : Option Addr) (c0 : Nat) (l0 : List (S99)) (a1 : Int) (a2 : Int) (r : List (S99)) (w : World) (hr0 : Kd.C k99 w A0 l0.length l0) (hc0 : l0.length ≤ c0) (h : spec_l15Turn.f k l0 a1 a2 = some r) :
    Calls Try.prog 95 #[.slice A0 l0.length c0, .int .i64 a1, .int .i64 a2] w fun e w' => ∃ v0_ : Value, e = .returned (v0_) ∧ Kd.R k99 99 w' w.heap.size (fun _ => True) v0_ r ∧ Below w.heap.size w w' := by
  have hu99 := Try.underlying99
  have HR0 := Aside0.mk hr0
  have HC0 := Aside0.mk hc0
  clear hr0 hc0
  have HB := Aside0.mk (Below.refl w.heap.size w)
  have H : (spec_l15Turn.l0 k l0 a1 a2 (([] : List (S99))) 0) = some r := h
  clear h
  obtain ⟨y381, hy381⟩ : ∃ y_ : List (S99), y_ = (([] : List (S99))) := ⟨_, rfl⟩
  replace H : (spec_l15Turn.l0 k l0 a1 a2 y381 0) = some r := by first | (rw [hy381]; with_reducible exact H) | (have H2_ := (Option.bind_some _ _).symm.trans H; rw [hy381]; with_reducible exact H2_) | (have H2_ := (Option.bind_some _ _).symm.trans H; with_reducible exact H2_) | with_reducible exact H | (rw [hy381]; exact H) | exact H
  have Ny381 := Aside0.mk hy381
  clear hy381
  have H' := Aside0.mk H
  clear H
  go_enter Try.func95, Try.ntmps95
  go_wp2_with (first | ((with_reducible refine gate_dst (N := 10) rfl ?_); refine Kd.R_lit k99 _ 99 ?hg (N := 10) ?hd (xs := ([] : List (S99))) (inner := []) (ok := fun _ => True) (okp := fun _ => True) ?hr ?hp (fun _ hk => hk) trivial (Below.refl _ _) (Nat.le_refl _) (by simp) ?_; (case hd => rfl); (case hg => rfl); (case hr => first | (go_simp; done) | (go_simp; rfl)); (case hp => exact (Reps.none _ _)); intro v382 w4 ho5 hb hg_ hnew_; clear hg_ hnew_; (first | rw [← Ny381.out] at ho5 | (simp only [Int.reduceToNat] at ho5; rw [← Ny381.out] at ho5)); have n0_ := Aside0.mk (Kd.R_lower ho5 (below_size (by repeat (first | (with_reducible first | exact HB.out | apply below_alloc | apply pw_below_drewN | apply below_drew1) | exact HB.out)))); have n1_ := Aside0.mk (below_step (by repeat (first | (with_reducible first | exact HB.out | apply below_alloc | apply pw_below_drewN | apply below_drew1) | exact HB.out)) hb); clear HB; have HO383 := n0_; have HB := n1_; clear n0_ n1_; clear hb ho5))
  go_loopg [7, 8] k (fun kq v7 v8 w' => ∃ (x7_1 : List (S99)) (x8_1 : Int), v8 = .int .i64 x8_1 ∧ Aside0 (spec_l15Turn.l0 kq l0 a1 a2 x7_1 x8_1 = some r) ∧ Aside0 (kq ≤ k) ∧ Aside0 (Kd.R k99 99 w' w.heap.size (fun _ => True) v7 x7_1) ∧ Aside0 (Below w.heap.size w w'))
  case atStart => exact ⟨(y381), (0), (by first | rfl | (simp; done) | (simp [*]; done)), H', ⟨Nat.le_refl _⟩, ⟨by (with_reducible repeat (first | apply Kd.R_alloc | apply Kd.R_drewN | apply Kd.R_drew)); exact HO383.out⟩, ⟨by repeat (first | (with_reducible first | exact HB.out | apply below_alloc | apply pw_below_drewN | apply below_drew1) | exact HB.out)⟩⟩
  case round =>
    clear H'
    try clear p2
    obtain ⟨x7_1, x8_1, rfl, HA, HK1, HO_7, HB⟩ := hrel
    cases gk with
    | zero => exact absurd HA.out (by simp [spec_l15Turn.l0])
    | succ k1 =>
      have H := HA.out
      clear HA
      simp only [spec_l15Turn.l0] at H
      by_cases c6 : x8_1 < (l0.length : Int)
      · rw [if_pos c6] at H
        have c6b0 : decide (x8_1 < (l0.length : Int)) = true := decide_eq_true c6
        clear c6
        by_cases c7 : 0 ≤ x8_1
        · rw [if_pos c7] at H
          have c7b0 : decide (0 ≤ x8_1) = true := decide_eq_true c7
          clear c7
          replace H := Option.bind_eq_some_iff.mp H
          obtain ⟨t386, A80, H⟩ := H
          replace H : (if t386 = true then (if ((rd_T99 l0 x8_1).f2) = a1 then (if x7_1.length < 2932031007402 then (spec_l15Turn.l0 k1 l0 a1 a2 (x7_1 ++ [(⟨(rd_T99 l0 x8_1).f0, (rd_T99 l0 x8_1).f1, a2, (rd_T99 l0 x8_1).f3, (rd_T99 l0 x8_1).f4, (rd_T99 l0 x8_1).f5⟩ : S99)]) (wrap64 (x8_1 + 1))) else (none)) else (if x7_1.length < 2932031007402 then (spec_l15Turn.l0 k1 l0 a1 a2 (x7_1 ++ [(⟨(rd_T99 l0 x8_1).f0, (rd_T99 l0 x8_1).f1, (rd_T99 l0 x8_1).f2, (rd_T99 l0 x8_1).f3, (rd_T99 l0 x8_1).f4, (rd_T99 l0 x8_1).f5⟩ : S99)]) (wrap64 (x8_1 + 1))) else (none))) else (if x7_1.length < 2932031007402 then (spec_l15Turn.l0 k1 l0 a1 a2 (x7_1 ++ [(⟨(rd_T99 l0 x8_1).f0, (rd_T99 l0 x8_1).f1, (rd_T99 l0 x8_1).f2, (rd_T99 l0 x8_1).f3, (rd_T99 l0 x8_1).f4, (rd_T99 l0 x8_1).f5⟩ : S99)]) (wrap64 (x8_1 + 1))) else (none))) = some r := H
          have A8 := Aside0.mk A80
          clear A80
          by_cases c9 : t386 = true
          · subst c9
            have H1 : (if ((rd_T99 l0 x8_1).f2) = a1 then (if x7_1.length < 2932031007402 then (spec_l15Turn.l0 k1 l0 a1 a2 (x7_1 ++ [(⟨(rd_T99 l0 x8_1).f0, (rd_T99 l0 x8_1).f1, a2, (rd_T99 l0 x8_1).f3, (rd_T99 l0 x8_1).f4, (rd_T99 l0 x8_1).f5⟩ : S99)]) (wrap64 (x8_1 + 1))) else (none)) else (if x7_1.length < 2932031007402 then (spec_l15Turn.l0 k1 l0 a1 a2 (x7_1 ++ [(⟨(rd_T99 l0 x8_1).f0, (rd_T99 l0 x8_1).f1, (rd_T99 l0 x8_1).f2, (rd_T99 l0 x8_1).f3, (rd_T99 l0 x8_1).f4, (rd_T99 l0 x8_1).f5⟩ : S99)]) (wrap64 (x8_1 + 1))) else (none))) = some r := by rw [if_pos rfl] at H; exact H
            clear H
            have H := H1
            clear H1
            by_cases c10 : ((rd_T99 l0 x8_1).f2) = a1
            · rw [if_pos c10] at H
              have c10b0 : (((rd_T99 l0 x8_1).f2) == a1) = true := beq_iff_eq.mpr c10
              have c10b1 : (((rd_T99 l0 x8_1).f2) != a1) = false := bne_eq_false_iff_eq.mpr c10
              clear c10
              by_cases c11 : x7_1.length < 2932031007402
              · rw [if_pos c11] at H
                have LMc11 := Aside0.mk c11
                clear c11
                obtain ⟨y387, hy387⟩ : ∃ y_ : List (S99), y_ = (x7_1 ++ [(⟨(rd_T99 l0 x8_1).f0, (rd_T99 l0 x8_1).f1, a2, (rd_T99 l0 x8_1).f3, (rd_T99 l0 x8_1).f4, (rd_T99 l0 x8_1).f5⟩ : S99)]) := ⟨_, rfl⟩
                replace H : (spec_l15Turn.l0 k1 l0 a1 a2 y387 (wrap64 (x8_1 + 1))) = some r := by first | (rw [hy387]; with_reducible exact H) | (have H2_ := (Option.bind_some _ _).symm.trans H; rw [hy387]; with_reducible exact H2_) | (have H2_ := (Option.bind_some _ _).symm.trans H; with_reducible exact H2_) | with_reducible exact H | (rw [hy387]; exact H) | exact H
                have Ny387 := Aside0.mk hy387
                clear hy387
                have H' := Aside0.mk H
                clear H
                have p384 : 0 ≤ (x8_1 : Int) := of_decide_eq_true (by first | (with_reducible assumption) | assumption)
                have q384 : x8_1 < (l0.length : Int) := of_decide_eq_true (by first | (with_reducible assumption) | assumption)
                obtain ⟨ad384, e384, hx384_0, hx384_1, hx384_2, hx384_3, hx384_4, hx384_5⟩ := at_T99 HR0.out x8_1 p384 q384
                cases e384
                replace hx384_0 := (HB.out.cell (World.block_lt_of_cell? w _ hx384_0)).trans hx384_0
                replace hx384_1 := (HB.out.cell (World.block_lt_of_cell? w _ hx384_1)).trans hx384_1
                replace hx384_2 := (HB.out.cell (World.block_lt_of_cell? w _ hx384_2)).trans hx384_2
                replace hx384_3 := (HB.out.cell (World.block_lt_of_cell? w _ hx384_3)).trans hx384_3
                replace hx384_4 := (HB.out.cell (World.block_lt_of_cell? w _ hx384_4)).trans hx384_4
                replace hx384_5 := (HB.out.cell (World.block_lt_of_cell? w _ hx384_5)).trans hx384_5
                replace p384 := eq_true p384
                replace q384 := eq_true q384
                go_wp2_with (first | ((with_reducible refine gate_dst (N := 9) rfl ?_); refine box_event ?hg (N := 9) ?hd (cs := #[.int .i64 0, .int .i64 0, .int .i64 0, .int .i64 0, .int .i64 0, .int .i64 0]) (t := 99) ?hr ?_; (case hd => rfl); (case hg => rfl); (case hr => first | (go_simp; done) | (go_simp; rfl)); intro gb385 hg w12 hbox hb; have n0_ := Aside0.mk (Kd.R_below (Kd.R_elderB (by (with_reducible repeat (first | apply Kd.R_alloc | apply Kd.R_drewN | apply Kd.R_drew)); exact HO_7.out) gb385 (Nat.le_of_eq hg.symm)) hb); have n1_ := Aside0.mk (below_step (by repeat (first | (with_reducible first | exact HB.out | apply below_alloc | apply pw_below_drewN | apply below_drew1) | exact HB.out)) hb); have n2_ := Aside0.mk (hbox); have n3_ := Aside0.mk ((by rw [hg]; exact (below_size (by repeat (first | (with_reducible first | exact HB.out | apply below_alloc | apply pw_below_drewN | apply below_drew1) | exact HB.out))) : w.heap.size ≤ gb385)); have n4_ := Aside0.mk ((by rw [hg]; exact (below_size (by repeat (first | (with_reducible first | exact HB.out | apply below_alloc | apply pw_below_drewN | apply below_drew1) | exact HB.out))) : w.heap.size ≤ gb385)); clear HO_7; clear HB; have HO_7 := n0_; have HB := n1_; have BK385 := n2_; have GW385 := n3_; have GE385 := n4_; clear n0_ n1_ n2_ n3_ n4_; clear hb hbox hg; have hcz13_0 : w12.cell? ⟨gb385, 0, none⟩ = some (.int .i64 0) := (blk_cell BK385.out 0).trans rfl; have hcz13_1 : w12.cell? ⟨gb385, 1, none⟩ = some (.int .i64 0) := (blk_cell BK385.out 1).trans rfl; have hcz13_2 : w12.cell? ⟨gb385, 2, none⟩ = some (.int .i64 0) := (blk_cell BK385.out 2).trans rfl; have hcz13_3 : w12.cell? ⟨gb385, 3, none⟩ = some (.int .i64 0) := (blk_cell BK385.out 3).trans rfl; have hcz13_4 : w12.cell? ⟨gb385, 4, none⟩ = some (.int .i64 0) := (blk_cell BK385.out 4).trans rfl; have hcz13_5 : w12.cell? ⟨gb385, 5, none⟩ = some (.int .i64 0) := (blk_cell BK385.out 5).trans rfl; have hfz13_0 := blk_frozen BK385.out 0; have hfz13_1 := blk_frozen BK385.out 1; have hfz13_2 := blk_frozen BK385.out 2; have hfz13_3 := blk_frozen BK385.out 3; have hfz13_4 := blk_frozen BK385.out 4; have hfz13_5 := blk_frozen BK385.out 5) | ((with_reducible refine gate_callee (f := 170) rfl ?_); refine goesL_ (some 22) rfl rfl Try.func170 (by kernel_rfl) rfl #[.agg #[.int .i64 ((rd_T99 l0 x8_1).f0), .int .i64 ((rd_T99 l0 x8_1).f1), .int .i64 ((rd_T99 l0 x8_1).f2), .int .i64 ((rd_T99 l0 x8_1).f3), .int .i64 ((rd_T99 l0 x8_1).f4), .int .i64 ((rd_T99 l0 x8_1).f5)]] rfl (by (try simp only [List.map_toArray, List.map_cons, List.map_nil]); first | done | rfl | (simp only [List.length_drop, List.length_take]; rfl)) ?_; (with_reducible refine (spec_l15Named.calls ((rd_T99 l0 x8_1).f0) ((rd_T99 l0 x8_1).f1) ((rd_T99 l0 x8_1).f2) ((rd_T99 l0 x8_1).f3) ((rd_T99 l0 x8_1).f4) ((rd_T99 l0 x8_1).f5) true _ A8.out).mono ?_); rintro e w14 ⟨rfl, hb⟩; refine ⟨_, rfl, ?_⟩; have n0_ := Aside0.mk (Kd.R_below (by (with_reducible repeat (first | apply Kd.R_alloc | apply Kd.R_drewN | apply Kd.R_drew)); exact (Kd.R_mono (Kd.R_far (p := ⟨gb385, 5, none⟩) (Kd.R_far (p := ⟨gb385, 4, none⟩) (Kd.R_far (p := ⟨gb385, 3, none⟩) (Kd.R_far (p := ⟨gb385, 2, none⟩) (Kd.R_far (p := ⟨gb385, 1, none⟩) (Kd.R_far (p := ⟨gb385, 0, none⟩) (Kd.R_mono HO_7.out (fun k_ hk => (⟨hk, hk.2⟩ : _ ∧ k_ ≠ gb385))) (fun _ hk => hk.2) (.int .i64 ((rd_T99 l0 x8_1).f0))) (fun _ hk => hk.2) (.int .i64 ((rd_T99 l0 x8_1).f1))) (fun _ hk => hk.2) (.int .i64 ((rd_T99 l0 x8_1).f2))) (fun _ hk => hk.2) (.int .i64 ((rd_T99 l0 x8_1).f3))) (fun _ hk => hk.2) (.int .i64 ((rd_T99 l0 x8_1).f4))) (fun _ hk => hk.2) (.int .i64 ((rd_T99 l0 x8_1).f5))) (fun _ h_ => h_.1))) hb); have n1_ := Aside0.mk (blk_below (g := gb385) (o := .cells #[.int .i64 ((rd_T99 l0 x8_1).f0), .int .i64 ((rd_T99 l0 x8_1).f1), .int .i64 ((rd_T99 l0 x8_1).f2), .int .i64 ((rd_T99 l0 x8_1).f3), .int .i64 ((rd_T99 l0 x8_1).f4), .int .i64 ((rd_T99 l0 x8_1).f5)] 99 (0, 0)) (by (with_reducible repeat (first | refine blk_drewN ?_ _ | refine blk_drew ?_ | refine blk_alloc ?_ _)); refine blk_put (cs := #[.int .i64 ((rd_T99 l0 x8_1).f0), .int .i64 ((rd_T99 l0 x8_1).f1), .int .i64 ((rd_T99 l0 x8_1).f2), .int .i64 ((rd_T99 l0 x8_1).f3), .int .i64 ((rd_T99 l0 x8_1).f4), .int .i64 0]) ?_ 5 _ rfl; (with_reducible repeat (first | refine blk_drewN ?_ _ | refine blk_drew ?_ | refine blk_alloc ?_ _)); refine blk_put (cs := #[.int .i64 ((rd_T99 l0 x8_1).f0), .int .i64 ((rd_T99 l0 x8_1).f1), .int .i64 ((rd_T99 l0 x8_1).f2), .int .i64 ((rd_T99 l0 x8_1).f3), .int .i64 0, .int .i64 0]) ?_ 4 _ rfl; (with_reducible repeat (first | refine blk_drewN ?_ _ | refine blk_drew ?_ | refine blk_alloc ?_ _)); refine blk_put (cs := #[.int .i64 ((rd_T99 l0 x8_1).f0), .int .i64 ((rd_T99 l0 x8_1).f1), .int .i64 ((rd_T99 l0 x8_1).f2), .int .i64 0, .int .i64 0, .int .i64 0]) ?_ 3 _ rfl; (with_reducible repeat (first | refine blk_drewN ?_ _ | refine blk_drew ?_ | refine blk_alloc ?_ _)); refine blk_put (cs := #[.int .i64 ((rd_T99 l0 x8_1).f0), .int .i64 ((rd_T99 l0 x8_1).f1), .int .i64 0, .int .i64 0, .int .i64 0, .int .i64 0]) ?_ 2 _ rfl; (with_reducible repeat (first | refine blk_drewN ?_ _ | refine blk_drew ?_ | refine blk_alloc ?_ _)); refine blk_put (cs := #[.int .i64 ((rd_T99 l0 x8_1).f0), .int .i64 0, .int .i64 0, .int .i64 0, .int .i64 0, .int .i64 0]) ?_ 1 _ rfl; (with_reducible repeat (first | refine blk_drewN ?_ _ | refine blk_drew ?_ | refine blk_alloc ?_ _)); refine blk_put (cs := #[.int .i64 0, .int .i64 0, .int .i64 0, .int .i64 0, .int .i64 0, .int .i64 0]) ?_ 0 _ rfl; (with_reducible repeat (first | refine blk_drewN ?_ _ | refine blk_drew ?_ | refine blk_alloc ?_ _)); exact BK385.out) hb); have n2_ := Aside0.mk (below_step (by repeat (first | (with_reducible first | exact HB.out | apply below_alloc | apply pw_below_drewN | apply below_drew1 | refine below_set ?_ GE385.out) | exact HB.out)) hb); clear HO_7; clear BK385; clear HB; have HO_7 := n0_; have BK385 := n1_; have HB := n2_; clear n0_ n1_ n2_; (try clear hb); (try clear hb2); (try clear hk); (try clear hi); have hcz15_0 : w14.cell? ⟨gb385, 0, none⟩ = some (.int .i64 ((rd_T99 l0 x8_1).f0)) := (blk_cell BK385.out 0).trans rfl; have hcz15_1 : w14.cell? ⟨gb385, 1, none⟩ = some (.int .i64 ((rd_T99 l0 x8_1).f1)) := (blk_cell BK385.out 1).trans rfl; have hcz15_2 : w14.cell? ⟨gb385, 2, none⟩ = some (.int .i64 ((rd_T99 l0 x8_1).f2)) := (blk_cell BK385.out 2).trans rfl; have hcz15_3 : w14.cell? ⟨gb385, 3, none⟩ = some (.int .i64 ((rd_T99 l0 x8_1).f3)) := (blk_cell BK385.out 3).trans rfl; have hcz15_4 : w14.cell? ⟨gb385, 4, none⟩ = some (.int .i64 ((rd_T99 l0 x8_1).f4)) := (blk_cell BK385.out 4).trans rfl; have hcz15_5 : w14.cell? ⟨gb385, 5, none⟩ = some (.int .i64 ((rd_T99 l0 x8_1).f5)) := (blk_cell BK385.out 5).trans rfl; have hfz15_0 := blk_frozen BK385.out 0; have hfz15_1 := blk_frozen BK385.out 1; have hfz15_2 := blk_frozen BK385.out 2; have hfz15_3 := blk_frozen BK385.out 3; have hfz15_4 := blk_frozen BK385.out 4; have hfz15_5 := blk_frozen BK385.out 5) | ((with_reducible refine gate_builtin (b := .append) (xs := #[.tmp 31, .tmp 33]) rfl ?_); at_builtin; refine Kd.R_append k99 (w0 := w) w.heap.size rfl (.tmp 31) (.tmp 33) 31 99 (.agg #[(.int .i64 0), (.int .i64 0), (.int .i64 0), (.int .i64 0), (.int .i64 0), (.int .i64 0)]) 48 rfl Try.underlying31 info99 rfl (by decide) (by omega) u7 x7_1 (⟨(rd_T99 l0 x8_1).f0, (rd_T99 l0 x8_1).f1, a2, (rd_T99 l0 x8_1).f3, (rd_T99 l0 x8_1).f4, (rd_T99 l0 x8_1).f5⟩ : S99) [.int .i64 ((rd_T99 l0 x8_1).f0), .int .i64 ((rd_T99 l0 x8_1).f1), .int .i64 a2, .int .i64 ((rd_T99 l0 x8_1).f3), .int .i64 ((rd_T99 l0 x8_1).f4), .int .i64 ((rd_T99 l0 x8_1).f5)] (fun k_ => k_ ≠ gb385) (fun _ => False) rfl (by first | (go_simp; done) | (go_simp; rfl)) ?aP (fun _ hk => hk.elim) ?aF ?aO ?aB ?aS ?aL ?_; (case aP => exact k99_mkM _ _ _ (⟨(rd_T99 l0 x8_1).f0, (rd_T99 l0 x8_1).f1, a2, (rd_T99 l0 x8_1).f3, (rd_T99 l0 x8_1).f4, (rd_T99 l0 x8_1).f5⟩ : S99)); (case aB => exact (by repeat (first | (with_reducible first | exact HB.out | apply below_alloc | apply pw_below_drewN | apply below_drew1 | refine below_set ?_ GE385.out) | exact HB.out))); (case aF => exact (fun k_ hk => Kd.freshB (g := gb385) (o := .cells #[.int .i64 ((rd_T99 l0 x8_1).f0), .int .i64 ((rd_T99 l0 x8_1).f1), .int .i64 a2, .int .i64 ((rd_T99 l0 x8_1).f3), .int .i64 ((rd_T99 l0 x8_1).f4), .int .i64 ((rd_T99 l0 x8_1).f5)] 99 (0, 0)) (by (with_reducible repeat (first | refine blk_drewN ?_ _ | refine blk_drew ?_ | refine blk_alloc ?_ _)); refine blk_put (cs := #[.int .i64 ((rd_T99 l0 x8_1).f0), .int .i64 ((rd_T99 l0 x8_1).f1), .int .i64 ((rd_T99 l0 x8_1).f2), .int .i64 ((rd_T99 l0 x8_1).f3), .int .i64 ((rd_T99 l0 x8_1).f4), .int .i64 ((rd_T99 l0 x8_1).f5)]) ?_ 2 _ rfl; (with_reducible repeat (first | refine blk_drewN ?_ _ | refine blk_drew ?_ | refine blk_alloc ?_ _)); exact BK385.out) k_ hk)); (case aO => exact (by (with_reducible repeat (first | apply Kd.R_alloc | apply Kd.R_drewN | apply Kd.R_drew)); exact Kd.R_mono (Kd.R_far (p := ⟨gb385, 2, none⟩) (Kd.R_mono HO_7.out (fun k_ hk => (⟨hk, hk.2⟩ : _ ∧ k_ ≠ gb385))) (fun _ hk => hk.2) (.int .i64 a2)) (fun _ hk => hk.1.2))); (case aS => exact (below_size (by repeat (first | (with_reducible first | exact HB.out | apply below_alloc | apply pw_below_drewN | apply below_drew1 | refine below_set ?_ GE385.out) | exact HB.out)))); (case aL => have := LMc11.out; omega); intro v388 w16 ho hb hg hat; rw [← Ny387.out] at ho; have n0_ := Aside0.mk (blk_grown (g := gb385) (o := .cells #[.int .i64 ((rd_T99 l0 x8_1).f0), .int .i64 ((rd_T99 l0 x8_1).f1), .int .i64 a2, .int .i64 ((rd_T99 l0 x8_1).f3), .int .i64 ((rd_T99 l0 x8_1).f4), .int .i64 ((rd_T99 l0 x8_1).f5)] 99 (0, 0)) (by (with_reducible repeat (first | refine blk_drewN ?_ _ | refine blk_drew ?_ | refine blk_alloc ?_ _)); refine blk_put (cs := #[.int .i64 ((rd_T99 l0 x8_1).f0), .int .i64 ((rd_T99 l0 x8_1).f1), .int .i64 ((rd_T99 l0 x8_1).f2), .int .i64 ((rd_T99 l0 x8_1).f3), .int .i64 ((rd_T99 l0 x8_1).f4), .int .i64 ((rd_T99 l0 x8_1).f5)]) ?_ 2 _ rfl; (with_reducible repeat (first | refine blk_drewN ?_ _ | refine blk_drew ?_ | refine blk_alloc ?_ _)); exact BK385.out) hg (Kd.R_away HO_7.out (fun _ hk => hk.2))); have n1_ := Aside0.mk (hb); have n2_ := Aside0.mk (ho); clear BK385; clear HB; clear HO_7; have BK385 := n0_; have HB := n1_; have HO389 := n2_; clear n0_ n1_ n2_; clear ho hb hg hat))
                go_roundg k1
                case measure => have := HK1.out; omega
                case rel => exact ⟨(y387), (wrap64 (x8_1 + 1)), (by first | rfl | (simp; done) | (simp [*]; done)), H', ⟨by have := HK1.out; omega⟩, ⟨by (with_reducible repeat (first | apply Kd.R_alloc | apply Kd.R_drewN | apply Kd.R_drew)); exact Kd.R_mono HO389.out (fun _ hk => trivial)⟩, ⟨by repeat (first | (with_reducible first | exact HB.out | apply below_alloc | apply pw_below_drewN | apply below_drew1 | refine below_set ?_ GE385.out) | exact HB.out)⟩⟩
              · rw [if_neg c11] at H
                exact absurd H (by simp)
            · rw [if_neg c10] at H
              have c10b0 : (((rd_T99 l0 x8_1).f2) == a1) = false := beq_eq_false_iff_ne.mpr c10
              have c10b1 : (((rd_T99 l0 x8_1).f2) != a1) = true := bne_iff_ne.mpr c10
              by_cases c17 : x7_1.length < 2932031007402
              · rw [if_pos c17] at H
                have LMc17 := Aside0.mk c17
                clear c17
                obtain ⟨y390, hy390⟩ : ∃ y_ : List (S99), y_ = (x7_1 ++ [(⟨(rd_T99 l0 x8_1).f0, (rd_T99 l0 x8_1).f1, (rd_T99 l0 x8_1).f2, (rd_T99 l0 x8_1).f3, (rd_T99 l0 x8_1).f4, (rd_T99 l0 x8_1).f5⟩ : S99)]) := ⟨_, rfl⟩
                replace H : (spec_l15Turn.l0 k1 l0 a1 a2 y390 (wrap64 (x8_1 + 1))) = some r := by first | (rw [hy390]; with_reducible exact H) | (have H2_ := (Option.bind_some _ _).symm.trans H; rw [hy390]; with_reducible exact H2_) | (have H2_ := (Option.bind_some _ _).symm.trans H; with_reducible exact H2_) | with_reducible exact H | (rw [hy390]; exact H) | exact H
                have Ny390 := Aside0.mk hy390
                clear hy390
                have H' := Aside0.mk H
                clear H
                have p384 : 0 ≤ (x8_1 : Int) := of_decide_eq_true (by first | (with_reducible assumption) | assumption)
                have q384 : x8_1 < (l0.length : Int) := of_decide_eq_true (by first | (with_reducible assumption) | assumption)
                obtain ⟨ad384, e384, hx384_0, hx384_1, hx384_2, hx384_3, hx384_4, hx384_5⟩ := at_T99 HR0.out x8_1 p384 q384
                cases e384
                replace hx384_0 := (HB.out.cell (World.block_lt_of_cell? w _ hx384_0)).trans hx384_0
                replace hx384_1 := (HB.out.cell (World.block_lt_of_cell? w _ hx384_1)).trans hx384_1
                replace hx384_2 := (HB.out.cell (World.block_lt_of_cell? w _ hx384_2)).trans hx384_2
                replace hx384_3 := (HB.out.cell (World.block_lt_of_cell? w _ hx384_3)).trans hx384_3
                replace hx384_4 := (HB.out.cell (World.block_lt_of_cell? w _ hx384_4)).trans hx384_4
                replace hx384_5 := (HB.out.cell (World.block_lt_of_cell? w _ hx384_5)).trans hx384_5
                replace p384 := eq_true p384
                replace q384 := eq_true q384
                go_wp2_with (first | ((with_reducible refine gate_dst (N := 9) rfl ?_); refine box_event ?hg (N := 9) ?hd (cs := #[.int .i64 0, .int .i64 0, .int .i64 0, .int .i64 0, .int .i64 0, .int .i64 0]) (t := 99) ?hr ?_; (case hd => rfl); (case hg => rfl); (case hr => first | (go_simp; done) | (go_simp; rfl)); intro gb385 hg w18 hbox hb; have n0_ := Aside0.mk (Kd.R_below (Kd.R_elderB (by (with_reducible repeat (first | apply Kd.R_alloc | apply Kd.R_drewN | apply Kd.R_drew)); exact HO_7.out) gb385 (Nat.le_of_eq hg.symm)) hb); have n1_ := Aside0.mk (below_step (by repeat (first | (with_reducible first | exact HB.out | apply below_alloc | apply pw_below_drewN | apply below_drew1) | exact HB.out)) hb); have n2_ := Aside0.mk (hbox); have n3_ := Aside0.mk ((by rw [hg]; exact (below_size (by repeat (first | (with_reducible first | exact HB.out | apply below_alloc | apply pw_below_drewN | apply below_drew1) | exact HB.out))) : w.heap.size ≤ gb385)); have n4_ := Aside0.mk ((by rw [hg]; exact (below_size (by repeat (first | (with_reducible first | exact HB.out | apply below_alloc | apply pw_below_drewN | apply below_drew1) | exact HB.out))) : w.heap.size ≤ gb385)); clear HO_7; clear HB; have HO_7 := n0_; have HB := n1_; have BK385 := n2_; have GW385 := n3_; have GE385 := n4_; clear n0_ n1_ n2_ n3_ n4_; clear hb hbox hg; have hcz19_0 : w18.cell? ⟨gb385, 0, none⟩ = some (.int .i64 0) := (blk_cell BK385.out 0).trans rfl; have hcz19_1 : w18.cell? ⟨gb385, 1, none⟩ = some (.int .i64 0) := (blk_cell BK385.out 1).trans rfl; have hcz19_2 : w18.cell? ⟨gb385, 2, none⟩ = some (.int .i64 0) := (blk_cell BK385.out 2).trans rfl; have hcz19_3 : w18.cell? ⟨gb385, 3, none⟩ = some (.int .i64 0) := (blk_cell BK385.out 3).trans rfl; have hcz19_4 : w18.cell? ⟨gb385, 4, none⟩ = some (.int .i64 0) := (blk_cell BK385.out 4).trans rfl; have hcz19_5 : w18.cell? ⟨gb385, 5, none⟩ = some (.int .i64 0) := (blk_cell BK385.out 5).trans rfl; have hfz19_0 := blk_frozen BK385.out 0; have hfz19_1 := blk_frozen BK385.out 1; have hfz19_2 := blk_frozen BK385.out 2; have hfz19_3 := blk_frozen BK385.out 3; have hfz19_4 := blk_frozen BK385.out 4; have hfz19_5 := blk_frozen BK385.out 5) | ((with_reducible refine gate_callee (f := 170) rfl ?_); refine goesL_ (some 22) rfl rfl Try.func170 (by kernel_rfl) rfl #[.agg #[.int .i64 ((rd_T99 l0 x8_1).f0), .int .i64 ((rd_T99 l0 x8_1).f1), .int .i64 ((rd_T99 l0 x8_1).f2), .int .i64 ((rd_T99 l0 x8_1).f3), .int .i64 ((rd_T99 l0 x8_1).f4), .int .i64 ((rd_T99 l0 x8_1).f5)]] rfl (by (try simp only [List.map_toArray, List.map_cons, List.map_nil]); first | done | rfl | (simp only [List.length_drop, List.length_take]; rfl)) ?_; (with_reducible refine (spec_l15Named.calls ((rd_T99 l0 x8_1).f0) ((rd_T99 l0 x8_1).f1) ((rd_T99 l0 x8_1).f2) ((rd_T99 l0 x8_1).f3) ((rd_T99 l0 x8_1).f4) ((rd_T99 l0 x8_1).f5) true _ A8.out).mono ?_); rintro e w20 ⟨rfl, hb⟩; refine ⟨_, rfl, ?_⟩; have n0_ := Aside0.mk (Kd.R_below (by (with_reducible repeat (first | apply Kd.R_alloc | apply Kd.R_drewN | apply Kd.R_drew)); exact (Kd.R_mono (Kd.R_far (p := ⟨gb385, 5, none⟩) (Kd.R_far (p := ⟨gb385, 4, none⟩) (Kd.R_far (p := ⟨gb385, 3, none⟩) (Kd.R_far (p := ⟨gb385, 2, none⟩) (Kd.R_far (p := ⟨gb385, 1, none⟩) (Kd.R_far (p := ⟨gb385, 0, none⟩) (Kd.R_mono HO_7.out (fun k_ hk => (⟨hk, hk.2⟩ : _ ∧ k_ ≠ gb385))) (fun _ hk => hk.2) (.int .i64 ((rd_T99 l0 x8_1).f0))) (fun _ hk => hk.2) (.int .i64 ((rd_T99 l0 x8_1).f1))) (fun _ hk => hk.2) (.int .i64 ((rd_T99 l0 x8_1).f2))) (fun _ hk => hk.2) (.int .i64 ((rd_T99 l0 x8_1).f3))) (fun _ hk => hk.2) (.int .i64 ((rd_T99 l0 x8_1).f4))) (fun _ hk => hk.2) (.int .i64 ((rd_T99 l0 x8_1).f5))) (fun _ h_ => h_.1))) hb); have n1_ := Aside0.mk (blk_below (g := gb385) (o := .cells #[.int .i64 ((rd_T99 l0 x8_1).f0), .int .i64 ((rd_T99 l0 x8_1).f1), .int .i64 ((rd_T99 l0 x8_1).f2), .int .i64 ((rd_T99 l0 x8_1).f3), .int .i64 ((rd_T99 l0 x8_1).f4), .int .i64 ((rd_T99 l0 x8_1).f5)] 99 (0, 0)) (by (with_reducible repeat (first | refine blk_drewN ?_ _ | refine blk_drew ?_ | refine blk_alloc ?_ _)); refine blk_put (cs := #[.int .i64 ((rd_T99 l0 x8_1).f0), .int .i64 ((rd_T99 l0 x8_1).f1), .int .i64 ((rd_T99 l0 x8_1).f2), .int .i64 ((rd_T99 l0 x8_1).f3), .int .i64 ((rd_T99 l0 x8_1).f4), .int .i64 0]) ?_ 5 _ rfl; (with_reducible repeat (first | refine blk_drewN ?_ _ | refine blk_drew ?_ | refine blk_alloc ?_ _)); refine blk_put (cs := #[.int .i64 ((rd_T99 l0 x8_1).f0), .int .i64 ((rd_T99 l0 x8_1).f1), .int .i64 ((rd_T99 l0 x8_1).f2), .int .i64 ((rd_T99 l0 x8_1).f3), .int .i64 0, .int .i64 0]) ?_ 4 _ rfl; (with_reducible repeat (first | refine blk_drewN ?_ _ | refine blk_drew ?_ | refine blk_alloc ?_ _)); refine blk_put (cs := #[.int .i64 ((rd_T99 l0 x8_1).f0), .int .i64 ((rd_T99 l0 x8_1).f1), .int .i64 ((rd_T99 l0 x8_1).f2), .int .i64 0, .int .i64 0, .int .i64 0]) ?_ 3 _ rfl; (with_reducible repeat (first | refine blk_drewN ?_ _ | refine blk_drew ?_ | refine blk_alloc ?_ _)); refine blk_put (cs := #[.int .i64 ((rd_T99 l0 x8_1).f0), .int .i64 ((rd_T99 l0 x8_1).f1), .int .i64 0, .int .i64 0, .int .i64 0, .int .i64 0]) ?_ 2 _ rfl; (with_reducible repeat (first | refine blk_drewN ?_ _ | refine blk_drew ?_ | refine blk_alloc ?_ _)); refine blk_put (cs := #[.int .i64 ((rd_T99 l0 x8_1).f0), .int .i64 0, .int .i64 0, .int .i64 0, .int .i64 0, .int .i64 0]) ?_ 1 _ rfl; (with_reducible repeat (first | refine blk_drewN ?_ _ | refine blk_drew ?_ | refine blk_alloc ?_ _)); refine blk_put (cs := #[.int .i64 0, .int .i64 0, .int .i64 0, .int .i64 0, .int .i64 0, .int .i64 0]) ?_ 0 _ rfl; (with_reducible repeat (first | refine blk_drewN ?_ _ | refine blk_drew ?_ | refine blk_alloc ?_ _)); exact BK385.out) hb); have n2_ := Aside0.mk (below_step (by repeat (first | (with_reducible first | exact HB.out | apply below_alloc | apply pw_below_drewN | apply below_drew1 | refine below_set ?_ GE385.out) | exact HB.out)) hb); clear HO_7; clear BK385; clear HB; have HO_7 := n0_; have BK385 := n1_; have HB := n2_; clear n0_ n1_ n2_; (try clear hb); (try clear hb2); (try clear hk); (try clear hi); have hcz21_0 : w20.cell? ⟨gb385, 0, none⟩ = some (.int .i64 ((rd_T99 l0 x8_1).f0)) := (blk_cell BK385.out 0).trans rfl; have hcz21_1 : w20.cell? ⟨gb385, 1, none⟩ = some (.int .i64 ((rd_T99 l0 x8_1).f1)) := (blk_cell BK385.out 1).trans rfl; have hcz21_2 : w20.cell? ⟨gb385, 2, none⟩ = some (.int .i64 ((rd_T99 l0 x8_1).f2)) := (blk_cell BK385.out 2).trans rfl; have hcz21_3 : w20.cell? ⟨gb385, 3, none⟩ = some (.int .i64 ((rd_T99 l0 x8_1).f3)) := (blk_cell BK385.out 3).trans rfl; have hcz21_4 : w20.cell? ⟨gb385, 4, none⟩ = some (.int .i64 ((rd_T99 l0 x8_1).f4)) := (blk_cell BK385.out 4).trans rfl; have hcz21_5 : w20.cell? ⟨gb385, 5, none⟩ = some (.int .i64 ((rd_T99 l0 x8_1).f5)) := (blk_cell BK385.out 5).trans rfl; have hfz21_0 := blk_frozen BK385.out 0; have hfz21_1 := blk_frozen BK385.out 1; have hfz21_2 := blk_frozen BK385.out 2; have hfz21_3 := blk_frozen BK385.out 3; have hfz21_4 := blk_frozen BK385.out 4; have hfz21_5 := blk_frozen BK385.out 5) | ((with_reducible refine gate_builtin (b := .append) (xs := #[.tmp 31, .tmp 33]) rfl ?_); at_builtin; refine Kd.R_append k99 (w0 := w) w.heap.size rfl (.tmp 31) (.tmp 33) 31 99 (.agg #[(.int .i64 0), (.int .i64 0), (.int .i64 0), (.int .i64 0), (.int .i64 0), (.int .i64 0)]) 48 rfl Try.underlying31 info99 rfl (by decide) (by omega) u7 x7_1 (⟨(rd_T99 l0 x8_1).f0, (rd_T99 l0 x8_1).f1, (rd_T99 l0 x8_1).f2, (rd_T99 l0 x8_1).f3, (rd_T99 l0 x8_1).f4, (rd_T99 l0 x8_1).f5⟩ : S99) [.int .i64 ((rd_T99 l0 x8_1).f0), .int .i64 ((rd_T99 l0 x8_1).f1), .int .i64 ((rd_T99 l0 x8_1).f2), .int .i64 ((rd_T99 l0 x8_1).f3), .int .i64 ((rd_T99 l0 x8_1).f4), .int .i64 ((rd_T99 l0 x8_1).f5)] (fun k_ => k_ ≠ gb385) (fun _ => False) rfl rfl ?aP (fun _ hk => hk.elim) ?aF ?aO ?aB ?aS ?aL ?_; (case aP => exact k99_mkM _ _ _ (⟨(rd_T99 l0 x8_1).f0, (rd_T99 l0 x8_1).f1, (rd_T99 l0 x8_1).f2, (rd_T99 l0 x8_1).f3, (rd_T99 l0 x8_1).f4, (rd_T99 l0 x8_1).f5⟩ : S99)); (case aB => exact (by repeat (first | (with_reducible first | exact HB.out | apply below_alloc | apply pw_below_drewN | apply below_drew1 | refine below_set ?_ GE385.out) | exact HB.out))); (case aF => exact (fun k_ hk => Kd.freshB (g := gb385) (o := .cells #[.int .i64 ((rd_T99 l0 x8_1).f0), .int .i64 ((rd_T99 l0 x8_1).f1), .int .i64 ((rd_T99 l0 x8_1).f2), .int .i64 ((rd_T99 l0 x8_1).f3), .int .i64 ((rd_T99 l0 x8_1).f4), .int .i64 ((rd_T99 l0 x8_1).f5)] 99 (0, 0)) (by (with_reducible repeat (first | refine blk_drewN ?_ _ | refine blk_drew ?_ | refine blk_alloc ?_ _)); exact BK385.out) k_ hk)); (case aO => exact (by (with_reducible repeat (first | apply Kd.R_alloc | apply Kd.R_drewN | apply Kd.R_drew)); exact Kd.R_mono HO_7.out (fun _ hk => hk.2))); (case aS => exact (below_size (by repeat (first | (with_reducible first | exact HB.out | apply below_alloc | apply pw_below_drewN | apply below_drew1 | refine below_set ?_ GE385.out) | exact HB.out)))); (case aL => have := LMc17.out; omega); intro v391 w22 ho hb hg hat; rw [← Ny390.out] at ho; have n0_ := Aside0.mk (blk_grown (g := gb385) (o := .cells #[.int .i64 ((rd_T99 l0 x8_1).f0), .int .i64 ((rd_T99 l0 x8_1).f1), .int .i64 ((rd_T99 l0 x8_1).f2), .int .i64 ((rd_T99 l0 x8_1).f3), .int .i64 ((rd_T99 l0 x8_1).f4), .int .i64 ((rd_T99 l0 x8_1).f5)] 99 (0, 0)) (by (with_reducible repeat (first | refine blk_drewN ?_ _ | refine blk_drew ?_ | refine blk_alloc ?_ _)); exact BK385.out) hg (Kd.R_away HO_7.out (fun _ hk => hk.2))); have n1_ := Aside0.mk (hb); have n2_ := Aside0.mk (ho); clear BK385; clear HB; clear HO_7; have BK385 := n0_; have HB := n1_; have HO392 := n2_; clear n0_ n1_ n2_; clear ho hb hg hat))
                go_roundg k1
                case measure => have := HK1.out; omega
                case rel => exact ⟨(y390), (wrap64 (x8_1 + 1)), (by first | rfl | (simp; done) | (simp [*]; done)), H', ⟨by have := HK1.out; omega⟩, ⟨by (with_reducible repeat (first | apply Kd.R_alloc | apply Kd.R_drewN | apply Kd.R_drew)); exact Kd.R_mono HO392.out (fun _ hk => trivial)⟩, ⟨by repeat (first | (with_reducible first | exact HB.out | apply below_alloc | apply pw_below_drewN | apply below_drew1 | refine below_set ?_ GE385.out) | exact HB.out)⟩⟩
              · rw [if_neg c17] at H
                exact absurd H (by simp)
          · replace c9 := Bool.eq_false_iff.mpr c9
            subst c9
            have H1 : (if x7_1.length < 2932031007402 then (spec_l15Turn.l0 k1 l0 a1 a2 (x7_1 ++ [(⟨(rd_T99 l0 x8_1).f0, (rd_T99 l0 x8_1).f1, (rd_T99 l0 x8_1).f2, (rd_T99 l0 x8_1).f3, (rd_T99 l0 x8_1).f4, (rd_T99 l0 x8_1).f5⟩ : S99)]) (wrap64 (x8_1 + 1))) else (none)) = some r := by rw [if_neg (show ¬ (false = true) by decide)] at H; exact H
            clear H
            have H := H1
            clear H1
            by_cases c23 : x7_1.length < 2932031007402
            · rw [if_pos c23] at H
              have LMc23 := Aside0.mk c23
              clear c23
              obtain ⟨y393, hy393⟩ : ∃ y_ : List (S99), y_ = (x7_1 ++ [(⟨(rd_T99 l0 x8_1).f0, (rd_T99 l0 x8_1).f1, (rd_T99 l0 x8_1).f2, (rd_T99 l0 x8_1).f3, (rd_T99 l0 x8_1).f4, (rd_T99 l0 x8_1).f5⟩ : S99)]) := ⟨_, rfl⟩
              replace H : (spec_l15Turn.l0 k1 l0 a1 a2 y393 (wrap64 (x8_1 + 1))) = some r := by first | (rw [hy393]; with_reducible exact H) | (have H2_ := (Option.bind_some _ _).symm.trans H; rw [hy393]; with_reducible exact H2_) | (have H2_ := (Option.bind_some _ _).symm.trans H; with_reducible exact H2_) | with_reducible exact H | (rw [hy393]; exact H) | exact H
              have Ny393 := Aside0.mk hy393
              clear hy393
              have H' := Aside0.mk H
              clear H
              have p384 : 0 ≤ (x8_1 : Int) := of_decide_eq_true (by first | (with_reducible assumption) | assumption)
              have q384 : x8_1 < (l0.length : Int) := of_decide_eq_true (by first | (with_reducible assumption) | assumption)
              obtain ⟨ad384, e384, hx384_0, hx384_1, hx384_2, hx384_3, hx384_4, hx384_5⟩ := at_T99 HR0.out x8_1 p384 q384
              cases e384
              replace hx384_0 := (HB.out.cell (World.block_lt_of_cell? w _ hx384_0)).trans hx384_0
              replace hx384_1 := (HB.out.cell (World.block_lt_of_cell? w _ hx384_1)).trans hx384_1
              replace hx384_2 := (HB.out.cell (World.block_lt_of_cell? w _ hx384_2)).trans hx384_2
              replace hx384_3 := (HB.out.cell (World.block_lt_of_cell? w _ hx384_3)).trans hx384_3
              replace hx384_4 := (HB.out.cell (World.block_lt_of_cell? w _ hx384_4)).trans hx384_4
              replace hx384_5 := (HB.out.cell (World.block_lt_of_cell? w _ hx384_5)).trans hx384_5
              replace p384 := eq_true p384
              replace q384 := eq_true q384
              go_wp2_with (first | ((with_reducible refine gate_dst (N := 9) rfl ?_); refine box_event ?hg (N := 9) ?hd (cs := #[.int .i64 0, .int .i64 0, .int .i64 0, .int .i64 0, .int .i64 0, .int .i64 0]) (t := 99) ?hr ?_; (case hd => rfl); (case hg => rfl); (case hr => first | (go_simp; done) | (go_simp; rfl)); intro gb385 hg w24 hbox hb; have n0_ := Aside0.mk (Kd.R_below (Kd.R_elderB (by (with_reducible repeat (first | apply Kd.R_alloc | apply Kd.R_drewN | apply Kd.R_drew)); exact HO_7.out) gb385 (Nat.le_of_eq hg.symm)) hb); have n1_ := Aside0.mk (below_step (by repeat (first | (with_reducible first | exact HB.out | apply below_alloc | apply pw_below_drewN | apply below_drew1) | exact HB.out)) hb); have n2_ := Aside0.mk (hbox); have n3_ := Aside0.mk ((by rw [hg]; exact (below_size (by repeat (first | (with_reducible first | exact HB.out | apply below_alloc | apply pw_below_drewN | apply below_drew1) | exact HB.out))) : w.heap.size ≤ gb385)); have n4_ := Aside0.mk ((by rw [hg]; exact (below_size (by repeat (first | (with_reducible first | exact HB.out | apply below_alloc | apply pw_below_drewN | apply below_drew1) | exact HB.out))) : w.heap.size ≤ gb385)); clear HO_7; clear HB; have HO_7 := n0_; have HB := n1_; have BK385 := n2_; have GW385 := n3_; have GE385 := n4_; clear n0_ n1_ n2_ n3_ n4_; clear hb hbox hg; have hcz25_0 : w24.cell? ⟨gb385, 0, none⟩ = some (.int .i64 0) := (blk_cell BK385.out 0).trans rfl; have hcz25_1 : w24.cell? ⟨gb385, 1, none⟩ = some (.int .i64 0) := (blk_cell BK385.out 1).trans rfl; have hcz25_2 : w24.cell? ⟨gb385, 2, none⟩ = some (.int .i64 0) := (blk_cell BK385.out 2).trans rfl; have hcz25_3 : w24.cell? ⟨gb385, 3, none⟩ = some (.int .i64 0) := (blk_cell BK385.out 3).trans rfl; have hcz25_4 : w24.cell? ⟨gb385, 4, none⟩ = some (.int .i64 0) := (blk_cell BK385.out 4).trans rfl; have hcz25_5 : w24.cell? ⟨gb385, 5, none⟩ = some (.int .i64 0) := (blk_cell BK385.out 5).trans rfl; have hfz25_0 := blk_frozen BK385.out 0; have hfz25_1 := blk_frozen BK385.out 1; have hfz25_2 := blk_frozen BK385.out 2; have hfz25_3 := blk_frozen BK385.out 3; have hfz25_4 := blk_frozen BK385.out 4; have hfz25_5 := blk_frozen BK385.out 5) | ((with_reducible refine gate_callee (f := 170) rfl ?_); refine goesL_ (some 22) rfl rfl Try.func170 (by kernel_rfl) rfl #[.agg #[.int .i64 ((rd_T99 l0 x8_1).f0), .int .i64 ((rd_T99 l0 x8_1).f1), .int .i64 ((rd_T99 l0 x8_1).f2), .int .i64 ((rd_T99 l0 x8_1).f3), .int .i64 ((rd_T99 l0 x8_1).f4), .int .i64 ((rd_T99 l0 x8_1).f5)]] rfl (by (try simp only [List.map_toArray, List.map_cons, List.map_nil]); first | done | rfl | (simp only [List.length_drop, List.length_take]; rfl)) ?_; (with_reducible refine (spec_l15Named.calls ((rd_T99 l0 x8_1).f0) ((rd_T99 l0 x8_1).f1) ((rd_T99 l0 x8_1).f2) ((rd_T99 l0 x8_1).f3) ((rd_T99 l0 x8_1).f4) ((rd_T99 l0 x8_1).f5) false _ A8.out).mono ?_); rintro e w26 ⟨rfl, hb⟩; refine ⟨_, rfl, ?_⟩; have n0_ := Aside0.mk (Kd.R_below (by (with_reducible repeat (first | apply Kd.R_alloc | apply Kd.R_drewN | apply Kd.R_drew)); exact (Kd.R_mono (Kd.R_far (p := ⟨gb385, 5, none⟩) (Kd.R_far (p := ⟨gb385, 4, none⟩) (Kd.R_far (p := ⟨gb385, 3, none⟩) (Kd.R_far (p := ⟨gb385, 2, none⟩) (Kd.R_far (p := ⟨gb385, 1, none⟩) (Kd.R_far (p := ⟨gb385, 0, none⟩) (Kd.R_mono HO_7.out (fun k_ hk => (⟨hk, hk.2⟩ : _ ∧ k_ ≠ gb385))) (fun _ hk => hk.2) (.int .i64 ((rd_T99 l0 x8_1).f0))) (fun _ hk => hk.2) (.int .i64 ((rd_T99 l0 x8_1).f1))) (fun _ hk => hk.2) (.int .i64 ((rd_T99 l0 x8_1).f2))) (fun _ hk => hk.2) (.int .i64 ((rd_T99 l0 x8_1).f3))) (fun _ hk => hk.2) (.int .i64 ((rd_T99 l0 x8_1).f4))) (fun _ hk => hk.2) (.int .i64 ((rd_T99 l0 x8_1).f5))) (fun _ h_ => h_.1))) hb); have n1_ := Aside0.mk (blk_below (g := gb385) (o := .cells #[.int .i64 ((rd_T99 l0 x8_1).f0), .int .i64 ((rd_T99 l0 x8_1).f1), .int .i64 ((rd_T99 l0 x8_1).f2), .int .i64 ((rd_T99 l0 x8_1).f3), .int .i64 ((rd_T99 l0 x8_1).f4), .int .i64 ((rd_T99 l0 x8_1).f5)] 99 (0, 0)) (by (with_reducible repeat (first | refine blk_drewN ?_ _ | refine blk_drew ?_ | refine blk_alloc ?_ _)); refine blk_put (cs := #[.int .i64 ((rd_T99 l0 x8_1).f0), .int .i64 ((rd_T99 l0 x8_1).f1), .int .i64 ((rd_T99 l0 x8_1).f2), .int .i64 ((rd_T99 l0 x8_1).f3), .int .i64 ((rd_T99 l0 x8_1).f4), .int .i64 0]) ?_ 5 _ rfl; (with_reducible repeat (first | refine blk_drewN ?_ _ | refine blk_drew ?_ | refine blk_alloc ?_ _)); refine blk_put (cs := #[.int .i64 ((rd_T99 l0 x8_1).f0), .int .i64 ((rd_T99 l0 x8_1).f1), .int .i64 ((rd_T99 l0 x8_1).f2), .int .i64 ((rd_T99 l0 x8_1).f3), .int .i64 0, .int .i64 0]) ?_ 4 _ rfl; (with_reducible repeat (first | refine blk_drewN ?_ _ | refine blk_drew ?_ | refine blk_alloc ?_ _)); refine blk_put (cs := #[.int .i64 ((rd_T99 l0 x8_1).f0), .int .i64 ((rd_T99 l0 x8_1).f1), .int .i64 ((rd_T99 l0 x8_1).f2), .int .i64 0, .int .i64 0, .int .i64 0]) ?_ 3 _ rfl; (with_reducible repeat (first | refine blk_drewN ?_ _ | refine blk_drew ?_ | refine blk_alloc ?_ _)); refine blk_put (cs := #[.int .i64 ((rd_T99 l0 x8_1).f0), .int .i64 ((rd_T99 l0 x8_1).f1), .int .i64 0, .int .i64 0, .int .i64 0, .int .i64 0]) ?_ 2 _ rfl; (with_reducible repeat (first | refine blk_drewN ?_ _ | refine blk_drew ?_ | refine blk_alloc ?_ _)); refine blk_put (cs := #[.int .i64 ((rd_T99 l0 x8_1).f0), .int .i64 0, .int .i64 0, .int .i64 0, .int .i64 0, .int .i64 0]) ?_ 1 _ rfl; (with_reducible repeat (first | refine blk_drewN ?_ _ | refine blk_drew ?_ | refine blk_alloc ?_ _)); refine blk_put (cs := #[.int .i64 0, .int .i64 0, .int .i64 0, .int .i64 0, .int .i64 0, .int .i64 0]) ?_ 0 _ rfl; (with_reducible repeat (first | refine blk_drewN ?_ _ | refine blk_drew ?_ | refine blk_alloc ?_ _)); exact BK385.out) hb); have n2_ := Aside0.mk (below_step (by repeat (first | (with_reducible first | exact HB.out | apply below_alloc | apply pw_below_drewN | apply below_drew1 | refine below_set ?_ GE385.out) | exact HB.out)) hb); clear HO_7; clear BK385; clear HB; have HO_7 := n0_; have BK385 := n1_; have HB := n2_; clear n0_ n1_ n2_; (try clear hb); (try clear hb2); (try clear hk); (try clear hi); have hcz27_0 : w26.cell? ⟨gb385, 0, none⟩ = some (.int .i64 ((rd_T99 l0 x8_1).f0)) := (blk_cell BK385.out 0).trans rfl; have hcz27_1 : w26.cell? ⟨gb385, 1, none⟩ = some (.int .i64 ((rd_T99 l0 x8_1).f1)) := (blk_cell BK385.out 1).trans rfl; have hcz27_2 : w26.cell? ⟨gb385, 2, none⟩ = some (.int .i64 ((rd_T99 l0 x8_1).f2)) := (blk_cell BK385.out 2).trans rfl; have hcz27_3 : w26.cell? ⟨gb385, 3, none⟩ = some (.int .i64 ((rd_T99 l0 x8_1).f3)) := (blk_cell BK385.out 3).trans rfl; have hcz27_4 : w26.cell? ⟨gb385, 4, none⟩ = some (.int .i64 ((rd_T99 l0 x8_1).f4)) := (blk_cell BK385.out 4).trans rfl; have hcz27_5 : w26.cell? ⟨gb385, 5, none⟩ = some (.int .i64 ((rd_T99 l0 x8_1).f5)) := (blk_cell BK385.out 5).trans rfl; have hfz27_0 := blk_frozen BK385.out 0; have hfz27_1 := blk_frozen BK385.out 1; have hfz27_2 := blk_frozen BK385.out 2; have hfz27_3 := blk_frozen BK385.out 3; have hfz27_4 := blk_frozen BK385.out 4; have hfz27_5 := blk_frozen BK385.out 5) | ((with_reducible refine gate_builtin (b := .append) (xs := #[.tmp 31, .tmp 33]) rfl ?_); at_builtin; refine Kd.R_append k99 (w0 := w) w.heap.size rfl (.tmp 31) (.tmp 33) 31 99 (.agg #[(.int .i64 0), (.int .i64 0), (.int .i64 0), (.int .i64 0), (.int .i64 0), (.int .i64 0)]) 48 rfl Try.underlying31 info99 rfl (by decide) (by omega) u7 x7_1 (⟨(rd_T99 l0 x8_1).f0, (rd_T99 l0 x8_1).f1, (rd_T99 l0 x8_1).f2, (rd_T99 l0 x8_1).f3, (rd_T99 l0 x8_1).f4, (rd_T99 l0 x8_1).f5⟩ : S99) [.int .i64 ((rd_T99 l0 x8_1).f0), .int .i64 ((rd_T99 l0 x8_1).f1), .int .i64 ((rd_T99 l0 x8_1).f2), .int .i64 ((rd_T99 l0 x8_1).f3), .int .i64 ((rd_T99 l0 x8_1).f4), .int .i64 ((rd_T99 l0 x8_1).f5)] (fun k_ => k_ ≠ gb385) (fun _ => False) rfl rfl ?aP (fun _ hk => hk.elim) ?aF ?aO ?aB ?aS ?aL ?_; (case aP => exact k99_mkM _ _ _ (⟨(rd_T99 l0 x8_1).f0, (rd_T99 l0 x8_1).f1, (rd_T99 l0 x8_1).f2, (rd_T99 l0 x8_1).f3, (rd_T99 l0 x8_1).f4, (rd_T99 l0 x8_1).f5⟩ : S99)); (case aB => exact (by repeat (first | (with_reducible first | exact HB.out | apply below_alloc | apply pw_below_drewN | apply below_drew1 | refine below_set ?_ GE385.out) | exact HB.out))); (case aF => exact (fun k_ hk => Kd.freshB (g := gb385) (o := .cells #[.int .i64 ((rd_T99 l0 x8_1).f0), .int .i64 ((rd_T99 l0 x8_1).f1), .int .i64 ((rd_T99 l0 x8_1).f2), .int .i64 ((rd_T99 l0 x8_1).f3), .int .i64 ((rd_T99 l0 x8_1).f4), .int .i64 ((rd_T99 l0 x8_1).f5)] 99 (0, 0)) (by (with_reducible repeat (first | refine blk_drewN ?_ _ | refine blk_drew ?_ | refine blk_alloc ?_ _)); exact BK385.out) k_ hk)); (case aO => exact (by (with_reducible repeat (first | apply Kd.R_alloc | apply Kd.R_drewN | apply Kd.R_drew)); exact Kd.R_mono HO_7.out (fun _ hk => hk.2))); (case aS => exact (below_size (by repeat (first | (with_reducible first | exact HB.out | apply below_alloc | apply pw_below_drewN | apply below_drew1 | refine below_set ?_ GE385.out) | exact HB.out)))); (case aL => have := LMc23.out; omega); intro v394 w28 ho hb hg hat; rw [← Ny393.out] at ho; have n0_ := Aside0.mk (blk_grown (g := gb385) (o := .cells #[.int .i64 ((rd_T99 l0 x8_1).f0), .int .i64 ((rd_T99 l0 x8_1).f1), .int .i64 ((rd_T99 l0 x8_1).f2), .int .i64 ((rd_T99 l0 x8_1).f3), .int .i64 ((rd_T99 l0 x8_1).f4), .int .i64 ((rd_T99 l0 x8_1).f5)] 99 (0, 0)) (by (with_reducible repeat (first | refine blk_drewN ?_ _ | refine blk_drew ?_ | refine blk_alloc ?_ _)); exact BK385.out) hg (Kd.R_away HO_7.out (fun _ hk => hk.2))); have n1_ := Aside0.mk (hb); have n2_ := Aside0.mk (ho); clear BK385; clear HB; clear HO_7; have BK385 := n0_; have HB := n1_; have HO395 := n2_; clear n0_ n1_ n2_; clear ho hb hg hat))
              go_roundg k1
              case measure => have := HK1.out; omega
              case rel => exact ⟨(y393), (wrap64 (x8_1 + 1)), (by first | rfl | (simp; done) | (simp [*]; done)), H', ⟨by have := HK1.out; omega⟩, ⟨by (with_reducible repeat (first | apply Kd.R_alloc | apply Kd.R_drewN | apply Kd.R_drew)); exact Kd.R_mono HO395.out (fun _ hk => trivial)⟩, ⟨by repeat (first | (with_reducible first | exact HB.out | apply below_alloc | apply pw_below_drewN | apply below_drew1 | refine below_set ?_ GE385.out) | exact HB.out)⟩⟩
            · rw [if_neg c23] at H
              exact absurd H (by simp)
        · rw [if_neg c7] at H
          exact absurd H (by simp)
      · rw [if_neg c6] at H
        have c6b0 : decide (x8_1 < (l0.length : Int)) = false := decide_eq_false c6
        clear c6
        obtain rfl := Option.some.inj H
        go_wp2
        go_ret
        exact ⟨_, by first | rfl | (simp [errW_none, errW_some] <;> rfl) | (simp [*, errW_none, errW_some] <;> rfl), by (with_reducible repeat (first | apply Kd.R_alloc | apply Kd.R_drewN | apply Kd.R_drew)); exact HO_7.out, by repeat (first | (with_reducible first | exact HB.out | apply below_alloc | apply pw_below_drewN | apply below_drew1) | exact HB.out)⟩

/-! ### spec_Rename: function 36 -/
def spec_Rename.f (k : Nat) (l0 : List (S99)) (a1 : Int) (a2 : Int) : Option ((List (S99)) × Bool) := (y_sTermOk.f l0).bind fun t396 => (if t396 = true then ((spec_l01In.f a2 0 7).bind fun t397 => (if t397 = true then (if a2 = a1 then ((spec_l15Turn.f k l0 a1 a2).bind fun t398 => (some (t398, true))) else ((spec_l15Nums.f k l0).bind fun t401 => (if 0 ≤ a2 then (if a2 < (t401.length : Int) then (if rdOf false t401 a2 = true then (some ((([] : List (S99))), false)) else ((spec_l15Turn.f k l0 a1 a2).bind fun t408 => (some (t408, true)))) else (none)) else (none)))) else (some ((([] : List (S99))), false)))) else (some ((([] : List (S99))), false)))
theorem spec_Rename.mono : ∀ a0 a1 a2 k, LeO (spec_Rename.f k a0 a1 a2) (spec_Rename.f (k + 1) a0 a1 a2) := by
  intro a0 a1 a2 k
  unfold spec_Rename.f
  repeat' first
      | (with_reducible exact spec_l15Nums.mono _ _)
      | (with_reducible exact spec_l15Turn.mono _ _ _ _)
      | (with_reducible exact LeO.refl _)
      | (with_reducible exact LeO.none _)
      | (with_reducible refine LeO.ite ?_ ?_)
      | (with_reducible refine LeO.bind ?_ (fun _ => ?_))
      | exact spec_l15Nums.mono _ _
      | exact spec_l15Turn.mono _ _ _ _
      | exact LeO.none _
      | refine LeO.ite ?_ ?_
      | refine LeO.bind ?_ (fun _ => ?_)
set_option maxHeartbeats 8000000 in
set_option maxRecDepth 100000 in
theorem spec_Rename.calls (k : Nat) (A0 : Option Addr) (c0 : Nat) (l0 : List (S99)) (a1 : Int) (a2 : Int) (r1 : List (S99)) (r2 : Bool) (w : World) (hr0 : Kd.C k99 w A0 l0.length l0) (hc0 : l0.length ≤ c0) (h : spec_Rename.f k l0 a1 a2 = some (r1, r2)) :
    Calls Try.prog 36 #[.slice A0 l0.length c0, .int .i64 a1, .int .i64 a2] w fun e w' => ∃ v0_ : Value, e = .returned (.tuple #[v0_, .bool r2]) ∧ Kd.R k99 99 w' w.heap.size (fun _ => True) v0_ r1 ∧ Below w.heap.size w w' := by
  have HR0 := Aside0.mk hr0
  have HC0 := Aside0.mk hc0
  clear hr0 hc0
  have HB := Aside0.mk (Below.refl w.heap.size w)
  have H : ((y_sTermOk.f l0).bind fun t396 => (if t396 = true then ((spec_l01In.f a2 0 7).bind fun t397 => (if t397 = true then (if a2 = a1 then ((spec_l15Turn.f k l0 a1 a2).bind fun t398 => (some (t398, true))) else ((spec_l15Nums.f k l0).bind fun t401 => (if 0 ≤ a2 then (if a2 < (t401.length : Int) then (if rdOf false t401 a2 = true then (some ((([] : List (S99))), false)) else ((spec_l15Turn.f k l0 a1 a2).bind fun t408 => (some (t408, true)))) else (none)) else (none)))) else (some ((([] : List (S99))), false)))) else (some ((([] : List (S99))), false)))) = some (r1, r2) := h
  clear h
  replace H := Option.bind_eq_some_iff.mp H
  obtain ⟨t396, A40, H⟩ := H
  replace H : (if t396 = true then ((spec_l01In.f a2 0 7).bind fun t397 => (if t397 = true then (if a2 = a1 then ((spec_l15Turn.f k l0 a1 a2).bind fun t398 => (some (t398, true))) else ((spec_l15Nums.f k l0).bind fun t401 => (if 0 ≤ a2 then (if a2 < (t401.length : Int) then (if rdOf false t401 a2 = true then (some ((([] : List (S99))), false)) else ((spec_l15Turn.f k l0 a1 a2).bind fun t408 => (some (t408, true)))) else (none)) else (none)))) else (some ((([] : List (S99))), false)))) else (some ((([] : List (S99))), false))) = some (r1, r2) := H
  have A4 := Aside0.mk A40
  clear A40
  by_cases c5 : t396 = true
  · subst c5
    have H1 : ((spec_l01In.f a2 0 7).bind fun t397 => (if t397 = true then (if a2 = a1 then ((spec_l15Turn.f k l0 a1 a2).bind fun t398 => (some (t398, true))) else ((spec_l15Nums.f k l0).bind fun t401 => (if 0 ≤ a2 then (if a2 < (t401.length : Int) then (if rdOf false t401 a2 = true then (some ((([] : List (S99))), false)) else ((spec_l15Turn.f k l0 a1 a2).bind fun t408 => (some (t408, true)))) else (none)) else (none)))) else (some ((([] : List (S99))), false)))) = some (r1, r2) := by rw [if_pos rfl] at H; exact H
    clear H
    have H := H1
    clear H1
    replace H := Option.bind_eq_some_iff.mp H
    obtain ⟨t397, A60, H⟩ := H
    replace H : (if t397 = true then (if a2 = a1 then ((spec_l15Turn.f k l0 a1 a2).bind fun t398 => (some (t398, true))) else ((spec_l15Nums.f k l0).bind fun t401 => (if 0 ≤ a2 then (if a2 < (t401.length : Int) then (if rdOf false t401 a2 = true then (some ((([] : List (S99))), false)) else ((spec_l15Turn.f k l0 a1 a2).bind fun t408 => (some (t408, true)))) else (none)) else (none)))) else (some ((([] : List (S99))), false))) = some (r1, r2) := H
    have A6 := Aside0.mk A60
    clear A60
    by_cases c7 : t397 = true
    · subst c7
      have H1 : (if a2 = a1 then ((spec_l15Turn.f k l0 a1 a2).bind fun t398 => (some (t398, true))) else ((spec_l15Nums.f k l0).bind fun t401 => (if 0 ≤ a2 then (if a2 < (t401.length : Int) then (if rdOf false t401 a2 = true then (some ((([] : List (S99))), false)) else ((spec_l15Turn.f k l0 a1 a2).bind fun t408 => (some (t408, true)))) else (none)) else (none)))) = some (r1, r2) := by rw [if_pos rfl] at H; exact H
      clear H
      have H := H1
      clear H1
      by_cases c8 : a2 = a1
      · rw [if_pos c8] at H
        have c8b0 : (a2 == a1) = true := beq_iff_eq.mpr c8
        have c8b1 : (a2 != a1) = false := bne_eq_false_iff_eq.mpr c8
        clear c8
        replace H := Option.bind_eq_some_iff.mp H
        obtain ⟨t398, A90, H⟩ := H
        replace H : (some (t398, true)) = some (r1, r2) := H
        have A9 := Aside0.mk A90
        clear A90
        simp only [Option.some.injEq, Prod.mk.injEq] at H
        obtain ⟨rfl, rfl⟩ := H
        go_enter Try.func36, Try.ntmps36
        go_wp2_with (first | ((with_reducible refine gate_callee (f := 83) rfl ?_); refine goesL_ (some 9) rfl rfl Try.func83 (by kernel_rfl) rfl #[.slice A0 l0.length c0] rfl (by (try simp only [List.map_toArray, List.map_cons, List.map_nil]); first | done | rfl | (simp only [List.length_drop, List.length_take]; rfl)) ?_; (with_reducible refine (y_sTermOk.calls _ _ l0 true _ ?side1 ?side2 A4.out).mono ?_); (case side1 => repeat (first | exact HR0.out | (with_reducible refine Kd.C_alloc ?_ _) | (with_reducible refine Kd.C_drewN ?_ _) | (with_reducible refine Kd.C_drew ?_))); (case side2 => exact HC0.out); rintro e w10 ⟨rfl, hb⟩; refine ⟨_, rfl, ?_⟩; have n0_ := Aside0.mk (below_step (by repeat (first | (with_reducible first | exact HB.out | apply below_alloc | apply pw_below_drewN | apply below_drew1) | exact HB.out)) hb); clear HB; have HB := n0_; clear n0_; (try clear hb); (try clear hb2); (try clear hk); (try clear hi)) | (go_at_call 93; (with_reducible refine (spec_l01In.calls a2 0 7 true _ A6.out).mono ?_); rintro e w' ⟨rfl, ⟨nd, rfl⟩⟩) | ((with_reducible refine gate_callee (f := 95) rfl ?_); refine goesL_ (some 32) rfl rfl Try.func95 (by kernel_rfl) rfl #[.slice A0 l0.length c0, .int .i64 a1, .int .i64 a2] rfl (by (try simp only [List.map_toArray, List.map_cons, List.map_nil]); first | done | rfl | (simp only [List.length_drop, List.length_take]; rfl)) ?_; (with_reducible refine (spec_l15Turn.calls k _ _ l0 a1 a2 t398 _ ?side1 ?side2 A9.out).mono ?_); (case side1 => repeat (first | exact (Kd.C_below HR0.out (by repeat (first | (with_reducible first | exact HB.out | apply below_alloc | apply pw_below_drewN | apply below_drew1) | exact HB.out))) | (with_reducible refine Kd.C_alloc ?_ _) | (with_reducible refine Kd.C_drewN ?_ _) | (with_reducible refine Kd.C_drew ?_))); (case side2 => exact HC0.out); rintro e w11 ⟨v399, rfl, ho0, hb⟩; refine ⟨_, rfl, ?_⟩; have n0_ := Aside0.mk (Kd.R_lower ho0 (below_size (by repeat (first | (with_reducible first | exact HB.out | apply below_alloc | apply pw_below_drewN | apply below_drew1) | exact HB.out)))); have n1_ := Aside0.mk (below_step (by repeat (first | (with_reducible first | exact HB.out | apply below_alloc | apply pw_below_drewN | apply below_drew1) | exact HB.out)) hb); clear HB; have HO400 := n0_; have HB := n1_; clear n0_ n1_; (try clear hb); (try clear hb2); (try clear hk); (try clear hi); (try clear ho0)))
        go_ret2
        exact ⟨_, by first | rfl | (simp [errW_none, errW_some] <;> rfl) | (simp [*, errW_none, errW_some] <;> rfl), by (with_reducible repeat (first | apply Kd.R_alloc | apply Kd.R_drewN | apply Kd.R_drew)); exact HO400.out, by repeat (first | (with_reducible first | exact HB.out | apply below_alloc | apply pw_below_drewN | apply below_drew1) | exact HB.out)⟩
      · rw [if_neg c8] at H
        have c8b0 : (a2 == a1) = false := beq_eq_false_iff_ne.mpr c8
        have c8b1 : (a2 != a1) = true := bne_iff_ne.mpr c8
        replace H := Option.bind_eq_some_iff.mp H
        obtain ⟨t401, A120, H⟩ := H
        replace H : (if 0 ≤ a2 then (if a2 < (t401.length : Int) then (if rdOf false t401 a2 = true then (some ((([] : List (S99))), false)) else ((spec_l15Turn.f k l0 a1 a2).bind fun t408 => (some (t408, true)))) else (none)) else (none)) = some (r1, r2) := H
        have A12 := Aside0.mk A120
        clear A120
        by_cases c13 : 0 ≤ a2
        · rw [if_pos c13] at H
          have c13b0 : decide (0 ≤ a2) = true := decide_eq_true c13
          clear c13
          by_cases c14 : a2 < (t401.length : Int)
          · rw [if_pos c14] at H
            have c14b0 : decide (a2 < (t401.length : Int)) = true := decide_eq_true c14
            clear c14
            obtain ⟨bq15, hbq15⟩ : ∃ b_ : Bool, b_ = (rdOf false t401 a2) := ⟨_, rfl⟩
            replace H : (if bq15 = true then (some ((([] : List (S99))), false)) else ((spec_l15Turn.f k l0 a1 a2).bind fun t408 => (some (t408, true)))) = some (r1, r2) := by rw [← hbq15] at H; exact H
            have Nbq15 := Aside0.mk hbq15
            clear hbq15
            by_cases c16 : bq15 = true
            · subst c16
              have H1 : (some ((([] : List (S99))), false)) = some (r1, r2) := by rw [if_pos rfl] at H; exact H
              clear H
              have H := H1
              clear H1
              obtain ⟨y405, hy405⟩ : ∃ y_ : List (S99), y_ = (([] : List (S99))) := ⟨_, rfl⟩
              replace H : (some (y405, false)) = some (r1, r2) := by first | (rw [hy405]; with_reducible exact H) | (have H2_ := (Option.bind_some _ _).symm.trans H; rw [hy405]; with_reducible exact H2_) | (have H2_ := (Option.bind_some _ _).symm.trans H; with_reducible exact H2_) | with_reducible exact H | (rw [hy405]; exact H) | exact H
              have Ny405 := Aside0.mk hy405
              clear hy405
              simp only [Option.some.injEq, Prod.mk.injEq] at H
              obtain ⟨rfl, rfl⟩ := H
              go_enter Try.func36, Try.ntmps36
              go_wp2_with (first | ((with_reducible refine gate_callee (f := 83) rfl ?_); refine goesL_ (some 9) rfl rfl Try.func83 (by kernel_rfl) rfl #[.slice A0 l0.length c0] rfl (by (try simp only [List.map_toArray, List.map_cons, List.map_nil]); first | done | rfl | (simp only [List.length_drop, List.length_take]; rfl)) ?_; (with_reducible refine (y_sTermOk.calls _ _ l0 true _ ?side1 ?side2 A4.out).mono ?_); (case side1 => repeat (first | exact HR0.out | (with_reducible refine Kd.C_alloc ?_ _) | (with_reducible refine Kd.C_drewN ?_ _) | (with_reducible refine Kd.C_drew ?_))); (case side2 => exact HC0.out); rintro e w17 ⟨rfl, hb⟩; refine ⟨_, rfl, ?_⟩; have n0_ := Aside0.mk (below_step (by repeat (first | (with_reducible first | exact HB.out | apply below_alloc | apply pw_below_drewN | apply below_drew1) | exact HB.out)) hb); clear HB; have HB := n0_; clear n0_; (try clear hb); (try clear hb2); (try clear hk); (try clear hi)) | (go_at_call 93; (with_reducible refine (spec_l01In.calls a2 0 7 true _ A6.out).mono ?_); rintro e w' ⟨rfl, ⟨nd, rfl⟩⟩) | (go_at_call 94; (with_reducible refine (spec_l15Nums.calls k _ _ l0 t401 _ ?side1 ?side2 A12.out).mono ?_); (case side1 => repeat (first | exact (Kd.C_below HR0.out (by repeat (first | (with_reducible first | exact HB.out | apply below_alloc | apply pw_below_drewN | apply below_drew1) | exact HB.out))) | (with_reducible refine Kd.C_alloc ?_ _) | (with_reducible refine Kd.C_drewN ?_ _) | (with_reducible refine Kd.C_drew ?_))); (case side2 => exact HC0.out); rintro e w18 ⟨v402, rfl, ho0, hb⟩; have n0_ := Aside0.mk (Kd.R_lower ho0 (below_size (by repeat (first | (with_reducible first | exact HB.out | apply below_alloc | apply pw_below_drewN | apply below_drew1) | exact HB.out)))); have n1_ := Aside0.mk (below_step (by repeat (first | (with_reducible first | exact HB.out | apply below_alloc | apply pw_below_drewN | apply below_drew1) | exact HB.out)) hb); clear HB; have HO403 := n0_; have HB := n1_; clear n0_ n1_; (try clear hb); (try clear hb2); (try clear hk); (try clear hi); (try clear ho0); obtain ⟨Ao19, co19, eo19⟩ := Kd.R_slice HO403.out; subst eo19; have p404 : 0 ≤ (a2 : Int) := of_decide_eq_true (by first | (with_reducible assumption) | assumption); have q404 : a2 < (t401.length : Int) := of_decide_eq_true (by first | (with_reducible assumption) | assumption); obtain ⟨ad404, e404, hx404_0⟩ := Kd.at_bool (Kd.R_reads' HO403.out).2.2 a2 p404 q404; (try rw [← Nbq15.out] at hx404_0); cases e404; replace p404 := eq_true p404; replace q404 := eq_true q404) | ((with_reducible refine gate_dst (N := 28) rfl ?_); refine Kd.R_lit k99 _ 99 ?hg (N := 28) ?hd (xs := ([] : List (S99))) (inner := []) (ok := fun _ => True) (okp := fun _ => True) ?hr ?hp (fun _ hk => hk) trivial (Below.refl _ _) (Nat.le_refl _) (by simp) ?_; (case hd => rfl); (case hg => rfl); (case hr => first | (go_simp; done) | (go_simp; rfl)); (case hp => exact (Reps.none _ _)); intro v406 w20 ho21 hb hg_ hnew_; clear hg_ hnew_; (first | rw [← Ny405.out] at ho21 | (simp only [Int.reduceToNat] at ho21; rw [← Ny405.out] at ho21)); have n0_ := Aside0.mk (Kd.R_below (by (with_reducible repeat (first | apply Kd.R_alloc | apply Kd.R_drewN | apply Kd.R_drew)); exact HO403.out) hb); have n1_ := Aside0.mk (Kd.R_lower ho21 (below_size (by repeat (first | (with_reducible first | exact HB.out | apply below_alloc | apply pw_below_drewN | apply below_drew1) | exact HB.out)))); have n2_ := Aside0.mk (below_step (by repeat (first | (with_reducible first | exact HB.out | apply below_alloc | apply pw_below_drewN | apply below_drew1) | exact HB.out)) hb); clear HO403; clear HB; have HO403 := n0_; have HO407 := n1_; have HB := n2_; clear n0_ n1_ n2_; clear hb ho21))
              go_ret2
              exact ⟨_, by first | rfl | (simp [errW_none, errW_some] <;> rfl) | (simp [*, errW_none, errW_some] <;> rfl), by (with_reducible repeat (first | apply Kd.R_alloc | apply Kd.R_drewN | apply Kd.R_drew)); exact HO407.out, by repeat (first | (with_reducible first | exact HB.out | apply below_alloc | apply pw_below_drewN | apply below_drew1) | exact HB.out)⟩
            · replace c16 := Bool.eq_false_iff.mpr c16
              subst c16
              have H1 : ((spec_l15Turn.f k l0 a1 a2).bind fun t408 => (some (t408, true))) = some (r1, r2) := by rw [if_neg (show ¬ (false = true) by decide)] at H; exact H
              clear H
              have H := H1
              clear H1
              replace H := Option.bind_eq_some_iff.mp H
              obtain ⟨t408, A220, H⟩ := H
              replace H : (some (t408, true)) = some (r1, r2) := H
              have A22 := Aside0.mk A220
              clear A220
              simp only [Option.some.injEq, Prod.mk.injEq] at H
              obtain ⟨rfl, rfl⟩ := H
              go_enter Try.func36, Try.ntmps36
              go_wp2_with (first | ((with_reducible refine gate_callee (f := 83) rfl ?_); refine goesL_ (some 9) rfl rfl Try.func83 (by kernel_rfl) rfl #[.slice A0 l0.length c0] rfl (by (try simp only [List.map_toArray, List.map_cons, List.map_nil]); first | done | rfl | (simp only [List.length_drop, List.length_take]; rfl)) ?_; (with_reducible refine (y_sTermOk.calls _ _ l0 true _ ?side1 ?side2 A4.out).mono ?_); (case side1 => repeat (first | exact HR0.out | (with_reducible refine Kd.C_alloc ?_ _) | (with_reducible refine Kd.C_drewN ?_ _) | (with_reducible refine Kd.C_drew ?_))); (case side2 => exact HC0.out); rintro e w23 ⟨rfl, hb⟩; refine ⟨_, rfl, ?_⟩; have n0_ := Aside0.mk (below_step (by repeat (first | (with_reducible first | exact HB.out | apply below_alloc | apply pw_below_drewN | apply below_drew1) | exact HB.out)) hb); clear HB; have HB := n0_; clear n0_; (try clear hb); (try clear hb2); (try clear hk); (try clear hi)) | (go_at_call 93; (with_reducible refine (spec_l01In.calls a2 0 7 true _ A6.out).mono ?_); rintro e w' ⟨rfl, ⟨nd, rfl⟩⟩) | (go_at_call 94; (with_reducible refine (spec_l15Nums.calls k _ _ l0 t401 _ ?side1 ?side2 A12.out).mono ?_); (case side1 => repeat (first | exact (Kd.C_below HR0.out (by repeat (first | (with_reducible first | exact HB.out | apply below_alloc | apply pw_below_drewN | apply below_drew1) | exact HB.out))) | (with_reducible refine Kd.C_alloc ?_ _) | (with_reducible refine Kd.C_drewN ?_ _) | (with_reducible refine Kd.C_drew ?_))); (case side2 => exact HC0.out); rintro e w24 ⟨v402, rfl, ho0, hb⟩; have n0_ := Aside0.mk (Kd.R_lower ho0 (below_size (by repeat (first | (with_reducible first | exact HB.out | apply below_alloc | apply pw_below_drewN | apply below_drew1) | exact HB.out)))); have n1_ := Aside0.mk (below_step (by repeat (first | (with_reducible first | exact HB.out | apply below_alloc | apply pw_below_drewN | apply below_drew1) | exact HB.out)) hb); clear HB; have HO403 := n0_; have HB := n1_; clear n0_ n1_; (try clear hb); (try clear hb2); (try clear hk); (try clear hi); (try clear ho0); obtain ⟨Ao25, co25, eo25⟩ := Kd.R_slice HO403.out; subst eo25; have p404 : 0 ≤ (a2 : Int) := of_decide_eq_true (by first | (with_reducible assumption) | assumption); have q404 : a2 < (t401.length : Int) := of_decide_eq_true (by first | (with_reducible assumption) | assumption); obtain ⟨ad404, e404, hx404_0⟩ := Kd.at_bool (Kd.R_reads' HO403.out).2.2 a2 p404 q404; (try rw [← Nbq15.out] at hx404_0); cases e404; replace p404 := eq_true p404; replace q404 := eq_true q404) | ((with_reducible refine gate_callee (f := 95) rfl ?_); refine goesL_ (some 32) rfl rfl Try.func95 (by kernel_rfl) rfl #[.slice A0 l0.length c0, .int .i64 a1, .int .i64 a2] rfl (by (try simp only [List.map_toArray, List.map_cons, List.map_nil]); first | done | rfl | (simp only [List.length_drop, List.length_take]; rfl)) ?_; (with_reducible refine (spec_l15Turn.calls k _ _ l0 a1 a2 t408 _ ?side1 ?side2 A22.out).mono ?_); (case side1 => repeat (first | exact (Kd.C_below HR0.out HB.out) | (with_reducible refine Kd.C_alloc ?_ _) | (with_reducible refine Kd.C_drewN ?_ _) | (with_reducible refine Kd.C_drew ?_))); (case side2 => exact HC0.out); rintro e w26 ⟨v409, rfl, ho0, hb⟩; refine ⟨_, rfl, ?_⟩; have n0_ := Aside0.mk (Kd.R_below (by (with_reducible repeat (first | apply Kd.R_alloc | apply Kd.R_drewN | apply Kd.R_drew)); exact HO403.out) hb); have n1_ := Aside0.mk (Kd.R_lower ho0 (below_size (by repeat (first | (with_reducible first | exact HB.out | apply below_alloc | apply pw_below_drewN | apply below_drew1) | exact HB.out)))); have n2_ := Aside0.mk (below_step (by repeat (first | (with_reducible first | exact HB.out | apply below_alloc | apply pw_below_drewN | apply below_drew1) | exact HB.out)) hb); clear HO403; clear HB; have HO403 := n0_; have HO410 := n1_; have HB := n2_; clear n0_ n1_ n2_; (try clear hb); (try clear hb2); (try clear hk); (try clear hi); (try clear ho0)))
              go_ret2
              exact ⟨_, by first | rfl | (simp [errW_none, errW_some] <;> rfl) | (simp [*, errW_none, errW_some] <;> rfl), by (with_reducible repeat (first | apply Kd.R_alloc | apply Kd.R_drewN | apply Kd.R_drew)); exact HO410.out, by repeat (first | (with_reducible first | exact HB.out | apply below_alloc | apply pw_below_drewN | apply below_drew1) | exact HB.out)⟩
          · rw [if_neg c14] at H
            exact absurd H (by simp)
        · rw [if_neg c13] at H
          exact absurd H (by simp)
    · replace c7 := Bool.eq_false_iff.mpr c7
      subst c7
      have H1 : (some ((([] : List (S99))), false)) = some (r1, r2) := by rw [if_neg (show ¬ (false = true) by decide)] at H; exact H
      clear H
      have H := H1
      clear H1
      obtain ⟨y411, hy411⟩ : ∃ y_ : List (S99), y_ = (([] : List (S99))) := ⟨_, rfl⟩
      replace H : (some (y411, false)) = some (r1, r2) := by first | (rw [hy411]; with_reducible exact H) | (have H2_ := (Option.bind_some _ _).symm.trans H; rw [hy411]; with_reducible exact H2_) | (have H2_ := (Option.bind_some _ _).symm.trans H; with_reducible exact H2_) | with_reducible exact H | (rw [hy411]; exact H) | exact H
      have Ny411 := Aside0.mk hy411
      clear hy411
      simp only [Option.some.injEq, Prod.mk.injEq] at H
      obtain ⟨rfl, rfl⟩ := H
      go_enter Try.func36, Try.ntmps36
      go_wp2_with (first | ((with_reducible refine gate_callee (f := 83) rfl ?_); refine goesL_ (some 9) rfl rfl Try.func83 (by kernel_rfl) rfl #[.slice A0 l0.length c0] rfl (by (try simp only [List.map_toArray, List.map_cons, List.map_nil]); first | done | rfl | (simp only [List.length_drop, List.length_take]; rfl)) ?_; (with_reducible refine (y_sTermOk.calls _ _ l0 true _ ?side1 ?side2 A4.out).mono ?_); (case side1 => repeat (first | exact HR0.out | (with_reducible refine Kd.C_alloc ?_ _) | (with_reducible refine Kd.C_drewN ?_ _) | (with_reducible refine Kd.C_drew ?_))); (case side2 => exact HC0.out); rintro e w27 ⟨rfl, hb⟩; refine ⟨_, rfl, ?_⟩; have n0_ := Aside0.mk (below_step (by repeat (first | (with_reducible first | exact HB.out | apply below_alloc | apply pw_below_drewN | apply below_drew1) | exact HB.out)) hb); clear HB; have HB := n0_; clear n0_; (try clear hb); (try clear hb2); (try clear hk); (try clear hi)) | (go_at_call 93; (with_reducible refine (spec_l01In.calls a2 0 7 false _ A6.out).mono ?_); rintro e w' ⟨rfl, ⟨nd, rfl⟩⟩) | ((with_reducible refine gate_dst (N := 28) rfl ?_); refine Kd.R_lit k99 _ 99 ?hg (N := 28) ?hd (xs := ([] : List (S99))) (inner := []) (ok := fun _ => True) (okp := fun _ => True) ?hr ?hp (fun _ hk => hk) trivial (Below.refl _ _) (Nat.le_refl _) (by simp) ?_; (case hd => rfl); (case hg => rfl); (case hr => first | (go_simp; done) | (go_simp; rfl)); (case hp => exact (Reps.none _ _)); intro v412 w28 ho29 hb hg_ hnew_; clear hg_ hnew_; (first | rw [← Ny411.out] at ho29 | (simp only [Int.reduceToNat] at ho29; rw [← Ny411.out] at ho29)); have n0_ := Aside0.mk (Kd.R_lower ho29 (below_size (by repeat (first | (with_reducible first | exact HB.out | apply below_alloc | apply pw_below_drewN | apply below_drew1) | exact HB.out)))); have n1_ := Aside0.mk (below_step (by repeat (first | (with_reducible first | exact HB.out | apply below_alloc | apply pw_below_drewN | apply below_drew1) | exact HB.out)) hb); clear HB; have HO413 := n0_; have HB := n1_; clear n0_ n1_; clear hb ho29))
      go_ret2
      exact ⟨_, by first | rfl | (simp [errW_none, errW_some] <;> rfl) | (simp [*, errW_none, errW_some] <;> rfl), by (with_reducible repeat (first | apply Kd.R_alloc | apply Kd.R_drewN | apply Kd.R_drew)); exact HO413.out, by repeat (first | (with_reducible first | exact HB.out | apply below_alloc | apply pw_below_drewN | apply below_drew1) | exact HB.out)⟩
  · replace c5 := Bool.eq_false_iff.mpr c5
    subst c5
    have H1 : (some ((([] : List (S99))), false)) = some (r1, r2) := by rw [if_neg (show ¬ (false = true) by decide)] at H; exact H
    clear H
    have H := H1
    clear H1
    obtain ⟨y414, hy414⟩ : ∃ y_ : List (S99), y_ = (([] : List (S99))) := ⟨_, rfl⟩
    replace H : (some (y414, false)) = some (r1, r2) := by first | (rw [hy414]; with_reducible exact H) | (have H2_ := (Option.bind_some _ _).symm.trans H; rw [hy414]; with_reducible exact H2_) | (have H2_ := (Option.bind_some _ _).symm.trans H; with_reducible exact H2_) | with_reducible exact H | (rw [hy414]; exact H) | exact H
    have Ny414 := Aside0.mk hy414
    clear hy414
    simp only [Option.some.injEq, Prod.mk.injEq] at H
    obtain ⟨rfl, rfl⟩ := H
    go_enter Try.func36, Try.ntmps36
    go_wp2_with (first | ((with_reducible refine gate_callee (f := 83) rfl ?_); refine goesL_ (some 9) rfl rfl Try.func83 (by kernel_rfl) rfl #[.slice A0 l0.length c0] rfl (by (try simp only [List.map_toArray, List.map_cons, List.map_nil]); first | done | rfl | (simp only [List.length_drop, List.length_take]; rfl)) ?_; (with_reducible refine (y_sTermOk.calls _ _ l0 false _ ?side1 ?side2 A4.out).mono ?_); (case side1 => repeat (first | exact HR0.out | (with_reducible refine Kd.C_alloc ?_ _) | (with_reducible refine Kd.C_drewN ?_ _) | (with_reducible refine Kd.C_drew ?_))); (case side2 => exact HC0.out); rintro e w30 ⟨rfl, hb⟩; refine ⟨_, rfl, ?_⟩; have n0_ := Aside0.mk (below_step (by repeat (first | (with_reducible first | exact HB.out | apply below_alloc | apply pw_below_drewN | apply below_drew1) | exact HB.out)) hb); clear HB; have HB := n0_; clear n0_; (try clear hb); (try clear hb2); (try clear hk); (try clear hi)) | ((with_reducible refine gate_dst (N := 28) rfl ?_); refine Kd.R_lit k99 _ 99 ?hg (N := 28) ?hd (xs := ([] : List (S99))) (inner := []) (ok := fun _ => True) (okp := fun _ => True) ?hr ?hp (fun _ hk => hk) trivial (Below.refl _ _) (Nat.le_refl _) (by simp) ?_; (case hd => rfl); (case hg => rfl); (case hr => first | (go_simp; done) | (go_simp; rfl)); (case hp => exact (Reps.none _ _)); intro v415 w31 ho32 hb hg_ hnew_; clear hg_ hnew_; (first | rw [← Ny414.out] at ho32 | (simp only [Int.reduceToNat] at ho32; rw [← Ny414.out] at ho32)); have n0_ := Aside0.mk (Kd.R_lower ho32 (below_size (by repeat (first | (with_reducible first | exact HB.out | apply below_alloc | apply pw_below_drewN | apply below_drew1) | exact HB.out)))); have n1_ := Aside0.mk (below_step (by repeat (first | (with_reducible first | exact HB.out | apply below_alloc | apply pw_below_drewN | apply below_drew1) | exact HB.out)) hb); clear HB; have HO416 := n0_; have HB := n1_; clear n0_ n1_; clear hb ho32))
    go_ret2
    exact ⟨_, by first | rfl | (simp [errW_none, errW_some] <;> rfl) | (simp [*, errW_none, errW_some] <;> rfl), by (with_reducible repeat (first | apply Kd.R_alloc | apply Kd.R_drewN | apply Kd.R_drew)); exact HO416.out, by repeat (first | (with_reducible first | exact HB.out | apply below_alloc | apply pw_below_drewN | apply below_drew1) | exact HB.out)⟩

/-! ### impl_ofVar: function 97 -/
def impl_ofVar.f (a0_0 : Int) (a0_1 : Int) (a0_2 : Int) (a0_3 : Int) (a0_4 : Int) (a0_5 : Int) : Option (Bool) := if a0_0 = 1 then (some true) else ((impl_isQuant.f a0_0 a0_1 a0_2 a0_3 a0_4 a0_5).bind fun t418 => (some t418))
set_option maxHeartbeats 8000000 in
set_option maxRecDepth 100000 in
theorem impl_ofVar.calls (a0_0 : Int) (a0_1 : Int) (a0_2 : Int) (a0_3 : Int) (a0_4 : Int) (a0_5 : Int) (r : Bool) (w : World) (h : impl_ofVar.f a0_0 a0_1 a0_2 a0_3 a0_4 a0_5 = some r) :
    Calls Try.prog 97 #[.agg #[.int .i64 a0_0, .int .i64 a0_1, .int .i64 a0_2, .int .i64 a0_3, .int .i64 a0_4, .int .i64 a0_5]] w fun e w' => e = .returned (.bool r) ∧ Below w.heap.size w w' := by
  have hu99 := Try.underlying99
  have HB := Aside0.mk (Below.refl w.heap.size w)
  have H : (if a0_0 = 1 then (some true) else ((impl_isQuant.f a0_0 a0_1 a0_2 a0_3 a0_4 a0_5).bind fun t418 => (some t418))) = some r := h
  clear h
  by_cases c2 : a0_0 = 1
  · rw [if_pos c2] at H
    have c2b0 : (a0_0 == 1) = true := beq_iff_eq.mpr c2
    have c2b1 : (a0_0 != 1) = false := bne_eq_false_iff_eq.mpr c2
    clear c2
    obtain rfl := Option.some.inj H
    go_enter Try.func97, Try.ntmps97
    go_wp2_with (first | ((with_reducible refine gate_dst (N := 1) rfl ?_); refine box_event ?hg (N := 1) ?hd (cs := #[.int .i64 a0_0, .int .i64 a0_1, .int .i64 a0_2, .int .i64 a0_3, .int .i64 a0_4, .int .i64 a0_5]) (t := 99) ?hr ?_; (case hd => rfl); (case hg => rfl); (case hr => first | (go_simp; done) | (go_simp; rfl)); intro gb417 hg w3 hbox hb; have n0_ := Aside0.mk (below_step (by repeat (first | (with_reducible first | exact HB.out | apply below_alloc | apply pw_below_drewN | apply below_drew1) | exact HB.out)) hb); have n1_ := Aside0.mk (hbox); have n2_ := Aside0.mk ((by rw [hg]; exact (below_size (by repeat (first | (with_reducible first | exact HB.out | apply below_alloc | apply pw_below_drewN | apply below_drew1) | exact HB.out))) : w.heap.size ≤ gb417)); have n3_ := Aside0.mk ((by rw [hg]; exact (below_size (by repeat (first | (with_reducible first | exact HB.out | apply below_alloc | apply pw_below_drewN | apply below_drew1) | exact HB.out))) : w.heap.size ≤ gb417)); clear HB; have HB := n0_; have BK417 := n1_; have GW417 := n2_; have GE417 := n3_; clear n0_ n1_ n2_ n3_; clear hb hbox hg; have hcz4_0 : w3.cell? ⟨gb417, 0, none⟩ = some (.int .i64 a0_0) := (blk_cell BK417.out 0).trans rfl; have hcz4_1 : w3.cell? ⟨gb417, 1, none⟩ = some (.int .i64 a0_1) := (blk_cell BK417.out 1).trans rfl; have hcz4_2 : w3.cell? ⟨gb417, 2, none⟩ = some (.int .i64 a0_2) := (blk_cell BK417.out 2).trans rfl; have hcz4_3 : w3.cell? ⟨gb417, 3, none⟩ = some (.int .i64 a0_3) := (blk_cell BK417.out 3).trans rfl; have hcz4_4 : w3.cell? ⟨gb417, 4, none⟩ = some (.int .i64 a0_4) := (blk_cell BK417.out 4).trans rfl; have hcz4_5 : w3.cell? ⟨gb417, 5, none⟩ = some (.int .i64 a0_5) := (blk_cell BK417.out 5).trans rfl; have hfz4_0 := blk_frozen BK417.out 0; have hfz4_1 := blk_frozen BK417.out 1; have hfz4_2 := blk_frozen BK417.out 2; have hfz4_3 := blk_frozen BK417.out 3; have hfz4_4 := blk_frozen BK417.out 4; have hfz4_5 := blk_frozen BK417.out 5))
    go_ret
    exact ⟨by first | rfl | (simp [errW_none, errW_some] <;> rfl) | (simp [*, errW_none, errW_some] <;> rfl), by repeat (first | (with_reducible first | exact HB.out | apply below_alloc | apply pw_below_drewN | apply below_drew1 | refine below_set ?_ GE417.out) | exact HB.out)⟩
  · rw [if_neg c2] at H
    have c2b0 : (a0_0 == 1) = false := beq_eq_false_iff_ne.mpr c2
    have c2b1 : (a0_0 != 1) = true := bne_iff_ne.mpr c2
    replace H := Option.bind_eq_some_iff.mp H
    obtain ⟨t418, A50, H⟩ := H
    replace H : (some t418) = some r := H
    have A5 := Aside0.mk A50
    clear A50
    obtain rfl := Option.some.inj H
    go_enter Try.func97, Try.ntmps97
    go_wp2_with (first | ((with_reducible refine gate_dst (N := 1) rfl ?_); refine box_event ?hg (N := 1) ?hd (cs := #[.int .i64 a0_0, .int .i64 a0_1, .int .i64 a0_2, .int .i64 a0_3, .int .i64 a0_4, .int .i64 a0_5]) (t := 99) ?hr ?_; (case hd => rfl); (case hg => rfl); (case hr => first | (go_simp; done) | (go_simp; rfl)); intro gb417 hg w6 hbox hb; have n0_ := Aside0.mk (below_step (by repeat (first | (with_reducible first | exact HB.out | apply below_alloc | apply pw_below_drewN | apply below_drew1) | exact HB.out)) hb); have n1_ := Aside0.mk (hbox); have n2_ := Aside0.mk ((by rw [hg]; exact (below_size (by repeat (first | (with_reducible first | exact HB.out | apply below_alloc | apply pw_below_drewN | apply below_drew1) | exact HB.out))) : w.heap.size ≤ gb417)); have n3_ := Aside0.mk ((by rw [hg]; exact (below_size (by repeat (first | (with_reducible first | exact HB.out | apply below_alloc | apply pw_below_drewN | apply below_drew1) | exact HB.out))) : w.heap.size ≤ gb417)); clear HB; have HB := n0_; have BK417 := n1_; have GW417 := n2_; have GE417 := n3_; clear n0_ n1_ n2_ n3_; clear hb hbox hg; have hcz7_0 : w6.cell? ⟨gb417, 0, none⟩ = some (.int .i64 a0_0) := (blk_cell BK417.out 0).trans rfl; have hcz7_1 : w6.cell? ⟨gb417, 1, none⟩ = some (.int .i64 a0_1) := (blk_cell BK417.out 1).trans rfl; have hcz7_2 : w6.cell? ⟨gb417, 2, none⟩ = some (.int .i64 a0_2) := (blk_cell BK417.out 2).trans rfl; have hcz7_3 : w6.cell? ⟨gb417, 3, none⟩ = some (.int .i64 a0_3) := (blk_cell BK417.out 3).trans rfl; have hcz7_4 : w6.cell? ⟨gb417, 4, none⟩ = some (.int .i64 a0_4) := (blk_cell BK417.out 4).trans rfl; have hcz7_5 : w6.cell? ⟨gb417, 5, none⟩ = some (.int .i64 a0_5) := (blk_cell BK417.out 5).trans rfl; have hfz7_0 := blk_frozen BK417.out 0; have hfz7_1 := blk_frozen BK417.out 1; have hfz7_2 := blk_frozen BK417.out 2; have hfz7_3 := blk_frozen BK417.out 3; have hfz7_4 := blk_frozen BK417.out 4; have hfz7_5 := blk_frozen BK417.out 5) | (go_at_call 166; (with_reducible refine (impl_isQuant.calls a0_0 a0_1 a0_2 a0_3 a0_4 a0_5 t418 _ A5.out).mono ?_); rintro e w8 ⟨rfl, hb⟩; have n0_ := Aside0.mk (blk_below (g := gb417) (o := .cells #[.int .i64 a0_0, .int .i64 a0_1, .int .i64 a0_2, .int .i64 a0_3, .int .i64 a0_4, .int .i64 a0_5] 99 (0, 0)) (by (with_reducible repeat (first | refine blk_drewN ?_ _ | refine blk_drew ?_ | refine blk_alloc ?_ _)); exact BK417.out) hb); have n1_ := Aside0.mk (below_step (by repeat (first | (with_reducible first | exact HB.out | apply below_alloc | apply pw_below_drewN | apply below_drew1 | refine below_set ?_ GE417.out) | exact HB.out)) hb); clear BK417; clear HB; have BK417 := n0_; have HB := n1_; clear n0_ n1_; (try clear hb); (try clear hb2); (try clear hk); (try clear hi)))
    go_ret
    exact ⟨by first | rfl | (simp [errW_none, errW_some] <;> rfl) | (simp [*, errW_none, errW_some] <;> rfl), by repeat (first | (with_reducible first | exact HB.out | apply below_alloc | apply pw_below_drewN | apply below_drew1 | refine below_set ?_ GE417.out) | exact HB.out)⟩

/-! ### impl_Rename: function 37 -/
mutual
def impl_Rename.j0 : Nat → List (S99) → Int → Int → Bool → Option ((List (S99)) × Bool)
  | 0, _, _, _, _ => none
  | k + 1, x0, x1, x2, x18 => if x18 = true then (some (([] : List (S99)), false)) else (if ([] : List (S99)).length + x0.length < 2932031007402 then (impl_Rename.l0 k x1 x2 (([] : List (S99)) ++ x0) x0 (x0.length : Int) 0) else (none))
def impl_Rename.l0 : Nat → Int → Int → List (S99) → List (S99) → Int → Int → Option ((List (S99)) × Bool)
  | 0, _, _, _, _, _, _ => none
  | k + 1, x1, x2, x8, x21, x22, x23 => if x23 < x22 then (if 0 ≤ x23 then (if x23 < (x21.length : Int) then ((impl_ofVar.f ((rd_T99 x21 x23).f0) ((rd_T99 x21 x23).f1) ((rd_T99 x21 x23).f2) ((rd_T99 x21 x23).f3) ((rd_T99 x21 x23).f4) ((rd_T99 x21 x23).f5)).bind fun t426 => (if t426 = true then (if ((rd_T99 x21 x23).f2) = x2 then (impl_Rename.j2 k x1 x2 x8 x23 x21 x22 x23 (x2 != x1) ((rd_T99 x21 x23).f0) ((rd_T99 x21 x23).f1) ((rd_T99 x21 x23).f2) ((rd_T99 x21 x23).f3) ((rd_T99 x21 x23).f4) ((rd_T99 x21 x23).f5)) else (impl_Rename.j2 k x1 x2 x8 x23 x21 x22 x23 false ((rd_T99 x21 x23).f0) ((rd_T99 x21 x23).f1) ((rd_T99 x21 x23).f2) ((rd_T99 x21 x23).f3) ((rd_T99 x21 x23).f4) ((rd_T99 x21 x23).f5))) else (impl_Rename.j2 k x1 x2 x8 x23 x21 x22 x23 false ((rd_T99 x21 x23).f0) ((rd_T99 x21 x23).f1) ((rd_T99 x21 x23).f2) ((rd_T99 x21 x23).f3) ((rd_T99 x21 x23).f4) ((rd_T99 x21 x23).f5)))) else (none)) else (none)) else (some (x8, true))
def impl_Rename.j2 : Nat → Int → Int → List (S99) → Int → List (S99) → Int → Int → Bool → Int → Int → Int → Int → Int → Int → Option ((List (S99)) × Bool)
  | 0, _, _, _, _, _, _, _, _, _, _, _, _, _, _ => none
  | k + 1, x1, x2, x8, x9, x21, x22, x23, x40, x426000, x426001, x426002, x426003, x426004, x426005 => if x40 = true then (some (([] : List (S99)), false)) else ((impl_ofVar.f x426000 x426001 x426002 x426003 x426004 x426005).bind fun t427 => (if t427 = true then (if x426002 = x1 then (if 0 ≤ x9 then (if x9 < (x8.length : Int) then (impl_Rename.l0 k x1 x2 (x8.set (x9 : Int).toNat (⟨(rd_T99 x8 x9).f0, (rd_T99 x8 x9).f1, x2, (rd_T99 x8 x9).f3, (rd_T99 x8 x9).f4, (rd_T99 x8 x9).f5⟩ : S99)) x21 x22 (wrap64 (x23 + 1))) else (none)) else (none)) else (impl_Rename.l0 k x1 x2 x8 x21 x22 (wrap64 (x23 + 1)))) else (impl_Rename.l0 k x1 x2 x8 x21 x22 (wrap64 (x23 + 1)))))
end
def impl_Rename.f (k : Nat) (l0 : List (S99)) (a1 : Int) (a2 : Int) : Option ((List (S99)) × Bool) := (y_TermOk.f l0).bind fun t419 => (if t419 = true then ((impl_isVar.f a2).bind fun t420 => (impl_Rename.j0 k l0 a1 a2 (!t420))) else (impl_Rename.j0 k l0 a1 a2 true))
theorem impl_Rename.mono_l : ∀ k, (∀ y0 y1 y2 y3, LeO (impl_Rename.j0 k y0 y1 y2 y3) (impl_Rename.j0 (k + 1) y0 y1 y2 y3)) ∧ (∀ y0 y1 y2 y3 y4 y5, LeO (impl_Rename.l0 k y0 y1 y2 y3 y4 y5) (impl_Rename.l0 (k + 1) y0 y1 y2 y3 y4 y5)) ∧ (∀ y0 y1 y2 y3 y4 y5 y6 y7 y8 y9 y10 y11 y12 y13, LeO (impl_Rename.j2 k y0 y1 y2 y3 y4 y5 y6 y7 y8 y9 y10 y11 y12 y13) (impl_Rename.j2 (k + 1) y0 y1 y2 y3 y4 y5 y6 y7 y8 y9 y10 y11 y12 y13))
  | 0 => ⟨fun _ _ _ _ r h => by simp [impl_Rename.j0] at h, fun _ _ _ _ _ _ r h => by simp [impl_Rename.l0] at h, fun _ _ _ _ _ _ _ _ _ _ _ _ _ _ r h => by simp [impl_Rename.j2] at h⟩
  | k + 1 => by
    obtain ⟨ih0, ih1, ih2⟩ := impl_Rename.mono_l k
    refine ⟨?_, ?_, ?_⟩
    · intro y0 y1 y2 y3
      unfold impl_Rename.j0
      repeat' first
      | (with_reducible exact ih0 _ _ _ _)
      | (with_reducible exact ih1 _ _ _ _ _ _)
      | (with_reducible exact ih2 _ _ _ _ _ _ _ _ _ _ _ _ _ _)
      | (with_reducible exact LeO.refl _)
      | (with_reducible exact LeO.none _)
      | (with_reducible refine LeO.ite ?_ ?_)
      | (with_reducible refine LeO.bind ?_ (fun _ => ?_))
      | exact ih0 _ _ _ _
      | exact ih1 _ _ _ _ _ _
      | exact ih2 _ _ _ _ _ _ _ _ _ _ _ _ _ _
      | exact LeO.none _
      | refine LeO.ite ?_ ?_
      | refine LeO.bind ?_ (fun _ => ?_)
    · intro y0 y1 y2 y3 y4 y5
      unfold impl_Rename.l0
      repeat' first
      | (with_reducible exact ih0 _ _ _ _)
      | (with_reducible exact ih1 _ _ _ _ _ _)
      | (with_reducible exact ih2 _ _ _ _ _ _ _ _ _ _ _ _ _ _)
      | (with_reducible exact LeO.refl _)
      | (with_reducible exact LeO.none _)
      | (with_reducible refine LeO.ite ?_ ?_)
      | (with_reducible refine LeO.bind ?_ (fun _ => ?_))
      | exact ih0 _ _ _ _
      | exact ih1 _ _ _ _ _ _
      | exact ih2 _ _ _ _ _ _ _ _ _ _ _ _ _ _
      | exact LeO.none _
      | refine LeO.ite ?_ ?_
      | refine LeO.bind ?_ (fun _ => ?_)
    · intro y0 y1 y2 y3 y4 y5 y6 y7 y8 y9 y10 y11 y12 y13
      unfold impl_Rename.j2
      repeat' first
      | (with_reducible exact ih0 _ _ _ _)
      | (with_reducible exact ih1 _ _ _ _ _ _)
      | (with_reducible exact ih2 _ _ _ _ _ _ _ _ _ _ _ _ _ _)
      | (with_reducible exact LeO.refl _)
      | (with_reducible exact LeO.none _)
      | (with_reducible refine LeO.ite ?_ ?_)
      | (with_reducible refine LeO.bind ?_ (fun _ => ?_))
      | exact ih0 _ _ _ _
      | exact ih1 _ _ _ _ _ _
      | exact ih2 _ _ _ _ _ _ _ _ _ _ _ _ _ _
      | exact LeO.none _
      | refine LeO.ite ?_ ?_
      | refine LeO.bind ?_ (fun _ => ?_)
theorem impl_Rename.mono : ∀ a0 a1 a2 k, LeO (impl_Rename.f k a0 a1 a2) (impl_Rename.f (k + 1) a0 a1 a2) := by
  intro a0 a1 a2 k
  obtain ⟨ih0, ih1, ih2⟩ := impl_Rename.mono_l k
  unfold impl_Rename.f
  repeat' first
      | (with_reducible exact ih0 _ _ _ _)
      | (with_reducible exact ih1 _ _ _ _ _ _)
      | (with_reducible exact ih2 _ _ _ _ _ _ _ _ _ _ _ _ _ _)
      | (with_reducible exact LeO.refl _)
      | (with_reducible exact LeO.none _)
      | (with_reducible refine LeO.ite ?_ ?_)
      | (with_reducible refine LeO.bind ?_ (fun _ => ?_))
      | exact ih0 _ _ _ _
      | exact ih1 _ _ _ _ _ _
      | exact ih2 _ _ _ _ _ _ _ _ _ _ _ _ _ _
      | exact LeO.none _
      | refine LeO.ite ?_ ?_
      | refine LeO.bind ?_ (fun _ => ?_)
set_option maxHeartbeats 8000000 in
set_option maxRecDepth 100000 in
theorem impl_Rename.calls (k : Nat) (A0 : Option Addr) (c0 : Nat) (l0 : List (S99)) (a1 : Int) (a2 : Int) (r1 : List (S99)) (r2 : Bool) (w : World) (hr0 : Kd.C k99 w A0 l0.length l0) (hc0 : l0.length ≤ c0) (h : impl_Rename.f k l0 a1 a2 = some (r1, r2)) :
    Calls Try.prog 37 #[.slice A0 l0.length c0, .int .i64 a1, .int .i64 a2] w fun e w' => ∃ v0_ : Value, e = .returned (.tuple #[v0_, .bool r2]) ∧ Kd.R k99 99 w' w.heap.size (fun _ => True) v0_ r1 ∧ Below w.heap.size w w' := by
  have hu99 := Try.underlying99
  have HR0 := Aside0.mk hr0
  have HC0 := Aside0.mk hc0
  clear hr0 hc0
  have HB := Aside0.mk (Below.refl w.heap.size w)
  have H : ((y_TermOk.f l0).bind fun t419 => (if t419 = true then ((impl_isVar.f a2).bind fun t420 => (impl_Rename.j0 k l0 a1 a2 (!t420))) else (impl_Rename.j0 k l0 a1 a2 true))) = some (r1, r2) := h
  clear h
  have HC4 := Aside0.mk H
  clear H
  go_enter Try.func37, Try.ntmps37
  go_upto_region 1 with (fail)
  go_cut [18] (fun v18 wc => ∃ (kq : Nat) (x18_3 : Bool), v18 = .bool x18_3 ∧ Aside0 (impl_Rename.j0 kq l0 a1 a2 x18_3 = some (r1, r2)) ∧ Aside0 (kq ≤ k) ∧ Aside0 (Below w.heap.size w wc))
  case first =>
    have H := HC4.out
    clear HC4
    replace H := Option.bind_eq_some_iff.mp H
    obtain ⟨t419, A50, H⟩ := H
    replace H : (if t419 = true then ((impl_isVar.f a2).bind fun t420 => (impl_Rename.j0 k l0 a1 a2 (!t420))) else (impl_Rename.j0 k l0 a1 a2 true)) = some (r1, r2) := H
    have A5 := Aside0.mk A50
    clear A50
    by_cases c6 : t419 = true
    · subst c6
      have H1 : ((impl_isVar.f a2).bind fun t420 => (impl_Rename.j0 k l0 a1 a2 (!t420))) = some (r1, r2) := by rw [if_pos rfl] at H; exact H
      clear H
      have H := H1
      clear H1
      replace H := Option.bind_eq_some_iff.mp H
      obtain ⟨t420, A70, H⟩ := H
      replace H : (impl_Rename.j0 k l0 a1 a2 (!t420)) = some (r1, r2) := H
      have A7 := Aside0.mk A70
      clear A70
      have H' := Aside0.mk H
      clear H
      go_wp2_with (first | ((with_reducible refine gate_callee (f := 86) rfl ?_); refine goesL_ (some 12) rfl rfl Try.func86 (by kernel_rfl) rfl #[.slice A0 l0.length c0] rfl (by (try simp only [List.map_toArray, List.map_cons, List.map_nil]); first | done | rfl | (simp only [List.length_drop, List.length_take]; rfl)) ?_; (with_reducible refine (y_TermOk.calls _ _ l0 true _ ?side1 ?side2 A5.out).mono ?_); (case side1 => repeat (first | exact (Kd.C_below HR0.out HB.out) | (with_reducible refine Kd.C_alloc ?_ _) | (with_reducible refine Kd.C_drewN ?_ _) | (with_reducible refine Kd.C_drew ?_))); (case side2 => exact HC0.out); rintro e w8 ⟨rfl, hb⟩; refine ⟨_, rfl, ?_⟩; have n0_ := Aside0.mk (below_step (by repeat (first | (with_reducible first | exact HB.out | apply below_alloc | apply pw_below_drewN | apply below_drew1) | exact HB.out)) hb); clear HB; have HB := n0_; clear n0_; (try clear hb); (try clear hb2); (try clear hk); (try clear hi)) | (go_at_call 96; (with_reducible refine (impl_isVar.calls a2 t420 _ A7.out).mono ?_); rintro e w' ⟨rfl, ⟨nd, rfl⟩⟩))
      go_meet
      case rel => exact ⟨_, (!t420), (by first | rfl | (simp; done) | (simp [*]; done)), H', ⟨by first | omega | exact Nat.le_refl _⟩, ⟨by repeat (first | (with_reducible first | exact HB.out | apply below_alloc | apply pw_below_drewN | apply below_drew1) | exact HB.out)⟩⟩
    · replace c6 := Bool.eq_false_iff.mpr c6
      subst c6
      have H1 : (impl_Rename.j0 k l0 a1 a2 true) = some (r1, r2) := by rw [if_neg (show ¬ (false = true) by decide)] at H; exact H
      clear H
      have H := H1
      clear H1
      have H' := Aside0.mk H
      clear H
      go_wp2_with (first | ((with_reducible refine gate_callee (f := 86) rfl ?_); refine goesL_ (some 12) rfl rfl Try.func86 (by kernel_rfl) rfl #[.slice A0 l0.length c0] rfl (by (try simp only [List.map_toArray, List.map_cons, List.map_nil]); first | done | rfl | (simp only [List.length_drop, List.length_take]; rfl)) ?_; (with_reducible refine (y_TermOk.calls _ _ l0 false _ ?side1 ?side2 A5.out).mono ?_); (case side1 => repeat (first | exact (Kd.C_below HR0.out HB.out) | (with_reducible refine Kd.C_alloc ?_ _) | (with_reducible refine Kd.C_drewN ?_ _) | (with_reducible refine Kd.C_drew ?_))); (case side2 => exact HC0.out); rintro e w9 ⟨rfl, hb⟩; refine ⟨_, rfl, ?_⟩; have n0_ := Aside0.mk (below_step (by repeat (first | (with_reducible first | exact HB.out | apply below_alloc | apply pw_below_drewN | apply below_drew1) | exact HB.out)) hb); clear HB; have HB := n0_; clear n0_; (try clear hb); (try clear hb2); (try clear hk); (try clear hi)))
      go_meet
      case rel => exact ⟨_, (true), (by first | rfl | (simp; done) | (simp [*]; done)), H', ⟨by first | omega | exact Nat.le_refl _⟩, ⟨by repeat (first | (with_reducible first | exact HB.out | apply below_alloc | apply pw_below_drewN | apply below_drew1) | exact HB.out)⟩⟩
  case rest =>
    clear HC4
    try clear p2
    try clear c3
    try clear c6
    try clear c8
    obtain ⟨kq, x18_3, rfl, HA, HJ3, HB⟩ := hcut
    cases kq with
    | zero => exact absurd HA.out (by simp [impl_Rename.j0])
    | succ kj3 =>
      have H := HA.out
      clear HA
      simp only [impl_Rename.j0] at H
      by_cases c10 : x18_3 = true
      · subst c10
        have H1 : (some (([] : List (S99)), false)) = some (r1, r2) := by rw [if_pos rfl] at H; exact H
        clear H
        have H := H1
        clear H1
        simp only [Option.some.injEq, Prod.mk.injEq] at H
        obtain ⟨rfl, rfl⟩ := H
        go_wp2
        go_ret2
        exact ⟨_, by first | rfl | (simp [errW_none, errW_some] <;> rfl) | (simp [*, errW_none, errW_some] <;> rfl), by first | exact Kd.R_nil _ _ _ _ _ | exact Kd.N_nil _ _ _ _ _ | exact Kd.V_nil _ _ _ _ _ | exact Kd.Q_nil _ _ _ _ _ | exact Kd.S_nil _ _ _ _ _, by repeat (first | (with_reducible first | exact HB.out | apply below_alloc | apply pw_below_drewN | apply below_drew1) | exact HB.out)⟩
      · replace c10 := Bool.eq_false_iff.mpr c10
        subst c10
        have H1 : (if ([] : List (S99)).length + l0.length < 2932031007402 then (impl_Rename.l0 kj3 a1 a2 (([] : List (S99)) ++ l0) l0 (l0.length : Int) 0) else (none)) = some (r1, r2) := by rw [if_neg (show ¬ (false = true) by decide)] at H; exact H
        clear H
        have H := H1
        clear H1
        by_cases c11 : ([] : List (S99)).length + l0.length < 2932031007402
        · rw [if_pos c11] at H
          have LMc11 := Aside0.mk c11
          clear c11
          obtain ⟨y421, hy421⟩ : ∃ y_ : List (S99), y_ = (([] : List (S99)) ++ l0) := ⟨_, rfl⟩
          replace H : (impl_Rename.l0 kj3 a1 a2 y421 l0 (l0.length : Int) 0) = some (r1, r2) := by first | (rw [hy421]; with_reducible exact H) | (have H2_ := (Option.bind_some _ _).symm.trans H; rw [hy421]; with_reducible exact H2_) | (have H2_ := (Option.bind_some _ _).symm.trans H; with_reducible exact H2_) | with_reducible exact H | (rw [hy421]; exact H) | exact H
          have Ny421 := Aside0.mk hy421
          clear hy421
          have H' := Aside0.mk H
          clear H
          go_wp2_with (first | ((with_reducible refine gate_builtin (b := .append) (xs := #[.const (.slice none 0 0), .tmp 19]) rfl ?_); at_builtin; refine Kd.R_append_rows k99 (w0 := w) w.heap.size rfl (.const (.slice none 0 0)) (.tmp 19) 31 99 (.agg #[(.int .i64 0), (.int .i64 0), (.int .i64 0), (.int .i64 0), (.int .i64 0), (.int .i64 0)]) 48 rfl Try.underlying31 info99 rfl (by decide) (by omega) (.slice none 0 0) ([] : List (S99)) l0 _ _ _ (fun _ => True) (fun _ => False) rfl rfl ?aO ?aR (fun _ _ h => h) (fun _ h => h.elim) ?aF ?aB ?aS ?aL ?_; (case aR => repeat (first | exact (Kd.C_below HR0.out HB.out) | (with_reducible refine Kd.C_alloc ?_ _) | (with_reducible refine Kd.C_drewN ?_ _) | (with_reducible refine Kd.C_drew ?_))); (case aB => exact (by repeat (first | (with_reducible first | exact HB.out | apply below_alloc | apply pw_below_drewN | apply below_drew1) | exact HB.out))); (case aF => exact (fun _ _ => trivial)); (case aO => exact ((Kd.R_nil _ _ _ _ (fun _ => True)))); (case aS => exact (below_size (by repeat (first | (with_reducible first | exact HB.out | apply below_alloc | apply pw_below_drewN | apply below_drew1) | exact HB.out)))); (case aL => have := LMc11.out; omega); intro v422 w12 ho hb hg hat; rw [← Ny421.out] at ho; have n0_ := Aside0.mk (hb); have n1_ := Aside0.mk (ho); clear HB; have HB := n0_; have HO423 := n1_; clear n0_ n1_; clear ho hb hg hat))
          go_loopg [23] kj3 (fun kq v23 w' => ∃ (x8_2 : List (S99)) (x23_2 : Int), v23 = .int .i64 x23_2 ∧ Aside0 (impl_Rename.l0 kq a1 a2 x8_2 l0 (l0.length : Int) x23_2 = some (r1, r2)) ∧ Aside0 (kq ≤ kj3) ∧ Aside0 (Kd.R k99 99 w' w.heap.size (fun _ => True) v422 x8_2) ∧ Aside0 (Below w.heap.size w w'))
          case atStart => exact ⟨(y421), (0), (by first | rfl | (simp; done) | (simp [*]; done)), H', ⟨Nat.le_refl _⟩, ⟨by (with_reducible repeat (first | apply Kd.R_alloc | apply Kd.R_drewN | apply Kd.R_drew)); exact HO423.out⟩, ⟨by repeat (first | (with_reducible first | exact HB.out | apply below_alloc | apply pw_below_drewN | apply below_drew1) | exact HB.out)⟩⟩
          case round =>
            clear H'
            try clear c1
            try clear p2
            try clear c3
            try clear c6
            try clear c8
            try clear c10
            try clear c11
            try clear p2
            obtain ⟨x8_2, x23_2, rfl, HA, HK2, HO_8, HB⟩ := hrel
            cases gk with
            | zero => exact absurd HA.out (by simp [impl_Rename.l0])
            | succ k2 =>
              have H := HA.out
              clear HA
              simp only [impl_Rename.l0] at H
              by_cases c13 : x23_2 < (l0.length : Int)
              · rw [if_pos c13] at H
                have c13b0 : decide (x23_2 < (l0.length : Int)) = true := decide_eq_true c13
                clear c13
                by_cases c14 : 0 ≤ x23_2
                · rw [if_pos c14] at H
                  have c14b0 : decide (0 ≤ x23_2) = true := decide_eq_true c14
                  clear c14
                  by_cases c15 : x23_2 < (l0.length : Int)
                  · rw [if_pos c15] at H
                    have c15b0 : decide (x23_2 < (l0.length : Int)) = true := decide_eq_true c15
                    clear c15
                    have HC16 := Aside0.mk H
                    clear H
                    have p424 : 0 ≤ (x23_2 : Int) := of_decide_eq_true (by first | (with_reducible assumption) | assumption)
                    have q424 : x23_2 < (l0.length : Int) := of_decide_eq_true (by first | (with_reducible assumption) | assumption)
                    obtain ⟨ad424, e424, hx424_0, hx424_1, hx424_2, hx424_3, hx424_4, hx424_5⟩ := at_T99 HR0.out x23_2 p424 q424
                    cases e424
                    replace hx424_0 := (HB.out.cell (World.block_lt_of_cell? w _ hx424_0)).trans hx424_0
                    replace hx424_1 := (HB.out.cell (World.block_lt_of_cell? w _ hx424_1)).trans hx424_1
                    replace hx424_2 := (HB.out.cell (World.block_lt_of_cell? w _ hx424_2)).trans hx424_2
                    replace hx424_3 := (HB.out.cell (World.block_lt_of_cell? w _ hx424_3)).trans hx424_3
                    replace hx424_4 := (HB.out.cell (World.block_lt_of_cell? w _ hx424_4)).trans hx424_4
                    replace hx424_5 := (HB.out.cell (World.block_lt_of_cell? w _ hx424_5)).trans hx424_5
                    replace p424 := eq_true p424
                    replace q424 := eq_true q424
                    go_upto_region 7 with (first | ((with_reducible refine gate_dst (N := 10) rfl ?_); refine box_event ?hg (N := 10) ?hd (cs := #[.int .i64 0, .int .i64 0, .int .i64 0, .int .i64 0, .int .i64 0, .int .i64 0]) (t := 99) ?hr ?_; (case hd => rfl); (case hg => rfl); (case hr => first | (go_simp; done) | (go_simp; rfl)); intro gb425 hg w17 hbox hb; have n0_ := Aside0.mk (Kd.R_below (Kd.R_elderB (by (with_reducible repeat (first | apply Kd.R_alloc | apply Kd.R_drewN | apply Kd.R_drew)); exact HO_8.out) gb425 (Nat.le_of_eq hg.symm)) hb); have n1_ := Aside0.mk (below_step (by repeat (first | (with_reducible first | exact HB.out | apply below_alloc | apply pw_below_drewN | apply below_drew1) | exact HB.out)) hb); have n2_ := Aside0.mk (hbox); have n3_ := Aside0.mk ((by rw [hg]; exact (below_size (by repeat (first | (with_reducible first | exact HB.out | apply below_alloc | apply pw_below_drewN | apply below_drew1) | exact HB.out))) : w.heap.size ≤ gb425)); have n4_ := Aside0.mk ((by rw [hg]; exact (below_size (by repeat (first | (with_reducible first | exact HB.out | apply below_alloc | apply pw_below_drewN | apply below_drew1) | exact HB.out))) : w.heap.size ≤ gb425)); clear HO_8; clear HB; have HO_8 := n0_; have HB := n1_; have BK425 := n2_; have GW425 := n3_; have GE425 := n4_; clear n0_ n1_ n2_ n3_ n4_; clear hb hbox hg; have hcz18_0 : w17.cell? ⟨gb425, 0, none⟩ = some (.int .i64 0) := (blk_cell BK425.out 0).trans rfl; have hcz18_1 : w17.cell? ⟨gb425, 1, none⟩ = some (.int .i64 0) := (blk_cell BK425.out 1).trans rfl; have hcz18_2 : w17.cell? ⟨gb425, 2, none⟩ = some (.int .i64 0) := (blk_cell BK425.out 2).trans rfl; have hcz18_3 : w17.cell? ⟨gb425, 3, none⟩ = some (.int .i64 0) := (blk_cell BK425.out 3).trans rfl; have hcz18_4 : w17.cell? ⟨gb425, 4, none⟩ = some (.int .i64 0) := (blk_cell BK425.out 4).trans rfl; have hcz18_5 : w17.cell? ⟨gb425, 5, none⟩ = some (.int .i64 0) := (blk_cell BK425.out 5).trans rfl; have hfz18_0 := blk_frozen BK425.out 0; have hfz18_1 := blk_frozen BK425.out 1; have hfz18_2 := blk_frozen BK425.out 2; have hfz18_3 := blk_frozen BK425.out 3; have hfz18_4 := blk_frozen BK425.out 4; have hfz18_5 := blk_frozen BK425.out 5))
                    (try simp only [Act.put, List.setIfInBounds_toArray, List.set_cons_zero, List.set_cons_succ])
                    go_cut [40] (fun v40 wc => ∃ (kq : Nat) (x40_15 : Bool), v40 = .bool x40_15 ∧ Aside0 (impl_Rename.j2 kq a1 a2 x8_2 x23_2 l0 (l0.length : Int) x23_2 x40_15 ((rd_T99 l0 x23_2).f0) ((rd_T99 l0 x23_2).f1) ((rd_T99 l0 x23_2).f2) ((rd_T99 l0 x23_2).f3) ((rd_T99 l0 x23_2).f4) ((rd_T99 l0 x23_2).f5) = some (r1, r2)) ∧ Aside0 (kq ≤ k2) ∧ Aside0 (Kd.R k99 99 wc w.heap.size (fun k_ => k_ ≠ gb425) v422 x8_2) ∧ Aside0 (wc.heap[gb425]? = some (.cells #[.int .i64 ((rd_T99 l0 x23_2).f0), .int .i64 ((rd_T99 l0 x23_2).f1), .int .i64 ((rd_T99 l0 x23_2).f2), .int .i64 ((rd_T99 l0 x23_2).f3), .int .i64 ((rd_T99 l0 x23_2).f4), .int .i64 ((rd_T99 l0 x23_2).f5)] 99 (0, 0))) ∧ Aside0 (Below w.heap.size w wc))
                    case first =>
                      have H := HC16.out
                      clear HC16
                      replace H := Option.bind_eq_some_iff.mp H
                      obtain ⟨t426, A190, H⟩ := H
                      replace H : (if t426 = true then (if ((rd_T99 l0 x23_2).f2) = a2 then (impl_Rename.j2 k2 a1 a2 x8_2 x23_2 l0 (l0.length : Int) x23_2 (a2 != a1) ((rd_T99 l0 x23_2).f0) ((rd_T99 l0 x23_2).f1) ((rd_T99 l0 x23_2).f2) ((rd_T99 l0 x23_2).f3) ((rd_T99 l0 x23_2).f4) ((rd_T99 l0 x23_2).f5)) else (impl_Rename.j2 k2 a1 a2 x8_2 x23_2 l0 (l0.length : Int) x23_2 false ((rd_T99 l0 x23_2).f0) ((rd_T99 l0 x23_2).f1) ((rd_T99 l0 x23_2).f2) ((rd_T99 l0 x23_2).f3) ((rd_T99 l0 x23_2).f4) ((rd_T99 l0 x23_2).f5))) else (impl_Rename.j2 k2 a1 a2 x8_2 x23_2 l0 (l0.length : Int) x23_2 false ((rd_T99 l0 x23_2).f0) ((rd_T99 l0 x23_2).f1) ((rd_T99 l0 x23_2).f2) ((rd_T99 l0 x23_2).f3) ((rd_T99 l0 x23_2).f4) ((rd_T99 l0 x23_2).f5))) = some (r1, r2) := H
                      have A19 := Aside0.mk A190
                      clear A190
                      by_cases c20 : t426 = true
                      · subst c20
                        have H1 : (if ((rd_T99 l0 x23_2).f2) = a2 then (impl_Rename.j2 k2 a1 a2 x8_2 x23_2 l0 (l0.length : Int) x23_2 (a2 != a1) ((rd_T99 l0 x23_2).f0) ((rd_T99 l0 x23_2).f1) ((rd_T99 l0 x23_2).f2) ((rd_T99 l0 x23_2).f3) ((rd_T99 l0 x23_2).f4) ((rd_T99 l0 x23_2).f5)) else (impl_Rename.j2 k2 a1 a2 x8_2 x23_2 l0 (l0.length : Int) x23_2 false ((rd_T99 l0 x23_2).f0) ((rd_T99 l0 x23_2).f1) ((rd_T99 l0 x23_2).f2) ((rd_T99 l0 x23_2).f3) ((rd_T99 l0 x23_2).f4) ((rd_T99 l0 x23_2).f5))) = some (r1, r2) := by rw [if_pos rfl] at H; exact H
                        clear H
                        have H := H1
                        clear H1
                        by_cases c21 : ((rd_T99 l0 x23_2).f2) = a2
                        · rw [if_pos c21] at H
                          have c21b0 : (((rd_T99 l0 x23_2).f2) == a2) = true := beq_iff_eq.mpr c21
                          have c21b1 : (((rd_T99 l0 x23_2).f2) != a2) = false := bne_eq_false_iff_eq.mpr c21
                          clear c21
                          (first | rw [c21b0] | (simp only [i64_w, i32_w]; rw [c21b0]) | skip)
                          have H' := Aside0.mk H
                          clear H
                          have hcz22_0 : w17.cell? ⟨gb425, 0, none⟩ = some (.int .i64 0) := (blk_cell BK425.out 0).trans rfl
                          have hcz22_1 : w17.cell? ⟨gb425, 1, none⟩ = some (.int .i64 0) := (blk_cell BK425.out 1).trans rfl
                          have hcz22_2 : w17.cell? ⟨gb425, 2, none⟩ = some (.int .i64 0) := (blk_cell BK425.out 2).trans rfl
                          have hcz22_3 : w17.cell? ⟨gb425, 3, none⟩ = some (.int .i64 0) := (blk_cell BK425.out 3).trans rfl
                          have hcz22_4 : w17.cell? ⟨gb425, 4, none⟩ = some (.int .i64 0) := (blk_cell BK425.out 4).trans rfl
                          have hcz22_5 : w17.cell? ⟨gb425, 5, none⟩ = some (.int .i64 0) := (blk_cell BK425.out 5).trans rfl
                          have hfz22_0 := blk_frozen BK425.out 0
                          have hfz22_1 := blk_frozen BK425.out 1
                          have hfz22_2 := blk_frozen BK425.out 2
                          have hfz22_3 := blk_frozen BK425.out 3
                          have hfz22_4 := blk_frozen BK425.out 4
                          have hfz22_5 := blk_frozen BK425.out 5
                          go_wp2_with (first | ((with_reducible refine gate_callee (f := 97) rfl ?_); refine goesL_ (some 29) rfl rfl Try.func97 (by kernel_rfl) rfl #[.agg #[.int .i64 ((rd_T99 l0 x23_2).f0), .int .i64 ((rd_T99 l0 x23_2).f1), .int .i64 ((rd_T99 l0 x23_2).f2), .int .i64 ((rd_T99 l0 x23_2).f3), .int .i64 ((rd_T99 l0 x23_2).f4), .int .i64 ((rd_T99 l0 x23_2).f5)]] rfl (by (try simp only [List.map_toArray, List.map_cons, List.map_nil]); first | done | rfl | (simp only [List.length_drop, List.length_take]; rfl)) ?_; (with_reducible refine (impl_ofVar.calls ((rd_T99 l0 x23_2).f0) ((rd_T99 l0 x23_2).f1) ((rd_T99 l0 x23_2).f2) ((rd_T99 l0 x23_2).f3) ((rd_T99 l0 x23_2).f4) ((rd_T99 l0 x23_2).f5) true _ A19.out).mono ?_); rintro e w23 ⟨rfl, hb⟩; refine ⟨_, rfl, ?_⟩; have n0_ := Aside0.mk (Kd.R_below (by (with_reducible repeat (first | apply Kd.R_alloc | apply Kd.R_drewN | apply Kd.R_drew)); exact (Kd.R_mono (Kd.R_far (p := ⟨gb425, 5, none⟩) (Kd.R_far (p := ⟨gb425, 4, none⟩) (Kd.R_far (p := ⟨gb425, 3, none⟩) (Kd.R_far (p := ⟨gb425, 2, none⟩) (Kd.R_far (p := ⟨gb425, 1, none⟩) (Kd.R_far (p := ⟨gb425, 0, none⟩) (Kd.R_mono HO_8.out (fun k_ hk => (⟨hk, hk.2⟩ : _ ∧ k_ ≠ gb425))) (fun _ hk => hk.2) (.int .i64 ((rd_T99 l0 x23_2).f0))) (fun _ hk => hk.2) (.int .i64 ((rd_T99 l0 x23_2).f1))) (fun _ hk => hk.2) (.int .i64 ((rd_T99 l0 x23_2).f2))) (fun _ hk => hk.2) (.int .i64 ((rd_T99 l0 x23_2).f3))) (fun _ hk => hk.2) (.int .i64 ((rd_T99 l0 x23_2).f4))) (fun _ hk => hk.2) (.int .i64 ((rd_T99 l0 x23_2).f5))) (fun _ h_ => h_.1))) hb); have n1_ := Aside0.mk (blk_below (g := gb425) (o := .cells #[.int .i64 ((rd_T99 l0 x23_2).f0), .int .i64 ((rd_T99 l0 x23_2).f1), .int .i64 ((rd_T99 l0 x23_2).f2), .int .i64 ((rd_T99 l0 x23_2).f3), .int .i64 ((rd_T99 l0 x23_2).f4), .int .i64 ((rd_T99 l0 x23_2).f5)] 99 (0, 0)) (by (with_reducible repeat (first | refine blk_drewN ?_ _ | refine blk_drew ?_ | refine blk_alloc ?_ _)); refine blk_put (cs := #[.int .i64 ((rd_T99 l0 x23_2).f0), .int .i64 ((rd_T99 l0 x23_2).f1), .int .i64 ((rd_T99 l0 x23_2).f2), .int .i64 ((rd_T99 l0 x23_2).f3), .int .i64 ((rd_T99 l0 x23_2).f4), .int .i64 0]) ?_ 5 _ rfl; (with_reducible repeat (first | refine blk_drewN ?_ _ | refine blk_drew ?_ | refine blk_alloc ?_ _)); refine blk_put (cs := #[.int .i64 ((rd_T99 l0 x23_2).f0), .int .i64 ((rd_T99 l0 x23_2).f1), .int .i64 ((rd_T99 l0 x23_2).f2), .int .i64 ((rd_T99 l0 x23_2).f3), .int .i64 0, .int .i64 0]) ?_ 4 _ rfl; (with_reducible repeat (first | refine blk_drewN ?_ _ | refine blk_drew ?_ | refine blk_alloc ?_ _)); refine blk_put (cs := #[.int .i64 ((rd_T99 l0 x23_2).f0), .int .i64 ((rd_T99 l0 x23_2).f1), .int .i64 ((rd_T99 l0 x23_2).f2), .int .i64 0, .int .i64 0, .int .i64 0]) ?_ 3 _ rfl; (with_reducible repeat (first | refine blk_drewN ?_ _ | refine blk_drew ?_ | refine blk_alloc ?_ _)); refine blk_put (cs := #[.int .i64 ((rd_T99 l0 x23_2).f0), .int .i64 ((rd_T99 l0 x23_2).f1), .int .i64 0, .int .i64 0, .int .i64 0, .int .i64 0]) ?_ 2 _ rfl; (with_reducible repeat (first | refine blk_drewN ?_ _ | refine blk_drew ?_ | refine blk_alloc ?_ _)); refine blk_put (cs := #[.int .i64 ((rd_T99 l0 x23_2).f0), .int .i64 0, .int .i64 0, .int .i64 0, .int .i64 0, .int .i64 0]) ?_ 1 _ rfl; (with_reducible repeat (first | refine blk_drewN ?_ _ | refine blk_drew ?_ | refine blk_alloc ?_ _)); refine blk_put (cs := #[.int .i64 0, .int .i64 0, .int .i64 0, .int .i64 0, .int .i64 0, .int .i64 0]) ?_ 0 _ rfl; (with_reducible repeat (first | refine blk_drewN ?_ _ | refine blk_drew ?_ | refine blk_alloc ?_ _)); exact BK425.out) hb); have n2_ := Aside0.mk (below_step (by repeat (first | (with_reducible first | exact HB.out | apply below_alloc | apply pw_below_drewN | apply below_drew1 | refine below_set ?_ GE425.out) | exact HB.out)) hb); clear HO_8; clear BK425; clear HB; have HO_8 := n0_; have BK425 := n1_; have HB := n2_; clear n0_ n1_ n2_; (try clear hb); (try clear hb2); (try clear hk); (try clear hi); have hcz24_0 : w23.cell? ⟨gb425, 0, none⟩ = some (.int .i64 ((rd_T99 l0 x23_2).f0)) := (blk_cell BK425.out 0).trans rfl; have hcz24_1 : w23.cell? ⟨gb425, 1, none⟩ = some (.int .i64 ((rd_T99 l0 x23_2).f1)) := (blk_cell BK425.out 1).trans rfl; have hcz24_2 : w23.cell? ⟨gb425, 2, none⟩ = some (.int .i64 ((rd_T99 l0 x23_2).f2)) := (blk_cell BK425.out 2).trans rfl; have hcz24_3 : w23.cell? ⟨gb425, 3, none⟩ = some (.int .i64 ((rd_T99 l0 x23_2).f3)) := (blk_cell BK425.out 3).trans rfl; have hcz24_4 : w23.cell? ⟨gb425, 4, none⟩ = some (.int .i64 ((rd_T99 l0 x23_2).f4)) := (blk_cell BK425.out 4).trans rfl; have hcz24_5 : w23.cell? ⟨gb425, 5, none⟩ = some (.int .i64 ((rd_T99 l0 x23_2).f5)) := (blk_cell BK425.out 5).trans rfl; have hfz24_0 := blk_frozen BK425.out 0; have hfz24_1 := blk_frozen BK425.out 1; have hfz24_2 := blk_frozen BK425.out 2; have hfz24_3 := blk_frozen BK425.out 3; have hfz24_4 := blk_frozen BK425.out 4; have hfz24_5 := blk_frozen BK425.out 5))
                          go_meet
                          case rel => exact ⟨_, ((a2 != a1)), (by first | rfl | (simp; done) | (simp [*]; done)), H', ⟨by have := HJ3.out; have := HK2.out; first | omega | exact Nat.le_refl _⟩, ⟨by (with_reducible repeat (first | apply Kd.R_alloc | apply Kd.R_drewN | apply Kd.R_drew)); exact Kd.R_mono HO_8.out (fun _ hk => hk.2)⟩, ⟨by (with_reducible repeat (first | refine blk_drewN ?_ _ | refine blk_drew ?_ | refine blk_alloc ?_ _)); exact BK425.out⟩, ⟨by repeat (first | (with_reducible first | exact HB.out | apply below_alloc | apply pw_below_drewN | apply below_drew1 | refine below_set ?_ GE425.out) | exact HB.out)⟩⟩
                        · rw [if_neg c21] at H
                          have c21b0 : (((rd_T99 l0 x23_2).f2) == a2) = false := beq_eq_false_iff_ne.mpr c21
                          have c21b1 : (((rd_T99 l0 x23_2).f2) != a2) = true := bne_iff_ne.mpr c21
                          (first | rw [c21b0] | (simp only [i64_w, i32_w]; rw [c21b0]) | skip)
                          have H' := Aside0.mk H
                          clear H
                          have hcz25_0 : w17.cell? ⟨gb425, 0, none⟩ = some (.int .i64 0) := (blk_cell BK425.out 0).trans rfl
                          have hcz25_1 : w17.cell? ⟨gb425, 1, none⟩ = some (.int .i64 0) := (blk_cell BK425.out 1).trans rfl
                          have hcz25_2 : w17.cell? ⟨gb425, 2, none⟩ = some (.int .i64 0) := (blk_cell BK425.out 2).trans rfl
                          have hcz25_3 : w17.cell? ⟨gb425, 3, none⟩ = some (.int .i64 0) := (blk_cell BK425.out 3).trans rfl
                          have hcz25_4 : w17.cell? ⟨gb425, 4, none⟩ = some (.int .i64 0) := (blk_cell BK425.out 4).trans rfl
                          have hcz25_5 : w17.cell? ⟨gb425, 5, none⟩ = some (.int .i64 0) := (blk_cell BK425.out 5).trans rfl
                          have hfz25_0 := blk_frozen BK425.out 0
                          have hfz25_1 := blk_frozen BK425.out 1
                          have hfz25_2 := blk_frozen BK425.out 2
                          have hfz25_3 := blk_frozen BK425.out 3
                          have hfz25_4 := blk_frozen BK425.out 4
                          have hfz25_5 := blk_frozen BK425.out 5
                          go_wp2_with (first | ((with_reducible refine gate_callee (f := 97) rfl ?_); refine goesL_ (some 29) rfl rfl Try.func97 (by kernel_rfl) rfl #[.agg #[.int .i64 ((rd_T99 l0 x23_2).f0), .int .i64 ((rd_T99 l0 x23_2).f1), .int .i64 ((rd_T99 l0 x23_2).f2), .int .i64 ((rd_T99 l0 x23_2).f3), .int .i64 ((rd_T99 l0 x23_2).f4), .int .i64 ((rd_T99 l0 x23_2).f5)]] rfl (by (try simp only [List.map_toArray, List.map_cons, List.map_nil]); first | done | rfl | (simp only [List.length_drop, List.length_take]; rfl)) ?_; (with_reducible refine (impl_ofVar.calls ((rd_T99 l0 x23_2).f0) ((rd_T99 l0 x23_2).f1) ((rd_T99 l0 x23_2).f2) ((rd_T99 l0 x23_2).f3) ((rd_T99 l0 x23_2).f4) ((rd_T99 l0 x23_2).f5) true _ A19.out).mono ?_); rintro e w26 ⟨rfl, hb⟩; refine ⟨_, rfl, ?_⟩; have n0_ := Aside0.mk (Kd.R_below (by (with_reducible repeat (first | apply Kd.R_alloc | apply Kd.R_drewN | apply Kd.R_drew)); exact (Kd.R_mono (Kd.R_far (p := ⟨gb425, 5, none⟩) (Kd.R_far (p := ⟨gb425, 4, none⟩) (Kd.R_far (p := ⟨gb425, 3, none⟩) (Kd.R_far (p := ⟨gb425, 2, none⟩) (Kd.R_far (p := ⟨gb425, 1, none⟩) (Kd.R_far (p := ⟨gb425, 0, none⟩) (Kd.R_mono HO_8.out (fun k_ hk => (⟨hk, hk.2⟩ : _ ∧ k_ ≠ gb425))) (fun _ hk => hk.2) (.int .i64 ((rd_T99 l0 x23_2).f0))) (fun _ hk => hk.2) (.int .i64 ((rd_T99 l0 x23_2).f1))) (fun _ hk => hk.2) (.int .i64 ((rd_T99 l0 x23_2).f2))) (fun _ hk => hk.2) (.int .i64 ((rd_T99 l0 x23_2).f3))) (fun _ hk => hk.2) (.int .i64 ((rd_T99 l0 x23_2).f4))) (fun _ hk => hk.2) (.int .i64 ((rd_T99 l0 x23_2).f5))) (fun _ h_ => h_.1))) hb); have n1_ := Aside0.mk (blk_below (g := gb425) (o := .cells #[.int .i64 ((rd_T99 l0 x23_2).f0), .int .i64 ((rd_T99 l0 x23_2).f1), .int .i64 ((rd_T99 l0 x23_2).f2), .int .i64 ((rd_T99 l0 x23_2).f3), .int .i64 ((rd_T99 l0 x23_2).f4), .int .i64 ((rd_T99 l0 x23_2).f5)] 99 (0, 0)) (by (with_reducible repeat (first | refine blk_drewN ?_ _ | refine blk_drew ?_ | refine blk_alloc ?_ _)); refine blk_put (cs := #[.int .i64 ((rd_T99 l0 x23_2).f0), .int .i64 ((rd_T99 l0 x23_2).f1), .int .i64 ((rd_T99 l0 x23_2).f2), .int .i64 ((rd_T99 l0 x23_2).f3), .int .i64 ((rd_T99 l0 x23_2).f4), .int .i64 0]) ?_ 5 _ rfl; (with_reducible repeat (first | refine blk_drewN ?_ _ | refine blk_drew ?_ | refine blk_alloc ?_ _)); refine blk_put (cs := #[.int .i64 ((rd_T99 l0 x23_2).f0), .int .i64 ((rd_T99 l0 x23_2).f1), .int .i64 ((rd_T99 l0 x23_2).f2), .int .i64 ((rd_T99 l0 x23_2).f3), .int .i64 0, .int .i64 0]) ?_ 4 _ rfl; (with_reducible repeat (first | refine blk_drewN ?_ _ | refine blk_drew ?_ | refine blk_alloc ?_ _)); refine blk_put (cs := #[.int .i64 ((rd_T99 l0 x23_2).f0), .int .i64 ((rd_T99 l0 x23_2).f1), .int .i64 ((rd_T99 l0 x23_2).f2), .int .i64 0, .int .i64 0, .int .i64 0]) ?_ 3 _ rfl; (with_reducible repeat (first | refine blk_drewN ?_ _ | refine blk_drew ?_ | refine blk_alloc ?_ _)); refine blk_put (cs := #[.int .i64 ((rd_T99 l0 x23_2).f0), .int .i64 ((rd_T99 l0 x23_2).f1), .int .i64 0, .int .i64 0, .int .i64 0, .int .i64 0]) ?_ 2 _ rfl; (with_reducible repeat (first | refine blk_drewN ?_ _ | refine blk_drew ?_ | refine blk_alloc ?_ _)); refine blk_put (cs := #[.int .i64 ((rd_T99 l0 x23_2).f0), .int .i64 0, .int .i64 0, .int .i64 0, .int .i64 0, .int .i64 0]) ?_ 1 _ rfl; (with_reducible repeat (first | refine blk_drewN ?_ _ | refine blk_drew ?_ | refine blk_alloc ?_ _)); refine blk_put (cs := #[.int .i64 0, .int .i64 0, .int .i64 0, .int .i64 0, .int .i64 0, .int .i64 0]) ?_ 0 _ rfl; (with_reducible repeat (first | refine blk_drewN ?_ _ | refine blk_drew ?_ | refine blk_alloc ?_ _)); exact BK425.out) hb); have n2_ := Aside0.mk (below_step (by repeat (first | (with_reducible first | exact HB.out | apply below_alloc | apply pw_below_drewN | apply below_drew1 | refine below_set ?_ GE425.out) | exact HB.out)) hb); clear HO_8; clear BK425; clear HB; have HO_8 := n0_; have BK425 := n1_; have HB := n2_; clear n0_ n1_ n2_; (try clear hb); (try clear hb2); (try clear hk); (try clear hi); have hcz27_0 : w26.cell? ⟨gb425, 0, none⟩ = some (.int .i64 ((rd_T99 l0 x23_2).f0)) := (blk_cell BK425.out 0).trans rfl; have hcz27_1 : w26.cell? ⟨gb425, 1, none⟩ = some (.int .i64 ((rd_T99 l0 x23_2).f1)) := (blk_cell BK425.out 1).trans rfl; have hcz27_2 : w26.cell? ⟨gb425, 2, none⟩ = some (.int .i64 ((rd_T99 l0 x23_2).f2)) := (blk_cell BK425.out 2).trans rfl; have hcz27_3 : w26.cell? ⟨gb425, 3, none⟩ = some (.int .i64 ((rd_T99 l0 x23_2).f3)) := (blk_cell BK425.out 3).trans rfl; have hcz27_4 : w26.cell? ⟨gb425, 4, none⟩ = some (.int .i64 ((rd_T99 l0 x23_2).f4)) := (blk_cell BK425.out 4).trans rfl; have hcz27_5 : w26.cell? ⟨gb425, 5, none⟩ = some (.int .i64 ((rd_T99 l0 x23_2).f5)) := (blk_cell BK425.out 5).trans rfl; have hfz27_0 := blk_frozen BK425.out 0; have hfz27_1 := blk_frozen BK425.out 1; have hfz27_2 := blk_frozen BK425.out 2; have hfz27_3 := blk_frozen BK425.out 3; have hfz27_4 := blk_frozen BK425.out 4; have hfz27_5 := blk_frozen BK425.out 5))
                          go_meet
                          case rel => exact ⟨_, (false), (by first | rfl | (simp; done) | (simp [*]; done)), H', ⟨by have := HJ3.out; have := HK2.out; first | omega | exact Nat.le_refl _⟩, ⟨by (with_reducible repeat (first | apply Kd.R_alloc | apply Kd.R_drewN | apply Kd.R_drew)); exact Kd.R_mono HO_8.out (fun _ hk => hk.2)⟩, ⟨by (with_reducible repeat (first | refine blk_drewN ?_ _ | refine blk_drew ?_ | refine blk_alloc ?_ _)); exact BK425.out⟩, ⟨by repeat (first | (with_reducible first | exact HB.out | apply below_alloc | apply pw_below_drewN | apply below_drew1 | refine below_set ?_ GE425.out) | exact HB.out)⟩⟩
                      · replace c20 := Bool.eq_false_iff.mpr c20
                        subst c20
                        have H1 : (impl_Rename.j2 k2 a1 a2 x8_2 x23_2 l0 (l0.length : Int) x23_2 false ((rd_T99 l0 x23_2).f0) ((rd_T99 l0 x23_2).f1) ((rd_T99 l0 x23_2).f2) ((rd_T99 l0 x23_2).f3) ((rd_T99 l0 x23_2).f4) ((rd_T99 l0 x23_2).f5)) = some (r1, r2) := by rw [if_neg (show ¬ (false = true) by decide)] at H; exact H
                        clear H
                        have H := H1
                        clear H1
                        have H' := Aside0.mk H
                        clear H
                        have hcz28_0 : w17.cell? ⟨gb425, 0, none⟩ = some (.int .i64 0) := (blk_cell BK425.out 0).trans rfl
                        have hcz28_1 : w17.cell? ⟨gb425, 1, none⟩ = some (.int .i64 0) := (blk_cell BK425.out 1).trans rfl
                        have hcz28_2 : w17.cell? ⟨gb425, 2, none⟩ = some (.int .i64 0) := (blk_cell BK425.out 2).trans rfl
                        have hcz28_3 : w17.cell? ⟨gb425, 3, none⟩ = some (.int .i64 0) := (blk_cell BK425.out 3).trans rfl
                        have hcz28_4 : w17.cell? ⟨gb425, 4, none⟩ = some (.int .i64 0) := (blk_cell BK425.out 4).trans rfl
                        have hcz28_5 : w17.cell? ⟨gb425, 5, none⟩ = some (.int .i64 0) := (blk_cell BK425.out 5).trans rfl
                        have hfz28_0 := blk_frozen BK425.out 0
                        have hfz28_1 := blk_frozen BK425.out 1
                        have hfz28_2 := blk_frozen BK425.out 2
                        have hfz28_3 := blk_frozen BK425.out 3
                        have hfz28_4 := blk_frozen BK425.out 4
                        have hfz28_5 := blk_frozen BK425.out 5
                        go_wp2_with (first | ((with_reducible refine gate_callee (f := 97) rfl ?_); refine goesL_ (some 29) rfl rfl Try.func97 (by kernel_rfl) rfl #[.agg #[.int .i64 ((rd_T99 l0 x23_2).f0), .int .i64 ((rd_T99 l0 x23_2).f1), .int .i64 ((rd_T99 l0 x23_2).f2), .int .i64 ((rd_T99 l0 x23_2).f3), .int .i64 ((rd_T99 l0 x23_2).f4), .int .i64 ((rd_T99 l0 x23_2).f5)]] rfl (by (try simp only [List.map_toArray, List.map_cons, List.map_nil]); first | done | rfl | (simp only [List.length_drop, List.length_take]; rfl)) ?_; (with_reducible refine (impl_ofVar.calls ((rd_T99 l0 x23_2).f0) ((rd_T99 l0 x23_2).f1) ((rd_T99 l0 x23_2).f2) ((rd_T99 l0 x23_2).f3) ((rd_T99 l0 x23_2).f4) ((rd_T99 l0 x23_2).f5) false _ A19.out).mono ?_); rintro e w29 ⟨rfl, hb⟩; refine ⟨_, rfl, ?_⟩; have n0_ := Aside0.mk (Kd.R_below (by (with_reducible repeat (first | apply Kd.R_alloc | apply Kd.R_drewN | apply Kd.R_drew)); exact (Kd.R_mono (Kd.R_far (p := ⟨gb425, 5, none⟩) (Kd.R_far (p := ⟨gb425, 4, none⟩) (Kd.R_far (p := ⟨gb425, 3, none⟩) (Kd.R_far (p := ⟨gb425, 2, none⟩) (Kd.R_far (p := ⟨gb425, 1, none⟩) (Kd.R_far (p := ⟨gb425, 0, none⟩) (Kd.R_mono HO_8.out (fun k_ hk => (⟨hk, hk.2⟩ : _ ∧ k_ ≠ gb425))) (fun _ hk => hk.2) (.int .i64 ((rd_T99 l0 x23_2).f0))) (fun _ hk => hk.2) (.int .i64 ((rd_T99 l0 x23_2).f1))) (fun _ hk => hk.2) (.int .i64 ((rd_T99 l0 x23_2).f2))) (fun _ hk => hk.2) (.int .i64 ((rd_T99 l0 x23_2).f3))) (fun _ hk => hk.2) (.int .i64 ((rd_T99 l0 x23_2).f4))) (fun _ hk => hk.2) (.int .i64 ((rd_T99 l0 x23_2).f5))) (fun _ h_ => h_.1))) hb); have n1_ := Aside0.mk (blk_below (g := gb425) (o := .cells #[.int .i64 ((rd_T99 l0 x23_2).f0), .int .i64 ((rd_T99 l0 x23_2).f1), .int .i64 ((rd_T99 l0 x23_2).f2), .int .i64 ((rd_T99 l0 x23_2).f3), .int .i64 ((rd_T99 l0 x23_2).f4), .int .i64 ((rd_T99 l0 x23_2).f5)] 99 (0, 0)) (by (with_reducible repeat (first | refine blk_drewN ?_ _ | refine blk_drew ?_ | refine blk_alloc ?_ _)); refine blk_put (cs := #[.int .i64 ((rd_T99 l0 x23_2).f0), .int .i64 ((rd_T99 l0 x23_2).f1), .int .i64 ((rd_T99 l0 x23_2).f2), .int .i64 ((rd_T99 l0 x23_2).f3), .int .i64 ((rd_T99 l0 x23_2).f4), .int .i64 0]) ?_ 5 _ rfl; (with_reducible repeat (first | refine blk_drewN ?_ _ | refine blk_drew ?_ | refine blk_alloc ?_ _)); refine blk_put (cs := #[.int .i64 ((rd_T99 l0 x23_2).f0), .int .i64 ((rd_T99 l0 x23_2).f1), .int .i64 ((rd_T99 l0 x23_2).f2), .int .i64 ((rd_T99 l0 x23_2).f3), .int .i64 0, .int .i64 0]) ?_ 4 _ rfl; (with_reducible repeat (first | refine blk_drewN ?_ _ | refine blk_drew ?_ | refine blk_alloc ?_ _)); refine blk_put (cs := #[.int .i64 ((rd_T99 l0 x23_2).f0), .int .i64 ((rd_T99 l0 x23_2).f1), .int .i64 ((rd_T99 l0 x23_2).f2), .int .i64 0, .int .i64 0, .int .i64 0]) ?_ 3 _ rfl; (with_reducible repeat (first | refine blk_drewN ?_ _ | refine blk_drew ?_ | refine blk_alloc ?_ _)); refine blk_put (cs := #[.int .i64 ((rd_T99 l0 x23_2).f0), .int .i64 ((rd_T99 l0 x23_2).f1), .int .i64 0, .int .i64 0, .int .i64 0, .int .i64 0]) ?_ 2 _ rfl; (with_reducible repeat (first | refine blk_drewN ?_ _ | refine blk_drew ?_ | refine blk_alloc ?_ _)); refine blk_put (cs := #[.int .i64 ((rd_T99 l0 x23_2).f0), .int .i64 0, .int .i64 0, .int .i64 0, .int .i64 0, .int .i64 0]) ?_ 1 _ rfl; (with_reducible repeat (first | refine blk_drewN ?_ _ | refine blk_drew ?_ | refine blk_alloc ?_ _)); refine blk_put (cs := #[.int .i64 0, .int .i64 0, .int .i64 0, .int .i64 0, .int .i64 0, .int .i64 0]) ?_ 0 _ rfl; (with_reducible repeat (first | refine blk_drewN ?_ _ | refine blk_drew ?_ | refine blk_alloc ?_ _)); exact BK425.out) hb); have n2_ := Aside0.mk (below_step (by repeat (first | (with_reducible first | exact HB.out | apply below_alloc | apply pw_below_drewN | apply below_drew1 | refine below_set ?_ GE425.out) | exact HB.out)) hb); clear HO_8; clear BK425; clear HB; have HO_8 := n0_; have BK425 := n1_; have HB := n2_; clear n0_ n1_ n2_; (try clear hb); (try clear hb2); (try clear hk); (try clear hi)))
                        go_meet
                        case rel => exact ⟨_, (false), (by first | rfl | (simp; done) | (simp [*]; done)), H', ⟨by have := HJ3.out; have := HK2.out; first | omega | exact Nat.le_refl _⟩, ⟨by (with_reducible repeat (first | apply Kd.R_alloc | apply Kd.R_drewN | apply Kd.R_drew)); exact Kd.R_mono HO_8.out (fun _ hk => hk.2)⟩, ⟨by (with_reducible repeat (first | refine blk_drewN ?_ _ | refine blk_drew ?_ | refine blk_alloc ?_ _)); exact BK425.out⟩, ⟨by repeat (first | (with_reducible first | exact HB.out | apply below_alloc | apply pw_below_drewN | apply below_drew1 | refine below_set ?_ GE425.out) | exact HB.out)⟩⟩
                    case rest =>
                      clear HC16
                      try clear c1
                      try clear c2
                      try clear p2
                      try clear c3
                      try clear p4
                      try clear q4
                      try clear hx4
                      try clear c6
                      try clear c8
                      try clear c9
                      try clear c10
                      try clear c11
                      try clear c13
                      try clear c13b0
                      try clear c14
                      try clear c14b0
                      try clear c15
                      try clear c15b0
                      try clear c20
                      try clear c21
                      try clear c21b0
                      try clear c21b1
                      try clear hcz18_0
                      try clear hcz18_1
                      try clear hcz18_2
                      try clear hcz18_3
                      try clear hcz18_4
                      try clear hcz18_5
                      try clear hcz22_0
                      try clear hcz22_1
                      try clear hcz22_2
                      try clear hcz22_3
                      try clear hcz22_4
                      try clear hcz22_5
                      try clear hcz24_0
                      try clear hcz24_1
                      try clear hcz24_2
                      try clear hcz24_3
                      try clear hcz24_4
                      try clear hcz24_5
                      try clear hcz25_0
                      try clear hcz25_1
                      try clear hcz25_2
                      try clear hcz25_3
                      try clear hcz25_4
                      try clear hcz25_5
                      try clear hcz27_0
                      try clear hcz27_1
                      try clear hcz27_2
                      try clear hcz27_3
                      try clear hcz27_4
                      try clear hcz27_5
                      try clear hcz28_0
                      try clear hcz28_1
                      try clear hcz28_2
                      try clear hcz28_3
                      try clear hcz28_4
                      try clear hcz28_5
                      try clear hfz18_0
                      try clear hfz18_1
                      try clear hfz18_2
                      try clear hfz18_3
                      try clear hfz18_4
                      try clear hfz18_5
                      try clear hfz22_0
                      try clear hfz22_1
                      try clear hfz22_2
                      try clear hfz22_3
                      try clear hfz22_4
                      try clear hfz22_5
                      try clear hfz24_0
                      try clear hfz24_1
                      try clear hfz24_2
                      try clear hfz24_3
                      try clear hfz24_4
                      try clear hfz24_5
                      try clear hfz25_0
                      try clear hfz25_1
                      try clear hfz25_2
                      try clear hfz25_3
                      try clear hfz25_4
                      try clear hfz25_5
                      try clear hfz27_0
                      try clear hfz27_1
                      try clear hfz27_2
                      try clear hfz27_3
                      try clear hfz27_4
                      try clear hfz27_5
                      try clear hfz28_0
                      try clear hfz28_1
                      try clear hfz28_2
                      try clear hfz28_3
                      try clear hfz28_4
                      try clear hfz28_5
                      try clear hx424_0
                      try clear hx424_1
                      try clear hx424_2
                      try clear hx424_3
                      try clear hx424_4
                      try clear hx424_5
                      try clear p2
                      try clear p424
                      try clear q424
                      obtain ⟨kq, x40_15, rfl, HA, HJ15, HO_8, BK425, HB⟩ := hcut
                      cases kq with
                      | zero => exact absurd HA.out (by simp [impl_Rename.j2])
                      | succ kj15 =>
                        have H := HA.out
                        clear HA
                        simp only [impl_Rename.j2] at H
                        by_cases c30 : x40_15 = true
                        · subst c30
                          have H1 : (some (([] : List (S99)), false)) = some (r1, r2) := by rw [if_pos rfl] at H; exact H
                          clear H
                          have H := H1
                          clear H1
                          simp only [Option.some.injEq, Prod.mk.injEq] at H
                          obtain ⟨rfl, rfl⟩ := H
                          go_wp2
                          go_ret2
                          exact ⟨_, by first | rfl | (simp [errW_none, errW_some] <;> rfl) | (simp [*, errW_none, errW_some] <;> rfl), by first | exact Kd.R_nil _ _ _ _ _ | exact Kd.N_nil _ _ _ _ _ | exact Kd.V_nil _ _ _ _ _ | exact Kd.Q_nil _ _ _ _ _ | exact Kd.S_nil _ _ _ _ _, by repeat (first | (with_reducible first | exact HB.out | apply below_alloc | apply pw_below_drewN | apply below_drew1 | refine below_set ?_ GE425.out) | exact HB.out)⟩
                        · replace c30 := Bool.eq_false_iff.mpr c30
                          subst c30
                          have H1 : ((impl_ofVar.f ((rd_T99 l0 x23_2).f0) ((rd_T99 l0 x23_2).f1) ((rd_T99 l0 x23_2).f2) ((rd_T99 l0 x23_2).f3) ((rd_T99 l0 x23_2).f4) ((rd_T99 l0 x23_2).f5)).bind fun t427 => (if t427 = true then (if ((rd_T99 l0 x23_2).f2) = a1 then (if 0 ≤ x23_2 then (if x23_2 < (x8_2.length : Int) then (impl_Rename.l0 kj15 a1 a2 (x8_2.set (x23_2 : Int).toNat (⟨(rd_T99 x8_2 x23_2).f0, (rd_T99 x8_2 x23_2).f1, a2, (rd_T99 x8_2 x23_2).f3, (rd_T99 x8_2 x23_2).f4, (rd_T99 x8_2 x23_2).f5⟩ : S99)) l0 (l0.length : Int) (wrap64 (x23_2 + 1))) else (none)) else (none)) else (impl_Rename.l0 kj15 a1 a2 x8_2 l0 (l0.length : Int) (wrap64 (x23_2 + 1)))) else (impl_Rename.l0 kj15 a1 a2 x8_2 l0 (l0.length : Int) (wrap64 (x23_2 + 1))))) = some (r1, r2) := by rw [if_neg (show ¬ (false = true) by decide)] at H; exact H
                          clear H
                          have H := H1
                          clear H1
                          replace H := Option.bind_eq_some_iff.mp H
                          obtain ⟨t427, A310, H⟩ := H
                          replace H : (if t427 = true then (if ((rd_T99 l0 x23_2).f2) = a1 then (if 0 ≤ x23_2 then (if x23_2 < (x8_2.length : Int) then (impl_Rename.l0 kj15 a1 a2 (x8_2.set (x23_2 : Int).toNat (⟨(rd_T99 x8_2 x23_2).f0, (rd_T99 x8_2 x23_2).f1, a2, (rd_T99 x8_2 x23_2).f3, (rd_T99 x8_2 x23_2).f4, (rd_T99 x8_2 x23_2).f5⟩ : S99)) l0 (l0.length : Int) (wrap64 (x23_2 + 1))) else (none)) else (none)) else (impl_Rename.l0 kj15 a1 a2 x8_2 l0 (l0.length : Int) (wrap64 (x23_2 + 1)))) else (impl_Rename.l0 kj15 a1 a2 x8_2 l0 (l0.length : Int) (wrap64 (x23_2 + 1)))) = some (r1, r2) := H
                          have A31 := Aside0.mk A310
                          clear A310
                          by_cases c32 : t427 = true
                          · subst c32
                            have H1 : (if ((rd_T99 l0 x23_2).f2) = a1 then (if 0 ≤ x23_2 then (if x23_2 < (x8_2.length : Int) then (impl_Rename.l0 kj15 a1 a2 (x8_2.set (x23_2 : Int).toNat (⟨(rd_T99 x8_2 x23_2).f0, (rd_T99 x8_2 x23_2).f1, a2, (rd_T99 x8_2 x23_2).f3, (rd_T99 x8_2 x23_2).f4, (rd_T99 x8_2 x23_2).f5⟩ : S99)) l0 (l0.length : Int) (wrap64 (x23_2 + 1))) else (none)) else (none)) else (impl_Rename.l0 kj15 a1 a2 x8_2 l0 (l0.length : Int) (wrap64 (x23_2 + 1)))) = some (r1, r2) := by rw [if_pos rfl] at H; exact H
                            clear H
                            have H := H1
                            clear H1
                            by_cases c33 : ((rd_T99 l0 x23_2).f2) = a1
                            · rw [if_pos c33] at H
                              have c33b0 : (((rd_T99 l0 x23_2).f2) == a1) = true := beq_iff_eq.mpr c33
                              have c33b1 : (((rd_T99 l0 x23_2).f2) != a1) = false := bne_eq_false_iff_eq.mpr c33
                              clear c33
                              by_cases c34 : 0 ≤ x23_2
                              · rw [if_pos c34] at H
                                have c34b0 : decide (0 ≤ x23_2) = true := decide_eq_true c34
                                clear c34
                                by_cases c35 : x23_2 < (x8_2.length : Int)
                                · rw [if_pos c35] at H
                                  have c35b0 : decide (x23_2 < (x8_2.length : Int)) = true := decide_eq_true c35
                                  clear c35
                                  obtain ⟨y428, hy428⟩ : ∃ y_ : List (S99), y_ = (x8_2.set (x23_2 : Int).toNat (⟨(rd_T99 x8_2 x23_2).f0, (rd_T99 x8_2 x23_2).f1, a2, (rd_T99 x8_2 x23_2).f3, (rd_T99 x8_2 x23_2).f4, (rd_T99 x8_2 x23_2).f5⟩ : S99)) := ⟨_, rfl⟩
                                  replace H : (impl_Rename.l0 kj15 a1 a2 y428 l0 (l0.length : Int) (wrap64 (x23_2 + 1))) = some (r1, r2) := by first | (rw [hy428]; with_reducible exact H) | (have H2_ := (Option.bind_some _ _).symm.trans H; rw [hy428]; with_reducible exact H2_) | (have H2_ := (Option.bind_some _ _).symm.trans H; with_reducible exact H2_) | with_reducible exact H | (rw [hy428]; exact H) | exact H
                                  have Ny428 := Aside0.mk hy428
                                  clear hy428
                                  have H' := Aside0.mk H
                                  clear H
                                  have hcz37_0 : wc.cell? ⟨gb425, 0, none⟩ = some (.int .i64 ((rd_T99 l0 x23_2).f0)) := (blk_cell BK425.out 0).trans rfl
                                  have hcz37_1 : wc.cell? ⟨gb425, 1, none⟩ = some (.int .i64 ((rd_T99 l0 x23_2).f1)) := (blk_cell BK425.out 1).trans rfl
                                  have hcz37_2 : wc.cell? ⟨gb425, 2, none⟩ = some (.int .i64 ((rd_T99 l0 x23_2).f2)) := (blk_cell BK425.out 2).trans rfl
                                  have hcz37_3 : wc.cell? ⟨gb425, 3, none⟩ = some (.int .i64 ((rd_T99 l0 x23_2).f3)) := (blk_cell BK425.out 3).trans rfl
                                  have hcz37_4 : wc.cell? ⟨gb425, 4, none⟩ = some (.int .i64 ((rd_T99 l0 x23_2).f4)) := (blk_cell BK425.out 4).trans rfl
                                  have hcz37_5 : wc.cell? ⟨gb425, 5, none⟩ = some (.int .i64 ((rd_T99 l0 x23_2).f5)) := (blk_cell BK425.out 5).trans rfl
                                  have hfz37_0 := blk_frozen BK425.out 0
                                  have hfz37_1 := blk_frozen BK425.out 1
                                  have hfz37_2 := blk_frozen BK425.out 2
                                  have hfz37_3 := blk_frozen BK425.out 3
                                  have hfz37_4 := blk_frozen BK425.out 4
                                  have hfz37_5 := blk_frozen BK425.out 5
                                  go_wp2_with (first | ((with_reducible refine gate_callee (f := 97) rfl ?_); refine goesL_ (some 42) rfl rfl Try.func97 (by kernel_rfl) rfl #[.agg #[.int .i64 ((rd_T99 l0 x23_2).f0), .int .i64 ((rd_T99 l0 x23_2).f1), .int .i64 ((rd_T99 l0 x23_2).f2), .int .i64 ((rd_T99 l0 x23_2).f3), .int .i64 ((rd_T99 l0 x23_2).f4), .int .i64 ((rd_T99 l0 x23_2).f5)]] rfl (by (try simp only [List.map_toArray, List.map_cons, List.map_nil]); first | done | rfl | (simp only [List.length_drop, List.length_take]; rfl)) ?_; (with_reducible refine (impl_ofVar.calls ((rd_T99 l0 x23_2).f0) ((rd_T99 l0 x23_2).f1) ((rd_T99 l0 x23_2).f2) ((rd_T99 l0 x23_2).f3) ((rd_T99 l0 x23_2).f4) ((rd_T99 l0 x23_2).f5) true _ A31.out).mono ?_); rintro e w38 ⟨rfl, hb⟩; refine ⟨_, rfl, ?_⟩; have n0_ := Aside0.mk (Kd.R_below (by (with_reducible repeat (first | apply Kd.R_alloc | apply Kd.R_drewN | apply Kd.R_drew)); exact HO_8.out) hb); have n1_ := Aside0.mk (blk_below (g := gb425) (o := .cells #[.int .i64 ((rd_T99 l0 x23_2).f0), .int .i64 ((rd_T99 l0 x23_2).f1), .int .i64 ((rd_T99 l0 x23_2).f2), .int .i64 ((rd_T99 l0 x23_2).f3), .int .i64 ((rd_T99 l0 x23_2).f4), .int .i64 ((rd_T99 l0 x23_2).f5)] 99 (0, 0)) (by (with_reducible repeat (first | refine blk_drewN ?_ _ | refine blk_drew ?_ | refine blk_alloc ?_ _)); exact BK425.out) hb); have n2_ := Aside0.mk (below_step (by repeat (first | (with_reducible first | exact HB.out | apply below_alloc | apply pw_below_drewN | apply below_drew1 | refine below_set ?_ GE425.out) | exact HB.out)) hb); clear HO_8; clear BK425; clear HB; have HO_8 := n0_; have BK425 := n1_; have HB := n2_; clear n0_ n1_ n2_; (try clear hb); (try clear hb2); (try clear hk); (try clear hi); have hcz39_0 : w38.cell? ⟨gb425, 0, none⟩ = some (.int .i64 ((rd_T99 l0 x23_2).f0)) := (blk_cell BK425.out 0).trans rfl; have hcz39_1 : w38.cell? ⟨gb425, 1, none⟩ = some (.int .i64 ((rd_T99 l0 x23_2).f1)) := (blk_cell BK425.out 1).trans rfl; have hcz39_2 : w38.cell? ⟨gb425, 2, none⟩ = some (.int .i64 ((rd_T99 l0 x23_2).f2)) := (blk_cell BK425.out 2).trans rfl; have hcz39_3 : w38.cell? ⟨gb425, 3, none⟩ = some (.int .i64 ((rd_T99 l0 x23_2).f3)) := (blk_cell BK425.out 3).trans rfl; have hcz39_4 : w38.cell? ⟨gb425, 4, none⟩ = some (.int .i64 ((rd_T99 l0 x23_2).f4)) := (blk_cell BK425.out 4).trans rfl; have hcz39_5 : w38.cell? ⟨gb425, 5, none⟩ = some (.int .i64 ((rd_T99 l0 x23_2).f5)) := (blk_cell BK425.out 5).trans rfl; have hfz39_0 := blk_frozen BK425.out 0; have hfz39_1 := blk_frozen BK425.out 1; have hfz39_2 := blk_frozen BK425.out 2; have hfz39_3 := blk_frozen BK425.out 3; have hfz39_4 := blk_frozen BK425.out 4; have hfz39_5 := blk_frozen BK425.out 5; have p36 : 0 ≤ (x23_2 : Int) := of_decide_eq_true (by first | (with_reducible assumption) | assumption); have q36 : (x23_2 : Int) < ((x8_2.length : Int) : Int) := of_decide_eq_true (by first | (with_reducible assumption) | assumption); obtain ⟨go36, co36, eo36, gb36, gl36, cl36, HG36⟩ := Kd.R_form HO_8.out (by omega); (first | cases eo36 | (injection eo36 with ea_ en_ ec_; (first | subst ea_ | (injection ea_ with ea_; subst ea_)); subst ec_; clear en_)); have GB36 := Aside0.mk gb36; have GG36 := Aside0.mk HG36; clear gb36 gl36 HG36; obtain ⟨ce36, hcl36, hM36, hcc36, hfr36⟩ := Kd.R_elem HO_8.out z99 (x23_2 : Int) p36 q36; obtain rfl := k99_openM hM36; have hx36_0 : w38.cell? ⟨go36, (x23_2 : Int).toNat * 6, none⟩ = some (.int .i64 ((rd_T99 x8_2 x23_2).f0)) := hcc36 0 _ rfl; have hx36_1 : w38.cell? ⟨go36, (x23_2 : Int).toNat * 6 + 1, none⟩ = some (.int .i64 ((rd_T99 x8_2 x23_2).f1)) := hcc36 1 _ rfl; have hx36_2 : w38.cell? ⟨go36, (x23_2 : Int).toNat * 6 + 2, none⟩ = some (.int .i64 ((rd_T99 x8_2 x23_2).f2)) := hcc36 2 _ rfl; have hx36_3 : w38.cell? ⟨go36, (x23_2 : Int).toNat * 6 + 3, none⟩ = some (.int .i64 ((rd_T99 x8_2 x23_2).f3)) := hcc36 3 _ rfl; have hx36_4 : w38.cell? ⟨go36, (x23_2 : Int).toNat * 6 + 4, none⟩ = some (.int .i64 ((rd_T99 x8_2 x23_2).f4)) := hcc36 4 _ rfl; have hx36_5 : w38.cell? ⟨go36, (x23_2 : Int).toNat * 6 + 5, none⟩ = some (.int .i64 ((rd_T99 x8_2 x23_2).f5)) := hcc36 5 _ rfl; have hf36_0 : w38.frozen? ⟨go36, (x23_2 : Int).toNat * 6, none⟩ = false := hfr36 0; have hf36_1 : w38.frozen? ⟨go36, (x23_2 : Int).toNat * 6 + 1, none⟩ = false := hfr36 1; have hf36_2 : w38.frozen? ⟨go36, (x23_2 : Int).toNat * 6 + 2, none⟩ = false := hfr36 2; have hf36_3 : w38.frozen? ⟨go36, (x23_2 : Int).toNat * 6 + 3, none⟩ = false := hfr36 3; have hf36_4 : w38.frozen? ⟨go36, (x23_2 : Int).toNat * 6 + 4, none⟩ = false := hfr36 4; have hf36_5 : w38.frozen? ⟨go36, (x23_2 : Int).toNat * 6 + 5, none⟩ = false := hfr36 5; clear hcl36 hcc36 hfr36 hM36; replace p36 := eq_true p36; replace q36 := eq_true q36; have HX40 := Aside0.mk (show Kd.R k99 99 w38 w.heap.size (fun k_ => k_ ≠ gb425) (.slice (some ⟨go36, 0, none⟩) x8_2.length co36) x8_2 from (by (with_reducible repeat (first | apply Kd.R_alloc | apply Kd.R_drewN | apply Kd.R_drew)); exact HO_8.out)); obtain ⟨ce40, hcl40, hM40, hcc40, hfr40⟩ := Kd.R_elem HX40.out z99 (x23_2 : Int) (of_decide_eq_true (by first | (with_reducible assumption) | assumption)) (by have h_ : (x23_2 : Int) < ((x8_2.length : Int) : Int) := of_decide_eq_true (by first | (with_reducible assumption) | assumption); first | exact h_ | (have e_ := (Kd.R_reads' HO_8.out).1; omega) | simpa using h_); obtain rfl := k99_openM hM40; have HP40 := Kd.R_seg HX40.out (x23_2 : Int) (of_decide_eq_true (by first | (with_reducible assumption) | assumption)) (by have h_ : (x23_2 : Int) < ((x8_2.length : Int) : Int) := of_decide_eq_true (by first | (with_reducible assumption) | assumption); first | exact h_ | (have e_ := (Kd.R_reads' HO_8.out).1; omega) | simpa using h_) (seg := [.int .i64 a2]) (j := 2) hcl40 hcc40 (show 3 ≤ 6 from by decide) (x' := (⟨(rd_T99 x8_2 x23_2).f0, (rd_T99 x8_2 x23_2).f1, a2, (rd_T99 x8_2 x23_2).f3, (rd_T99 x8_2 x23_2).f4, (rd_T99 x8_2 x23_2).f5⟩ : S99)) (k99_mkM _ _ _ (⟨(rd_T99 x8_2 x23_2).f0, (rd_T99 x8_2 x23_2).f1, a2, (rd_T99 x8_2 x23_2).f3, (rd_T99 x8_2 x23_2).f4, (rd_T99 x8_2 x23_2).f5⟩ : S99) ) (fun _ hk => hk); have hx40_2 := hcc40 2 _ rfl; (try simp only [show (k99).sz = 6 from rfl, Nat.mul_one, Nat.add_zero] at hx40_2); have hf40_2 := hfr40 2; (try simp only [show (k99).sz = 6 from rfl, Nat.mul_one, Nat.add_zero] at hf40_2); clear hcl40 hcc40 hfr40 hM40) | ((with_reducible refine gate_store (t := 3) (p := 53) rfl ?_); refine store_event (t := 3) (p := 53) (v := ?vo_w41) (w1 := (w38.setCell ⟨go36, (x23_2 : Int).toNat * 6 + 2, none⟩ (.int .i64 a2))) ?hg ?ho ?hn ?hr ?_; (case ho => rfl); (case hg => rfl); (case hn => rfl); (case hr => first | (go_simp; done) | (go_simp; rfl)); intro w41 hw; have hg : w38.grownBy w41 (some go36) := (by rw [hw]; exact HP40.2); have hp_ : Kd.R k99 99 w41 w.heap.size (fun k_ => k_ ≠ gb425) (.slice (some ⟨go36, 0, none⟩) x8_2.length co36) y428 := (by rw [hw, Ny428.out]; exact HP40.1); clear HP40; have n0_ := Aside0.mk (hp_); have n1_ := Aside0.mk (blk_grown (g := gb425) (o := .cells #[.int .i64 ((rd_T99 l0 x23_2).f0), .int .i64 ((rd_T99 l0 x23_2).f1), .int .i64 ((rd_T99 l0 x23_2).f2), .int .i64 ((rd_T99 l0 x23_2).f3), .int .i64 ((rd_T99 l0 x23_2).f4), .int .i64 ((rd_T99 l0 x23_2).f5)] 99 (0, 0)) (by (with_reducible repeat (first | refine blk_drewN ?_ _ | refine blk_drew ?_ | refine blk_alloc ?_ _)); exact BK425.out) hg (Kd.R_away HO_8.out (fun _ hk => hk))); have n2_ := Aside0.mk ((by rw [hw]; exact below_set (HB.out) GB36.out : Below w.heap.size w w41)); clear HO_8; clear BK425; clear HB; have HO_8 := n0_; have BK425 := n1_; have HB := n2_; clear n0_ n1_ n2_; clear hg hw hp_))
                                  go_roundg kj15
                                  case measure => have := HJ3.out; have := HK2.out; have := HJ15.out; omega
                                  case rel => exact ⟨(y428), (wrap64 (x23_2 + 1)), (by first | rfl | (simp; done) | (simp [*]; done)), H', ⟨by have := HJ3.out; have := HK2.out; have := HJ15.out; omega⟩, ⟨by (with_reducible repeat (first | apply Kd.R_alloc | apply Kd.R_drewN | apply Kd.R_drew)); exact Kd.R_mono HO_8.out (fun _ hk => trivial)⟩, ⟨by repeat (first | (with_reducible first | exact HB.out | apply below_alloc | apply pw_below_drewN | apply below_drew1 | refine below_set ?_ GE425.out) | exact HB.out)⟩⟩
                                · rw [if_neg c35] at H
                                  exact absurd H (by simp)
                              · rw [if_neg c34] at H
                                exact absurd H (by simp)
                            · rw [if_neg c33] at H
                              have c33b0 : (((rd_T99 l0 x23_2).f2) == a1) = false := beq_eq_false_iff_ne.mpr c33
                              have c33b1 : (((rd_T99 l0 x23_2).f2) != a1) = true := bne_iff_ne.mpr c33
                              have H' := Aside0.mk H
                              clear H
                              have hcz42_0 : wc.cell? ⟨gb425, 0, none⟩ = some (.int .i64 ((rd_T99 l0 x23_2).f0)) := (blk_cell BK425.out 0).trans rfl
                              have hcz42_1 : wc.cell? ⟨gb425, 1, none⟩ = some (.int .i64 ((rd_T99 l0 x23_2).f1)) := (blk_cell BK425.out 1).trans rfl
                              have hcz42_2 : wc.cell? ⟨gb425, 2, none⟩ = some (.int .i64 ((rd_T99 l0 x23_2).f2)) := (blk_cell BK425.out 2).trans rfl
                              have hcz42_3 : wc.cell? ⟨gb425, 3, none⟩ = some (.int .i64 ((rd_T99 l0 x23_2).f3)) := (blk_cell BK425.out 3).trans rfl
                              have hcz42_4 : wc.cell? ⟨gb425, 4, none⟩ = some (.int .i64 ((rd_T99 l0 x23_2).f4)) := (blk_cell BK425.out 4).trans rfl
                              have hcz42_5 : wc.cell? ⟨gb425, 5, none⟩ = some (.int .i64 ((rd_T99 l0 x23_2).f5)) := (blk_cell BK425.out 5).trans rfl
                              have hfz42_0 := blk_frozen BK425.out 0
                              have hfz42_1 := blk_frozen BK425.out 1
                              have hfz42_2 := blk_frozen BK425.out 2
                              have hfz42_3 := blk_frozen BK425.out 3
                              have hfz42_4 := blk_frozen BK425.out 4
                              have hfz42_5 := blk_frozen BK425.out 5
                              go_wp2_with (first | ((with_reducible refine gate_callee (f := 97) rfl ?_); refine goesL_ (some 42) rfl rfl Try.func97 (by kernel_rfl) rfl #[.agg #[.int .i64 ((rd_T99 l0 x23_2).f0), .int .i64 ((rd_T99 l0 x23_2).f1), .int .i64 ((rd_T99 l0 x23_2).f2), .int .i64 ((rd_T99 l0 x23_2).f3), .int .i64 ((rd_T99 l0 x23_2).f4), .int .i64 ((rd_T99 l0 x23_2).f5)]] rfl (by (try simp only [List.map_toArray, List.map_cons, List.map_nil]); first | done | rfl | (simp only [List.length_drop, List.length_take]; rfl)) ?_; (with_reducible refine (impl_ofVar.calls ((rd_T99 l0 x23_2).f0) ((rd_T99 l0 x23_2).f1) ((rd_T99 l0 x23_2).f2) ((rd_T99 l0 x23_2).f3) ((rd_T99 l0 x23_2).f4) ((rd_T99 l0 x23_2).f5) true _ A31.out).mono ?_); rintro e w43 ⟨rfl, hb⟩; refine ⟨_, rfl, ?_⟩; have n0_ := Aside0.mk (Kd.R_below (by (with_reducible repeat (first | apply Kd.R_alloc | apply Kd.R_drewN | apply Kd.R_drew)); exact HO_8.out) hb); have n1_ := Aside0.mk (blk_below (g := gb425) (o := .cells #[.int .i64 ((rd_T99 l0 x23_2).f0), .int .i64 ((rd_T99 l0 x23_2).f1), .int .i64 ((rd_T99 l0 x23_2).f2), .int .i64 ((rd_T99 l0 x23_2).f3), .int .i64 ((rd_T99 l0 x23_2).f4), .int .i64 ((rd_T99 l0 x23_2).f5)] 99 (0, 0)) (by (with_reducible repeat (first | refine blk_drewN ?_ _ | refine blk_drew ?_ | refine blk_alloc ?_ _)); exact BK425.out) hb); have n2_ := Aside0.mk (below_step (by repeat (first | (with_reducible first | exact HB.out | apply below_alloc | apply pw_below_drewN | apply below_drew1 | refine below_set ?_ GE425.out) | exact HB.out)) hb); clear HO_8; clear BK425; clear HB; have HO_8 := n0_; have BK425 := n1_; have HB := n2_; clear n0_ n1_ n2_; (try clear hb); (try clear hb2); (try clear hk); (try clear hi); have hcz44_0 : w43.cell? ⟨gb425, 0, none⟩ = some (.int .i64 ((rd_T99 l0 x23_2).f0)) := (blk_cell BK425.out 0).trans rfl; have hcz44_1 : w43.cell? ⟨gb425, 1, none⟩ = some (.int .i64 ((rd_T99 l0 x23_2).f1)) := (blk_cell BK425.out 1).trans rfl; have hcz44_2 : w43.cell? ⟨gb425, 2, none⟩ = some (.int .i64 ((rd_T99 l0 x23_2).f2)) := (blk_cell BK425.out 2).trans rfl; have hcz44_3 : w43.cell? ⟨gb425, 3, none⟩ = some (.int .i64 ((rd_T99 l0 x23_2).f3)) := (blk_cell BK425.out 3).trans rfl; have hcz44_4 : w43.cell? ⟨gb425, 4, none⟩ = some (.int .i64 ((rd_T99 l0 x23_2).f4)) := (blk_cell BK425.out 4).trans rfl; have hcz44_5 : w43.cell? ⟨gb425, 5, none⟩ = some (.int .i64 ((rd_T99 l0 x23_2).f5)) := (blk_cell BK425.out 5).trans rfl; have hfz44_0 := blk_frozen BK425.out 0; have hfz44_1 := blk_frozen BK425.out 1; have hfz44_2 := blk_frozen BK425.out 2; have hfz44_3 := blk_frozen BK425.out 3; have hfz44_4 := blk_frozen BK425.out 4; have hfz44_5 := blk_frozen BK425.out 5))
                              go_roundg kj15
                              case measure => have := HJ3.out; have := HK2.out; have := HJ15.out; omega
                              case rel => exact ⟨(x8_2), (wrap64 (x23_2 + 1)), (by first | rfl | (simp; done) | (simp [*]; done)), H', ⟨by have := HJ3.out; have := HK2.out; have := HJ15.out; omega⟩, ⟨by (with_reducible repeat (first | apply Kd.R_alloc | apply Kd.R_drewN | apply Kd.R_drew)); exact Kd.R_mono HO_8.out (fun _ hk => trivial)⟩, ⟨by repeat (first | (with_reducible first | exact HB.out | apply below_alloc | apply pw_below_drewN | apply below_drew1 | refine below_set ?_ GE425.out) | exact HB.out)⟩⟩
                          · replace c32 := Bool.eq_false_iff.mpr c32
                            subst c32
                            have H1 : (impl_Rename.l0 kj15 a1 a2 x8_2 l0 (l0.length : Int) (wrap64 (x23_2 + 1))) = some (r1, r2) := by rw [if_neg (show ¬ (false = true) by decide)] at H; exact H
                            clear H
                            have H := H1
                            clear H1
                            have H' := Aside0.mk H
                            clear H
                            have hcz45_0 : wc.cell? ⟨gb425, 0, none⟩ = some (.int .i64 ((rd_T99 l0 x23_2).f0)) := (blk_cell BK425.out 0).trans rfl
                            have hcz45_1 : wc.cell? ⟨gb425, 1, none⟩ = some (.int .i64 ((rd_T99 l0 x23_2).f1)) := (blk_cell BK425.out 1).trans rfl
                            have hcz45_2 : wc.cell? ⟨gb425, 2, none⟩ = some (.int .i64 ((rd_T99 l0 x23_2).f2)) := (blk_cell BK425.out 2).trans rfl
                            have hcz45_3 : wc.cell? ⟨gb425, 3, none⟩ = some (.int .i64 ((rd_T99 l0 x23_2).f3)) := (blk_cell BK425.out 3).trans rfl
                            have hcz45_4 : wc.cell? ⟨gb425, 4, none⟩ = some (.int .i64 ((rd_T99 l0 x23_2).f4)) := (blk_cell BK425.out 4).trans rfl
                            have hcz45_5 : wc.cell? ⟨gb425, 5, none⟩ = some (.int .i64 ((rd_T99 l0 x23_2).f5)) := (blk_cell BK425.out 5).trans rfl
                            have hfz45_0 := blk_frozen BK425.out 0
                            have hfz45_1 := blk_frozen BK425.out 1
                            have hfz45_2 := blk_frozen BK425.out 2
                            have hfz45_3 := blk_frozen BK425.out 3
                            have hfz45_4 := blk_frozen BK425.out 4
                            have hfz45_5 := blk_frozen BK425.out 5
                            go_wp2_with (first | ((with_reducible refine gate_callee (f := 97) rfl ?_); refine goesL_ (some 42) rfl rfl Try.func97 (by kernel_rfl) rfl #[.agg #[.int .i64 ((rd_T99 l0 x23_2).f0), .int .i64 ((rd_T99 l0 x23_2).f1), .int .i64 ((rd_T99 l0 x23_2).f2), .int .i64 ((rd_T99 l0 x23_2).f3), .int .i64 ((rd_T99 l0 x23_2).f4), .int .i64 ((rd_T99 l0 x23_2).f5)]] rfl (by (try simp only [List.map_toArray, List.map_cons, List.map_nil]); first | done | rfl | (simp only [List.length_drop, List.length_take]; rfl)) ?_; (with_reducible refine (impl_ofVar.calls ((rd_T99 l0 x23_2).f0) ((rd_T99 l0 x23_2).f1) ((rd_T99 l0 x23_2).f2) ((rd_T99 l0 x23_2).f3) ((rd_T99 l0 x23_2).f4) ((rd_T99 l0 x23_2).f5) false _ A31.out).mono ?_); rintro e w46 ⟨rfl, hb⟩; refine ⟨_, rfl, ?_⟩; have n0_ := Aside0.mk (Kd.R_below (by (with_reducible repeat (first | apply Kd.R_alloc | apply Kd.R_drewN | apply Kd.R_drew)); exact HO_8.out) hb); have n1_ := Aside0.mk (blk_below (g := gb425) (o := .cells #[.int .i64 ((rd_T99 l0 x23_2).f0), .int .i64 ((rd_T99 l0 x23_2).f1), .int .i64 ((rd_T99 l0 x23_2).f2), .int .i64 ((rd_T99 l0 x23_2).f3), .int .i64 ((rd_T99 l0 x23_2).f4), .int .i64 ((rd_T99 l0 x23_2).f5)] 99 (0, 0)) (by (with_reducible repeat (first | refine blk_drewN ?_ _ | refine blk_drew ?_ | refine blk_alloc ?_ _)); exact BK425.out) hb); have n2_ := Aside0.mk (below_step (by repeat (first | (with_reducible first | exact HB.out | apply below_alloc | apply pw_below_drewN | apply below_drew1 | refine below_set ?_ GE425.out) | exact HB.out)) hb); clear HO_8; clear BK425; clear HB; have HO_8 := n0_; have BK425 := n1_; have HB := n2_; clear n0_ n1_ n2_; (try clear hb); (try clear hb2); (try clear hk); (try clear hi)))
                            go_roundg kj15
                            case measure => have := HJ3.out; have := HK2.out; have := HJ15.out; omega
                            case rel => exact ⟨(x8_2), (wrap64 (x23_2 + 1)), (by first | rfl | (simp; done) | (simp [*]; done)), H', ⟨by have := HJ3.out; have := HK2.out; have := HJ15.out; omega⟩, ⟨by (with_reducible repeat (first | apply Kd.R_alloc | apply Kd.R_drewN | apply Kd.R_drew)); exact Kd.R_mono HO_8.out (fun _ hk => trivial)⟩, ⟨by repeat (first | (with_reducible first | exact HB.out | apply below_alloc | apply pw_below_drewN | apply below_drew1 | refine below_set ?_ GE425.out) | exact HB.out)⟩⟩
                  · rw [if_neg c15] at H
                    exact absurd H (by simp)
                · rw [if_neg c14] at H
                  exact absurd H (by simp)
              · rw [if_neg c13] at H
                have c13b0 : decide (x23_2 < (l0.length : Int)) = false := decide_eq_false c13
                clear c13
                simp only [Option.some.injEq, Prod.mk.injEq] at H
                obtain ⟨rfl, rfl⟩ := H
                go_wp2
                go_ret2
                exact ⟨_, by first | rfl | (simp [errW_none, errW_some] <;> rfl) | (simp [*, errW_none, errW_some] <;> rfl), by (with_reducible repeat (first | apply Kd.R_alloc | apply Kd.R_drewN | apply Kd.R_drew)); exact HO_8.out, by repeat (first | (with_reducible first | exact HB.out | apply below_alloc | apply pw_below_drewN | apply below_drew1) | exact HB.out)⟩
        · rw [if_neg c11] at H
          exact absurd H (by simp)


end Go.Proofs.Ytlgjogfcpgfbnaa.K
