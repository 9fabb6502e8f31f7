/- The walk of the reference's check of one node. -/
import Derived.Test.YtlgjogfcpgfbnaaKW2
import Derived.Outline
import Derived.Deep.QuietTactic
import Derived.BigQuiet
set_option linter.unusedVariables false
set_option linter.unusedSimpArgs false
namespace Go.Proofs.Ytlgjogfcpgfbnaa.KS
open Go.RowKit Go.Proofs.YtlgjogfcpgfbnaaW.PrintWords Go.Proofs.YtlgjogfcpgfbnaaW.PrintLast Go.Proofs.YtlgjogfcpgfbnaaW.PrintMore Go.Proofs.Ytlgjogfcpgfbnaa.Lib0 Go.Proofs.Ytlgjogfcpgfbnaa.K Go.Proofs.Ytlgjogfcpgfbnaa.KM

theorem l01InB (a b c : Int) (r : Bool) (h : decide (b ≤ a ∧ a ≤ c) = r) (w : World) : Calls Try.prog 93 #[.int .i64 a, .int .i64 b, .int .i64 c] w fun e w' => e = .returned (.bool r) ∧ Drawn0 w w' := h ▸ spec_l01In.calls _ _ _ _ w (l01In_eq a b c)
theorem pow2_ev : ∀ (d i x : Nat) (w : Int), w = ((i + d : Nat) : Int) → i + d ≤ 60 → x = 2 ^ i → Ev (fun k => spec_l01Pow2.l0 k w (x : Int) (i : Int)) ((2 ^ (i + d) : Nat) : Int) := by
  intro d
  induction d with
  | zero =>
    rintro i x w rfl h1 rfl
    refine Ev.step (fun _ => rfl) ?_
    simp only [spec_l01Pow2.l0]
    exact Ev.neg (by omega) (Ev.now _)
  | succ d ih =>
    rintro i x w rfl h1 rfl
    have hp : 2 ^ i ≤ 2 ^ 59 := Nat.pow_le_pow_right (by omega) (by omega)
    refine Ev.step (fun _ => rfl) ?_
    simp only [spec_l01Pow2.l0]
    have e1 : wrap64 (2 * ((2 ^ i : Nat) : Int)) = ((2 ^ (i + 1) : Nat) : Int) := by
      rw [Nat.pow_succ]
      generalize (2 ^ i : Nat) = P at hp
      rw [wrap64_id (by omega) (by omega)]
      omega
    have e2 : wrap64 ((i : Int) + 1) = ((i + 1 : Nat) : Int) := by rw [wrap64_id (by omega) (by omega)]; omega
    rw [e1, e2]
    refine Ev.pos (by omega) ?_
    have := ih (i + 1) (2 ^ (i + 1)) ((i + (d + 1) : Nat) : Int) (by omega) (by omega) rfl
    have e3 : i + 1 + d = i + (d + 1) := by omega
    rw [e3] at this
    exact this
theorem Pow2_ev (n : Nat) (h : n ≤ 60) : Ev (fun k => spec_l01Pow2.f k (n : Int)) ((2 ^ n : Nat) : Int) := by
  unfold spec_l01Pow2.f
  have := pow2_ev n 0 1 (n : Int) (by omega) (by omega) rfl
  simpa using this
theorem sWordOk_ev (w a : Int) : Ev (fun k => spec_WordOk.f k w a) (decide (WordP w a)) := by
  unfold spec_WordOk.f
  refine Ev.bindc (l01In_eq _ _ _) ?_
  by_cases h : 1 ≤ w ∧ w ≤ 8
  · have hw : ((w.toNat : Nat) : Int) = w := by omega
    have := Pow2_ev w.toNat (by omega)
    rw [hw] at this
    have hp := pow_le8 (w := w.toNat) (by omega)
    refine Ev.pos (by simpa using h) (Ev.bind this (Ev.bindc (l01In_eq _ _ _) (Ev.eq (Ev.now _) ?_)))
    obtain ⟨P, hP⟩ : ∃ P : Nat, 2 ^ w.toNat = P := ⟨_, rfl⟩
    have e : wrap64 (((2 ^ w.toNat : Nat) : Int) - 1) = ((2 ^ w.toNat : Nat) : Int) - 1 := by rw [hP] at hp ⊢; exact wrap64_id (by omega) (by omega)
    rw [e]
    apply decide_eq_decide.2
    unfold WordP
    rw [hP]
    omega
  · refine Ev.neg (by simpa using h) (Ev.eq (Ev.now _) ?_)
    symm
    apply decide_eq_false
    unfold WordP
    intro h'; exact h ⟨h'.1, h'.2.1⟩
theorem sWordOkB (a b : Int) (r : Bool) (h : decide (WordP a b) = r) (w : World) : Calls Try.prog 225 #[.int .i64 a, .int .i64 b] w fun e w' => e = .returned (.bool r) ∧ Drawn0 w w' := by
  obtain ⟨k, hk⟩ := (sWordOk_ev a b).rounds
  exact h ▸ spec_WordOk.calls k a b _ w hk
theorem specPartsC (a0 a1 a2 a3 a4 a5 : Int) (w : World) : Calls Try.prog 84 #[.agg #[.int .i64 a0, .int .i64 a1, .int .i64 a2, .int .i64 a3, .int .i64 a4, .int .i64 a5]] w fun e w' =>
    ∃ A c, e = .returned (.slice A (partsL a0 a3 a4 a5).length c) ∧ Pcs w' w.heap.size A (partsL a0 a3 a4 a5) ∧ Below w.heap.size w w' := by
  refine (specParts a0 a1 a2 a3 a4 a5 w).mono ?_
  rintro e w' ⟨v, rfl, ho, hb⟩
  obtain ⟨A, c, rfl, hp⟩ := Pcs.of ho
  exact ⟨A, c, rfl, hp, hb⟩
theorem wd_take {l0 : List Nd} {n : Nat} {p : Int} (h0 : 0 ≤ p) (h1 : p < ((l0.take n).length : Int)) : wd (l0.take n) p = wd l0 p := by
  unfold wd
  rw [List.length_take] at h1
  rw [List.getD_eq_getElem?_getD, List.getD_eq_getElem?_getD, List.getElem?_take, if_pos (by omega)]
set_option maxHeartbeats 4000000 in
set_option maxRecDepth 100000 in
theorem l02Node_run (A0 : Option Addr) (c0 : Nat) (l0 : List Nd) (n : Nat) (hn : n < l0.length) (a0 a1 a2 a3 a4 a5 : Int) (hx : rd_T99 l0 (n : Int) = ⟨a0, a1, a2, a3, a4, a5⟩) (w : World) (hr0 : Kd.C k99 w A0 l0.length l0) (hc0 : l0.length ≤ c0) (R : Bool)
    (hS : R = (decide (1 ≤ a1 ∧ a1 ≤ 8) && (decide (0 ≤ a0 ∧ a0 ≤ 20) && (decide (UsesP a0 a2 a3 a4 a5) && restB (l0.take n) a0 a1 a2 a3 a4 a5)))) :
    Calls Try.prog 164 #[.slice A0 l0.length c0, .int .i64 (n : Int)] w fun e w' => e = .returned (.bool R) ∧ Below w.heap.size w w' := by
  have HS := Aside0.mk hS
  clear hS
  have HR := Aside0.mk hr0
  have hlen : (l0.length : Int) ≤ 9223372036854775807 := by have := hr0.2.1; omega
  clear hr0
  have hlt : (l0.take n).length = n := by rw [List.length_take]; omega
  have b0 : decide (0 ≤ (n : Int)) = true := by simp
  have b1 : decide ((n : Int) < (l0.length : Int)) = true := decide_eq_true (by omega)
  obtain ⟨ad, rfl, m0, m1, m2, m3, m4, m5⟩ := at_T99 HR.out (n : Int) (by omega) (by omega)
  rw [hx] at m0 m1 m2 m3 m4 m5
  rw [Int.toNat_natCast] at m0 m1 m2 m3 m4 m5
  clear hx
  obtain ⟨L, hL⟩ : ∃ L, partsL a0 a3 a4 a5 = L := ⟨_, rfl⟩
  have hl3 := partsL_len a0 a3 a4 a5
  rw [hL] at hl3
  have HL := Aside0.mk hL
  clear hL
  have HLT := Aside0.mk hlt
  clear hlt
  go_enter Try.func164, Try.ntmps164
  go_wp2_with (first | (go_at_call 84; refine (specPartsC a0 a1 a2 a3 a4 a5 _).mono ?_; rintro e w2 ⟨A1, c1, rfl, ho, hb⟩; rw [HL.out] at ho ⊢))
  have HB2 := Aside0.mk (below_step (below_alloc (Below.refl w.heap.size w) _) hb)
  have BN2 := Aside0.mk ((hb.block w.heap.size (by simp)).trans (heap_alloc_new w _))
  have hs2 : w.heap.size + 1 ≤ w2.heap.size := by have := hb.size; simpa using this
  have HP2 := Aside0.mk (show Pcs w2 (w.heap.size + 1) A1 L by simpa using ho)
  clear hb ho m0 m1 m2 m3 m4 m5
  go_loopg [7] L.length (fun kq v7 wc => ∃ i : Nat, i ≤ L.length ∧ L.length - i = kq ∧ v7 = .int .i64 (i : Int) ∧ Aside0 (∀ j (h : j < L.length), j < i → 0 ≤ L[j]'h ∧ L[j]'h < (n : Int)) ∧ Aside0 (Drawn0 w2 wc))
  case atStart => exact ⟨0, Nat.zero_le _, rfl, rfl, ⟨fun j _ h => absurd h (by omega)⟩, ⟨Drawn0.refl _⟩⟩
  case round =>
    obtain ⟨i, hi, hk, rfl, HI, ⟨⟨nd0, rfl⟩⟩⟩ := hrel
    by_cases hlt : i < L.length
    · obtain ⟨g, rfl, hg1, hg2, hcell⟩ := HP2.out i hlt
      have HSI := Aside0.mk (show (n : Int) - 1 ≤ 9223372036854775807 by omega)
      by_cases hr : 0 ≤ L[i] ∧ L[i] < (n : Int)
      · have HWI := Aside0.mk (show decide (0 ≤ L[i] ∧ L[i] ≤ (n : Int) - 1) = true from decide_eq_true (by omega))
        have HR' := Aside0.mk hr
        clear hr
        go_wp2_with (first | (go_at_call 93; refine (l01InB _ _ _ true HWI.out _).mono ?_; rintro e w' ⟨rfl, ⟨nd, rfl⟩⟩))
        go_roundg (L.length - (i + 1))
        case measure => omega
        case rel =>
          refine ⟨i + 1, hlt, rfl, by go_num, ⟨fun j h hj => ?_⟩, ⟨by repeat (first | exact Drawn0.refl _ | apply Drawn0.step)⟩⟩
          by_cases hji : j < i
          · exact HI.out j h hji
          · obtain rfl : j = i := by omega
            exact HR'.out
      · have HWI := Aside0.mk (show decide (0 ≤ L[i] ∧ L[i] ≤ (n : Int) - 1) = false from decide_eq_false (by omega))
        have HF := Aside0.mk (show R = false by rw [HS.out, restB_no (l0 := l0.take n) HL.out i hlt (by rw [HLT.out]; exact hr)]; simp)
        clear hr
        go_wp2_with (first | (go_at_call 93; refine (l01InB _ _ _ false HWI.out _).mono ?_; rintro e w' ⟨rfl, ⟨nd, rfl⟩⟩))
        go_ret
        exact ⟨ret_bool HF.out.symm, by first | exact pw_below_drewN HB2.out _ | exact pw_below_drewN (pw_below_drewN HB2.out _) _⟩
    · obtain rfl : i = L.length := by omega
      have HB3 := Aside0.mk (pw_below_drewN HB2.out nd0)
      have BN3 := Aside0.mk (blk_drewN BN2.out nd0)
      have HP3 := Aside0.mk (show Pcs (w2.drewN nd0) (w.heap.size + 1) A1 L from HP2.out.below (fun g _ _ => by rw [World.heap_drewN]) (by simp))
      obtain ⟨w3, hw3⟩ : ∃ w3, w2.drewN nd0 = w3 := ⟨_, rfl⟩
      rw [hw3] at HB3 BN3 HP3 ⊢
      have hs3 : w.heap.size + 1 ≤ w3.heap.size := by rw [← hw3]; simpa using hs2
      clear hw3 HB2 BN2 HP2 hs2
      have q1 := (blk_cell BN3.out 1).trans (List.getElem?_toArray ..)
      by_cases hW : 1 ≤ a1 ∧ a1 ≤ 8
      · have HW := Aside0.mk (decide_eq_true hW)
        clear hW
        go_wp2_with (first | (go_at_call 93; refine (l01InB a1 1 8 true HW.out _).mono ?_; rintro e w' ⟨rfl, ⟨nd, rfl⟩⟩))
        go_loopg [8, 9] L.length (fun kq v8 v9 wc => ∃ i : Nat, i ≤ L.length ∧ L.length - i = kq ∧ v9 = .int .i64 (i : Int) ∧ Aside0 (Kd.R (Kd.int .i64) 3 wc w3.heap.size (fun _ => True) v8 ((L.take i).map (wd l0))) ∧ Aside0 (Below w3.heap.size w3 wc))
        case atStart =>
          refine ⟨0, Nat.zero_le _, rfl, rfl, ⟨Kd.R_of_own ⟨rfl, .inr ⟨w3.heap.size, 0, #[], rfl, Nat.le_refl _, ?_, Nat.le_refl _, Nat.zero_le _, rfl, rfl⟩⟩ (fun _ _ => trivial)⟩, ⟨?_⟩⟩
          · have := heap_alloc_new (w3.drewN nd) (Obj.cells #[] 3)
            simpa using this
          · exact (pw_below_drewN (Below.refl w3.heap.size w3) _).alloc (by simp) _
        case round =>
          obtain ⟨i, hi, hk, rfl, HO, HBl⟩ := hrel
          have HB4 := Aside0.mk (below_then HB3.out (by omega) HBl.out)
          have hss := HBl.out.size
          by_cases hlt : i < L.length
          · obtain ⟨g, rfl, hg1, hg2, hcell⟩ := HP3.out i hlt
            have hr := HI.out i hlt hlt
            obtain ⟨ad', had, _, hx, _⟩ := at_T99 HR.out L[i] hr.1 (by omega)
            cases had
            replace hx := pw_cell_below HB4.out hx
            replace hcell := (HBl.out.cell (p := ⟨g, i, none⟩) hg2).trans hcell
            have r0 := hr.1
            have r1 : L[i] < (l0.length : Int) := by omega
            have HG := Aside0.mk hg2
            clear hr hg2
            go_wp2_with (first | ((with_reducible refine gate_builtin (b := .append) (xs := #[.tmp 41, .tmp 50]) rfl ?_); at_builtin; refine Kd.R_append (Kd.int .i64) (w0 := w3) w3.heap.size rfl (.tmp 41) (.tmp 50) 45 3 (.int .i64 0) 8 rfl Try.underlying45 info3 rfl (by decide) (by omega) u8 ((L.take i).map (wd l0)) (wd l0 L[i]) [.int .i64 (wd l0 L[i])] (fun _ => True) (fun _ => False) rfl rfl ?aP (fun _ hk => hk.elim) ?aF ?aO ?aB ?aS ?aL ?_; (case aP => exact rfl); (case aB => exact HBl.out); (case aF => exact (fun _ _ => trivial)); (case aO => exact HO.out); (case aS => exact hss); (case aL => simp; omega); intro v1 w4 ho hb hg hat; have HO' := Aside0.mk ho; have HBl' := Aside0.mk hb; clear ho hb hg hat))
            go_roundg (L.length - (i + 1))
            case measure => omega
            case rel =>
              refine ⟨i + 1, hlt, rfl, by go_num, ⟨?_⟩, HBl'⟩
              have e : (L.take (i + 1)).map (wd l0) = (L.take i).map (wd l0) ++ [wd l0 L[i]] := by rw [List.take_add_one, List.getElem?_eq_getElem hlt, List.map_append]; rfl
              rw [e]
              exact HO'.out
          · obtain rfl : i = L.length := by omega
            have BNc := Aside0.mk ((HBl.out.block w.heap.size (by omega)).trans BN3.out)
            obtain ⟨A8, c8, e8, hp8⟩ := Pcs.of HO.out
            subst e8
            rw [List.take_length] at hp8
            have HBc := HB4
            have q0 := (blk_cell BNc.out 0).trans (List.getElem?_toArray ..)
            have q1' := (blk_cell BNc.out 1).trans (List.getElem?_toArray ..)
            have q2 := (blk_cell BNc.out 2).trans (List.getElem?_toArray ..)
            have q3 := (blk_cell BNc.out 3).trans (List.getElem?_toArray ..)
            have q4 := (blk_cell BNc.out 4).trans (List.getElem?_toArray ..)
            have q5 := (blk_cell BNc.out 5).trans (List.getElem?_toArray ..)
            have hall : ∀ p ∈ partsL a0 a3 a4 a5, 0 ≤ p ∧ p < ((l0.take n).length : Int) := by
              rw [HL.out, HLT.out]
              intro p hp
              obtain ⟨j, hj, rfl⟩ := List.getElem_of_mem hp
              exact HI.out j hj hj
            have HK := Aside0.mk (show restB (l0.take n) a0 a1 a2 a3 a4 a5 = decide (KindP a0 a1 a2 a4 (wd (l0.take n) a3) (wd (l0.take n) a4) (wd (l0.take n) a5)) by unfold restB; apply decide_eq_decide.2; exact ⟨fun h => h.2, fun h => ⟨hall, h⟩⟩)
            have n0 : ∀ c : Int, a0 ≠ c → (a0 == c) = false := fun c h => by simp [h]
            clear HO HBl HI hss
            have hcl : a0 = 0 ∨ a0 = 1 ∨ a0 = 2 ∨ (3 ≤ a0 ∧ a0 ≤ 12) ∨ (13 ≤ a0 ∧ a0 ≤ 15) ∨ a0 = 16 ∨ a0 = 17 ∨ a0 = 18 ∨ a0 = 19 ∨ a0 = 20 ∨ (a0 < 0 ∨ 20 < a0) := by omega
            rcases hcl with h | h | h | h | h | h | h | h | h | h | h
            · have t0 : (a0 == 0) = true := by simp [h]
              have HR0 := Aside0.mk (show R = decide ((WordP a1 a2) ∧ (a3 = 0) ∧ (a4 = 0) ∧ (a5 = 0)) by rw [HS.out, HW.out, HK.out, Bool.eq_iff_iff]; simp only [Bool.and_eq_true, decide_eq_true_iff, Bool.true_and]; unfold UsesP KindP; grind)
              clear h n0 hall HK
              by_cases y0 : WordP a1 a2
              · have Z0 := Aside0.mk (show decide (WordP a1 a2) = true from decide_eq_true y0)
                by_cases y1 : a3 = 0
                · have z1 : (a3 == 0) = true := by simp [y1]
                  by_cases y2 : a4 = 0
                  · have z2 : (a4 == 0) = true := by simp [y2]
                    by_cases y3 : a5 = 0
                    · have z3 : (a5 == 0) = true := by simp [y3]
                      have HR1 := Aside0.mk (show R = true by rw [HR0.out]; exact decide_eq_true ⟨y0, y1, y2, y3⟩)
                      clear y0 y1 y2 y3
                      go_wp2_with (first | (go_at_call 225; (with_reducible refine (sWordOkB a1 a2 true Z0.out _).mono ?_); rintro e w' ⟨rfl, ⟨nd, rfl⟩⟩; (try first | exact ⟨rfl, _, World.drewN_drewN _ _ _⟩ | exact ⟨rfl, _, Eq.trans (World.drewN_drewN _ _ _) (congrArg (World.drewN _) (Nat.add_assoc _ _ _))⟩)))
                      (try (go_quiet (first | (go_at_call 225; (with_reducible refine (sWordOkB a1 a2 true Z0.out _).mono ?_); rintro e w' ⟨rfl, ⟨nd, rfl⟩⟩; (try first | exact ⟨rfl, _, World.drewN_drewN _ _ _⟩ | exact ⟨rfl, _, Eq.trans (World.drewN_drewN _ _ _) (congrArg (World.drewN _) (Nat.add_assoc _ _ _))⟩)))))
                      (try go_wp2)
                      go_ret
                      exact ⟨ret_bool HR1.out.symm, by first | exact HBc.out | exact pw_below_drewN HBc.out _ | exact pw_below_drewN (pw_below_drewN HBc.out _) _⟩
                    · have z3 : (a5 == 0) = false := by simp [y3]
                      have HR1 := Aside0.mk (show R = false by rw [HR0.out]; exact decide_eq_false (fun h => y3 (h.2.2.2)))
                      clear y0 y1 y2 y3
                      go_wp2_with (first | (go_at_call 225; (with_reducible refine (sWordOkB a1 a2 true Z0.out _).mono ?_); rintro e w' ⟨rfl, ⟨nd, rfl⟩⟩; (try first | exact ⟨rfl, _, World.drewN_drewN _ _ _⟩ | exact ⟨rfl, _, Eq.trans (World.drewN_drewN _ _ _) (congrArg (World.drewN _) (Nat.add_assoc _ _ _))⟩)))
                      (try (go_quiet (first | (go_at_call 225; (with_reducible refine (sWordOkB a1 a2 true Z0.out _).mono ?_); rintro e w' ⟨rfl, ⟨nd, rfl⟩⟩; (try first | exact ⟨rfl, _, World.drewN_drewN _ _ _⟩ | exact ⟨rfl, _, Eq.trans (World.drewN_drewN _ _ _) (congrArg (World.drewN _) (Nat.add_assoc _ _ _))⟩)))))
                      (try go_wp2)
                      go_ret
                      exact ⟨ret_bool HR1.out.symm, by first | exact HBc.out | exact pw_below_drewN HBc.out _ | exact pw_below_drewN (pw_below_drewN HBc.out _) _⟩
                  · have z2 : (a4 == 0) = false := by simp [y2]
                    have HR1 := Aside0.mk (show R = false by rw [HR0.out]; exact decide_eq_false (fun h => y2 (h.2.2.1)))
                    clear y0 y1 y2
                    go_wp2_with (first | (go_at_call 225; (with_reducible refine (sWordOkB a1 a2 true Z0.out _).mono ?_); rintro e w' ⟨rfl, ⟨nd, rfl⟩⟩; (try first | exact ⟨rfl, _, World.drewN_drewN _ _ _⟩ | exact ⟨rfl, _, Eq.trans (World.drewN_drewN _ _ _) (congrArg (World.drewN _) (Nat.add_assoc _ _ _))⟩)))
                    (try (go_quiet (first | (go_at_call 225; (with_reducible refine (sWordOkB a1 a2 true Z0.out _).mono ?_); rintro e w' ⟨rfl, ⟨nd, rfl⟩⟩; (try first | exact ⟨rfl, _, World.drewN_drewN _ _ _⟩ | exact ⟨rfl, _, Eq.trans (World.drewN_drewN _ _ _) (congrArg (World.drewN _) (Nat.add_assoc _ _ _))⟩)))))
                    (try go_wp2)
                    go_ret
                    exact ⟨ret_bool HR1.out.symm, by first | exact HBc.out | exact pw_below_drewN HBc.out _ | exact pw_below_drewN (pw_below_drewN HBc.out _) _⟩
                · have z1 : (a3 == 0) = false := by simp [y1]
                  have HR1 := Aside0.mk (show R = false by rw [HR0.out]; exact decide_eq_false (fun h => y1 (h.2.1)))
                  clear y0 y1
                  go_wp2_with (first | (go_at_call 225; (with_reducible refine (sWordOkB a1 a2 true Z0.out _).mono ?_); rintro e w' ⟨rfl, ⟨nd, rfl⟩⟩; (try first | exact ⟨rfl, _, World.drewN_drewN _ _ _⟩ | exact ⟨rfl, _, Eq.trans (World.drewN_drewN _ _ _) (congrArg (World.drewN _) (Nat.add_assoc _ _ _))⟩)))
                  (try (go_quiet (first | (go_at_call 225; (with_reducible refine (sWordOkB a1 a2 true Z0.out _).mono ?_); rintro e w' ⟨rfl, ⟨nd, rfl⟩⟩; (try first | exact ⟨rfl, _, World.drewN_drewN _ _ _⟩ | exact ⟨rfl, _, Eq.trans (World.drewN_drewN _ _ _) (congrArg (World.drewN _) (Nat.add_assoc _ _ _))⟩)))))
                  (try go_wp2)
                  go_ret
                  exact ⟨ret_bool HR1.out.symm, by first | exact HBc.out | exact pw_below_drewN HBc.out _ | exact pw_below_drewN (pw_below_drewN HBc.out _) _⟩
              · have Z0 := Aside0.mk (show decide (WordP a1 a2) = false from decide_eq_false y0)
                have HR1 := Aside0.mk (show R = false by rw [HR0.out]; exact decide_eq_false (fun h => y0 (h.1)))
                clear y0
                go_wp2_with (first | (go_at_call 225; (with_reducible refine (sWordOkB a1 a2 false Z0.out _).mono ?_); rintro e w' ⟨rfl, ⟨nd, rfl⟩⟩; (try first | exact ⟨rfl, _, World.drewN_drewN _ _ _⟩ | exact ⟨rfl, _, Eq.trans (World.drewN_drewN _ _ _) (congrArg (World.drewN _) (Nat.add_assoc _ _ _))⟩)))
                (try (go_quiet (first | (go_at_call 225; (with_reducible refine (sWordOkB a1 a2 false Z0.out _).mono ?_); rintro e w' ⟨rfl, ⟨nd, rfl⟩⟩; (try first | exact ⟨rfl, _, World.drewN_drewN _ _ _⟩ | exact ⟨rfl, _, Eq.trans (World.drewN_drewN _ _ _) (congrArg (World.drewN _) (Nat.add_assoc _ _ _))⟩)))))
                (try go_wp2)
                go_ret
                exact ⟨ret_bool HR1.out.symm, by first | exact HBc.out | exact pw_below_drewN HBc.out _ | exact pw_below_drewN (pw_below_drewN HBc.out _) _⟩
            · have t0 := n0 0 (by omega)
              have t1 : (a0 == 1) = true := by simp [h]
              have HR0 := Aside0.mk (show R = decide ((0 ≤ a2 ∧ a2 ≤ 7) ∧ (a3 = 0) ∧ (a4 = 0) ∧ (a5 = 0)) by rw [HS.out, HW.out, HK.out, Bool.eq_iff_iff]; simp only [Bool.and_eq_true, decide_eq_true_iff, Bool.true_and]; unfold UsesP KindP; grind)
              clear h n0 hall HK
              by_cases y0 : 0 ≤ a2 ∧ a2 ≤ 7
              · have Z0 := Aside0.mk (show decide (0 ≤ a2 ∧ a2 ≤ 7) = true from decide_eq_true y0)
                by_cases y1 : a3 = 0
                · have z1 : (a3 == 0) = true := by simp [y1]
                  by_cases y2 : a4 = 0
                  · have z2 : (a4 == 0) = true := by simp [y2]
                    by_cases y3 : a5 = 0
                    · have z3 : (a5 == 0) = true := by simp [y3]
                      have HR1 := Aside0.mk (show R = true by rw [HR0.out]; exact decide_eq_true ⟨y0, y1, y2, y3⟩)
                      clear y0 y1 y2 y3
                      go_wp2_with (first | (go_at_call 93; (with_reducible refine (l01InB a2 0 7 true Z0.out _).mono ?_); rintro e w' ⟨rfl, ⟨nd, rfl⟩⟩; (try first | exact ⟨rfl, _, World.drewN_drewN _ _ _⟩ | exact ⟨rfl, _, Eq.trans (World.drewN_drewN _ _ _) (congrArg (World.drewN _) (Nat.add_assoc _ _ _))⟩)))
                      (try (go_quiet (first | (go_at_call 93; (with_reducible refine (l01InB a2 0 7 true Z0.out _).mono ?_); rintro e w' ⟨rfl, ⟨nd, rfl⟩⟩; (try first | exact ⟨rfl, _, World.drewN_drewN _ _ _⟩ | exact ⟨rfl, _, Eq.trans (World.drewN_drewN _ _ _) (congrArg (World.drewN _) (Nat.add_assoc _ _ _))⟩)))))
                      (try go_wp2)
                      go_ret
                      exact ⟨ret_bool HR1.out.symm, by first | exact HBc.out | exact pw_below_drewN HBc.out _ | exact pw_below_drewN (pw_below_drewN HBc.out _) _⟩
                    · have z3 : (a5 == 0) = false := by simp [y3]
                      have HR1 := Aside0.mk (show R = false by rw [HR0.out]; exact decide_eq_false (fun h => y3 (h.2.2.2)))
                      clear y0 y1 y2 y3
                      go_wp2_with (first | (go_at_call 93; (with_reducible refine (l01InB a2 0 7 true Z0.out _).mono ?_); rintro e w' ⟨rfl, ⟨nd, rfl⟩⟩; (try first | exact ⟨rfl, _, World.drewN_drewN _ _ _⟩ | exact ⟨rfl, _, Eq.trans (World.drewN_drewN _ _ _) (congrArg (World.drewN _) (Nat.add_assoc _ _ _))⟩)))
                      (try (go_quiet (first | (go_at_call 93; (with_reducible refine (l01InB a2 0 7 true Z0.out _).mono ?_); rintro e w' ⟨rfl, ⟨nd, rfl⟩⟩; (try first | exact ⟨rfl, _, World.drewN_drewN _ _ _⟩ | exact ⟨rfl, _, Eq.trans (World.drewN_drewN _ _ _) (congrArg (World.drewN _) (Nat.add_assoc _ _ _))⟩)))))
                      (try go_wp2)
                      go_ret
                      exact ⟨ret_bool HR1.out.symm, by first | exact HBc.out | exact pw_below_drewN HBc.out _ | exact pw_below_drewN (pw_below_drewN HBc.out _) _⟩
                  · have z2 : (a4 == 0) = false := by simp [y2]
                    have HR1 := Aside0.mk (show R = false by rw [HR0.out]; exact decide_eq_false (fun h => y2 (h.2.2.1)))
                    clear y0 y1 y2
                    go_wp2_with (first | (go_at_call 93; (with_reducible refine (l01InB a2 0 7 true Z0.out _).mono ?_); rintro e w' ⟨rfl, ⟨nd, rfl⟩⟩; (try first | exact ⟨rfl, _, World.drewN_drewN _ _ _⟩ | exact ⟨rfl, _, Eq.trans (World.drewN_drewN _ _ _) (congrArg (World.drewN _) (Nat.add_assoc _ _ _))⟩)))
                    (try (go_quiet (first | (go_at_call 93; (with_reducible refine (l01InB a2 0 7 true Z0.out _).mono ?_); rintro e w' ⟨rfl, ⟨nd, rfl⟩⟩; (try first | exact ⟨rfl, _, World.drewN_drewN _ _ _⟩ | exact ⟨rfl, _, Eq.trans (World.drewN_drewN _ _ _) (congrArg (World.drewN _) (Nat.add_assoc _ _ _))⟩)))))
                    (try go_wp2)
                    go_ret
                    exact ⟨ret_bool HR1.out.symm, by first | exact HBc.out | exact pw_below_drewN HBc.out _ | exact pw_below_drewN (pw_below_drewN HBc.out _) _⟩
                · have z1 : (a3 == 0) = false := by simp [y1]
                  have HR1 := Aside0.mk (show R = false by rw [HR0.out]; exact decide_eq_false (fun h => y1 (h.2.1)))
                  clear y0 y1
                  go_wp2_with (first | (go_at_call 93; (with_reducible refine (l01InB a2 0 7 true Z0.out _).mono ?_); rintro e w' ⟨rfl, ⟨nd, rfl⟩⟩; (try first | exact ⟨rfl, _, World.drewN_drewN _ _ _⟩ | exact ⟨rfl, _, Eq.trans (World.drewN_drewN _ _ _) (congrArg (World.drewN _) (Nat.add_assoc _ _ _))⟩)))
                  (try (go_quiet (first | (go_at_call 93; (with_reducible refine (l01InB a2 0 7 true Z0.out _).mono ?_); rintro e w' ⟨rfl, ⟨nd, rfl⟩⟩; (try first | exact ⟨rfl, _, World.drewN_drewN _ _ _⟩ | exact ⟨rfl, _, Eq.trans (World.drewN_drewN _ _ _) (congrArg (World.drewN _) (Nat.add_assoc _ _ _))⟩)))))
                  (try go_wp2)
                  go_ret
                  exact ⟨ret_bool HR1.out.symm, by first | exact HBc.out | exact pw_below_drewN HBc.out _ | exact pw_below_drewN (pw_below_drewN HBc.out _) _⟩
              · have Z0 := Aside0.mk (show decide (0 ≤ a2 ∧ a2 ≤ 7) = false from decide_eq_false y0)
                have HR1 := Aside0.mk (show R = false by rw [HR0.out]; exact decide_eq_false (fun h => y0 (h.1)))
                clear y0
                go_wp2_with (first | (go_at_call 93; (with_reducible refine (l01InB a2 0 7 false Z0.out _).mono ?_); rintro e w' ⟨rfl, ⟨nd, rfl⟩⟩; (try first | exact ⟨rfl, _, World.drewN_drewN _ _ _⟩ | exact ⟨rfl, _, Eq.trans (World.drewN_drewN _ _ _) (congrArg (World.drewN _) (Nat.add_assoc _ _ _))⟩)))
                (try (go_quiet (first | (go_at_call 93; (with_reducible refine (l01InB a2 0 7 false Z0.out _).mono ?_); rintro e w' ⟨rfl, ⟨nd, rfl⟩⟩; (try first | exact ⟨rfl, _, World.drewN_drewN _ _ _⟩ | exact ⟨rfl, _, Eq.trans (World.drewN_drewN _ _ _) (congrArg (World.drewN _) (Nat.add_assoc _ _ _))⟩)))))
                (try go_wp2)
                go_ret
                exact ⟨ret_bool HR1.out.symm, by first | exact HBc.out | exact pw_below_drewN HBc.out _ | exact pw_below_drewN (pw_below_drewN HBc.out _) _⟩
            · have t0 := n0 0 (by omega)
              have t1 := n0 1 (by omega)
              have t2 : (a0 == 2) = true := by simp [h]
              have hLL : L = [a3] := by rw [← HL.out]; unfold partsL; simp [h]
              subst hLL
              obtain ⟨g0, rfl, _, _, e0⟩ := hp8 0 (by simp)
              obtain ⟨x0, hx0⟩ : ∃ x, wd l0 a3 = x := ⟨_, rfl⟩
              have E0 : wd (l0.take n) a3 = x0 := (wd_take (hall _ (by rw [HL.out]; simp)).1 (hall _ (by rw [HL.out]; simp)).2).trans hx0
              replace e0 : wr.cell? ⟨g0, 0, none⟩ = some (.int .i64 x0) := by rw [e0]; simp [hx0]
              have HR0 := Aside0.mk (show R = decide ((x0 = a1) ∧ (a2 = 0) ∧ (a4 = 0) ∧ (a5 = 0)) by rw [HS.out, HW.out, HK.out, Bool.eq_iff_iff]; simp only [Bool.and_eq_true, decide_eq_true_iff, Bool.true_and]; unfold UsesP KindP; rw [E0]; grind)
              clear h n0 hall HK E0 hx0
              by_cases y0 : x0 = a1
              · have z0 : (x0 == a1) = true := by simp [y0]
                by_cases y1 : a2 = 0
                · have z1 : (a2 == 0) = true := by simp [y1]
                  by_cases y2 : a4 = 0
                  · have z2 : (a4 == 0) = true := by simp [y2]
                    by_cases y3 : a5 = 0
                    · have z3 : (a5 == 0) = true := by simp [y3]
                      have HR1 := Aside0.mk (show R = true by rw [HR0.out]; exact decide_eq_true ⟨y0, y1, y2, y3⟩)
                      clear y0 y1 y2 y3
                      go_wp2
                      (try (go_quiet (first | fail)))
                      (try go_wp2)
                      go_ret
                      exact ⟨ret_bool HR1.out.symm, by first | exact HBc.out | exact pw_below_drewN HBc.out _ | exact pw_below_drewN (pw_below_drewN HBc.out _) _⟩
                    · have z3 : (a5 == 0) = false := by simp [y3]
                      have HR1 := Aside0.mk (show R = false by rw [HR0.out]; exact decide_eq_false (fun h => y3 (h.2.2.2)))
                      clear y0 y1 y2 y3
                      go_wp2
                      (try (go_quiet (first | fail)))
                      (try go_wp2)
                      go_ret
                      exact ⟨ret_bool HR1.out.symm, by first | exact HBc.out | exact pw_below_drewN HBc.out _ | exact pw_below_drewN (pw_below_drewN HBc.out _) _⟩
                  · have z2 : (a4 == 0) = false := by simp [y2]
                    have HR1 := Aside0.mk (show R = false by rw [HR0.out]; exact decide_eq_false (fun h => y2 (h.2.2.1)))
                    clear y0 y1 y2
                    go_wp2
                    (try (go_quiet (first | fail)))
                    (try go_wp2)
                    go_ret
                    exact ⟨ret_bool HR1.out.symm, by first | exact HBc.out | exact pw_below_drewN HBc.out _ | exact pw_below_drewN (pw_below_drewN HBc.out _) _⟩
                · have z1 : (a2 == 0) = false := by simp [y1]
                  have HR1 := Aside0.mk (show R = false by rw [HR0.out]; exact decide_eq_false (fun h => y1 (h.2.1)))
                  clear y0 y1
                  go_wp2
                  (try (go_quiet (first | fail)))
                  (try go_wp2)
                  go_ret
                  exact ⟨ret_bool HR1.out.symm, by first | exact HBc.out | exact pw_below_drewN HBc.out _ | exact pw_below_drewN (pw_below_drewN HBc.out _) _⟩
              · have z0 : (x0 == a1) = false := by simp [y0]
                have HR1 := Aside0.mk (show R = false by rw [HR0.out]; exact decide_eq_false (fun h => y0 (h.1)))
                clear y0
                go_wp2
                (try (go_quiet (first | fail)))
                (try go_wp2)
                go_ret
                exact ⟨ret_bool HR1.out.symm, by first | exact HBc.out | exact pw_below_drewN HBc.out _ | exact pw_below_drewN (pw_below_drewN HBc.out _) _⟩
            · have t0 := n0 0 (by omega)
              have t1 := n0 1 (by omega)
              have t2 := n0 2 (by omega)
              have HW1 := Aside0.mk (show decide (3 ≤ a0 ∧ a0 ≤ 12) = true from decide_eq_true (by omega))
              have hLL : L = [a3, a4] := by rw [← HL.out]; unfold partsL; rw [if_neg (by omega), if_pos (by omega)]
              subst hLL
              obtain ⟨g0, rfl, _, _, e0⟩ := hp8 0 (by simp)
              obtain ⟨x0, hx0⟩ : ∃ x, wd l0 a3 = x := ⟨_, rfl⟩
              have E0 : wd (l0.take n) a3 = x0 := (wd_take (hall _ (by rw [HL.out]; simp)).1 (hall _ (by rw [HL.out]; simp)).2).trans hx0
              replace e0 : wr.cell? ⟨g0, 0, none⟩ = some (.int .i64 x0) := by rw [e0]; simp [hx0]
              obtain ⟨g1, hg1, _, _, e1⟩ := hp8 1 (by simp)
              obtain rfl : g0 = g1 := by simpa using hg1
              clear hg1
              obtain ⟨x1, hx1⟩ : ∃ x, wd l0 a4 = x := ⟨_, rfl⟩
              have E1 : wd (l0.take n) a4 = x1 := (wd_take (hall _ (by rw [HL.out]; simp)).1 (hall _ (by rw [HL.out]; simp)).2).trans hx1
              replace e1 : wr.cell? ⟨g0, 1, none⟩ = some (.int .i64 x1) := by rw [e1]; simp [hx1]
              have HR0 := Aside0.mk (show R = decide ((x0 = a1) ∧ (x1 = a1) ∧ (a2 = 0) ∧ (a5 = 0)) by rw [HS.out, HW.out, HK.out, Bool.eq_iff_iff]; simp only [Bool.and_eq_true, decide_eq_true_iff, Bool.true_and]; unfold UsesP KindP; rw [E0, E1]; grind)
              clear h n0 hall HK E0 hx0 E1 hx1
              by_cases y0 : x0 = a1
              · have z0 : (x0 == a1) = true := by simp [y0]
                by_cases y1 : x1 = a1
                · have z1 : (x1 == a1) = true := by simp [y1]
                  by_cases y2 : a2 = 0
                  · have z2 : (a2 == 0) = true := by simp [y2]
                    by_cases y3 : a5 = 0
                    · have z3 : (a5 == 0) = true := by simp [y3]
                      have HR1 := Aside0.mk (show R = true by rw [HR0.out]; exact decide_eq_true ⟨y0, y1, y2, y3⟩)
                      clear y0 y1 y2 y3
                      go_wp2_with (first | (go_at_call 93; (with_reducible refine (l01InB a0 3 12 true HW1.out _).mono ?_); rintro e w' ⟨rfl, ⟨nd, rfl⟩⟩; (try first | exact ⟨rfl, _, World.drewN_drewN _ _ _⟩ | exact ⟨rfl, _, Eq.trans (World.drewN_drewN _ _ _) (congrArg (World.drewN _) (Nat.add_assoc _ _ _))⟩)))
                      (try (go_quiet (first | (go_at_call 93; (with_reducible refine (l01InB a0 3 12 true HW1.out _).mono ?_); rintro e w' ⟨rfl, ⟨nd, rfl⟩⟩; (try first | exact ⟨rfl, _, World.drewN_drewN _ _ _⟩ | exact ⟨rfl, _, Eq.trans (World.drewN_drewN _ _ _) (congrArg (World.drewN _) (Nat.add_assoc _ _ _))⟩)))))
                      (try go_wp2)
                      go_ret
                      exact ⟨ret_bool HR1.out.symm, by first | exact HBc.out | exact pw_below_drewN HBc.out _ | exact pw_below_drewN (pw_below_drewN HBc.out _) _⟩
                    · have z3 : (a5 == 0) = false := by simp [y3]
                      have HR1 := Aside0.mk (show R = false by rw [HR0.out]; exact decide_eq_false (fun h => y3 (h.2.2.2)))
                      clear y0 y1 y2 y3
                      go_wp2_with (first | (go_at_call 93; (with_reducible refine (l01InB a0 3 12 true HW1.out _).mono ?_); rintro e w' ⟨rfl, ⟨nd, rfl⟩⟩; (try first | exact ⟨rfl, _, World.drewN_drewN _ _ _⟩ | exact ⟨rfl, _, Eq.trans (World.drewN_drewN _ _ _) (congrArg (World.drewN _) (Nat.add_assoc _ _ _))⟩)))
                      (try (go_quiet (first | (go_at_call 93; (with_reducible refine (l01InB a0 3 12 true HW1.out _).mono ?_); rintro e w' ⟨rfl, ⟨nd, rfl⟩⟩; (try first | exact ⟨rfl, _, World.drewN_drewN _ _ _⟩ | exact ⟨rfl, _, Eq.trans (World.drewN_drewN _ _ _) (congrArg (World.drewN _) (Nat.add_assoc _ _ _))⟩)))))
                      (try go_wp2)
                      go_ret
                      exact ⟨ret_bool HR1.out.symm, by first | exact HBc.out | exact pw_below_drewN HBc.out _ | exact pw_below_drewN (pw_below_drewN HBc.out _) _⟩
                  · have z2 : (a2 == 0) = false := by simp [y2]
                    have HR1 := Aside0.mk (show R = false by rw [HR0.out]; exact decide_eq_false (fun h => y2 (h.2.2.1)))
                    clear y0 y1 y2
                    go_wp2_with (first | (go_at_call 93; (with_reducible refine (l01InB a0 3 12 true HW1.out _).mono ?_); rintro e w' ⟨rfl, ⟨nd, rfl⟩⟩; (try first | exact ⟨rfl, _, World.drewN_drewN _ _ _⟩ | exact ⟨rfl, _, Eq.trans (World.drewN_drewN _ _ _) (congrArg (World.drewN _) (Nat.add_assoc _ _ _))⟩)))
                    (try (go_quiet (first | (go_at_call 93; (with_reducible refine (l01InB a0 3 12 true HW1.out _).mono ?_); rintro e w' ⟨rfl, ⟨nd, rfl⟩⟩; (try first | exact ⟨rfl, _, World.drewN_drewN _ _ _⟩ | exact ⟨rfl, _, Eq.trans (World.drewN_drewN _ _ _) (congrArg (World.drewN _) (Nat.add_assoc _ _ _))⟩)))))
                    (try go_wp2)
                    go_ret
                    exact ⟨ret_bool HR1.out.symm, by first | exact HBc.out | exact pw_below_drewN HBc.out _ | exact pw_below_drewN (pw_below_drewN HBc.out _) _⟩
                · have z1 : (x1 == a1) = false := by simp [y1]
                  have HR1 := Aside0.mk (show R = false by rw [HR0.out]; exact decide_eq_false (fun h => y1 (h.2.1)))
                  clear y0 y1
                  go_wp2_with (first | (go_at_call 93; (with_reducible refine (l01InB a0 3 12 true HW1.out _).mono ?_); rintro e w' ⟨rfl, ⟨nd, rfl⟩⟩; (try first | exact ⟨rfl, _, World.drewN_drewN _ _ _⟩ | exact ⟨rfl, _, Eq.trans (World.drewN_drewN _ _ _) (congrArg (World.drewN _) (Nat.add_assoc _ _ _))⟩)))
                  (try (go_quiet (first | (go_at_call 93; (with_reducible refine (l01InB a0 3 12 true HW1.out _).mono ?_); rintro e w' ⟨rfl, ⟨nd, rfl⟩⟩; (try first | exact ⟨rfl, _, World.drewN_drewN _ _ _⟩ | exact ⟨rfl, _, Eq.trans (World.drewN_drewN _ _ _) (congrArg (World.drewN _) (Nat.add_assoc _ _ _))⟩)))))
                  (try go_wp2)
                  go_ret
                  exact ⟨ret_bool HR1.out.symm, by first | exact HBc.out | exact pw_below_drewN HBc.out _ | exact pw_below_drewN (pw_below_drewN HBc.out _) _⟩
              · have z0 : (x0 == a1) = false := by simp [y0]
                have HR1 := Aside0.mk (show R = false by rw [HR0.out]; exact decide_eq_false (fun h => y0 (h.1)))
                clear y0
                go_wp2_with (first | (go_at_call 93; (with_reducible refine (l01InB a0 3 12 true HW1.out _).mono ?_); rintro e w' ⟨rfl, ⟨nd, rfl⟩⟩; (try first | exact ⟨rfl, _, World.drewN_drewN _ _ _⟩ | exact ⟨rfl, _, Eq.trans (World.drewN_drewN _ _ _) (congrArg (World.drewN _) (Nat.add_assoc _ _ _))⟩)))
                (try (go_quiet (first | (go_at_call 93; (with_reducible refine (l01InB a0 3 12 true HW1.out _).mono ?_); rintro e w' ⟨rfl, ⟨nd, rfl⟩⟩; (try first | exact ⟨rfl, _, World.drewN_drewN _ _ _⟩ | exact ⟨rfl, _, Eq.trans (World.drewN_drewN _ _ _) (congrArg (World.drewN _) (Nat.add_assoc _ _ _))⟩)))))
                (try go_wp2)
                go_ret
                exact ⟨ret_bool HR1.out.symm, by first | exact HBc.out | exact pw_below_drewN HBc.out _ | exact pw_below_drewN (pw_below_drewN HBc.out _) _⟩
            · have t0 := n0 0 (by omega)
              have t1 := n0 1 (by omega)
              have t2 := n0 2 (by omega)
              have HW1 := Aside0.mk (show decide (3 ≤ a0 ∧ a0 ≤ 12) = false from decide_eq_false (by omega))
              have HW2 := Aside0.mk (show decide (13 ≤ a0 ∧ a0 ≤ 15) = true from decide_eq_true (by omega))
              have hLL : L = [a3, a4] := by rw [← HL.out]; unfold partsL; rw [if_neg (by omega), if_pos (by omega)]
              subst hLL
              obtain ⟨g0, rfl, _, _, e0⟩ := hp8 0 (by simp)
              obtain ⟨x0, hx0⟩ : ∃ x, wd l0 a3 = x := ⟨_, rfl⟩
              have E0 : wd (l0.take n) a3 = x0 := (wd_take (hall _ (by rw [HL.out]; simp)).1 (hall _ (by rw [HL.out]; simp)).2).trans hx0
              replace e0 : wr.cell? ⟨g0, 0, none⟩ = some (.int .i64 x0) := by rw [e0]; simp [hx0]
              obtain ⟨g1, hg1, _, _, e1⟩ := hp8 1 (by simp)
              obtain rfl : g0 = g1 := by simpa using hg1
              clear hg1
              obtain ⟨x1, hx1⟩ : ∃ x, wd l0 a4 = x := ⟨_, rfl⟩
              have E1 : wd (l0.take n) a4 = x1 := (wd_take (hall _ (by rw [HL.out]; simp)).1 (hall _ (by rw [HL.out]; simp)).2).trans hx1
              replace e1 : wr.cell? ⟨g0, 1, none⟩ = some (.int .i64 x1) := by rw [e1]; simp [hx1]
              have HR0 := Aside0.mk (show R = decide ((x0 = x1) ∧ (a1 = 1) ∧ (a2 = 0) ∧ (a5 = 0)) by rw [HS.out, HW.out, HK.out, Bool.eq_iff_iff]; simp only [Bool.and_eq_true, decide_eq_true_iff, Bool.true_and]; unfold UsesP KindP; rw [E0, E1]; grind)
              clear h n0 hall HK E0 hx0 E1 hx1
              by_cases y0 : x0 = x1
              · have z0 : (x0 == x1) = true := by simp [y0]
                by_cases y1 : a1 = 1
                · have z1 : (a1 == 1) = true := by simp [y1]
                  by_cases y2 : a2 = 0
                  · have z2 : (a2 == 0) = true := by simp [y2]
                    by_cases y3 : a5 = 0
                    · have z3 : (a5 == 0) = true := by simp [y3]
                      have HR1 := Aside0.mk (show R = true by rw [HR0.out]; exact decide_eq_true ⟨y0, y1, y2, y3⟩)
                      clear y0 y1 y2 y3
                      go_wp2_with (first | (go_at_call 93; (with_reducible refine (l01InB a0 3 12 false HW1.out _).mono ?_); rintro e w' ⟨rfl, ⟨nd, rfl⟩⟩; (try first | exact ⟨rfl, _, World.drewN_drewN _ _ _⟩ | exact ⟨rfl, _, Eq.trans (World.drewN_drewN _ _ _) (congrArg (World.drewN _) (Nat.add_assoc _ _ _))⟩)) | (go_at_call 93; (with_reducible refine (l01InB a0 13 15 true HW2.out _).mono ?_); rintro e w' ⟨rfl, ⟨nd, rfl⟩⟩; (try first | exact ⟨rfl, _, World.drewN_drewN _ _ _⟩ | exact ⟨rfl, _, Eq.trans (World.drewN_drewN _ _ _) (congrArg (World.drewN _) (Nat.add_assoc _ _ _))⟩)))
                      (try (go_quiet (first | (go_at_call 93; (with_reducible refine (l01InB a0 3 12 false HW1.out _).mono ?_); rintro e w' ⟨rfl, ⟨nd, rfl⟩⟩; (try first | exact ⟨rfl, _, World.drewN_drewN _ _ _⟩ | exact ⟨rfl, _, Eq.trans (World.drewN_drewN _ _ _) (congrArg (World.drewN _) (Nat.add_assoc _ _ _))⟩)) | (go_at_call 93; (with_reducible refine (l01InB a0 13 15 true HW2.out _).mono ?_); rintro e w' ⟨rfl, ⟨nd, rfl⟩⟩; (try first | exact ⟨rfl, _, World.drewN_drewN _ _ _⟩ | exact ⟨rfl, _, Eq.trans (World.drewN_drewN _ _ _) (congrArg (World.drewN _) (Nat.add_assoc _ _ _))⟩)))))
                      (try go_wp2)
                      go_ret
                      exact ⟨ret_bool HR1.out.symm, by first | exact HBc.out | exact pw_below_drewN HBc.out _ | exact pw_below_drewN (pw_below_drewN HBc.out _) _⟩
                    · have z3 : (a5 == 0) = false := by simp [y3]
                      have HR1 := Aside0.mk (show R = false by rw [HR0.out]; exact decide_eq_false (fun h => y3 (h.2.2.2)))
                      clear y0 y1 y2 y3
                      go_wp2_with (first | (go_at_call 93; (with_reducible refine (l01InB a0 3 12 false HW1.out _).mono ?_); rintro e w' ⟨rfl, ⟨nd, rfl⟩⟩; (try first | exact ⟨rfl, _, World.drewN_drewN _ _ _⟩ | exact ⟨rfl, _, Eq.trans (World.drewN_drewN _ _ _) (congrArg (World.drewN _) (Nat.add_assoc _ _ _))⟩)) | (go_at_call 93; (with_reducible refine (l01InB a0 13 15 true HW2.out _).mono ?_); rintro e w' ⟨rfl, ⟨nd, rfl⟩⟩; (try first | exact ⟨rfl, _, World.drewN_drewN _ _ _⟩ | exact ⟨rfl, _, Eq.trans (World.drewN_drewN _ _ _) (congrArg (World.drewN _) (Nat.add_assoc _ _ _))⟩)))
                      (try (go_quiet (first | (go_at_call 93; (with_reducible refine (l01InB a0 3 12 false HW1.out _).mono ?_); rintro e w' ⟨rfl, ⟨nd, rfl⟩⟩; (try first | exact ⟨rfl, _, World.drewN_drewN _ _ _⟩ | exact ⟨rfl, _, Eq.trans (World.drewN_drewN _ _ _) (congrArg (World.drewN _) (Nat.add_assoc _ _ _))⟩)) | (go_at_call 93; (with_reducible refine (l01InB a0 13 15 true HW2.out _).mono ?_); rintro e w' ⟨rfl, ⟨nd, rfl⟩⟩; (try first | exact ⟨rfl, _, World.drewN_drewN _ _ _⟩ | exact ⟨rfl, _, Eq.trans (World.drewN_drewN _ _ _) (congrArg (World.drewN _) (Nat.add_assoc _ _ _))⟩)))))
                      (try go_wp2)
                      go_ret
                      exact ⟨ret_bool HR1.out.symm, by first | exact HBc.out | exact pw_below_drewN HBc.out _ | exact pw_below_drewN (pw_below_drewN HBc.out _) _⟩
                  · have z2 : (a2 == 0) = false := by simp [y2]
                    have HR1 := Aside0.mk (show R = false by rw [HR0.out]; exact decide_eq_false (fun h => y2 (h.2.2.1)))
                    clear y0 y1 y2
                    go_wp2_with (first | (go_at_call 93; (with_reducible refine (l01InB a0 3 12 false HW1.out _).mono ?_); rintro e w' ⟨rfl, ⟨nd, rfl⟩⟩; (try first | exact ⟨rfl, _, World.drewN_drewN _ _ _⟩ | exact ⟨rfl, _, Eq.trans (World.drewN_drewN _ _ _) (congrArg (World.drewN _) (Nat.add_assoc _ _ _))⟩)) | (go_at_call 93; (with_reducible refine (l01InB a0 13 15 true HW2.out _).mono ?_); rintro e w' ⟨rfl, ⟨nd, rfl⟩⟩; (try first | exact ⟨rfl, _, World.drewN_drewN _ _ _⟩ | exact ⟨rfl, _, Eq.trans (World.drewN_drewN _ _ _) (congrArg (World.drewN _) (Nat.add_assoc _ _ _))⟩)))
                    (try (go_quiet (first | (go_at_call 93; (with_reducible refine (l01InB a0 3 12 false HW1.out _).mono ?_); rintro e w' ⟨rfl, ⟨nd, rfl⟩⟩; (try first | exact ⟨rfl, _, World.drewN_drewN _ _ _⟩ | exact ⟨rfl, _, Eq.trans (World.drewN_drewN _ _ _) (congrArg (World.drewN _) (Nat.add_assoc _ _ _))⟩)) | (go_at_call 93; (with_reducible refine (l01InB a0 13 15 true HW2.out _).mono ?_); rintro e w' ⟨rfl, ⟨nd, rfl⟩⟩; (try first | exact ⟨rfl, _, World.drewN_drewN _ _ _⟩ | exact ⟨rfl, _, Eq.trans (World.drewN_drewN _ _ _) (congrArg (World.drewN _) (Nat.add_assoc _ _ _))⟩)))))
                    (try go_wp2)
                    go_ret
                    exact ⟨ret_bool HR1.out.symm, by first | exact HBc.out | exact pw_below_drewN HBc.out _ | exact pw_below_drewN (pw_below_drewN HBc.out _) _⟩
                · have z1 : (a1 == 1) = false := by simp [y1]
                  have HR1 := Aside0.mk (show R = false by rw [HR0.out]; exact decide_eq_false (fun h => y1 (h.2.1)))
                  clear y0 y1
                  go_wp2_with (first | (go_at_call 93; (with_reducible refine (l01InB a0 3 12 false HW1.out _).mono ?_); rintro e w' ⟨rfl, ⟨nd, rfl⟩⟩; (try first | exact ⟨rfl, _, World.drewN_drewN _ _ _⟩ | exact ⟨rfl, _, Eq.trans (World.drewN_drewN _ _ _) (congrArg (World.drewN _) (Nat.add_assoc _ _ _))⟩)) | (go_at_call 93; (with_reducible refine (l01InB a0 13 15 true HW2.out _).mono ?_); rintro e w' ⟨rfl, ⟨nd, rfl⟩⟩; (try first | exact ⟨rfl, _, World.drewN_drewN _ _ _⟩ | exact ⟨rfl, _, Eq.trans (World.drewN_drewN _ _ _) (congrArg (World.drewN _) (Nat.add_assoc _ _ _))⟩)))
                  (try (go_quiet (first | (go_at_call 93; (with_reducible refine (l01InB a0 3 12 false HW1.out _).mono ?_); rintro e w' ⟨rfl, ⟨nd, rfl⟩⟩; (try first | exact ⟨rfl, _, World.drewN_drewN _ _ _⟩ | exact ⟨rfl, _, Eq.trans (World.drewN_drewN _ _ _) (congrArg (World.drewN _) (Nat.add_assoc _ _ _))⟩)) | (go_at_call 93; (with_reducible refine (l01InB a0 13 15 true HW2.out _).mono ?_); rintro e w' ⟨rfl, ⟨nd, rfl⟩⟩; (try first | exact ⟨rfl, _, World.drewN_drewN _ _ _⟩ | exact ⟨rfl, _, Eq.trans (World.drewN_drewN _ _ _) (congrArg (World.drewN _) (Nat.add_assoc _ _ _))⟩)))))
                  (try go_wp2)
                  go_ret
                  exact ⟨ret_bool HR1.out.symm, by first | exact HBc.out | exact pw_below_drewN HBc.out _ | exact pw_below_drewN (pw_below_drewN HBc.out _) _⟩
              · have z0 : (x0 == x1) = false := by simp [y0]
                have HR1 := Aside0.mk (show R = false by rw [HR0.out]; exact decide_eq_false (fun h => y0 (h.1)))
                clear y0
                go_wp2_with (first | (go_at_call 93; (with_reducible refine (l01InB a0 3 12 false HW1.out _).mono ?_); rintro e w' ⟨rfl, ⟨nd, rfl⟩⟩; (try first | exact ⟨rfl, _, World.drewN_drewN _ _ _⟩ | exact ⟨rfl, _, Eq.trans (World.drewN_drewN _ _ _) (congrArg (World.drewN _) (Nat.add_assoc _ _ _))⟩)) | (go_at_call 93; (with_reducible refine (l01InB a0 13 15 true HW2.out _).mono ?_); rintro e w' ⟨rfl, ⟨nd, rfl⟩⟩; (try first | exact ⟨rfl, _, World.drewN_drewN _ _ _⟩ | exact ⟨rfl, _, Eq.trans (World.drewN_drewN _ _ _) (congrArg (World.drewN _) (Nat.add_assoc _ _ _))⟩)))
                (try (go_quiet (first | (go_at_call 93; (with_reducible refine (l01InB a0 3 12 false HW1.out _).mono ?_); rintro e w' ⟨rfl, ⟨nd, rfl⟩⟩; (try first | exact ⟨rfl, _, World.drewN_drewN _ _ _⟩ | exact ⟨rfl, _, Eq.trans (World.drewN_drewN _ _ _) (congrArg (World.drewN _) (Nat.add_assoc _ _ _))⟩)) | (go_at_call 93; (with_reducible refine (l01InB a0 13 15 true HW2.out _).mono ?_); rintro e w' ⟨rfl, ⟨nd, rfl⟩⟩; (try first | exact ⟨rfl, _, World.drewN_drewN _ _ _⟩ | exact ⟨rfl, _, Eq.trans (World.drewN_drewN _ _ _) (congrArg (World.drewN _) (Nat.add_assoc _ _ _))⟩)))))
                (try go_wp2)
                go_ret
                exact ⟨ret_bool HR1.out.symm, by first | exact HBc.out | exact pw_below_drewN HBc.out _ | exact pw_below_drewN (pw_below_drewN HBc.out _) _⟩
            · have t0 := n0 0 (by omega)
              have t1 := n0 1 (by omega)
              have t2 := n0 2 (by omega)
              have t16 : (a0 == 16) = true := by simp [h]
              have HW1 := Aside0.mk (show decide (3 ≤ a0 ∧ a0 ≤ 12) = false from decide_eq_false (by omega))
              have HW2 := Aside0.mk (show decide (13 ≤ a0 ∧ a0 ≤ 15) = false from decide_eq_false (by omega))
              have hLL : L = [a3, a4] := by rw [← HL.out]; unfold partsL; rw [if_neg (by omega), if_pos (by omega)]
              subst hLL
              obtain ⟨g0, rfl, _, _, e0⟩ := hp8 0 (by simp)
              obtain ⟨x0, hx0⟩ : ∃ x, wd l0 a3 = x := ⟨_, rfl⟩
              have E0 : wd (l0.take n) a3 = x0 := (wd_take (hall _ (by rw [HL.out]; simp)).1 (hall _ (by rw [HL.out]; simp)).2).trans hx0
              replace e0 : wr.cell? ⟨g0, 0, none⟩ = some (.int .i64 x0) := by rw [e0]; simp [hx0]
              obtain ⟨g1, hg1, _, _, e1⟩ := hp8 1 (by simp)
              obtain rfl : g0 = g1 := by simpa using hg1
              clear hg1
              obtain ⟨x1, hx1⟩ : ∃ x, wd l0 a4 = x := ⟨_, rfl⟩
              have E1 : wd (l0.take n) a4 = x1 := (wd_take (hall _ (by rw [HL.out]; simp)).1 (hall _ (by rw [HL.out]; simp)).2).trans hx1
              replace e1 : wr.cell? ⟨g0, 1, none⟩ = some (.int .i64 x1) := by rw [e1]; simp [hx1]
              have HR0 := Aside0.mk (show R = decide ((wrap64 (x0 + x1) = a1) ∧ (a2 = 0) ∧ (a5 = 0)) by rw [HS.out, HW.out, HK.out, Bool.eq_iff_iff]; simp only [Bool.and_eq_true, decide_eq_true_iff, Bool.true_and]; unfold UsesP KindP; rw [E0, E1]; grind)
              clear h n0 hall HK E0 hx0 E1 hx1
              by_cases y0 : wrap64 (x0 + x1) = a1
              · have z0 : (wrap64 (x0 + x1) == a1) = true := by simp [y0]
                by_cases y1 : a2 = 0
                · have z1 : (a2 == 0) = true := by simp [y1]
                  by_cases y2 : a5 = 0
                  · have z2 : (a5 == 0) = true := by simp [y2]
                    have HR1 := Aside0.mk (show R = true by rw [HR0.out]; exact decide_eq_true ⟨y0, y1, y2⟩)
                    clear y0 y1 y2
                    go_wp2_with (first | (go_at_call 93; (with_reducible refine (l01InB a0 3 12 false HW1.out _).mono ?_); rintro e w' ⟨rfl, ⟨nd, rfl⟩⟩; (try first | exact ⟨rfl, _, World.drewN_drewN _ _ _⟩ | exact ⟨rfl, _, Eq.trans (World.drewN_drewN _ _ _) (congrArg (World.drewN _) (Nat.add_assoc _ _ _))⟩)) | (go_at_call 93; (with_reducible refine (l01InB a0 13 15 false HW2.out _).mono ?_); rintro e w' ⟨rfl, ⟨nd, rfl⟩⟩; (try first | exact ⟨rfl, _, World.drewN_drewN _ _ _⟩ | exact ⟨rfl, _, Eq.trans (World.drewN_drewN _ _ _) (congrArg (World.drewN _) (Nat.add_assoc _ _ _))⟩)))
                    (try (go_quiet (first | (go_at_call 93; (with_reducible refine (l01InB a0 3 12 false HW1.out _).mono ?_); rintro e w' ⟨rfl, ⟨nd, rfl⟩⟩; (try first | exact ⟨rfl, _, World.drewN_drewN _ _ _⟩ | exact ⟨rfl, _, Eq.trans (World.drewN_drewN _ _ _) (congrArg (World.drewN _) (Nat.add_assoc _ _ _))⟩)) | (go_at_call 93; (with_reducible refine (l01InB a0 13 15 false HW2.out _).mono ?_); rintro e w' ⟨rfl, ⟨nd, rfl⟩⟩; (try first | exact ⟨rfl, _, World.drewN_drewN _ _ _⟩ | exact ⟨rfl, _, Eq.trans (World.drewN_drewN _ _ _) (congrArg (World.drewN _) (Nat.add_assoc _ _ _))⟩)))))
                    (try go_wp2)
                    go_ret
                    exact ⟨ret_bool HR1.out.symm, by first | exact HBc.out | exact pw_below_drewN HBc.out _ | exact pw_below_drewN (pw_below_drewN HBc.out _) _⟩
                  · have z2 : (a5 == 0) = false := by simp [y2]
                    have HR1 := Aside0.mk (show R = false by rw [HR0.out]; exact decide_eq_false (fun h => y2 (h.2.2)))
                    clear y0 y1 y2
                    go_wp2_with (first | (go_at_call 93; (with_reducible refine (l01InB a0 3 12 false HW1.out _).mono ?_); rintro e w' ⟨rfl, ⟨nd, rfl⟩⟩; (try first | exact ⟨rfl, _, World.drewN_drewN _ _ _⟩ | exact ⟨rfl, _, Eq.trans (World.drewN_drewN _ _ _) (congrArg (World.drewN _) (Nat.add_assoc _ _ _))⟩)) | (go_at_call 93; (with_reducible refine (l01InB a0 13 15 false HW2.out _).mono ?_); rintro e w' ⟨rfl, ⟨nd, rfl⟩⟩; (try first | exact ⟨rfl, _, World.drewN_drewN _ _ _⟩ | exact ⟨rfl, _, Eq.trans (World.drewN_drewN _ _ _) (congrArg (World.drewN _) (Nat.add_assoc _ _ _))⟩)))
                    (try (go_quiet (first | (go_at_call 93; (with_reducible refine (l01InB a0 3 12 false HW1.out _).mono ?_); rintro e w' ⟨rfl, ⟨nd, rfl⟩⟩; (try first | exact ⟨rfl, _, World.drewN_drewN _ _ _⟩ | exact ⟨rfl, _, Eq.trans (World.drewN_drewN _ _ _) (congrArg (World.drewN _) (Nat.add_assoc _ _ _))⟩)) | (go_at_call 93; (with_reducible refine (l01InB a0 13 15 false HW2.out _).mono ?_); rintro e w' ⟨rfl, ⟨nd, rfl⟩⟩; (try first | exact ⟨rfl, _, World.drewN_drewN _ _ _⟩ | exact ⟨rfl, _, Eq.trans (World.drewN_drewN _ _ _) (congrArg (World.drewN _) (Nat.add_assoc _ _ _))⟩)))))
                    (try go_wp2)
                    go_ret
                    exact ⟨ret_bool HR1.out.symm, by first | exact HBc.out | exact pw_below_drewN HBc.out _ | exact pw_below_drewN (pw_below_drewN HBc.out _) _⟩
                · have z1 : (a2 == 0) = false := by simp [y1]
                  have HR1 := Aside0.mk (show R = false by rw [HR0.out]; exact decide_eq_false (fun h => y1 (h.2.1)))
                  clear y0 y1
                  go_wp2_with (first | (go_at_call 93; (with_reducible refine (l01InB a0 3 12 false HW1.out _).mono ?_); rintro e w' ⟨rfl, ⟨nd, rfl⟩⟩; (try first | exact ⟨rfl, _, World.drewN_drewN _ _ _⟩ | exact ⟨rfl, _, Eq.trans (World.drewN_drewN _ _ _) (congrArg (World.drewN _) (Nat.add_assoc _ _ _))⟩)) | (go_at_call 93; (with_reducible refine (l01InB a0 13 15 false HW2.out _).mono ?_); rintro e w' ⟨rfl, ⟨nd, rfl⟩⟩; (try first | exact ⟨rfl, _, World.drewN_drewN _ _ _⟩ | exact ⟨rfl, _, Eq.trans (World.drewN_drewN _ _ _) (congrArg (World.drewN _) (Nat.add_assoc _ _ _))⟩)))
                  (try (go_quiet (first | (go_at_call 93; (with_reducible refine (l01InB a0 3 12 false HW1.out _).mono ?_); rintro e w' ⟨rfl, ⟨nd, rfl⟩⟩; (try first | exact ⟨rfl, _, World.drewN_drewN _ _ _⟩ | exact ⟨rfl, _, Eq.trans (World.drewN_drewN _ _ _) (congrArg (World.drewN _) (Nat.add_assoc _ _ _))⟩)) | (go_at_call 93; (with_reducible refine (l01InB a0 13 15 false HW2.out _).mono ?_); rintro e w' ⟨rfl, ⟨nd, rfl⟩⟩; (try first | exact ⟨rfl, _, World.drewN_drewN _ _ _⟩ | exact ⟨rfl, _, Eq.trans (World.drewN_drewN _ _ _) (congrArg (World.drewN _) (Nat.add_assoc _ _ _))⟩)))))
                  (try go_wp2)
                  go_ret
                  exact ⟨ret_bool HR1.out.symm, by first | exact HBc.out | exact pw_below_drewN HBc.out _ | exact pw_below_drewN (pw_below_drewN HBc.out _) _⟩
              · have z0 : (wrap64 (x0 + x1) == a1) = false := by simp [y0]
                have HR1 := Aside0.mk (show R = false by rw [HR0.out]; exact decide_eq_false (fun h => y0 (h.1)))
                clear y0
                go_wp2_with (first | (go_at_call 93; (with_reducible refine (l01InB a0 3 12 false HW1.out _).mono ?_); rintro e w' ⟨rfl, ⟨nd, rfl⟩⟩; (try first | exact ⟨rfl, _, World.drewN_drewN _ _ _⟩ | exact ⟨rfl, _, Eq.trans (World.drewN_drewN _ _ _) (congrArg (World.drewN _) (Nat.add_assoc _ _ _))⟩)) | (go_at_call 93; (with_reducible refine (l01InB a0 13 15 false HW2.out _).mono ?_); rintro e w' ⟨rfl, ⟨nd, rfl⟩⟩; (try first | exact ⟨rfl, _, World.drewN_drewN _ _ _⟩ | exact ⟨rfl, _, Eq.trans (World.drewN_drewN _ _ _) (congrArg (World.drewN _) (Nat.add_assoc _ _ _))⟩)))
                (try (go_quiet (first | (go_at_call 93; (with_reducible refine (l01InB a0 3 12 false HW1.out _).mono ?_); rintro e w' ⟨rfl, ⟨nd, rfl⟩⟩; (try first | exact ⟨rfl, _, World.drewN_drewN _ _ _⟩ | exact ⟨rfl, _, Eq.trans (World.drewN_drewN _ _ _) (congrArg (World.drewN _) (Nat.add_assoc _ _ _))⟩)) | (go_at_call 93; (with_reducible refine (l01InB a0 13 15 false HW2.out _).mono ?_); rintro e w' ⟨rfl, ⟨nd, rfl⟩⟩; (try first | exact ⟨rfl, _, World.drewN_drewN _ _ _⟩ | exact ⟨rfl, _, Eq.trans (World.drewN_drewN _ _ _) (congrArg (World.drewN _) (Nat.add_assoc _ _ _))⟩)))))
                (try go_wp2)
                go_ret
                exact ⟨ret_bool HR1.out.symm, by first | exact HBc.out | exact pw_below_drewN HBc.out _ | exact pw_below_drewN (pw_below_drewN HBc.out _) _⟩
            · have t0 := n0 0 (by omega)
              have t1 := n0 1 (by omega)
              have t2 := n0 2 (by omega)
              have t16 := n0 16 (by omega)
              have t17 : (a0 == 17) = true := by simp [h]
              have HW1 := Aside0.mk (show decide (3 ≤ a0 ∧ a0 ≤ 12) = false from decide_eq_false (by omega))
              have HW2 := Aside0.mk (show decide (13 ≤ a0 ∧ a0 ≤ 15) = false from decide_eq_false (by omega))
              have hLL : L = [a3] := by rw [← HL.out]; unfold partsL; simp [h]
              subst hLL
              obtain ⟨g0, rfl, _, _, e0⟩ := hp8 0 (by simp)
              obtain ⟨x0, hx0⟩ : ∃ x, wd l0 a3 = x := ⟨_, rfl⟩
              have E0 : wd (l0.take n) a3 = x0 := (wd_take (hall _ (by rw [HL.out]; simp)).1 (hall _ (by rw [HL.out]; simp)).2).trans hx0
              replace e0 : wr.cell? ⟨g0, 0, none⟩ = some (.int .i64 x0) := by rw [e0]; simp [hx0]
              have HR0 := Aside0.mk (show R = decide ((0 ≤ a2) ∧ (a2 ≤ wrap64 (x0 - a1)) ∧ (a4 = 0) ∧ (a5 = 0)) by rw [HS.out, HW.out, HK.out, Bool.eq_iff_iff]; simp only [Bool.and_eq_true, decide_eq_true_iff, Bool.true_and]; unfold UsesP KindP; rw [E0]; grind)
              clear h n0 hall HK E0 hx0
              by_cases y0 : 0 ≤ a2
              · have z0 : decide (0 ≤ a2) = true := decide_eq_true y0
                by_cases y1 : a2 ≤ wrap64 (x0 - a1)
                · have z1 : decide (a2 ≤ wrap64 (x0 - a1)) = true := decide_eq_true y1
                  by_cases y2 : a4 = 0
                  · have z2 : (a4 == 0) = true := by simp [y2]
                    by_cases y3 : a5 = 0
                    · have z3 : (a5 == 0) = true := by simp [y3]
                      have HR1 := Aside0.mk (show R = true by rw [HR0.out]; exact decide_eq_true ⟨y0, y1, y2, y3⟩)
                      clear y0 y1 y2 y3
                      go_wp2_with (first | (go_at_call 93; (with_reducible refine (l01InB a0 3 12 false HW1.out _).mono ?_); rintro e w' ⟨rfl, ⟨nd, rfl⟩⟩; (try first | exact ⟨rfl, _, World.drewN_drewN _ _ _⟩ | exact ⟨rfl, _, Eq.trans (World.drewN_drewN _ _ _) (congrArg (World.drewN _) (Nat.add_assoc _ _ _))⟩)) | (go_at_call 93; (with_reducible refine (l01InB a0 13 15 false HW2.out _).mono ?_); rintro e w' ⟨rfl, ⟨nd, rfl⟩⟩; (try first | exact ⟨rfl, _, World.drewN_drewN _ _ _⟩ | exact ⟨rfl, _, Eq.trans (World.drewN_drewN _ _ _) (congrArg (World.drewN _) (Nat.add_assoc _ _ _))⟩)))
                      (try (go_quiet (first | (go_at_call 93; (with_reducible refine (l01InB a0 3 12 false HW1.out _).mono ?_); rintro e w' ⟨rfl, ⟨nd, rfl⟩⟩; (try first | exact ⟨rfl, _, World.drewN_drewN _ _ _⟩ | exact ⟨rfl, _, Eq.trans (World.drewN_drewN _ _ _) (congrArg (World.drewN _) (Nat.add_assoc _ _ _))⟩)) | (go_at_call 93; (with_reducible refine (l01InB a0 13 15 false HW2.out _).mono ?_); rintro e w' ⟨rfl, ⟨nd, rfl⟩⟩; (try first | exact ⟨rfl, _, World.drewN_drewN _ _ _⟩ | exact ⟨rfl, _, Eq.trans (World.drewN_drewN _ _ _) (congrArg (World.drewN _) (Nat.add_assoc _ _ _))⟩)))))
                      (try go_wp2)
                      go_ret
                      exact ⟨ret_bool HR1.out.symm, by first | exact HBc.out | exact pw_below_drewN HBc.out _ | exact pw_below_drewN (pw_below_drewN HBc.out _) _⟩
                    · have z3 : (a5 == 0) = false := by simp [y3]
                      have HR1 := Aside0.mk (show R = false by rw [HR0.out]; exact decide_eq_false (fun h => y3 (h.2.2.2)))
                      clear y0 y1 y2 y3
                      go_wp2_with (first | (go_at_call 93; (with_reducible refine (l01InB a0 3 12 false HW1.out _).mono ?_); rintro e w' ⟨rfl, ⟨nd, rfl⟩⟩; (try first | exact ⟨rfl, _, World.drewN_drewN _ _ _⟩ | exact ⟨rfl, _, Eq.trans (World.drewN_drewN _ _ _) (congrArg (World.drewN _) (Nat.add_assoc _ _ _))⟩)) | (go_at_call 93; (with_reducible refine (l01InB a0 13 15 false HW2.out _).mono ?_); rintro e w' ⟨rfl, ⟨nd, rfl⟩⟩; (try first | exact ⟨rfl, _, World.drewN_drewN _ _ _⟩ | exact ⟨rfl, _, Eq.trans (World.drewN_drewN _ _ _) (congrArg (World.drewN _) (Nat.add_assoc _ _ _))⟩)))
                      (try (go_quiet (first | (go_at_call 93; (with_reducible refine (l01InB a0 3 12 false HW1.out _).mono ?_); rintro e w' ⟨rfl, ⟨nd, rfl⟩⟩; (try first | exact ⟨rfl, _, World.drewN_drewN _ _ _⟩ | exact ⟨rfl, _, Eq.trans (World.drewN_drewN _ _ _) (congrArg (World.drewN _) (Nat.add_assoc _ _ _))⟩)) | (go_at_call 93; (with_reducible refine (l01InB a0 13 15 false HW2.out _).mono ?_); rintro e w' ⟨rfl, ⟨nd, rfl⟩⟩; (try first | exact ⟨rfl, _, World.drewN_drewN _ _ _⟩ | exact ⟨rfl, _, Eq.trans (World.drewN_drewN _ _ _) (congrArg (World.drewN _) (Nat.add_assoc _ _ _))⟩)))))
                      (try go_wp2)
                      go_ret
                      exact ⟨ret_bool HR1.out.symm, by first | exact HBc.out | exact pw_below_drewN HBc.out _ | exact pw_below_drewN (pw_below_drewN HBc.out _) _⟩
                  · have z2 : (a4 == 0) = false := by simp [y2]
                    have HR1 := Aside0.mk (show R = false by rw [HR0.out]; exact decide_eq_false (fun h => y2 (h.2.2.1)))
                    clear y0 y1 y2
                    go_wp2_with (first | (go_at_call 93; (with_reducible refine (l01InB a0 3 12 false HW1.out _).mono ?_); rintro e w' ⟨rfl, ⟨nd, rfl⟩⟩; (try first | exact ⟨rfl, _, World.drewN_drewN _ _ _⟩ | exact ⟨rfl, _, Eq.trans (World.drewN_drewN _ _ _) (congrArg (World.drewN _) (Nat.add_assoc _ _ _))⟩)) | (go_at_call 93; (with_reducible refine (l01InB a0 13 15 false HW2.out _).mono ?_); rintro e w' ⟨rfl, ⟨nd, rfl⟩⟩; (try first | exact ⟨rfl, _, World.drewN_drewN _ _ _⟩ | exact ⟨rfl, _, Eq.trans (World.drewN_drewN _ _ _) (congrArg (World.drewN _) (Nat.add_assoc _ _ _))⟩)))
                    (try (go_quiet (first | (go_at_call 93; (with_reducible refine (l01InB a0 3 12 false HW1.out _).mono ?_); rintro e w' ⟨rfl, ⟨nd, rfl⟩⟩; (try first | exact ⟨rfl, _, World.drewN_drewN _ _ _⟩ | exact ⟨rfl, _, Eq.trans (World.drewN_drewN _ _ _) (congrArg (World.drewN _) (Nat.add_assoc _ _ _))⟩)) | (go_at_call 93; (with_reducible refine (l01InB a0 13 15 false HW2.out _).mono ?_); rintro e w' ⟨rfl, ⟨nd, rfl⟩⟩; (try first | exact ⟨rfl, _, World.drewN_drewN _ _ _⟩ | exact ⟨rfl, _, Eq.trans (World.drewN_drewN _ _ _) (congrArg (World.drewN _) (Nat.add_assoc _ _ _))⟩)))))
                    (try go_wp2)
                    go_ret
                    exact ⟨ret_bool HR1.out.symm, by first | exact HBc.out | exact pw_below_drewN HBc.out _ | exact pw_below_drewN (pw_below_drewN HBc.out _) _⟩
                · have z1 : decide (a2 ≤ wrap64 (x0 - a1)) = false := decide_eq_false y1
                  have HR1 := Aside0.mk (show R = false by rw [HR0.out]; exact decide_eq_false (fun h => y1 (h.2.1)))
                  clear y0 y1
                  go_wp2_with (first | (go_at_call 93; (with_reducible refine (l01InB a0 3 12 false HW1.out _).mono ?_); rintro e w' ⟨rfl, ⟨nd, rfl⟩⟩; (try first | exact ⟨rfl, _, World.drewN_drewN _ _ _⟩ | exact ⟨rfl, _, Eq.trans (World.drewN_drewN _ _ _) (congrArg (World.drewN _) (Nat.add_assoc _ _ _))⟩)) | (go_at_call 93; (with_reducible refine (l01InB a0 13 15 false HW2.out _).mono ?_); rintro e w' ⟨rfl, ⟨nd, rfl⟩⟩; (try first | exact ⟨rfl, _, World.drewN_drewN _ _ _⟩ | exact ⟨rfl, _, Eq.trans (World.drewN_drewN _ _ _) (congrArg (World.drewN _) (Nat.add_assoc _ _ _))⟩)))
                  (try (go_quiet (first | (go_at_call 93; (with_reducible refine (l01InB a0 3 12 false HW1.out _).mono ?_); rintro e w' ⟨rfl, ⟨nd, rfl⟩⟩; (try first | exact ⟨rfl, _, World.drewN_drewN _ _ _⟩ | exact ⟨rfl, _, Eq.trans (World.drewN_drewN _ _ _) (congrArg (World.drewN _) (Nat.add_assoc _ _ _))⟩)) | (go_at_call 93; (with_reducible refine (l01InB a0 13 15 false HW2.out _).mono ?_); rintro e w' ⟨rfl, ⟨nd, rfl⟩⟩; (try first | exact ⟨rfl, _, World.drewN_drewN _ _ _⟩ | exact ⟨rfl, _, Eq.trans (World.drewN_drewN _ _ _) (congrArg (World.drewN _) (Nat.add_assoc _ _ _))⟩)))))
                  (try go_wp2)
                  go_ret
                  exact ⟨ret_bool HR1.out.symm, by first | exact HBc.out | exact pw_below_drewN HBc.out _ | exact pw_below_drewN (pw_below_drewN HBc.out _) _⟩
              · have z0 : decide (0 ≤ a2) = false := decide_eq_false y0
                have HR1 := Aside0.mk (show R = false by rw [HR0.out]; exact decide_eq_false (fun h => y0 (h.1)))
                clear y0
                go_wp2_with (first | (go_at_call 93; (with_reducible refine (l01InB a0 3 12 false HW1.out _).mono ?_); rintro e w' ⟨rfl, ⟨nd, rfl⟩⟩; (try first | exact ⟨rfl, _, World.drewN_drewN _ _ _⟩ | exact ⟨rfl, _, Eq.trans (World.drewN_drewN _ _ _) (congrArg (World.drewN _) (Nat.add_assoc _ _ _))⟩)) | (go_at_call 93; (with_reducible refine (l01InB a0 13 15 false HW2.out _).mono ?_); rintro e w' ⟨rfl, ⟨nd, rfl⟩⟩; (try first | exact ⟨rfl, _, World.drewN_drewN _ _ _⟩ | exact ⟨rfl, _, Eq.trans (World.drewN_drewN _ _ _) (congrArg (World.drewN _) (Nat.add_assoc _ _ _))⟩)))
                (try (go_quiet (first | (go_at_call 93; (with_reducible refine (l01InB a0 3 12 false HW1.out _).mono ?_); rintro e w' ⟨rfl, ⟨nd, rfl⟩⟩; (try first | exact ⟨rfl, _, World.drewN_drewN _ _ _⟩ | exact ⟨rfl, _, Eq.trans (World.drewN_drewN _ _ _) (congrArg (World.drewN _) (Nat.add_assoc _ _ _))⟩)) | (go_at_call 93; (with_reducible refine (l01InB a0 13 15 false HW2.out _).mono ?_); rintro e w' ⟨rfl, ⟨nd, rfl⟩⟩; (try first | exact ⟨rfl, _, World.drewN_drewN _ _ _⟩ | exact ⟨rfl, _, Eq.trans (World.drewN_drewN _ _ _) (congrArg (World.drewN _) (Nat.add_assoc _ _ _))⟩)))))
                (try go_wp2)
                go_ret
                exact ⟨ret_bool HR1.out.symm, by first | exact HBc.out | exact pw_below_drewN HBc.out _ | exact pw_below_drewN (pw_below_drewN HBc.out _) _⟩
            · have t0 := n0 0 (by omega)
              have t1 := n0 1 (by omega)
              have t2 := n0 2 (by omega)
              have t16 := n0 16 (by omega)
              have t17 := n0 17 (by omega)
              have t18 : (a0 == 18) = true := by simp [h]
              have HW1 := Aside0.mk (show decide (3 ≤ a0 ∧ a0 ≤ 12) = false from decide_eq_false (by omega))
              have HW2 := Aside0.mk (show decide (13 ≤ a0 ∧ a0 ≤ 15) = false from decide_eq_false (by omega))
              have hLL : L = [a3, a4, a5] := by rw [← HL.out]; unfold partsL; simp [h]
              subst hLL
              obtain ⟨g0, rfl, _, _, e0⟩ := hp8 0 (by simp)
              obtain ⟨x0, hx0⟩ : ∃ x, wd l0 a3 = x := ⟨_, rfl⟩
              have E0 : wd (l0.take n) a3 = x0 := (wd_take (hall _ (by rw [HL.out]; simp)).1 (hall _ (by rw [HL.out]; simp)).2).trans hx0
              replace e0 : wr.cell? ⟨g0, 0, none⟩ = some (.int .i64 x0) := by rw [e0]; simp [hx0]
              obtain ⟨g1, hg1, _, _, e1⟩ := hp8 1 (by simp)
              obtain rfl : g0 = g1 := by simpa using hg1
              clear hg1
              obtain ⟨x1, hx1⟩ : ∃ x, wd l0 a4 = x := ⟨_, rfl⟩
              have E1 : wd (l0.take n) a4 = x1 := (wd_take (hall _ (by rw [HL.out]; simp)).1 (hall _ (by rw [HL.out]; simp)).2).trans hx1
              replace e1 : wr.cell? ⟨g0, 1, none⟩ = some (.int .i64 x1) := by rw [e1]; simp [hx1]
              obtain ⟨g2, hg2, _, _, e2⟩ := hp8 2 (by simp)
              obtain rfl : g0 = g2 := by simpa using hg2
              clear hg2
              obtain ⟨x2, hx2⟩ : ∃ x, wd l0 a5 = x := ⟨_, rfl⟩
              have E2 : wd (l0.take n) a5 = x2 := (wd_take (hall _ (by rw [HL.out]; simp)).1 (hall _ (by rw [HL.out]; simp)).2).trans hx2
              replace e2 : wr.cell? ⟨g0, 2, none⟩ = some (.int .i64 x2) := by rw [e2]; simp [hx2]
              have HR0 := Aside0.mk (show R = decide ((x0 = 1) ∧ (x1 = a1) ∧ (x2 = a1) ∧ (a2 = 0)) by rw [HS.out, HW.out, HK.out, Bool.eq_iff_iff]; simp only [Bool.and_eq_true, decide_eq_true_iff, Bool.true_and]; unfold UsesP KindP; rw [E0, E1, E2]; grind)
              clear h n0 hall HK E0 hx0 E1 hx1 E2 hx2
              by_cases y0 : x0 = 1
              · have z0 : (x0 == 1) = true := by simp [y0]
                by_cases y1 : x1 = a1
                · have z1 : (x1 == a1) = true := by simp [y1]
                  by_cases y2 : x2 = a1
                  · have z2 : (x2 == a1) = true := by simp [y2]
                    by_cases y3 : a2 = 0
                    · have z3 : (a2 == 0) = true := by simp [y3]
                      have HR1 := Aside0.mk (show R = true by rw [HR0.out]; exact decide_eq_true ⟨y0, y1, y2, y3⟩)
                      clear y0 y1 y2 y3
                      go_wp2_with (first | (go_at_call 93; (with_reducible refine (l01InB a0 3 12 false HW1.out _).mono ?_); rintro e w' ⟨rfl, ⟨nd, rfl⟩⟩; (try first | exact ⟨rfl, _, World.drewN_drewN _ _ _⟩ | exact ⟨rfl, _, Eq.trans (World.drewN_drewN _ _ _) (congrArg (World.drewN _) (Nat.add_assoc _ _ _))⟩)) | (go_at_call 93; (with_reducible refine (l01InB a0 13 15 false HW2.out _).mono ?_); rintro e w' ⟨rfl, ⟨nd, rfl⟩⟩; (try first | exact ⟨rfl, _, World.drewN_drewN _ _ _⟩ | exact ⟨rfl, _, Eq.trans (World.drewN_drewN _ _ _) (congrArg (World.drewN _) (Nat.add_assoc _ _ _))⟩)))
                      (try (go_quiet (first | (go_at_call 93; (with_reducible refine (l01InB a0 3 12 false HW1.out _).mono ?_); rintro e w' ⟨rfl, ⟨nd, rfl⟩⟩; (try first | exact ⟨rfl, _, World.drewN_drewN _ _ _⟩ | exact ⟨rfl, _, Eq.trans (World.drewN_drewN _ _ _) (congrArg (World.drewN _) (Nat.add_assoc _ _ _))⟩)) | (go_at_call 93; (with_reducible refine (l01InB a0 13 15 false HW2.out _).mono ?_); rintro e w' ⟨rfl, ⟨nd, rfl⟩⟩; (try first | exact ⟨rfl, _, World.drewN_drewN _ _ _⟩ | exact ⟨rfl, _, Eq.trans (World.drewN_drewN _ _ _) (congrArg (World.drewN _) (Nat.add_assoc _ _ _))⟩)))))
                      (try go_wp2)
                      go_ret
                      exact ⟨ret_bool HR1.out.symm, by first | exact HBc.out | exact pw_below_drewN HBc.out _ | exact pw_below_drewN (pw_below_drewN HBc.out _) _⟩
                    · have z3 : (a2 == 0) = false := by simp [y3]
                      have HR1 := Aside0.mk (show R = false by rw [HR0.out]; exact decide_eq_false (fun h => y3 (h.2.2.2)))
                      clear y0 y1 y2 y3
                      go_wp2_with (first | (go_at_call 93; (with_reducible refine (l01InB a0 3 12 false HW1.out _).mono ?_); rintro e w' ⟨rfl, ⟨nd, rfl⟩⟩; (try first | exact ⟨rfl, _, World.drewN_drewN _ _ _⟩ | exact ⟨rfl, _, Eq.trans (World.drewN_drewN _ _ _) (congrArg (World.drewN _) (Nat.add_assoc _ _ _))⟩)) | (go_at_call 93; (with_reducible refine (l01InB a0 13 15 false HW2.out _).mono ?_); rintro e w' ⟨rfl, ⟨nd, rfl⟩⟩; (try first | exact ⟨rfl, _, World.drewN_drewN _ _ _⟩ | exact ⟨rfl, _, Eq.trans (World.drewN_drewN _ _ _) (congrArg (World.drewN _) (Nat.add_assoc _ _ _))⟩)))
                      (try (go_quiet (first | (go_at_call 93; (with_reducible refine (l01InB a0 3 12 false HW1.out _).mono ?_); rintro e w' ⟨rfl, ⟨nd, rfl⟩⟩; (try first | exact ⟨rfl, _, World.drewN_drewN _ _ _⟩ | exact ⟨rfl, _, Eq.trans (World.drewN_drewN _ _ _) (congrArg (World.drewN _) (Nat.add_assoc _ _ _))⟩)) | (go_at_call 93; (with_reducible refine (l01InB a0 13 15 false HW2.out _).mono ?_); rintro e w' ⟨rfl, ⟨nd, rfl⟩⟩; (try first | exact ⟨rfl, _, World.drewN_drewN _ _ _⟩ | exact ⟨rfl, _, Eq.trans (World.drewN_drewN _ _ _) (congrArg (World.drewN _) (Nat.add_assoc _ _ _))⟩)))))
                      (try go_wp2)
                      go_ret
                      exact ⟨ret_bool HR1.out.symm, by first | exact HBc.out | exact pw_below_drewN HBc.out _ | exact pw_below_drewN (pw_below_drewN HBc.out _) _⟩
                  · have z2 : (x2 == a1) = false := by simp [y2]
                    have HR1 := Aside0.mk (show R = false by rw [HR0.out]; exact decide_eq_false (fun h => y2 (h.2.2.1)))
                    clear y0 y1 y2
                    go_wp2_with (first | (go_at_call 93; (with_reducible refine (l01InB a0 3 12 false HW1.out _).mono ?_); rintro e w' ⟨rfl, ⟨nd, rfl⟩⟩; (try first | exact ⟨rfl, _, World.drewN_drewN _ _ _⟩ | exact ⟨rfl, _, Eq.trans (World.drewN_drewN _ _ _) (congrArg (World.drewN _) (Nat.add_assoc _ _ _))⟩)) | (go_at_call 93; (with_reducible refine (l01InB a0 13 15 false HW2.out _).mono ?_); rintro e w' ⟨rfl, ⟨nd, rfl⟩⟩; (try first | exact ⟨rfl, _, World.drewN_drewN _ _ _⟩ | exact ⟨rfl, _, Eq.trans (World.drewN_drewN _ _ _) (congrArg (World.drewN _) (Nat.add_assoc _ _ _))⟩)))
                    (try (go_quiet (first | (go_at_call 93; (with_reducible refine (l01InB a0 3 12 false HW1.out _).mono ?_); rintro e w' ⟨rfl, ⟨nd, rfl⟩⟩; (try first | exact ⟨rfl, _, World.drewN_drewN _ _ _⟩ | exact ⟨rfl, _, Eq.trans (World.drewN_drewN _ _ _) (congrArg (World.drewN _) (Nat.add_assoc _ _ _))⟩)) | (go_at_call 93; (with_reducible refine (l01InB a0 13 15 false HW2.out _).mono ?_); rintro e w' ⟨rfl, ⟨nd, rfl⟩⟩; (try first | exact ⟨rfl, _, World.drewN_drewN _ _ _⟩ | exact ⟨rfl, _, Eq.trans (World.drewN_drewN _ _ _) (congrArg (World.drewN _) (Nat.add_assoc _ _ _))⟩)))))
                    (try go_wp2)
                    go_ret
                    exact ⟨ret_bool HR1.out.symm, by first | exact HBc.out | exact pw_below_drewN HBc.out _ | exact pw_below_drewN (pw_below_drewN HBc.out _) _⟩
                · have z1 : (x1 == a1) = false := by simp [y1]
                  have HR1 := Aside0.mk (show R = false by rw [HR0.out]; exact decide_eq_false (fun h => y1 (h.2.1)))
                  clear y0 y1
                  go_wp2_with (first | (go_at_call 93; (with_reducible refine (l01InB a0 3 12 false HW1.out _).mono ?_); rintro e w' ⟨rfl, ⟨nd, rfl⟩⟩; (try first | exact ⟨rfl, _, World.drewN_drewN _ _ _⟩ | exact ⟨rfl, _, Eq.trans (World.drewN_drewN _ _ _) (congrArg (World.drewN _) (Nat.add_assoc _ _ _))⟩)) | (go_at_call 93; (with_reducible refine (l01InB a0 13 15 false HW2.out _).mono ?_); rintro e w' ⟨rfl, ⟨nd, rfl⟩⟩; (try first | exact ⟨rfl, _, World.drewN_drewN _ _ _⟩ | exact ⟨rfl, _, Eq.trans (World.drewN_drewN _ _ _) (congrArg (World.drewN _) (Nat.add_assoc _ _ _))⟩)))
                  (try (go_quiet (first | (go_at_call 93; (with_reducible refine (l01InB a0 3 12 false HW1.out _).mono ?_); rintro e w' ⟨rfl, ⟨nd, rfl⟩⟩; (try first | exact ⟨rfl, _, World.drewN_drewN _ _ _⟩ | exact ⟨rfl, _, Eq.trans (World.drewN_drewN _ _ _) (congrArg (World.drewN _) (Nat.add_assoc _ _ _))⟩)) | (go_at_call 93; (with_reducible refine (l01InB a0 13 15 false HW2.out _).mono ?_); rintro e w' ⟨rfl, ⟨nd, rfl⟩⟩; (try first | exact ⟨rfl, _, World.drewN_drewN _ _ _⟩ | exact ⟨rfl, _, Eq.trans (World.drewN_drewN _ _ _) (congrArg (World.drewN _) (Nat.add_assoc _ _ _))⟩)))))
                  (try go_wp2)
                  go_ret
                  exact ⟨ret_bool HR1.out.symm, by first | exact HBc.out | exact pw_below_drewN HBc.out _ | exact pw_below_drewN (pw_below_drewN HBc.out _) _⟩
              · have z0 : (x0 == 1) = false := by simp [y0]
                have HR1 := Aside0.mk (show R = false by rw [HR0.out]; exact decide_eq_false (fun h => y0 (h.1)))
                clear y0
                go_wp2_with (first | (go_at_call 93; (with_reducible refine (l01InB a0 3 12 false HW1.out _).mono ?_); rintro e w' ⟨rfl, ⟨nd, rfl⟩⟩; (try first | exact ⟨rfl, _, World.drewN_drewN _ _ _⟩ | exact ⟨rfl, _, Eq.trans (World.drewN_drewN _ _ _) (congrArg (World.drewN _) (Nat.add_assoc _ _ _))⟩)) | (go_at_call 93; (with_reducible refine (l01InB a0 13 15 false HW2.out _).mono ?_); rintro e w' ⟨rfl, ⟨nd, rfl⟩⟩; (try first | exact ⟨rfl, _, World.drewN_drewN _ _ _⟩ | exact ⟨rfl, _, Eq.trans (World.drewN_drewN _ _ _) (congrArg (World.drewN _) (Nat.add_assoc _ _ _))⟩)))
                (try (go_quiet (first | (go_at_call 93; (with_reducible refine (l01InB a0 3 12 false HW1.out _).mono ?_); rintro e w' ⟨rfl, ⟨nd, rfl⟩⟩; (try first | exact ⟨rfl, _, World.drewN_drewN _ _ _⟩ | exact ⟨rfl, _, Eq.trans (World.drewN_drewN _ _ _) (congrArg (World.drewN _) (Nat.add_assoc _ _ _))⟩)) | (go_at_call 93; (with_reducible refine (l01InB a0 13 15 false HW2.out _).mono ?_); rintro e w' ⟨rfl, ⟨nd, rfl⟩⟩; (try first | exact ⟨rfl, _, World.drewN_drewN _ _ _⟩ | exact ⟨rfl, _, Eq.trans (World.drewN_drewN _ _ _) (congrArg (World.drewN _) (Nat.add_assoc _ _ _))⟩)))))
                (try go_wp2)
                go_ret
                exact ⟨ret_bool HR1.out.symm, by first | exact HBc.out | exact pw_below_drewN HBc.out _ | exact pw_below_drewN (pw_below_drewN HBc.out _) _⟩
            · have t0 := n0 0 (by omega)
              have t1 := n0 1 (by omega)
              have t2 := n0 2 (by omega)
              have t16 := n0 16 (by omega)
              have t17 := n0 17 (by omega)
              have t18 := n0 18 (by omega)
              have t19 : (a0 == 19) = true := by simp [h]
              have HW1 := Aside0.mk (show decide (3 ≤ a0 ∧ a0 ≤ 12) = false from decide_eq_false (by omega))
              have HW2 := Aside0.mk (show decide (13 ≤ a0 ∧ a0 ≤ 15) = false from decide_eq_false (by omega))
              have hLL : L = [a3] := by rw [← HL.out]; unfold partsL; simp [h]
              subst hLL
              obtain ⟨g0, rfl, _, _, e0⟩ := hp8 0 (by simp)
              obtain ⟨x0, hx0⟩ : ∃ x, wd l0 a3 = x := ⟨_, rfl⟩
              have E0 : wd (l0.take n) a3 = x0 := (wd_take (hall _ (by rw [HL.out]; simp)).1 (hall _ (by rw [HL.out]; simp)).2).trans hx0
              replace e0 : wr.cell? ⟨g0, 0, none⟩ = some (.int .i64 x0) := by rw [e0]; simp [hx0]
              have HR0 := Aside0.mk (show R = decide ((0 ≤ a2 ∧ a2 ≤ 7) ∧ (1 ≤ a4 ∧ a4 ≤ 8) ∧ (x0 = 1) ∧ (a1 = 1) ∧ (a5 = 0)) by rw [HS.out, HW.out, HK.out, Bool.eq_iff_iff]; simp only [Bool.and_eq_true, decide_eq_true_iff, Bool.true_and]; unfold UsesP KindP; rw [E0]; grind)
              clear h n0 hall HK E0 hx0
              by_cases y0 : 0 ≤ a2 ∧ a2 ≤ 7
              · have Z0 := Aside0.mk (show decide (0 ≤ a2 ∧ a2 ≤ 7) = true from decide_eq_true y0)
                by_cases y1 : 1 ≤ a4 ∧ a4 ≤ 8
                · have Z1 := Aside0.mk (show decide (1 ≤ a4 ∧ a4 ≤ 8) = true from decide_eq_true y1)
                  by_cases y2 : x0 = 1
                  · have z2 : (x0 == 1) = true := by simp [y2]
                    by_cases y3 : a1 = 1
                    · have z3 : (a1 == 1) = true := by simp [y3]
                      by_cases y4 : a5 = 0
                      · have z4 : (a5 == 0) = true := by simp [y4]
                        have HR1 := Aside0.mk (show R = true by rw [HR0.out]; exact decide_eq_true ⟨y0, y1, y2, y3, y4⟩)
                        clear y0 y1 y2 y3 y4
                        go_wp2_with (first | (go_at_call 93; (with_reducible refine (l01InB a0 3 12 false HW1.out _).mono ?_); rintro e w' ⟨rfl, ⟨nd, rfl⟩⟩; (try first | exact ⟨rfl, _, World.drewN_drewN _ _ _⟩ | exact ⟨rfl, _, Eq.trans (World.drewN_drewN _ _ _) (congrArg (World.drewN _) (Nat.add_assoc _ _ _))⟩)) | (go_at_call 93; (with_reducible refine (l01InB a0 13 15 false HW2.out _).mono ?_); rintro e w' ⟨rfl, ⟨nd, rfl⟩⟩; (try first | exact ⟨rfl, _, World.drewN_drewN _ _ _⟩ | exact ⟨rfl, _, Eq.trans (World.drewN_drewN _ _ _) (congrArg (World.drewN _) (Nat.add_assoc _ _ _))⟩)) | (go_at_call 93; (with_reducible refine (l01InB a2 0 7 true Z0.out _).mono ?_); rintro e w' ⟨rfl, ⟨nd, rfl⟩⟩; (try first | exact ⟨rfl, _, World.drewN_drewN _ _ _⟩ | exact ⟨rfl, _, Eq.trans (World.drewN_drewN _ _ _) (congrArg (World.drewN _) (Nat.add_assoc _ _ _))⟩)) | (go_at_call 93; (with_reducible refine (l01InB a4 1 8 true Z1.out _).mono ?_); rintro e w' ⟨rfl, ⟨nd, rfl⟩⟩; (try first | exact ⟨rfl, _, World.drewN_drewN _ _ _⟩ | exact ⟨rfl, _, Eq.trans (World.drewN_drewN _ _ _) (congrArg (World.drewN _) (Nat.add_assoc _ _ _))⟩)))
                        (try (go_quiet (first | (go_at_call 93; (with_reducible refine (l01InB a0 3 12 false HW1.out _).mono ?_); rintro e w' ⟨rfl, ⟨nd, rfl⟩⟩; (try first | exact ⟨rfl, _, World.drewN_drewN _ _ _⟩ | exact ⟨rfl, _, Eq.trans (World.drewN_drewN _ _ _) (congrArg (World.drewN _) (Nat.add_assoc _ _ _))⟩)) | (go_at_call 93; (with_reducible refine (l01InB a0 13 15 false HW2.out _).mono ?_); rintro e w' ⟨rfl, ⟨nd, rfl⟩⟩; (try first | exact ⟨rfl, _, World.drewN_drewN _ _ _⟩ | exact ⟨rfl, _, Eq.trans (World.drewN_drewN _ _ _) (congrArg (World.drewN _) (Nat.add_assoc _ _ _))⟩)) | (go_at_call 93; (with_reducible refine (l01InB a2 0 7 true Z0.out _).mono ?_); rintro e w' ⟨rfl, ⟨nd, rfl⟩⟩; (try first | exact ⟨rfl, _, World.drewN_drewN _ _ _⟩ | exact ⟨rfl, _, Eq.trans (World.drewN_drewN _ _ _) (congrArg (World.drewN _) (Nat.add_assoc _ _ _))⟩)) | (go_at_call 93; (with_reducible refine (l01InB a4 1 8 true Z1.out _).mono ?_); rintro e w' ⟨rfl, ⟨nd, rfl⟩⟩; (try first | exact ⟨rfl, _, World.drewN_drewN _ _ _⟩ | exact ⟨rfl, _, Eq.trans (World.drewN_drewN _ _ _) (congrArg (World.drewN _) (Nat.add_assoc _ _ _))⟩)))))
                        (try go_wp2)
                        go_ret
                        exact ⟨ret_bool HR1.out.symm, by first | exact HBc.out | exact pw_below_drewN HBc.out _ | exact pw_below_drewN (pw_below_drewN HBc.out _) _⟩
                      · have z4 : (a5 == 0) = false := by simp [y4]
                        have HR1 := Aside0.mk (show R = false by rw [HR0.out]; exact decide_eq_false (fun h => y4 (h.2.2.2.2)))
                        clear y0 y1 y2 y3 y4
                        go_wp2_with (first | (go_at_call 93; (with_reducible refine (l01InB a0 3 12 false HW1.out _).mono ?_); rintro e w' ⟨rfl, ⟨nd, rfl⟩⟩; (try first | exact ⟨rfl, _, World.drewN_drewN _ _ _⟩ | exact ⟨rfl, _, Eq.trans (World.drewN_drewN _ _ _) (congrArg (World.drewN _) (Nat.add_assoc _ _ _))⟩)) | (go_at_call 93; (with_reducible refine (l01InB a0 13 15 false HW2.out _).mono ?_); rintro e w' ⟨rfl, ⟨nd, rfl⟩⟩; (try first | exact ⟨rfl, _, World.drewN_drewN _ _ _⟩ | exact ⟨rfl, _, Eq.trans (World.drewN_drewN _ _ _) (congrArg (World.drewN _) (Nat.add_assoc _ _ _))⟩)) | (go_at_call 93; (with_reducible refine (l01InB a2 0 7 true Z0.out _).mono ?_); rintro e w' ⟨rfl, ⟨nd, rfl⟩⟩; (try first | exact ⟨rfl, _, World.drewN_drewN _ _ _⟩ | exact ⟨rfl, _, Eq.trans (World.drewN_drewN _ _ _) (congrArg (World.drewN _) (Nat.add_assoc _ _ _))⟩)) | (go_at_call 93; (with_reducible refine (l01InB a4 1 8 true Z1.out _).mono ?_); rintro e w' ⟨rfl, ⟨nd, rfl⟩⟩; (try first | exact ⟨rfl, _, World.drewN_drewN _ _ _⟩ | exact ⟨rfl, _, Eq.trans (World.drewN_drewN _ _ _) (congrArg (World.drewN _) (Nat.add_assoc _ _ _))⟩)))
                        (try (go_quiet (first | (go_at_call 93; (with_reducible refine (l01InB a0 3 12 false HW1.out _).mono ?_); rintro e w' ⟨rfl, ⟨nd, rfl⟩⟩; (try first | exact ⟨rfl, _, World.drewN_drewN _ _ _⟩ | exact ⟨rfl, _, Eq.trans (World.drewN_drewN _ _ _) (congrArg (World.drewN _) (Nat.add_assoc _ _ _))⟩)) | (go_at_call 93; (with_reducible refine (l01InB a0 13 15 false HW2.out _).mono ?_); rintro e w' ⟨rfl, ⟨nd, rfl⟩⟩; (try first | exact ⟨rfl, _, World.drewN_drewN _ _ _⟩ | exact ⟨rfl, _, Eq.trans (World.drewN_drewN _ _ _) (congrArg (World.drewN _) (Nat.add_assoc _ _ _))⟩)) | (go_at_call 93; (with_reducible refine (l01InB a2 0 7 true Z0.out _).mono ?_); rintro e w' ⟨rfl, ⟨nd, rfl⟩⟩; (try first | exact ⟨rfl, _, World.drewN_drewN _ _ _⟩ | exact ⟨rfl, _, Eq.trans (World.drewN_drewN _ _ _) (congrArg (World.drewN _) (Nat.add_assoc _ _ _))⟩)) | (go_at_call 93; (with_reducible refine (l01InB a4 1 8 true Z1.out _).mono ?_); rintro e w' ⟨rfl, ⟨nd, rfl⟩⟩; (try first | exact ⟨rfl, _, World.drewN_drewN _ _ _⟩ | exact ⟨rfl, _, Eq.trans (World.drewN_drewN _ _ _) (congrArg (World.drewN _) (Nat.add_assoc _ _ _))⟩)))))
                        (try go_wp2)
                        go_ret
                        exact ⟨ret_bool HR1.out.symm, by first | exact HBc.out | exact pw_below_drewN HBc.out _ | exact pw_below_drewN (pw_below_drewN HBc.out _) _⟩
                    · have z3 : (a1 == 1) = false := by simp [y3]
                      have HR1 := Aside0.mk (show R = false by rw [HR0.out]; exact decide_eq_false (fun h => y3 (h.2.2.2.1)))
                      clear y0 y1 y2 y3
                      go_wp2_with (first | (go_at_call 93; (with_reducible refine (l01InB a0 3 12 false HW1.out _).mono ?_); rintro e w' ⟨rfl, ⟨nd, rfl⟩⟩; (try first | exact ⟨rfl, _, World.drewN_drewN _ _ _⟩ | exact ⟨rfl, _, Eq.trans (World.drewN_drewN _ _ _) (congrArg (World.drewN _) (Nat.add_assoc _ _ _))⟩)) | (go_at_call 93; (with_reducible refine (l01InB a0 13 15 false HW2.out _).mono ?_); rintro e w' ⟨rfl, ⟨nd, rfl⟩⟩; (try first | exact ⟨rfl, _, World.drewN_drewN _ _ _⟩ | exact ⟨rfl, _, Eq.trans (World.drewN_drewN _ _ _) (congrArg (World.drewN _) (Nat.add_assoc _ _ _))⟩)) | (go_at_call 93; (with_reducible refine (l01InB a2 0 7 true Z0.out _).mono ?_); rintro e w' ⟨rfl, ⟨nd, rfl⟩⟩; (try first | exact ⟨rfl, _, World.drewN_drewN _ _ _⟩ | exact ⟨rfl, _, Eq.trans (World.drewN_drewN _ _ _) (congrArg (World.drewN _) (Nat.add_assoc _ _ _))⟩)) | (go_at_call 93; (with_reducible refine (l01InB a4 1 8 true Z1.out _).mono ?_); rintro e w' ⟨rfl, ⟨nd, rfl⟩⟩; (try first | exact ⟨rfl, _, World.drewN_drewN _ _ _⟩ | exact ⟨rfl, _, Eq.trans (World.drewN_drewN _ _ _) (congrArg (World.drewN _) (Nat.add_assoc _ _ _))⟩)))
                      (try (go_quiet (first | (go_at_call 93; (with_reducible refine (l01InB a0 3 12 false HW1.out _).mono ?_); rintro e w' ⟨rfl, ⟨nd, rfl⟩⟩; (try first | exact ⟨rfl, _, World.drewN_drewN _ _ _⟩ | exact ⟨rfl, _, Eq.trans (World.drewN_drewN _ _ _) (congrArg (World.drewN _) (Nat.add_assoc _ _ _))⟩)) | (go_at_call 93; (with_reducible refine (l01InB a0 13 15 false HW2.out _).mono ?_); rintro e w' ⟨rfl, ⟨nd, rfl⟩⟩; (try first | exact ⟨rfl, _, World.drewN_drewN _ _ _⟩ | exact ⟨rfl, _, Eq.trans (World.drewN_drewN _ _ _) (congrArg (World.drewN _) (Nat.add_assoc _ _ _))⟩)) | (go_at_call 93; (with_reducible refine (l01InB a2 0 7 true Z0.out _).mono ?_); rintro e w' ⟨rfl, ⟨nd, rfl⟩⟩; (try first | exact ⟨rfl, _, World.drewN_drewN _ _ _⟩ | exact ⟨rfl, _, Eq.trans (World.drewN_drewN _ _ _) (congrArg (World.drewN _) (Nat.add_assoc _ _ _))⟩)) | (go_at_call 93; (with_reducible refine (l01InB a4 1 8 true Z1.out _).mono ?_); rintro e w' ⟨rfl, ⟨nd, rfl⟩⟩; (try first | exact ⟨rfl, _, World.drewN_drewN _ _ _⟩ | exact ⟨rfl, _, Eq.trans (World.drewN_drewN _ _ _) (congrArg (World.drewN _) (Nat.add_assoc _ _ _))⟩)))))
                      (try go_wp2)
                      go_ret
                      exact ⟨ret_bool HR1.out.symm, by first | exact HBc.out | exact pw_below_drewN HBc.out _ | exact pw_below_drewN (pw_below_drewN HBc.out _) _⟩
                  · have z2 : (x0 == 1) = false := by simp [y2]
                    have HR1 := Aside0.mk (show R = false by rw [HR0.out]; exact decide_eq_false (fun h => y2 (h.2.2.1)))
                    clear y0 y1 y2
                    go_wp2_with (first | (go_at_call 93; (with_reducible refine (l01InB a0 3 12 false HW1.out _).mono ?_); rintro e w' ⟨rfl, ⟨nd, rfl⟩⟩; (try first | exact ⟨rfl, _, World.drewN_drewN _ _ _⟩ | exact ⟨rfl, _, Eq.trans (World.drewN_drewN _ _ _) (congrArg (World.drewN _) (Nat.add_assoc _ _ _))⟩)) | (go_at_call 93; (with_reducible refine (l01InB a0 13 15 false HW2.out _).mono ?_); rintro e w' ⟨rfl, ⟨nd, rfl⟩⟩; (try first | exact ⟨rfl, _, World.drewN_drewN _ _ _⟩ | exact ⟨rfl, _, Eq.trans (World.drewN_drewN _ _ _) (congrArg (World.drewN _) (Nat.add_assoc _ _ _))⟩)) | (go_at_call 93; (with_reducible refine (l01InB a2 0 7 true Z0.out _).mono ?_); rintro e w' ⟨rfl, ⟨nd, rfl⟩⟩; (try first | exact ⟨rfl, _, World.drewN_drewN _ _ _⟩ | exact ⟨rfl, _, Eq.trans (World.drewN_drewN _ _ _) (congrArg (World.drewN _) (Nat.add_assoc _ _ _))⟩)) | (go_at_call 93; (with_reducible refine (l01InB a4 1 8 true Z1.out _).mono ?_); rintro e w' ⟨rfl, ⟨nd, rfl⟩⟩; (try first | exact ⟨rfl, _, World.drewN_drewN _ _ _⟩ | exact ⟨rfl, _, Eq.trans (World.drewN_drewN _ _ _) (congrArg (World.drewN _) (Nat.add_assoc _ _ _))⟩)))
                    (try (go_quiet (first | (go_at_call 93; (with_reducible refine (l01InB a0 3 12 false HW1.out _).mono ?_); rintro e w' ⟨rfl, ⟨nd, rfl⟩⟩; (try first | exact ⟨rfl, _, World.drewN_drewN _ _ _⟩ | exact ⟨rfl, _, Eq.trans (World.drewN_drewN _ _ _) (congrArg (World.drewN _) (Nat.add_assoc _ _ _))⟩)) | (go_at_call 93; (with_reducible refine (l01InB a0 13 15 false HW2.out _).mono ?_); rintro e w' ⟨rfl, ⟨nd, rfl⟩⟩; (try first | exact ⟨rfl, _, World.drewN_drewN _ _ _⟩ | exact ⟨rfl, _, Eq.trans (World.drewN_drewN _ _ _) (congrArg (World.drewN _) (Nat.add_assoc _ _ _))⟩)) | (go_at_call 93; (with_reducible refine (l01InB a2 0 7 true Z0.out _).mono ?_); rintro e w' ⟨rfl, ⟨nd, rfl⟩⟩; (try first | exact ⟨rfl, _, World.drewN_drewN _ _ _⟩ | exact ⟨rfl, _, Eq.trans (World.drewN_drewN _ _ _) (congrArg (World.drewN _) (Nat.add_assoc _ _ _))⟩)) | (go_at_call 93; (with_reducible refine (l01InB a4 1 8 true Z1.out _).mono ?_); rintro e w' ⟨rfl, ⟨nd, rfl⟩⟩; (try first | exact ⟨rfl, _, World.drewN_drewN _ _ _⟩ | exact ⟨rfl, _, Eq.trans (World.drewN_drewN _ _ _) (congrArg (World.drewN _) (Nat.add_assoc _ _ _))⟩)))))
                    (try go_wp2)
                    go_ret
                    exact ⟨ret_bool HR1.out.symm, by first | exact HBc.out | exact pw_below_drewN HBc.out _ | exact pw_below_drewN (pw_below_drewN HBc.out _) _⟩
                · have Z1 := Aside0.mk (show decide (1 ≤ a4 ∧ a4 ≤ 8) = false from decide_eq_false y1)
                  have HR1 := Aside0.mk (show R = false by rw [HR0.out]; exact decide_eq_false (fun h => y1 (h.2.1)))
                  clear y0 y1
                  go_wp2_with (first | (go_at_call 93; (with_reducible refine (l01InB a0 3 12 false HW1.out _).mono ?_); rintro e w' ⟨rfl, ⟨nd, rfl⟩⟩; (try first | exact ⟨rfl, _, World.drewN_drewN _ _ _⟩ | exact ⟨rfl, _, Eq.trans (World.drewN_drewN _ _ _) (congrArg (World.drewN _) (Nat.add_assoc _ _ _))⟩)) | (go_at_call 93; (with_reducible refine (l01InB a0 13 15 false HW2.out _).mono ?_); rintro e w' ⟨rfl, ⟨nd, rfl⟩⟩; (try first | exact ⟨rfl, _, World.drewN_drewN _ _ _⟩ | exact ⟨rfl, _, Eq.trans (World.drewN_drewN _ _ _) (congrArg (World.drewN _) (Nat.add_assoc _ _ _))⟩)) | (go_at_call 93; (with_reducible refine (l01InB a2 0 7 true Z0.out _).mono ?_); rintro e w' ⟨rfl, ⟨nd, rfl⟩⟩; (try first | exact ⟨rfl, _, World.drewN_drewN _ _ _⟩ | exact ⟨rfl, _, Eq.trans (World.drewN_drewN _ _ _) (congrArg (World.drewN _) (Nat.add_assoc _ _ _))⟩)) | (go_at_call 93; (with_reducible refine (l01InB a4 1 8 false Z1.out _).mono ?_); rintro e w' ⟨rfl, ⟨nd, rfl⟩⟩; (try first | exact ⟨rfl, _, World.drewN_drewN _ _ _⟩ | exact ⟨rfl, _, Eq.trans (World.drewN_drewN _ _ _) (congrArg (World.drewN _) (Nat.add_assoc _ _ _))⟩)))
                  (try (go_quiet (first | (go_at_call 93; (with_reducible refine (l01InB a0 3 12 false HW1.out _).mono ?_); rintro e w' ⟨rfl, ⟨nd, rfl⟩⟩; (try first | exact ⟨rfl, _, World.drewN_drewN _ _ _⟩ | exact ⟨rfl, _, Eq.trans (World.drewN_drewN _ _ _) (congrArg (World.drewN _) (Nat.add_assoc _ _ _))⟩)) | (go_at_call 93; (with_reducible refine (l01InB a0 13 15 false HW2.out _).mono ?_); rintro e w' ⟨rfl, ⟨nd, rfl⟩⟩; (try first | exact ⟨rfl, _, World.drewN_drewN _ _ _⟩ | exact ⟨rfl, _, Eq.trans (World.drewN_drewN _ _ _) (congrArg (World.drewN _) (Nat.add_assoc _ _ _))⟩)) | (go_at_call 93; (with_reducible refine (l01InB a2 0 7 true Z0.out _).mono ?_); rintro e w' ⟨rfl, ⟨nd, rfl⟩⟩; (try first | exact ⟨rfl, _, World.drewN_drewN _ _ _⟩ | exact ⟨rfl, _, Eq.trans (World.drewN_drewN _ _ _) (congrArg (World.drewN _) (Nat.add_assoc _ _ _))⟩)) | (go_at_call 93; (with_reducible refine (l01InB a4 1 8 false Z1.out _).mono ?_); rintro e w' ⟨rfl, ⟨nd, rfl⟩⟩; (try first | exact ⟨rfl, _, World.drewN_drewN _ _ _⟩ | exact ⟨rfl, _, Eq.trans (World.drewN_drewN _ _ _) (congrArg (World.drewN _) (Nat.add_assoc _ _ _))⟩)))))
                  (try go_wp2)
                  go_ret
                  exact ⟨ret_bool HR1.out.symm, by first | exact HBc.out | exact pw_below_drewN HBc.out _ | exact pw_below_drewN (pw_below_drewN HBc.out _) _⟩
              · have Z0 := Aside0.mk (show decide (0 ≤ a2 ∧ a2 ≤ 7) = false from decide_eq_false y0)
                have HR1 := Aside0.mk (show R = false by rw [HR0.out]; exact decide_eq_false (fun h => y0 (h.1)))
                clear y0
                go_wp2_with (first | (go_at_call 93; (with_reducible refine (l01InB a0 3 12 false HW1.out _).mono ?_); rintro e w' ⟨rfl, ⟨nd, rfl⟩⟩; (try first | exact ⟨rfl, _, World.drewN_drewN _ _ _⟩ | exact ⟨rfl, _, Eq.trans (World.drewN_drewN _ _ _) (congrArg (World.drewN _) (Nat.add_assoc _ _ _))⟩)) | (go_at_call 93; (with_reducible refine (l01InB a0 13 15 false HW2.out _).mono ?_); rintro e w' ⟨rfl, ⟨nd, rfl⟩⟩; (try first | exact ⟨rfl, _, World.drewN_drewN _ _ _⟩ | exact ⟨rfl, _, Eq.trans (World.drewN_drewN _ _ _) (congrArg (World.drewN _) (Nat.add_assoc _ _ _))⟩)) | (go_at_call 93; (with_reducible refine (l01InB a2 0 7 false Z0.out _).mono ?_); rintro e w' ⟨rfl, ⟨nd, rfl⟩⟩; (try first | exact ⟨rfl, _, World.drewN_drewN _ _ _⟩ | exact ⟨rfl, _, Eq.trans (World.drewN_drewN _ _ _) (congrArg (World.drewN _) (Nat.add_assoc _ _ _))⟩)))
                (try (go_quiet (first | (go_at_call 93; (with_reducible refine (l01InB a0 3 12 false HW1.out _).mono ?_); rintro e w' ⟨rfl, ⟨nd, rfl⟩⟩; (try first | exact ⟨rfl, _, World.drewN_drewN _ _ _⟩ | exact ⟨rfl, _, Eq.trans (World.drewN_drewN _ _ _) (congrArg (World.drewN _) (Nat.add_assoc _ _ _))⟩)) | (go_at_call 93; (with_reducible refine (l01InB a0 13 15 false HW2.out _).mono ?_); rintro e w' ⟨rfl, ⟨nd, rfl⟩⟩; (try first | exact ⟨rfl, _, World.drewN_drewN _ _ _⟩ | exact ⟨rfl, _, Eq.trans (World.drewN_drewN _ _ _) (congrArg (World.drewN _) (Nat.add_assoc _ _ _))⟩)) | (go_at_call 93; (with_reducible refine (l01InB a2 0 7 false Z0.out _).mono ?_); rintro e w' ⟨rfl, ⟨nd, rfl⟩⟩; (try first | exact ⟨rfl, _, World.drewN_drewN _ _ _⟩ | exact ⟨rfl, _, Eq.trans (World.drewN_drewN _ _ _) (congrArg (World.drewN _) (Nat.add_assoc _ _ _))⟩)))))
                (try go_wp2)
                go_ret
                exact ⟨ret_bool HR1.out.symm, by first | exact HBc.out | exact pw_below_drewN HBc.out _ | exact pw_below_drewN (pw_below_drewN HBc.out _) _⟩
            · have t0 := n0 0 (by omega)
              have t1 := n0 1 (by omega)
              have t2 := n0 2 (by omega)
              have t16 := n0 16 (by omega)
              have t17 := n0 17 (by omega)
              have t18 := n0 18 (by omega)
              have t19 := n0 19 (by omega)
              have t20 : (a0 == 20) = true := by simp [h]
              have HW1 := Aside0.mk (show decide (3 ≤ a0 ∧ a0 ≤ 12) = false from decide_eq_false (by omega))
              have HW2 := Aside0.mk (show decide (13 ≤ a0 ∧ a0 ≤ 15) = false from decide_eq_false (by omega))
              have hLL : L = [a3] := by rw [← HL.out]; unfold partsL; simp [h]
              subst hLL
              obtain ⟨g0, rfl, _, _, e0⟩ := hp8 0 (by simp)
              obtain ⟨x0, hx0⟩ : ∃ x, wd l0 a3 = x := ⟨_, rfl⟩
              have E0 : wd (l0.take n) a3 = x0 := (wd_take (hall _ (by rw [HL.out]; simp)).1 (hall _ (by rw [HL.out]; simp)).2).trans hx0
              replace e0 : wr.cell? ⟨g0, 0, none⟩ = some (.int .i64 x0) := by rw [e0]; simp [hx0]
              have HR0 := Aside0.mk (show R = decide ((0 ≤ a2 ∧ a2 ≤ 7) ∧ (1 ≤ a4 ∧ a4 ≤ 8) ∧ (x0 = 1) ∧ (a1 = 1) ∧ (a5 = 0)) by rw [HS.out, HW.out, HK.out, Bool.eq_iff_iff]; simp only [Bool.and_eq_true, decide_eq_true_iff, Bool.true_and]; unfold UsesP KindP; rw [E0]; grind)
              clear h n0 hall HK E0 hx0
              by_cases y0 : 0 ≤ a2 ∧ a2 ≤ 7
              · have Z0 := Aside0.mk (show decide (0 ≤ a2 ∧ a2 ≤ 7) = true from decide_eq_true y0)
                by_cases y1 : 1 ≤ a4 ∧ a4 ≤ 8
                · have Z1 := Aside0.mk (show decide (1 ≤ a4 ∧ a4 ≤ 8) = true from decide_eq_true y1)
                  by_cases y2 : x0 = 1
                  · have z2 : (x0 == 1) = true := by simp [y2]
                    by_cases y3 : a1 = 1
                    · have z3 : (a1 == 1) = true := by simp [y3]
                      by_cases y4 : a5 = 0
                      · have z4 : (a5 == 0) = true := by simp [y4]
                        have HR1 := Aside0.mk (show R = true by rw [HR0.out]; exact decide_eq_true ⟨y0, y1, y2, y3, y4⟩)
                        clear y0 y1 y2 y3 y4
                        go_wp2_with (first | (go_at_call 93; (with_reducible refine (l01InB a0 3 12 false HW1.out _).mono ?_); rintro e w' ⟨rfl, ⟨nd, rfl⟩⟩; (try first | exact ⟨rfl, _, World.drewN_drewN _ _ _⟩ | exact ⟨rfl, _, Eq.trans (World.drewN_drewN _ _ _) (congrArg (World.drewN _) (Nat.add_assoc _ _ _))⟩)) | (go_at_call 93; (with_reducible refine (l01InB a0 13 15 false HW2.out _).mono ?_); rintro e w' ⟨rfl, ⟨nd, rfl⟩⟩; (try first | exact ⟨rfl, _, World.drewN_drewN _ _ _⟩ | exact ⟨rfl, _, Eq.trans (World.drewN_drewN _ _ _) (congrArg (World.drewN _) (Nat.add_assoc _ _ _))⟩)) | (go_at_call 93; (with_reducible refine (l01InB a2 0 7 true Z0.out _).mono ?_); rintro e w' ⟨rfl, ⟨nd, rfl⟩⟩; (try first | exact ⟨rfl, _, World.drewN_drewN _ _ _⟩ | exact ⟨rfl, _, Eq.trans (World.drewN_drewN _ _ _) (congrArg (World.drewN _) (Nat.add_assoc _ _ _))⟩)) | (go_at_call 93; (with_reducible refine (l01InB a4 1 8 true Z1.out _).mono ?_); rintro e w' ⟨rfl, ⟨nd, rfl⟩⟩; (try first | exact ⟨rfl, _, World.drewN_drewN _ _ _⟩ | exact ⟨rfl, _, Eq.trans (World.drewN_drewN _ _ _) (congrArg (World.drewN _) (Nat.add_assoc _ _ _))⟩)))
                        (try (go_quiet (first | (go_at_call 93; (with_reducible refine (l01InB a0 3 12 false HW1.out _).mono ?_); rintro e w' ⟨rfl, ⟨nd, rfl⟩⟩; (try first | exact ⟨rfl, _, World.drewN_drewN _ _ _⟩ | exact ⟨rfl, _, Eq.trans (World.drewN_drewN _ _ _) (congrArg (World.drewN _) (Nat.add_assoc _ _ _))⟩)) | (go_at_call 93; (with_reducible refine (l01InB a0 13 15 false HW2.out _).mono ?_); rintro e w' ⟨rfl, ⟨nd, rfl⟩⟩; (try first | exact ⟨rfl, _, World.drewN_drewN _ _ _⟩ | exact ⟨rfl, _, Eq.trans (World.drewN_drewN _ _ _) (congrArg (World.drewN _) (Nat.add_assoc _ _ _))⟩)) | (go_at_call 93; (with_reducible refine (l01InB a2 0 7 true Z0.out _).mono ?_); rintro e w' ⟨rfl, ⟨nd, rfl⟩⟩; (try first | exact ⟨rfl, _, World.drewN_drewN _ _ _⟩ | exact ⟨rfl, _, Eq.trans (World.drewN_drewN _ _ _) (congrArg (World.drewN _) (Nat.add_assoc _ _ _))⟩)) | (go_at_call 93; (with_reducible refine (l01InB a4 1 8 true Z1.out _).mono ?_); rintro e w' ⟨rfl, ⟨nd, rfl⟩⟩; (try first | exact ⟨rfl, _, World.drewN_drewN _ _ _⟩ | exact ⟨rfl, _, Eq.trans (World.drewN_drewN _ _ _) (congrArg (World.drewN _) (Nat.add_assoc _ _ _))⟩)))))
                        (try go_wp2)
                        go_ret
                        exact ⟨ret_bool HR1.out.symm, by first | exact HBc.out | exact pw_below_drewN HBc.out _ | exact pw_below_drewN (pw_below_drewN HBc.out _) _⟩
                      · have z4 : (a5 == 0) = false := by simp [y4]
                        have HR1 := Aside0.mk (show R = false by rw [HR0.out]; exact decide_eq_false (fun h => y4 (h.2.2.2.2)))
                        clear y0 y1 y2 y3 y4
                        go_wp2_with (first | (go_at_call 93; (with_reducible refine (l01InB a0 3 12 false HW1.out _).mono ?_); rintro e w' ⟨rfl, ⟨nd, rfl⟩⟩; (try first | exact ⟨rfl, _, World.drewN_drewN _ _ _⟩ | exact ⟨rfl, _, Eq.trans (World.drewN_drewN _ _ _) (congrArg (World.drewN _) (Nat.add_assoc _ _ _))⟩)) | (go_at_call 93; (with_reducible refine (l01InB a0 13 15 false HW2.out _).mono ?_); rintro e w' ⟨rfl, ⟨nd, rfl⟩⟩; (try first | exact ⟨rfl, _, World.drewN_drewN _ _ _⟩ | exact ⟨rfl, _, Eq.trans (World.drewN_drewN _ _ _) (congrArg (World.drewN _) (Nat.add_assoc _ _ _))⟩)) | (go_at_call 93; (with_reducible refine (l01InB a2 0 7 true Z0.out _).mono ?_); rintro e w' ⟨rfl, ⟨nd, rfl⟩⟩; (try first | exact ⟨rfl, _, World.drewN_drewN _ _ _⟩ | exact ⟨rfl, _, Eq.trans (World.drewN_drewN _ _ _) (congrArg (World.drewN _) (Nat.add_assoc _ _ _))⟩)) | (go_at_call 93; (with_reducible refine (l01InB a4 1 8 true Z1.out _).mono ?_); rintro e w' ⟨rfl, ⟨nd, rfl⟩⟩; (try first | exact ⟨rfl, _, World.drewN_drewN _ _ _⟩ | exact ⟨rfl, _, Eq.trans (World.drewN_drewN _ _ _) (congrArg (World.drewN _) (Nat.add_assoc _ _ _))⟩)))
                        (try (go_quiet (first | (go_at_call 93; (with_reducible refine (l01InB a0 3 12 false HW1.out _).mono ?_); rintro e w' ⟨rfl, ⟨nd, rfl⟩⟩; (try first | exact ⟨rfl, _, World.drewN_drewN _ _ _⟩ | exact ⟨rfl, _, Eq.trans (World.drewN_drewN _ _ _) (congrArg (World.drewN _) (Nat.add_assoc _ _ _))⟩)) | (go_at_call 93; (with_reducible refine (l01InB a0 13 15 false HW2.out _).mono ?_); rintro e w' ⟨rfl, ⟨nd, rfl⟩⟩; (try first | exact ⟨rfl, _, World.drewN_drewN _ _ _⟩ | exact ⟨rfl, _, Eq.trans (World.drewN_drewN _ _ _) (congrArg (World.drewN _) (Nat.add_assoc _ _ _))⟩)) | (go_at_call 93; (with_reducible refine (l01InB a2 0 7 true Z0.out _).mono ?_); rintro e w' ⟨rfl, ⟨nd, rfl⟩⟩; (try first | exact ⟨rfl, _, World.drewN_drewN _ _ _⟩ | exact ⟨rfl, _, Eq.trans (World.drewN_drewN _ _ _) (congrArg (World.drewN _) (Nat.add_assoc _ _ _))⟩)) | (go_at_call 93; (with_reducible refine (l01InB a4 1 8 true Z1.out _).mono ?_); rintro e w' ⟨rfl, ⟨nd, rfl⟩⟩; (try first | exact ⟨rfl, _, World.drewN_drewN _ _ _⟩ | exact ⟨rfl, _, Eq.trans (World.drewN_drewN _ _ _) (congrArg (World.drewN _) (Nat.add_assoc _ _ _))⟩)))))
                        (try go_wp2)
                        go_ret
                        exact ⟨ret_bool HR1.out.symm, by first | exact HBc.out | exact pw_below_drewN HBc.out _ | exact pw_below_drewN (pw_below_drewN HBc.out _) _⟩
                    · have z3 : (a1 == 1) = false := by simp [y3]
                      have HR1 := Aside0.mk (show R = false by rw [HR0.out]; exact decide_eq_false (fun h => y3 (h.2.2.2.1)))
                      clear y0 y1 y2 y3
                      go_wp2_with (first | (go_at_call 93; (with_reducible refine (l01InB a0 3 12 false HW1.out _).mono ?_); rintro e w' ⟨rfl, ⟨nd, rfl⟩⟩; (try first | exact ⟨rfl, _, World.drewN_drewN _ _ _⟩ | exact ⟨rfl, _, Eq.trans (World.drewN_drewN _ _ _) (congrArg (World.drewN _) (Nat.add_assoc _ _ _))⟩)) | (go_at_call 93; (with_reducible refine (l01InB a0 13 15 false HW2.out _).mono ?_); rintro e w' ⟨rfl, ⟨nd, rfl⟩⟩; (try first | exact ⟨rfl, _, World.drewN_drewN _ _ _⟩ | exact ⟨rfl, _, Eq.trans (World.drewN_drewN _ _ _) (congrArg (World.drewN _) (Nat.add_assoc _ _ _))⟩)) | (go_at_call 93; (with_reducible refine (l01InB a2 0 7 true Z0.out _).mono ?_); rintro e w' ⟨rfl, ⟨nd, rfl⟩⟩; (try first | exact ⟨rfl, _, World.drewN_drewN _ _ _⟩ | exact ⟨rfl, _, Eq.trans (World.drewN_drewN _ _ _) (congrArg (World.drewN _) (Nat.add_assoc _ _ _))⟩)) | (go_at_call 93; (with_reducible refine (l01InB a4 1 8 true Z1.out _).mono ?_); rintro e w' ⟨rfl, ⟨nd, rfl⟩⟩; (try first | exact ⟨rfl, _, World.drewN_drewN _ _ _⟩ | exact ⟨rfl, _, Eq.trans (World.drewN_drewN _ _ _) (congrArg (World.drewN _) (Nat.add_assoc _ _ _))⟩)))
                      (try (go_quiet (first | (go_at_call 93; (with_reducible refine (l01InB a0 3 12 false HW1.out _).mono ?_); rintro e w' ⟨rfl, ⟨nd, rfl⟩⟩; (try first | exact ⟨rfl, _, World.drewN_drewN _ _ _⟩ | exact ⟨rfl, _, Eq.trans (World.drewN_drewN _ _ _) (congrArg (World.drewN _) (Nat.add_assoc _ _ _))⟩)) | (go_at_call 93; (with_reducible refine (l01InB a0 13 15 false HW2.out _).mono ?_); rintro e w' ⟨rfl, ⟨nd, rfl⟩⟩; (try first | exact ⟨rfl, _, World.drewN_drewN _ _ _⟩ | exact ⟨rfl, _, Eq.trans (World.drewN_drewN _ _ _) (congrArg (World.drewN _) (Nat.add_assoc _ _ _))⟩)) | (go_at_call 93; (with_reducible refine (l01InB a2 0 7 true Z0.out _).mono ?_); rintro e w' ⟨rfl, ⟨nd, rfl⟩⟩; (try first | exact ⟨rfl, _, World.drewN_drewN _ _ _⟩ | exact ⟨rfl, _, Eq.trans (World.drewN_drewN _ _ _) (congrArg (World.drewN _) (Nat.add_assoc _ _ _))⟩)) | (go_at_call 93; (with_reducible refine (l01InB a4 1 8 true Z1.out _).mono ?_); rintro e w' ⟨rfl, ⟨nd, rfl⟩⟩; (try first | exact ⟨rfl, _, World.drewN_drewN _ _ _⟩ | exact ⟨rfl, _, Eq.trans (World.drewN_drewN _ _ _) (congrArg (World.drewN _) (Nat.add_assoc _ _ _))⟩)))))
                      (try go_wp2)
                      go_ret
                      exact ⟨ret_bool HR1.out.symm, by first | exact HBc.out | exact pw_below_drewN HBc.out _ | exact pw_below_drewN (pw_below_drewN HBc.out _) _⟩
                  · have z2 : (x0 == 1) = false := by simp [y2]
                    have HR1 := Aside0.mk (show R = false by rw [HR0.out]; exact decide_eq_false (fun h => y2 (h.2.2.1)))
                    clear y0 y1 y2
                    go_wp2_with (first | (go_at_call 93; (with_reducible refine (l01InB a0 3 12 false HW1.out _).mono ?_); rintro e w' ⟨rfl, ⟨nd, rfl⟩⟩; (try first | exact ⟨rfl, _, World.drewN_drewN _ _ _⟩ | exact ⟨rfl, _, Eq.trans (World.drewN_drewN _ _ _) (congrArg (World.drewN _) (Nat.add_assoc _ _ _))⟩)) | (go_at_call 93; (with_reducible refine (l01InB a0 13 15 false HW2.out _).mono ?_); rintro e w' ⟨rfl, ⟨nd, rfl⟩⟩; (try first | exact ⟨rfl, _, World.drewN_drewN _ _ _⟩ | exact ⟨rfl, _, Eq.trans (World.drewN_drewN _ _ _) (congrArg (World.drewN _) (Nat.add_assoc _ _ _))⟩)) | (go_at_call 93; (with_reducible refine (l01InB a2 0 7 true Z0.out _).mono ?_); rintro e w' ⟨rfl, ⟨nd, rfl⟩⟩; (try first | exact ⟨rfl, _, World.drewN_drewN _ _ _⟩ | exact ⟨rfl, _, Eq.trans (World.drewN_drewN _ _ _) (congrArg (World.drewN _) (Nat.add_assoc _ _ _))⟩)) | (go_at_call 93; (with_reducible refine (l01InB a4 1 8 true Z1.out _).mono ?_); rintro e w' ⟨rfl, ⟨nd, rfl⟩⟩; (try first | exact ⟨rfl, _, World.drewN_drewN _ _ _⟩ | exact ⟨rfl, _, Eq.trans (World.drewN_drewN _ _ _) (congrArg (World.drewN _) (Nat.add_assoc _ _ _))⟩)))
                    (try (go_quiet (first | (go_at_call 93; (with_reducible refine (l01InB a0 3 12 false HW1.out _).mono ?_); rintro e w' ⟨rfl, ⟨nd, rfl⟩⟩; (try first | exact ⟨rfl, _, World.drewN_drewN _ _ _⟩ | exact ⟨rfl, _, Eq.trans (World.drewN_drewN _ _ _) (congrArg (World.drewN _) (Nat.add_assoc _ _ _))⟩)) | (go_at_call 93; (with_reducible refine (l01InB a0 13 15 false HW2.out _).mono ?_); rintro e w' ⟨rfl, ⟨nd, rfl⟩⟩; (try first | exact ⟨rfl, _, World.drewN_drewN _ _ _⟩ | exact ⟨rfl, _, Eq.trans (World.drewN_drewN _ _ _) (congrArg (World.drewN _) (Nat.add_assoc _ _ _))⟩)) | (go_at_call 93; (with_reducible refine (l01InB a2 0 7 true Z0.out _).mono ?_); rintro e w' ⟨rfl, ⟨nd, rfl⟩⟩; (try first | exact ⟨rfl, _, World.drewN_drewN _ _ _⟩ | exact ⟨rfl, _, Eq.trans (World.drewN_drewN _ _ _) (congrArg (World.drewN _) (Nat.add_assoc _ _ _))⟩)) | (go_at_call 93; (with_reducible refine (l01InB a4 1 8 true Z1.out _).mono ?_); rintro e w' ⟨rfl, ⟨nd, rfl⟩⟩; (try first | exact ⟨rfl, _, World.drewN_drewN _ _ _⟩ | exact ⟨rfl, _, Eq.trans (World.drewN_drewN _ _ _) (congrArg (World.drewN _) (Nat.add_assoc _ _ _))⟩)))))
                    (try go_wp2)
                    go_ret
                    exact ⟨ret_bool HR1.out.symm, by first | exact HBc.out | exact pw_below_drewN HBc.out _ | exact pw_below_drewN (pw_below_drewN HBc.out _) _⟩
                · have Z1 := Aside0.mk (show decide (1 ≤ a4 ∧ a4 ≤ 8) = false from decide_eq_false y1)
                  have HR1 := Aside0.mk (show R = false by rw [HR0.out]; exact decide_eq_false (fun h => y1 (h.2.1)))
                  clear y0 y1
                  go_wp2_with (first | (go_at_call 93; (with_reducible refine (l01InB a0 3 12 false HW1.out _).mono ?_); rintro e w' ⟨rfl, ⟨nd, rfl⟩⟩; (try first | exact ⟨rfl, _, World.drewN_drewN _ _ _⟩ | exact ⟨rfl, _, Eq.trans (World.drewN_drewN _ _ _) (congrArg (World.drewN _) (Nat.add_assoc _ _ _))⟩)) | (go_at_call 93; (with_reducible refine (l01InB a0 13 15 false HW2.out _).mono ?_); rintro e w' ⟨rfl, ⟨nd, rfl⟩⟩; (try first | exact ⟨rfl, _, World.drewN_drewN _ _ _⟩ | exact ⟨rfl, _, Eq.trans (World.drewN_drewN _ _ _) (congrArg (World.drewN _) (Nat.add_assoc _ _ _))⟩)) | (go_at_call 93; (with_reducible refine (l01InB a2 0 7 true Z0.out _).mono ?_); rintro e w' ⟨rfl, ⟨nd, rfl⟩⟩; (try first | exact ⟨rfl, _, World.drewN_drewN _ _ _⟩ | exact ⟨rfl, _, Eq.trans (World.drewN_drewN _ _ _) (congrArg (World.drewN _) (Nat.add_assoc _ _ _))⟩)) | (go_at_call 93; (with_reducible refine (l01InB a4 1 8 false Z1.out _).mono ?_); rintro e w' ⟨rfl, ⟨nd, rfl⟩⟩; (try first | exact ⟨rfl, _, World.drewN_drewN _ _ _⟩ | exact ⟨rfl, _, Eq.trans (World.drewN_drewN _ _ _) (congrArg (World.drewN _) (Nat.add_assoc _ _ _))⟩)))
                  (try (go_quiet (first | (go_at_call 93; (with_reducible refine (l01InB a0 3 12 false HW1.out _).mono ?_); rintro e w' ⟨rfl, ⟨nd, rfl⟩⟩; (try first | exact ⟨rfl, _, World.drewN_drewN _ _ _⟩ | exact ⟨rfl, _, Eq.trans (World.drewN_drewN _ _ _) (congrArg (World.drewN _) (Nat.add_assoc _ _ _))⟩)) | (go_at_call 93; (with_reducible refine (l01InB a0 13 15 false HW2.out _).mono ?_); rintro e w' ⟨rfl, ⟨nd, rfl⟩⟩; (try first | exact ⟨rfl, _, World.drewN_drewN _ _ _⟩ | exact ⟨rfl, _, Eq.trans (World.drewN_drewN _ _ _) (congrArg (World.drewN _) (Nat.add_assoc _ _ _))⟩)) | (go_at_call 93; (with_reducible refine (l01InB a2 0 7 true Z0.out _).mono ?_); rintro e w' ⟨rfl, ⟨nd, rfl⟩⟩; (try first | exact ⟨rfl, _, World.drewN_drewN _ _ _⟩ | exact ⟨rfl, _, Eq.trans (World.drewN_drewN _ _ _) (congrArg (World.drewN _) (Nat.add_assoc _ _ _))⟩)) | (go_at_call 93; (with_reducible refine (l01InB a4 1 8 false Z1.out _).mono ?_); rintro e w' ⟨rfl, ⟨nd, rfl⟩⟩; (try first | exact ⟨rfl, _, World.drewN_drewN _ _ _⟩ | exact ⟨rfl, _, Eq.trans (World.drewN_drewN _ _ _) (congrArg (World.drewN _) (Nat.add_assoc _ _ _))⟩)))))
                  (try go_wp2)
                  go_ret
                  exact ⟨ret_bool HR1.out.symm, by first | exact HBc.out | exact pw_below_drewN HBc.out _ | exact pw_below_drewN (pw_below_drewN HBc.out _) _⟩
              · have Z0 := Aside0.mk (show decide (0 ≤ a2 ∧ a2 ≤ 7) = false from decide_eq_false y0)
                have HR1 := Aside0.mk (show R = false by rw [HR0.out]; exact decide_eq_false (fun h => y0 (h.1)))
                clear y0
                go_wp2_with (first | (go_at_call 93; (with_reducible refine (l01InB a0 3 12 false HW1.out _).mono ?_); rintro e w' ⟨rfl, ⟨nd, rfl⟩⟩; (try first | exact ⟨rfl, _, World.drewN_drewN _ _ _⟩ | exact ⟨rfl, _, Eq.trans (World.drewN_drewN _ _ _) (congrArg (World.drewN _) (Nat.add_assoc _ _ _))⟩)) | (go_at_call 93; (with_reducible refine (l01InB a0 13 15 false HW2.out _).mono ?_); rintro e w' ⟨rfl, ⟨nd, rfl⟩⟩; (try first | exact ⟨rfl, _, World.drewN_drewN _ _ _⟩ | exact ⟨rfl, _, Eq.trans (World.drewN_drewN _ _ _) (congrArg (World.drewN _) (Nat.add_assoc _ _ _))⟩)) | (go_at_call 93; (with_reducible refine (l01InB a2 0 7 false Z0.out _).mono ?_); rintro e w' ⟨rfl, ⟨nd, rfl⟩⟩; (try first | exact ⟨rfl, _, World.drewN_drewN _ _ _⟩ | exact ⟨rfl, _, Eq.trans (World.drewN_drewN _ _ _) (congrArg (World.drewN _) (Nat.add_assoc _ _ _))⟩)))
                (try (go_quiet (first | (go_at_call 93; (with_reducible refine (l01InB a0 3 12 false HW1.out _).mono ?_); rintro e w' ⟨rfl, ⟨nd, rfl⟩⟩; (try first | exact ⟨rfl, _, World.drewN_drewN _ _ _⟩ | exact ⟨rfl, _, Eq.trans (World.drewN_drewN _ _ _) (congrArg (World.drewN _) (Nat.add_assoc _ _ _))⟩)) | (go_at_call 93; (with_reducible refine (l01InB a0 13 15 false HW2.out _).mono ?_); rintro e w' ⟨rfl, ⟨nd, rfl⟩⟩; (try first | exact ⟨rfl, _, World.drewN_drewN _ _ _⟩ | exact ⟨rfl, _, Eq.trans (World.drewN_drewN _ _ _) (congrArg (World.drewN _) (Nat.add_assoc _ _ _))⟩)) | (go_at_call 93; (with_reducible refine (l01InB a2 0 7 false Z0.out _).mono ?_); rintro e w' ⟨rfl, ⟨nd, rfl⟩⟩; (try first | exact ⟨rfl, _, World.drewN_drewN _ _ _⟩ | exact ⟨rfl, _, Eq.trans (World.drewN_drewN _ _ _) (congrArg (World.drewN _) (Nat.add_assoc _ _ _))⟩)))))
                (try go_wp2)
                go_ret
                exact ⟨ret_bool HR1.out.symm, by first | exact HBc.out | exact pw_below_drewN HBc.out _ | exact pw_below_drewN (pw_below_drewN HBc.out _) _⟩
            · have t0 := n0 0 (by omega)
              have t1 := n0 1 (by omega)
              have t2 := n0 2 (by omega)
              have t16 := n0 16 (by omega)
              have t17 := n0 17 (by omega)
              have t18 := n0 18 (by omega)
              have t19 := n0 19 (by omega)
              have t20 := n0 20 (by omega)
              have HW1 := Aside0.mk (show decide (3 ≤ a0 ∧ a0 ≤ 12) = false from decide_eq_false (by omega))
              have HW2 := Aside0.mk (show decide (13 ≤ a0 ∧ a0 ≤ 15) = false from decide_eq_false (by omega))
              have HR1 := Aside0.mk (show R = false by rw [HS.out, decide_eq_false (p := 0 ≤ a0 ∧ a0 ≤ 20) (by omega)]; simp)
              clear h n0 hall HK
              go_wp2_with (first | (go_at_call 93; (with_reducible refine (l01InB a0 3 12 false HW1.out _).mono ?_); rintro e w' ⟨rfl, ⟨nd, rfl⟩⟩; (try first | exact ⟨rfl, _, World.drewN_drewN _ _ _⟩ | exact ⟨rfl, _, Eq.trans (World.drewN_drewN _ _ _) (congrArg (World.drewN _) (Nat.add_assoc _ _ _))⟩)) | (go_at_call 93; (with_reducible refine (l01InB a0 13 15 false HW2.out _).mono ?_); rintro e w' ⟨rfl, ⟨nd, rfl⟩⟩; (try first | exact ⟨rfl, _, World.drewN_drewN _ _ _⟩ | exact ⟨rfl, _, Eq.trans (World.drewN_drewN _ _ _) (congrArg (World.drewN _) (Nat.add_assoc _ _ _))⟩)))
              (try (go_quiet (first | (go_at_call 93; (with_reducible refine (l01InB a0 3 12 false HW1.out _).mono ?_); rintro e w' ⟨rfl, ⟨nd, rfl⟩⟩; (try first | exact ⟨rfl, _, World.drewN_drewN _ _ _⟩ | exact ⟨rfl, _, Eq.trans (World.drewN_drewN _ _ _) (congrArg (World.drewN _) (Nat.add_assoc _ _ _))⟩)) | (go_at_call 93; (with_reducible refine (l01InB a0 13 15 false HW2.out _).mono ?_); rintro e w' ⟨rfl, ⟨nd, rfl⟩⟩; (try first | exact ⟨rfl, _, World.drewN_drewN _ _ _⟩ | exact ⟨rfl, _, Eq.trans (World.drewN_drewN _ _ _) (congrArg (World.drewN _) (Nat.add_assoc _ _ _))⟩)))))
              (try go_wp2)
              go_ret
              exact ⟨ret_bool HR1.out.symm, by first | exact HBc.out | exact pw_below_drewN HBc.out _ | exact pw_below_drewN (pw_below_drewN HBc.out _) _⟩
      · have HW := Aside0.mk (decide_eq_false hW)
        have HR1 := Aside0.mk (show R = false by rw [HS.out, HW.out]; simp)
        clear hW
        go_wp2_with (first | (go_at_call 93; refine (l01InB a1 1 8 false HW.out _).mono ?_; rintro e w' ⟨rfl, ⟨nd, rfl⟩⟩))
        go_ret
        exact ⟨ret_bool HR1.out.symm, pw_below_drewN HB3.out _⟩
end Go.Proofs.Ytlgjogfcpgfbnaa.KS
