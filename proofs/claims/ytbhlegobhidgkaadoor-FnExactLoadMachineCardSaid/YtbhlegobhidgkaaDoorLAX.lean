/- The laws of loading. Conditions: those that a theorem names. -/
import Derived.Test.YtbhlegobhidgkaaDoorL7X
import Derived.Test.YtbhlegobhidgkaaDoorL8
import Derived.Test.YtbhlegobhidgkaaDoorXB
set_option linter.unusedVariables false
set_option linter.unusedSimpArgs false
namespace Go.Proofs.YtbhlegobhidgkaaDoor.RE
open Go Go.RowKit
set_option maxRecDepth 100000
set_option maxHeartbeats 8000000

theorem loadM_fits (s : ByteArray) (hs : s.size ≤ 1048576) : (loadM s).Fits := by
  unfold loadM
  split
  · rename_i h
    unfold loadB at h
    rw [Bool.and_eq_true] at h
    exact mI_fits hs (of_decide_eq_true h.1).2
  · exact ⟨Nat.zero_le _, Nat.zero_le _, Nat.zero_le _, Nat.zero_le _, fun x hx => by cases hx⟩
theorem load_back {s : ByteArray} (h : loadB s = true) : saveB (loadM s) = true ∧ saveR (loadM s) = s := by
  have h0 := h
  unfold loadB at h
  simp only [Bool.and_eq_true, decide_eq_true_eq] at h
  rw [show loadM s = mI s from if_pos h0]
  refine ⟨h.2.1, ?_⟩
  unfold saveR
  rw [if_pos h.2.1]
  exact h.2.2
theorem iSaveL {s : ByteArray} (hs : s.size ≤ 1048576) (h : loadB s = true) : Val E.P 8 [.agg (mD (loadM s))] (.tup [.l (.sc (.string s)), TB true]) := by
  have := iSave_c (loadM s) (loadM_fits s hs)
  rwa [(load_back h).1, (load_back h).2] at this
theorem iOkL {s : ByteArray} (hs : s.size ≤ 1048576) (h : loadB s = true) : Val E.P 20 [.agg (mD (loadM s))] (T true) := by
  have := iMachineOk_c (loadM s) (loadM_fits s hs)
  have h2 := (load_back h).1
  unfold saveB at h2
  rw [Bool.and_eq_true] at h2
  rwa [h2.1] at this
theorem load_default {s : ByteArray} (h : loadB s = false) : loadM s = default := if_neg (by rw [h]; simp)
theorem lawLoad_c (l : List Int) (hlen : (l.length : Int) ≤ 9223372036854775807) : Val E.P 5 [dY l] (T true) := by
  refine CallsA.body (E := E) (fn := Tryd.f5) Tryd.func5 rfl fun B hB => ?_
  simp only [Tryd.ntmps5, go_sem, nl, Nat.reduceSub, Nat.reduceAdd, List.reduceReplicate]
  refine Wp.seqK fun K1 hK1 => ?_
  refine rg ?_
  refine hK1 _ ?_
  clear hK1 K1
  refine Wp.seqK fun K2 hK2 => ?_
  refine Wp.seqK fun K3 hK3 => ?_
  refine rg ?_
  refine ⟨rfl, CallK.valA (h := bigB_c _) (k := ?_)⟩
  refine evd ?_
  refine hK3 _ ?_
  clear hK3 K3
  refine Wp.condS (fun h11 => ?_) (fun h11 => ?_)
  · refine Wp.seqK fun K4 hK4 => ?_
    refine rg ?_
    refine hK4 _ ?_
    clear hK4 K4
    refine Wp.ret (retV ?_)
    try simp only [List.getD_cons_zero, List.getD_cons_succ]
    try rfl
  · have hl : l.length ≤ 1048576 := by omega
    refine Wp.skip ?_
    refine hK2 _ ?_
    clear hK2 K2
    refine Wp.seqK fun K5 hK5 => ?_
    refine rg ?_
    refine ⟨rfl, CallK.textD (h := drawL_c l hl) (fun s hs => ?_)⟩
    refine evd ?_
    refine hK5 _ ?_
    clear hK5 K5
    refine Wp.seqK fun K6 hK6 => ?_
    refine rg ?_
    refine ⟨rfl, CallK.retA (h := iLoad_c s (by omega)) (ha := .same rfl .nil) (k := ?_) (hf := mR_flat _)⟩
    refine evd ?_
    refine hK6 _ ?_
    clear hK6 K6
    refine Wp.seqK fun K7 hK7 => ?_
    refine rg ?_
    refine ⟨rfl, CallK.retA (h := sLoad_c s (by omega)) (ha := .same rfl .nil) (k := ?_) (hf := mR_flat _)⟩
    refine evd ?_
    refine hK7 _ ?_
    clear hK7 K7
    refine Wp.seqK fun K8 hK8 => ?_
    refine Wp.seqK fun K9 hK9 => ?_
    refine rg ?_
    refine hK9 _ ?_
    clear hK9 K9
    refine Wp.condS (fun h26 => ?_) (fun h26 => ?_)
    · first | exact h26.elim | exact absurd h26 (by decide) | omega | simp at h26
    · refine Wp.skip ?_
      refine hK8 _ ?_
      clear hK8 K8
      refine Wp.seqK fun K10 hK10 => ?_
      refine Wp.seqK fun K11 hK11 => ?_
      refine rg ?_
      refine hK11 _ ?_
      clear hK11 K11
      refine Wp.condS (fun h28 => ?_) (fun h28 => ?_)
      · have hld : loadB s = false := by simpa using h28
        rw [load_default hld]
        simp only [show (default : Mc).row.length = 0 from rfl, show (default : Mc).ones = ⟨#[]⟩ from rfl]
        refine Wp.seqK fun K12 hK12 => ?_
        refine rg ?_
        refine grdA_split rfl (fun g9_5 => ?_) (fun g9_5 => ?_)
        · try simp only [decide_eq_true_eq, decide_eq_false_iff_not] at g9_5
          try refine evd ?_
          refine hK12 _ ?_
          clear hK12 K12
          refine Wp.ret (retV ?_)
          try simp only [List.getD_cons_zero, List.getD_cons_succ]
          try rfl
        · try simp only [decide_eq_true_eq, decide_eq_false_iff_not] at g9_5
          first | exact absurd rfl g9_5 | (simp at g9_5)
      · have hld : loadB s = true := by simpa using h28
        rw [hld]
        refine Wp.skip ?_
        refine hK10 _ ?_
        clear hK10 K10
        refine Wp.seqK fun K13 hK13 => ?_
        refine rg ?_
        refine ⟨rfl, CallK.valA (h := iSaveL (by omega) hld) (ha := argG (G := ⟨0, 0, [], 0, []⟩) (m := loadM s) (a := 0) (b := 1) (c := 2) rfl (by simp) rfl (by simp [lk]) (by simp [lk]) (by simp [lk])) (k := ?_)⟩
        refine evd ?_
        refine hK13 _ ?_
        clear hK13 K13
        refine Wp.seqK fun K14 hK14 => ?_
        refine rg ?_
        refine ⟨rfl, CallK.valA (h := iOkL (by omega) hld) (ha := argG (G := ⟨0, 0, [], 0, []⟩) (m := loadM s) (a := 0) (b := 1) (c := 2) rfl (by simp) rfl (by simp [lk]) (by simp [lk]) (by simp [lk])) (k := ?_)⟩
        refine evd ?_
        refine hK14 _ ?_
        clear hK14 K14
        refine Wp.ret (retV ?_)
        try simp only [List.getD_cons_zero, List.getD_cons_succ]
        try rfl

theorem bytesY1 (l : List UInt8) : (l.flatMap fun n : UInt8 => [DV.sc (.int .u8 (n.toNat : Int))]) = encY (l.map fun n => (n.toNat : Int)) := by
  unfold encY
  induction l with
  | nil => rfl
  | cons a l ih => simp only [List.flatMap_cons, List.map_cons, List.cons_append, List.nil_append]; rw [ih]
theorem lawLoad_b (l : List UInt8) (hlen : (l.length : Int) ≤ 9223372036854775807) : Val E.P 5 [.l (.dsl true l.length (l.flatMap fun n : UInt8 => [DV.sc (.int .u8 (n.toNat : Int))]))] (T true) := by
  rw [bytesY1]
  have := lawLoad_c (l.map fun n => (n.toNat : Int)) (by rw [List.length_map]; exact hlen)
  simp only [dY, List.length_map] at this
  exact this

theorem totM_nn (m : Mc) : 0 ≤ totM m := by unfold totM; omega
theorem mR_shut (m : Mc) : obShut 3 (mR m) = true := by
  simp only [mR, obShut, List.all_cons, List.all_nil, flat_shut (flatI _), flat_shut (flatB _), flat_shut (lS_flat _), Bool.and_true]
theorem markMachine_h (m : Mc) (k : Int) (h0 : 0 ≤ k) (h1 : k ≤ 1000) (hr : m.row.length ≤ 100000) (hv : m.vals.length ≤ 100000) (hm : m.memo.length ≤ 1048576) : CallsA E.P 17 [.agg (mO 0 1 2 m), I k] (mR m) fun r ob => r = I (k + totM m) ∧ ob = mkM m k ++ [] := by
  simpa only [List.append_nil] using markMachine_c m k h0 h1 hr hv hm
theorem loadM_small (s : ByteArray) : (loadM s).row.length ≤ 100000 ∧ (loadM s).vals.length ≤ 100000 ∧ (loadM s).memo.length ≤ 100000 := by
  by_cases h : loadB s = true
  · have h2 := (load_back h).1
    have hn := (saveB_n h2).1
    have := hn.row
    have := hn.vals
    have := hn.memo
    omega
  · rw [load_default (by simpa using h)]
    exact ⟨Nat.zero_le _, Nat.zero_le _, Nat.zero_le _⟩
theorem lawLoadMachine_c (s : ByteArray) : Val E.P 4 [S s] (T true) := by
  refine CallsA.body (E := E) (fn := Tryd.f4) Tryd.func4 rfl fun B hB => ?_
  simp only [Tryd.ntmps4, go_sem, nl, Nat.reduceSub, Nat.reduceAdd, List.reduceReplicate]
  refine Wp.seqK fun K1 hK1 => ?_
  refine rg ?_
  refine hK1 _ ?_
  clear hK1 K1
  refine Wp.seqK fun K2 hK2 => ?_
  refine Wp.seqK fun K3 hK3 => ?_
  refine rg ?_
  refine hK3 _ ?_
  clear hK3 K3
  refine Wp.condS (fun h13 => ?_) (fun h13 => ?_)
  · refine Wp.seqK fun K4 hK4 => ?_
    refine rg ?_
    refine hK4 _ ?_
    clear hK4 K4
    refine Wp.ret (retV ?_)
    try simp only [List.getD_cons_zero, List.getD_cons_succ]
    try rfl
  · have hs : s.size ≤ 1048576 := by omega
    have hm3 := loadM_small s
    have htt := totM_nn (loadM s)
    refine Wp.skip ?_
    refine hK2 _ ?_
    clear hK2 K2
    refine Wp.seqK fun K5 hK5 => ?_
    refine rg ?_
    refine ⟨rfl, CallK.retA (h := sLoad_c s (by omega)) (ha := .same rfl .nil) (k := ?_) (hf := mR_flat _)⟩
    refine evd ?_
    refine hK5 _ ?_
    clear hK5 K5
    refine Wp.seqK fun K6 hK6 => ?_
    refine rg ?_
    refine ⟨rfl, CallK.retA (h := iLoad_c s (by omega)) (ha := .same rfl .nil) (k := ?_) (hf := mR_flat _)⟩
    refine evd ?_
    refine hK6 _ ?_
    clear hK6 K6
    refine Wp.seqK fun K7 hK7 => ?_
    refine Wp.seqK fun K8 hK8 => ?_
    refine rg ?_
    refine ⟨rfl, CallK.valA (h := eqMachine_c (loadM s) (by omega) (by omega) (by omega)) (k := ?_) (ha := argM (m := loadM s) (argM (m := loadM s) ArgsL.nil rfl rfl rfl rfl rfl rfl) rfl rfl rfl rfl rfl rfl)⟩
    refine evd ?_
    refine hK8 _ ?_
    clear hK8 K8
    refine Wp.condS (fun h32 => ?_) (fun h32 => ?_)
    · first | exact h32.elim | exact absurd h32 (by decide) | omega | simp at h32
    · refine Wp.skip ?_
      refine hK7 _ ?_
      clear hK7 K7
      refine Wp.seqK fun K9 hK9 => ?_
      refine rg ?_
      refine hK9 _ ?_
      clear hK9 K9
      refine Wp.seqK fun K10 hK10 => ?_
      refine Wp.keepR 0 [4, 5, 6, 7, 0, 1, 2, 3] (by rw [hB]; simp) (by simp) (by decide) (by simp) ?_
      refine evd ?_
      refine rg ?_
      refine ⟨rfl, CallK.handA 3 (o1 := mkM (loadM s) 1) (new := []) (h := markMachine_h (loadM s) 1 (by omega) (by omega) (by omega) (by omega) (by omega)) (hs := mR_shut _) (hs1 := mkM_shut _ _) (k := ?_)⟩
      refine evd ?_
      simp only [mkM, List.cons_append, List.nil_append]
      refine hK10 _ ?_
      clear hK10 K10
      refine Wp.seqK fun K11 hK11 => ?_
      refine rg ?_
      refine hK11 _ ?_
      clear hK11 K11
      refine Wp.seqK fun K12 hK12 => ?_
      refine rg ?_
      refine ⟨rfl, CallK.valA (h := heldMachine_c (loadM s) 1 (by omega) (by omega) (by omega) (by omega) (by omega)) (ha := argK (m := loadM s) (k := 1) (a := 0) (b := 1) (c := 2) rfl rfl rfl (by simp [lk]) (by simp [lk]) (by simp [lk])) (k := ?_)⟩
      refine evd ?_
      refine hK12 _ ?_
      clear hK12 K12
      refine Wp.seqK fun K13 hK13 => ?_
      refine Wp.seqK fun K14 hK14 => ?_
      refine rg ?_
      refine hK14 _ ?_
      clear hK14 K14
      refine Wp.condS (fun h40 => ?_) (fun h40 => ?_)
      · omega
      · refine Wp.skip ?_
        refine hK13 _ ?_
        clear hK13 K13
        refine Wp.seqK fun K15 hK15 => ?_
        refine Wp.seqK fun K16 hK16 => ?_
        refine rg ?_
        refine hK16 _ ?_
        clear hK16 K16
        refine Wp.condS (fun h43 => ?_) (fun h43 => ?_)
        · first | exact h43.elim | exact absurd h43 (by decide) | omega | simp at h43
        · refine Wp.skip ?_
          refine hK15 _ ?_
          clear hK15 K15
          refine Wp.seqK fun K17 hK17 => ?_
          refine rg ?_
          refine ⟨rfl, CallK.retA (h := iLoad_c s (by omega)) (ha := .same rfl .nil) (k := ?_) (hf := mR_flat _)⟩
          refine evd ?_
          refine hK17 _ ?_
          clear hK17 K17
          refine Wp.seqK fun K18 hK18 => ?_
          refine Wp.seqK fun K19 hK19 => ?_
          refine rg ?_
          refine ⟨rfl, CallK.valA (h := eqMachine_c (loadM s) (by omega) (by omega) (by omega)) (k := ?_) (ha := argM (m := loadM s) (argM (m := loadM s) ArgsL.nil rfl rfl rfl (by simp [lk]) (by simp [lk]) (by simp [lk])) rfl rfl rfl (by simp [lk]) (by simp [lk]) (by simp [lk]))⟩
          refine evd ?_
          refine hK19 _ ?_
          clear hK19 K19
          refine Wp.condS (fun h57 => ?_) (fun h57 => ?_)
          · first | exact h57.elim | exact absurd h57 (by decide) | omega | simp at h57
          · refine Wp.skip ?_
            refine hK18 _ ?_
            clear hK18 K18
            refine Wp.seqK fun K20 hK20 => ?_
            refine rg ?_
            refine hK20 _ ?_
            clear hK20 K20
            refine Wp.seqK fun K21 hK21 => ?_
            refine rg ?_
            refine ⟨rfl, CallK.valA (h := heldMachine_c (loadM s) 1 (by omega) (by omega) (by omega) (by omega) (by omega)) (ha := argK (m := loadM s) (k := 1) (a := 0) (b := 1) (c := 2) rfl rfl rfl (by simp [lk]) (by simp [lk]) (by simp [lk])) (k := ?_)⟩
            refine evd ?_
            refine hK21 _ ?_
            clear hK21 K21
            refine Wp.seqK fun K22 hK22 => ?_
            refine Wp.seqK fun K23 hK23 => ?_
            refine rg ?_
            refine hK23 _ ?_
            clear hK23 K23
            refine Wp.condS (fun h62 => ?_) (fun h62 => ?_)
            · omega
            · refine Wp.skip ?_
              refine hK22 _ ?_
              clear hK22 K22
              refine Wp.seqK fun K24 hK24 => ?_
              refine Wp.seqK fun K25 hK25 => ?_
              refine rg ?_
              refine hK25 _ ?_
              clear hK25 K25
              refine Wp.condS (fun h65 => ?_) (fun h65 => ?_)
              · first | exact h65.elim | exact absurd h65 (by decide) | omega | simp at h65
              · refine Wp.skip ?_
                refine hK24 _ ?_
                clear hK24 K24
                refine Wp.seqK fun K26 hK26 => ?_
                refine rg ?_
                refine hK26 _ ?_
                clear hK26 K26
                refine Wp.ret (retV ?_)
                try simp only [List.getD_cons_zero, List.getD_cons_succ]
                try rfl
end Go.Proofs.YtbhlegobhidgkaaDoor.RE
