/- Closing a term, the program. Conditions: those that a theorem names. -/
import Derived.Test.YtkdkbnacelnljaaGreatQD3
set_option linter.unusedVariables false
set_option linter.unusedSimpArgs false
namespace Go.Proofs.YtkdkbnacelnljaaGreat.RE
open Go Go.RowKit
set_option maxRecDepth 100000
set_option maxHeartbeats 8000000
def clR (t : List Nd) : Nat → List Nd → List Nd × Bool
  | 0, o => (o, true)
  | v + 1, o => if placeT t v (freeR t v) < 0 then clR t v o else if (quantT o true v (t.getD (placeT t v (freeR t v)).toNat default).w).2 = true then clR t v (quantT o true v (t.getD (placeT t v (freeR t v)).toNat default).w).1 else ([], false)
def lastW (t : List Nd) : Int := (t.getD ((t.length : Int) - 1).toNat default).w
def closeT (t : List Nd) : List Nd × Bool := if (!okT t || !decide (lastW t = 1)) = true then ([], false) else clR t 8 t
theorem placeT_lt {t : List Nd} {v : Int} {met : List Bool} (h : 0 ≤ placeT t v met) : (placeT t v met).toNat < t.length := by
  unfold placeT at h ⊢
  cases hf : (List.range t.length).find? (fun i => (met.getD i false && decide ((t.getD i default).op = 1)) && decide ((t.getD i default).k = v)) with
  | none => rw [hf] at h; simp at h
  | some i =>
    have := (List.find?_range_eq_some.1 hf).2.1
    simpa using this
theorem quantT_len {t : List Nd} {all : Bool} {v w : Int} : (quantT t all v w).1.length ≤ 80 := by
  unfold quantT
  split
  · exact addT_len _ _
  · exact Nat.zero_le _
theorem quantT_le {t : List Nd} {all : Bool} {v w : Int} (h : (quantT t all v w).2 = true) : t.length ≤ (quantT t all v w).1.length := by
  unfold quantT addT at h ⊢
  split
  · split
    · simp
    · rename_i h1 h2; simp [h1, h2] at h
  · rename_i h1; simp [h1] at h
theorem iCloseAll_c (t : List Nd) : Ret E.P 60 [dN t] (.tup [.l (.obj 0 0 6 0 (closeT t).1.length), TB (closeT t).2]) [some ⟨0, lN (closeT t).1⟩] := by
  refine CallsA.body (E := E) (fn := Tryz.f60) Tryz.func60 rfl fun B hB => ?_
  simp only [Tryz.ntmps60, go_sem, nl, Nat.reduceSub, Nat.reduceAdd, List.reduceReplicate]
  refine Wp.seqK fun K1 hK1 => ?_
  refine rg ?_
  refine hK1 _ ?_
  clear hK1 K1
  refine Wp.seqK fun K2 hK2 => ?_
  refine Wp.seqU0 [.k, .d5, .d5, .d5, .d5, .v (T (!okT t || !decide (lastW t = 1))), .d5, .d5, .d5, .d5, .d5, .d] (fun K3 hK3 => ?_) ?_
  · refine rg ?_
    refine ⟨rfl, CallK.valA (h := iTermOk_c _) (k := ?_)⟩
    refine evd ?_
    refine grdA_split rfl (fun g1_4 => ?_) (fun g1_4 => ?_)
    · try simp only [decide_eq_true_eq, decide_eq_false_iff_not] at g1_4
      refine evd ?_
      exact hK3 _ (anyS (h := by first | (simp only [g1_4, lastW, Bool.true_or, Bool.false_or] <;> rfl)))
    · try simp only [decide_eq_true_eq, decide_eq_false_iff_not] at g1_4
      have hok : okT t = true := by simpa using g1_4
      have hl := okT_len hok
      refine evd ?_
      exact hK3 _ (anyS (h := by first | (simp only [g1_4, lastW, Bool.true_or, Bool.false_or] <;> rfl)))
  rintro f3
  simp only [updT_k, updT_d, updT_d5, updT_v, updT_nil, Nat.reduceAdd]
  refine Wp.condS (fun h21 => ?_) (fun h21 => ?_)
  · have hc : closeT t = ([], false) := if_pos (by rcases h21 with h | h <;> simp [h])
    refine Wp.seqK fun K4 hK4 => ?_
    refine rg ?_
    refine hK4 _ ?_
    clear hK4 K4
    refine Wp.nilRow 2 6 rfl ?_
    simp only [List.set_cons_zero, List.set_cons_succ, List.cons_append, List.nil_append, List.length_cons, List.length_nil]
    refine Wp.ret (retRB ?_ ?_ ?_)
    all_goals rw [hc]
    all_goals rfl
  · have hok := h21.1
    have hl := okT_len hok
    have hc : closeT t = clR t 8 t := if_neg (by simp [h21])
    refine Wp.skip ?_
    refine hK2 _ ?_
    clear hK2 K2
    refine Wp.seqK fun K5 hK5 => ?_
    refine rg ?_
    refine hK5 _ ?_
    clear hK5 K5
    refine Wp.seqK fun K6 hK6 => ?_
    refine Wp.seqK fun K7 hK7 => ?_
    refine rg ?_
    refine hK7 _ ?_
    clear hK7 K7
    refine Wp.block ?_
    refine Wp.loopU (α := Nat × List Nd) (fun p => [.k, .d, .d, .d, .v (.l (.obj 0 0 6 0 p.2.length)), .v (I ((p.1 : Int) - 1)), .d5, .d5, .d5, .d5, .d5, .d5, .d5, .d5, .d, .d]) (fun p => [some ⟨0, lN p.2⟩]) (fun p => p.1 ≤ 8 ∧ 1 ≤ p.2.length ∧ p.2.length ≤ 80 ∧ clR t p.1 p.2 = clR t 8 t) (fun p => p.1) (8, t) (⟨Nat.le_refl _, hl.1, hl.2, rfl⟩) (anyS) ?_
    rintro ⟨y, o⟩ f8 K8 ⟨hy8, ho1, ho2, hr⟩ hK8
    simp only [updT_k, updT_d, updT_d5, updT_v, updT_nil, Nat.reduceAdd]
    simp only at hy8 ho1 ho2 hr
    refine Wp.seqK fun K9 hK9 => ?_
    refine Wp.seqK fun K10 hK10 => ?_
    refine rg ?_
    refine hK10 _ ?_
    clear hK10 K10
    refine Wp.condS (fun h25 => ?_) (fun h25 => ?_)
    · obtain ⟨x, rfl⟩ : ∃ x, y = x + 1 := ⟨y - 1, by omega⟩
      simp only [show ((x + 1 : Nat) : Int) - 1 = (x : Int) by omega]
      refine Wp.skip ?_
      refine hK9 _ ?_
      clear hK9 K9
      refine Wp.seqK fun K11 hK11 => ?_
      refine Wp.block ?_
      refine Wp.seqK fun K12 hK12 => ?_
      refine rg ?_
      refine ⟨rfl, CallK.valA (h := firstFree_c _ (by assumption) (by omega) _) (k := ?_)⟩
      refine evd ?_
      refine hK12 _ ?_
      clear hK12 K12
      refine Wp.seqK fun K13 hK13 => ?_
      refine Wp.seqK fun K14 hK14 => ?_
      refine rg ?_
      refine hK14 _ ?_
      clear hK14 K14
      refine Wp.condS (fun h32 => ?_) (fun h32 => ?_)
      · have hst : clR t (x + 1) o = clR t x o := by simp only [clR, h32, if_true]
        rw [hst] at hr
        refine Wp.exit ?_
        try simp only [thn, inB, if_true, reduceIte]
        clear hK13 K13
        refine hK11 _ ?_
        clear hK11 K11
        first | (refine Wp.keepQ 1 ?_ ?_ ?_; rw [hB]; rfl; exact of_decide_eq_true rfl; refine evd ?_) | (refine Wp.keepQ 0 ?_ ?_ ?_; rw [hB]; rfl; exact of_decide_eq_true rfl; refine evd ?_)
        refine rg ?_
        first | exact hK8 (x, o) _ ⟨by simp only; omega, ho1, ho2, hr⟩ (by simp only; omega) anyS | exact hK8 (x, (quantT o true (x : Nat) (t.getD (placeT t (x : Nat) (freeR t (x : Nat))).toNat default).w).1) _ ⟨by simp only; omega, by simp only; omega, hqm, hr⟩ (by simp only; omega) anyS
      · have hpl := placeT_lt (t := t) (v := (x : Nat)) (met := freeR t (x : Nat)) h32
        refine Wp.skip ?_
        refine hK13 _ ?_
        clear hK13 K13
        refine Wp.seqK fun K15 hK15 => ?_
        refine rg ?_
        refine ⟨rfl, CallK.retA (h := iQuantify_c _ _ _ _) (k := ?_)⟩
        refine evd ?_
        refine hK15 _ ?_
        clear hK15 K15
        refine Wp.seqK fun K16 hK16 => ?_
        refine Wp.seqK fun K17 hK17 => ?_
        refine rg ?_
        refine hK17 _ ?_
        clear hK17 K17
        refine Wp.condS (fun h45 => ?_) (fun h45 => ?_)
        · have hst : clR t (x + 1) o = ([], false) := by simp only [clR, show ¬ (placeT t (x : Nat) (freeR t (x : Nat))) < 0 by omega, if_false, h45, Bool.false_eq_true]
          rw [hst] at hr
          refine Wp.seqK fun K18 hK18 => ?_
          refine rg ?_
          refine hK18 _ ?_
          clear hK18 K18
          refine Wp.nilRow 2 6 rfl ?_
          simp only [List.set_cons_zero, List.set_cons_succ, List.cons_append, List.nil_append, List.length_cons, List.length_nil]
          refine Wp.ret (retRB ?_ ?_ ?_)
          all_goals rw [hc, ← hr]
          all_goals rfl
        · have hst : clR t (x + 1) o = clR t x (quantT o true (x : Nat) (t.getD (placeT t (x : Nat) (freeR t (x : Nat))).toNat default).w).1 := by simp only [clR, show ¬ (placeT t (x : Nat) (freeR t (x : Nat))) < 0 by omega, if_false, h45, if_true]
          rw [hst] at hr
          have hql := quantT_le h45
          have hqm := quantT_len (t := o) (all := true) (v := (x : Nat)) (w := (t.getD (placeT t (x : Nat) (freeR t (x : Nat))).toNat default).w)
          refine Wp.skip ?_
          refine hK16 _ ?_
          clear hK16 K16
          refine rg ?_
          try simp only [thn, inB, if_true, reduceIte]
          refine hK11 _ ?_
          clear hK11 K11
          first | (refine Wp.keepQ 1 ?_ ?_ ?_; rw [hB]; rfl; exact of_decide_eq_true rfl; refine evd ?_) | (refine Wp.keepQ 0 ?_ ?_ ?_; rw [hB]; rfl; exact of_decide_eq_true rfl; refine evd ?_)
          refine rg ?_
          first | exact hK8 (x, o) _ ⟨by simp only; omega, ho1, ho2, hr⟩ (by simp only; omega) anyS | exact hK8 (x, (quantT o true (x : Nat) (t.getD (placeT t (x : Nat) (freeR t (x : Nat))).toNat default).w).1) _ ⟨by simp only; omega, by simp only; omega, hqm, hr⟩ (by simp only; omega) anyS
    · have hy : y = 0 := by omega
      subst hy
      refine Wp.exit ?_
      try simp only [thn, inB, if_true, reduceIte]
      clear hK9 K9
      clear hK8 K8
      refine hK6 _ ?_
      clear hK6 K6
      refine Wp.seqK fun K19 hK19 => ?_
      refine rg ?_
      refine hK19 _ ?_
      clear hK19 K19
      refine Wp.ret (retRB (cs := lN o) ?_ ?_ ?_)
      all_goals rw [hc, ← hr]
      all_goals rfl
end Go.Proofs.YtkdkbnacelnljaaGreat.RE

/-! Free variables, the reference. Conditions: those that a theorem names. -/
set_option linter.unusedVariables false
set_option linter.unusedSimpArgs false
namespace Go.Proofs.YtkdkbnacelnljaaGreat.RE
open Go Go.RowKit
set_option maxRecDepth 100000
set_option maxHeartbeats 8000000

def rowF (t : List Nd) (i : Nat) : List Bool := (List.range 8).map fun (v : Nat) => fr t v i
theorem rowF_len (t : List Nd) (i : Nat) : (rowF t i).length = 8 := by simp [rowF]
def rowsF (t : List Nd) (x : Nat) : List LV := (List.range x).map fun i => LV.dsl false 8 (encB (rowF t i))
theorem rowsF_len (t : List Nd) (x : Nat) : (rowsF t x).length = x := by simp [rowsF]
theorem rowsF_push (t : List Nd) (x : Nat) : rowsF t x ++ [LV.dsl false 8 (encB (rowF t x))] = rowsF t (x + 1) := by simp [rowsF, List.range_succ]
theorem rowsF_flat (t : List Nd) (x : Nat) : (rowsF t x).all LV.flat = true := by simp [rowsF, LV.flat]
theorem rowsF_ren (m : Nat → Nat → Option (Nat × Nat)) (t : List Nd) (x : Nat) : (rowsF t x).map (LV.ren m) = rowsF t x := map_flat (rowsF_flat t x)
theorem rowsF_fz (o g : Nat) (ds : List DV) (t : List Nd) (x : Nat) : (rowsF t x).map (LV.fz o g ds) = rowsF t x := map_fz (rowsF_flat t x)
theorem rowsF_at {t : List Nd} {x i : Nat} (h : i < x) : (rowsF t x).getD i .dead = .dsl false 8 (encB (rowF t i)) := by
  simp [rowsF, List.getD_eq_getElem?_getD, h]
theorem rowF_at {t : List Nd} {i v : Nat} (h : v < 8) : ((encB (rowF t i)).drop v).getD 0 .nils = .sc (.bool (fr t v i)) := by
  rw [atDB (by rw [rowF_len]; exact h)]
  congr 2
  simp [rowF, List.getD_eq_getElem?_getD, h]
theorem rowF_enc (t : List Nd) (i : Nat) : (encB (rowF t i)).take 8 = encB (rowF t i) := List.take_of_length_le (by rw [encB_len, rowF_len]; omega)
theorem rowF_fixed (t : List Nd) (i : Nat) : (rowF t i).map cb = (encB (rowF t i)).map (LV.ofD false) := (lB_encB _ _).symm
attribute [go_sem] rowsF_push false_and and_false rowsF_ren rowsF_fz rowsF_at rowF_at rowF_enc rowsF_len rowF_len
def frK (t : List Nd) (v : Int) (i k : Nat) : Bool := decide ((t.getD i default).op = 1) && decide ((t.getD i default).k = v) || ((parts (t.getD i default)).take k).any fun p => fr t v p.toNat
theorem frK_push {t : List Nd} {v : Int} {i k : Nat} (h : k < (parts (t.getD i default)).length) : frK t v i (k + 1) = (frK t v i k || fr t v ((parts (t.getD i default)).getD k 0).toNat) := by
  unfold frK
  rw [take_push 0 h, List.any_append, ← Bool.or_assoc]
  simp
theorem frK_zero (t : List Nd) (v : Int) (i : Nat) : frK t v i 0 = (decide ((t.getD i default).op = 1) && decide ((t.getD i default).k = v)) := by simp [frK]
theorem fr_frK {t : List Nd} {v : Int} {i : Nat} (hp : PartsOk t) (hi : i < t.length) : fr t v i = (!(isQ (t.getD i default).op && decide ((t.getD i default).k = v)) && frK t v i (parts (t.getD i default)).length) := by
  rw [fr_eq hp hi, frK, List.take_length]
theorem fr_no {t : List Nd} {v : Int} {i : Nat} (hp : PartsOk t) (hi : i < t.length) (h : (isQ (t.getD i default).op && decide ((t.getD i default).k = v)) = true) : fr t v i = false := by
  rw [fr_frK hp hi, h]; rfl
theorem fr_yes {t : List Nd} {v : Int} {i : Nat} (hp : PartsOk t) (hi : i < t.length) (h : (isQ (t.getD i default).op && decide ((t.getD i default).k = v)) = false) : fr t v i = frK t v i (parts (t.getD i default)).length := by
  rw [fr_frK hp hi, h]; rfl
def preF (t : List Nd) (i v : Nat) : List Bool := (List.range v).map fun (v : Nat) => fr t v i
theorem preF_len (t : List Nd) (i v : Nat) : (preF t i v).length = v := by simp [preF]
theorem preF_push (t : List Nd) (i v : Nat) : preF t i v ++ [fr t v i] = preF t i (v + 1) := by simp [preF, List.range_succ]
theorem preF_end (t : List Nd) (i : Nat) : preF t i 8 = rowF t i := rfl
theorem l02Free_c (t : List Nd) (hok : okT t = true) (hl : 1 ≤ t.length ∧ t.length ≤ 80) : Ret E.P 101 [dN t] (.l (.dsl false 8 (encB (rowF t (t.length - 1))))) [] := by
  refine CallsA.body (E := E) (fn := Tryz.f101) Tryz.func101 rfl fun B hB => ?_
  simp only [Tryz.ntmps101, go_sem, nl, Nat.reduceSub, Nat.reduceAdd, List.reduceReplicate]
  have hpo := okT_parts hok
  refine Wp.seqK fun K1 hK1 => ?_
  refine rg ?_
  refine hK1 _ ?_
  clear hK1 K1
  refine Wp.seqK fun K2 hK2 => ?_
  refine rg ?_
  refine hK2 _ ?_
  clear hK2 K2
  refine Wp.seqK fun K3 hK3 => ?_
  refine Wp.seqK fun K4 hK4 => ?_
  refine rg ?_
  refine hK4 _ ?_
  clear hK4 K4
  refine Wp.block ?_
  refine Wp.loopU (α := Nat) (fun i => [.k, .d, .d, .v (.l (.obj 0 i 1 0 i)), .v (I i), .d5, .d5, .d5, .d5, .d5, .d5, .d5, .d5, .d5, .d5, .d5, .d5, .d5, .d5, .d5, .d5, .d5, .d5, .d, .d, .d]) (fun i => [some ⟨i, rowsF t i⟩]) (fun i => i ≤ t.length) (fun i => t.length - i) 0 (by omega) (anyS) ?_
  rintro i f5 K5 hi hK5
  simp only [updT_k, updT_d, updT_d5, updT_v, updT_nil, Nat.reduceAdd]
  have hfl := rowsF_len t i
  refine Wp.seqK fun K6 hK6 => ?_
  refine Wp.seqK fun K7 hK7 => ?_
  refine rg ?_
  refine hK7 _ ?_
  clear hK7 K7
  refine Wp.condS (fun h14 => ?_) (fun h14 => ?_)
  · have hi : i < t.length := by omega
    have hp := hpo i hi
    have hpl := parts_len (t.getD i default)
    refine Wp.skip ?_
    refine hK6 _ ?_
    clear hK6 K6
    refine Wp.seqK fun K8 hK8 => ?_
    refine Wp.block ?_
    refine Wp.seqK fun K9 hK9 => ?_
    refine rg ?_
    refine hK9 _ ?_
    clear hK9 K9
    refine Wp.seqK fun K10 hK10 => ?_
    refine Wp.seqK fun K11 hK11 => ?_
    refine rg ?_
    refine hK11 _ ?_
    clear hK11 K11
    refine Wp.block ?_
    refine Wp.loopU (α := Nat) (fun v => [.k, .d, .d, .k, .k, .v (.l (.obj 1 v 1 0 v)), .v (I v), .d5, .d5, .d5, .d5, .d5, .d5, .d5, .d5, .d5, .d5, .d5, .d5, .d5, .d5, .d5, .d5, .d5, .d5, .d]) (fun v => [some ⟨i, rowsF t i⟩, some ⟨v, (preF t i v).map cb⟩]) (fun v => v ≤ 8) (fun v => 8 - v) 0 (by omega) (anyS) ?_
    rintro v f12 K12 hv hK12
    simp only [updT_k, updT_d, updT_d5, updT_v, updT_nil, Nat.reduceAdd]
    have hvl := preF_len t i v
    refine Wp.seqK fun K13 hK13 => ?_
    refine Wp.seqK fun K14 hK14 => ?_
    refine rg ?_
    refine hK14 _ ?_
    clear hK14 K14
    refine Wp.condS (fun h19 => ?_) (fun h19 => ?_)
    · have hv8 : v < 8 := by omega
      refine Wp.skip ?_
      refine hK13 _ ?_
      clear hK13 K13
      refine Wp.seqK fun K15 hK15 => ?_
      refine Wp.block ?_
      refine Wp.seqU0 [.k, .d, .d, .k, .k, .k, .k, .v (T (decide ((t.getD i default).op = 1) && decide ((t.getD i default).k = (v : Int)))), .d5, .d5, .d5, .d5, .d5, .d5, .d5, .d5, .d5, .d5, .d5, .d5, .d5, .d5, .d5, .d5, .d5, .d5] (fun K16 hK16 => ?_) ?_
      · refine rg ?_
        refine grdA_split rfl (fun g9_7 => ?_) (fun g9_7 => ?_)
        · try simp only [decide_eq_true_eq, decide_eq_false_iff_not] at g9_7
          refine evd ?_
          exact hK16 _ (anyS (h := by first | rfl | (simp only [g9_7, Bool.true_or, Bool.or_true, Bool.false_or, Bool.or_false, Bool.true_and, Bool.and_true, Bool.false_and, Bool.and_false, Bool.not_true, Bool.not_false, decide_true, decide_false, eq_self, Int.reduceEq] <;> rfl)))
        · try simp only [decide_eq_true_eq, decide_eq_false_iff_not] at g9_7
          refine evd ?_
          exact hK16 _ (anyS (h := by first | rfl | (simp only [g9_7, Bool.true_or, Bool.or_true, Bool.false_or, Bool.or_false, Bool.true_and, Bool.and_true, Bool.false_and, Bool.and_false, Bool.not_true, Bool.not_false, decide_true, decide_false, eq_self, Int.reduceEq] <;> rfl)))
      rintro f16
      simp only [updT_k, updT_d, updT_d5, updT_v, updT_nil, Nat.reduceAdd]
      refine Wp.seqK fun K17 hK17 => ?_
      refine rg ?_
      refine ⟨rfl, CallK.rowA (h := sParts_c _) (k := ?_)⟩
      refine evd ?_
      refine hK17 _ ?_
      clear hK17 K17
      refine Wp.seqK fun K18 hK18 => ?_
      refine Wp.seqK fun K19 hK19 => ?_
      refine rg ?_
      refine hK19 _ ?_
      clear hK19 K19
      refine Wp.block ?_
      refine Wp.loopU (α := Nat) (fun k => [.k, .d, .d, .k, .k, .k, .k, .v (T (frK t v i k)), .k, .v (I k), .d5, .d5, .d5, .d5, .d5, .d5, .d5, .d5, .d5, .d5, .d5, .d5, .d5, .d5, .d5, .d5, .d5, .d, .d, .d]) (fun k => [some ⟨i, rowsF t i⟩, some ⟨v, (preF t i v).map cb⟩, some ⟨0, (parts (t.getD i default)).map ci⟩]) (fun k => k ≤ (parts (t.getD i default)).length) (fun k => (parts (t.getD i default)).length - k) 0 (by omega) (anyS (h := by rw [frK_zero]; rfl)) ?_
      rintro k f20 K20 hk hK20
      simp only [updT_k, updT_d, updT_d5, updT_v, updT_nil, Nat.reduceAdd]
      refine Wp.seqK fun K21 hK21 => ?_
      refine Wp.seqK fun K22 hK22 => ?_
      refine rg ?_
      refine hK22 _ ?_
      clear hK22 K22
      refine Wp.condS (fun h45 => ?_) (fun h45 => ?_)
      · have hkl : k < (parts (t.getD i default)).length := by omega
        have hpk := hp ((parts (t.getD i default)).getD k 0) (by rw [← getD_at hkl]; exact List.getElem_mem hkl)
        have hpn : ((parts (t.getD i default)).getD k 0).toNat < i := by omega
        refine Wp.skip ?_
        refine hK21 _ ?_
        clear hK21 K21
        refine Wp.seqU0 [.k, .d, .d, .k, .k, .k, .k, .v (T (frK t v i k || fr t v ((parts (t.getD i default)).getD k 0).toNat)), .k, .k, .d5, .d5, .d5, .d5, .d5, .d5, .d5, .d5, .d5, .d5, .d5, .d5, .d5, .d5, .d5, .d5, .d5, .d, .d, .d] (fun K23 hK23 => ?_) ?_
        · refine Wp.block ?_
          refine rg ?_
          refine grdA_split rfl (fun g14_2 => ?_) (fun g14_2 => ?_)
          · try simp only [decide_eq_true_eq, decide_eq_false_iff_not] at g14_2
            refine evd ?_
            try simp only [thn, inB, if_true, reduceIte]
            exact hK23 _ (anyS (h := by first | rfl | (simp only [g14_2, Bool.true_or, Bool.or_true, Bool.false_or, Bool.or_false, Bool.true_and, Bool.and_true, Bool.false_and, Bool.and_false, Bool.not_true, Bool.not_false, decide_true, decide_false, eq_self, Int.reduceEq] <;> rfl)))
          · try simp only [decide_eq_true_eq, decide_eq_false_iff_not] at g14_2
            refine evd ?_
            try simp only [thn, inB, if_true, reduceIte]
            exact hK23 _ (anyS (h := by first | rfl | (simp only [g14_2, Bool.true_or, Bool.or_true, Bool.false_or, Bool.or_false, Bool.true_and, Bool.and_true, Bool.false_and, Bool.and_false, Bool.not_true, Bool.not_false, decide_true, decide_false, eq_self, Int.reduceEq] <;> rfl)))
        rintro f23
        simp only [updT_k, updT_d, updT_d5, updT_v, updT_nil, Nat.reduceAdd]
        refine rg ?_
        exact hK20 (k + 1) _ (by omega) (by omega) (anyS (h := by rw [frK_push hkl]; rfl))
      · have hkl : k = (parts (t.getD i default)).length := by omega
        subst hkl
        refine Wp.exit ?_
        try simp only [thn, inB, if_true, reduceIte]
        clear hK21 K21
        clear hK20 K20
        refine hK18 _ ?_
        clear hK18 K18
        refine Wp.seqU0 [.k, .d, .d, .k, .k, .k, .k, .v (T (fr t (v : Int) i)), .d5, .d5, .d5, .d5, .d5, .d5, .d5, .d5, .d5, .d5, .d5, .d5, .d5, .d5, .d5, .d5, .d5, .d5] (fun K24 hK24 => ?_) ?_
        · refine Wp.seqU0 [.k, .d, .d, .k, .k, .k, .k, .k, .d5, .d5, .d5, .d5, .d5, .d5, .d5, .d5, .d5, .d5, .d5, .d5, .d5, .d5, .d5, .v (T (isQ (t.getD i default).op && decide ((t.getD i default).k = (v : Int)))), .d5, .d5, .d, .d, .d, .d] (fun K25 hK25 => ?_) ?_
          · refine rg ?_
            refine grdA_split rfl (fun g15_7 => ?_) (fun g15_7 => ?_)
            · try simp only [decide_eq_true_eq, decide_eq_false_iff_not] at g15_7
              refine evd ?_
              exact hK25 _ (anyS (h := by first | rfl | (simp only [g15_7, isQ, Bool.true_or, Bool.or_true, Bool.false_or, Bool.or_false, Bool.true_and, Bool.and_true, Bool.false_and, Bool.and_false, Bool.not_true, Bool.not_false, decide_true, decide_false, eq_self, Int.reduceEq] <;> rfl)))
            · try simp only [decide_eq_true_eq, decide_eq_false_iff_not] at g15_7
              refine evd ?_
              refine grdA_split rfl (fun g15_15 => ?_) (fun g15_15 => ?_)
              · try simp only [decide_eq_true_eq, decide_eq_false_iff_not] at g15_15
                refine evd ?_
                exact hK25 _ (anyS (h := by first | rfl | (simp only [g15_7, g15_15, isQ, Bool.true_or, Bool.or_true, Bool.false_or, Bool.or_false, Bool.true_and, Bool.and_true, Bool.false_and, Bool.and_false, Bool.not_true, Bool.not_false, decide_true, decide_false, eq_self, Int.reduceEq] <;> rfl)))
              · try simp only [decide_eq_true_eq, decide_eq_false_iff_not] at g15_15
                refine evd ?_
                exact hK25 _ (anyS (h := by first | rfl | (simp only [g15_7, g15_15, isQ, Bool.true_or, Bool.or_true, Bool.false_or, Bool.or_false, Bool.true_and, Bool.and_true, Bool.false_and, Bool.and_false, Bool.not_true, Bool.not_false, decide_true, decide_false, eq_self, Int.reduceEq] <;> rfl)))
          rintro f25
          simp only [updT_k, updT_d, updT_d5, updT_v, updT_nil, Nat.reduceAdd]
          refine Wp.condS (fun h83 => ?_) (fun h83 => ?_)
          · have hfr : fr t (v : Int) i = false := fr_no hpo hi (by simp only [isQ, Bool.and_eq_true, Bool.or_eq_true, decide_eq_true_eq]; simpa [isQ] using h83)
            refine rg ?_
            exact hK24 _ (anyS (h := by rw [hfr]; rfl))
          · have hfr : fr t (v : Int) i = frK t v i (parts (t.getD i default)).length := fr_yes hpo hi (by cases hq : (isQ (t.getD i default).op && decide ((t.getD i default).k = (v : Int))) with
              | false => rfl
              | true => exfalso; simp_all [isQ])
            refine Wp.skip ?_
            exact hK24 _ (anyS (h := by rw [hfr]; rfl))
        rintro f24
        simp only [updT_k, updT_d, updT_d5, updT_v, updT_nil, Nat.reduceAdd]
        refine rg ?_
        try simp only [thn, inB, if_true, reduceIte]
        refine hK15 _ ?_
        clear hK15 K15
        refine Wp.keep 2 (by simp [hB]) (by simp) ?_
        refine evd ?_
        refine rg ?_
        exact hK12 (v + 1) _ (by omega) (by omega) (anyS (ho := by rw [← preF_push]))
    · have hv8 : v = 8 := by omega
      subst hv8
      simp only [preF_end]
      refine Wp.exit ?_
      try simp only [thn, inB, if_true, reduceIte]
      clear hK13 K13
      clear hK12 K12
      refine hK10 _ ?_
      clear hK10 K10
      refine Wp.freeze 1 8 (encB (rowF t i)) rfl (rowF_fixed t i) ?_
      refine evd ?_
      refine rg ?_
      try simp only [thn, inB, if_true, reduceIte]
      refine hK8 _ ?_
      clear hK8 K8
      refine Wp.keep 1 (by simp [hB]) (by simp) ?_
      refine evd ?_
      refine rg ?_
      exact hK5 (i + 1) _ (by omega) (by omega) anyS
  · have hi : i = t.length := by omega
    subst hi
    refine Wp.exit ?_
    try simp only [thn, inB, if_true, reduceIte]
    clear hK6 K6
    clear hK5 K5
    refine hK3 _ ?_
    clear hK3 K3
    refine Wp.seqK fun K26 hK26 => ?_
    refine rg ?_
    refine hK26 _ ?_
    clear hK26 K26
    refine Wp.ret (retV ?_)
    simp only [List.getD_cons_zero, List.getD_cons_succ]
    rw [show ((t.length : Int) - 1).toNat = t.length - 1 by omega]
end Go.Proofs.YtkdkbnacelnljaaGreat.RE

/-! Free variables and widths, the reference. Conditions: those that a theorem names. -/
set_option linter.unusedVariables false
set_option linter.unusedSimpArgs false
namespace Go.Proofs.YtkdkbnacelnljaaGreat.RE
open Go Go.RowKit
set_option maxRecDepth 100000
set_option maxHeartbeats 8000000

def freeL (t : List Nd) : List Int := if okT t = true then varsL (rowF t (t.length - 1)) 8 else []
theorem sFree_c (t : List Nd) : Row E.P 69 [dN t] 1 (freeL t).length ((freeL t).map ci) := by
  refine CallsA.body (E := E) (fn := Tryz.f69) Tryz.func69 rfl fun B hB => ?_
  simp only [Tryz.ntmps69, go_sem, nl, Nat.reduceSub, Nat.reduceAdd, List.reduceReplicate]
  refine Wp.seqK fun K1 hK1 => ?_
  refine rg ?_
  refine hK1 _ ?_
  clear hK1 K1
  refine Wp.seqK fun K2 hK2 => ?_
  refine rg ?_
  refine hK2 _ ?_
  clear hK2 K2
  refine Wp.seqK fun K3 hK3 => ?_
  refine Wp.seqK fun K4 hK4 => ?_
  refine rg ?_
  refine ⟨rfl, CallK.valA (h := sTermOk_c _) (k := ?_)⟩
  refine evd ?_
  refine hK4 _ ?_
  clear hK4 K4
  refine Wp.condS (fun h9 => ?_) (fun h9 => ?_)
  · have hf0 : freeL t = [] := if_neg (by rw [h9]; decide)
    refine Wp.seqK fun K5 hK5 => ?_
    refine rg ?_
    refine hK5 _ ?_
    clear hK5 K5
    refine Wp.ret (retR ?_ ?_ ?_)
    · rw [hf0] <;> rfl
    · rw [hf0] <;> rfl
    · rfl
  · have hok := h9
    have hl := okT_len hok
    have hf0 : freeL t = varsL (rowF t (t.length - 1)) 8 := if_pos hok
    refine Wp.skip ?_
    refine hK3 _ ?_
    clear hK3 K3
    refine Wp.seqK fun K6 hK6 => ?_
    refine rg ?_
    refine ⟨rfl, CallK.retA (h := l02Free_c _ (by assumption) (by omega)) (k := ?_)⟩
    refine evd ?_
    refine hK6 _ ?_
    clear hK6 K6
    refine Wp.seqK fun K7 hK7 => ?_
    refine Wp.seqK fun K8 hK8 => ?_
    refine rg ?_
    refine hK8 _ ?_
    clear hK8 K8
    refine Wp.block ?_
    refine Wp.loopU (α := Nat) (fun x => [.d, .d, .d, .v (.l (.obj 0 (varsL (rowF t (t.length - 1)) x).length 1 0 (varsL (rowF t (t.length - 1)) x).length)), .k, .v (I x), .d5, .d5, .d5, .d5]) (fun x => [some ⟨(varsL (rowF t (t.length - 1)) x).length, (varsL (rowF t (t.length - 1)) x).map ci⟩]) (fun x => x ≤ 8) (fun x => 8 - x) 0 (by omega) (anyS) ?_
    rintro x f9 K9 hx hK9
    simp only [updT_k, updT_d, updT_d5, updT_v, updT_nil, Nat.reduceAdd]
    have hvl := varsL_len (rowF t (t.length - 1)) x
    refine Wp.seqK fun K10 hK10 => ?_
    refine Wp.seqK fun K11 hK11 => ?_
    refine rg ?_
    refine hK11 _ ?_
    clear hK11 K11
    refine Wp.condS (fun h14 => ?_) (fun h14 => ?_)
    · have hx8 : x < 8 := by omega
      refine Wp.skip ?_
      refine hK10 _ ?_
      clear hK10 K10
      refine Wp.seqK fun K12 hK12 => ?_
      refine Wp.block ?_
      refine Wp.seqK fun K13 hK13 => ?_
      refine rg ?_
      refine hK13 _ ?_
      clear hK13 K13
      refine Wp.condS (fun h20 => ?_) (fun h20 => ?_)
      · have hfr : (rowF t (t.length - 1)).getD x false = true := by rw [← h20]; simp [rowF, List.getD_eq_getElem?_getD, hx8]
        have hf := varsL_yes hfr
        refine rg ?_
        try simp only [thn, inB, if_true, reduceIte]
        refine hK12 _ ?_
        clear hK12 K12
        refine Wp.keep 1 (by simp [hB]) (by simp) ?_
        refine evd ?_
        refine rg ?_
        exact hK9 (x + 1) _ (by omega) (by omega) (anyS (h := by rw [hf] <;> first | rfl | (simp only [List.length_append, List.length_cons, List.length_nil, Nat.zero_add] <;> rfl)) (ho := by rw [hf] <;> first | rfl | (simp only [List.length_append, List.length_cons, List.length_nil, Nat.zero_add] <;> rfl)))
      · have hfr : (rowF t (t.length - 1)).getD x false = false := by rw [← h20]; simp [rowF, List.getD_eq_getElem?_getD, hx8]
        have hf := varsL_no hfr
        refine Wp.skip ?_
        try simp only [thn, inB, if_true, reduceIte]
        refine hK12 _ ?_
        clear hK12 K12
        refine Wp.keep 1 (by simp [hB]) (by simp) ?_
        refine evd ?_
        refine rg ?_
        exact hK9 (x + 1) _ (by omega) (by omega) (anyS (h := by rw [hf] <;> first | rfl | (simp only [List.length_append, List.length_cons, List.length_nil, Nat.zero_add] <;> rfl)) (ho := by rw [hf] <;> first | rfl | (simp only [List.length_append, List.length_cons, List.length_nil, Nat.zero_add] <;> rfl)))
    · have hx8 : x = 8 := by omega
      subst hx8
      refine Wp.exit ?_
      try simp only [thn, inB, if_true, reduceIte]
      clear hK10 K10
      clear hK9 K9
      refine hK7 _ ?_
      clear hK7 K7
      refine Wp.seqK fun K14 hK14 => ?_
      refine rg ?_
      refine hK14 _ ?_
      clear hK14 K14
      refine Wp.ret (retR (cs := (freeL t).map ci) ?_ rfl (flatI _) (ho := ?_))
      · rw [hf0]
      · rw [hf0]; rfl
theorem reach_finP {t : List Nd} {pf : Nat → Bool} {i k : Nat} {b : List Bool} (hi : i < b.length) (hp : ∀ p ∈ parts (t.getD i default), 0 ≤ p ∧ p < (i : Int)) (hk : k ≤ (parts (t.getD i default)).length) (hb : k = 0 ∨ (b.getD i false && pf i) = true) (h : ((decide ((k : Int) < ((parts (t.getD i default)).length : Nat)) && (mark b ((parts (t.getD i default)).take k)).getD i false) && pf i) = false) : mark b ((parts (t.getD i default)).take k) = stepR t pf i b := by
  rw [mark_i hi (fun p h => hp p (List.mem_of_mem_take h)), Bool.and_assoc] at h
  unfold stepR
  cases hh : (b.getD i false && pf i) with
  | false =>
    rw [hh] at hb
    have : k = 0 := by simpa using hb
    subst this
    simp [mark]
  | true =>
    rw [hh, Bool.and_true] at h
    have : k = (parts (t.getD i default)).length := by simp only [decide_eq_false_iff_not] at h; omega
    rw [this, List.take_length, if_pos rfl]
def widthT (t : List Nd) (v : Int) : Int := if placeT t v (freeR t v) < 0 then 1 else (t.getD (placeT t v (freeR t v)).toNat default).w
theorem place_yes {t : List Nd} {v : Int} {met : List Bool} {x : Nat} (hx : x < t.length) (h : ((met.getD x false && decide ((t.getD x default).op = 1)) && decide ((t.getD x default).k = v)) = true) (hb : ∀ i, i < x → ((met.getD i false && decide ((t.getD i default).op = 1)) && decide ((t.getD i default).k = v)) = false) : placeT t v met = x := by
  unfold placeT
  rw [find_yes (f := fun i => (met.getD i false && decide ((t.getD i default).op = 1)) && decide ((t.getD i default).k = v)) hx h hb]
theorem place_no {t : List Nd} {v : Int} {met : List Bool} (hb : ∀ i, i < t.length → ((met.getD i false && decide ((t.getD i default).op = 1)) && decide ((t.getD i default).k = v)) = false) : placeT t v met = -1 := by
  unfold placeT
  rw [find_no hb]
def rootP (n x : Nat) : List Bool := (List.range x).map fun (i : Nat) => decide ((i : Int) = n - 1)
theorem rootP_push (n x : Nat) : rootP n x ++ [decide ((x : Int) = n - 1)] = rootP n (x + 1) := by simp [rootP, List.range_succ]
theorem rootP_len (n x : Nat) : (rootP n x).length = x := by simp [rootP]
theorem rootP_end (n : Nat) : rootP n n = rootR n := root_eq n
theorem passV_eq {t : List Nd} {v : Int} {i : Nat} : (!(isQ (t.getD i default).op && decide ((t.getD i default).k = v))) = passV t v i := by
  unfold passV; rw [Bool.not_and]
attribute [go_sem] rootP_push
theorem l15Width_c (t : List Nd) (hok : okT t = true) (hl : 1 ≤ t.length ∧ t.length ≤ 80) (v : Int) : Val E.P 93 [dN t, I v] (I (widthT t v)) := by
  refine CallsA.body (E := E) (fn := Tryz.f93) Tryz.func93 rfl fun B hB => ?_
  simp only [Tryz.ntmps93, go_sem, nl, Nat.reduceSub, Nat.reduceAdd, List.reduceReplicate]
  refine Wp.seqK fun K1 hK1 => ?_
  refine rg ?_
  refine hK1 _ ?_
  clear hK1 K1
  refine Wp.seqK fun K2 hK2 => ?_
  refine rg ?_
  refine hK2 _ ?_
  clear hK2 K2
  refine Wp.seqK fun K3 hK3 => ?_
  refine Wp.seqK fun K4 hK4 => ?_
  refine rg ?_
  refine hK4 _ ?_
  clear hK4 K4
  refine Wp.block ?_
  refine Wp.loopU (α := Nat) (fun x => [.k, .k, .d, .d, .d, .v (.l (.obj 0 x 1 0 x)), .v (I x), .d5, .d5, .d5, .d5, .d5, .d5, .d5, .d5, .d5, .d5, .d5, .d5, .d5, .d5, .d5, .d5, .d5, .d5, .d5, .d, .d, .d, .d]) (fun x => [some ⟨x, (rootP t.length x).map cb⟩]) (fun x => x ≤ t.length) (fun x => t.length - x) 0 (by omega) (anyS) ?_
  rintro x f5 K5 hx hK5
  simp only [updT_k, updT_d, updT_d5, updT_v, updT_nil, Nat.reduceAdd]
  have hpl := rootP_len t.length x
  refine Wp.seqK fun K6 hK6 => ?_
  refine Wp.seqK fun K7 hK7 => ?_
  refine rg ?_
  refine hK7 _ ?_
  clear hK7 K7
  refine Wp.condS (fun h15 => ?_) (fun h15 => ?_)
  · have hxl : x < t.length := by omega
    refine Wp.skip ?_
    refine hK6 _ ?_
    clear hK6 K6
    refine Wp.seqK fun K8 hK8 => ?_
    refine Wp.block ?_
    refine rg ?_
    try simp only [thn, inB, if_true, reduceIte]
    refine hK8 _ ?_
    clear hK8 K8
    refine Wp.keep 1 (by simp [hB]) (by simp) ?_
    refine evd ?_
    refine rg ?_
    exact hK5 (x + 1) _ (by omega) (by omega) anyS
  · have hxl : x = t.length := by omega
    subst hxl
    simp only [rootP_end]
    refine Wp.exit ?_
    try simp only [thn, inB, if_true, reduceIte]
    clear hK6 K6
    clear hK5 K5
    refine hK3 _ ?_
    clear hK3 K3
    refine Wp.seqK fun K9 hK9 => ?_
    refine Wp.seqK fun K10 hK10 => ?_
    refine rg ?_
    refine hK10 _ ?_
    clear hK10 K10
    refine Wp.block ?_
    refine Wp.loopU (α := Nat) (fun x => [.k, .k, .d, .d, .d, .k, .d, .v (I ((x : Int) - 1)), .d5, .d5, .d5, .d5, .d5, .d5, .d5, .d5, .d5, .d5, .d5, .d5, .d5, .d5, .d5, .d5, .d5, .d5, .d5, .d, .d, .d]) (fun x => [some ⟨t.length, (bR t (passV t v) x).map cb⟩]) (fun x => x ≤ t.length) (fun x => x) t.length (Nat.le_refl _) (anyS (ho := by rw [bR_top])) ?_
    rintro x f11 K11 hx hK11
    simp only [updT_k, updT_d, updT_d5, updT_v, updT_nil, Nat.reduceAdd]
    refine Wp.seqK fun K12 hK12 => ?_
    refine Wp.seqK fun K13 hK13 => ?_
    refine rg ?_
    refine hK13 _ ?_
    clear hK13 K13
    refine Wp.condS (fun h30 => ?_) (fun h30 => ?_)
    · obtain ⟨i, rfl⟩ : ∃ i, x = i + 1 := ⟨x - 1, by omega⟩
      simp only [show ((i + 1 : Nat) : Int) - 1 = (i : Int) by omega]
      have hi : i < t.length := by omega
      have hp := okT_part hok hi
      have hpl := parts_len (t.getD i default)
      have hbl := bR_len t (passV t v) (i + 1) hx
      refine Wp.skip ?_
      refine hK12 _ ?_
      clear hK12 K12
      refine Wp.seqK fun K14 hK14 => ?_
      refine Wp.block ?_
      refine Wp.seqK fun K15 hK15 => ?_
      refine rg ?_
      refine ⟨rfl, CallK.rowA (h := sParts_c _) (k := ?_)⟩
      refine evd ?_
      refine hK15 _ ?_
      clear hK15 K15
      refine Wp.seqK fun K16 hK16 => ?_
      refine rg ?_
      refine hK16 _ ?_
      clear hK16 K16
      refine Wp.block ?_
      refine Wp.loopU (α := Nat) (fun k => [.k, .k, .d, .d, .d, .k, .d, .k, .k, .v (I k), .d5, .d5, .d5, .d5, .d5, .d5, .d5, .d5, .d5, .d5, .d5, .d5, .d5, .d5, .d5, .d5, .d5, .d5, .d5, .d]) (fun k => [some ⟨t.length, (mark (bR t (passV t v) (i + 1)) ((parts (t.getD i default)).take k)).map cb⟩, some ⟨0, (parts (t.getD i default)).map ci⟩]) (fun k => k ≤ (parts (t.getD i default)).length ∧ (k = 0 ∨ ((bR t (passV t v) (i + 1)).getD i false && passV t v i) = true)) (fun k => (parts (t.getD i default)).length - k) 0 (⟨Nat.zero_le _, .inl rfl⟩) (anyS) ?_
      rintro k f17 K17 ⟨hk, hkb⟩ hK17
      simp only [updT_k, updT_d, updT_d5, updT_v, updT_nil, Nat.reduceAdd]
      have hml := mark_len ((parts (t.getD i default)).take k) (bR t (passV t v) (i + 1))
      refine Wp.seqK fun K18 hK18 => ?_
      refine Wp.seqU0 [.k, .k, .d, .d, .d, .k, .d, .k, .k, .k, .d5, .d5, .d5, .d5, .d5, .d5, .d5, .d5, .d5, .d5, .d5, .v (T ((decide ((k : Int) < ((parts (t.getD i default)).length : Nat)) && (mark (bR t (passV t v) (i + 1)) ((parts (t.getD i default)).take k)).getD i false) && passV t v i)), .d5, .d5, .d5, .d5, .d5, .d5, .d5, .d5] (fun K19 hK19 => ?_) ?_
      · refine rg ?_
        refine grdA_split rfl (fun g11_5 => ?_) (fun g11_5 => ?_)
        · try simp only [decide_eq_true_eq, decide_eq_false_iff_not] at g11_5
          refine evd ?_
          refine grdA_split rfl (fun g11_11 => ?_) (fun g11_11 => ?_)
          · try simp only [decide_eq_true_eq, decide_eq_false_iff_not] at g11_11
            refine evd ?_
            refine ⟨rfl, CallK.valA (h := l02Quant_c _) (k := ?_)⟩
            refine evd ?_
            refine grdA_split rfl (fun g11_18 => ?_) (fun g11_18 => ?_)
            · try simp only [decide_eq_true_eq, decide_eq_false_iff_not] at g11_18
              refine evd ?_
              exact hK19 _ (anyS (h := by first | (simp only [← passV_eq, g11_5, g11_11, g11_18, Bool.true_and, Bool.and_true, Bool.false_and, Bool.and_false, Bool.not_true, Bool.not_false, decide_true, decide_false] <;> rfl)) (ho := by first | rfl | (rw [List.take_of_length_le (by omega)])))
            · try simp only [decide_eq_true_eq, decide_eq_false_iff_not] at g11_18
              refine evd ?_
              exact hK19 _ (anyS (h := by first | (simp only [← passV_eq, g11_5, g11_11, g11_18, Bool.true_and, Bool.and_true, Bool.false_and, Bool.and_false, Bool.not_true, Bool.not_false, decide_true, decide_false] <;> rfl)) (ho := by first | rfl | (rw [List.take_of_length_le (by omega)])))
          · try simp only [decide_eq_true_eq, decide_eq_false_iff_not] at g11_11
            refine evd ?_
            exact hK19 _ (anyS (h := by first | (simp only [← passV_eq, g11_5, g11_11, Bool.true_and, Bool.and_true, Bool.false_and, Bool.and_false, Bool.not_true, Bool.not_false, decide_true, decide_false] <;> rfl)) (ho := by first | rfl | (rw [List.take_of_length_le (by omega)])))
        · try simp only [decide_eq_true_eq, decide_eq_false_iff_not] at g11_5
          refine evd ?_
          exact hK19 _ (anyS (h := by first | (simp only [← passV_eq, g11_5, Bool.true_and, Bool.and_true, Bool.false_and, Bool.and_false, Bool.not_true, Bool.not_false, decide_true, decide_false] <;> rfl)) (ho := by first | rfl | (rw [List.take_of_length_le (by omega)])))
      rintro f19
      simp only [updT_k, updT_d, updT_d5, updT_v, updT_nil, Nat.reduceAdd]
      refine Wp.condS (fun h65 => ?_) (fun h65 => ?_)
      · have hkl : k < (parts (t.getD i default)).length := by have := h65.1.1; omega
        have hbi : ((bR t (passV t v) (i + 1)).getD i false && passV t v i) = true := by
          rw [h65.2, Bool.and_true, ← mark_i (by omega) (fun p h => hp p (List.mem_of_mem_take h))]; exact h65.1.2
        have hpk := hp ((parts (t.getD i default)).getD k 0) (by rw [← getD_at hkl]; exact List.getElem_mem hkl)
        refine Wp.skip ?_
        refine hK18 _ ?_
        clear hK18 K18
        refine Wp.seqK fun K20 hK20 => ?_
        refine Wp.block ?_
        refine rg ?_
        try simp only [thn, inB, if_true, reduceIte]
        refine hK20 _ ?_
        clear hK20 K20
        refine rg ?_
        exact hK17 (k + 1) _ ⟨by omega, .inr hbi⟩ (by omega) (anyS (ho := by rw [take_push 0 hkl, mark_push] <;> rfl))
      · have hst : bR t (passV t v) i = (mark (bR t (passV t v) (i + 1)) ((parts (t.getD i default)).take k)) := by rw [bR_step hi]; exact (reach_finP (by omega) hp hk hkb h65).symm
        refine Wp.exit ?_
        try simp only [thn, inB, if_true, reduceIte]
        clear hK18 K18
        clear hK17 K17
        try simp only [thn, inB, if_true, reduceIte]
        refine hK14 _ ?_
        clear hK14 K14
        try simp only [← hst]
        refine Wp.keep 1 (by simp [hB]) (by simp) ?_
        refine evd ?_
        refine rg ?_
        exact hK11 i _ (by omega) (by omega) anyS
    · have hx0 : x = 0 := by omega
      subst hx0
      simp only [bR_reach]
      simp only [show reachP t (passV t v) = freeR t v from rfl]
      refine Wp.exit ?_
      try simp only [thn, inB, if_true, reduceIte]
      clear hK12 K12
      clear hK11 K11
      refine hK9 _ ?_
      clear hK9 K9
      refine Wp.seqK fun K21 hK21 => ?_
      refine Wp.seqK fun K22 hK22 => ?_
      refine rg ?_
      refine hK22 _ ?_
      clear hK22 K22
      refine Wp.block ?_
      have hrl : (freeR t v).length = t.length := reachP_len _ _
      refine Wp.loopU0 (α := Nat) (fun x => [.k, .k, .d, .d, .d, .k, .d, .d, .d, .d, .v (I x), .d5, .d5, .d5, .d5, .d5, .d5, .d5, .d5, .d5, .d5, .d5, .d5, .d5, .d5, .d5, .d5, .d5, .d5, .d5]) (fun x => x ≤ t.length ∧ ∀ i, i < x → (((freeR t v).getD i false && decide ((t.getD i default).op = 1)) && decide ((t.getD i default).k = v)) = false) (fun x => t.length - x) 0 (⟨Nat.zero_le _, fun j hj => absurd hj (by omega)⟩) anyS ?_
      rintro x f23 K23 ⟨hx, hb⟩ hK23
      simp only [updT_k, updT_d, updT_d5, updT_v, updT_nil, Nat.reduceAdd]
      refine Wp.seqK fun K24 hK24 => ?_
      refine Wp.seqK fun K25 hK25 => ?_
      refine rg ?_
      refine hK25 _ ?_
      clear hK25 K25
      refine Wp.condS (fun h77 => ?_) (fun h77 => ?_)
      · have hxl : x < t.length := by omega
        refine Wp.skip ?_
        refine hK24 _ ?_
        clear hK24 K24
        refine Wp.seqK fun K26 hK26 => ?_
        refine Wp.block ?_
        refine Wp.seqU0 [.k, .k, .d, .d, .d, .k, .d, .d, .d, .d, .k, .d5, .d5, .d5, .d5, .d5, .d5, .d5, .d5, .d5, .d5, .d5, .d5, .d5, .d5, .d5, .d5, .d5, .d, .d, .d, .d, .v (T (((freeR t v).getD x false && decide ((t.getD x default).op = 1)) && decide ((t.getD x default).k = v))), .d5] (fun K27 hK27 => ?_) ?_
        · refine rg ?_
          refine grdA_split rfl (fun g17_5 => ?_) (fun g17_5 => ?_)
          · try simp only [decide_eq_true_eq, decide_eq_false_iff_not] at g17_5
            refine evd ?_
            refine grdA_split rfl (fun g17_13 => ?_) (fun g17_13 => ?_)
            · try simp only [decide_eq_true_eq, decide_eq_false_iff_not] at g17_13
              refine evd ?_
              exact hK27 _ (anyS (h := by first | rfl | (simp only [g17_5, g17_13, Bool.true_or, Bool.or_true, Bool.false_or, Bool.or_false, Bool.true_and, Bool.and_true, Bool.false_and, Bool.and_false, Bool.not_true, Bool.not_false, decide_true, decide_false, eq_self, Int.reduceEq] <;> rfl)))
            · try simp only [decide_eq_true_eq, decide_eq_false_iff_not] at g17_13
              refine evd ?_
              exact hK27 _ (anyS (h := by first | rfl | (simp only [g17_5, g17_13, Bool.true_or, Bool.or_true, Bool.false_or, Bool.or_false, Bool.true_and, Bool.and_true, Bool.false_and, Bool.and_false, Bool.not_true, Bool.not_false, decide_true, decide_false, eq_self, Int.reduceEq] <;> rfl)))
          · try simp only [decide_eq_true_eq, decide_eq_false_iff_not] at g17_5
            refine evd ?_
            exact hK27 _ (anyS (h := by first | rfl | (simp only [g17_5, Bool.true_or, Bool.or_true, Bool.false_or, Bool.or_false, Bool.true_and, Bool.and_true, Bool.false_and, Bool.and_false, Bool.not_true, Bool.not_false, decide_true, decide_false, eq_self, Int.reduceEq] <;> rfl)))
        rintro f27
        simp only [updT_k, updT_d, updT_d5, updT_v, updT_nil, Nat.reduceAdd]
        refine Wp.condS (fun h100 => ?_) (fun h100 => ?_)
        · have hf : (((freeR t v).getD x false && decide ((t.getD x default).op = 1)) && decide ((t.getD x default).k = v)) = true := by simp only [h100.1.1, h100.1.2, h100.2, decide_true, Bool.and_self]
          have hpy := place_yes hxl hf hb
          refine Wp.seqK fun K28 hK28 => ?_
          refine rg ?_
          refine hK28 _ ?_
          clear hK28 K28
          refine Wp.ret (retV ?_)
          simp only [List.getD_cons_zero, List.getD_cons_succ]
          unfold widthT
          rw [hpy, if_neg (by omega)]
          rfl
        · have hf : (((freeR t v).getD x false && decide ((t.getD x default).op = 1)) && decide ((t.getD x default).k = v)) = false := h100
          refine Wp.skip ?_
          try simp only [thn, inB, if_true, reduceIte]
          refine hK26 _ ?_
          clear hK26 K26
          refine rg ?_
          exact hK23 (x + 1) _ ⟨by omega, fun j hj => by
            by_cases h : j < x
            · exact hb j h
            · have : j = x := by omega
              subst this; exact hf⟩ (by omega) anyS
      · have hxl : x = t.length := by omega
        subst hxl
        refine Wp.exit ?_
        try simp only [thn, inB, if_true, reduceIte]
        clear hK24 K24
        clear hK23 K23
        refine hK21 _ ?_
        clear hK21 K21
        refine Wp.seqK fun K29 hK29 => ?_
        refine rg ?_
        refine hK29 _ ?_
        clear hK29 K29
        refine Wp.ret (retV ?_)
        simp only [List.getD_cons_zero, List.getD_cons_succ]
        unfold widthT
        rw [place_no hb]
        rfl
end Go.Proofs.YtkdkbnacelnljaaGreat.RE
