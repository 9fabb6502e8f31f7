/- Closing a term, the program. Conditions: those that a theorem names. -/
import Derived.Test.YtkdkbnacelnljaaGreatND3
set_option linter.unusedVariables false
set_option linter.unusedSimpArgs false
namespace Go.Proofs.YtkdkbnacelnljaaGreat.RE
open Go Go.RowKit
set_option maxRecDepth 100000
set_option maxHeartbeats 8000000
theorem placeT_lt {t : List Nd} {v : Int} {met : List Bool} (h : 0 ≤ placeT t v met) : (placeT t v met).toNat < t.length := by
  unfold placeT at h ⊢
  cases hf : (List.range t.length).find? (fun i => (met.getD i false && decide ((t.getD i default).op = 1)) && decide ((t.getD i default).k = v)) with
  | none => rw [hf] at h; simp at h
  | some i =>
    have := (List.find?_range_eq_some.1 hf).2.1
    simpa using this
end Go.Proofs.YtkdkbnacelnljaaGreat.RE

/-! Free variables, the reference. Conditions: those that a theorem names. -/
set_option linter.unusedVariables false
set_option linter.unusedSimpArgs false
namespace Go.Proofs.YtkdkbnacelnljaaGreat.RE
open Go Go.RowKit
set_option maxRecDepth 100000
set_option maxHeartbeats 8000000

def rowF (t : List Nd) (i : Nat) : List Bool := (List.range 8).map fun (v : Nat) => fr t v i
theorem rowF_len (t : List Nd) (i : Nat) : (rowF t i).length = 8 := by simp [rowF]
def rowsF (t : List Nd) (x : Nat) : List LV := (List.range x).map fun i => LV.dsl false 8 (encB (rowF t i))
theorem rowsF_len (t : List Nd) (x : Nat) : (rowsF t x).length = x := by simp [rowsF]
theorem rowsF_push (t : List Nd) (x : Nat) : rowsF t x ++ [LV.dsl false 8 (encB (rowF t x))] = rowsF t (x + 1) := by simp [rowsF, List.range_succ]
theorem rowsF_flat (t : List Nd) (x : Nat) : (rowsF t x).all LV.flat = true := by simp [rowsF, LV.flat]
theorem rowsF_ren (m : Nat → Nat → Option (Nat × Nat)) (t : List Nd) (x : Nat) : (rowsF t x).map (LV.ren m) = rowsF t x := map_flat (rowsF_flat t x)
theorem rowsF_fz (o g : Nat) (ds : List DV) (t : List Nd) (x : Nat) : (rowsF t x).map (LV.fz o g ds) = rowsF t x := map_fz (rowsF_flat t x)
theorem rowsF_at {t : List Nd} {x i : Nat} (h : i < x) : (rowsF t x).getD i .dead = .dsl false 8 (encB (rowF t i)) := by
  simp [rowsF, List.getD_eq_getElem?_getD, h]
theorem rowF_at {t : List Nd} {i v : Nat} (h : v < 8) : ((encB (rowF t i)).drop v).getD 0 .nils = .sc (.bool (fr t v i)) := by
  rw [atDB (by rw [rowF_len]; exact h)]
  congr 2
  simp [rowF, List.getD_eq_getElem?_getD, h]
theorem rowF_enc (t : List Nd) (i : Nat) : (encB (rowF t i)).take 8 = encB (rowF t i) := List.take_of_length_le (by rw [encB_len, rowF_len]; omega)
theorem rowF_fixed (t : List Nd) (i : Nat) : (rowF t i).map cb = (encB (rowF t i)).map (LV.ofD false) := (lB_encB _ _).symm
attribute [go_sem] rowsF_push false_and and_false rowsF_ren rowsF_fz rowsF_at rowF_at rowF_enc rowsF_len rowF_len
def frK (t : List Nd) (v : Int) (i k : Nat) : Bool := decide ((t.getD i default).op = 1) && decide ((t.getD i default).k = v) || ((parts (t.getD i default)).take k).any fun p => fr t v p.toNat
theorem frK_push {t : List Nd} {v : Int} {i k : Nat} (h : k < (parts (t.getD i default)).length) : frK t v i (k + 1) = (frK t v i k || fr t v ((parts (t.getD i default)).getD k 0).toNat) := by
  unfold frK
  rw [take_push 0 h, List.any_append, ← Bool.or_assoc]
  simp
theorem frK_zero (t : List Nd) (v : Int) (i : Nat) : frK t v i 0 = (decide ((t.getD i default).op = 1) && decide ((t.getD i default).k = v)) := by simp [frK]
theorem fr_frK {t : List Nd} {v : Int} {i : Nat} (hp : PartsOk t) (hi : i < t.length) : fr t v i = (!(isQ (t.getD i default).op && decide ((t.getD i default).k = v)) && frK t v i (parts (t.getD i default)).length) := by
  rw [fr_eq hp hi, frK, List.take_length]
theorem fr_no {t : List Nd} {v : Int} {i : Nat} (hp : PartsOk t) (hi : i < t.length) (h : (isQ (t.getD i default).op && decide ((t.getD i default).k = v)) = true) : fr t v i = false := by
  rw [fr_frK hp hi, h]; rfl
theorem fr_yes {t : List Nd} {v : Int} {i : Nat} (hp : PartsOk t) (hi : i < t.length) (h : (isQ (t.getD i default).op && decide ((t.getD i default).k = v)) = false) : fr t v i = frK t v i (parts (t.getD i default)).length := by
  rw [fr_frK hp hi, h]; rfl
def preF (t : List Nd) (i v : Nat) : List Bool := (List.range v).map fun (v : Nat) => fr t v i
theorem preF_len (t : List Nd) (i v : Nat) : (preF t i v).length = v := by simp [preF]
theorem preF_push (t : List Nd) (i v : Nat) : preF t i v ++ [fr t v i] = preF t i (v + 1) := by simp [preF, List.range_succ]
theorem preF_end (t : List Nd) (i : Nat) : preF t i 8 = rowF t i := rfl
theorem l02Free_c (t : List Nd) (hok : okT t = true) (hl : 1 ≤ t.length ∧ t.length ≤ 80) : Ret E.P 101 [dN t] (.l (.dsl false 8 (encB (rowF t (t.length - 1))))) [] := by
  refine CallsA.body (E := E) (fn := Tryz.f101) Tryz.func101 rfl fun B hB => ?_
  simp only [Tryz.ntmps101, go_sem, nl, Nat.reduceSub, Nat.reduceAdd, List.reduceReplicate]
  have hpo := okT_parts hok
  refine Wp.seqK fun K1 hK1 => ?_
  refine rg ?_
  refine hK1 _ ?_
  clear hK1 K1
  refine Wp.seqK fun K2 hK2 => ?_
  refine rg ?_
  refine hK2 _ ?_
  clear hK2 K2
  refine Wp.seqK fun K3 hK3 => ?_
  refine Wp.seqK fun K4 hK4 => ?_
  refine rg ?_
  refine hK4 _ ?_
  clear hK4 K4
  refine Wp.block ?_
  refine Wp.loopU (α := Nat) (fun i => [.k, .d, .d, .v (.l (.obj 0 i 1 0 i)), .v (I i), .d5, .d5, .d5, .d5, .d5, .d5, .d5, .d5, .d5, .d5, .d5, .d5, .d5, .d5, .d5, .d5, .d5, .d5, .d, .d, .d]) (fun i => [some ⟨i, rowsF t i⟩]) (fun i => i ≤ t.length) (fun i => t.length - i) 0 (by omega) (anyS) ?_
  rintro i f5 K5 hi hK5
  simp only [updT_k, updT_d, updT_d5, updT_v, updT_nil, Nat.reduceAdd]
  have hfl := rowsF_len t i
  refine Wp.seqK fun K6 hK6 => ?_
  refine Wp.seqK fun K7 hK7 => ?_
  refine rg ?_
  refine hK7 _ ?_
  clear hK7 K7
  refine Wp.condS (fun h14 => ?_) (fun h14 => ?_)
  · have hi : i < t.length := by omega
    have hp := hpo i hi
    have hpl := parts_len (t.getD i default)
    refine Wp.skip ?_
    refine hK6 _ ?_
    clear hK6 K6
    refine Wp.seqK fun K8 hK8 => ?_
    refine Wp.block ?_
    refine Wp.seqK fun K9 hK9 => ?_
    refine rg ?_
    refine hK9 _ ?_
    clear hK9 K9
    refine Wp.seqK fun K10 hK10 => ?_
    refine Wp.seqK fun K11 hK11 => ?_
    refine rg ?_
    refine hK11 _ ?_
    clear hK11 K11
    refine Wp.block ?_
    refine Wp.loopU (α := Nat) (fun v => [.k, .d, .d, .k, .k, .v (.l (.obj 1 v 1 0 v)), .v (I v), .d5, .d5, .d5, .d5, .d5, .d5, .d5, .d5, .d5, .d5, .d5, .d5, .d5, .d5, .d5, .d5, .d5, .d5, .d]) (fun v => [some ⟨i, rowsF t i⟩, some ⟨v, (preF t i v).map cb⟩]) (fun v => v ≤ 8) (fun v => 8 - v) 0 (by omega) (anyS) ?_
    rintro v f12 K12 hv hK12
    simp only [updT_k, updT_d, updT_d5, updT_v, updT_nil, Nat.reduceAdd]
    have hvl := preF_len t i v
    refine Wp.seqK fun K13 hK13 => ?_
    refine Wp.seqK fun K14 hK14 => ?_
    refine rg ?_
    refine hK14 _ ?_
    clear hK14 K14
    refine Wp.condS (fun h19 => ?_) (fun h19 => ?_)
    · have hv8 : v < 8 := by omega
      refine Wp.skip ?_
      refine hK13 _ ?_
      clear hK13 K13
      refine Wp.seqK fun K15 hK15 => ?_
      refine Wp.block ?_
      refine Wp.seqU0 [.k, .d, .d, .k, .k, .k, .k, .v (T (decide ((t.getD i default).op = 1) && decide ((t.getD i default).k = (v : Int)))), .d5, .d5, .d5, .d5, .d5, .d5, .d5, .d5, .d5, .d5, .d5, .d5, .d5, .d5, .d5, .d5, .d5, .d5] (fun K16 hK16 => ?_) ?_
      · refine rg ?_
        refine grdA_split rfl (fun g9_7 => ?_) (fun g9_7 => ?_)
        · try simp only [decide_eq_true_eq, decide_eq_false_iff_not] at g9_7
          refine evd ?_
          exact hK16 _ (anyS (h := by first | rfl | (simp only [g9_7, Bool.true_or, Bool.or_true, Bool.false_or, Bool.or_false, Bool.true_and, Bool.and_true, Bool.false_and, Bool.and_false, Bool.not_true, Bool.not_false, decide_true, decide_false, eq_self, Int.reduceEq] <;> rfl)))
        · try simp only [decide_eq_true_eq, decide_eq_false_iff_not] at g9_7
          refine evd ?_
          exact hK16 _ (anyS (h := by first | rfl | (simp only [g9_7, Bool.true_or, Bool.or_true, Bool.false_or, Bool.or_false, Bool.true_and, Bool.and_true, Bool.false_and, Bool.and_false, Bool.not_true, Bool.not_false, decide_true, decide_false, eq_self, Int.reduceEq] <;> rfl)))
      rintro f16
      simp only [updT_k, updT_d, updT_d5, updT_v, updT_nil, Nat.reduceAdd]
      refine Wp.seqK fun K17 hK17 => ?_
      refine rg ?_
      refine ⟨rfl, CallK.rowA (h := sParts_c _) (k := ?_)⟩
      refine evd ?_
      refine hK17 _ ?_
      clear hK17 K17
      refine Wp.seqK fun K18 hK18 => ?_
      refine Wp.seqK fun K19 hK19 => ?_
      refine rg ?_
      refine hK19 _ ?_
      clear hK19 K19
      refine Wp.block ?_
      refine Wp.loopU (α := Nat) (fun k => [.k, .d, .d, .k, .k, .k, .k, .v (T (frK t v i k)), .k, .v (I k), .d5, .d5, .d5, .d5, .d5, .d5, .d5, .d5, .d5, .d5, .d5, .d5, .d5, .d5, .d5, .d5, .d5, .d, .d, .d]) (fun k => [some ⟨i, rowsF t i⟩, some ⟨v, (preF t i v).map cb⟩, some ⟨0, (parts (t.getD i default)).map ci⟩]) (fun k => k ≤ (parts (t.getD i default)).length) (fun k => (parts (t.getD i default)).length - k) 0 (by omega) (anyS (h := by rw [frK_zero]; rfl)) ?_
      rintro k f20 K20 hk hK20
      simp only [updT_k, updT_d, updT_d5, updT_v, updT_nil, Nat.reduceAdd]
      refine Wp.seqK fun K21 hK21 => ?_
      refine Wp.seqK fun K22 hK22 => ?_
      refine rg ?_
      refine hK22 _ ?_
      clear hK22 K22
      refine Wp.condS (fun h45 => ?_) (fun h45 => ?_)
      · have hkl : k < (parts (t.getD i default)).length := by omega
        have hpk := hp ((parts (t.getD i default)).getD k 0) (by rw [← getD_at hkl]; exact List.getElem_mem hkl)
        have hpn : ((parts (t.getD i default)).getD k 0).toNat < i := by omega
        refine Wp.skip ?_
        refine hK21 _ ?_
        clear hK21 K21
        refine Wp.seqU0 [.k, .d, .d, .k, .k, .k, .k, .v (T (frK t v i k || fr t v ((parts (t.getD i default)).getD k 0).toNat)), .k, .k, .d5, .d5, .d5, .d5, .d5, .d5, .d5, .d5, .d5, .d5, .d5, .d5, .d5, .d5, .d5, .d5, .d5, .d, .d, .d] (fun K23 hK23 => ?_) ?_
        · refine Wp.block ?_
          refine rg ?_
          refine grdA_split rfl (fun g14_2 => ?_) (fun g14_2 => ?_)
          · try simp only [decide_eq_true_eq, decide_eq_false_iff_not] at g14_2
            refine evd ?_
            try simp only [thn, inB, if_true, reduceIte]
            exact hK23 _ (anyS (h := by first | rfl | (simp only [g14_2, Bool.true_or, Bool.or_true, Bool.false_or, Bool.or_false, Bool.true_and, Bool.and_true, Bool.false_and, Bool.and_false, Bool.not_true, Bool.not_false, decide_true, decide_false, eq_self, Int.reduceEq] <;> rfl)))
          · try simp only [decide_eq_true_eq, decide_eq_false_iff_not] at g14_2
            refine evd ?_
            try simp only [thn, inB, if_true, reduceIte]
            exact hK23 _ (anyS (h := by first | rfl | (simp only [g14_2, Bool.true_or, Bool.or_true, Bool.false_or, Bool.or_false, Bool.true_and, Bool.and_true, Bool.false_and, Bool.and_false, Bool.not_true, Bool.not_false, decide_true, decide_false, eq_self, Int.reduceEq] <;> rfl)))
        rintro f23
        simp only [updT_k, updT_d, updT_d5, updT_v, updT_nil, Nat.reduceAdd]
        refine rg ?_
        exact hK20 (k + 1) _ (by omega) (by omega) (anyS (h := by rw [frK_push hkl]; rfl))
      · have hkl : k = (parts (t.getD i default)).length := by omega
        subst hkl
        refine Wp.exit ?_
        try simp only [thn, inB, if_true, reduceIte]
        clear hK21 K21
        clear hK20 K20
        refine hK18 _ ?_
        clear hK18 K18
        refine Wp.seqU0 [.k, .d, .d, .k, .k, .k, .k, .v (T (fr t (v : Int) i)), .d5, .d5, .d5, .d5, .d5, .d5, .d5, .d5, .d5, .d5, .d5, .d5, .d5, .d5, .d5, .d5, .d5, .d5] (fun K24 hK24 => ?_) ?_
        · refine Wp.seqU0 [.k, .d, .d, .k, .k, .k, .k, .k, .d5, .d5, .d5, .d5, .d5, .d5, .d5, .d5, .d5, .d5, .d5, .d5, .d5, .d5, .d5, .v (T (isQ (t.getD i default).op && decide ((t.getD i default).k = (v : Int)))), .d5, .d5, .d, .d, .d, .d] (fun K25 hK25 => ?_) ?_
          · refine rg ?_
            refine grdA_split rfl (fun g15_7 => ?_) (fun g15_7 => ?_)
            · try simp only [decide_eq_true_eq, decide_eq_false_iff_not] at g15_7
              refine evd ?_
              exact hK25 _ (anyS (h := by first | rfl | (simp only [g15_7, isQ, Bool.true_or, Bool.or_true, Bool.false_or, Bool.or_false, Bool.true_and, Bool.and_true, Bool.false_and, Bool.and_false, Bool.not_true, Bool.not_false, decide_true, decide_false, eq_self, Int.reduceEq] <;> rfl)))
            · try simp only [decide_eq_true_eq, decide_eq_false_iff_not] at g15_7
              refine evd ?_
              refine grdA_split rfl (fun g15_15 => ?_) (fun g15_15 => ?_)
              · try simp only [decide_eq_true_eq, decide_eq_false_iff_not] at g15_15
                refine evd ?_
                exact hK25 _ (anyS (h := by first | rfl | (simp only [g15_7, g15_15, isQ, Bool.true_or, Bool.or_true, Bool.false_or, Bool.or_false, Bool.true_and, Bool.and_true, Bool.false_and, Bool.and_false, Bool.not_true, Bool.not_false, decide_true, decide_false, eq_self, Int.reduceEq] <;> rfl)))
              · try simp only [decide_eq_true_eq, decide_eq_false_iff_not] at g15_15
                refine evd ?_
                exact hK25 _ (anyS (h := by first | rfl | (simp only [g15_7, g15_15, isQ, Bool.true_or, Bool.or_true, Bool.false_or, Bool.or_false, Bool.true_and, Bool.and_true, Bool.false_and, Bool.and_false, Bool.not_true, Bool.not_false, decide_true, decide_false, eq_self, Int.reduceEq] <;> rfl)))
          rintro f25
          simp only [updT_k, updT_d, updT_d5, updT_v, updT_nil, Nat.reduceAdd]
          refine Wp.condS (fun h83 => ?_) (fun h83 => ?_)
          · have hfr : fr t (v : Int) i = false := fr_no hpo hi (by simp only [isQ, Bool.and_eq_true, Bool.or_eq_true, decide_eq_true_eq]; simpa [isQ] using h83)
            refine rg ?_
            exact hK24 _ (anyS (h := by rw [hfr]; rfl))
          · have hfr : fr t (v : Int) i = frK t v i (parts (t.getD i default)).length := fr_yes hpo hi (by cases hq : (isQ (t.getD i default).op && decide ((t.getD i default).k = (v : Int))) with
              | false => rfl
              | true => exfalso; simp_all [isQ])
            refine Wp.skip ?_
            exact hK24 _ (anyS (h := by rw [hfr]; rfl))
        rintro f24
        simp only [updT_k, updT_d, updT_d5, updT_v, updT_nil, Nat.reduceAdd]
        refine rg ?_
        try simp only [thn, inB, if_true, reduceIte]
        refine hK15 _ ?_
        clear hK15 K15
        refine Wp.keep 2 (by simp [hB]) (by simp) ?_
        refine evd ?_
        refine rg ?_
        exact hK12 (v + 1) _ (by omega) (by omega) (anyS (ho := by rw [← preF_push]))
    · have hv8 : v = 8 := by omega
      subst hv8
      simp only [preF_end]
      refine Wp.exit ?_
      try simp only [thn, inB, if_true, reduceIte]
      clear hK13 K13
      clear hK12 K12
      refine hK10 _ ?_
      clear hK10 K10
      refine Wp.freeze 1 8 (encB (rowF t i)) rfl (rowF_fixed t i) ?_
      refine evd ?_
      refine rg ?_
      try simp only [thn, inB, if_true, reduceIte]
      refine hK8 _ ?_
      clear hK8 K8
      refine Wp.keep 1 (by simp [hB]) (by simp) ?_
      refine evd ?_
      refine rg ?_
      exact hK5 (i + 1) _ (by omega) (by omega) anyS
  · have hi : i = t.length := by omega
    subst hi
    refine Wp.exit ?_
    try simp only [thn, inB, if_true, reduceIte]
    clear hK6 K6
    clear hK5 K5
    refine hK3 _ ?_
    clear hK3 K3
    refine Wp.seqK fun K26 hK26 => ?_
    refine rg ?_
    refine hK26 _ ?_
    clear hK26 K26
    refine Wp.ret (retV ?_)
    simp only [List.getD_cons_zero, List.getD_cons_succ]
    rw [show ((t.length : Int) - 1).toNat = t.length - 1 by omega]
end Go.Proofs.YtkdkbnacelnljaaGreat.RE

/-! Free variables and widths, the reference. Conditions: those that a theorem names. -/
set_option linter.unusedVariables false
set_option linter.unusedSimpArgs false
namespace Go.Proofs.YtkdkbnacelnljaaGreat.RE
open Go Go.RowKit
set_option maxRecDepth 100000
set_option maxHeartbeats 8000000

def freeL (t : List Nd) : List Int := if okT t = true then varsL (rowF t (t.length - 1)) 8 else []
theorem sFree_c (t : List Nd) : Row E.P 69 [dN t] 1 (freeL t).length ((freeL t).map ci) := by
  refine CallsA.body (E := E) (fn := Tryz.f69) Tryz.func69 rfl fun B hB => ?_
  simp only [Tryz.ntmps69, go_sem, nl, Nat.reduceSub, Nat.reduceAdd, List.reduceReplicate]
  refine Wp.seqK fun K1 hK1 => ?_
  refine rg ?_
  refine hK1 _ ?_
  clear hK1 K1
  refine Wp.seqK fun K2 hK2 => ?_
  refine rg ?_
  refine hK2 _ ?_
  clear hK2 K2
  refine Wp.seqK fun K3 hK3 => ?_
  refine Wp.seqK fun K4 hK4 => ?_
  refine rg ?_
  refine ⟨rfl, CallK.valA (h := sTermOk_c _) (k := ?_)⟩
  refine evd ?_
  refine hK4 _ ?_
  clear hK4 K4
  refine Wp.condS (fun h9 => ?_) (fun h9 => ?_)
  · have hf0 : freeL t = [] := if_neg (by rw [h9]; decide)
    refine Wp.seqK fun K5 hK5 => ?_
    refine rg ?_
    refine hK5 _ ?_
    clear hK5 K5
    refine Wp.ret (retR ?_ ?_ ?_)
    · rw [hf0] <;> rfl
    · rw [hf0] <;> rfl
    · rfl
  · have hok := h9
    have hl := okT_len hok
    have hf0 : freeL t = varsL (rowF t (t.length - 1)) 8 := if_pos hok
    refine Wp.skip ?_
    refine hK3 _ ?_
    clear hK3 K3
    refine Wp.seqK fun K6 hK6 => ?_
    refine rg ?_
    refine ⟨rfl, CallK.retA (h := l02Free_c _ (by assumption) (by omega)) (k := ?_)⟩
    refine evd ?_
    refine hK6 _ ?_
    clear hK6 K6
    refine Wp.seqK fun K7 hK7 => ?_
    refine Wp.seqK fun K8 hK8 => ?_
    refine rg ?_
    refine hK8 _ ?_
    clear hK8 K8
    refine Wp.block ?_
    refine Wp.loopU (α := Nat) (fun x => [.d, .d, .d, .v (.l (.obj 0 (varsL (rowF t (t.length - 1)) x).length 1 0 (varsL (rowF t (t.length - 1)) x).length)), .k, .v (I x), .d5, .d5, .d5, .d5]) (fun x => [some ⟨(varsL (rowF t (t.length - 1)) x).length, (varsL (rowF t (t.length - 1)) x).map ci⟩]) (fun x => x ≤ 8) (fun x => 8 - x) 0 (by omega) (anyS) ?_
    rintro x f9 K9 hx hK9
    simp only [updT_k, updT_d, updT_d5, updT_v, updT_nil, Nat.reduceAdd]
    have hvl := varsL_len (rowF t (t.length - 1)) x
    refine Wp.seqK fun K10 hK10 => ?_
    refine Wp.seqK fun K11 hK11 => ?_
    refine rg ?_
    refine hK11 _ ?_
    clear hK11 K11
    refine Wp.condS (fun h14 => ?_) (fun h14 => ?_)
    · have hx8 : x < 8 := by omega
      refine Wp.skip ?_
      refine hK10 _ ?_
      clear hK10 K10
      refine Wp.seqK fun K12 hK12 => ?_
      refine Wp.block ?_
      refine Wp.seqK fun K13 hK13 => ?_
      refine rg ?_
      refine hK13 _ ?_
      clear hK13 K13
      refine Wp.condS (fun h20 => ?_) (fun h20 => ?_)
      · have hfr : (rowF t (t.length - 1)).getD x false = true := by rw [← h20]; simp [rowF, List.getD_eq_getElem?_getD, hx8]
        have hf := varsL_yes hfr
        refine rg ?_
        try simp only [thn, inB, if_true, reduceIte]
        refine hK12 _ ?_
        clear hK12 K12
        refine Wp.keep 1 (by simp [hB]) (by simp) ?_
        refine evd ?_
        refine rg ?_
        exact hK9 (x + 1) _ (by omega) (by omega) (anyS (h := by rw [hf] <;> first | rfl | (simp only [List.length_append, List.length_cons, List.length_nil, Nat.zero_add] <;> rfl)) (ho := by rw [hf] <;> first | rfl | (simp only [List.length_append, List.length_cons, List.length_nil, Nat.zero_add] <;> rfl)))
      · have hfr : (rowF t (t.length - 1)).getD x false = false := by rw [← h20]; simp [rowF, List.getD_eq_getElem?_getD, hx8]
        have hf := varsL_no hfr
        refine Wp.skip ?_
        try simp only [thn, inB, if_true, reduceIte]
        refine hK12 _ ?_
        clear hK12 K12
        refine Wp.keep 1 (by simp [hB]) (by simp) ?_
        refine evd ?_
        refine rg ?_
        exact hK9 (x + 1) _ (by omega) (by omega) (anyS (h := by rw [hf] <;> first | rfl | (simp only [List.length_append, List.length_cons, List.length_nil, Nat.zero_add] <;> rfl)) (ho := by rw [hf] <;> first | rfl | (simp only [List.length_append, List.length_cons, List.length_nil, Nat.zero_add] <;> rfl)))
    · have hx8 : x = 8 := by omega
      subst hx8
      refine Wp.exit ?_
      try simp only [thn, inB, if_true, reduceIte]
      clear hK10 K10
      clear hK9 K9
      refine hK7 _ ?_
      clear hK7 K7
      refine Wp.seqK fun K14 hK14 => ?_
      refine rg ?_
      refine hK14 _ ?_
      clear hK14 K14
      refine Wp.ret (retR (cs := (freeL t).map ci) ?_ rfl (flatI _) (ho := ?_))
      · rw [hf0]
      · rw [hf0]; rfl
def rootP (n x : Nat) : List Bool := (List.range x).map fun (i : Nat) => decide ((i : Int) = n - 1)
theorem rootP_push (n x : Nat) : rootP n x ++ [decide ((x : Int) = n - 1)] = rootP n (x + 1) := by simp [rootP, List.range_succ]
attribute [go_sem] rootP_push
end Go.Proofs.YtkdkbnacelnljaaGreat.RE

/-! A node behind a term, the reference. Conditions: those that a theorem names. -/
set_option linter.unusedVariables false
set_option linter.unusedSimpArgs false
namespace Go.Proofs.YtkdkbnacelnljaaGreat.RE
open Go Go.RowKit
set_option maxRecDepth 100000
set_option maxHeartbeats 8000000

end Go.Proofs.YtkdkbnacelnljaaGreat.RE

/-! Closing a term, the reference and the law. Conditions: those that a theorem names. -/
set_option linter.unusedVariables false
set_option linter.unusedSimpArgs false
namespace Go.Proofs.YtkdkbnacelnljaaGreat.RE
open Go Go.RowKit
set_option maxRecDepth 100000
set_option maxHeartbeats 8000000

theorem free_place {t : List Nd} {v : Int} (hok : okT t = true) : fr t v (t.length - 1) = decide (0 ≤ placeT t v (freeR t v)) := by
  have hl := okT_len hok
  have hi := free_iff (v := v) (okT_parts hok) (by omega)
  cases hf : fr t v (t.length - 1) with
  | true =>
    obtain ⟨j, h1, h2, h3, h4⟩ := hi.1 hf
    symm
    rw [decide_eq_true_eq]
    rcases Int.lt_or_le (placeT t v (freeR t v)) 0 with h | h
    · exfalso
      unfold placeT at h
      cases hq : (List.range t.length).find? (fun i => ((freeR t v).getD i false && decide ((t.getD i default).op = 1)) && decide ((t.getD i default).k = v)) with
      | none =>
        have := List.find?_range_eq_none.1 hq j h1
        simp [h2, h3, h4, ← List.getD_eq_getElem?_getD] at this
      | some i => rw [hq] at h; simp at h; omega
    · exact h
  | false =>
    symm
    rw [decide_eq_false_iff_not]
    intro h
    have hp := placeT_lt h
    unfold placeT at h hp
    cases hq : (List.range t.length).find? (fun i => ((freeR t v).getD i false && decide ((t.getD i default).op = 1)) && decide ((t.getD i default).k = v)) with
    | none => rw [hq] at h; simp at h
    | some i =>
      obtain ⟨h1, h2, _⟩ := List.find?_range_eq_some.1 hq
      simp only [Bool.and_eq_true, decide_eq_true_eq] at h1
      have := hi.2 ⟨i, by simpa using h2, h1.1.1, h1.1.2, h1.2⟩
      rw [hf] at this; cases this
attribute [go_sem] beq_self_eq_true
end Go.Proofs.YtkdkbnacelnljaaGreat.RE
