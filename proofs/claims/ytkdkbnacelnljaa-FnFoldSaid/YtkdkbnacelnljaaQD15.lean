/- Constants put together, the reference and the law. Conditions: those that a theorem names. -/
import Derived.Test.YtkdkbnacelnljaaQDA
set_option linter.unusedVariables false
set_option linter.unusedSimpArgs false
namespace Go.Proofs.Ytkdkbnacelnljaa.RE
open Go Go.RowKit
set_option maxRecDepth 100000
set_option maxHeartbeats 8000000

def pS (t : List Nd) : Nat → List Nd
  | 0 => []
  | x + 1 => pS t x ++ [(foldNode (pS t x) (t.getD x default)).1]
theorem pS_len (t : List Nd) : ∀ x, (pS t x).length = x
  | 0 => rfl
  | x + 1 => by simp [pS, pS_len t x]
theorem pS_push (t : List Nd) (x : Nat) : pS t x ++ [(foldNode (pS t x) (t.getD x default)).1] = pS t (x + 1) := rfl
theorem any_all_congr {l : List Int} {f g : Int → Bool} (h : ∀ p ∈ l, f p = g p) : l.all f = l.all g := by
  induction l with
  | nil => rfl
  | cons a l ih => rw [List.all_cons, List.all_cons, h a List.mem_cons_self, ih fun p hp => h p (List.mem_cons_of_mem _ hp)]
theorem foldNode_congr {o u : List Nd} {n : Nd} (h : ∀ p ∈ parts n, o.getD p.toNat default = u.getD p.toNat default) : foldNode o n = foldNode u n := by
  have hx : foldX o (parts n) (parts n).length = foldX u (parts n) (parts n).length := by
    unfold foldX
    refine List.map_congr_left fun j hj => ?_
    split
    · rename_i hlt
      rw [h _ (by rw [← getD_at hlt]; exact List.getElem_mem hlt)]
    · rfl
  have hb : foldB o n = foldB u n := by
    unfold foldB
    congr 1
    exact any_all_congr fun p hp => by unfold isC; rw [h p hp]
  unfold foldNode
  rw [hb]
  split
  · rename_i hh
    have h0 : 0 < (parts n).length := by
      simp only [foldB, Bool.and_eq_true, decide_eq_true_eq] at hh
      exact hh.1.1
    unfold foldV
    rw [hx, h _ (by rw [← getD_at h0]; exact List.getElem_mem h0)]
  · rfl
theorem pS_M {t : List Nd} (hp : PartsOk t) : ∀ x, x ≤ t.length → fM t x = pS t x ++ t.drop x
  | 0, _ => rfl
  | x + 1, h => by
    have ih := pS_M hp x (by omega)
    have hl := pS_len t x
    simp only [fM, pS]
    have hc : foldNode (fM t x) (t.getD x default) = foldNode (pS t x) (t.getD x default) := foldNode_congr fun p hpp => by
      have := hp x (by omega) p hpp
      rw [ih, List.getD_eq_getElem?_getD, List.getElem?_append_left (by omega), ← List.getD_eq_getElem?_getD]
    rw [hc, ih, List.set_append_right _ _ (by omega), hl, Nat.sub_self, List.drop_eq_getElem_cons (show x < t.length by omega)]
    simp only [List.set_cons_zero, List.append_assoc, List.cons_append, List.nil_append]
theorem pS_end {t : List Nd} (hp : PartsOk t) : pS t t.length = fM t t.length := by
  rw [pS_M hp t.length (Nat.le_refl _)]; simp
attribute [go_sem] pS_len
theorem sFold_c (t : List Nd) : Ret E.P 7 [dN t] (.tup [.l (.obj 0 0 6 0 (foldT t).1.length), TB (foldT t).2]) [some ⟨0, lN (foldT t).1⟩] := by
  refine CallsA.body (E := E) (fn := Try.f7) Try.func7 rfl fun B hB => ?_
  simp only [Try.ntmps7, go_sem, nl, Nat.reduceSub, Nat.reduceAdd, List.reduceReplicate]
  refine Wp.seqK fun K1 hK1 => ?_
  refine rg ?_
  refine hK1 _ ?_
  clear hK1 K1
  refine Wp.seqK fun K2 hK2 => ?_
  refine Wp.seqK fun K3 hK3 => ?_
  refine rg ?_
  refine ⟨rfl, CallK.valA (h := sTermOk_c _) (k := ?_)⟩
  refine evd ?_
  refine hK3 _ ?_
  clear hK3 K3
  refine Wp.condS (fun h13 => ?_) (fun h13 => ?_)
  · have hc : foldT t = ([], false) := if_neg (by rw [h13]; decide)
    refine Wp.seqK fun K4 hK4 => ?_
    refine rg ?_
    refine hK4 _ ?_
    clear hK4 K4
    refine Wp.ret (retRB (cs := []) ?_ ?_ ?_)
    all_goals rw [hc]
    all_goals rfl
  · have hok := h13
    have hl := okT_len hok
    have hpo := okT_parts hok
    have hc : foldT t = (pruneT (pS t t.length), true) := by rw [pS_end hpo]; exact if_pos hok
    refine Wp.skip ?_
    refine hK2 _ ?_
    clear hK2 K2
    refine Wp.seqK fun K5 hK5 => ?_
    refine rg ?_
    refine hK5 _ ?_
    clear hK5 K5
    refine Wp.seqK fun K6 hK6 => ?_
    refine Wp.seqK fun K7 hK7 => ?_
    refine rg ?_
    refine hK7 _ ?_
    clear hK7 K7
    refine Wp.block ?_
    refine Wp.loopU (α := Nat) (fun x => [.k, .d, .d, .d, .v (.l (.obj 0 x 6 0 x)), .v (I x), .d5, .d5, .d5, .d5, .d5, .d5, .d5, .d5, .d5, .d5, .d5, .d5, .d5, .d5, .d5, .d5, .d5, .d, .d, .d, .d]) (fun x => [some ⟨x, lN (pS t x)⟩]) (fun x => x ≤ t.length) (fun x => t.length - x) 0 (by omega) (anyS) ?_
    rintro x f8 K8 hx hK8
    simp only [updT_k, updT_d, updT_d5, updT_v, updT_nil, Nat.reduceAdd]
    have hsl := pS_len t x
    refine Wp.seqK fun K9 hK9 => ?_
    refine Wp.seqK fun K10 hK10 => ?_
    refine rg ?_
    refine hK10 _ ?_
    clear hK10 K10
    refine Wp.condS (fun h19 => ?_) (fun h19 => ?_)
    · have hxl : x < t.length := by omega
      have hpp := okT_part hok hxl
      have hkb := okT_kb hok hxl
      have hpl := parts_len (t.getD x default)
      refine Wp.skip ?_
      refine hK9 _ ?_
      clear hK9 K9
      refine Wp.seqK fun K11 hK11 => ?_
      refine Wp.block ?_
      refine Wp.seqK fun K12 hK12 => ?_
      refine rg ?_
      refine hK12 _ ?_
      clear hK12 K12
      refine Wp.seqK fun K13 hK13 => ?_
      refine rg ?_
      refine ⟨rfl, CallK.rowA (h := sParts_c _) (k := ?_)⟩
      refine evd ?_
      refine hK13 _ ?_
      clear hK13 K13
      refine Wp.seqU0 [.k, .d, .d, .d, .k, .k, .k, .k, .v (T (decide ((0 : Int) < ((parts (t.getD x default)).length : Nat)) && !isQ (t.getD x default).op)), .d5, .d5, .d5, .d5, .d5, .d5, .d5, .d5, .d5, .d5, .d5, .d5, .d5, .d5, .d5, .d5, .d5, .d] (fun K14 hK14 => ?_) ?_
      · refine rg ?_
        refine grdA_split rfl (fun g9_4 => ?_) (fun g9_4 => ?_)
        · try simp only [decide_eq_true_eq, decide_eq_false_iff_not] at g9_4
          refine evd ?_
          refine ⟨rfl, CallK.valA (h := l02Quant_c _) (k := ?_)⟩
          refine evd ?_
          exact hK14 _ (anyS (h := by first | rfl | (simp only [g9_4, Bool.true_or, Bool.or_true, Bool.false_or, Bool.or_false, Bool.true_and, Bool.and_true, Bool.false_and, Bool.and_false, Bool.not_true, Bool.not_false, decide_true, decide_false, eq_self, Int.reduceEq] <;> rfl)))
        · try simp only [decide_eq_true_eq, decide_eq_false_iff_not] at g9_4
          refine evd ?_
          exact hK14 _ (anyS (h := by first | rfl | (simp only [g9_4, Bool.true_or, Bool.or_true, Bool.false_or, Bool.or_false, Bool.true_and, Bool.and_true, Bool.false_and, Bool.and_false, Bool.not_true, Bool.not_false, decide_true, decide_false, eq_self, Int.reduceEq] <;> rfl)))
      rintro f14
      simp only [updT_k, updT_d, updT_d5, updT_v, updT_nil, Nat.reduceAdd]
      refine Wp.seqK fun K15 hK15 => ?_
      refine rg ?_
      refine hK15 _ ?_
      clear hK15 K15
      refine Wp.seqK fun K16 hK16 => ?_
      refine Wp.seqK fun K17 hK17 => ?_
      refine rg ?_
      refine hK17 _ ?_
      clear hK17 K17
      refine Wp.block ?_
      refine Wp.loopU (α := Nat) (fun k => [.k, .d, .d, .d, .k, .k, .k, .k, .v (T ((decide ((0 : Int) < ((parts (t.getD x default)).length : Nat)) && !isQ (t.getD x default).op) && ((parts (t.getD x default)).take k).all (isC (pS t x)))), .k, .v (I k), .d5, .d5, .d5, .d5, .d5, .d5, .d5, .d5, .d5, .d5, .d5, .d5, .d5, .d5, .d5, .d5, .d, .d, .d, .d]) (fun k => [some ⟨x, lN (pS t x)⟩, some ⟨0, nl (t.getD x default)⟩, some ⟨0, (parts (t.getD x default)).map ci⟩, some ⟨0, (foldX (pS t x) (parts (t.getD x default)) k).map ci⟩]) (fun k => k ≤ (parts (t.getD x default)).length) (fun k => (parts (t.getD x default)).length - k) 0 (by omega) (anyS (h := by rw [List.take_zero, List.all_nil, Bool.and_true] <;> rfl)) ?_
      rintro k f18 K18 hk hK18
      simp only [updT_k, updT_d, updT_d5, updT_v, updT_nil, Nat.reduceAdd]
      have hxx := foldX_len (pS t x) (parts (t.getD x default)) k
      refine Wp.seqK fun K19 hK19 => ?_
      refine Wp.seqK fun K20 hK20 => ?_
      refine rg ?_
      refine hK20 _ ?_
      clear hK20 K20
      refine Wp.condS (fun h41 => ?_) (fun h41 => ?_)
      · have hkl : k < (parts (t.getD x default)).length := by omega
        have hpk := hpp ((parts (t.getD x default)).getD k 0) (by rw [← getD_at hkl]; exact List.getElem_mem hkl)
        have hpn : ((parts (t.getD x default)).getD k 0).toNat < (pS t x).length := by omega
        refine Wp.skip ?_
        refine hK19 _ ?_
        clear hK19 K19
        refine Wp.seqK fun K21 hK21 => ?_
        refine Wp.block ?_
        refine Wp.seqU0 [.k, .d, .d, .d, .k, .k, .k, .k, .v (T (((decide ((0 : Int) < ((parts (t.getD x default)).length : Nat)) && !isQ (t.getD x default).op) && ((parts (t.getD x default)).take k).all (isC (pS t x))) && isC (pS t x) ((parts (t.getD x default)).getD k 0))), .k, .k, .d5, .d5, .d5, .d5, .d5, .d5, .d5, .d5, .d5, .d5, .d5, .d5, .d5, .d5, .d5, .d5, .d, .d, .d, .d] (fun K22 hK22 => ?_) ?_
        · refine rg ?_
          refine grdA_split rfl (fun g14_2 => ?_) (fun g14_2 => ?_)
          · try simp only [decide_eq_true_eq, decide_eq_false_iff_not] at g14_2
            refine evd ?_
            exact hK22 _ (anyS (h := by first | rfl | (simp only [g14_2, isC, Bool.true_or, Bool.or_true, Bool.false_or, Bool.or_false, Bool.true_and, Bool.and_true, Bool.false_and, Bool.and_false, Bool.not_true, Bool.not_false, decide_true, decide_false, eq_self, Int.reduceEq] <;> rfl)))
          · try simp only [decide_eq_true_eq, decide_eq_false_iff_not] at g14_2
            refine evd ?_
            exact hK22 _ (anyS (h := by first | rfl | (simp only [g14_2, isC, Bool.true_or, Bool.or_true, Bool.false_or, Bool.or_false, Bool.true_and, Bool.and_true, Bool.false_and, Bool.and_false, Bool.not_true, Bool.not_false, decide_true, decide_false, eq_self, Int.reduceEq] <;> rfl)))
        rintro f22
        simp only [updT_k, updT_d, updT_d5, updT_v, updT_nil, Nat.reduceAdd]
        refine rg ?_
        try simp only [thn, inB, if_true, reduceIte]
        refine hK21 _ ?_
        clear hK21 K21
        refine rg ?_
        exact hK18 (k + 1) _ (by omega) (by omega) (anyS (h := by rw [all_push hkl, ← Bool.and_assoc] <;> rfl) (ho := by rw [← foldX_set (by omega)] <;> rfl))
      · have hkl : k = (parts (t.getD x default)).length := by omega
        subst hkl
        simp only [List.take_length]
        refine Wp.exit ?_
        try simp only [thn, inB, if_true, reduceIte]
        clear hK19 K19
        clear hK18 K18
        refine hK16 _ ?_
        clear hK16 K16
        refine Wp.seqU (α := Unit) (fun u_ => [.k, .d, .d, .d, .k, .k, .k, .d5, .d5, .d5, .d5, .d5, .d5, .d5, .d5, .d5, .d5, .d5, .d5, .d5, .d5, .d5, .d5, .d5, .d, .d, .d]) (fun u_ => [some ⟨x, lN (pS t x)⟩, some ⟨0, nl (foldNode (pS t x) (t.getD x default)).1⟩, some ⟨0, (parts (t.getD x default)).map ci⟩, some ⟨0, (foldX (pS t x) (parts (t.getD x default)) (parts (t.getD x default)).length).map ci⟩]) (fun u_ => True) (fun K23 hK23 => ?_) ?_
        · refine Wp.seqK fun K24 hK24 => ?_
          refine rg ?_
          refine hK24 _ ?_
          clear hK24 K24
          refine Wp.condS (fun h67 => ?_) (fun h67 => ?_)
          · have hb : foldB (pS t x) (t.getD x default) = true := by
              unfold foldB; rw [decide_eq_true (show 0 < (parts (t.getD x default)).length by omega), h67.1.2, h67.2]; rfl
            have hp0 : 0 < (parts (t.getD x default)).length := by
              simp only [foldB, Bool.and_eq_true, decide_eq_true_eq] at hb
              exact hb.1.1
            have hp0k := hpp ((parts (t.getD x default)).getD 0 0) (by rw [← getD_at hp0]; exact List.getElem_mem hp0)
            have hpn0 : ((parts (t.getD x default)).getD 0 0).toNat < (pS t x).length := by omega
            have hf : (foldNode (pS t x) (t.getD x default)) = (foldV (pS t x) (t.getD x default), true) := if_pos hb
            refine Wp.drawI [0, 1, 2, 3] [19] (by kernel_rfl) ?_
            refine evd ?_
            refine ⟨rfl, CallK.valA (h := sApply_c _ _ _ _ _ (by omega) (by omega)) (k := ?_)⟩
            refine evd ?_
            exact hK23 () _ trivial (anyS (ho := by rw [hf] <;> rfl))
          · have hb : foldB (pS t x) (t.getD x default) = false := by
              unfold foldB; rw [show decide (0 < (parts (t.getD x default)).length) = decide ((0 : Int) < ((parts (t.getD x default)).length : Nat)) from decide_eq_decide.2 (by omega)]; exact h67
            have hf : (foldNode (pS t x) (t.getD x default)) = ((t.getD x default), false) := if_neg (by rw [hb]; decide)
            refine Wp.skip ?_
            exact hK23 () _ trivial (anyS (ho := by rw [hf] <;> rfl))
        rintro _ f23 _
        simp only [updT_k, updT_d, updT_d5, updT_v, updT_nil, Nat.reduceAdd]
        refine rg ?_
        try simp only [thn, inB, if_true, reduceIte]
        refine hK11 _ ?_
        clear hK11 K11
        refine Wp.keep 1 (by simp [hB]) (by simp) ?_
        refine evd ?_
        refine rg ?_
        exact hK8 (x + 1) _ (by omega) (by omega) (anyS (ho := by rw [← pS_push] <;> rfl))
    · have hxl : x = t.length := by omega
      subst hxl
      refine Wp.exit ?_
      try simp only [thn, inB, if_true, reduceIte]
      clear hK9 K9
      clear hK8 K8
      refine hK6 _ ?_
      clear hK6 K6
      refine Wp.seqK fun K25 hK25 => ?_
      refine Wp.keepQ 0 ?_ ?_ ?_
      rw [hB]; rfl
      exact of_decide_eq_true rfl
      refine evd ?_
      refine rg ?_
      refine ⟨rfl, CallK.rowA (h := sPrune_c _) (k := ?_)⟩
      refine evd ?_
      refine hK25 _ ?_
      clear hK25 K25
      refine Wp.ret (retRB (cs := lN (pruneT (pS t t.length))) ?_ ?_ ?_)
      all_goals rw [hc]
end Go.Proofs.Ytkdkbnacelnljaa.RE
