/- What a term is worth, the reference. Conditions: those that a theorem names. -/
import Derived.Test.YtkdkbnacelnljaaGreatNGD
set_option linter.unusedVariables false
set_option linter.unusedSimpArgs false
namespace Go.Proofs.YtkdkbnacelnljaaGreat.RE
open Go Go.RowKit
set_option maxRecDepth 100000
set_option maxHeartbeats 8000000
/-- One own row of nodes is lent, one flat row handed over and not changed. -/
theorem CallK.passL {P : Program} {f : FuncId} {args args' : List AV} {st : St} {d : Option Tmp} {K : St → Prop} (a o : Nat) {g go : Nat} {env : List Int} {p : List Nd} {x : Int} (h : CallsA P f args' [some ⟨g, env.map ci⟩] fun r ob => r = I x ∧ ob = [some ⟨g, env.map ci⟩]) (k : K ⟨putT st.tm d (I x), st.ob⟩) (ha : args.map (AV.toC [a] [(o, go, encN p)]) = args') (h1 : st.ob.getD a none = some ⟨g, env.map ci⟩) (h2 : st.ob.getD o none = some ⟨go, lN p⟩) (hab : o ≠ a) : CallK P f args st d K := by
  have lt : ∀ {i : Nat} {x : Ob}, st.ob.getD i none = some x → i < st.ob.length := fun {i x} h => by
    rcases Nat.lt_or_ge i st.ob.length with h' | h'
    · exact h'
    · rw [List.getD_eq_getElem?_getD, List.getElem?_eq_none h'] at h; cases h
  have hc : obC [a] st.ob = [some ⟨g, env.map ci⟩] := by simp only [obC, List.map_cons, List.map_nil, h1, Option.map_some, still (ci_still env)]
  refine CallK.use (Q := fun r ob => r = I x ∧ ob = [some ⟨g, env.map ci⟩]) [a] [(o, go, encN p)] ⟨by simp, (fun s hs => by
    simp only [List.mem_cons, List.not_mem_nil, or_false] at hs
    rw [hs]; exact lt h1), (fun q hq => by
    simp only [List.mem_cons, List.not_mem_nil, or_false] at hq
    subst hq; simpa using hab), (fun q hq => by
    simp only [List.mem_cons, List.not_mem_nil, or_false] at hq
    subst hq; exact ⟨_, h2, rfl, false, (lN_encN p false).symm⟩)⟩ (by rw [ha, hc]; exact h) fun r ob1 ⟨e1, e2⟩ => ?_
  subst e1; subst e2
  refine ⟨by simp, .inr ⟨rfl, obFlat_noB (by simp only [obFlat, List.all_cons, List.all_nil, flatI, Bool.and_true])⟩, ?_⟩
  rw [← hc, obB_same (by simp) (fun s hs => by
    simp only [List.mem_cons, List.not_mem_nil, or_false] at hs
    rw [hs]; exact lt h1) (fun s hs y hy => by
    simp only [List.mem_cons, List.not_mem_nil, or_false] at hs
    rw [hs, h1] at hy
    cases hy
    exact flat_within (flatI _))]
  exact k
theorem lend_arg {p : List Nd} {go o a : Nat} (hao : o ≠ a) : LV.toC [a] [(o, go, encN p)] (.obj o go 6 0 p.length) = .dsl true p.length (encN p) := by
  unfold LV.toC
  have h1 : lk [(o, go, encN p)] o go = some (encN p) := by simp [lk]
  simp only [h1, List.drop_zero]
  congr 1
  exact List.take_of_length_le (by rw [encN_len]; exact Nat.le_refl _)
theorem qbP_b {t : List Nd} (hok : okT t = true) : ∀ x, x ≤ t.length → 0 ≤ qbP t x ∧ qbP t x ≤ 8 * (x : Int)
  | 0, _ => by simp [qbP]
  | x + 1, hx => by
    have ih := qbP_b hok x (by omega)
    simp only [qbP]
    unfold qbit
    split
    · rename_i h
      have := quant_rule (okT_node hok (show x < t.length by omega)) h
      omega
    · omega
theorem vos_0 {t : List Nd} {env : List Int} (h : (okT t && decide (env.length = 8)) = false) : vOkS t env = false := by unfold vOkS; rw [h]; rfl
theorem vos_3 {t : List Nd} {env : List Int} (h : (okT t && decide (env.length = 8)) = true) : vOkS t env = (decide (qbP (pruneT t) (pruneT t).length ≤ 12) && fitsT (pruneT t) env) := by unfold vOkS; rw [h]; rfl
theorem vaS_no {t : List Nd} {env : List Int} (h : vOkS t env = false) : valS t env = 0 := if_neg (by rw [h]; decide)
theorem vaS_yes {t : List Nd} {env : List Int} (h : vOkS t env = true) : valS t env = evT quS (pruneT t) env ((pruneT t).length - 1) := if_pos h
theorem sValue_c (t : List Nd) (env : List Int) (hlb : t.length ≤ 1048576) (heb : env.length ≤ 1048576) : Val E.P 41 [dN t, dI env] (.tup [TI (valS t env), TB (vOkS t env)]) := by
  refine CallsA.body (E := E) (fn := Tryz.f41) Tryz.func41 rfl fun B hB => ?_
  simp only [Tryz.ntmps41, go_sem, nl, Nat.reduceSub, Nat.reduceAdd, List.reduceReplicate]
  refine Wp.seqK fun K1 hK1 => ?_
  refine rg ?_
  refine hK1 _ ?_
  clear hK1 K1
  refine Wp.seqK fun K2 hK2 => ?_
  refine Wp.seqU0 [.k, .k, .d5, .d5, .d, .d, .d, .d, .v (T (!(okT t && decide (env.length = 8)))), .d5, .d5, .d5, .d5, .d5, .d5, .d5, .d, .d] (fun K3 hK3 => ?_) ?_
  · refine rg ?_
    refine ⟨rfl, CallK.valA (h := sTermOk_c _) (k := ?_)⟩
    refine evd ?_
    refine grdA_split rfl (fun g1_4 => ?_) (fun g1_4 => ?_)
    · try simp only [decide_eq_true_eq, decide_eq_false_iff_not] at g1_4
      try refine evd ?_
      have e : okT t = false := by simpa using g1_4
      exact hK3 _ (anyS (h := by rw [e] <;> rfl))
    · try simp only [decide_eq_true_eq, decide_eq_false_iff_not] at g1_4
      try refine evd ?_
      have e : okT t = true := by simpa using g1_4
      have e2 : decide ((env.length : Int) = 8) = decide (env.length = 8) := by rw [decide_eq_decide]; omega
      exact hK3 _ (anyS (h := by rw [e, ← e2] <;> rfl))
  rintro f3
  simp only [updT_k, updT_d, updT_d5, updT_v, updT_nil, Nat.reduceAdd]
  refine Wp.condS (fun h16 => ?_) (fun h16 => ?_)
  · have hv : vOkS t env = false := vos_0 (by simpa using h16)
    have hz := vaS_no hv
    refine Wp.seqK fun K4 hK4 => ?_
    refine rg ?_
    refine hK4 _ ?_
    clear hK4 K4
    refine Wp.ret (retV ?_)
    try simp only [List.getD_cons_zero, List.getD_cons_succ]
    rw [hz, hv] <;> rfl
  · have hoe : (okT t && decide (env.length = 8)) = true := by simpa using h16
    have hok : okT t = true := ((Bool.and_eq_true _ _).mp hoe).1
    have hel : env.length = 8 := of_decide_eq_true ((Bool.and_eq_true _ _).mp hoe).2
    have hl := okT_len hok
    have hpk := prune_ok hok
    have hpl := okT_len hpk
    have hv3 := vos_3 hoe
    refine Wp.skip ?_
    refine hK2 _ ?_
    clear hK2 K2
    refine Wp.seqK fun K5 hK5 => ?_
    refine rg ?_
    refine ⟨rfl, CallK.rowA (h := sPrune_c _) (k := ?_)⟩
    refine evd ?_
    refine hK5 _ ?_
    clear hK5 K5
    refine Wp.seqK fun K6 hK6 => ?_
    refine rg ?_
    refine hK6 _ ?_
    clear hK6 K6
    refine Wp.seqK fun K7 hK7 => ?_
    refine Wp.seqK fun K8 hK8 => ?_
    refine rg ?_
    refine hK8 _ ?_
    clear hK8 K8
    refine Wp.block ?_
    refine Wp.loopU (α := Nat) (fun x => [.d, .k, .d, .d, .d, .d, .k, .v (I (qbP (pruneT t) x)), .v (I x), .d5, .d5, .d5, .d5, .d5, .d5, .d5, .d5, .d5]) (fun x => [some ⟨0, lN (pruneT t)⟩]) (fun x => x ≤ (pruneT t).length) (fun x => (pruneT t).length - x) 0 (Nat.zero_le _) (anyS) ?_
    rintro x f9 K9 hx hK9
    simp only [updT_k, updT_d, updT_d5, updT_v, updT_nil, Nat.reduceAdd]
    have hqn := qbP_b hpk x hx
    refine Wp.seqK fun K10 hK10 => ?_
    refine Wp.seqK fun K11 hK11 => ?_
    refine rg ?_
    refine hK11 _ ?_
    clear hK11 K11
    refine Wp.condS (fun h22 => ?_) (fun h22 => ?_)
    · have hxl : x < (pruneT t).length := by omega
      refine Wp.skip ?_
      refine hK10 _ ?_
      clear hK10 K10
      refine Wp.seqU0 [.d, .k, .d, .d, .d, .d, .k, .v (I (qbP (pruneT t) (x + 1))), .k, .d5, .d5, .d5, .d5, .d5, .d5, .d5, .d5, .d5] (fun K12 hK12 => ?_) ?_
      · refine Wp.block ?_
        refine Wp.seqK fun K13 hK13 => ?_
        refine rg ?_
        refine ⟨rfl, CallK.valA (h := l02Quant_c _) (k := ?_)⟩
        refine evd ?_
        refine hK13 _ ?_
        clear hK13 K13
        refine Wp.condS (fun h30 => ?_) (fun h30 => ?_)
        · have hq2 : isQ ((pruneT t).getD x default).op = true := h30
          have hqb := quant_rule (okT_node hpk hxl) hq2
          have hs : qbP (pruneT t) (x + 1) = qbP (pruneT t) x + ((pruneT t).getD x default).b := by
            show qbP (pruneT t) x + qbit ((pruneT t).getD x default) = _
            unfold qbit
            rw [if_pos hq2]
          refine rg ?_
          try simp only [thn, inB, if_true, reduceIte]
          exact hK12 _ (anyS (h := by rw [hs] <;> rfl))
        · have hq2 : isQ ((pruneT t).getD x default).op = false := h30
          have hs : qbP (pruneT t) (x + 1) = qbP (pruneT t) x := by
            show qbP (pruneT t) x + qbit ((pruneT t).getD x default) = _
            unfold qbit
            rw [if_neg (by rw [hq2]; decide)]; omega
          refine Wp.skip ?_
          try simp only [thn, inB, if_true, reduceIte]
          exact hK12 _ (anyS (h := by rw [hs] <;> rfl))
      rintro f12
      simp only [updT_k, updT_d, updT_d5, updT_v, updT_nil, Nat.reduceAdd]
      refine rg ?_
      exact hK9 (x + 1) _ (by omega) (by omega) anyS
    · have hxl : x = (pruneT t).length := by omega
      subst hxl
      refine Wp.exit ?_
      try simp only [thn, inB, if_true, reduceIte]
      clear hK10 K10
      clear hK9 K9
      refine hK7 _ ?_
      clear hK7 K7
      refine Wp.seqK fun K14 hK14 => ?_
      refine Wp.seqU0 [.d, .k, .d, .d, .d, .d, .k, .d5, .d5, .d5, .d5, .d5, .d5, .d5, .d, .d, .d, .v (T (!(decide (qbP (pruneT t) (pruneT t).length ≤ 12) && fitsT (pruneT t) env))), .d5, .d, .d, .d] (fun K15 hK15 => ?_) ?_
      · refine rg ?_
        refine grdA_split rfl (fun g10_3 => ?_) (fun g10_3 => ?_)
        · try simp only [decide_eq_true_eq, decide_eq_false_iff_not] at g10_3
          try refine evd ?_
          have e : decide (qbP (pruneT t) (pruneT t).length ≤ 12) = false := decide_eq_false (by omega)
          exact hK15 _ (anyS (h := by rw [e] <;> rfl))
        · try simp only [decide_eq_true_eq, decide_eq_false_iff_not] at g10_3
          try refine evd ?_
          refine ⟨rfl, CallK.valA (h := l04Fits_c _ hpk (okT_len hpk) _ hel) (k := ?_)⟩
          refine evd ?_
          have e : decide (qbP (pruneT t) (pruneT t).length ≤ 12) = true := decide_eq_true (by omega)
          exact hK15 _ (anyS (h := by rw [e, Bool.true_and] <;> rfl))
      rintro f15
      simp only [updT_k, updT_d, updT_d5, updT_v, updT_nil, Nat.reduceAdd]
      refine Wp.condS (fun h45 => ?_) (fun h45 => ?_)
      · have hv : vOkS t env = false := by rw [hv3]; simpa using h45
        have hz := vaS_no hv
        refine Wp.seqK fun K16 hK16 => ?_
        refine rg ?_
        refine hK16 _ ?_
        clear hK16 K16
        refine Wp.ret (retV ?_)
        try simp only [List.getD_cons_zero, List.getD_cons_succ]
        rw [hz, hv] <;> rfl
      · have hv : vOkS t env = true := by rw [hv3]; simpa using h45
        have hz := vaS_yes hv
        refine Wp.skip ?_
        refine hK14 _ ?_
        clear hK14 K14
        refine Wp.seqK fun K17 hK17 => ?_
        refine rg ?_
        refine ⟨rfl, CallK.passL 1 0 (h := l04At_c (pruneT t) hpk hpl.2 ((pruneT t).length - 1) (by omega) 1 env hel) (k := ?_) (ha := by
          simp only [List.map_cons, List.map_nil, AV.toC]
          rw [lend_arg (by decide), hel, show (((pruneT t).length - 1 : Nat) : Int) = ((pruneT t).length : Int) - 1 by omega] <;> rfl) rfl rfl (by decide)⟩
        refine evd ?_
        refine hK17 _ ?_
        clear hK17 K17
        refine Wp.ret (retV ?_)
        try simp only [List.getD_cons_zero, List.getD_cons_succ]
        rw [hz, hv] <;> rfl
theorem zeros_c : Row E.P 42 [] 1 8 (zer8.map ci) := by
  refine CallsA.body (E := E) (fn := Tryz.f42) Tryz.func42 rfl fun B hB => ?_
  simp only [Tryz.ntmps42, go_sem, nl, Nat.reduceSub, Nat.reduceAdd, List.reduceReplicate]
  refine Wp.seqK fun K1 hK1 => ?_
  refine rg ?_
  refine hK1 _ ?_
  clear hK1 K1
  refine Wp.seqK fun K2 hK2 => ?_
  refine rg ?_
  refine hK2 _ ?_
  clear hK2 K2
  refine Wp.seqK fun K3 hK3 => ?_
  refine Wp.seqK fun K4 hK4 => ?_
  refine rg ?_
  refine hK4 _ ?_
  clear hK4 K4
  refine Wp.block ?_
  refine Wp.loopU (α := Nat) (fun x => [.d, .v (.l (.obj 0 x 1 0 x)), .v (I x), .d5, .d, .d, .d, .d]) (fun x => [some ⟨x, (List.replicate x (0 : Int)).map ci⟩]) (fun x => x ≤ 8) (fun x => 8 - x) 0 (Nat.zero_le _) (anyS) ?_
  rintro x f5 K5 hx hK5
  simp only [updT_k, updT_d, updT_d5, updT_v, updT_nil, Nat.reduceAdd]
  refine Wp.seqK fun K6 hK6 => ?_
  refine Wp.seqK fun K7 hK7 => ?_
  refine rg ?_
  refine hK7 _ ?_
  clear hK7 K7
  refine Wp.condS (fun h5 => ?_) (fun h5 => ?_)
  · have hx8 : x < 8 := by omega
    refine Wp.skip ?_
    refine hK6 _ ?_
    clear hK6 K6
    refine Wp.seqK fun K8 hK8 => ?_
    refine Wp.block ?_
    refine rg ?_
    try simp only [thn, inB, if_true, reduceIte]
    refine hK8 _ ?_
    clear hK8 K8
    refine Wp.keep 1 (by simp [hB]) (by simp) ?_
    refine evd ?_
    refine rg ?_
    exact hK5 (x + 1) _ (by omega) (by omega) (anyS (ho := by rw [List.replicate_succ] <;> rfl))
  · have hx8 : x = 8 := by omega
    subst hx8
    refine Wp.exit ?_
    try simp only [thn, inB, if_true, reduceIte]
    clear hK6 K6
    clear hK5 K5
    refine hK3 _ ?_
    clear hK3 K3
    refine Wp.seqK fun K9 hK9 => ?_
    refine rg ?_
    refine hK9 _ ?_
    clear hK9 K9
    refine Wp.ret (retR (cs := zer8.map ci) rfl rfl (flatI _))
theorem sHolds_c (t : List Nd) (hlb : t.length ≤ 1048576) : Val E.P 17 [dN t] (.tup [TI (holdsS t).1, TB (holdsS t).2]) := by
  refine CallsA.body (E := E) (fn := Tryz.f17) Tryz.func17 rfl fun B hB => ?_
  simp only [Tryz.ntmps17, go_sem, nl, Nat.reduceSub, Nat.reduceAdd, List.reduceReplicate]
  refine Wp.seqK fun K1 hK1 => ?_
  refine rg ?_
  refine hK1 _ ?_
  clear hK1 K1
  refine Wp.seqK fun K2 hK2 => ?_
  refine Wp.seqK fun K3 hK3 => ?_
  refine rg ?_
  refine ⟨rfl, CallK.valA (h := sSentence_c _) (k := ?_)⟩
  refine evd ?_
  refine hK3 _ ?_
  clear hK3 K3
  refine Wp.condS (fun h6 => ?_) (fun h6 => ?_)
  · have e : holdsS t = (0, false) := if_neg (by simpa using h6)
    refine Wp.seqK fun K4 hK4 => ?_
    refine rg ?_
    refine hK4 _ ?_
    clear hK4 K4
    refine Wp.ret (retV ?_)
    try simp only [List.getD_cons_zero, List.getD_cons_succ]
    rw [e] <;> rfl
  · have e : holdsS t = (valS t zer8, vOkS t zer8) := if_pos (by simpa using h6)
    refine Wp.skip ?_
    refine hK2 _ ?_
    clear hK2 K2
    refine Wp.seqK fun K5 hK5 => ?_
    refine rg ?_
    refine ⟨rfl, CallK.rowA (h := zeros_c) (k := ?_)⟩
    refine evd ?_
    refine ⟨rfl, CallK.valA (h := sValue_c _ zer8 hlb (by decide)) (k := ?_)⟩
    refine evd ?_
    refine hK5 _ ?_
    clear hK5 K5
    refine Wp.ret (retV ?_)
    try simp only [List.getD_cons_zero, List.getD_cons_succ]
    rw [e] <;> rfl
end Go.Proofs.YtkdkbnacelnljaaGreat.RE
