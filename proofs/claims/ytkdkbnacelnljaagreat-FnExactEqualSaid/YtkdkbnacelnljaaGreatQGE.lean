/- What a term is worth, the reference. Conditions: those that a theorem names. -/
import Derived.Test.YtkdkbnacelnljaaGreatQGD
import Derived.Test.YtkdkbnacelnljaaGreatQGA
set_option linter.unusedVariables false
set_option linter.unusedSimpArgs false
namespace Go.Proofs.YtkdkbnacelnljaaGreat.RE
open Go Go.RowKit
set_option maxRecDepth 100000
set_option maxHeartbeats 8000000
/-- One own row of nodes is lent, one flat row handed over and not changed. -/
theorem CallK.passL {P : Program} {f : FuncId} {args args' : List AV} {st : St} {d : Option Tmp} {K : St → Prop} (a o : Nat) {g go : Nat} {env : List Int} {p : List Nd} {x : Int} (h : CallsA P f args' [some ⟨g, env.map ci⟩] fun r ob => r = I x ∧ ob = [some ⟨g, env.map ci⟩]) (k : K ⟨putT st.tm d (I x), st.ob⟩) (ha : args.map (AV.toC [a] [(o, go, encN p)]) = args') (h1 : st.ob.getD a none = some ⟨g, env.map ci⟩) (h2 : st.ob.getD o none = some ⟨go, lN p⟩) (hab : o ≠ a) : CallK P f args st d K := by
  have lt : ∀ {i : Nat} {x : Ob}, st.ob.getD i none = some x → i < st.ob.length := fun {i x} h => by
    rcases Nat.lt_or_ge i st.ob.length with h' | h'
    · exact h'
    · rw [List.getD_eq_getElem?_getD, List.getElem?_eq_none h'] at h; cases h
  have hc : obC [a] st.ob = [some ⟨g, env.map ci⟩] := by simp only [obC, List.map_cons, List.map_nil, h1, Option.map_some, still (ci_still env)]
  refine CallK.use (Q := fun r ob => r = I x ∧ ob = [some ⟨g, env.map ci⟩]) [a] [(o, go, encN p)] ⟨by simp, (fun s hs => by
    simp only [List.mem_cons, List.not_mem_nil, or_false] at hs
    rw [hs]; exact lt h1), (fun q hq => by
    simp only [List.mem_cons, List.not_mem_nil, or_false] at hq
    subst hq; simpa using hab), (fun q hq => by
    simp only [List.mem_cons, List.not_mem_nil, or_false] at hq
    subst hq; exact ⟨_, h2, rfl, false, (lN_encN p false).symm⟩)⟩ (by rw [ha, hc]; exact h) fun r ob1 ⟨e1, e2⟩ => ?_
  subst e1; subst e2
  refine ⟨by simp, .inr ⟨rfl, obFlat_noB (by simp only [obFlat, List.all_cons, List.all_nil, flatI, Bool.and_true])⟩, ?_⟩
  rw [← hc, obB_same (by simp) (fun s hs => by
    simp only [List.mem_cons, List.not_mem_nil, or_false] at hs
    rw [hs]; exact lt h1) (fun s hs y hy => by
    simp only [List.mem_cons, List.not_mem_nil, or_false] at hs
    rw [hs, h1] at hy
    cases hy
    exact flat_within (flatI _))]
  exact k
theorem lend_arg {p : List Nd} {go o a : Nat} (hao : o ≠ a) : LV.toC [a] [(o, go, encN p)] (.obj o go 6 0 p.length) = .dsl true p.length (encN p) := by
  unfold LV.toC
  have h1 : lk [(o, go, encN p)] o go = some (encN p) := by simp [lk]
  simp only [h1, List.drop_zero]
  congr 1
  exact List.take_of_length_le (by rw [encN_len]; exact Nat.le_refl _)
theorem qbP_b {t : List Nd} (hok : okT t = true) : ∀ x, x ≤ t.length → 0 ≤ qbP t x ∧ qbP t x ≤ 8 * (x : Int)
  | 0, _ => by simp [qbP]
  | x + 1, hx => by
    have ih := qbP_b hok x (by omega)
    simp only [qbP]
    unfold qbit
    split
    · rename_i h
      have := quant_rule (okT_node hok (show x < t.length by omega)) h
      omega
    · omega
theorem vos_0 {t : List Nd} {env : List Int} (h : (okT t && decide (env.length = 8)) = false) : vOkS t env = false := by unfold vOkS; rw [h]; rfl
theorem vos_3 {t : List Nd} {env : List Int} (h : (okT t && decide (env.length = 8)) = true) : vOkS t env = (decide (qbP (pruneT t) (pruneT t).length ≤ 12) && fitsT (pruneT t) env) := by unfold vOkS; rw [h]; rfl
theorem vaS_no {t : List Nd} {env : List Int} (h : vOkS t env = false) : valS t env = 0 := if_neg (by rw [h]; decide)
theorem vaS_yes {t : List Nd} {env : List Int} (h : vOkS t env = true) : valS t env = evT quS (pruneT t) env ((pruneT t).length - 1) := if_pos h
theorem sValue_c (t : List Nd) (env : List Int) (hlb : t.length ≤ 1048576) (heb : env.length ≤ 1048576) : Val E.P 41 [dN t, dI env] (.tup [TI (valS t env), TB (vOkS t env)]) := by
  refine CallsA.body (E := E) (fn := Tryz.f41) Tryz.func41 rfl fun B hB => ?_
  simp only [Tryz.ntmps41, go_sem, nl, Nat.reduceSub, Nat.reduceAdd, List.reduceReplicate]
  refine Wp.seqK fun K1 hK1 => ?_
  refine rg ?_
  refine hK1 _ ?_
  clear hK1 K1
  refine Wp.seqK fun K2 hK2 => ?_
  refine Wp.seqU0 [.k, .k, .d5, .d5, .d, .d, .d, .d, .v (T (!(okT t && decide (env.length = 8)))), .d5, .d5, .d5, .d5, .d5, .d5, .d5, .d, .d] (fun K3 hK3 => ?_) ?_
  · refine rg ?_
    refine ⟨rfl, CallK.valA (h := sTermOk_c _) (k := ?_)⟩
    refine evd ?_
    refine grdA_split rfl (fun g1_4 => ?_) (fun g1_4 => ?_)
    · try simp only [decide_eq_true_eq, decide_eq_false_iff_not] at g1_4
      try refine evd ?_
      have e : okT t = false := by simpa using g1_4
      exact hK3 _ (anyS (h := by rw [e] <;> rfl))
    · try simp only [decide_eq_true_eq, decide_eq_false_iff_not] at g1_4
      try refine evd ?_
      have e : okT t = true := by simpa using g1_4
      have e2 : decide ((env.length : Int) = 8) = decide (env.length = 8) := by rw [decide_eq_decide]; omega
      exact hK3 _ (anyS (h := by rw [e, ← e2] <;> rfl))
  rintro f3
  simp only [updT_k, updT_d, updT_d5, updT_v, updT_nil, Nat.reduceAdd]
  refine Wp.condS (fun h16 => ?_) (fun h16 => ?_)
  · have hv : vOkS t env = false := vos_0 (by simpa using h16)
    have hz := vaS_no hv
    refine Wp.seqK fun K4 hK4 => ?_
    refine rg ?_
    refine hK4 _ ?_
    clear hK4 K4
    refine Wp.ret (retV ?_)
    try simp only [List.getD_cons_zero, List.getD_cons_succ]
    rw [hz, hv] <;> rfl
  · have hoe : (okT t && decide (env.length = 8)) = true := by simpa using h16
    have hok : okT t = true := ((Bool.and_eq_true _ _).mp hoe).1
    have hel : env.length = 8 := of_decide_eq_true ((Bool.and_eq_true _ _).mp hoe).2
    have hl := okT_len hok
    have hpk := prune_ok hok
    have hpl := okT_len hpk
    have hv3 := vos_3 hoe
    refine Wp.skip ?_
    refine hK2 _ ?_
    clear hK2 K2
    refine Wp.seqK fun K5 hK5 => ?_
    refine rg ?_
    refine ⟨rfl, CallK.rowA (h := sPrune_c _) (k := ?_)⟩
    refine evd ?_
    refine hK5 _ ?_
    clear hK5 K5
    refine Wp.seqK fun K6 hK6 => ?_
    refine rg ?_
    refine hK6 _ ?_
    clear hK6 K6
    refine Wp.seqK fun K7 hK7 => ?_
    refine Wp.seqK fun K8 hK8 => ?_
    refine rg ?_
    refine hK8 _ ?_
    clear hK8 K8
    refine Wp.block ?_
    refine Wp.loopU (α := Nat) (fun x => [.d, .k, .d, .d, .d, .d, .k, .v (I (qbP (pruneT t) x)), .v (I x), .d5, .d5, .d5, .d5, .d5, .d5, .d5, .d5, .d5]) (fun x => [some ⟨0, lN (pruneT t)⟩]) (fun x => x ≤ (pruneT t).length) (fun x => (pruneT t).length - x) 0 (Nat.zero_le _) (anyS) ?_
    rintro x f9 K9 hx hK9
    simp only [updT_k, updT_d, updT_d5, updT_v, updT_nil, Nat.reduceAdd]
    have hqn := qbP_b hpk x hx
    refine Wp.seqK fun K10 hK10 => ?_
    refine Wp.seqK fun K11 hK11 => ?_
    refine rg ?_
    refine hK11 _ ?_
    clear hK11 K11
    refine Wp.condS (fun h22 => ?_) (fun h22 => ?_)
    · have hxl : x < (pruneT t).length := by omega
      refine Wp.skip ?_
      refine hK10 _ ?_
      clear hK10 K10
      refine Wp.seqU0 [.d, .k, .d, .d, .d, .d, .k, .v (I (qbP (pruneT t) (x + 1))), .k, .d5, .d5, .d5, .d5, .d5, .d5, .d5, .d5, .d5] (fun K12 hK12 => ?_) ?_
      · refine Wp.block ?_
        refine Wp.seqK fun K13 hK13 => ?_
        refine rg ?_
        refine ⟨rfl, CallK.valA (h := l02Quant_c _) (k := ?_)⟩
        refine evd ?_
        refine hK13 _ ?_
        clear hK13 K13
        refine Wp.condS (fun h30 => ?_) (fun h30 => ?_)
        · have hq2 : isQ ((pruneT t).getD x default).op = true := h30
          have hqb := quant_rule (okT_node hpk hxl) hq2
          have hs : qbP (pruneT t) (x + 1) = qbP (pruneT t) x + ((pruneT t).getD x default).b := by
            show qbP (pruneT t) x + qbit ((pruneT t).getD x default) = _
            unfold qbit
            rw [if_pos hq2]
          refine rg ?_
          try simp only [thn, inB, if_true, reduceIte]
          exact hK12 _ (anyS (h := by rw [hs] <;> rfl))
        · have hq2 : isQ ((pruneT t).getD x default).op = false := h30
          have hs : qbP (pruneT t) (x + 1) = qbP (pruneT t) x := by
            show qbP (pruneT t) x + qbit ((pruneT t).getD x default) = _
            unfold qbit
            rw [if_neg (by rw [hq2]; decide)]; omega
          refine Wp.skip ?_
          try simp only [thn, inB, if_true, reduceIte]
          exact hK12 _ (anyS (h := by rw [hs] <;> rfl))
      rintro f12
      simp only [updT_k, updT_d, updT_d5, updT_v, updT_nil, Nat.reduceAdd]
      refine rg ?_
      exact hK9 (x + 1) _ (by omega) (by omega) anyS
    · have hxl : x = (pruneT t).length := by omega
      subst hxl
      refine Wp.exit ?_
      try simp only [thn, inB, if_true, reduceIte]
      clear hK10 K10
      clear hK9 K9
      refine hK7 _ ?_
      clear hK7 K7
      refine Wp.seqK fun K14 hK14 => ?_
      refine Wp.seqU0 [.d, .k, .d, .d, .d, .d, .k, .d5, .d5, .d5, .d5, .d5, .d5, .d5, .d, .d, .d, .v (T (!(decide (qbP (pruneT t) (pruneT t).length ≤ 12) && fitsT (pruneT t) env))), .d5, .d, .d, .d] (fun K15 hK15 => ?_) ?_
      · refine rg ?_
        refine grdA_split rfl (fun g10_3 => ?_) (fun g10_3 => ?_)
        · try simp only [decide_eq_true_eq, decide_eq_false_iff_not] at g10_3
          try refine evd ?_
          have e : decide (qbP (pruneT t) (pruneT t).length ≤ 12) = false := decide_eq_false (by omega)
          exact hK15 _ (anyS (h := by rw [e] <;> rfl))
        · try simp only [decide_eq_true_eq, decide_eq_false_iff_not] at g10_3
          try refine evd ?_
          refine ⟨rfl, CallK.valA (h := l04Fits_c _ hpk (okT_len hpk) _ hel) (k := ?_)⟩
          refine evd ?_
          have e : decide (qbP (pruneT t) (pruneT t).length ≤ 12) = true := decide_eq_true (by omega)
          exact hK15 _ (anyS (h := by rw [e, Bool.true_and] <;> rfl))
      rintro f15
      simp only [updT_k, updT_d, updT_d5, updT_v, updT_nil, Nat.reduceAdd]
      refine Wp.condS (fun h45 => ?_) (fun h45 => ?_)
      · have hv : vOkS t env = false := by rw [hv3]; simpa using h45
        have hz := vaS_no hv
        refine Wp.seqK fun K16 hK16 => ?_
        refine rg ?_
        refine hK16 _ ?_
        clear hK16 K16
        refine Wp.ret (retV ?_)
        try simp only [List.getD_cons_zero, List.getD_cons_succ]
        rw [hz, hv] <;> rfl
      · have hv : vOkS t env = true := by rw [hv3]; simpa using h45
        have hz := vaS_yes hv
        refine Wp.skip ?_
        refine hK14 _ ?_
        clear hK14 K14
        refine Wp.seqK fun K17 hK17 => ?_
        refine rg ?_
        refine ⟨rfl, CallK.passL 1 0 (h := l04At_c (pruneT t) hpk hpl.2 ((pruneT t).length - 1) (by omega) 1 env hel) (k := ?_) (ha := by
          simp only [List.map_cons, List.map_nil, AV.toC]
          rw [lend_arg (by decide), hel, show (((pruneT t).length - 1 : Nat) : Int) = ((pruneT t).length : Int) - 1 by omega] <;> rfl) rfl rfl (by decide)⟩
        refine evd ?_
        refine hK17 _ ?_
        clear hK17 K17
        refine Wp.ret (retV ?_)
        try simp only [List.getD_cons_zero, List.getD_cons_succ]
        rw [hz, hv] <;> rfl
theorem zeros_c : Row E.P 42 [] 1 8 (zer8.map ci) := by
  refine CallsA.body (E := E) (fn := Tryz.f42) Tryz.func42 rfl fun B hB => ?_
  simp only [Tryz.ntmps42, go_sem, nl, Nat.reduceSub, Nat.reduceAdd, List.reduceReplicate]
  refine Wp.seqK fun K1 hK1 => ?_
  refine rg ?_
  refine hK1 _ ?_
  clear hK1 K1
  refine Wp.seqK fun K2 hK2 => ?_
  refine rg ?_
  refine hK2 _ ?_
  clear hK2 K2
  refine Wp.seqK fun K3 hK3 => ?_
  refine Wp.seqK fun K4 hK4 => ?_
  refine rg ?_
  refine hK4 _ ?_
  clear hK4 K4
  refine Wp.block ?_
  refine Wp.loopU (α := Nat) (fun x => [.d, .v (.l (.obj 0 x 1 0 x)), .v (I x), .d5, .d, .d, .d, .d]) (fun x => [some ⟨x, (List.replicate x (0 : Int)).map ci⟩]) (fun x => x ≤ 8) (fun x => 8 - x) 0 (Nat.zero_le _) (anyS) ?_
  rintro x f5 K5 hx hK5
  simp only [updT_k, updT_d, updT_d5, updT_v, updT_nil, Nat.reduceAdd]
  refine Wp.seqK fun K6 hK6 => ?_
  refine Wp.seqK fun K7 hK7 => ?_
  refine rg ?_
  refine hK7 _ ?_
  clear hK7 K7
  refine Wp.condS (fun h5 => ?_) (fun h5 => ?_)
  · have hx8 : x < 8 := by omega
    refine Wp.skip ?_
    refine hK6 _ ?_
    clear hK6 K6
    refine Wp.seqK fun K8 hK8 => ?_
    refine Wp.block ?_
    refine rg ?_
    try simp only [thn, inB, if_true, reduceIte]
    refine hK8 _ ?_
    clear hK8 K8
    refine Wp.keep 1 (by simp [hB]) (by simp) ?_
    refine evd ?_
    refine rg ?_
    exact hK5 (x + 1) _ (by omega) (by omega) (anyS (ho := by rw [List.replicate_succ] <;> rfl))
  · have hx8 : x = 8 := by omega
    subst hx8
    refine Wp.exit ?_
    try simp only [thn, inB, if_true, reduceIte]
    clear hK6 K6
    clear hK5 K5
    refine hK3 _ ?_
    clear hK3 K3
    refine Wp.seqK fun K9 hK9 => ?_
    refine rg ?_
    refine hK9 _ ?_
    clear hK9 K9
    refine Wp.ret (retR (cs := zer8.map ci) rfl rfl (flatI _))
theorem sHolds_c (t : List Nd) (hlb : t.length ≤ 1048576) : Val E.P 17 [dN t] (.tup [TI (holdsS t).1, TB (holdsS t).2]) := by
  refine CallsA.body (E := E) (fn := Tryz.f17) Tryz.func17 rfl fun B hB => ?_
  simp only [Tryz.ntmps17, go_sem, nl, Nat.reduceSub, Nat.reduceAdd, List.reduceReplicate]
  refine Wp.seqK fun K1 hK1 => ?_
  refine rg ?_
  refine hK1 _ ?_
  clear hK1 K1
  refine Wp.seqK fun K2 hK2 => ?_
  refine Wp.seqK fun K3 hK3 => ?_
  refine rg ?_
  refine ⟨rfl, CallK.valA (h := sSentence_c _) (k := ?_)⟩
  refine evd ?_
  refine hK3 _ ?_
  clear hK3 K3
  refine Wp.condS (fun h6 => ?_) (fun h6 => ?_)
  · have e : holdsS t = (0, false) := if_neg (by simpa using h6)
    refine Wp.seqK fun K4 hK4 => ?_
    refine rg ?_
    refine hK4 _ ?_
    clear hK4 K4
    refine Wp.ret (retV ?_)
    try simp only [List.getD_cons_zero, List.getD_cons_succ]
    rw [e] <;> rfl
  · have e : holdsS t = (valS t zer8, vOkS t zer8) := if_pos (by simpa using h6)
    refine Wp.skip ?_
    refine hK2 _ ?_
    clear hK2 K2
    refine Wp.seqK fun K5 hK5 => ?_
    refine rg ?_
    refine ⟨rfl, CallK.rowA (h := zeros_c) (k := ?_)⟩
    refine evd ?_
    refine ⟨rfl, CallK.valA (h := sValue_c _ zer8 hlb (by decide)) (k := ?_)⟩
    refine evd ?_
    refine hK5 _ ?_
    clear hK5 K5
    refine Wp.ret (retV ?_)
    try simp only [List.getD_cons_zero, List.getD_cons_succ]
    rw [e] <;> rfl
end Go.Proofs.YtkdkbnacelnljaaGreat.RE

/-! Equal terms, both sides. Conditions: those that a theorem names. -/
set_option linter.unusedVariables false
set_option linter.unusedSimpArgs false
namespace Go.Proofs.YtkdkbnacelnljaaGreat.RE
open Go Go.RowKit
set_option maxRecDepth 100000
set_option maxHeartbeats 8000000
/-! ### Two terms joined -/
theorem joinFn_c (d p : Int) (hd : 0 ≤ d ∧ d ≤ 100) (i : Nat) (hi : i ≤ 80) (hp : 0 ≤ p ∧ p < (i : Int)) : CallsA E.P 58 [I p, .l (.ptr 0 0 0)] [some ⟨0, [ci d]⟩] fun r ob => r = I (p + d) ∧ ob = [some ⟨0, [ci d]⟩] := by
  refine CallsA.body (E := E) (fn := Tryz.f58) Tryz.func58 rfl fun B hB => ?_
  simp only [Tryz.ntmps58, go_sem, nl, Nat.reduceSub, Nat.reduceAdd, List.reduceReplicate]
  refine Wp.seqK fun K1 hK1 => ?_
  refine rg ?_
  refine hK1 _ ?_
  clear hK1 K1
  refine Wp.seqK fun K2 hK2 => ?_
  refine rg ?_
  refine hK2 _ ?_
  clear hK2 K2
  refine Wp.ret (retH (n := 1) rfl rfl)
theorem renumJ_c (n : Nd) (d : Int) (hd : 0 ≤ d ∧ d ≤ 100) (i : Nat) (hi : i ≤ 80) (hp : ∀ p ∈ parts n, 0 ≤ p ∧ p < (i : Int)) : CallsA E.P 57 [.agg (nl n), .l (.clo 58 [(0, 0, 0)])] [some ⟨0, [ci d]⟩] fun r ob => r = .agg (nl (renF (fun p : Int => p + d) n)) ∧ ob = [some ⟨0, [ci d]⟩] := by
  refine CallsA.body (E := E) (fn := Tryz.f57) Tryz.func57 rfl fun B hB => ?_
  simp only [Tryz.ntmps57, go_sem, nl, Nat.reduceSub, Nat.reduceAdd, List.reduceReplicate]
  have hpl := parts_len n
  refine Wp.seqK fun K1 hK1 => ?_
  refine rg ?_
  refine hK1 _ ?_
  clear hK1 K1
  refine Wp.seqK fun K2 hK2 => ?_
  refine rg ?_
  refine ⟨rfl, CallK.rowA (h := iParts_c _) (k := ?_)⟩
  refine evd ?_
  refine hK2 _ ?_
  clear hK2 K2
  refine Wp.seqU (α := Unit) (fun u_ => [.d, .k, .k, .d, .k, .k, .d5, .d5, .d5, .d5, .d5]) (fun u_ => [some ⟨0, [ci d]⟩, some ⟨0, nl ⟨n.op, n.w, n.k, (rA (fun p : Int => p + d) n), n.b, n.c⟩⟩, some ⟨0, nl ⟨0, 0, 0, 0, 0, 0⟩⟩]) (fun u_ => True) (fun K3 hK3 => ?_) ?_
  · refine Wp.seqK fun K4 hK4 => ?_
    refine Wp.keep 3 (by simp [hB]) (by simp) ?_
    refine evd ?_
    refine rg ?_
    refine hK4 _ ?_
    clear hK4 K4
    refine Wp.condS (fun h10 => ?_) (fun h10 => ?_)
    · have hk : 0 < (parts n).length := by omega
      have hq := part_a hp hk
      refine rg ?_
      refine ⟨rfl, CallK.passS [0] (joinFn_c d _ hd i hi hq) ?_⟩
      refine evd ?_
      exact hK3 () _ trivial (anyS (ho := by rw [show rA (fun p : Int => p + d) n = (fun p : Int => p + d) n.a from if_pos (by omega)] <;> rfl))
    · refine Wp.skip ?_
      exact hK3 () _ trivial (anyS (ho := by rw [show rA (fun p : Int => p + d) n = n.a from if_neg (by omega)] <;> rfl))
  rintro _ f3 _
  simp only [updT_k, updT_d, updT_d5, updT_v, updT_nil, Nat.reduceAdd]
  refine Wp.seqU (α := Unit) (fun u_ => [.d, .k, .k, .d, .k, .k, .d5, .d5, .d5, .d5, .d5]) (fun u_ => [some ⟨0, [ci d]⟩, some ⟨0, nl ⟨n.op, n.w, n.k, (rA (fun p : Int => p + d) n), (rB' (fun p : Int => p + d) n), n.c⟩⟩, some ⟨0, nl ⟨0, 0, 0, 0, 0, 0⟩⟩]) (fun u_ => True) (fun K5 hK5 => ?_) ?_
  · refine Wp.seqK fun K6 hK6 => ?_
    refine rg ?_
    refine hK6 _ ?_
    clear hK6 K6
    refine Wp.condS (fun h17 => ?_) (fun h17 => ?_)
    · have hk : 1 < (parts n).length := by omega
      have hq := part_b hp hk
      refine rg ?_
      refine ⟨rfl, CallK.passS [0] (joinFn_c d _ hd i hi hq) ?_⟩
      refine evd ?_
      exact hK5 () _ trivial (anyS (ho := by rw [show rB' (fun p : Int => p + d) n = (fun p : Int => p + d) n.b from if_pos (by omega)] <;> rfl))
    · refine Wp.skip ?_
      exact hK5 () _ trivial (anyS (ho := by rw [show rB' (fun p : Int => p + d) n = n.b from if_neg (by omega)] <;> rfl))
  rintro _ f5 _
  simp only [updT_k, updT_d, updT_d5, updT_v, updT_nil, Nat.reduceAdd]
  refine Wp.seqU (α := Unit) (fun u_ => [.d, .d, .k, .d, .k, .d5, .d5, .d5, .d5, .d5, .d]) (fun u_ => [some ⟨0, [ci d]⟩, some ⟨0, nl ⟨n.op, n.w, n.k, (rA (fun p : Int => p + d) n), (rB' (fun p : Int => p + d) n), (rC (fun p : Int => p + d) n)⟩⟩, some ⟨0, nl ⟨0, 0, 0, 0, 0, 0⟩⟩]) (fun u_ => True) (fun K7 hK7 => ?_) ?_
  · refine Wp.seqK fun K8 hK8 => ?_
    refine rg ?_
    refine hK8 _ ?_
    clear hK8 K8
    refine Wp.condS (fun h24 => ?_) (fun h24 => ?_)
    · have hk : 2 < (parts n).length := by omega
      have hq := part_c hp hk
      refine rg ?_
      refine ⟨rfl, CallK.passS [0] (joinFn_c d _ hd i hi hq) ?_⟩
      refine evd ?_
      exact hK7 () _ trivial (anyS (ho := by rw [show rC (fun p : Int => p + d) n = (fun p : Int => p + d) n.c from if_pos (by omega)] <;> rfl))
    · refine Wp.skip ?_
      exact hK7 () _ trivial (anyS (ho := by rw [show rC (fun p : Int => p + d) n = n.c from if_neg (by omega)] <;> rfl))
  rintro _ f7 _
  simp only [updT_k, updT_d, updT_d5, updT_v, updT_nil, Nat.reduceAdd]
  refine Wp.seqK fun K9 hK9 => ?_
  refine rg ?_
  refine hK9 _ ?_
  clear hK9 K9
  refine Wp.ret (retH (n := 1) (v := .agg (nl (renF (fun p : Int => p + d) n))) rfl rfl)
def jN (a b : List Nd) (x : Nat) : List Nd := a ++ (b.take x).map (renF fun p => p + (a.length : Int))
theorem jN_0 (a b : List Nd) : jN a b 0 = a := by simp [jN]
theorem jN_end (a b : List Nd) : jN a b b.length = joinL a b := by simp [jN, joinL]
theorem jN_len {a b : List Nd} {x : Nat} (h : x ≤ b.length) : (jN a b x).length = a.length + x := by simp [jN]; omega
theorem jN_push {a b : List Nd} {x : Nat} (h : x < b.length) : jN a b x ++ [renF (fun p => p + (a.length : Int)) (b.getD x default)] = jN a b (x + 1) := by
  unfold jN
  rw [take_push default h, List.map_append, List.append_assoc]; rfl
theorem jT_no {a b : List Nd} {op : Int} (h : (okT a && okT b) = false) : joinT a b op = ([], false) := by unfold joinT; rw [if_neg (by rw [h]; decide)]
theorem jT_yes {a b : List Nd} {op : Int} (h : (okT a && okT b) = true) : joinT a b op = addT (joinL a b) (endN a b op) := by unfold joinT; rw [if_pos h]
theorem joined_c (a b : List Nd) (op : Int) (ha : a.length ≤ 1048576) (hb : b.length ≤ 1048576) : Ret E.P 27 [dN a, dN b, I op] (.tup [.l (.obj 0 0 6 0 (joinT a b op).1.length), TB (joinT a b op).2]) [some ⟨0, lN (joinT a b op).1⟩] := by
  refine CallsA.body (E := E) (fn := Tryz.f27) Tryz.func27 rfl fun B hB => ?_
  simp only [Tryz.ntmps27, go_sem, nl, Nat.reduceSub, Nat.reduceAdd, List.reduceReplicate]
  refine Wp.seqK fun K1 hK1 => ?_
  refine rg ?_
  refine hK1 _ ?_
  clear hK1 K1
  refine Wp.seqK fun K2 hK2 => ?_
  refine Wp.seqU0 [.k, .k, .k, .d5, .d5, .d5, .d, .v (T (!(okT a && okT b))), .d5, .d5, .d5, .d5, .d5, .d, .d, .d] (fun K3 hK3 => ?_) ?_
  · refine rg ?_
    refine ⟨rfl, CallK.valA (h := iTermOk_c _) (k := ?_)⟩
    refine evd ?_
    refine grdA_split rfl (fun g1_4 => ?_) (fun g1_4 => ?_)
    · try simp only [decide_eq_true_eq, decide_eq_false_iff_not] at g1_4
      try refine evd ?_
      have e : okT a = false := by simpa using g1_4
      exact hK3 _ (anyS (h := by rw [e] <;> rfl))
    · try simp only [decide_eq_true_eq, decide_eq_false_iff_not] at g1_4
      try refine evd ?_
      refine ⟨rfl, CallK.valA (h := iTermOk_c _) (k := ?_)⟩
      refine evd ?_
      have e : okT a = true := by simpa using g1_4
      exact hK3 _ (anyS (h := by rw [e] <;> rfl))
  rintro f3
  simp only [updT_k, updT_d, updT_d5, updT_v, updT_nil, Nat.reduceAdd]
  refine Wp.condS (fun h19 => ?_) (fun h19 => ?_)
  · have hab : (okT a && okT b) = false := by simpa using h19
    have hj := jT_no (op := op) hab
    refine Wp.seqK fun K4 hK4 => ?_
    refine rg ?_
    refine hK4 _ ?_
    clear hK4 K4
    refine Wp.nilRow 6 6 rfl ?_
    simp only [List.set_cons_zero, List.set_cons_succ, List.cons_append, List.nil_append, List.length_cons, List.length_nil]
    refine Wp.ret (retRB ?_ ?_ ?_)
    all_goals rw [hj]
    all_goals rfl
  · have hab : (okT a && okT b) = true := by simpa using h19
    have hj := jT_yes (op := op) hab
    have hoa : okT a = true := ((Bool.and_eq_true _ _).mp hab).1
    have hob : okT b = true := ((Bool.and_eq_true _ _).mp hab).2
    have hla := okT_len hoa
    have hlb := okT_len hob
    have hpo := okT_parts hob
    refine Wp.skip ?_
    refine hK2 _ ?_
    clear hK2 K2
    refine Wp.seqK fun K5 hK5 => ?_
    refine rg ?_
    refine hK5 _ ?_
    clear hK5 K5
    refine Wp.seqK fun K6 hK6 => ?_
    refine rg ?_
    refine hK6 _ ?_
    clear hK6 K6
    refine Wp.seqK fun K7 hK7 => ?_
    refine Wp.seqK fun K8 hK8 => ?_
    refine rg ?_
    refine hK8 _ ?_
    clear hK8 K8
    refine Wp.block ?_
    refine Wp.loopU (α := Nat) (fun x => [.d, .d, .k, .d5, .k, .v (.l (.obj 1 x 6 0 (a.length + x))), .d5, .d5, .d, .d, .d, .d, .k, .k, .v (I x), .d5, .d5, .d5, .d5, .d]) (fun x => [some ⟨0, [ci (a.length : Int)]⟩, some ⟨x, lN (jN a b x)⟩]) (fun x => x ≤ b.length) (fun x => b.length - x) 0 (Nat.zero_le _) (anyS (ho := by rw [jN_0] <;> rfl)) ?_
    rintro x f9 K9 hx hK9
    simp only [updT_k, updT_d, updT_d5, updT_v, updT_nil, Nat.reduceAdd]
    have hjl := jN_len (a := a) hx
    refine Wp.seqK fun K10 hK10 => ?_
    refine rg ?_
    refine hK10 _ ?_
    clear hK10 K10
    refine Wp.seqK fun K11 hK11 => ?_
    refine Wp.condS (fun h27 => ?_) (fun h27 => ?_)
    · have hxl : x < b.length := by omega
      have hpp := hpo x hxl
      refine Wp.skip ?_
      refine hK11 _ ?_
      clear hK11 K11
      refine Wp.seqK fun K12 hK12 => ?_
      refine Wp.block ?_
      refine Wp.seqK fun K13 hK13 => ?_
      refine rg ?_
      refine hK13 _ ?_
      clear hK13 K13
      refine rg ?_
      refine ⟨rfl, CallK.passS [0] (h := renumJ_c (b.getD x default) (a.length : Int) (by omega) x (by omega) hpp) (k := ?_)⟩
      refine evd ?_
      try simp only [thn, inB, if_true, reduceIte]
      refine hK12 _ ?_
      clear hK12 K12
      refine Wp.keep 2 (by simp [hB]) (by simp) ?_
      refine evd ?_
      refine rg ?_
      exact hK9 (x + 1) _ (by omega) (by omega) (anyS (ho := by rw [← jN_push hxl] <;> rfl))
    · have hxl : x = b.length := by omega
      subst hxl
      simp only [jN_end]
      have hjl := joinL_len a b
      refine Wp.exit ?_
      try simp only [thn, inB, if_true, reduceIte]
      clear hK11 K11
      clear hK9 K9
      refine hK7 _ ?_
      clear hK7 K7
      refine Wp.seqK fun K14 hK14 => ?_
      refine rg ?_
      simp only [show (((a.length + b.length : Nat) : Int)) - 1 = (a.length : Int) + (b.length : Int) - 1 by omega]
      refine ⟨rfl, CallK.retA (h := behind_c (joinL a b) (endN a b op) (by omega) (by omega)) (ha := ArgsL.rowN (L := [(1, b.length, encN (joinL a b))]) rfl (by omega) (by simp [lk]) (.same rfl .nil)) (k := ?_)⟩
      refine evd ?_
      refine hK14 _ ?_
      clear hK14 K14
      rw [hj]
      refine Wp.ret (retRB (cs := lN (addT (joinL a b) (endN a b op)).1) ?_ ?_ ?_)
      all_goals rfl
theorem joinT_len (a b : List Nd) (op : Int) : (joinT a b op).1.length ≤ 80 := by
  unfold joinT
  split
  · exact addT_len _ _
  · exact Nat.zero_le _
theorem iValid_c (t : List Nd) (hlb : t.length ≤ 1048576) : Val E.P 28 [dN t] (.tup [TI (validI t).1, TB (validI t).2]) := by
  refine CallsA.body (E := E) (fn := Tryz.f28) Tryz.func28 rfl fun B hB => ?_
  simp only [Tryz.ntmps28, go_sem, nl, Nat.reduceSub, Nat.reduceAdd, List.reduceReplicate]
  have hcl := closeT_len t
  refine Wp.seqK fun K1 hK1 => ?_
  refine rg ?_
  refine hK1 _ ?_
  clear hK1 K1
  refine Wp.seqK fun K2 hK2 => ?_
  refine rg ?_
  refine ⟨rfl, CallK.retA (h := iCloseAll_c _) (k := ?_)⟩
  refine evd ?_
  refine hK2 _ ?_
  clear hK2 K2
  refine Wp.seqK fun K3 hK3 => ?_
  refine Wp.seqK fun K4 hK4 => ?_
  refine rg ?_
  refine hK4 _ ?_
  clear hK4 K4
  refine Wp.condS (fun h12 => ?_) (fun h12 => ?_)
  · have e : validI t = (0, false) := if_neg (by simpa using h12)
    refine Wp.seqK fun K5 hK5 => ?_
    refine rg ?_
    refine hK5 _ ?_
    clear hK5 K5
    refine Wp.ret (retV ?_)
    try simp only [List.getD_cons_zero, List.getD_cons_succ]
    rw [e] <;> rfl
  · have e : validI t = holdsI (closeT t).1 := if_pos (by simpa using h12)
    refine Wp.skip ?_
    refine hK3 _ ?_
    clear hK3 K3
    refine Wp.seqK fun K6 hK6 => ?_
    refine rg ?_
    refine ⟨rfl, CallK.valA (h := iHolds_c _ (by omega)) (k := ?_)⟩
    refine evd ?_
    refine hK6 _ ?_
    clear hK6 K6
    refine Wp.ret (retV ?_)
    try simp only [List.getD_cons_zero, List.getD_cons_succ]
    rw [e] <;> rfl
theorem sValid_c (t : List Nd) (hlb : t.length ≤ 1048576) : Val E.P 25 [dN t] (.tup [TI (validS t).1, TB (validS t).2]) := by
  refine CallsA.body (E := E) (fn := Tryz.f25) Tryz.func25 rfl fun B hB => ?_
  simp only [Tryz.ntmps25, go_sem, nl, Nat.reduceSub, Nat.reduceAdd, List.reduceReplicate]
  have hcl := closeT_len t
  refine Wp.seqK fun K1 hK1 => ?_
  refine rg ?_
  refine hK1 _ ?_
  clear hK1 K1
  refine Wp.seqK fun K2 hK2 => ?_
  refine rg ?_
  refine ⟨rfl, CallK.retA (h := sCloseAll_c _) (k := ?_)⟩
  refine evd ?_
  refine hK2 _ ?_
  clear hK2 K2
  refine Wp.seqK fun K3 hK3 => ?_
  refine Wp.seqK fun K4 hK4 => ?_
  refine rg ?_
  refine hK4 _ ?_
  clear hK4 K4
  refine Wp.condS (fun h12 => ?_) (fun h12 => ?_)
  · have e : validS t = (0, false) := if_neg (by simpa using h12)
    refine Wp.seqK fun K5 hK5 => ?_
    refine rg ?_
    refine hK5 _ ?_
    clear hK5 K5
    refine Wp.ret (retV ?_)
    try simp only [List.getD_cons_zero, List.getD_cons_succ]
    rw [e] <;> rfl
  · have e : validS t = holdsS (closeT t).1 := if_pos (by simpa using h12)
    refine Wp.skip ?_
    refine hK3 _ ?_
    clear hK3 K3
    refine Wp.seqK fun K6 hK6 => ?_
    refine rg ?_
    refine ⟨rfl, CallK.valA (h := sHolds_c _ (by omega)) (k := ?_)⟩
    refine evd ?_
    refine hK6 _ ?_
    clear hK6 K6
    refine Wp.ret (retV ?_)
    try simp only [List.getD_cons_zero, List.getD_cons_succ]
    rw [e] <;> rfl
theorem iEqual_c (a b : List Nd) (ha : a.length ≤ 1048576) (hb : b.length ≤ 1048576) : Val E.P 9 [dN a, dN b] (.tup [TI (equalI a b).1, TB (equalI a b).2]) := by
  refine CallsA.body (E := E) (fn := Tryz.f9) Tryz.func9 rfl fun B hB => ?_
  simp only [Tryz.ntmps9, go_sem, nl, Nat.reduceSub, Nat.reduceAdd, List.reduceReplicate]
  have hjl := joinT_len a b 13
  refine Wp.seqK fun K1 hK1 => ?_
  refine rg ?_
  refine hK1 _ ?_
  clear hK1 K1
  refine Wp.seqK fun K2 hK2 => ?_
  refine rg ?_
  refine ⟨rfl, CallK.retA (h := joined_c _ _ _ (by omega) (by omega)) (k := ?_)⟩
  refine evd ?_
  refine hK2 _ ?_
  clear hK2 K2
  refine Wp.seqK fun K3 hK3 => ?_
  refine Wp.seqK fun K4 hK4 => ?_
  refine rg ?_
  refine hK4 _ ?_
  clear hK4 K4
  refine Wp.condS (fun h15 => ?_) (fun h15 => ?_)
  · have e : equalI a b = (0, false) := if_neg (by simpa using h15)
    refine Wp.seqK fun K5 hK5 => ?_
    refine rg ?_
    refine hK5 _ ?_
    clear hK5 K5
    refine Wp.ret (retV ?_)
    try simp only [List.getD_cons_zero, List.getD_cons_succ]
    rw [e] <;> rfl
  · have e : equalI a b = validI (joinT a b 13).1 := if_pos (by simpa using h15)
    refine Wp.skip ?_
    refine hK3 _ ?_
    clear hK3 K3
    refine Wp.seqK fun K6 hK6 => ?_
    refine rg ?_
    refine ⟨rfl, CallK.valA (h := iValid_c _ (by omega)) (k := ?_)⟩
    refine evd ?_
    refine hK6 _ ?_
    clear hK6 K6
    refine Wp.ret (retV ?_)
    try simp only [List.getD_cons_zero, List.getD_cons_succ]
    rw [e] <;> rfl
theorem l15Join_c (a b : List Nd) (hoa : okT a = true) (hob : okT b = true) : Row E.P 24 [dN a, dN b] 6 (joinL a b).length (lN (joinL a b)) := by
  refine CallsA.body (E := E) (fn := Tryz.f24) Tryz.func24 rfl fun B hB => ?_
  simp only [Tryz.ntmps24, go_sem, nl, Nat.reduceSub, Nat.reduceAdd, List.reduceReplicate]
  have hpo := okT_parts hob
  have hla := okT_len hoa
  have hlb := okT_len hob
  refine Wp.seqK fun K1 hK1 => ?_
  refine rg ?_
  refine hK1 _ ?_
  clear hK1 K1
  refine Wp.seqK fun K2 hK2 => ?_
  refine rg ?_
  refine hK2 _ ?_
  clear hK2 K2
  refine Wp.seqK fun K3 hK3 => ?_
  refine Wp.seqK fun K4 hK4 => ?_
  refine rg ?_
  refine hK4 _ ?_
  clear hK4 K4
  refine Wp.block ?_
  refine Wp.loopU (α := Nat) (fun x => [.k, .k, .d, .d, .d, .v (.l (.obj 0 (x + 1) 6 0 (a.length + x))), .v (I x), .d5, .d5, .d5, .d5, .d5, .d5, .d5, .d5, .d5, .d, .d, .d, .d]) (fun x => [some ⟨x + 1, lN (jN a b x)⟩]) (fun x => x ≤ b.length) (fun x => b.length - x) 0 (Nat.zero_le _) (anyS (ho := by rw [jN_0] <;> rfl)) ?_
  rintro x f5 K5 hx hK5
  simp only [updT_k, updT_d, updT_d5, updT_v, updT_nil, Nat.reduceAdd]
  have hjl := jN_len (a := a) hx
  refine Wp.seqK fun K6 hK6 => ?_
  refine Wp.seqK fun K7 hK7 => ?_
  refine rg ?_
  refine hK7 _ ?_
  clear hK7 K7
  refine Wp.condS (fun h15 => ?_) (fun h15 => ?_)
  · have hxl : x < b.length := by omega
    have hpp := hpo x hxl
    have hpl := parts_len (b.getD x default)
    have hna := part_a hpp
    have hnb := part_b hpp
    have hnc := part_c hpp
    refine Wp.skip ?_
    refine hK6 _ ?_
    clear hK6 K6
    refine Wp.seqK fun K8 hK8 => ?_
    refine Wp.block ?_
    refine Wp.seqK fun K9 hK9 => ?_
    refine rg ?_
    refine hK9 _ ?_
    clear hK9 K9
    refine Wp.seqK fun K10 hK10 => ?_
    refine rg ?_
    refine ⟨rfl, CallK.rowA (h := sParts_c _) (k := ?_)⟩
    refine evd ?_
    refine hK10 _ ?_
    clear hK10 K10
    refine Wp.seqU (α := Unit) (fun u_ => [.k, .k, .d, .d, .d, .k, .k, .k, .k, .d5, .d5, .d5, .d5, .d5, .d5, .d5, .d5, .d5, .d, .d]) (fun u_ => [some ⟨x + 1, lN (jN a b x)⟩, some ⟨0, nl ⟨(b.getD x default).op, (b.getD x default).w, (b.getD x default).k, (rA (fun p : Int => p + (a.length : Int)) (b.getD x default)), (b.getD x default).b, (b.getD x default).c⟩⟩, some ⟨0, (parts (b.getD x default)).map ci⟩]) (fun u_ => True) (fun K11 hK11 => ?_) ?_
    · refine Wp.seqK fun K12 hK12 => ?_
      refine rg ?_
      refine hK12 _ ?_
      clear hK12 K12
      refine Wp.condS (fun h26 => ?_) (fun h26 => ?_)
      · have hq := hna (by omega)
        refine rg ?_
        exact hK11 () _ trivial (anyS (ho := by rw [show rA (fun p : Int => p + (a.length : Int)) (b.getD x default) = (b.getD x default).a + (a.length : Int) from if_pos (by omega)] <;> rfl))
      · refine Wp.skip ?_
        exact hK11 () _ trivial (anyS (ho := by rw [show rA (fun p : Int => p + (a.length : Int)) (b.getD x default) = (b.getD x default).a from if_neg (by omega)] <;> rfl))
    rintro _ f11 _
    simp only [updT_k, updT_d, updT_d5, updT_v, updT_nil, Nat.reduceAdd]
    refine Wp.seqU (α := Unit) (fun u_ => [.k, .k, .d, .d, .d, .k, .k, .k, .k, .d5, .d5, .d5, .d5, .d5, .d5, .d5, .d5, .d5, .d, .d]) (fun u_ => [some ⟨x + 1, lN (jN a b x)⟩, some ⟨0, nl ⟨(b.getD x default).op, (b.getD x default).w, (b.getD x default).k, (rA (fun p : Int => p + (a.length : Int)) (b.getD x default)), (rB' (fun p : Int => p + (a.length : Int)) (b.getD x default)), (b.getD x default).c⟩⟩, some ⟨0, (parts (b.getD x default)).map ci⟩]) (fun u_ => True) (fun K13 hK13 => ?_) ?_
    · refine Wp.seqK fun K14 hK14 => ?_
      refine rg ?_
      refine hK14 _ ?_
      clear hK14 K14
      refine Wp.condS (fun h35 => ?_) (fun h35 => ?_)
      · have hq := hnb (by omega)
        refine rg ?_
        exact hK13 () _ trivial (anyS (ho := by rw [show rB' (fun p : Int => p + (a.length : Int)) (b.getD x default) = (b.getD x default).b + (a.length : Int) from if_pos (by omega)] <;> rfl))
      · refine Wp.skip ?_
        exact hK13 () _ trivial (anyS (ho := by rw [show rB' (fun p : Int => p + (a.length : Int)) (b.getD x default) = (b.getD x default).b from if_neg (by omega)] <;> rfl))
    rintro _ f13 _
    simp only [updT_k, updT_d, updT_d5, updT_v, updT_nil, Nat.reduceAdd]
    refine Wp.seqU (α := Unit) (fun u_ => [.k, .k, .d, .d, .d, .k, .k, .k, .d5, .d5, .d5, .d5, .d5, .d5, .d5, .d5, .d5, .d, .d, .d]) (fun u_ => [some ⟨x + 1, lN (jN a b x)⟩, some ⟨0, nl ⟨(b.getD x default).op, (b.getD x default).w, (b.getD x default).k, (rA (fun p : Int => p + (a.length : Int)) (b.getD x default)), (rB' (fun p : Int => p + (a.length : Int)) (b.getD x default)), (rC (fun p : Int => p + (a.length : Int)) (b.getD x default))⟩⟩, some ⟨0, (parts (b.getD x default)).map ci⟩]) (fun u_ => True) (fun K15 hK15 => ?_) ?_
    · refine Wp.seqK fun K16 hK16 => ?_
      refine rg ?_
      refine hK16 _ ?_
      clear hK16 K16
      refine Wp.condS (fun h44 => ?_) (fun h44 => ?_)
      · have hq := hnc (by omega)
        refine rg ?_
        exact hK15 () _ trivial (anyS (ho := by rw [show rC (fun p : Int => p + (a.length : Int)) (b.getD x default) = (b.getD x default).c + (a.length : Int) from if_pos (by omega)] <;> rfl))
      · refine Wp.skip ?_
        exact hK15 () _ trivial (anyS (ho := by rw [show rC (fun p : Int => p + (a.length : Int)) (b.getD x default) = (b.getD x default).c from if_neg (by omega)] <;> rfl))
    rintro _ f15 _
    simp only [updT_k, updT_d, updT_d5, updT_v, updT_nil, Nat.reduceAdd]
    refine rg ?_
    try simp only [thn, inB, if_true, reduceIte]
    refine hK8 _ ?_
    clear hK8 K8
    refine Wp.keep 1 (by simp [hB]) (by simp) ?_
    refine evd ?_
    refine rg ?_
    exact hK5 (x + 1) _ (by omega) (by omega) (anyS (ho := by rw [← jN_push hxl] <;> rfl))
  · have hxl : x = b.length := by omega
    subst hxl
    simp only [jN_end]
    refine Wp.exit ?_
    try simp only [thn, inB, if_true, reduceIte]
    clear hK6 K6
    clear hK5 K5
    refine hK3 _ ?_
    clear hK3 K3
    refine Wp.seqK fun K17 hK17 => ?_
    refine rg ?_
    refine hK17 _ ?_
    clear hK17 K17
    refine Wp.ret (retR (cs := lN (joinL a b)) (by rw [joinL_len]) rfl (lN_flat _))
theorem sEqual_c (a b : List Nd) (ha : a.length ≤ 1048576) (hb : b.length ≤ 1048576) : Val E.P 7 [dN a, dN b] (.tup [TI (equalS a b).1, TB (equalS a b).2]) := by
  refine CallsA.body (E := E) (fn := Tryz.f7) Tryz.func7 rfl fun B hB => ?_
  simp only [Tryz.ntmps7, go_sem, nl, Nat.reduceSub, Nat.reduceAdd, List.reduceReplicate]
  refine Wp.seqK fun K1 hK1 => ?_
  refine rg ?_
  refine hK1 _ ?_
  clear hK1 K1
  refine Wp.seqK fun K2 hK2 => ?_
  refine Wp.seqU0 [.k, .k, .d5, .d5, .d, .d, .v (T (!(okT a && okT b))), .d5, .d5, .d5, .d] (fun K3 hK3 => ?_) ?_
  · refine rg ?_
    refine ⟨rfl, CallK.valA (h := sTermOk_c _) (k := ?_)⟩
    refine evd ?_
    refine grdA_split rfl (fun g1_4 => ?_) (fun g1_4 => ?_)
    · try simp only [decide_eq_true_eq, decide_eq_false_iff_not] at g1_4
      try refine evd ?_
      have e : okT a = false := by simpa using g1_4
      exact hK3 _ (anyS (h := by rw [e] <;> rfl))
    · try simp only [decide_eq_true_eq, decide_eq_false_iff_not] at g1_4
      try refine evd ?_
      refine ⟨rfl, CallK.valA (h := sTermOk_c _) (k := ?_)⟩
      refine evd ?_
      have e : okT a = true := by simpa using g1_4
      exact hK3 _ (anyS (h := by rw [e] <;> rfl))
  rintro f3
  simp only [updT_k, updT_d, updT_d5, updT_v, updT_nil, Nat.reduceAdd]
  refine Wp.condS (fun h14 => ?_) (fun h14 => ?_)
  · have hab : (okT a && okT b) = false := by simpa using h14
    have e : equalS a b = (0, false) := if_neg (by rw [hab]; decide)
    refine Wp.seqK fun K4 hK4 => ?_
    refine rg ?_
    refine hK4 _ ?_
    clear hK4 K4
    refine Wp.ret (retV ?_)
    try simp only [List.getD_cons_zero, List.getD_cons_succ]
    rw [e] <;> rfl
  · have hab : (okT a && okT b) = true := by simpa using h14
    have hoa : okT a = true := ((Bool.and_eq_true _ _).mp hab).1
    have hob : okT b = true := ((Bool.and_eq_true _ _).mp hab).2
    have hla := okT_len hoa
    have hlb := okT_len hob
    have hjl := joinL_len a b
    have e : equalS a b = validS (joinL a b ++ [endN a b 13]) := if_pos hab
    refine Wp.skip ?_
    refine hK2 _ ?_
    clear hK2 K2
    refine Wp.seqK fun K5 hK5 => ?_
    refine rg ?_
    refine ⟨rfl, CallK.rowA (h := l15Join_c _ _ hoa hob) (k := ?_)⟩
    refine evd ?_
    refine hK5 _ ?_
    clear hK5 K5
    refine Wp.seqK fun K6 hK6 => ?_
    refine rg ?_
    simp only [show ((joinL a b).length : Int) - 1 = (a.length : Int) + (b.length : Int) - 1 by omega]
    refine ⟨rfl, CallK.valA (h := sValid_c (joinL a b ++ [endN a b 13]) (by simp; omega)) (k := ?_)⟩
    refine evd ?_
    refine hK6 _ ?_
    clear hK6 K6
    refine Wp.ret (retV ?_)
    try simp only [List.getD_cons_zero, List.getD_cons_succ]
    rw [e] <;> rfl
end Go.Proofs.YtkdkbnacelnljaaGreat.RE

/-! Equal terms, the law. Conditions: those that a theorem names. -/
set_option linter.unusedVariables false
set_option linter.unusedSimpArgs false
namespace Go.Proofs.YtkdkbnacelnljaaGreat.RE
open Go Go.RowKit
set_option maxRecDepth 100000
set_option maxHeartbeats 8000000
theorem lawEqual_c (a b : List Nd) (ha : (a.length : Int) ≤ 9223372036854775807) (hb : (b.length : Int) ≤ 9223372036854775807) : Val E.P 3 [dN a, dN b] (T true) := by
  refine CallsA.body (E := E) (fn := Tryz.f3) Tryz.func3 rfl fun B hB => ?_
  simp only [Tryz.ntmps3, go_sem, nl, Nat.reduceSub, Nat.reduceAdd, List.reduceReplicate]
  have he := equal_eq a b
  refine Wp.seqK fun K1 hK1 => ?_
  refine rg ?_
  refine hK1 _ ?_
  clear hK1 K1
  refine Wp.seqK fun K2 hK2 => ?_
  refine rg ?_
  refine hK2 _ ?_
  clear hK2 K2
  refine Wp.seqK fun K3 hK3 => ?_
  refine rg ?_
  refine ⟨rfl, CallK.valA (h := szNodeS_c _ _ (by omega) (by omega) (by omega)) (k := ?_)⟩
  refine evd ?_
  refine hK3 _ ?_
  clear hK3 K3
  refine Wp.seqK fun K4 hK4 => ?_
  refine Wp.seqK fun K5 hK5 => ?_
  refine rg ?_
  refine hK5 _ ?_
  clear hK5 K5
  refine Wp.condS (fun h16 => ?_) (fun h16 => ?_)
  · refine Wp.seqK fun K6 hK6 => ?_
    refine rg ?_
    refine hK6 _ ?_
    clear hK6 K6
    refine Wp.ret (retV ?_)
    try simp only [List.getD_cons_zero, List.getD_cons_succ]
    try rfl
  · have hsa : a.length ≤ 1048576 := by
      split at h16 <;> omega
    rw [if_neg (show ¬ ((1048576 : Int) - a.length < 0) by omega)]
    refine Wp.skip ?_
    refine hK4 _ ?_
    clear hK4 K4
    refine Wp.seqK fun K7 hK7 => ?_
    refine rg ?_
    refine ⟨rfl, CallK.valA (h := szNodeS_c _ _ (by omega) (by omega) (by omega)) (k := ?_)⟩
    refine evd ?_
    refine hK7 _ ?_
    clear hK7 K7
    refine Wp.seqK fun K8 hK8 => ?_
    refine Wp.seqK fun K9 hK9 => ?_
    refine rg ?_
    refine hK9 _ ?_
    clear hK9 K9
    refine Wp.condS (fun h21 => ?_) (fun h21 => ?_)
    · refine Wp.seqK fun K10 hK10 => ?_
      refine rg ?_
      refine hK10 _ ?_
      clear hK10 K10
      refine Wp.ret (retV ?_)
      try simp only [List.getD_cons_zero, List.getD_cons_succ]
      try rfl
    · have hsb : b.length ≤ 1048576 := by
        split at h21 <;> omega
      refine Wp.skip ?_
      refine hK8 _ ?_
      clear hK8 K8
      refine Wp.seqK fun K11 hK11 => ?_
      refine rg ?_
      refine ⟨rfl, CallK.rowA (h := toNodeS_c _ (by omega)) (k := ?_)⟩
      refine evd ?_
      refine ⟨rfl, CallK.rowA (h := toNodeS_c _ (by omega)) (k := ?_)⟩
      refine evd ?_
      refine ⟨rfl, CallK.valA (h := sEqual_c _ _ (by omega) (by omega)) (k := ?_)⟩
      refine evd ?_
      refine hK11 _ ?_
      clear hK11 K11
      refine Wp.seqK fun K12 hK12 => ?_
      refine rg ?_
      refine ⟨rfl, CallK.rowA (h := toNodeS_c _ (by omega)) (k := ?_)⟩
      refine evd ?_
      refine hK12 _ ?_
      clear hK12 K12
      refine Wp.seqK fun K13 hK13 => ?_
      refine rg ?_
      refine ⟨rfl, CallK.rowA (h := toNodeS_c _ (by omega)) (k := ?_)⟩
      refine evd ?_
      refine hK13 _ ?_
      clear hK13 K13
      refine Wp.seqK fun K14 hK14 => ?_
      refine rg ?_
      refine ⟨rfl, CallK.valA (h := iEqual_c _ _ (by omega) (by omega)) (k := ?_)⟩
      refine evd ?_
      refine hK14 _ ?_
      clear hK14 K14
      refine Wp.seqK fun K15 hK15 => ?_
      refine Wp.seqU0 [.k, .k, .d5, .d, .k, .k, .d5, .d5, .d5, .d5, .d5, .d5, .d5, .d, .d, .v (T false), .d5, .d5] (fun K16 hK16 => ?_) ?_
      · rw [he]
        refine rg ?_
        exact hK16 _ anyS
      rintro f16
      simp only [updT_k, updT_d, updT_d5, updT_v, updT_nil, Nat.reduceAdd]
      refine Wp.condS (fun h47 => ?_) (fun h47 => ?_)
      · first | exact h47.elim | exact absurd h47 (by decide) | omega | simp at h47
      · refine Wp.skip ?_
        refine hK15 _ ?_
        clear hK15 K15
        refine Wp.seqK fun K17 hK17 => ?_
        refine Wp.seqK fun K18 hK18 => ?_
        refine rg ?_
        refine ⟨rfl, CallK.rowA (h := toNodeS_c _ (by omega)) (k := ?_)⟩
        refine evd ?_
        refine ⟨rfl, CallK.valA (h := eqNodeS_c _ _ (by omega)) (k := ?_)⟩
        refine evd ?_
        refine hK18 _ ?_
        clear hK18 K18
        refine Wp.condS (fun h52 => ?_) (fun h52 => ?_)
        · first | exact h52.elim | exact absurd h52 (by decide) | omega | simp at h52
        · refine Wp.skip ?_
          refine hK17 _ ?_
          clear hK17 K17
          refine Wp.seqK fun K19 hK19 => ?_
          refine Wp.seqK fun K20 hK20 => ?_
          refine rg ?_
          refine ⟨rfl, CallK.rowA (h := toNodeS_c _ (by omega)) (k := ?_)⟩
          refine evd ?_
          refine ⟨rfl, CallK.valA (h := eqNodeS_c _ _ (by omega)) (k := ?_)⟩
          refine evd ?_
          refine hK20 _ ?_
          clear hK20 K20
          refine Wp.condS (fun h57 => ?_) (fun h57 => ?_)
          · first | exact h57.elim | exact absurd h57 (by decide) | omega | simp at h57
          · refine Wp.skip ?_
            refine hK19 _ ?_
            clear hK19 K19
            refine Wp.seqK fun K21 hK21 => ?_
            refine rg ?_
            refine hK21 _ ?_
            clear hK21 K21
            refine Wp.ret (retV ?_)
            try simp only [List.getD_cons_zero, List.getD_cons_succ]
            try rfl
end Go.Proofs.YtkdkbnacelnljaaGreat.RE
