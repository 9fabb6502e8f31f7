/- Drawing: sentences and terms. Conditions: those that a theorem names. -/
import Derived.Test.YtkdkbnacelnljaaQFA
import Derived.Test.YtkdkbnacelnljaaQF7
set_option linter.unusedVariables false
set_option linter.unusedSimpArgs false
namespace Go.Proofs.Ytkdkbnacelnljaa.RE
open Go Go.RowKit
set_option maxRecDepth 100000
set_option maxHeartbeats 8000000

/-! ### A cursor handed over, a new row of nodes -/
def QT1 (l : List Int) (p : List Nd → Nat → Prop) : AV → Obs → Prop := fun r ob => ∃ (i2 h2 : Int) (t : List Nd) (n : Nat), (0 ≤ i2 ∧ i2 ≤ (l.length : Int)) ∧ p t n ∧ r = .l (.obj 1 0 6 0 n) ∧ ob = [some (cur l i2 h2), some ⟨0, lN t⟩]
theorem retT1 {st : St} {fn : Func} {l : List Int} {p : List Nd → Nat → Prop} {i2 h2 : Int} {t : List Nd} {n : Nat} (hp : p t n) (hi : 0 ≤ i2 ∧ i2 ≤ (l.length : Int)) (h : resA st.tm st.ob E fn.results.toList = some (.l (.obj 1 0 6 0 n)) := by rfl) (hob : st.ob = [some (cur l i2 h2), some ⟨0, lN t⟩] := by rfl) : retQ E fn 1 (QT1 l p) .ret st := by
  refine ⟨.l (.obj 1 0 6 0 n), [1], h, by rw [hob]; simp, by simp, by simp, i2, h2, t, n, hi, hp, ?_, ?_⟩
  · rw [hob]; rfl
  · rw [hob]
    simp only [keepO, List.take_succ_cons, List.take_zero, List.map_cons, List.map_nil, List.cons_append, List.nil_append, List.getD_cons_succ, List.getD_cons_zero, Option.map_some, map_flat (lN_flat _)]
    rfl
section
variable {P : Program} {f : FuncId} {args args' : List AV} {st : St} {d : Option Tmp} {K : St → Prop} {l : List Int} {i s : Int} {p : List Nd → Nat → Prop}
theorem CallK.t1 {rest : Obs} (h : CallsA P f args' [some (cur l i s)] (QT1 l p))
    (k : ∀ (i2 s2 : Int) (t : List Nd) (n : Nat), (0 ≤ i2 ∧ i2 ≤ (l.length : Int)) → p t n → K ⟨putT st.tm d (.l (.obj (rest.length + 1) 0 6 0 n)), some (cur l i2 s2) :: (rest ++ [some ⟨0, lN t⟩])⟩)
    (ho : st.ob = some (cur l i s) :: rest := by rfl) (ha : args.map (AV.toC (List.range 1) []) = args' := by rfl) : CallK P f args st d K :=
  CallK.handE 1 h (fun r ob1 ⟨i2, s2, t, n, hi, hp, e1, e2⟩ => ⟨[some (cur l i2 s2)], [some ⟨0, lN t⟩], e2, rfl, rfl, by
    rw [ho, e1]
    have e : AV.ren (shm 1 (some (cur l i s) :: rest).length) (.l (.obj 1 0 6 0 n)) = .l (.obj (rest.length + 1) 0 6 0 n) := rfl
    rw [e]
    simpa [Ob.ren, map_flat (lN_flat t)] using k i2 s2 t n hi hp⟩) (by rw [ho]; rfl) ha rfl (by rw [ho]; simp)
theorem CallK.pick3 {g : Nat} {t : List Nd} {q : List Int} {rest : Obs} (h : CallsA P f args' [some (cur l i s), some ⟨g, lN t⟩, some ⟨0, q.map ci⟩] (QPick l (some ⟨g, lN t⟩) q))
    (k : ∀ x i2 s2, (0 ≤ i2 ∧ i2 ≤ (l.length : Int)) → K ⟨putT st.tm d (I x), some (cur l i2 s2) :: some ⟨g, lN t⟩ :: some ⟨0, q.map ci⟩ :: rest⟩)
    (ho : st.ob = some (cur l i s) :: some ⟨g, lN t⟩ :: some ⟨0, q.map ci⟩ :: rest := by rfl) (ha : args.map (AV.toC (List.range 3) []) = args' := by rfl) : CallK P f args st d K :=
  CallK.handE 3 h (fun r ob1 ⟨i2, s2, x, hi, e1, e2⟩ => ⟨[some (cur l i2 s2), some ⟨g, lN t⟩, some ⟨0, q.map ci⟩], [], by rw [e2]; rfl, rfl, by (simp only [obShut, List.all_cons, List.all_nil, flat_shut (lN_flat _), flat_shut (flatI _), Bool.and_true]) <;> rfl, by
    rw [ho, e1]
    simpa [AV.ren, LV.ren] using k x i2 s2 hi⟩) (by rw [ho]; rfl) ha (by (simp only [obShut, List.all_cons, List.all_nil, flat_shut (lN_flat _), flat_shut (flatI _), Bool.and_true]) <;> rfl) (by rw [ho]; simp)
end
attribute [go_sem] fL0
def exS : List Nd := [⟨1, 1, 0, 0, 0, 0⟩, ⟨20, 1, 0, 0, 1, 0⟩]
theorem exS_ok : sentT exS = true := by decide
def pSent (t : List Nd) (n : Nat) : Prop := n = t.length ∧ (1 ≤ t.length ∧ t.length ≤ 80) ∧ sentT t = true
def pAny (t : List Nd) (n : Nat) : Prop := 1 ≤ n ∧ n ≤ t.length ∧ t.length ≤ 81
theorem sent_len {t : List Nd} (h : sentT t = true) : 1 ≤ t.length ∧ t.length ≤ 80 := by
  unfold sentT sentA at h
  simp only [Bool.and_eq_true] at h
  exact okT_len h.1.1.1.1.1
theorem l02Sentence_c (l : List Int) (hl : l.length ≤ 1048576) (i h : Int) (hi : 0 ≤ i ∧ i ≤ (l.length : Int)) (bits : Int) (hb : 0 ≤ bits ∧ bits ≤ 1000) : CallsA E.P 78 [.l (.ptr 0 0 0), I bits] [some (cur l i h)] (QT1 l pSent) := by
  refine CallsA.body (E := E) (fn := Try.f78) Try.func78 rfl fun B hB => ?_
  simp only [Try.ntmps78, go_sem, nl, Nat.reduceSub, Nat.reduceAdd, List.reduceReplicate]
  refine Wp.seqK fun K1 hK1 => ?_
  refine rg ?_
  refine hK1 _ ?_
  clear hK1 K1
  refine Wp.seqK fun K2 hK2 => ?_
  refine rg ?_
  refine ⟨rfl, CallK.madeA (h := made_c l hl 4 [] 0 4 i h 0 [] 0 bits (fun v hv => by cases hv) (by decide) rfl hi (by decide) (by omega) (by omega)) (fun i1_4 s1_4 g1_4 t1_4 a1_4 n1_4 b1_4 hi1_4 ha1_4 ht1_4 hn1_4 hb1_4 => ?_)⟩
  have ht14 : t1_4.length ≤ 671 := by simpa [SM] using ht1_4
  refine evd ?_
  refine hK2 _ ?_
  clear hK2 K2
  refine Wp.seqK fun K3 hK3 => ?_
  refine Wp.seqU0 [.d5, .k, .d5, .d5, .d5, .d5, .v (T (!(decide (t1_4.length ≤ 80) && sentT t1_4))), .d, .d, .d, .d] (fun K4 hK4 => ?_) ?_
  · refine rg ?_
    refine grdA_split rfl (fun g2_4 => ?_) (fun g2_4 => ?_)
    · try simp only [decide_eq_true_eq, decide_eq_false_iff_not] at g2_4
      try refine evd ?_
      exact hK4 _ (anyS (h := by rw [decide_eq_false (show ¬ t1_4.length ≤ 80 by omega)] <;> rfl))
    · try simp only [decide_eq_true_eq, decide_eq_false_iff_not] at g2_4
      try refine evd ?_
      refine ⟨rfl, CallK.valA (ha := ArgsL.rowN (t := t1_4) rfl rfl (by simp [lk]) ArgsL.nil) (h := sSentence_c _) (k := ?_)⟩
      refine evd ?_
      exact hK4 _ (anyS (h := by rw [decide_eq_true (show t1_4.length ≤ 80 by omega), Bool.true_and] <;> rfl))
  rintro f4
  simp only [updT_k, updT_d, updT_d5, updT_v, updT_nil, Nat.reduceAdd]
  refine Wp.condS (fun h26 => ?_) (fun h26 => ?_)
  · refine Wp.seqK fun K5 hK5 => ?_
    refine rg ?_
    refine hK5 _ ?_
    clear hK5 K5
    refine Wp.keepR 1 [3] ?_ ?_ (by decide) (by decide) ?_
    rw [hB]; exact of_decide_eq_true rfl
    exact of_decide_eq_true rfl
    refine evd ?_
    refine Wp.ret (retT1 (t := exS) (n := 2) ⟨rfl, by decide, exS_ok⟩ hi1_4)
  · have hst : sentT t1_4 = true := h26.2
    refine Wp.skip ?_
    refine hK3 _ ?_
    clear hK3 K3
    refine Wp.seqK fun K6 hK6 => ?_
    refine Wp.keepR 1 [1] ?_ ?_ (by decide) (by decide) ?_
    rw [hB]; exact of_decide_eq_true rfl
    exact of_decide_eq_true rfl
    refine evd ?_
    refine rg ?_
    refine hK6 _ ?_
    clear hK6 K6
    refine Wp.ret (retT1 (t := t1_4) ⟨rfl, sent_len hst, hst⟩ hi1_4)
theorem l02Any_c (l : List Int) (hl : l.length ≤ 1048576) (i h : Int) (hi : 0 ≤ i ∧ i ≤ (l.length : Int)) : CallsA E.P 59 [.l (.ptr 0 0 0)] [some (cur l i h)] (QT1 l pAny) := by
  refine CallsA.body (E := E) (fn := Try.f59) Try.func59 rfl fun B hB => ?_
  simp only [Try.ntmps59, go_sem, nl, Nat.reduceSub, Nat.reduceAdd, List.reduceReplicate]
  refine Wp.seqK fun K1 hK1 => ?_
  refine rg ?_
  refine hK1 _ ?_
  clear hK1 K1
  refine Wp.seqK fun K2 hK2 => ?_
  refine rg ?_
  refine ⟨rfl, CallK.t1 (h := l02Sentence_c _ (by omega) _ _ (by omega) 8 (by omega)) (fun i1_1 s1_1 t1_1 n1_1 hi1_1 hp1_1 => ?_)⟩
  refine evd ?_
  obtain ⟨rfl, hl1, hst⟩ := hp1_1
  refine hK2 _ ?_
  clear hK2 K2
  refine Wp.seqK fun K3 hK3 => ?_
  refine rg ?_
  refine ⟨rfl, CallK.curI (h := l01Below_c _ _ _ (by omega) (by omega) ((t1_1.length : Int)) (by omega)) (fun x2_3 i2_3 s2_3 hx2_3 hi2_3 => ?_)⟩
  refine evd ?_
  refine hK3 _ ?_
  clear hK3 K3
  refine Wp.seqU (α := (Int × Int) × List Nd × Nat × Nat × Obs) (fun q => [.d, .d, .d, .v (.l (.obj 1 q.2.2.2.1 6 0 q.2.2.1)), .d5, .d5, .d5, .d5, .d5, .d5, .d5, .d5, .d5, .d5, .d5, .d5, .d5, .d, .d, .d, .d]) (fun q => (some (cur l q.1.1 q.1.2) :: some ⟨q.2.2.2.1, lN q.2.1⟩ :: q.2.2.2.2)) (fun q => (0 ≤ q.1.1 ∧ q.1.1 ≤ (l.length : Int)) ∧ 1 ≤ q.2.2.1 ∧ q.2.2.1 ≤ q.2.1.length ∧ q.2.1.length ≤ 81) (fun K4 hK4 => ?_) ?_
  · refine Wp.seqK fun K5 hK5 => ?_
    refine rg ?_
    refine ⟨rfl, CallK.curI (h := l01Below_c _ _ _ (by omega) (by omega) (12) (by omega)) (fun x3_1 i3_1 s3_1 hx3_1 hi3_1 => ?_)⟩
    refine evd ?_
    refine hK5 _ ?_
    clear hK5 K5
    refine Wp.block ?_
    refine Wp.seqK fun K6 hK6 => ?_
    refine rg ?_
    refine hK6 _ ?_
    clear hK6 K6
    refine Wp.condS (fun h13 => ?_) (fun h13 => ?_)
    · refine rg ?_
      refine ⟨rfl, CallK.pick3 (h := l01PickInt_c _ _ _ (by omega) (by omega) _ _ [0, 1, 2, 9] (by decide)) (fun x5_4 i5_4 s5_4 hi5_4 => ?_)⟩
      refine evd ?_
      try simp only [thn, inB, if_true, reduceIte]
      exact hK4 ((i5_4, s5_4), (t1_1.set x2_3.toNat { t1_1.getD x2_3.toNat default with w := x5_4 }), t1_1.length, 0, [some ⟨0, [0, 1, 2, 9].map ci⟩]) _ ⟨by omega, by (try simp only [List.length_set, List.length_append, List.length_cons, List.length_nil]); omega, by (try simp only [List.length_set, List.length_append, List.length_cons, List.length_nil]); omega, by (try simp only [List.length_set, List.length_append, List.length_cons, List.length_nil]); omega⟩ (anyS (h := by first | rfl | (simp only [List.length_append, List.length_cons, List.length_nil] <;> rfl)))
    · refine Wp.seqK fun K7 hK7 => ?_
      refine rg ?_
      refine hK7 _ ?_
      clear hK7 K7
      refine Wp.condS (fun h22 => ?_) (fun h22 => ?_)
      · refine rg ?_
        refine ⟨rfl, CallK.curI (h := l01Below_c _ _ _ (by omega) (by omega) ((t1_1.length : Int) + 2) (by omega)) (fun x7_6 i7_6 s7_6 hx7_6 hi7_6 => ?_)⟩
        refine evd ?_
        try simp only [thn, inB, if_true, reduceIte]
        exact hK4 ((i7_6, s7_6), (t1_1.set x2_3.toNat { t1_1.getD x2_3.toNat default with a := x7_6 - 1 }), t1_1.length, 0, []) _ ⟨by omega, by (try simp only [List.length_set, List.length_append, List.length_cons, List.length_nil]); omega, by (try simp only [List.length_set, List.length_append, List.length_cons, List.length_nil]); omega, by (try simp only [List.length_set, List.length_append, List.length_cons, List.length_nil]); omega⟩ (anyS (h := by first | rfl | (simp only [List.length_append, List.length_cons, List.length_nil] <;> rfl)))
      · refine Wp.seqK fun K8 hK8 => ?_
        refine rg ?_
        refine hK8 _ ?_
        clear hK8 K8
        refine Wp.condS (fun h34 => ?_) (fun h34 => ?_)
        · refine rg ?_
          refine ⟨rfl, CallK.pick3 (h := l01PickInt_c _ _ _ (by omega) (by omega) _ _ [-1, 0, 1, 8] (by decide)) (fun x9_4 i9_4 s9_4 hi9_4 => ?_)⟩
          refine evd ?_
          try simp only [thn, inB, if_true, reduceIte]
          exact hK4 ((i9_4, s9_4), (t1_1.set x2_3.toNat { t1_1.getD x2_3.toNat default with k := x9_4 }), t1_1.length, 0, [some ⟨0, [-1, 0, 1, 8].map ci⟩]) _ ⟨by omega, by (try simp only [List.length_set, List.length_append, List.length_cons, List.length_nil]); omega, by (try simp only [List.length_set, List.length_append, List.length_cons, List.length_nil]); omega, by (try simp only [List.length_set, List.length_append, List.length_cons, List.length_nil]); omega⟩ (anyS (h := by first | rfl | (simp only [List.length_append, List.length_cons, List.length_nil] <;> rfl)))
        · refine Wp.seqK fun K9 hK9 => ?_
          refine rg ?_
          refine hK9 _ ?_
          clear hK9 K9
          refine Wp.condS (fun h43 => ?_) (fun h43 => ?_)
          · refine rg ?_
            refine ⟨rfl, CallK.curI (h := l01Below_c _ _ _ (by omega) (by omega) (23) (by omega)) (fun x11_3 i11_3 s11_3 hx11_3 hi11_3 => ?_)⟩
            refine evd ?_
            try simp only [thn, inB, if_true, reduceIte]
            exact hK4 ((i11_3, s11_3), (t1_1.set x2_3.toNat { t1_1.getD x2_3.toNat default with op := x11_3 - 1 }), t1_1.length, 0, []) _ ⟨by omega, by (try simp only [List.length_set, List.length_append, List.length_cons, List.length_nil]); omega, by (try simp only [List.length_set, List.length_append, List.length_cons, List.length_nil]); omega, by (try simp only [List.length_set, List.length_append, List.length_cons, List.length_nil]); omega⟩ (anyS (h := by first | rfl | (simp only [List.length_append, List.length_cons, List.length_nil] <;> rfl)))
          · refine Wp.seqK fun K10 hK10 => ?_
            refine rg ?_
            refine hK10 _ ?_
            clear hK10 K10
            refine Wp.condS (fun h52 => ?_) (fun h52 => ?_)
            · refine rg ?_
              try simp only [thn, inB, if_true, reduceIte]
              exact hK4 ((i3_1, s3_1), t1_1, (x2_3 + 1 - 0).toNat, 0, []) _ ⟨by omega, by (try simp only [List.length_set, List.length_append, List.length_cons, List.length_nil]); omega, by (try simp only [List.length_set, List.length_append, List.length_cons, List.length_nil]); omega, by (try simp only [List.length_set, List.length_append, List.length_cons, List.length_nil]); omega⟩ (anyS (h := by first | rfl | (simp only [List.length_append, List.length_cons, List.length_nil] <;> rfl)))
            · refine Wp.seqK fun K11 hK11 => ?_
              refine rg ?_
              refine hK11 _ ?_
              clear hK11 K11
              refine Wp.condS (fun h58 => ?_) (fun h58 => ?_)
              · refine Wp.seqK fun K12 hK12 => ?_
                refine rg ?_
                refine hK12 _ ?_
                clear hK12 K12
                refine Wp.condS (fun h61 => ?_) (fun h61 => ?_)
                · refine rg ?_
                  try simp only [thn, inB, if_true, reduceIte]
                  exact hK4 ((i3_1, s3_1), (t1_1 ++ [(⟨2, (t1_1.getD x2_3.toNat default).w, 0, x2_3, 0, 0⟩ : Nd)]), (t1_1 ++ [(⟨2, (t1_1.getD x2_3.toNat default).w, 0, x2_3, 0, 0⟩ : Nd)]).length, 1, [some ⟨0, nl ⟨2, (t1_1.getD x2_3.toNat default).w, 0, x2_3, 0, 0⟩⟩]) _ ⟨by omega, by (try simp only [List.length_set, List.length_append, List.length_cons, List.length_nil]); omega, by (try simp only [List.length_set, List.length_append, List.length_cons, List.length_nil]); omega, by (try simp only [List.length_set, List.length_append, List.length_cons, List.length_nil]); omega⟩ (anyS (h := by first | rfl | (simp only [List.length_append, List.length_cons, List.length_nil] <;> rfl)))
                · refine Wp.skip ?_
                  try simp only [thn, inB, if_true, reduceIte]
                  exact hK4 ((i3_1, s3_1), t1_1, t1_1.length, 0, []) _ ⟨by omega, by (try simp only [List.length_set, List.length_append, List.length_cons, List.length_nil]); omega, by (try simp only [List.length_set, List.length_append, List.length_cons, List.length_nil]); omega, by (try simp only [List.length_set, List.length_append, List.length_cons, List.length_nil]); omega⟩ (anyS (h := by first | rfl | (simp only [List.length_append, List.length_cons, List.length_nil] <;> rfl)))
              · refine Wp.skip ?_
                try simp only [thn, inB, if_true, reduceIte]
                exact hK4 ((i3_1, s3_1), t1_1, t1_1.length, 0, []) _ ⟨by omega, by (try simp only [List.length_set, List.length_append, List.length_cons, List.length_nil]); omega, by (try simp only [List.length_set, List.length_append, List.length_cons, List.length_nil]); omega, by (try simp only [List.length_set, List.length_append, List.length_cons, List.length_nil]); omega⟩ (anyS (h := by first | rfl | (simp only [List.length_append, List.length_cons, List.length_nil] <;> rfl)))
  rintro q f4 ⟨hq1, hq2, hq3, hq4⟩
  simp only [updT_k, updT_d, updT_d5, updT_v, updT_nil, Nat.reduceAdd]
  refine Wp.seqK fun K13 hK13 => ?_
  refine Wp.keepR 1 [1] ?_ ?_ (by decide) (by decide) ?_
  rw [hB]; exact of_decide_eq_true rfl
  exact of_decide_eq_true rfl
  refine evd ?_
  refine rg ?_
  refine hK13 _ ?_
  clear hK13 K13
  refine Wp.ret (retT1 (t := q.2.1) ⟨hq2, hq3, hq4⟩ hq1)
theorem l04Open_c (l : List Int) (hl : l.length ≤ 1048576) (i h : Int) (hi : 0 ≤ i ∧ i ≤ (l.length : Int)) : CallsA E.P 27 [.l (.ptr 0 0 0)] [some (cur l i h)] (QT1 l pAny) := by
  refine CallsA.body (E := E) (fn := Try.f27) Try.func27 rfl fun B hB => ?_
  simp only [Try.ntmps27, go_sem, nl, Nat.reduceSub, Nat.reduceAdd, List.reduceReplicate]
  refine Wp.seqK fun K1 hK1 => ?_
  refine rg ?_
  refine hK1 _ ?_
  clear hK1 K1
  refine Wp.seqK fun K2 hK2 => ?_
  refine rg ?_
  refine ⟨rfl, CallK.t1 (h := l02Any_c _ (by omega) _ _ (by omega)) (fun i1_1 s1_1 t1_1 n1_1 hi1_1 hp1_1 => ?_)⟩
  refine evd ?_
  obtain ⟨hn1, hn2, hn3⟩ := hp1_1
  refine hK2 _ ?_
  clear hK2 K2
  refine Wp.seqK fun K3 hK3 => ?_
  refine Wp.seqK fun K4 hK4 => ?_
  refine rg ?_
  refine hK4 _ ?_
  clear hK4 K4
  refine Wp.block ?_
  refine Wp.loopU (α := (Int × Int) × Nat × Nat) (fun q => [.k, .d, .d, .v (.l (.obj 1 0 6 0 q.2.1)), .v (I (q.2.2 : Int)), .d5, .d5, .d5, .d5, .d5, .d, .d, .d, .d]) (fun q => [some (cur l q.1.1 q.1.2), some ⟨0, lN t1_1⟩]) (fun q => (0 ≤ q.1.1 ∧ q.1.1 ≤ (l.length : Int)) ∧ (1 ≤ q.2.1 ∧ q.2.1 ≤ t1_1.length) ∧ q.2.2 ≤ 3) (fun q => 3 - q.2.2) ((i1_1, s1_1), n1_1, 0) (⟨hi1_1, ⟨hn1, hn2⟩, Nat.zero_le _⟩) (anyS) ?_
  rintro q f5 K5 ⟨hq1, hq2, hq3⟩ hK5
  simp only [updT_k, updT_d, updT_d5, updT_v, updT_nil, Nat.reduceAdd]
  refine Wp.seqK fun K6 hK6 => ?_
  refine Wp.seqU (α := Bool) (fun y => [.k, .d, .d, .k, .k, .d5, .d5, .d5, .d, .d, .d, .v (T y), .d5, .d5]) (fun y => [some (cur l q.1.1 q.1.2), some ⟨0, lN t1_1⟩]) (fun y => y = true → q.2.2 < 3 ∧ 1 < q.2.1) (fun K7 hK7 => ?_) ?_
  · refine rg ?_
    refine grdA_split rfl (fun g3_3 => ?_) (fun g3_3 => ?_)
    · try simp only [decide_eq_true_eq, decide_eq_false_iff_not] at g3_3
      try refine evd ?_
      refine grdA_split rfl (fun g3_8 => ?_) (fun g3_8 => ?_)
      · try simp only [decide_eq_true_eq, decide_eq_false_iff_not] at g3_8
        try refine evd ?_
        refine ⟨rfl, CallK.valA (h := l02Quant_c _) (k := ?_)⟩
        refine evd ?_
        exact hK7 _ _ (fun _ => by omega) anyS
      · try simp only [decide_eq_true_eq, decide_eq_false_iff_not] at g3_8
        try refine evd ?_
        exact hK7 false _ (fun e => by cases e) anyS
    · try simp only [decide_eq_true_eq, decide_eq_false_iff_not] at g3_3
      try refine evd ?_
      exact hK7 false _ (fun e => by cases e) anyS
  rintro y f7 hy
  simp only [updT_k, updT_d, updT_d5, updT_v, updT_nil, Nat.reduceAdd]
  refine Wp.condS (fun h23 => ?_) (fun h23 => ?_)
  · have hyy := hy h23
    refine Wp.skip ?_
    refine hK6 _ ?_
    clear hK6 K6
    refine Wp.seqK fun K8 hK8 => ?_
    refine Wp.block ?_
    refine Wp.seqK fun K9 hK9 => ?_
    refine Wp.seqK fun K10 hK10 => ?_
    refine rg ?_
    refine ⟨rfl, CallK.curT (h := l01Once_c _ _ _ (by omega) (by omega) 3 (by omega)) (fun x5_1 i5_1 s5_1 hx5_1 hi5_1 => ?_)⟩
    refine evd ?_
    refine hK10 _ ?_
    clear hK10 K10
    refine Wp.condS (fun h27 => ?_) (fun h27 => ?_)
    · refine Wp.exit ?_
      try simp only [thn, inB, if_true, reduceIte, Nat.zero_ne_one, Nat.one_ne_zero, Nat.reduceEqDiff]
      clear hK9 K9
      clear hK8 K8
      clear hK5 K5
      refine hK3 _ ?_
      clear hK3 K3
      refine Wp.seqK fun K11 hK11 => ?_
      refine rg ?_
      refine hK11 _ ?_
      clear hK11 K11
      refine Wp.ret (retT1 (t := t1_1) ⟨?_, ?_, ?_⟩ ?_) <;> omega
    · refine Wp.skip ?_
      refine hK9 _ ?_
      clear hK9 K9
      refine rg ?_
      try simp only [thn, inB, if_true, reduceIte]
      refine hK8 _ ?_
      clear hK8 K8
      refine rg ?_
      exact hK5 ((i5_1, s5_1), q.2.1 - 1, q.2.2 + 1) _ ⟨hi5_1, by show 1 ≤ q.2.1 - 1 ∧ q.2.1 - 1 ≤ t1_1.length; omega, by show q.2.2 + 1 ≤ 3; omega⟩ (by show 3 - (q.2.2 + 1) < 3 - q.2.2; omega) (anyS (h := by rw [show ((q.2.1 : Int) - 1 - 0).toNat = q.2.1 - 1 by omega] <;> rfl))
  · refine Wp.exit ?_
    try simp only [thn, inB, if_true, reduceIte, Nat.zero_ne_one, Nat.one_ne_zero, Nat.reduceEqDiff]
    clear hK6 K6
    clear hK5 K5
    refine hK3 _ ?_
    clear hK3 K3
    refine Wp.seqK fun K12 hK12 => ?_
    refine rg ?_
    refine hK12 _ ?_
    clear hK12 K12
    refine Wp.ret (retT1 (t := t1_1) ⟨?_, ?_, ?_⟩ ?_) <;> omega
end Go.Proofs.Ytkdkbnacelnljaa.RE
