/- Drawing: sentences and terms. Conditions: those that a theorem names. -/
import Derived.Test.YtkdkbnacelnljaaGreatNF5
import Derived.Test.YtkdkbnacelnljaaGreatNF6
import Derived.Test.YtkdkbnacelnljaaGreatNFA
set_option linter.unusedVariables false
set_option linter.unusedSimpArgs false
namespace Go.Proofs.YtkdkbnacelnljaaGreat.RE
open Go Go.RowKit
set_option maxRecDepth 100000
set_option maxHeartbeats 8000000

/-! ### A cursor handed over, a new row of nodes -/
def QT1 (l : List Int) (p : List Nd → Nat → Prop) : AV → Obs → Prop := fun r ob => ∃ (i2 h2 : Int) (t : List Nd) (n : Nat), (0 ≤ i2 ∧ i2 ≤ (l.length : Int)) ∧ p t n ∧ r = .l (.obj 1 0 6 0 n) ∧ ob = [some (cur l i2 h2), some ⟨0, lN t⟩]
theorem retT1 {st : St} {fn : Func} {l : List Int} {p : List Nd → Nat → Prop} {i2 h2 : Int} {t : List Nd} {n : Nat} (hp : p t n) (hi : 0 ≤ i2 ∧ i2 ≤ (l.length : Int)) (h : resA st.tm st.ob E fn.results.toList = some (.l (.obj 1 0 6 0 n)) := by rfl) (hob : st.ob = [some (cur l i2 h2), some ⟨0, lN t⟩] := by rfl) : retQ E fn 1 (QT1 l p) .ret st := by
  refine ⟨.l (.obj 1 0 6 0 n), [1], h, by rw [hob]; simp, by simp, by simp, i2, h2, t, n, hi, hp, ?_, ?_⟩
  · rw [hob]; rfl
  · rw [hob]
    simp only [keepO, List.take_succ_cons, List.take_zero, List.map_cons, List.map_nil, List.cons_append, List.nil_append, List.getD_cons_succ, List.getD_cons_zero, Option.map_some, map_flat (lN_flat _)]
    rfl
section
variable {P : Program} {f : FuncId} {args args' : List AV} {st : St} {d : Option Tmp} {K : St → Prop} {l : List Int} {i s : Int} {p : List Nd → Nat → Prop}
theorem CallK.t1 {rest : Obs} (h : CallsA P f args' [some (cur l i s)] (QT1 l p))
    (k : ∀ (i2 s2 : Int) (t : List Nd) (n : Nat), (0 ≤ i2 ∧ i2 ≤ (l.length : Int)) → p t n → K ⟨putT st.tm d (.l (.obj (rest.length + 1) 0 6 0 n)), some (cur l i2 s2) :: (rest ++ [some ⟨0, lN t⟩])⟩)
    (ho : st.ob = some (cur l i s) :: rest := by rfl) (ha : args.map (AV.toC (List.range 1) []) = args' := by rfl) : CallK P f args st d K :=
  CallK.handE 1 h (fun r ob1 ⟨i2, s2, t, n, hi, hp, e1, e2⟩ => ⟨[some (cur l i2 s2)], [some ⟨0, lN t⟩], e2, rfl, rfl, by
    rw [ho, e1]
    have e : AV.ren (shm 1 (some (cur l i s) :: rest).length) (.l (.obj 1 0 6 0 n)) = .l (.obj (rest.length + 1) 0 6 0 n) := rfl
    rw [e]
    simpa [Ob.ren, map_flat (lN_flat t)] using k i2 s2 t n hi hp⟩) (by rw [ho]; rfl) ha rfl (by rw [ho]; simp)
end
attribute [go_sem] fL0
def exS : List Nd := [⟨1, 1, 0, 0, 0, 0⟩, ⟨20, 1, 0, 0, 1, 0⟩]
theorem exS_ok : sentT exS = true := by decide
def pSent (bits : Int) (t : List Nd) (n : Nat) : Prop := n = t.length ∧ (1 ≤ t.length ∧ t.length ≤ 80) ∧ sentT t = true ∧ qsum t ≤ bits + 1
theorem sent_len {t : List Nd} (h : sentT t = true) : 1 ≤ t.length ∧ t.length ≤ 80 := by
  unfold sentT sentA at h
  simp only [Bool.and_eq_true] at h
  exact okT_len h.1.1.1.1.1
theorem l02Sentence_c (l : List Int) (hl : l.length ≤ 1048576) (i h : Int) (hi : 0 ≤ i ∧ i ≤ (l.length : Int)) (bits : Int) (hb : 0 ≤ bits ∧ bits ≤ 1000) : CallsA E.P 31 [.l (.ptr 0 0 0), I bits] [some (cur l i h)] (QT1 l (pSent bits)) := by
  refine CallsA.body (E := E) (fn := Tryz.f31) Tryz.func31 rfl fun B hB => ?_
  simp only [Tryz.ntmps31, go_sem, nl, Nat.reduceSub, Nat.reduceAdd, List.reduceReplicate]
  refine Wp.seqK fun K1 hK1 => ?_
  refine rg ?_
  refine hK1 _ ?_
  clear hK1 K1
  refine Wp.seqK fun K2 hK2 => ?_
  refine rg ?_
  refine ⟨rfl, CallK.madeA (h := made_c l hl 4 [] 0 4 i h 0 [] 0 bits (fun v hv => by cases hv) (by decide) rfl hi (by decide) (by omega) (by omega)) (fun i1_4 s1_4 g1_4 t1_4 a1_4 n1_4 b1_4 hi1_4 ha1_4 ht1_4 hn1_4 hb1_4 hq1_4 => ?_)⟩
  have hqs : qsum t1_4 ≤ bits + 1 := by
    have h0 : qsum [] = 0 := rfl
    omega
  have ht14 : t1_4.length ≤ 671 := by simpa [SM] using ht1_4
  refine evd ?_
  refine hK2 _ ?_
  clear hK2 K2
  refine Wp.seqK fun K3 hK3 => ?_
  refine Wp.seqU0 [.d5, .k, .d5, .d5, .d5, .d5, .v (T (!(decide (t1_4.length ≤ 80) && sentT t1_4))), .d, .d, .d, .d] (fun K4 hK4 => ?_) ?_
  · refine rg ?_
    refine grdA_split rfl (fun g2_4 => ?_) (fun g2_4 => ?_)
    · try simp only [decide_eq_true_eq, decide_eq_false_iff_not] at g2_4
      try refine evd ?_
      exact hK4 _ (anyS (h := by rw [decide_eq_false (show ¬ t1_4.length ≤ 80 by omega)] <;> rfl))
    · try simp only [decide_eq_true_eq, decide_eq_false_iff_not] at g2_4
      try refine evd ?_
      refine ⟨rfl, CallK.valA (ha := ArgsL.rowN (t := t1_4) rfl rfl (by simp [lk]) ArgsL.nil) (h := sSentence_c _) (k := ?_)⟩
      refine evd ?_
      exact hK4 _ (anyS (h := by rw [decide_eq_true (show t1_4.length ≤ 80 by omega), Bool.true_and] <;> rfl))
  rintro f4
  simp only [updT_k, updT_d, updT_d5, updT_v, updT_nil, Nat.reduceAdd]
  refine Wp.condS (fun h26 => ?_) (fun h26 => ?_)
  · refine Wp.seqK fun K5 hK5 => ?_
    refine rg ?_
    refine hK5 _ ?_
    clear hK5 K5
    refine Wp.keepR 1 [3] ?_ ?_ (by decide) (by decide) ?_
    rw [hB]; exact of_decide_eq_true rfl
    exact of_decide_eq_true rfl
    refine evd ?_
    refine Wp.ret (retT1 (t := exS) (n := 2) ⟨rfl, by decide, exS_ok, by show (1 : Int) ≤ bits + 1; omega⟩ hi1_4)
  · have hst : sentT t1_4 = true := h26.2
    refine Wp.skip ?_
    refine hK3 _ ?_
    clear hK3 K3
    refine Wp.seqK fun K6 hK6 => ?_
    refine Wp.keepR 1 [1] ?_ ?_ (by decide) (by decide) ?_
    rw [hB]; exact of_decide_eq_true rfl
    exact of_decide_eq_true rfl
    refine evd ?_
    refine rg ?_
    refine hK6 _ ?_
    clear hK6 K6
    refine Wp.ret (retT1 (t := t1_4) ⟨rfl, sent_len hst, hst, hqs⟩ hi1_4)
end Go.Proofs.YtkdkbnacelnljaaGreat.RE
