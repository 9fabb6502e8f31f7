/- Drawing: made sentences. Conditions: those that a theorem names. -/
import Derived.Test.YtkdkbnacelnljaaGreatNFA
set_option linter.unusedVariables false
set_option linter.unusedSimpArgs false
namespace Go.Proofs.YtkdkbnacelnljaaGreat.RE
open Go Go.RowKit
set_option maxRecDepth 100000
set_option maxHeartbeats 8000000
theorem made_step (l : List Int) (hl : l.length ≤ 1048576) (n : Nat) (ih : n = 0 ∨ MadeAt l (n - 1)) (vars : List Nd) (g' : Nat) (k i h : Int) (g : Nat) (t : List Nd) (next bits : Int) (hv : ∀ v ∈ vars, (1 ≤ v.w ∧ v.w ≤ 8) ∧ isQ v.op = false) (hvl : vars.length + n ≤ 1000) (hk : k = n) (hi : 0 ≤ i ∧ i ≤ (l.length : Int)) (ht : t.length + SM n ≤ 100000) (hn : 0 ≤ next ∧ next ≤ 8) (hb : 0 ≤ bits ∧ bits ≤ 1000) : CallsA E.P 61 [.l (.ptr 0 0 0), .l (.obj 1 g 6 0 t.length), .l (.obj 2 g' 6 0 vars.length), I next, I bits, I k] [some (cur l i h), some ⟨g, lN t⟩, some ⟨g', lN vars⟩] (QMade l t vars g' (SM n) next bits) := by
  refine CallsA.body (E := E) (fn := Tryz.f61) Tryz.func61 rfl fun B hB => ?_
  simp only [Tryz.ntmps61, go_sem, nl, Nat.reduceSub, Nat.reduceAdd, List.reduceReplicate]
  have hS0 := SM_ge n
  refine Wp.seqK fun K1 hK1 => ?_
  refine rg ?_
  refine hK1 _ ?_
  clear hK1 K1
  refine Wp.seqK fun K2 hK2 => ?_
  refine Wp.seqU (α := Int × Int × Bool) (fun y => [.k, .k, .k, .k, .k, .k, .d5, .d5, .d5, .d5, .d5, .d5, .d5, .d5, .d5, .d, .d, .v (T y.2.2), .d5, .d5, .d5, .d5, .d5, .d5, .d5, .d5, .d5, .d5, .d5, .d5, .d5, .d5, .d5, .d5, .d5, .d5, .d5, .d5, .d5, .d5, .d5, .d5, .d5, .d5, .d5, .d, .d]) (fun y => [some (cur l y.1 y.2.1), some ⟨g, lN t⟩, some ⟨g', lN vars⟩]) (fun y => (0 ≤ y.1 ∧ y.1 ≤ (l.length : Int)) ∧ (y.2.2 = true → 0 < k ∧ next < 8 ∧ 0 < bits)) (fun K3 hK3 => ?_) ?_
  · refine rg ?_
    refine grdA_split rfl (fun g1_3 => ?_) (fun g1_3 => ?_)
    · try simp only [decide_eq_true_eq, decide_eq_false_iff_not] at g1_3
      try refine evd ?_
      refine grdA_split rfl (fun g1_7 => ?_) (fun g1_7 => ?_)
      · try simp only [decide_eq_true_eq, decide_eq_false_iff_not] at g1_7
        try refine evd ?_
        refine grdA_split rfl (fun g1_11 => ?_) (fun g1_11 => ?_)
        · try simp only [decide_eq_true_eq, decide_eq_false_iff_not] at g1_11
          try refine evd ?_
          refine ⟨rfl, CallK.curT (h := l01Once_c _ _ _ (by omega) (by omega) (5) (by omega)) (fun x1_12 i1_12 s1_12 hx1_12 hi1_12 => ?_)⟩
          refine evd ?_
          exact hK3 (i1_12, s1_12, !x1_12) _ ⟨hi1_12, fun _ => by omega⟩ anyS
        · try simp only [decide_eq_true_eq, decide_eq_false_iff_not] at g1_11
          try refine evd ?_
          exact hK3 (i, h, false) _ ⟨hi, fun e => by cases e⟩ anyS
      · try simp only [decide_eq_true_eq, decide_eq_false_iff_not] at g1_7
        try refine evd ?_
        exact hK3 (i, h, false) _ ⟨hi, fun e => by cases e⟩ anyS
    · try simp only [decide_eq_true_eq, decide_eq_false_iff_not] at g1_3
      try refine evd ?_
      exact hK3 (i, h, false) _ ⟨hi, fun e => by cases e⟩ anyS
  rintro y f3 ⟨hy1, hy2⟩
  simp only [updT_k, updT_d, updT_d5, updT_v, updT_nil, Nat.reduceAdd]
  refine Wp.condS (fun h53 => ?_) (fun h53 => ?_)
  · as_aux_lemma =>
      have hk0 := hy2 h53
      have hd : MadeAt l (n - 1) := ih.resolve_left (by omega)
      have hS : SM n = 2 * SM (n - 1) + 1 := SM_s (by omega)
      have hS1 := SM_ge (n - 1)
      refine Wp.seqK fun K4 hK4 => ?_
      refine rg ?_
      refine ⟨rfl, CallK.curI (h := l01Below_c _ _ _ (by omega) (by omega) (3) (by omega)) (fun x2_1 i2_1 s2_1 hx2_1 hi2_1 => ?_)⟩
      refine evd ?_
      refine hK4 _ ?_
      clear hK4 K4
      refine Wp.seqU (α := Int) (fun q => [.k, .k, .k, .k, .k, .k, .d5, .d5, .v (I q), .d5, .d5, .d5, .d5, .d5, .d5, .d5, .d5, .d5, .d5, .d5, .d5, .d5, .d5, .d5, .d5, .d5, .d5, .d5, .d5, .d5, .d5, .d5, .d5, .d5, .d5, .d5, .d5, .d5, .d5, .d5, .d5, .d5, .d5, .d, .d, .d, .d]) (fun q => [some (cur l i2_1 s2_1), some ⟨g, lN t⟩, some ⟨g', lN vars⟩]) (fun q => 1 ≤ q ∧ q ≤ 3 ∧ q ≤ bits) (fun K5 hK5 => ?_) ?_
      · refine Wp.seqK fun K6 hK6 => ?_
        refine rg ?_
        refine hK6 _ ?_
        clear hK6 K6
        refine Wp.condS (fun h59 => ?_) (fun h59 => ?_)
        · refine rg ?_
          exact hK5 bits _ (by omega) anyS
        · refine Wp.skip ?_
          exact hK5 (1 + x2_1) _ (by omega) anyS
      rintro q f5 ⟨hq1, hq2, hq3⟩
      simp only [updT_k, updT_d, updT_d5, updT_v, updT_nil, Nat.reduceAdd]
      refine Wp.seqK fun K7 hK7 => ?_
      refine rg ?_
      refine hK7 _ ?_
      clear hK7 K7
      refine Wp.seqK fun K8 hK8 => ?_
      refine rg ?_
      refine ⟨rfl, CallK.curI (h := l01Below_c _ _ _ (by omega) (by omega) (2) (by omega)) (fun x6_1 i6_1 s6_1 hx6_1 hi6_1 => ?_)⟩
      refine evd ?_
      refine hK8 _ ?_
      clear hK8 K8
      refine Wp.seqK fun K9 hK9 => ?_
      refine Wp.drawT [0, 1, 2, 3] [0, 2, 4, 5] (.one 1 (.one 3 (.two 0 4 (.two 2 4 (.one 4 (.one 5 (.one 6 .done))) (.one 2 (.one 5 (.one 6 .done)))) (.one 0 (.one 2 (.one 5 (.one 6 .done))))))) rfl (by kernel_rfl) ?_
      refine treeG_one fun Kt7_1 ht7_1 => ?_
      refine evd ?_
      refine ht7_1 _ ?_
      clear ht7_1 Kt7_1
      refine treeG_one fun Kt7_2 ht7_2 => ?_
      refine evd ?_
      refine ht7_2 _ ?_
      clear ht7_2 Kt7_2
      refine treeG_two (fun Kt7_3 ht7_3 => ?_) (fun Kt7_3 ht7_3 => ?_)
      · refine evd ?_
        refine ht7_3 _ ?_
        clear ht7_3 Kt7_3
        refine treeG_two (fun Kt7_4 ht7_4 => ?_) (fun Kt7_4 ht7_4 => ?_)
        · refine evd ?_
          refine ht7_4 _ ?_
          clear ht7_4 Kt7_4
          refine treeG_one fun Kt7_5 ht7_5 => ?_
          refine evd ?_
          refine ht7_5 _ ?_
          clear ht7_5 Kt7_5
          refine treeG_one fun Kt7_6 ht7_6 => ?_
          refine evd ?_
          refine ht7_6 _ ?_
          clear ht7_6 Kt7_6
          refine treeG_one fun Kt7_7 ht7_7 => ?_
          refine evd ?_
          refine ht7_7 _ ?_
          clear ht7_7 Kt7_7
          refine treeG_done ?_
          refine hK9 _ ?_
          clear hK9 K9
          refine Wp.keepR 4 [4] ?_ ?_ (by decide) (by decide) ?_
          rw [hB]; exact of_decide_eq_true rfl
          exact of_decide_eq_true rfl
          refine evd ?_
          refine Wp.seqK fun K10 hK10 => ?_
          refine rg ?_
          refine ⟨rfl, CallK.madeB (h := hd (vars ++ [⟨1, q, next, 0, 0, 0⟩]) _ (k - 1) i6_1 s6_1 _ t (next + 1) (bits - q) (fun v hm => by
            rcases List.mem_append.1 hm with hm | hm
            · exact hv v hm
            · rw [List.mem_singleton.1 hm]; exact ⟨⟨hq1, by show q ≤ 8; omega⟩, rfl⟩) (by (try simp only [List.length_append, List.length_cons, List.length_nil]); omega) (by omega) (by omega) (by omega) (by omega) (by omega)) (fun i8_10 s8_10 g8_10 t8_10 a8_10 n8_10 b8_10 hi8_10 ha8_10 ht8_10 hn8_10 hb8_10 hq8_10 => ?_) (ha := by simp only [List.length_append, List.length_cons, List.length_nil] <;> rfl)⟩
          refine evd ?_
          refine hK10 _ ?_
          clear hK10 K10
          refine Wp.seqK fun K11 hK11 => ?_
          refine rg ?_
          refine ⟨rfl, CallK.handA 2 (o1 := [_, _]) (new := []) (push_c _ _ _ t8_10 _ (⟨19 + x6_1, 1, next, a8_10, q, 0⟩) (by omega)) ?_⟩
          refine evd ?_
          refine hK11 _ ?_
          clear hK11 K11
          refine Wp.seqK fun K12 hK12 => ?_
          refine rg ?_
          refine hK12 _ ?_
          clear hK12 K12
          refine Wp.ret (retMade (hi := ?_) (ha := ?_) (hl := ?_) (hn2 := ?_) (hb2 := ?_) (hq := ?_)) <;> (try simp only [List.length_append, List.length_cons, List.length_nil, qsum_app]) <;> first | omega | (have hqb := qsb_le (n := ⟨19 + x6_1, 1, next, a8_10, q, 0⟩) (by show 0 ≤ q; omega); have hqb2 : qsb ⟨19 + x6_1, 1, next, a8_10, q, 0⟩ ≤ q := hqb; omega) | (rw [qsb_no ⟨by dsimp only; omega, by dsimp only; omega⟩]; omega)
        · refine evd ?_
          refine ht7_4 _ ?_
          clear ht7_4 Kt7_4
          refine treeG_one fun Kt7_8 ht7_8 => ?_
          refine evd ?_
          refine ht7_8 _ ?_
          clear ht7_8 Kt7_8
          refine treeG_one fun Kt7_9 ht7_9 => ?_
          refine evd ?_
          refine ht7_9 _ ?_
          clear ht7_9 Kt7_9
          refine treeG_one fun Kt7_10 ht7_10 => ?_
          refine evd ?_
          refine ht7_10 _ ?_
          clear ht7_10 Kt7_10
          refine treeG_done ?_
          refine hK9 _ ?_
          clear hK9 K9
          refine Wp.keepR 4 [4] ?_ ?_ (by decide) (by decide) ?_
          rw [hB]; exact of_decide_eq_true rfl
          exact of_decide_eq_true rfl
          refine evd ?_
          refine Wp.seqK fun K13 hK13 => ?_
          refine rg ?_
          refine ⟨rfl, CallK.madeB (h := hd (vars ++ [⟨1, q, next, 0, 0, 0⟩]) _ (k - 1) i6_1 s6_1 _ t (next + 1) (bits - q) (fun v hm => by
            rcases List.mem_append.1 hm with hm | hm
            · exact hv v hm
            · rw [List.mem_singleton.1 hm]; exact ⟨⟨hq1, by show q ≤ 8; omega⟩, rfl⟩) (by (try simp only [List.length_append, List.length_cons, List.length_nil]); omega) (by omega) (by omega) (by omega) (by omega) (by omega)) (fun i8_10 s8_10 g8_10 t8_10 a8_10 n8_10 b8_10 hi8_10 ha8_10 ht8_10 hn8_10 hb8_10 hq8_10 => ?_) (ha := by simp only [List.length_append, List.length_cons, List.length_nil] <;> rfl)⟩
          refine evd ?_
          refine hK13 _ ?_
          clear hK13 K13
          refine Wp.seqK fun K14 hK14 => ?_
          refine rg ?_
          refine ⟨rfl, CallK.handA 2 (o1 := [_, _]) (new := []) (push_c _ _ _ t8_10 _ (⟨19 + x6_1, 1, next, a8_10, q, 0⟩) (by omega)) ?_⟩
          refine evd ?_
          refine hK14 _ ?_
          clear hK14 K14
          refine Wp.seqK fun K15 hK15 => ?_
          refine rg ?_
          refine hK15 _ ?_
          clear hK15 K15
          refine Wp.ret (retMade (hi := ?_) (ha := ?_) (hl := ?_) (hn2 := ?_) (hb2 := ?_) (hq := ?_)) <;> (try simp only [List.length_append, List.length_cons, List.length_nil, qsum_app]) <;> first | omega | (have hqb := qsb_le (n := ⟨19 + x6_1, 1, next, a8_10, q, 0⟩) (by show 0 ≤ q; omega); have hqb2 : qsb ⟨19 + x6_1, 1, next, a8_10, q, 0⟩ ≤ q := hqb; omega) | (rw [qsb_no ⟨by dsimp only; omega, by dsimp only; omega⟩]; omega)
      · refine evd ?_
        refine ht7_3 _ ?_
        clear ht7_3 Kt7_3
        refine treeG_one fun Kt7_11 ht7_11 => ?_
        refine evd ?_
        refine ht7_11 _ ?_
        clear ht7_11 Kt7_11
        refine treeG_one fun Kt7_12 ht7_12 => ?_
        refine evd ?_
        refine ht7_12 _ ?_
        clear ht7_12 Kt7_12
        refine treeG_one fun Kt7_13 ht7_13 => ?_
        refine evd ?_
        refine ht7_13 _ ?_
        clear ht7_13 Kt7_13
        refine treeG_one fun Kt7_14 ht7_14 => ?_
        refine evd ?_
        refine ht7_14 _ ?_
        clear ht7_14 Kt7_14
        refine treeG_done ?_
        refine hK9 _ ?_
        clear hK9 K9
        refine Wp.keepR 4 [5] ?_ ?_ (by decide) (by decide) ?_
        rw [hB]; exact of_decide_eq_true rfl
        exact of_decide_eq_true rfl
        refine evd ?_
        refine Wp.seqK fun K16 hK16 => ?_
        refine rg ?_
        refine ⟨rfl, CallK.madeB (h := hd (vars ++ [⟨1, q, next, 0, 0, 0⟩]) _ (k - 1) i6_1 s6_1 _ t (next + 1) (bits - q) (fun v hm => by
          rcases List.mem_append.1 hm with hm | hm
          · exact hv v hm
          · rw [List.mem_singleton.1 hm]; exact ⟨⟨hq1, by show q ≤ 8; omega⟩, rfl⟩) (by (try simp only [List.length_append, List.length_cons, List.length_nil]); omega) (by omega) (by omega) (by omega) (by omega) (by omega)) (fun i8_10 s8_10 g8_10 t8_10 a8_10 n8_10 b8_10 hi8_10 ha8_10 ht8_10 hn8_10 hb8_10 hq8_10 => ?_) (ha := by simp only [List.length_append, List.length_cons, List.length_nil] <;> rfl)⟩
        refine evd ?_
        refine hK16 _ ?_
        clear hK16 K16
        refine Wp.seqK fun K17 hK17 => ?_
        refine rg ?_
        refine ⟨rfl, CallK.handA 2 (o1 := [_, _]) (new := []) (push_c _ _ _ t8_10 _ (⟨19 + x6_1, 1, next, a8_10, q, 0⟩) (by omega)) ?_⟩
        refine evd ?_
        refine hK17 _ ?_
        clear hK17 K17
        refine Wp.seqK fun K18 hK18 => ?_
        refine rg ?_
        refine hK18 _ ?_
        clear hK18 K18
        refine Wp.ret (retMade (hi := ?_) (ha := ?_) (hl := ?_) (hn2 := ?_) (hb2 := ?_) (hq := ?_)) <;> (try simp only [List.length_append, List.length_cons, List.length_nil, qsum_app]) <;> first | omega | (have hqb := qsb_le (n := ⟨19 + x6_1, 1, next, a8_10, q, 0⟩) (by show 0 ≤ q; omega); have hqb2 : qsb ⟨19 + x6_1, 1, next, a8_10, q, 0⟩ ≤ q := hqb; omega) | (rw [qsb_no ⟨by dsimp only; omega, by dsimp only; omega⟩]; omega)
  · as_aux_lemma =>
      refine Wp.skip ?_
      refine hK2 _ ?_
      clear hK2 K2
      refine Wp.seqU (α := Int × Int) (fun p => [.k, .k, .k, .k, .k, .d5, .d5, .d5, .d5, .d5, .d5, .d5, .d5, .d5, .d5, .d5, .d5, .d5, .d5, .d5, .d5, .d5, .d5, .d5, .d5, .d5, .d5, .d5, .d5, .d5, .d5, .d5, .d5, .d5, .d5, .d5, .d5, .d5, .d5, .d5, .d5, .d5, .d]) (fun p => [some (cur l p.1 p.2), some ⟨g, lN t⟩, some ⟨g', lN vars⟩]) (fun p => (0 ≤ p.1 ∧ p.1 ≤ (l.length : Int))) (fun K19 hK19 => ?_) ?_
      · refine Wp.seqK fun K20 hK20 => ?_
        refine rg ?_
        refine ⟨rfl, CallK.curI (h := l01Below_c _ _ _ (by omega) (by omega) (5) (by omega)) (fun x11_1 i11_1 s11_1 hx11_1 hi11_1 => ?_)⟩
        refine evd ?_
        refine hK20 _ ?_
        clear hK20 K20
        refine Wp.block ?_
        refine Wp.seqK fun K21 hK21 => ?_
        refine rg ?_
        refine hK21 _ ?_
        clear hK21 K21
        refine Wp.condS (fun h106 => ?_) (fun h106 => ?_)
        · as_aux_lemma =>
            refine Wp.seqK fun K22 hK22 => ?_
            refine rg ?_
            refine hK22 _ ?_
            clear hK22 K22
            refine Wp.condS (fun h109 => ?_) (fun h109 => ?_)
            · as_aux_lemma =>
                have hd : MadeAt l (n - 1) := ih.resolve_left (by omega)
                have hS : SM n = 2 * SM (n - 1) + 1 := SM_s (by omega)
                have hS1 := SM_ge (n - 1)
                refine Wp.seqK fun K23 hK23 => ?_
                refine rg ?_
                refine ⟨rfl, CallK.madeA (h := hd (vars) _ (k - 1) i11_1 s11_1 _ t (next) (bits) (hv) (by (try simp only [List.length_append, List.length_cons, List.length_nil]); omega) (by omega) (by omega) (by omega) (by omega) (by omega)) (fun i14_7 s14_7 g14_7 t14_7 a14_7 n14_7 b14_7 hi14_7 ha14_7 ht14_7 hn14_7 hb14_7 hq14_7 => ?_)⟩
                refine evd ?_
                refine hK23 _ ?_
                clear hK23 K23
                refine Wp.seqK fun K24 hK24 => ?_
                refine rg ?_
                refine ⟨rfl, CallK.handA 2 (o1 := [_, _]) (new := []) (push_c _ _ _ t14_7 _ (⟨2, 1, 0, a14_7, 0, 0⟩) (by omega)) ?_⟩
                refine evd ?_
                refine hK24 _ ?_
                clear hK24 K24
                refine Wp.seqK fun K25 hK25 => ?_
                refine rg ?_
                refine hK25 _ ?_
                clear hK25 K25
                refine Wp.ret (retMade (hi := ?_) (ha := ?_) (hl := ?_) (hn2 := ?_) (hb2 := ?_) (hq := ?_)) <;> (try simp only [List.length_append, List.length_cons, List.length_nil, qsum_app]) <;> first | omega | (have hqb := qsb_le (n := ⟨19 + x6_1, 1, next, a8_10, q, 0⟩) (by show 0 ≤ q; omega); have hqb2 : qsb ⟨19 + x6_1, 1, next, a8_10, q, 0⟩ ≤ q := hqb; omega) | (rw [qsb_no ⟨by dsimp only; omega, by dsimp only; omega⟩]; omega)
            · as_aux_lemma =>
                refine Wp.skip ?_
                try simp only [thn, inB, if_true, reduceIte]
                exact hK19 (i11_1, s11_1) _ hi11_1 anyS
        · as_aux_lemma =>
            refine Wp.seqU (α := Bool) (fun z => [.k, .k, .k, .k, .k, .k, .d5, .d5, .d5, .d5, .d5, .d5, .d5, .d5, .d5, .d5, .d5, .d5, .d5, .d5, .d5, .d5, .d5, .d5, .d5, .d5, .d5, .d5, .d5, .d5, .d5, .d, .d, .d, .v (T z), .d5, .d5, .d5, .d5, .d5, .d5, .d5, .d5, .d5, .d5, .d5, .d]) (fun z => [some (cur l i11_1 s11_1), some ⟨g, lN t⟩, some ⟨g', lN vars⟩]) (fun z => True) (fun K26 hK26 => ?_) ?_
            · refine Wp.seqK fun K27 hK27 => ?_
              refine rg ?_
              refine hK27 _ ?_
              clear hK27 K27
              refine Wp.condS (fun h134 => ?_) (fun h134 => ?_)
              · as_aux_lemma =>
                  refine Wp.skip ?_
                  exact hK26 (decide (x11_1 = 1)) _ trivial anyS
              · as_aux_lemma =>
                  refine rg ?_
                  exact hK26 (decide (x11_1 = 2)) _ trivial anyS
            rintro z f26 _
            simp only [updT_k, updT_d, updT_d5, updT_v, updT_nil, Nat.reduceAdd]
            refine Wp.condS (fun h134 => ?_) (fun h134 => ?_)
            · as_aux_lemma =>
                refine Wp.seqK fun K28 hK28 => ?_
                refine rg ?_
                refine hK28 _ ?_
                clear hK28 K28
                refine Wp.condS (fun h138 => ?_) (fun h138 => ?_)
                · as_aux_lemma =>
                    have hd : MadeAt l (n - 1) := ih.resolve_left (by omega)
                    have hS : SM n = 2 * SM (n - 1) + 1 := SM_s (by omega)
                    have hS1 := SM_ge (n - 1)
                    refine Wp.seqK fun K29 hK29 => ?_
                    refine rg ?_
                    refine ⟨rfl, CallK.madeA (h := hd (vars) _ (k - 1) i11_1 s11_1 _ t (next) (bits) (hv) (by (try simp only [List.length_append, List.length_cons, List.length_nil]); omega) (by omega) (by omega) (by omega) (by omega) (by omega)) (fun i20_7 s20_7 g20_7 t20_7 a20_7 n20_7 b20_7 hi20_7 ha20_7 ht20_7 hn20_7 hb20_7 hq20_7 => ?_)⟩
                    refine evd ?_
                    refine hK29 _ ?_
                    clear hK29 K29
                    refine Wp.seqK fun K30 hK30 => ?_
                    refine rg ?_
                    refine ⟨rfl, CallK.madeA (h := hd (vars) _ (k - 1) i20_7 s20_7 _ t20_7 (n20_7) (b20_7) (hv) (by (try simp only [List.length_append, List.length_cons, List.length_nil]); omega) (by omega) (by omega) (by omega) (by omega) (by omega)) (fun i21_7 s21_7 g21_7 t21_7 a21_7 n21_7 b21_7 hi21_7 ha21_7 ht21_7 hn21_7 hb21_7 hq21_7 => ?_)⟩
                    refine evd ?_
                    refine hK30 _ ?_
                    clear hK30 K30
                    refine Wp.seqK fun K31 hK31 => ?_
                    refine rg ?_
                    refine ⟨rfl, CallK.curI (h := l01Below_c _ _ _ (by omega) (by omega) (2) (by omega)) (fun x22_2 i22_2 s22_2 hx22_2 hi22_2 => ?_)⟩
                    refine evd ?_
                    refine ⟨rfl, CallK.handA 2 (o1 := [_, _]) (new := []) (push_c _ _ _ t21_7 _ (⟨3 + x22_2, 1, 0, a20_7, a21_7, 0⟩) (by omega)) ?_⟩
                    refine evd ?_
                    refine hK31 _ ?_
                    clear hK31 K31
                    refine Wp.seqK fun K32 hK32 => ?_
                    refine rg ?_
                    refine hK32 _ ?_
                    clear hK32 K32
                    refine Wp.ret (retMade (hi := ?_) (ha := ?_) (hl := ?_) (hn2 := ?_) (hb2 := ?_) (hq := ?_)) <;> (try simp only [List.length_append, List.length_cons, List.length_nil, qsum_app]) <;> first | omega | (have hqb := qsb_le (n := ⟨19 + x6_1, 1, next, a8_10, q, 0⟩) (by show 0 ≤ q; omega); have hqb2 : qsb ⟨19 + x6_1, 1, next, a8_10, q, 0⟩ ≤ q := hqb; omega) | (rw [qsb_no ⟨by dsimp only; omega, by dsimp only; omega⟩]; omega)
                · as_aux_lemma =>
                    refine Wp.skip ?_
                    try simp only [thn, inB, if_true, reduceIte]
                    exact hK19 (i11_1, s11_1) _ hi11_1 anyS
            · as_aux_lemma =>
                refine Wp.skip ?_
                try simp only [thn, inB, if_true, reduceIte]
                exact hK19 (i11_1, s11_1) _ hi11_1 anyS
      rintro p f19 hp1
      simp only [updT_k, updT_d, updT_d5, updT_v, updT_nil, Nat.reduceAdd]
      refine Wp.seqK fun K33 hK33 => ?_
      refine rg ?_
      refine ⟨rfl, CallK.deepA (h := deep_c l hl vars g' hv (by omega) 3 (by omega) 3 p.1 p.2 _ t 1 rfl (by omega) (by show _ + 40 ≤ _; omega) (by omega)) (fun i24_3 s24_3 g24_3 t24_3 a24_3 hi24_3 ha24_3 ht24_3 hq24_3 => ?_)⟩
      have ht24 : t24_3.length ≤ t.length + 40 := ht24_3
      refine evd ?_
      refine hK33 _ ?_
      clear hK33 K33
      refine Wp.seqK fun K34 hK34 => ?_
      refine rg ?_
      refine hK34 _ ?_
      clear hK34 K34
      refine Wp.ret (retMade (hi := ?_) (ha := ?_) (hl := ?_) (hn2 := ?_) (hb2 := ?_) (hq := ?_)) <;> (try simp only [List.length_append, List.length_cons, List.length_nil, qsum_app]) <;> first | omega | (have hqb := qsb_le (n := ⟨19 + x6_1, 1, next, a8_10, q, 0⟩) (by show 0 ≤ q; omega); have hqb2 : qsb ⟨19 + x6_1, 1, next, a8_10, q, 0⟩ ≤ q := hqb; omega) | (rw [qsb_no ⟨by dsimp only; omega, by dsimp only; omega⟩]; omega)

theorem made_c (l : List Int) (hl : l.length ≤ 1048576) : ∀ n : Nat, MadeAt l n
  | 0 => fun vars g' k i h g t next bits hv hvl hk hi ht hn hb => made_step l hl 0 (.inl rfl) vars g' k i h g t next bits hv hvl hk hi ht hn hb
  | n + 1 => fun vars g' k i h g t next bits hv hvl hk hi ht hn hb => made_step l hl (n + 1) (.inr (made_c l hl n)) vars g' k i h g t next bits hv hvl hk hi ht hn hb
end Go.Proofs.YtkdkbnacelnljaaGreat.RE
