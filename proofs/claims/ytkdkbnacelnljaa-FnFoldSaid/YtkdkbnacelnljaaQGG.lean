/- Drawing terms with constants. Conditions: those that a theorem names. -/
import Derived.Test.YtkdkbnacelnljaaQF9
import Derived.Test.YtkdkbnacelnljaaQGC
import Derived.Test.YtkdkbnacelnljaaQD15
set_option linter.unusedVariables false
set_option linter.unusedSimpArgs false
namespace Go.Proofs.Ytkdkbnacelnljaa.RE
open Go Go.RowKit
set_option maxRecDepth 100000
set_option maxHeartbeats 8000000
/-! ### A part of a row lent, wherever it lies -/
theorem part_argO {t : List Nd} {o n g : Nat} {al al' : List AV} {M : List (Nat × Nat × List DV)} (hn : n ≤ t.length) (hl : lk M o g = some (encN t)) (hal : al.map (AV.toC [] M) = al') : (AV.l (.obj o g 6 0 n) :: al).map (AV.toC [] M) = dN (t.take n) :: al' := by
  rw [List.map_cons, hal]
  congr 1
  show AV.l (LV.toC [] M (.obj o g 6 0 n)) = _
  unfold LV.toC
  simp only [hl, List.drop_zero, encN_take]
  have hl : (t.take n).length = n := by rw [List.length_take]; omega
  show _ = AV.l (.dsl true (t.take n).length (encN (t.take n)))
  rw [hl]
section
variable {P : Program} {f : FuncId} {st : St} {d : Option Tmp} {K : St → Prop} {t : List Nd} {o n g : Nat} {al : List AV}
theorem lend_o (ho : st.ob.getD o none = some ⟨g, lN t⟩) : LendOk [] st.ob [(o, g, encN t)] :=
  LendOk.cons false _ ho rfl (lN_encN t false).symm LendOk.nil
theorem CallK.retO {r0 : AV} {ob0 : Obs} (hn : n ≤ t.length) (h : Ret P f (dN (t.take n) :: al) r0 ob0) (k : K ⟨putT st.tm d (r0.ren (sh st.ob.length)), st.ob ++ ob0⟩) (ho : st.ob.getD o none = some ⟨g, lN t⟩ := by rfl) (hal : al.map (AV.toC [] [(o, g, encN t)]) = al := by rfl) (hf : obFlat ob0 = true := by (simp only [obFlat, List.all_cons, List.all_nil, lN_flat, flatI, flatB, lS_flat, flatT, flatU, Bool.and_true]) <;> rfl) (hr : r0.noB = true := by rfl) : CallK P f (.l (.obj o g 6 0 n) :: al) st d K :=
  CallK.use (Q := fun r ob => r = r0 ∧ ob = ob0) [] [(o, g, encN t)] (lend_o ho) (by rw [part_argO hn (by simp [lk]) hal]; exact h) fun r ob1 ⟨h1, h2⟩ => by
    subst h1; subst h2
    refine ⟨Nat.zero_le _, .inr ⟨hr, obFlat_noB hf⟩, ?_⟩
    rw [obB_nil, obFlat_ren hf, mB_nil]
    exact k
theorem CallK.valPI {v : AV} {o2 g2 m : Nat} {env : List Int} (hn : n ≤ t.length) (hm : m = env.length) (h : Val P f [dN (t.take n), dI env] v) (k : K ⟨putT st.tm d v, st.ob⟩) (h02 : o ≠ o2 := by decide) (ho : st.ob.getD o none = some ⟨g, lN t⟩ := by rfl) (ho2 : st.ob.getD o2 none = some ⟨g2, env.map ci⟩ := by rfl) (hv : v.flat = true := by rfl) : CallK P f [.l (.obj o g 6 0 n), .l (.obj o2 g2 1 0 m)] st d K :=
  CallK.val [(o, g, encN t), (o2, g2, encI env)] (LendOk.cons false _ ho rfl (lN_encN t false).symm (LendOk.cons false _ ho2 rfl (lI_encI env false).symm LendOk.nil)) (by
    subst hm
    rw [part_argO (al' := [dI env]) hn (by simp [lk]) (by
      simp only [List.map_cons, List.map_nil]
      congr 1
      show AV.l (LV.toC [] _ (.obj o2 g2 1 0 env.length)) = _
      unfold LV.toC
      have hl : lk [(o, g, encN t), (o2, g2, encI env)] o2 g2 = some (encI env) := by simp [lk, h02]
      simp only [hl, List.drop_zero, Nat.mul_one]
      congr 2
      exact List.take_of_length_le (by rw [encI_len]; exact Nat.le_refl _))]
    exact h) hv k
end
/-! ### A variable replaced by a number -/
def repN (v k : Int) (n : Nd) : Nd := if (decide (n.op = 1) && decide (n.k = v)) = true then ⟨0, n.w, k, n.a, n.b, n.c⟩ else n
def rbad (t : List Nd) (v k : Int) (i : Nat) : Bool := (isQ (t.getD i default).op && decide ((t.getD i default).k = v)) || ((decide ((t.getD i default).op = 1) && decide ((t.getD i default).k = v)) && !wordOk (t.getD i default).w k)
def repL (t : List Nd) (v k : Int) (x : Nat) : List Nd := (t.take x).map (repN v k)
theorem repL_len {t : List Nd} {v k : Int} {x : Nat} (h : x ≤ t.length) : (repL t v k x).length = x := by simp [repL]; omega
theorem repL_push {t : List Nd} {v k : Int} {x : Nat} (h : x < t.length) : repL t v k x ++ [repN v k (t.getD x default)] = repL t v k (x + 1) := by
  unfold repL
  rw [take_push default h, List.map_append]; rfl
def repT (t : List Nd) (v k : Int) : List Nd × Bool := if (okT t && !(List.range t.length).any (rbad t v k)) = true then (t.map (repN v k), true) else ([], false)
theorem rep_1 {t : List Nd} {v k : Int} (h : okT t = false) : repT t v k = ([], false) := by unfold repT; rw [h]; rfl
theorem rep_2 {t : List Nd} {v k : Int} {i : Nat} (hi : i < t.length) (h : rbad t v k i = true) : repT t v k = ([], false) := by unfold repT; rw [any_at hi h, Bool.not_true, Bool.and_false]; rfl
theorem rep_y {t : List Nd} {v k : Int} (hok : okT t = true) (h : ∀ j, j < t.length → rbad t v k j = false) : repT t v k = (repL t v k t.length, true) := by
  unfold repT repL
  rw [hok, any_none h, List.take_length]; rfl
theorem repT_len (t : List Nd) (v k : Int) (h : (repT t v k).2 = true) : (repT t v k).1.length = t.length := by
  unfold repT at h ⊢
  split
  · simp
  · rename_i h1; rw [if_neg h1] at h; cases h
theorem repT_le (t : List Nd) (v k : Int) : (repT t v k).1.length ≤ t.length := by
  unfold repT
  split
  · simp
  · exact Nat.zero_le _
theorem Replace_c (t : List Nd) (v k : Int) (hlb : t.length ≤ 1048576) : Ret E.P 28 [dN t, I v, I k] (.tup [.l (.obj 0 0 6 0 (repT t v k).1.length), TB (repT t v k).2]) [some ⟨0, lN (repT t v k).1⟩] := by
  refine CallsA.body (E := E) (fn := Try.f28) Try.func28 rfl fun B hB => ?_
  simp only [Try.ntmps28, go_sem, nl, Nat.reduceSub, Nat.reduceAdd, List.reduceReplicate]
  refine Wp.seqK fun K1 hK1 => ?_
  refine rg ?_
  refine hK1 _ ?_
  clear hK1 K1
  refine Wp.seqK fun K2 hK2 => ?_
  refine rg ?_
  refine hK2 _ ?_
  clear hK2 K2
  refine Wp.seqK fun K3 hK3 => ?_
  refine Wp.seqK fun K4 hK4 => ?_
  refine rg ?_
  refine ⟨rfl, CallK.valA (h := sTermOk_c _) (k := ?_)⟩
  refine evd ?_
  refine hK4 _ ?_
  clear hK4 K4
  refine Wp.condS (fun h14 => ?_) (fun h14 => ?_)
  · have hr := rep_1 (v := v) (k := k) (show okT t = false by simpa using h14)
    refine Wp.seqK fun K5 hK5 => ?_
    refine rg ?_
    refine hK5 _ ?_
    clear hK5 K5
    rw [hr]
    refine Wp.ret (retRB (cs := lN []) ?_ ?_ ?_)
    all_goals rfl
  · have hok : okT t = true := by simpa using h14
    have hl := okT_len hok
    refine Wp.skip ?_
    refine hK3 _ ?_
    clear hK3 K3
    refine Wp.seqK fun K6 hK6 => ?_
    refine Wp.seqK fun K7 hK7 => ?_
    refine rg ?_
    refine hK7 _ ?_
    clear hK7 K7
    refine Wp.block ?_
    refine Wp.loopU (α := Nat) (fun x => [.k, .k, .k, .d5, .v (.l (.obj 0 x 6 0 x)), .v (I x), .d5, .d5, .d5, .d5, .d5, .d5, .d5, .d5, .d5, .d5, .d5, .d5, .d]) (fun x => [some ⟨x, lN (repL t v k x)⟩]) (fun x => x ≤ t.length ∧ ∀ j, j < x → rbad t v k j = false) (fun x => t.length - x) 0 (⟨Nat.zero_le _, fun j h => absurd h (Nat.not_lt_zero j)⟩) (anyS) ?_
    rintro x f8 K8 ⟨hx, hrb⟩ hK8
    simp only [updT_k, updT_d, updT_d5, updT_v, updT_nil, Nat.reduceAdd]
    have hrl := repL_len (v := v) (k := k) hx
    refine Wp.seqK fun K9 hK9 => ?_
    refine Wp.seqK fun K10 hK10 => ?_
    refine rg ?_
    refine hK10 _ ?_
    clear hK10 K10
    refine Wp.condS (fun h19 => ?_) (fun h19 => ?_)
    · have hxl : x < t.length := by omega
      refine Wp.skip ?_
      refine hK9 _ ?_
      clear hK9 K9
      refine Wp.seqK fun K11 hK11 => ?_
      refine Wp.block ?_
      refine Wp.seqK fun K12 hK12 => ?_
      refine rg ?_
      refine hK12 _ ?_
      clear hK12 K12
      refine Wp.seqK fun K13 hK13 => ?_
      refine Wp.seqU0 [.k, .k, .k, .d5, .k, .k, .k, .d5, .d5, .d5, .d5, .d5, .d5, .d5, .d5, .d, .v (T (rbad t v k x)), .d5, .d5, .d5, .d, .d, .d] (fun K14 hK14 => ?_) ?_
      · refine rg ?_
        refine ⟨rfl, CallK.valA (h := l02Quant_c _) (k := ?_)⟩
        refine evd ?_
        refine grdA_split rfl (fun g8_4 => ?_) (fun g8_4 => ?_)
        · try simp only [decide_eq_true_eq, decide_eq_false_iff_not] at g8_4
          try refine evd ?_
          refine grdA_split rfl (fun g8_10 => ?_) (fun g8_10 => ?_)
          · try simp only [decide_eq_true_eq, decide_eq_false_iff_not] at g8_10
            try refine evd ?_
            exact hK14 _ (anyS (h := by first | rfl | (simp only [rbad, g8_4, g8_10, Bool.true_or, Bool.or_true, Bool.false_or, Bool.or_false, Bool.true_and, Bool.and_true, Bool.false_and, Bool.and_false, Bool.not_true, Bool.not_false, decide_true, decide_false, eq_self, Int.reduceEq] <;> rfl)))
          · try simp only [decide_eq_true_eq, decide_eq_false_iff_not] at g8_10
            try refine evd ?_
            refine grdA_split rfl (fun g8_14 => ?_) (fun g8_14 => ?_)
            · try simp only [decide_eq_true_eq, decide_eq_false_iff_not] at g8_14
              exfalso
              have e := g8_14
              rw [e] at g8_4
              exact absurd g8_4 (by decide)
            · try simp only [decide_eq_true_eq, decide_eq_false_iff_not] at g8_14
              try refine evd ?_
              exact hK14 _ (anyS (h := by first | rfl | (simp only [rbad, g8_4, g8_10, g8_14, Bool.true_or, Bool.or_true, Bool.false_or, Bool.or_false, Bool.true_and, Bool.and_true, Bool.false_and, Bool.and_false, Bool.not_true, Bool.not_false, decide_true, decide_false, eq_self, Int.reduceEq] <;> rfl)))
        · try simp only [decide_eq_true_eq, decide_eq_false_iff_not] at g8_4
          try refine evd ?_
          refine grdA_split rfl (fun g8_14 => ?_) (fun g8_14 => ?_)
          · try simp only [decide_eq_true_eq, decide_eq_false_iff_not] at g8_14
            try refine evd ?_
            refine grdA_split rfl (fun g8_20 => ?_) (fun g8_20 => ?_)
            · try simp only [decide_eq_true_eq, decide_eq_false_iff_not] at g8_20
              try refine evd ?_
              refine ⟨rfl, CallK.valA (h := sWordOk_c _ _) (k := ?_)⟩
              refine evd ?_
              exact hK14 _ (anyS (h := by first | rfl | (simp only [rbad, g8_4, g8_14, g8_20, Bool.true_or, Bool.or_true, Bool.false_or, Bool.or_false, Bool.true_and, Bool.and_true, Bool.false_and, Bool.and_false, Bool.not_true, Bool.not_false, decide_true, decide_false, eq_self, Int.reduceEq] <;> rfl)))
            · try simp only [decide_eq_true_eq, decide_eq_false_iff_not] at g8_20
              try refine evd ?_
              exact hK14 _ (anyS (h := by first | rfl | (simp only [rbad, g8_4, g8_14, g8_20, Bool.true_or, Bool.or_true, Bool.false_or, Bool.or_false, Bool.true_and, Bool.and_true, Bool.false_and, Bool.and_false, Bool.not_true, Bool.not_false, decide_true, decide_false, eq_self, Int.reduceEq] <;> rfl)))
          · try simp only [decide_eq_true_eq, decide_eq_false_iff_not] at g8_14
            try refine evd ?_
            exact hK14 _ (anyS (h := by first | rfl | (simp only [rbad, g8_4, g8_14, Bool.true_or, Bool.or_true, Bool.false_or, Bool.or_false, Bool.true_and, Bool.and_true, Bool.false_and, Bool.and_false, Bool.not_true, Bool.not_false, decide_true, decide_false, eq_self, Int.reduceEq] <;> rfl)))
      rintro f14
      simp only [updT_k, updT_d, updT_d5, updT_v, updT_nil, Nat.reduceAdd]
      refine Wp.condS (fun h52 => ?_) (fun h52 => ?_)
      · have hr := rep_2 hxl h52
        refine Wp.seqK fun K15 hK15 => ?_
        refine rg ?_
        refine hK15 _ ?_
        clear hK15 K15
        rw [hr]
        refine Wp.ret (retRB (cs := lN []) ?_ ?_ ?_)
        all_goals rfl
      · have hrn : rbad t v k x = false := h52
        refine Wp.skip ?_
        refine hK13 _ ?_
        clear hK13 K13
        refine Wp.seqU (α := Unit) (fun u_ => [.k, .k, .k, .d5, .k, .k, .k, .d5, .d5, .d5, .d5, .d5, .d5, .d5, .d5, .d5, .d5, .d5, .d5]) (fun u_ => [some ⟨x, lN (repL t v k x)⟩, some ⟨0, nl (repN v k (t.getD x default))⟩]) (fun u_ => True) (fun K16 hK16 => ?_) ?_
        · refine Wp.seqU0 [.k, .k, .k, .d5, .k, .k, .k, .d5, .d5, .d5, .d5, .d5, .d5, .d5, .d5, .d5, .d5, .d, .v (T (decide ((t.getD x default).op = 1) && decide ((t.getD x default).k = v))), .d5, .d, .d, .d] (fun K17 hK17 => ?_) ?_
          · refine rg ?_
            refine grdA_split rfl (fun g10_4 => ?_) (fun g10_4 => ?_)
            · try simp only [decide_eq_true_eq, decide_eq_false_iff_not] at g10_4
              try refine evd ?_
              exact hK17 _ (anyS (h := by first | rfl | (simp only [g10_4, Bool.true_or, Bool.or_true, Bool.false_or, Bool.or_false, Bool.true_and, Bool.and_true, Bool.false_and, Bool.and_false, Bool.not_true, Bool.not_false, decide_true, decide_false, eq_self, Int.reduceEq] <;> rfl)))
            · try simp only [decide_eq_true_eq, decide_eq_false_iff_not] at g10_4
              try refine evd ?_
              exact hK17 _ (anyS (h := by first | rfl | (simp only [g10_4, Bool.true_or, Bool.or_true, Bool.false_or, Bool.or_false, Bool.true_and, Bool.and_true, Bool.false_and, Bool.and_false, Bool.not_true, Bool.not_false, decide_true, decide_false, eq_self, Int.reduceEq] <;> rfl)))
          rintro f17
          simp only [updT_k, updT_d, updT_d5, updT_v, updT_nil, Nat.reduceAdd]
          refine Wp.condS (fun h62 => ?_) (fun h62 => ?_)
          · have hn : repN v k (t.getD x default) = ⟨0, (t.getD x default).w, k, (t.getD x default).a, (t.getD x default).b, (t.getD x default).c⟩ := if_pos (by rw [Bool.and_eq_true, decide_eq_true_eq, decide_eq_true_eq]; exact h62)
            refine Wp.seqK fun K18 hK18 => ?_
            refine rg ?_
            refine hK18 _ ?_
            clear hK18 K18
            refine rg ?_
            exact hK16 () _ trivial (anyS (ho := by rw [hn] <;> rfl))
          · have hn : repN v k (t.getD x default) = (t.getD x default) := if_neg (by rw [h62]; decide)
            refine Wp.skip ?_
            exact hK16 () _ trivial (anyS (ho := by rw [hn] <;> rfl))
        rintro _ f16 _
        simp only [updT_k, updT_d, updT_d5, updT_v, updT_nil, Nat.reduceAdd]
        refine rg ?_
        try simp only [thn, inB, if_true, reduceIte]
        refine hK11 _ ?_
        clear hK11 K11
        refine Wp.keep 1 (by simp [hB]) (by simp) ?_
        refine evd ?_
        refine rg ?_
        exact hK8 (x + 1) _ ⟨by omega, ub_next hrb hrn⟩ (by omega) (anyS (ho := by rw [← repL_push hxl] <;> rfl))
    · have hxl : x = t.length := by omega
      subst hxl
      have hr := rep_y hok hrb
      refine Wp.exit ?_
      try simp only [thn, inB, if_true, reduceIte]
      clear hK9 K9
      clear hK8 K8
      refine hK6 _ ?_
      clear hK6 K6
      refine Wp.seqK fun K19 hK19 => ?_
      refine rg ?_
      refine hK19 _ ?_
      clear hK19 K19
      rw [hr]
      refine Wp.ret (retRB (cs := lN (repL t v k t.length)) ?_ ?_ ?_)
      · rw [hrl]
      · rfl
      · rfl
theorem l15Const_c (l : List Int) (hl : l.length ≤ 1048576) (i h : Int) (hi : 0 ≤ i ∧ i ≤ (l.length : Int)) : CallsA E.P 12 [.l (.ptr 0 0 0)] [some (cur l i h)] (QT1 l pAny) := by
  refine CallsA.body (E := E) (fn := Try.f12) Try.func12 rfl fun B hB => ?_
  simp only [Try.ntmps12, go_sem, nl, Nat.reduceSub, Nat.reduceAdd, List.reduceReplicate]
  refine Wp.seqK fun K1 hK1 => ?_
  refine rg ?_
  refine hK1 _ ?_
  clear hK1 K1
  refine Wp.seqK fun K2 hK2 => ?_
  refine rg ?_
  refine ⟨rfl, CallK.t1 (h := l04Open_c l hl i h hi) (fun i1_1 s1_1 t1_1 n1_1 hi1_1 hp1_1 => ?_)⟩
  refine evd ?_
  refine hK2 _ ?_
  clear hK2 K2
  refine Wp.seqK fun K3 hK3 => ?_
  refine Wp.seqK fun K4 hK4 => ?_
  refine rg ?_
  refine hK4 _ ?_
  clear hK4 K4
  refine Wp.block ?_
  refine Wp.loopU (α := (Int × Int) × List Nd × Nat × Nat) (fun q => [.k, .d, .d, .v (.l (.obj 1 0 6 0 q.2.2.1)), .v (I (q.2.2.2 : Int)), .d5, .d5, .d5, .d5, .d, .d, .d]) (fun q => [some (cur l q.1.1 q.1.2), some ⟨0, lN q.2.1⟩]) (fun q => (0 ≤ q.1.1 ∧ q.1.1 ≤ (l.length : Int)) ∧ pAny q.2.1 q.2.2.1 ∧ q.2.2.2 ≤ 3) (fun q => 3 - q.2.2.2) ((i1_1, s1_1), t1_1, n1_1, 0) (⟨hi1_1, hp1_1, Nat.zero_le _⟩) (anyS) ?_
  rintro q f5 K5 ⟨hq1, hp, hq3⟩ hK5
  simp only [updT_k, updT_d, updT_d5, updT_v, updT_nil, Nat.reduceAdd]
  have hp1 : 1 ≤ q.2.2.1 := hp.1
  have hp2 : q.2.2.1 ≤ q.2.1.length := hp.2.1
  have hp3 : q.2.1.length ≤ 81 := hp.2.2
  refine Wp.seqK fun K6 hK6 => ?_
  refine Wp.seqK fun K7 hK7 => ?_
  refine rg ?_
  refine hK7 _ ?_
  clear hK7 K7
  refine Wp.condS (fun h10 => ?_) (fun h10 => ?_)
  · have hx3 : q.2.2.2 < 3 := by omega
    refine Wp.skip ?_
    refine hK6 _ ?_
    clear hK6 K6
    refine Wp.seqK fun K8 hK8 => ?_
    refine Wp.block ?_
    refine Wp.seqK fun K9 hK9 => ?_
    refine rg ?_
    refine ⟨rfl, CallK.curI (h := l01Below_c _ _ _ (by omega) (by omega) (2) (by omega)) (fun x5_3 i5_3 s5_3 hx5_3 hi5_3 => ?_)⟩
    refine evd ?_
    refine ⟨rfl, CallK.retO hp.2.1 (h := Replace_c _ _ _ (by rw [List.length_take]; omega)) (k := ?_)⟩
    have hrl := repT_len (q.2.1.take q.2.2.1) (q.2.2.2 : Int) x5_3
    have hrm := repT_le (q.2.1.take q.2.2.1) (q.2.2.2 : Int) x5_3
    have htl : (q.2.1.take q.2.2.1).length = q.2.2.1 := by rw [List.length_take]; omega
    refine evd ?_
    refine hK9 _ ?_
    clear hK9 K9
    refine Wp.seqU (α := (Int × Int) × Bool) (fun y => [.k, .d, .d, .k, .k, .k, .d5, .d5, .d5, .d, .d, .d, .d, .v (T y.2), .d, .d]) (fun y => [some (cur l y.1.1 y.1.2), some ⟨0, lN q.2.1⟩, some ⟨0, lN (repT (q.2.1.take q.2.2.1) (q.2.2.2 : Int) x5_3).1⟩]) (fun y => (0 ≤ y.1.1 ∧ y.1.1 ≤ (l.length : Int)) ∧ (y.2 = true → (repT (q.2.1.take q.2.2.1) (q.2.2.2 : Int) x5_3).2 = true)) (fun K10 hK10 => ?_) ?_
    · refine rg ?_
      refine grdA_split rfl (fun g6_2 => ?_) (fun g6_2 => ?_)
      · try simp only [decide_eq_true_eq, decide_eq_false_iff_not] at g6_2
        try refine evd ?_
        refine ⟨rfl, CallK.curT (h := l01Once_c _ _ _ (by omega) (by omega) 2 (by omega)) (fun x6_3 i6_3 s6_3 hx6_3 hi6_3 => ?_)⟩
        refine evd ?_
        exact hK10 ((i6_3, s6_3), _) _ ⟨hi6_3, fun _ => by first | exact g6_2 | simpa using g6_2⟩ anyS
      · try simp only [decide_eq_true_eq, decide_eq_false_iff_not] at g6_2
        try refine evd ?_
        exact hK10 ((i5_3, s5_3), false) _ ⟨hi5_3, fun e => by cases e⟩ anyS
    rintro y f10 ⟨hy1, hy2⟩
    simp only [updT_k, updT_d, updT_d5, updT_v, updT_nil, Nat.reduceAdd]
    refine Wp.condS (fun h25 => ?_) (fun h25 => ?_)
    · have hok5 := hrl (hy2 h25)
      refine rg ?_
      try simp only [thn, inB, if_true, reduceIte]
      refine hK8 _ ?_
      clear hK8 K8
      refine Wp.keepR 1 [2] ?_ ?_ (by decide) (by decide) ?_
      rw [hB]; exact of_decide_eq_true rfl
      exact of_decide_eq_true rfl
      refine evd ?_
      refine rg ?_
      exact hK5 (y.1, (repT (q.2.1.take q.2.2.1) (q.2.2.2 : Int) x5_3).1, (repT (q.2.1.take q.2.2.1) (q.2.2.2 : Int) x5_3).1.length, q.2.2.2 + 1) _ ⟨hy1, ⟨by show 1 ≤ (repT (q.2.1.take q.2.2.1) (q.2.2.2 : Int) x5_3).1.length; omega, Nat.le_refl _, by show (repT (q.2.1.take q.2.2.1) (q.2.2.2 : Int) x5_3).1.length ≤ 81; omega⟩, by show q.2.2.2 + 1 ≤ 3; omega⟩ (by show 3 - (q.2.2.2 + 1) < 3 - q.2.2.2; omega) anyS
    · refine Wp.skip ?_
      try simp only [thn, inB, if_true, reduceIte]
      refine hK8 _ ?_
      clear hK8 K8
      refine Wp.keep 2 (by simp [hB]) (by simp) ?_
      refine evd ?_
      refine rg ?_
      exact hK5 (y.1, q.2.1, q.2.2.1, q.2.2.2 + 1) _ ⟨hy1, hp, by show q.2.2.2 + 1 ≤ 3; omega⟩ (by show 3 - (q.2.2.2 + 1) < 3 - q.2.2.2; omega) anyS
  · refine Wp.exit ?_
    try simp only [thn, inB, if_true, reduceIte]
    clear hK6 K6
    clear hK5 K5
    refine hK3 _ ?_
    clear hK3 K3
    refine Wp.seqK fun K11 hK11 => ?_
    refine rg ?_
    refine hK11 _ ?_
    clear hK11 K11
    refine Wp.ret (retT1 (t := q.2.1) hp hq1)
theorem nd_eq {a b : Nd} (h : a.op = b.op ∧ a.w = b.w ∧ a.k = b.k ∧ a.a = b.a ∧ a.b = b.b ∧ a.c = b.c) : a = b := by
  obtain ⟨h1, h2, h3, h4, h5, h6⟩ := h
  cases a; cases b; simp_all
theorem take_extN {a b : List Nd} {x : Nat} (hl : a.length = b.length) (hx : x < a.length) (h : a.take x = b.take x) (he : a.getD x default = b.getD x default) : a.take (x + 1) = b.take (x + 1) := by
  rw [take_push default hx, take_push default (by omega), h, he]
theorem sameNodes_c (a b : List Nd) (ha : a.length ≤ 1048576) (hb : b.length ≤ 1048576) : Val E.P 8 [dN a, dN b] (T (decide (a = b))) := by
  refine CallsA.body (E := E) (fn := Try.f8) Try.func8 rfl fun B hB => ?_
  simp only [Try.ntmps8, go_sem, nl, Nat.reduceSub, Nat.reduceAdd, List.reduceReplicate]
  refine Wp.seqK fun K1 hK1 => ?_
  refine rg ?_
  refine hK1 _ ?_
  clear hK1 K1
  refine Wp.seqK fun K2 hK2 => ?_
  refine Wp.seqK fun K3 hK3 => ?_
  refine rg ?_
  refine hK3 _ ?_
  clear hK3 K3
  refine Wp.condS (fun h10 => ?_) (fun h10 => ?_)
  · refine Wp.seqK fun K4 hK4 => ?_
    refine rg ?_
    refine hK4 _ ?_
    clear hK4 K4
    refine Wp.ret (retV ?_)
    try simp only [List.getD_cons_zero, List.getD_cons_succ]
    rw [decide_eq_false (fun e => h10 (by rw [e]))]
  · have hl : a.length = b.length := by omega
    refine Wp.skip ?_
    refine hK2 _ ?_
    clear hK2 K2
    refine Wp.seqK fun K5 hK5 => ?_
    refine Wp.seqK fun K6 hK6 => ?_
    refine rg ?_
    refine hK6 _ ?_
    clear hK6 K6
    refine Wp.block ?_
    refine Wp.loopU0 (α := Nat) (fun x => [.k, .k, .d, .d, .d, .v (I x), .d5, .d5, .d5, .d5]) (fun x => x ≤ a.length ∧ a.take x = b.take x) (fun x => a.length - x) 0 (⟨Nat.zero_le _, rfl⟩) anyS ?_
    rintro x f7 K7 ⟨hx, he⟩ hK7
    simp only [updT_k, updT_d, updT_d5, updT_v, updT_nil, Nat.reduceAdd]
    refine Wp.seqK fun K8 hK8 => ?_
    refine Wp.seqK fun K9 hK9 => ?_
    refine rg ?_
    refine hK9 _ ?_
    clear hK9 K9
    refine Wp.condS (fun h14 => ?_) (fun h14 => ?_)
    · have hxl : x < a.length := by omega
      refine Wp.skip ?_
      refine hK8 _ ?_
      clear hK8 K8
      refine Wp.seqK fun K10 hK10 => ?_
      refine Wp.block ?_
      refine Wp.seqK fun K11 hK11 => ?_
      refine Wp.drawI [0, 1, 2, 3, 4, 5, 6, 7] [] (by kernel_rfl) ?_
      refine evd ?_
      refine ⟨rfl, ?_⟩
      refine hK11 _ ?_
      clear hK11 K11
      refine Wp.condS (fun h25 => ?_) (fun h25 => ?_)
      · have hne : ¬ a.getD x default = b.getD x default := fun e => by rw [e] at h25; simp at h25
        refine Wp.seqK fun K12 hK12 => ?_
        refine rg ?_
        refine hK12 _ ?_
        clear hK12 K12
        refine Wp.ret (retV ?_)
        try simp only [List.getD_cons_zero, List.getD_cons_succ]
        rw [decide_eq_false (fun e => hne (by rw [e]))]
      · have hee : a.getD x default = b.getD x default := nd_eq h25
        refine Wp.skip ?_
        try simp only [thn, inB, if_true, reduceIte]
        refine hK10 _ ?_
        clear hK10 K10
        refine rg ?_
        exact hK7 (x + 1) _ ⟨by omega, take_extN hl hxl he hee⟩ (by omega) anyS
    · have hxl : x = a.length := by omega
      refine Wp.exit ?_
      try simp only [thn, inB, if_true, reduceIte]
      clear hK8 K8
      clear hK7 K7
      refine hK5 _ ?_
      clear hK5 K5
      refine Wp.seqK fun K13 hK13 => ?_
      refine rg ?_
      refine hK13 _ ?_
      clear hK13 K13
      refine Wp.ret (retV ?_)
      try simp only [List.getD_cons_zero, List.getD_cons_succ]
      rw [hxl, List.take_length, hl, List.take_length] at he
      simp [he]
end Go.Proofs.Ytkdkbnacelnljaa.RE

/-! Terms whose constants are put together, the law. Conditions: those that a theorem names. -/
set_option linter.unusedVariables false
set_option linter.unusedSimpArgs false
namespace Go.Proofs.Ytkdkbnacelnljaa.RE
open Go Go.RowKit
set_option maxRecDepth 100000
set_option maxHeartbeats 8000000
def QDn : AV → Obs → Prop := fun r ob => ∃ (t : List Nd) (n : Nat), pAny t n ∧ r = .l (.obj 0 0 6 0 n) ∧ ob = [some ⟨0, lN t⟩]
theorem retDn {st : St} {fn : Func} {c : Ob} {t : List Nd} {n : Nat} (hp : pAny t n) (h : resA st.tm st.ob E fn.results.toList = some (.l (.obj 1 0 6 0 n)) := by rfl) (hob : st.ob = [some c, some ⟨0, lN t⟩] := by rfl) : retQ E fn 0 QDn .ret st := by
  refine ⟨_, [1], h, Nat.zero_le _, by simp, by simp, t, n, hp, ?_, ?_⟩
  · rw [hob]; rfl
  · rw [hob]
    simp only [keepO, List.take_zero, List.map_cons, List.map_nil, List.nil_append, List.getD_cons_succ, List.getD_cons_zero, Option.map_some, map_flat (lN_flat _)]
theorem CallK.drawN {P : Program} {f : FuncId} {args args' : List AV} {st : St} {d : Option Tmp} {K : St → Prop} (h : CallsA P f args' [] QDn)
    (k : ∀ (t : List Nd) (n : Nat), pAny t n → K ⟨putT st.tm d (.l (.obj st.ob.length 0 6 0 n)), st.ob ++ [some ⟨0, lN t⟩]⟩) (ha : args.map (AV.toC (List.range 0) []) = args' := by rfl) : CallK P f args st d K :=
  CallK.handE 0 (obm := []) h (fun r ob1 ⟨t, n, hp, e1, e2⟩ => ⟨[], [some ⟨0, lN t⟩], e2, rfl, rfl, by
    have := k t n hp
    rw [e1]
    simpa [AV.ren, TV.ren, LV.ren, shm, Ob.ren, map_flat (lN_flat t)] using this⟩) rfl ha rfl (Nat.zero_le _)
theorem DrawFold_c (l : List Int) (hl : l.length ≤ 1048576) : CallsA E.P 5 [dY l] [] QDn := by
  refine CallsA.body (E := E) (fn := Try.f5) Try.func5 rfl fun B hB => ?_
  simp only [Try.ntmps5, go_sem, nl, Nat.reduceSub, Nat.reduceAdd, List.reduceReplicate]
  refine Wp.seqK fun K1 hK1 => ?_
  refine rg ?_
  refine hK1 _ ?_
  clear hK1 K1
  refine Wp.seqK fun K2 hK2 => ?_
  refine rg ?_
  refine ⟨rfl, CallK.new0 (h := l01New_c l hl) (fun s1_1 => ?_)⟩
  refine evd ?_
  refine ⟨rfl, CallK.t1 (h := l15Const_c l hl 0 s1_1 (by omega)) (fun i1_2 s1_2 t1_2 n1_2 hi1_2 hp1_2 => ?_)⟩
  refine evd ?_
  refine hK2 _ ?_
  clear hK2 K2
  refine Wp.ret (retDn (t := t1_2) hp1_2)
def envL (l : List Int) (x : Nat) : List Int := (List.range x).map fun (v : Nat) => (atT l ((v : Int) + 3)).tmod 2
theorem envL_len (l : List Int) (x : Nat) : (envL l x).length = x := by simp [envL]
theorem envL_push (l : List Int) (x : Nat) : envL l x ++ [(atT l ((x : Int) + 3)).tmod 2] = envL l (x + 1) := by simp [envL, List.range_succ]
theorem foldT_no {t : List Nd} (h : (foldT t).2 = false) : (foldT t).1 = [] := by
  unfold foldT at h ⊢
  split
  · rename_i h1; rw [if_pos h1] at h; cases h
  · rfl
theorem foldT_ok {t : List Nd} (h : (foldT t).2 = true) : okT t = true := by
  unfold foldT at h
  split at h
  · assumption
  · cases h
theorem lawFnFold_c (l : List Int) (hlen : (l.length : Int) ≤ 9223372036854775807) : Val E.P 3 [dY l] (T true) := by
  refine CallsA.body (E := E) (fn := Try.f3) Try.func3 rfl fun B hB => ?_
  simp only [Try.ntmps3, go_sem, nl, Nat.reduceSub, Nat.reduceAdd, List.reduceReplicate]
  refine Wp.seqK fun K1 hK1 => ?_
  refine rg ?_
  refine hK1 _ ?_
  clear hK1 K1
  refine Wp.seqK fun K2 hK2 => ?_
  refine Wp.seqK fun K3 hK3 => ?_
  refine rg ?_
  refine ⟨rfl, CallK.valA (h := big_c _) (k := ?_)⟩
  refine evd ?_
  refine hK3 _ ?_
  clear hK3 K3
  refine Wp.condS (fun h17 => ?_) (fun h17 => ?_)
  · refine Wp.seqK fun K4 hK4 => ?_
    refine rg ?_
    refine hK4 _ ?_
    clear hK4 K4
    refine Wp.ret (retV ?_)
    try simp only [List.getD_cons_zero, List.getD_cons_succ]
  · have hl : l.length ≤ 1048576 := by omega
    refine Wp.skip ?_
    refine hK2 _ ?_
    clear hK2 K2
    refine Wp.seqK fun K5 hK5 => ?_
    refine rg ?_
    refine ⟨rfl, CallK.drawN (h := DrawFold_c l hl) (fun t3_1 n3_1 hp3_1 => ?_)⟩
    obtain ⟨hp1, hp2, hp3⟩ := hp3_1
    have hul : (t3_1.take n3_1).length = n3_1 := by rw [List.length_take]; omega
    have hfl := foldT_len (t3_1.take n3_1)
    have hfs := foldT_size (t3_1.take n3_1)
    have hff := foldT_len (foldT (t3_1.take n3_1)).1
    refine evd ?_
    refine hK5 _ ?_
    clear hK5 K5
    refine Wp.seqK fun K6 hK6 => ?_
    refine rg ?_
    refine ⟨rfl, CallK.retO hp2 (h := iFold_c (t3_1.take n3_1)) (k := ?_)⟩
    refine evd ?_
    refine hK6 _ ?_
    clear hK6 K6
    refine Wp.seqK fun K7 hK7 => ?_
    refine rg ?_
    refine ⟨rfl, CallK.retO hp2 (h := sFold_c (t3_1.take n3_1)) (k := ?_)⟩
    refine evd ?_
    refine hK7 _ ?_
    clear hK7 K7
    refine Wp.seqK fun K8 hK8 => ?_
    refine Wp.seqU0 [.k, .d, .d, .k, .k, .k, .d5, .d5, .d5, .d5, .d5, .d5, .d, .d, .v (T false), .d5, .d5, .d5, .d5, .d5, .d5, .d5, .d5, .d5, .d5, .d5, .d5, .d, .d, .d, .d] (fun K9 hK9 => ?_) ?_
    · refine rg ?_
      refine ⟨rfl, CallK.valA (h := sameNodes_c _ _ (by omega) (by omega)) (k := ?_)⟩
      refine evd ?_
      exact hK9 _ anyS
    rintro f9
    simp only [updT_k, updT_d, updT_d5, updT_v, updT_nil, Nat.reduceAdd]
    refine Wp.condS (fun h38 => ?_) (fun h38 => ?_)
    · first | exact h38.elim | exact absurd h38 (by decide) | omega | simp at h38
    · refine Wp.skip ?_
      refine hK8 _ ?_
      clear hK8 K8
      refine Wp.seqK fun K10 hK10 => ?_
      refine Wp.seqK fun K11 hK11 => ?_
      refine rg ?_
      refine hK11 _ ?_
      clear hK11 K11
      refine Wp.condS (fun h40 => ?_) (fun h40 => ?_)
      · have hno := foldT_no h40
        rw [hno]
        refine Wp.seqK fun K12 hK12 => ?_
        refine rg ?_
        refine hK12 _ ?_
        clear hK12 K12
        refine Wp.ret (retV ?_)
        try simp only [List.getD_cons_zero, List.getD_cons_succ]
        first | rfl | (rw [decide_eq_true hlv]) | (exfalso; omega) | (exfalso; exact g18_23 hag) | (exfalso; have hv : vOkI (t3_1.take n3_1) (envL l 8) = true := (by simpa using g18_9); have h2 := foldT_val hv; first | exact g18_18 h2.2.symm | (rw [h2.1] at g18_11; cases g18_11))
      · have hfo := foldT_ok h40
        have hag := foldT_again (t3_1.take n3_1) hfo
        have hlv := foldT_level (t3_1.take n3_1) hfo
        refine Wp.skip ?_
        refine hK10 _ ?_
        clear hK10 K10
        refine Wp.seqK fun K13 hK13 => ?_
        refine rg ?_
        refine hK13 _ ?_
        clear hK13 K13
        refine Wp.seqK fun K14 hK14 => ?_
        refine Wp.seqK fun K15 hK15 => ?_
        refine rg ?_
        refine hK15 _ ?_
        clear hK15 K15
        refine Wp.block ?_
        refine Wp.loopU (α := Nat) (fun x => [.k, .d, .d, .k, .k, .d, .d, .d, .v (.l (.obj 3 x 1 0 x)), .v (I x), .d5, .d5, .d5, .d5, .d5, .d5, .d5, .d5, .d5, .d5, .d5, .d5, .d5, .d5, .d5, .d5, .d5, .d5, .d, .d, .d]) (fun x => [some ⟨0, lN t3_1⟩, some ⟨0, lN (foldT (t3_1.take n3_1)).1⟩, some ⟨0, lN (foldT (t3_1.take n3_1)).1⟩, some ⟨x, (envL l x).map ci⟩]) (fun x => x ≤ 8) (fun x => 8 - x) 0 (Nat.zero_le _) (anyS) ?_
        rintro x f16 K16 hx hK16
        simp only [updT_k, updT_d, updT_d5, updT_v, updT_nil, Nat.reduceAdd]
        have hel := envL_len l x
        refine Wp.seqK fun K17 hK17 => ?_
        refine Wp.seqK fun K18 hK18 => ?_
        refine rg ?_
        refine hK18 _ ?_
        clear hK18 K18
        refine Wp.condS (fun h46 => ?_) (fun h46 => ?_)
        · have hx8 : x < 8 := by omega
          refine Wp.skip ?_
          refine hK17 _ ?_
          clear hK17 K17
          refine Wp.seqK fun K19 hK19 => ?_
          refine Wp.block ?_
          refine rg ?_
          refine ⟨rfl, CallK.valA (h := at_c _ _ (by omega) (by omega)) (k := ?_)⟩
          refine evd ?_
          try simp only [thn, inB, if_true, reduceIte]
          refine hK19 _ ?_
          clear hK19 K19
          refine Wp.keep 4 (by simp [hB]) (by simp) ?_
          refine evd ?_
          refine rg ?_
          exact hK16 (x + 1) _ (by omega) (by omega) (anyS (ho := by rw [← envL_push, List.map_append] <;> rfl))
        · have hx8 : x = 8 := by omega
          subst hx8
          refine Wp.exit ?_
          try simp only [thn, inB, if_true, reduceIte]
          clear hK17 K17
          clear hK16 K16
          refine hK14 _ ?_
          clear hK14 K14
          refine Wp.seqK fun K20 hK20 => ?_
          refine rg ?_
          refine ⟨rfl, CallK.valPI (o := 0) (o2 := 3) hp2 (by simp [envL_len]) (h := iValue_c (t3_1.take n3_1) (envL l 8) (by omega) (by simp [envL_len])) (k := ?_)⟩
          refine evd ?_
          refine hK20 _ ?_
          clear hK20 K20
          refine Wp.seqK fun K21 hK21 => ?_
          refine rg ?_
          refine ⟨rfl, CallK.valA (h := iValue_c (foldT (t3_1.take n3_1)).1 (envL l 8) (by omega) (by simp [envL_len])) (k := ?_)⟩
          refine evd ?_
          refine hK21 _ ?_
          clear hK21 K21
          refine Wp.seqK fun K22 hK22 => ?_
          refine rg ?_
          refine ⟨rfl, CallK.retA (h := iFold_c (foldT (t3_1.take n3_1)).1) (k := ?_)⟩
          refine evd ?_
          refine hK22 _ ?_
          clear hK22 K22
          refine Wp.seqK fun K23 hK23 => ?_
          refine rg ?_
          refine grdA_split rfl (fun g18_6 => ?_) (fun g18_6 => ?_)
          · try simp only [decide_eq_true_eq, decide_eq_false_iff_not] at g18_6
            try refine evd ?_
            refine grdA_split rfl (fun g18_9 => ?_) (fun g18_9 => ?_)
            · try simp only [decide_eq_true_eq, decide_eq_false_iff_not] at g18_9
              try refine evd ?_
              refine ⟨rfl, CallK.valA (h := sameNodes_c _ _ (by omega) (by omega)) (k := ?_)⟩
              refine evd ?_
              refine grdA_split rfl (fun g18_23 => ?_) (fun g18_23 => ?_)
              · try simp only [decide_eq_true_eq, decide_eq_false_iff_not] at g18_23
                try refine evd ?_
                refine ⟨rfl, CallK.valA (h := iLevel_c (foldT (t3_1.take n3_1)).1 (by omega)) (k := ?_)⟩
                refine evd ?_
                refine ⟨rfl, CallK.valP hp2 (h := iLevel_c (t3_1.take n3_1) (by omega)) (k := ?_)⟩
                refine evd ?_
                refine hK23 _ ?_
                clear hK23 K23
                refine Wp.ret (retV ?_)
                try simp only [List.getD_cons_zero, List.getD_cons_succ]
                first | rfl | (rw [decide_eq_true hlv]) | (exfalso; omega) | (exfalso; exact g18_23 hag) | (exfalso; have hv : vOkI (t3_1.take n3_1) (envL l 8) = true := (by simpa using g18_9); have h2 := foldT_val hv; first | exact g18_18 h2.2.symm | (rw [h2.1] at g18_11; cases g18_11))
              · try simp only [decide_eq_true_eq, decide_eq_false_iff_not] at g18_23
                try refine evd ?_
                refine hK23 _ ?_
                clear hK23 K23
                refine Wp.ret (retV ?_)
                try simp only [List.getD_cons_zero, List.getD_cons_succ]
                first | rfl | (rw [decide_eq_true hlv]) | (exfalso; omega) | (exfalso; exact g18_23 hag) | (exfalso; have hv : vOkI (t3_1.take n3_1) (envL l 8) = true := (by simpa using g18_9); have h2 := foldT_val hv; first | exact g18_18 h2.2.symm | (rw [h2.1] at g18_11; cases g18_11))
            · try simp only [decide_eq_true_eq, decide_eq_false_iff_not] at g18_9
              try refine evd ?_
              refine grdA_split rfl (fun g18_11 => ?_) (fun g18_11 => ?_)
              · try simp only [decide_eq_true_eq, decide_eq_false_iff_not] at g18_11
                try refine evd ?_
                refine grdA_split rfl (fun g18_18 => ?_) (fun g18_18 => ?_)
                · try simp only [decide_eq_true_eq, decide_eq_false_iff_not] at g18_18
                  try refine evd ?_
                  refine ⟨rfl, CallK.valA (h := sameNodes_c _ _ (by omega) (by omega)) (k := ?_)⟩
                  refine evd ?_
                  refine grdA_split rfl (fun g18_23 => ?_) (fun g18_23 => ?_)
                  · try simp only [decide_eq_true_eq, decide_eq_false_iff_not] at g18_23
                    try refine evd ?_
                    refine ⟨rfl, CallK.valA (h := iLevel_c (foldT (t3_1.take n3_1)).1 (by omega)) (k := ?_)⟩
                    refine evd ?_
                    refine ⟨rfl, CallK.valP hp2 (h := iLevel_c (t3_1.take n3_1) (by omega)) (k := ?_)⟩
                    refine evd ?_
                    refine hK23 _ ?_
                    clear hK23 K23
                    refine Wp.ret (retV ?_)
                    try simp only [List.getD_cons_zero, List.getD_cons_succ]
                    first | rfl | (rw [decide_eq_true hlv]) | (exfalso; omega) | (exfalso; exact g18_23 hag) | (exfalso; have hv : vOkI (t3_1.take n3_1) (envL l 8) = true := (by simpa using g18_9); have h2 := foldT_val hv; first | exact g18_18 h2.2.symm | (rw [h2.1] at g18_11; cases g18_11))
                  · try simp only [decide_eq_true_eq, decide_eq_false_iff_not] at g18_23
                    try refine evd ?_
                    refine hK23 _ ?_
                    clear hK23 K23
                    refine Wp.ret (retV ?_)
                    try simp only [List.getD_cons_zero, List.getD_cons_succ]
                    first | rfl | (rw [decide_eq_true hlv]) | (exfalso; omega) | (exfalso; exact g18_23 hag) | (exfalso; have hv : vOkI (t3_1.take n3_1) (envL l 8) = true := (by simpa using g18_9); have h2 := foldT_val hv; first | exact g18_18 h2.2.symm | (rw [h2.1] at g18_11; cases g18_11))
                · try simp only [decide_eq_true_eq, decide_eq_false_iff_not] at g18_18
                  try refine evd ?_
                  refine hK23 _ ?_
                  clear hK23 K23
                  refine Wp.ret (retV ?_)
                  try simp only [List.getD_cons_zero, List.getD_cons_succ]
                  first | rfl | (rw [decide_eq_true hlv]) | (exfalso; omega) | (exfalso; exact g18_23 hag) | (exfalso; have hv : vOkI (t3_1.take n3_1) (envL l 8) = true := (by simpa using g18_9); have h2 := foldT_val hv; first | exact g18_18 h2.2.symm | (rw [h2.1] at g18_11; cases g18_11))
              · try simp only [decide_eq_true_eq, decide_eq_false_iff_not] at g18_11
                try refine evd ?_
                refine hK23 _ ?_
                clear hK23 K23
                refine Wp.ret (retV ?_)
                try simp only [List.getD_cons_zero, List.getD_cons_succ]
                first | rfl | (rw [decide_eq_true hlv]) | (exfalso; omega) | (exfalso; exact g18_23 hag) | (exfalso; have hv : vOkI (t3_1.take n3_1) (envL l 8) = true := (by simpa using g18_9); have h2 := foldT_val hv; first | exact g18_18 h2.2.symm | (rw [h2.1] at g18_11; cases g18_11))
          · try simp only [decide_eq_true_eq, decide_eq_false_iff_not] at g18_6
            try refine evd ?_
            refine hK23 _ ?_
            clear hK23 K23
            refine Wp.ret (retV ?_)
            try simp only [List.getD_cons_zero, List.getD_cons_succ]
            first | rfl | (rw [decide_eq_true hlv]) | (exfalso; omega) | (exfalso; exact g18_23 hag) | (exfalso; have hv : vOkI (t3_1.take n3_1) (envL l 8) = true := (by simpa using g18_9); have h2 := foldT_val hv; first | exact g18_18 h2.2.symm | (rw [h2.1] at g18_11; cases g18_11))

theorem lawFnFold_b (l : List Int) (hlen : (l.length : Int) ≤ 9223372036854775807) : Val E.P 3 [.l (.dsl true l.length (l.flatMap fun n : Int => [DV.sc (.int .u8 n)]))] (T true) := by
  have e : (l.flatMap fun n : Int => [DV.sc (.int .u8 n)]) = encY l := by
    unfold encY
    induction l with
    | nil => rfl
    | cons a l ih => simp only [List.flatMap_cons, List.map_cons, List.cons_append, List.nil_append]; rw [ih (by simp at hlen; omega)]
  rw [e]
  exact lawFnFold_c l hlen
end Go.Proofs.Ytkdkbnacelnljaa.RE
