/- Drawing: terms. Conditions: those that a theorem names. -/
import Derived.Test.YtkdkbnacelnljaaGreatNF1
set_option linter.unusedVariables false
set_option linter.unusedSimpArgs false
namespace Go.Proofs.YtkdkbnacelnljaaGreat.RE
open Go Go.RowKit
set_option maxRecDepth 100000
set_option maxHeartbeats 8000000

theorem shm21 {n g : Nat} : shm 2 n 1 g = some (1, g) := rfl
theorem shm31 {n g : Nat} : shm 3 n 1 g = some (1, g) := rfl
theorem shm11 {n g : Nat} : shm 1 n 1 g = some (n, g) := rfl
attribute [go_sem] shm21 shm31 shm11 List.cons_append List.nil_append List.append_nil List.map_nil List.drop_succ_cons List.drop_zero
theorem push_c (l : List Int) (i h : Int) (t : List Nd) (g : Nat) (nd : Nd) (ht : t.length ≤ 100000) : CallsA E.P 96 [.l (.obj 1 g 6 0 t.length), .agg (nl nd)] [some (cur l i h), some ⟨g, lN t⟩] (fun r ob => r = .tup [.l (.obj 1 (g + 1) 6 0 (t.length + 1)), .l (.sc (.int .i64 t.length))] ∧ ob = [some (cur l i h), some ⟨g + 1, lN (t ++ [nd])⟩]) := by
  refine CallsA.body (E := E) (fn := Tryz.f96) Tryz.func96 rfl fun B hB => ?_
  simp only [Tryz.ntmps96, go_sem, nl, Nat.reduceSub, Nat.reduceAdd, List.reduceReplicate]
  refine Wp.seqK fun K1 hK1 => ?_
  refine rg ?_
  refine hK1 _ ?_
  clear hK1 K1
  refine Wp.seqK fun K2 hK2 => ?_
  refine rg ?_
  refine hK2 _ ?_
  clear hK2 K2
  refine Wp.ret (retE (x' := .tup [.l (.obj 1 (g + 1) 6 0 (t.length + 1)), .l (.sc (.int .i64 t.length))]) (ob' := [some (cur l i h), some ⟨g + 1, lN (t ++ [nd])⟩]) ⟨rfl, rfl⟩ rfl)
def SD : Nat → Nat
  | 0 => 1
  | n + 1 => 3 * SD n + 1
theorem SD_s {n : Nat} (h : n ≠ 0) : SD n = 3 * SD (n - 1) + 1 := by
  cases n with
  | zero => exact absurd rfl h
  | succ n => rfl
theorem SD_pos : ∀ n : Nat, 1 ≤ SD n
  | 0 => Nat.le_refl _
  | n + 1 => by have := SD_pos n; simp only [SD]; omega
/-- How many bits the quantifiers of a list have. -/
def qsb (n : Nd) : Int := if isQ n.op = true then n.b else 0
def qsum (t : List Nd) : Int := t.foldl (fun s n => s + qsb n) 0
theorem qsum_app (t : List Nd) (n : Nd) : qsum (t ++ [n]) = qsum t + qsb n := by simp [qsum, List.foldl_append]
theorem qsb_no {n : Nd} (h : n.op ≠ 19 ∧ n.op ≠ 20) : qsb n = 0 := by
  unfold qsb isQ
  rw [decide_eq_false h.1, decide_eq_false h.2]; rfl
theorem qsb_v {n : Nd} (h : isQ n.op = false) : qsb n = 0 := if_neg (by rw [h]; decide)
theorem qsb_le {n : Nd} (h : 0 ≤ n.b) : qsb n ≤ n.b := by
  unfold qsb
  split <;> omega
def QDeep (l : List Int) (t vars : List Nd) (g' m : Nat) : AV → Obs → Prop := fun r ob => ∃ (i2 h2 : Int) (g2 : Nat) (t2 : List Nd) (a : Int), (0 ≤ i2 ∧ i2 ≤ (l.length : Int)) ∧ (0 ≤ a ∧ a < (t2.length : Int)) ∧ t2.length ≤ t.length + m ∧ qsum t2 ≤ qsum t ∧
  r = .tup [.l (.obj 1 g2 6 0 t2.length), .l (.sc (.int .i64 a))] ∧ ob = [some (cur l i2 h2), some ⟨g2, lN t2⟩, some ⟨g', lN vars⟩]
theorem retDeep {st : St} {fn : Func} {l : List Int} {t vars : List Nd} {g' m : Nat} {i2 h2 : Int} {g2 : Nat} {t2 : List Nd} {nd : Nd} (hi : 0 ≤ i2 ∧ i2 ≤ (l.length : Int)) (hl : t2.length + 1 ≤ t.length + m) (hq : qsum t2 + qsb nd ≤ qsum t) (h : resA st.tm st.ob E fn.results.toList = some (.tup [.l (.obj 1 g2 6 0 (t2.length + 1)), .l (.sc (.int .i64 t2.length))]) := by rfl)
    (hob : st.ob.take 3 = [some (cur l i2 h2), some ⟨g2, lN (t2 ++ [nd])⟩, some ⟨g', lN vars⟩] := by rfl) (hn : 3 ≤ st.ob.length := by simp) : retQ E fn 3 (QDeep l t vars g' m) .ret st :=
  retE (Q := QDeep l t vars g' m) (x' := .tup [.l (.obj 1 g2 6 0 (t2.length + 1)), .l (.sc (.int .i64 t2.length))]) ⟨i2, h2, g2, t2 ++ [nd], t2.length, hi, by simp; omega, by simp; omega, by rw [qsum_app]; exact hq, by simp, rfl⟩ hob h rfl (by (simp only [obShut, List.all_cons, List.all_nil, flat_shut (lN_flat _), Bool.and_true]) <;> rfl) hn
theorem CallK.deepA {P : Program} {f : FuncId} {args args' : List AV} {st : St} {d : Option Tmp} {K : St → Prop} {l : List Int} {i s : Int} {g g' m : Nat} {t vars : List Nd} {rest : Obs} (h : CallsA P f args' [some (cur l i s), some ⟨g, lN t⟩, some ⟨g', lN vars⟩] (QDeep l t vars g' m))
    (k : ∀ (i2 s2 : Int) (g2 : Nat) (t2 : List Nd) (a : Int), (0 ≤ i2 ∧ i2 ≤ (l.length : Int)) → (0 ≤ a ∧ a < (t2.length : Int)) → t2.length ≤ t.length + m → qsum t2 ≤ qsum t → K ⟨putT st.tm d (.tup [.l (.obj 1 g2 6 0 t2.length), .l (.sc (.int .i64 a))]), some (cur l i2 s2) :: some ⟨g2, lN t2⟩ :: some ⟨g', lN vars⟩ :: rest⟩)
    (ho : st.ob = some (cur l i s) :: some ⟨g, lN t⟩ :: some ⟨g', lN vars⟩ :: rest := by rfl) (ha : args.map (AV.toC (List.range 3) []) = args' := by rfl) : CallK P f args st d K :=
  CallK.handE 3 h (fun r ob1 ⟨i2, s2, g2, t2, a, hi, ha2, hl, hq, e1, e2⟩ => ⟨[some (cur l i2 s2), some ⟨g2, lN t2⟩, some ⟨g', lN vars⟩], [], by rw [e2]; rfl, rfl, by (simp only [obShut, List.all_cons, List.all_nil, flat_shut (lN_flat _), Bool.and_true]) <;> rfl, by
    rw [ho, e1]
    rw [show AV.ren (shm 3 (some (cur l i s) :: some ⟨g, lN t⟩ :: some ⟨g', lN vars⟩ :: rest).length) (.tup [.l (.obj 1 g2 6 0 t2.length), .l (.sc (.int .i64 a))]) = .tup [.l (.obj 1 g2 6 0 t2.length), .l (.sc (.int .i64 a))] from rfl]
    simpa using k i2 s2 g2 t2 a hi ha2 hl hq⟩) (by rw [ho]; rfl) ha (by (simp only [obShut, List.all_cons, List.all_nil, flat_shut (lN_flat _), Bool.and_true]) <;> rfl) (by rw [ho]; simp)
def DeepAt (l : List Int) (vars : List Nd) (g' n : Nat) : Prop := ∀ (k i h : Int) (g : Nat) (t : List Nd) (w : Int), k = n → (0 ≤ i ∧ i ≤ (l.length : Int)) → t.length + SD n ≤ 100000 → (1 ≤ w ∧ w ≤ 8) →
  CallsA E.P 97 [.l (.ptr 0 0 0), .l (.obj 1 g 6 0 t.length), .l (.obj 2 g' 6 0 vars.length), I w, I k] [some (cur l i h), some ⟨g, lN t⟩, some ⟨g', lN vars⟩] (QDeep l t vars g' (SD n))
theorem memI {l : List Int} {n x : Nat} (hs : ∀ y ∈ l, 0 ≤ y ∧ y < (n : Int)) (hx : x < n) : ∀ y ∈ l ++ [(x : Int)], 0 ≤ y ∧ y < (n : Int) := by
  intro y h
  rcases List.mem_append.1 h with h | h
  · exact hs y h
  · rw [List.mem_singleton.1 h]; omega
theorem fL1 {l : List Nd} {i : Nat} (h : i < l.length) : (lN l).getD (i * 6 + 1) .dead = .sc (.int .i64 (l.getD i default).w) := fL h (by decide)
attribute [go_sem] fL1
theorem mem_getD {α : Type} {l : List α} {i : Nat} {d : α} (h : i < l.length) : l.getD i d ∈ l := by
  rw [List.getD_eq_getElem?_getD, List.getElem?_eq_getElem h]
  exact List.getElem_mem h
theorem deep_step (l : List Int) (hl : l.length ≤ 1048576) (vars : List Nd) (g' : Nat) (hv : ∀ v ∈ vars, (1 ≤ v.w ∧ v.w ≤ 8) ∧ isQ v.op = false) (hvl : vars.length ≤ 1000) (n : Nat) (hn : n ≤ 10) (ih : n = 0 ∨ DeepAt l vars g' (n - 1)) (k i h : Int) (g : Nat) (t : List Nd) (w : Int) (hk : k = n) (hi : 0 ≤ i ∧ i ≤ (l.length : Int)) (ht : t.length + SD n ≤ 100000) (hw : 1 ≤ w ∧ w ≤ 8) : CallsA E.P 97 [.l (.ptr 0 0 0), .l (.obj 1 g 6 0 t.length), .l (.obj 2 g' 6 0 vars.length), I w, I k] [some (cur l i h), some ⟨g, lN t⟩, some ⟨g', lN vars⟩] (QDeep l t vars g' (SD n)) := by
  refine CallsA.body (E := E) (fn := Tryz.f97) Tryz.func97 rfl fun B hB => ?_
  simp only [Tryz.ntmps97, go_sem, nl, Nat.reduceSub, Nat.reduceAdd, List.reduceReplicate]
  have hp := pw (w := w) (by omega) (by omega)
  have hS0 := SD_pos n
  refine Wp.seqK fun K1 hK1 => ?_
  refine rg ?_
  refine hK1 _ ?_
  clear hK1 K1
  refine Wp.seqK fun K2 hK2 => ?_
  refine rg ?_
  refine hK2 _ ?_
  clear hK2 K2
  refine Wp.seqK fun K3 hK3 => ?_
  refine Wp.seqK fun K4 hK4 => ?_
  refine rg ?_
  refine hK4 _ ?_
  clear hK4 K4
  refine Wp.block ?_
  refine Wp.loopU (α := Nat × List Int) (fun x => [.k, .k, .k, .k, .k, .d5, .d, .d, .v (.l (.obj 3 x.2.length 1 0 x.2.length)), .v (I (x.1 : Int)), .d5, .d5, .d5, .d5, .d5, .d5, .d5, .d5, .d5, .d5, .d5, .d5, .d5, .d5, .d5, .d5, .d5, .d5, .d5, .d5, .d5, .d5, .d5, .d5, .d5, .d5, .d5, .d5, .d5, .d5, .d5, .d5, .d5, .d5, .d5, .d5, .d5, .d5, .d5, .d5, .d5, .d5, .d5, .d5, .d5, .d5, .d5, .d5, .d5, .d5, .d5, .d5, .d5, .d5, .d5, .d5, .d5, .d]) (fun x => [some (cur l i h), some ⟨g, lN t⟩, some ⟨g', lN vars⟩, some ⟨x.2.length, x.2.map ci⟩]) (fun x => x.1 ≤ vars.length ∧ x.2.length ≤ x.1 ∧ ∀ y ∈ x.2, 0 ≤ y ∧ y < (vars.length : Int)) (fun x => vars.length - x.1) (0, []) (⟨Nat.zero_le _, Nat.le_refl _, fun y h => by cases h⟩) (anyS) ?_
  rintro x f5 K5 ⟨hx, hxl, hs⟩ hK5
  simp only [updT_k, updT_d, updT_d5, updT_v, updT_nil, Nat.reduceAdd]
  refine Wp.seqK fun K6 hK6 => ?_
  refine Wp.seqK fun K7 hK7 => ?_
  refine rg ?_
  refine hK7 _ ?_
  clear hK7 K7
  refine Wp.condS (fun h24 => ?_) (fun h24 => ?_)
  · as_aux_lemma =>
      refine Wp.skip ?_
      refine hK6 _ ?_
      clear hK6 K6
      refine Wp.seqK fun K8 hK8 => ?_
      refine Wp.block ?_
      refine Wp.seqK fun K9 hK9 => ?_
      refine rg ?_
      refine hK9 _ ?_
      clear hK9 K9
      refine Wp.condS (fun h33 => ?_) (fun h33 => ?_)
      · refine rg ?_
        try simp only [thn, inB, if_true, reduceIte]
        refine hK8 _ ?_
        clear hK8 K8
        refine Wp.keepR 4 [] (by rw [hB]; simp) (by simp) (by simp) (by simp) ?_
        refine evd ?_
        refine rg ?_
        exact hK5 (x.1 + 1, x.2 ++ [(x.1 : Int)]) _ ⟨by show x.1 + 1 ≤ _; omega, by show (x.2 ++ [(x.1 : Int)]).length ≤ x.1 + 1; rw [List.length_append]; show x.2.length + 1 ≤ x.1 + 1; omega, memI hs (by omega)⟩ (by show vars.length - (x.1 + 1) < vars.length - x.1; omega) (anyS (h := by first | rfl | (simp only [List.length_append, List.length_cons, List.length_nil] <;> rfl)) (ho := by first | rfl | (simp only [List.length_append, List.length_cons, List.length_nil] <;> rfl)))
      · refine Wp.skip ?_
        try simp only [thn, inB, if_true, reduceIte]
        refine hK8 _ ?_
        clear hK8 K8
        refine Wp.keepR 4 [] (by rw [hB]; simp) (by simp) (by simp) (by simp) ?_
        refine evd ?_
        refine rg ?_
        exact hK5 (x.1 + 1, x.2) _ ⟨by show x.1 + 1 ≤ _; omega, Nat.le_succ_of_le hxl, hs⟩ (by show vars.length - (x.1 + 1) < vars.length - x.1; omega) anyS
  · as_aux_lemma =>
      refine Wp.exit ?_
      try simp only [thn, inB, if_true, reduceIte]
      clear hK6 K6
      clear hK5 K5
      refine hK3 _ ?_
      clear hK3 K3
      refine Wp.seqK fun K10 hK10 => ?_
      refine Wp.seqU (α := Int × Int × Bool) (fun y => [.k, .k, .k, .k, .k, .d5, .d, .d, .k, .d5, .d5, .d5, .d5, .d5, .d5, .d5, .v (T y.2.2), .d5, .d5, .d5, .d5, .d5, .d5, .d5, .d5, .d5, .d5, .d5, .d5, .d5, .d5, .d5, .d5, .d5, .d5, .d5, .d5, .d5, .d5, .d5, .d5, .d5, .d5, .d5, .d5, .d5, .d5, .d5, .d5, .d5, .d5, .d5, .d5, .d5, .d5, .d5, .d5, .d5, .d5, .d5, .d5, .d5, .d5, .d5, .d5, .d5, .d5, .d]) (fun y => [some (cur l y.1 y.2.1), some ⟨g, lN t⟩, some ⟨g', lN vars⟩, some ⟨x.2.length, x.2.map ci⟩]) (fun y => (0 ≤ y.1 ∧ y.1 ≤ (l.length : Int)) ∧ (y.2.2 = false → k ≠ 0)) (fun K11 hK11 => ?_) ?_
      · refine rg ?_
        refine grdA_split rfl (fun g7_3 => ?_) (fun g7_3 => ?_)
        · try simp only [decide_eq_true_eq, decide_eq_false_iff_not] at g7_3
          try refine evd ?_
          exact hK11 (i, h, true) _ ⟨hi, fun e => by cases e⟩ anyS
        · try simp only [decide_eq_true_eq, decide_eq_false_iff_not] at g7_3
          try refine evd ?_
          refine grdA_split rfl (fun g7_8 => ?_) (fun g7_8 => ?_)
          · try simp only [decide_eq_true_eq, decide_eq_false_iff_not] at g7_8
            try refine evd ?_
            exact hK11 (i, h, true) _ ⟨hi, fun e => by cases e⟩ anyS
          · try simp only [decide_eq_true_eq, decide_eq_false_iff_not] at g7_8
            try refine evd ?_
            refine ⟨rfl, CallK.curT (h := l01Once_c _ _ _ (by omega) (by omega) (5) (by omega)) (fun x7_9 i7_9 s7_9 hx7_9 hi7_9 => ?_)⟩
            refine evd ?_
            exact hK11 (i7_9, s7_9, x7_9) _ ⟨hi7_9, fun _ => by omega⟩ anyS
      rintro y f11 ⟨hy1, hy2⟩
      simp only [updT_k, updT_d, updT_d5, updT_v, updT_nil, Nat.reduceAdd]
      refine Wp.condS (fun h48 => ?_) (fun h48 => ?_)
      · as_aux_lemma =>
          refine Wp.seqK fun K12 hK12 => ?_
          refine Wp.seqU (α := Int × Int × Bool) (fun z => [.k, .k, .k, .k, .d5, .d, .d, .d, .k, .d5, .d5, .d5, .d5, .d5, .d5, .d5, .d5, .d, .d, .d, .v (T z.2.2), .d5, .d5, .d5, .d5, .d5, .d5, .d5, .d5, .d5, .d5, .d5, .d5, .d5, .d5, .d5, .d5, .d5, .d5, .d5, .d5, .d5, .d5, .d5, .d5, .d5, .d5, .d5, .d5, .d5, .d5, .d5, .d5, .d5, .d5, .d5, .d5, .d5, .d5, .d5, .d5, .d5, .d5, .d5, .d5, .d5, .d5, .d5, .d5, .d, .d, .d]) (fun z => [some (cur l z.1 z.2.1), some ⟨g, lN t⟩, some ⟨g', lN vars⟩, some ⟨x.2.length, x.2.map ci⟩]) (fun z => (0 ≤ z.1 ∧ z.1 ≤ (l.length : Int)) ∧ (z.2.2 = true → 0 < x.2.length)) (fun K13 hK13 => ?_) ?_
          · refine rg ?_
            refine grdA_split rfl (fun g8_4 => ?_) (fun g8_4 => ?_)
            · try simp only [decide_eq_true_eq, decide_eq_false_iff_not] at g8_4
              try refine evd ?_
              refine ⟨rfl, CallK.curT (h := l01Once_c _ _ _ (by omega) (by omega) (4) (by omega)) (fun x8_5 i8_5 s8_5 hx8_5 hi8_5 => ?_)⟩
              refine evd ?_
              exact hK13 (i8_5, s8_5, !x8_5) _ ⟨hi8_5, fun _ => by omega⟩ anyS
            · try simp only [decide_eq_true_eq, decide_eq_false_iff_not] at g8_4
              try refine evd ?_
              exact hK13 (y.1, y.2.1, false) _ ⟨hy1, fun e => by cases e⟩ anyS
          rintro z f13 ⟨hz1, hz2⟩
          simp only [updT_k, updT_d, updT_d5, updT_v, updT_nil, Nat.reduceAdd]
          refine Wp.condS (fun h56 => ?_) (fun h56 => ?_)
          · as_aux_lemma =>
              have hsl := hz2 h56
              refine Wp.seqK fun K14 hK14 => ?_
              refine rg ?_
              refine ⟨rfl, CallK.curI (h := l01Below_c _ _ _ (by omega) (by omega) (x.2.length : Int) (by omega)) (fun x9_6 i9_6 s9_6 hx9_6 hi9_6 => ?_)⟩
              have hy := hs _ (mem_getD (l := x.2) (i := x9_6.toNat) (d := 0) (by omega))
              have hqz := qsb_v (hv _ (mem_getD (l := vars) (i := (x.2.getD x9_6.toNat 0).toNat) (d := default) (by omega))).2
              refine evd ?_
              refine ⟨rfl, CallK.handA 2 (o1 := [_, _]) (new := []) (push_c _ _ _ t _ (vars.getD (x.2.getD x9_6.toNat 0).toNat default) (by omega)) ?_⟩
              refine evd ?_
              refine hK14 _ ?_
              clear hK14 K14
              refine Wp.ret (retDeep (hi := ?_) (hl := ?_) (hq := ?_)) <;> first | omega | (rw [qsb_no (by constructor <;> dsimp only <;> omega)]; omega)
          · as_aux_lemma =>
              refine Wp.skip ?_
              refine hK12 _ ?_
              clear hK12 K12
              refine Wp.seqK fun K15 hK15 => ?_
              refine rg ?_
              refine ⟨rfl, CallK.valA (h := l01Pow2_c _ (by omega) (by omega)) (k := ?_)⟩
              refine evd ?_
              refine ⟨rfl, CallK.curI (h := l01Below_c _ _ _ (by omega) (by omega) (2 ^ w.toNat) (by omega)) (fun x10_5 i10_5 s10_5 hx10_5 hi10_5 => ?_)⟩
              refine evd ?_
              refine ⟨rfl, CallK.handA 2 (o1 := [_, _]) (new := []) (push_c _ _ _ t _ (⟨0, w, x10_5, 0, 0, 0⟩) (by omega)) ?_⟩
              refine evd ?_
              refine hK15 _ ?_
              clear hK15 K15
              refine Wp.ret (retDeep (hi := ?_) (hl := ?_) (hq := ?_)) <;> first | omega | (rw [qsb_no (by constructor <;> dsimp only <;> omega)]; omega)
      · as_aux_lemma =>
          have hk0 := hy2 h48
          have hd : DeepAt l vars g' (n - 1) := ih.resolve_left (by omega)
          have hS : SD n = 3 * SD (n - 1) + 1 := SD_s (by omega)
          have hS1 := SD_pos (n - 1)
          refine Wp.skip ?_
          refine hK10 _ ?_
          clear hK10 K10
          refine Wp.seqK fun K16 hK16 => ?_
          refine rg ?_
          refine hK16 _ ?_
          clear hK16 K16
          refine Wp.seqK fun K17 hK17 => ?_
          refine Wp.seqU (α := Int × Int × Bool) (fun u => [.k, .k, .k, .k, .k, .d5, .d5, .d5, .d5, .d5, .d5, .d5, .d5, .d5, .d5, .d5, .d5, .d5, .d5, .d5, .d5, .d5, .d, .v (T u.2.2), .d5, .d5, .d5, .d5, .d5, .d5, .d5, .d5, .d5, .d5, .d5, .d5, .d5, .d5, .d5, .d5, .d5, .d5, .d5, .d5, .d5, .d5, .d5, .d5, .d5, .d5, .d5, .d5, .d5, .d5, .d5, .d5, .d5, .d5, .d5, .d5, .d5, .d5, .d5, .d5, .d5, .d, .d, .d]) (fun u => [some (cur l u.1 u.2.1), some ⟨g, lN t⟩, some ⟨g', lN vars⟩, some ⟨x.2.length, x.2.map ci⟩]) (fun u => (0 ≤ u.1 ∧ u.1 ≤ (l.length : Int)) ∧ (u.2.2 = true → 0 < vars.length)) (fun K18 hK18 => ?_) ?_
          · refine rg ?_
            refine grdA_split rfl (fun g12_3 => ?_) (fun g12_3 => ?_)
            · try simp only [decide_eq_true_eq, decide_eq_false_iff_not] at g12_3
              try refine evd ?_
              refine grdA_split rfl (fun g12_8 => ?_) (fun g12_8 => ?_)
              · try simp only [decide_eq_true_eq, decide_eq_false_iff_not] at g12_8
                try refine evd ?_
                refine ⟨rfl, CallK.curT (h := l01Once_c _ _ _ (by omega) (by omega) (2) (by omega)) (fun x12_9 i12_9 s12_9 hx12_9 hi12_9 => ?_)⟩
                refine evd ?_
                exact hK18 (i12_9, s12_9, x12_9) _ ⟨hi12_9, fun _ => by omega⟩ anyS
              · try simp only [decide_eq_true_eq, decide_eq_false_iff_not] at g12_8
                try refine evd ?_
                exact hK18 (y.1, y.2.1, false) _ ⟨hy1, fun e => by cases e⟩ anyS
            · try simp only [decide_eq_true_eq, decide_eq_false_iff_not] at g12_3
              try refine evd ?_
              exact hK18 (y.1, y.2.1, false) _ ⟨hy1, fun e => by cases e⟩ anyS
          rintro u f18 ⟨hu1, hu2⟩
          simp only [updT_k, updT_d, updT_d5, updT_v, updT_nil, Nat.reduceAdd]
          refine Wp.condS (fun h91 => ?_) (fun h91 => ?_)
          · as_aux_lemma =>
              have hvp := hu2 h91
              refine Wp.seqK fun K19 hK19 => ?_
              refine rg ?_
              refine ⟨rfl, CallK.curI (h := l01Below_c _ _ _ (by omega) (by omega) ((vars.length : Int)) (by omega)) (fun x13_4 i13_4 s13_4 hx13_4 hi13_4 => ?_)⟩
              refine evd ?_
              have hq := hv _ (mem_getD (l := vars) (i := x13_4.toNat) (d := default) (by omega))
              refine hK19 _ ?_
              clear hK19 K19
              refine Wp.seqK fun K20 hK20 => ?_
              refine rg ?_
              refine ⟨rfl, CallK.deepA (h := hd (k - 1) i13_4 s13_4 _ t ((vars.getD x13_4.toNat default).w) (by omega) (by omega) (by omega) (by omega)) (fun i14_6 s14_6 g14_6 t14_6 a14_6 hi14_6 ha14_6 ht14_6 hq14_6 => ?_)⟩
              refine evd ?_
              refine hK20 _ ?_
              clear hK20 K20
              refine Wp.seqK fun K21 hK21 => ?_
              refine rg ?_
              refine ⟨rfl, CallK.deepA (h := hd (k - 1) i14_6 s14_6 _ t14_6 ((vars.getD x13_4.toNat default).w) (by omega) (by omega) (by omega) (by omega)) (fun i15_6 s15_6 g15_6 t15_6 a15_6 hi15_6 ha15_6 ht15_6 hq15_6 => ?_)⟩
              refine evd ?_
              refine hK21 _ ?_
              clear hK21 K21
              refine Wp.seqK fun K22 hK22 => ?_
              refine rg ?_
              refine ⟨rfl, CallK.curI (h := l01Below_c _ _ _ (by omega) (by omega) (3) (by omega)) (fun x16_2 i16_2 s16_2 hx16_2 hi16_2 => ?_)⟩
              refine evd ?_
              refine ⟨rfl, CallK.handA 2 (o1 := [_, _]) (new := []) (push_c _ _ _ t15_6 _ (⟨13 + x16_2, 1, 0, a14_6, a15_6, 0⟩) (by omega)) ?_⟩
              refine evd ?_
              refine hK22 _ ?_
              clear hK22 K22
              refine Wp.ret (retDeep (hi := ?_) (hl := ?_) (hq := ?_)) <;> first | omega | (rw [qsb_no (by constructor <;> dsimp only <;> omega)]; omega)
          · as_aux_lemma =>
              refine Wp.skip ?_
              refine hK17 _ ?_
              clear hK17 K17
              refine Wp.seqU (α := Int × Int) (fun q => [.k, .v (.l (.obj 1 g 6 0 t.length)), .k, .k, .k, .d5, .d5, .d5, .d5, .d5, .d5, .d5, .d5, .d5, .d5, .d5, .d5, .d5, .d5, .d5, .d5, .d5, .d5, .d5, .d5, .d5, .d5, .d5, .d5, .d5, .d5, .d5, .d5, .d5, .d5, .d5, .d5, .d5, .d5, .d5, .d5, .d5, .d5, .d5, .d5, .d5, .d5, .d5, .d5, .d5, .d5, .d5, .d5, .d5, .d5, .d5, .d5, .d5, .d5, .d5, .d5, .d5, .d5, .d5]) (fun q => [some (cur l q.1 q.2), some ⟨g, lN t⟩, some ⟨g', lN vars⟩, some ⟨x.2.length, x.2.map ci⟩]) (fun q => (0 ≤ q.1 ∧ q.1 ≤ (l.length : Int))) (fun K23 hK23 => ?_) ?_
              · refine Wp.seqK fun K24 hK24 => ?_
                refine rg ?_
                refine ⟨rfl, CallK.curI (h := l01Below_c _ _ _ (by omega) (by omega) (8) (by omega)) (fun x17_1 i17_1 s17_1 hx17_1 hi17_1 => ?_)⟩
                refine evd ?_
                refine hK24 _ ?_
                clear hK24 K24
                refine Wp.block ?_
                refine Wp.seqK fun K25 hK25 => ?_
                refine rg ?_
                refine hK25 _ ?_
                clear hK25 K25
                refine Wp.condS (fun h132 => ?_) (fun h132 => ?_)
                · as_aux_lemma =>
                    refine Wp.seqK fun K26 hK26 => ?_
                    refine rg ?_
                    refine ⟨rfl, CallK.deepA (h := hd (k - 1) i17_1 s17_1 _ t (w) (by omega) (by omega) (by omega) (by omega)) (fun i19_6 s19_6 g19_6 t19_6 a19_6 hi19_6 ha19_6 ht19_6 hq19_6 => ?_)⟩
                    refine evd ?_
                    refine hK26 _ ?_
                    clear hK26 K26
                    refine Wp.seqK fun K27 hK27 => ?_
                    refine rg ?_
                    refine ⟨rfl, CallK.handA 2 (o1 := [_, _]) (new := []) (push_c _ _ _ t19_6 _ (⟨2, w, 0, a19_6, 0, 0⟩) (by omega)) ?_⟩
                    refine evd ?_
                    refine hK27 _ ?_
                    clear hK27 K27
                    refine Wp.ret (retDeep (hi := ?_) (hl := ?_) (hq := ?_)) <;> first | omega | (rw [qsb_no (by constructor <;> dsimp only <;> omega)]; omega)
                · as_aux_lemma =>
                    refine Wp.seqK fun K28 hK28 => ?_
                    refine rg ?_
                    refine hK28 _ ?_
                    clear hK28 K28
                    refine Wp.condS (fun h151 => ?_) (fun h151 => ?_)
                    · as_aux_lemma =>
                        refine Wp.seqK fun K29 hK29 => ?_
                        refine rg ?_
                        refine hK29 _ ?_
                        clear hK29 K29
                        refine Wp.condS (fun h154 => ?_) (fun h154 => ?_)
                        · as_aux_lemma =>
                            refine Wp.seqK fun K30 hK30 => ?_
                            refine rg ?_
                            refine ⟨rfl, CallK.curI (h := l01Below_c _ _ _ (by omega) (by omega) (w - 1) (by omega)) (fun x23_3 i23_3 s23_3 hx23_3 hi23_3 => ?_)⟩
                            refine evd ?_
                            refine hK30 _ ?_
                            clear hK30 K30
                            refine Wp.seqK fun K31 hK31 => ?_
                            refine rg ?_
                            refine ⟨rfl, CallK.deepA (h := hd (k - 1) i23_3 s23_3 _ t (1 + x23_3) (by omega) (by omega) (by omega) (by omega)) (fun i24_6 s24_6 g24_6 t24_6 a24_6 hi24_6 ha24_6 ht24_6 hq24_6 => ?_)⟩
                            refine evd ?_
                            refine hK31 _ ?_
                            clear hK31 K31
                            refine Wp.seqK fun K32 hK32 => ?_
                            refine rg ?_
                            refine ⟨rfl, CallK.deepA (h := hd (k - 1) i24_6 s24_6 _ t24_6 (w - (1 + x23_3)) (by omega) (by omega) (by omega) (by omega)) (fun i25_8 s25_8 g25_8 t25_8 a25_8 hi25_8 ha25_8 ht25_8 hq25_8 => ?_)⟩
                            refine evd ?_
                            refine hK32 _ ?_
                            clear hK32 K32
                            refine Wp.seqK fun K33 hK33 => ?_
                            refine rg ?_
                            refine ⟨rfl, CallK.handA 2 (o1 := [_, _]) (new := []) (push_c _ _ _ t25_8 _ (⟨16, w, 0, a24_6, a25_8, 0⟩) (by omega)) ?_⟩
                            refine evd ?_
                            refine hK33 _ ?_
                            clear hK33 K33
                            refine Wp.ret (retDeep (hi := ?_) (hl := ?_) (hq := ?_)) <;> first | omega | (rw [qsb_no (by constructor <;> dsimp only <;> omega)]; omega)
                        · as_aux_lemma =>
                            refine Wp.skip ?_
                            try simp only [thn, inB, if_true, reduceIte]
                            exact hK23 (i17_1, s17_1) _ hi17_1 anyS
                    · as_aux_lemma =>
                        refine Wp.seqK fun K34 hK34 => ?_
                        refine rg ?_
                        refine hK34 _ ?_
                        clear hK34 K34
                        refine Wp.condS (fun h190 => ?_) (fun h190 => ?_)
                        · as_aux_lemma =>
                            refine Wp.seqK fun K35 hK35 => ?_
                            refine rg ?_
                            refine hK35 _ ?_
                            clear hK35 K35
                            refine Wp.condS (fun h194 => ?_) (fun h194 => ?_)
                            · as_aux_lemma =>
                                refine Wp.seqK fun K36 hK36 => ?_
                                refine rg ?_
                                refine ⟨rfl, CallK.curI (h := l01Below_c _ _ _ (by omega) (by omega) ((vars.length : Int)) (by omega)) (fun x29_4 i29_4 s29_4 hx29_4 hi29_4 => ?_)⟩
                                refine evd ?_
                                have hq := hv _ (mem_getD (l := vars) (i := x29_4.toNat) (d := default) (by omega))
                                refine hK36 _ ?_
                                clear hK36 K36
                                refine Wp.seqK fun K37 hK37 => ?_
                                refine rg ?_
                                refine hK37 _ ?_
                                clear hK37 K37
                                refine Wp.condS (fun h205 => ?_) (fun h205 => ?_)
                                · as_aux_lemma =>
                                    refine Wp.seqK fun K38 hK38 => ?_
                                    refine rg ?_
                                    refine ⟨rfl, CallK.deepA (h := hd (k - 1) i29_4 s29_4 _ t ((vars.getD x29_4.toNat default).w) (by omega) (by omega) (by omega) (by omega)) (fun i31_6 s31_6 g31_6 t31_6 a31_6 hi31_6 ha31_6 ht31_6 hq31_6 => ?_)⟩
                                    refine evd ?_
                                    refine hK38 _ ?_
                                    clear hK38 K38
                                    refine Wp.seqK fun K39 hK39 => ?_
                                    refine rg ?_
                                    refine ⟨rfl, CallK.curI (h := l01Below_c _ _ _ (by omega) (by omega) ((vars.getD x29_4.toNat default).w - w + 1) (by omega)) (fun x32_7 i32_7 s32_7 hx32_7 hi32_7 => ?_)⟩
                                    refine evd ?_
                                    refine ⟨rfl, CallK.handA 2 (o1 := [_, _]) (new := []) (push_c _ _ _ t31_6 _ (⟨17, w, x32_7, a31_6, 0, 0⟩) (by omega)) ?_⟩
                                    refine evd ?_
                                    refine hK39 _ ?_
                                    clear hK39 K39
                                    refine Wp.ret (retDeep (hi := ?_) (hl := ?_) (hq := ?_)) <;> first | omega | (rw [qsb_no (by constructor <;> dsimp only <;> omega)]; omega)
                                · as_aux_lemma =>
                                    refine Wp.skip ?_
                                    try simp only [thn, inB, if_true, reduceIte]
                                    exact hK23 (i29_4, s29_4) _ hi29_4 anyS
                            · as_aux_lemma =>
                                refine Wp.skip ?_
                                try simp only [thn, inB, if_true, reduceIte]
                                exact hK23 (i17_1, s17_1) _ hi17_1 anyS
                        · as_aux_lemma =>
                            refine Wp.seqK fun K40 hK40 => ?_
                            refine rg ?_
                            refine hK40 _ ?_
                            clear hK40 K40
                            refine Wp.condS (fun h229 => ?_) (fun h229 => ?_)
                            · as_aux_lemma =>
                                refine Wp.seqK fun K41 hK41 => ?_
                                refine rg ?_
                                refine hK41 _ ?_
                                clear hK41 K41
                                refine Wp.seqK fun K42 hK42 => ?_
                                refine rg ?_
                                refine ⟨rfl, CallK.deepA (h := hd (k - 1) i17_1 s17_1 _ t (1) (by omega) (by omega) (by omega) (by omega)) (fun i35_5 s35_5 g35_5 t35_5 a35_5 hi35_5 ha35_5 ht35_5 hq35_5 => ?_)⟩
                                refine evd ?_
                                refine hK42 _ ?_
                                clear hK42 K42
                                refine Wp.seqK fun K43 hK43 => ?_
                                refine rg ?_
                                refine ⟨rfl, CallK.deepA (h := hd (k - 1) i35_5 s35_5 _ t35_5 (w) (by omega) (by omega) (by omega) (by omega)) (fun i36_6 s36_6 g36_6 t36_6 a36_6 hi36_6 ha36_6 ht36_6 hq36_6 => ?_)⟩
                                refine evd ?_
                                refine hK43 _ ?_
                                clear hK43 K43
                                refine Wp.seqK fun K44 hK44 => ?_
                                refine rg ?_
                                refine ⟨rfl, CallK.deepA (h := hd (k - 1) i36_6 s36_6 _ t36_6 (w) (by omega) (by omega) (by omega) (by omega)) (fun i37_6 s37_6 g37_6 t37_6 a37_6 hi37_6 ha37_6 ht37_6 hq37_6 => ?_)⟩
                                refine evd ?_
                                refine hK44 _ ?_
                                clear hK44 K44
                                refine Wp.seqK fun K45 hK45 => ?_
                                refine rg ?_
                                refine ⟨rfl, CallK.handA 2 (o1 := [_, _]) (new := []) (push_c _ _ _ t37_6 _ (⟨18, w, 0, a35_5, a36_6, a37_6⟩) (by omega)) ?_⟩
                                refine evd ?_
                                refine hK45 _ ?_
                                clear hK45 K45
                                refine Wp.ret (retDeep (hi := ?_) (hl := ?_) (hq := ?_)) <;> first | omega | (rw [qsb_no (by constructor <;> dsimp only <;> omega)]; omega)
                            · as_aux_lemma =>
                                refine Wp.skip ?_
                                try simp only [thn, inB, if_true, reduceIte]
                                exact hK23 (i17_1, s17_1) _ hi17_1 anyS
              rintro q f23 hq1
              simp only [updT_k, updT_d, updT_d5, updT_v, updT_nil, Nat.reduceAdd]
              refine Wp.seqK fun K46 hK46 => ?_
              refine rg ?_
              refine ⟨rfl, CallK.deepA (h := hd (k - 1) q.1 q.2 _ t (w) (by omega) (by omega) (by omega) (by omega)) (fun i39_6 s39_6 g39_6 t39_6 a39_6 hi39_6 ha39_6 ht39_6 hq39_6 => ?_)⟩
              refine evd ?_
              refine hK46 _ ?_
              clear hK46 K46
              refine Wp.seqK fun K47 hK47 => ?_
              refine rg ?_
              refine ⟨rfl, CallK.deepA (h := hd (k - 1) i39_6 s39_6 _ t39_6 (w) (by omega) (by omega) (by omega) (by omega)) (fun i40_6 s40_6 g40_6 t40_6 a40_6 hi40_6 ha40_6 ht40_6 hq40_6 => ?_)⟩
              refine evd ?_
              refine hK47 _ ?_
              clear hK47 K47
              refine Wp.seqK fun K48 hK48 => ?_
              refine rg ?_
              refine ⟨rfl, CallK.curI (h := l01Below_c _ _ _ (by omega) (by omega) (10) (by omega)) (fun x41_2 i41_2 s41_2 hx41_2 hi41_2 => ?_)⟩
              refine evd ?_
              refine ⟨rfl, CallK.handA 2 (o1 := [_, _]) (new := []) (push_c _ _ _ t40_6 _ (⟨3 + x41_2, w, 0, a39_6, a40_6, 0⟩) (by omega)) ?_⟩
              refine evd ?_
              refine hK48 _ ?_
              clear hK48 K48
              refine Wp.ret (retDeep (hi := ?_) (hl := ?_) (hq := ?_)) <;> first | omega | (rw [qsb_no (by constructor <;> dsimp only <;> omega)]; omega)
end Go.Proofs.YtkdkbnacelnljaaGreat.RE
