/- Drawing: deep terms of any depth. Conditions: those that a theorem names. -/
import Derived.Test.YtkdkbnacelnljaaGreatNF2
import Derived.Test.YtkdkbnacelnljaaGreatNF1
set_option linter.unusedVariables false
set_option linter.unusedSimpArgs false
namespace Go.Proofs.YtkdkbnacelnljaaGreat.RE
open Go Go.RowKit
set_option maxRecDepth 100000
set_option maxHeartbeats 8000000

theorem deep_c (l : List Int) (hl : l.length ≤ 1048576) (vars : List Nd) (g' : Nat) (hv : ∀ v ∈ vars, (1 ≤ v.w ∧ v.w ≤ 8) ∧ isQ v.op = false) (hvl : vars.length ≤ 1000) : ∀ n : Nat, n ≤ 10 → DeepAt l vars g' n
  | 0, h => fun k i s g t w hk hi ht hw => deep_step l hl vars g' hv hvl 0 h (.inl rfl) k i s g t w hk hi ht hw
  | n + 1, h => fun k i s g t w hk hi ht hw => deep_step l hl vars g' hv hvl (n + 1) h (.inr (deep_c l hl vars g' hv hvl n (by omega))) k i s g t w hk hi ht hw
end Go.Proofs.YtkdkbnacelnljaaGreat.RE

/-! Drawing: a new cursor. Conditions: those that a theorem names. -/
set_option linter.unusedVariables false
set_option linter.unusedSimpArgs false
namespace Go.Proofs.YtkdkbnacelnljaaGreat.RE
open Go Go.RowKit
set_option maxRecDepth 100000
set_option maxHeartbeats 8000000
theorem l01New_c (l : List Int) (hl : l.length ≤ 1048576) : CallsA E.P 30 [dY l] [] (fun r ob => ∃ h : Int, r = .l (.ptr 0 0 0) ∧ ob = [some (cur l 0 h)]) := by
  refine CallsA.body (E := E) (fn := Tryz.f30) Tryz.func30 rfl fun B hB => ?_
  simp only [Tryz.ntmps30, go_sem, nl, Nat.reduceSub, Nat.reduceAdd, List.reduceReplicate]
  refine Wp.seqK fun K1 hK1 => ?_
  refine rg ?_
  refine hK1 _ ?_
  clear hK1 K1
  refine Wp.seqK fun K2 hK2 => ?_
  refine rg ?_
  refine hK2 _ ?_
  clear hK2 K2
  refine Wp.seqK fun K3 hK3 => ?_
  refine Wp.seqK fun K4 hK4 => ?_
  refine rg ?_
  refine hK4 _ ?_
  clear hK4 K4
  refine Wp.block ?_
  refine Wp.loopU0 (α := Nat × Int) (fun x => [.k, .d, .d, .v (I x.2), .v (I (x.1 : Int)), .d5, .d5, .d5, .d5, .d5, .d, .d]) (fun x => x.1 ≤ l.length) (fun x => l.length - x.1) (0, 118118 + l.length) (Nat.zero_le _) anyS ?_
  rintro x f5 K5 hx hK5
  simp only [updT_k, updT_d, updT_d5, updT_v, updT_nil, Nat.reduceAdd]
  refine Wp.seqK fun K6 hK6 => ?_
  refine Wp.seqU0 [.k, .d, .d, .k, .k, .d5, .d5, .v (T (decide (x.1 < l.length ∧ x.1 < 4000))), .d5, .d5, .d5, .d] (fun K7 hK7 => ?_) ?_
  · refine rg ?_
    refine grdA_split rfl (fun g3_5 => ?_) (fun g3_5 => ?_)
    · try simp only [decide_eq_true_eq, decide_eq_false_iff_not] at g3_5
      try refine evd ?_
      have e : decide (x.1 < l.length ∧ x.1 < 4000) = decide ((x.1 : Int) < 4000) := by
        rw [decide_eq_decide]
        omega
      exact hK7 _ (anyS (h := by rw [e]; rfl))
    · try simp only [decide_eq_true_eq, decide_eq_false_iff_not] at g3_5
      try refine evd ?_
      have e : decide (x.1 < l.length ∧ x.1 < 4000) = false := decide_eq_false (by omega)
      exact hK7 _ (anyS (h := by rw [e]; rfl))
  rintro f7
  simp only [updT_k, updT_d, updT_d5, updT_v, updT_nil, Nat.reduceAdd]
  refine Wp.condS (fun h15 => ?_) (fun h15 => ?_)
  · refine Wp.skip ?_
    refine hK6 _ ?_
    clear hK6 K6
    refine Wp.seqK fun K8 hK8 => ?_
    refine Wp.block ?_
    refine rg ?_
    try simp only [thn, inB, if_true, reduceIte]
    refine hK8 _ ?_
    clear hK8 K8
    refine rg ?_
    exact hK5 (x.1 + 1, _) _ (by show x.1 + 1 ≤ _; omega) (by show l.length - (x.1 + 1) < l.length - x.1; omega) anyS
  · refine Wp.exit ?_
    try simp only [thn, inB, if_true, reduceIte]
    clear hK6 K6
    clear hK5 K5
    refine hK3 _ ?_
    clear hK3 K3
    refine Wp.seqK fun K9 hK9 => ?_
    refine rg ?_
    refine hK9 _ ?_
    clear hK9 K9
    refine Wp.ret ⟨_, [0], rfl, Nat.zero_le _, by simp, by simp, ?_⟩
    exact ⟨_, rfl, rfl⟩
end Go.Proofs.YtkdkbnacelnljaaGreat.RE

/-! Drawing: made sentences, rules. Conditions: those that a theorem names. -/
set_option linter.unusedVariables false
set_option linter.unusedSimpArgs false
namespace Go.Proofs.YtkdkbnacelnljaaGreat.RE
open Go Go.RowKit
set_option maxRecDepth 100000
set_option maxHeartbeats 8000000

theorem ite_self_le {α : Type} {n : Nat} {a b : α} : (if n ≤ n then a else b) = a := if_pos (Nat.le_refl n)
theorem lN_takeL (t : List Nd) : List.take (t.length * 6) (lN t) = lN t := by rw [lN_take, List.take_length]
attribute [go_sem] ite_self_le lN_takeL
section
variable {E : Env} {ds : List (Option Tmp)} {D : List Nat} {L : List (Oper × Bool)} {i j : Nat} {r s : Pl} {K : St → Prop} {st : St}
theorem treeG_one (h : ∀ K1 : St → Prop, (∀ s, treeG E ds D L r K s → K1 s) → stepG E ds D (L.getD i (default, false)) K1 st) : treeG E ds D L (.one i r) K st := h _ fun _ h => h
theorem treeG_two (h1 : ∀ K1 : St → Prop, (∀ s, treeG E ds D L r K s → K1 s) → stepG E ds D (L.getD i (default, false)) K1 st) (h2 : ∀ K1 : St → Prop, (∀ x, treeG E ds D L s K x → K1 x) → stepG E ds D (L.getD j (default, false)) K1 st) : treeG E ds D L (.two i j r s) K st := ⟨h1 _ fun _ h => h, h2 _ fun _ h => h⟩
theorem treeG_done (h : K st) : treeG E ds D L .done K st := h
end
def SM : Nat → Nat
  | 0 => 41
  | n + 1 => 2 * SM n + 1
theorem SM_s {n : Nat} (h : n ≠ 0) : SM n = 2 * SM (n - 1) + 1 := by
  cases n with
  | zero => exact absurd rfl h
  | succ n => rfl
theorem SM_ge : ∀ n : Nat, 41 ≤ SM n
  | 0 => Nat.le_refl _
  | n + 1 => by have := SM_ge n; simp only [SM]; omega
def QMade (l : List Int) (t vars : List Nd) (g' m : Nat) (next bits : Int) : AV → Obs → Prop := fun r ob => ∃ (i2 h2 : Int) (g2 : Nat) (t2 : List Nd) (a n2 b2 : Int), (0 ≤ i2 ∧ i2 ≤ (l.length : Int)) ∧ (0 ≤ a ∧ a < (t2.length : Int)) ∧ t2.length ≤ t.length + m ∧ (next ≤ n2 ∧ n2 ≤ 8) ∧ (0 ≤ b2 ∧ b2 ≤ bits) ∧ qsum t2 + b2 ≤ qsum t + bits ∧
  r = .tup [.l (.obj 1 g2 6 0 t2.length), .l (.sc (.int .i64 a)), .l (.sc (.int .i64 n2)), .l (.sc (.int .i64 b2))] ∧ ob = [some (cur l i2 h2), some ⟨g2, lN t2⟩, some ⟨g', lN vars⟩]
def MadeAt (l : List Int) (n : Nat) : Prop := ∀ (vars : List Nd) (g' : Nat) (k i h : Int) (g : Nat) (t : List Nd) (next bits : Int), (∀ v ∈ vars, (1 ≤ v.w ∧ v.w ≤ 8) ∧ isQ v.op = false) → vars.length + n ≤ 1000 → k = n → (0 ≤ i ∧ i ≤ (l.length : Int)) → t.length + SM n ≤ 100000 → (0 ≤ next ∧ next ≤ 8) → (0 ≤ bits ∧ bits ≤ 1000) →
  CallsA E.P 61 [.l (.ptr 0 0 0), .l (.obj 1 g 6 0 t.length), .l (.obj 2 g' 6 0 vars.length), I next, I bits, I k] [some (cur l i h), some ⟨g, lN t⟩, some ⟨g', lN vars⟩] (QMade l t vars g' (SM n) next bits)
theorem retMade {st : St} {fn : Func} {l : List Int} {t vars : List Nd} {g' m : Nat} {next bits : Int} {i2 h2 : Int} {g2 : Nat} {t2 : List Nd} {a n2 b2 : Int} (hi : 0 ≤ i2 ∧ i2 ≤ (l.length : Int)) (ha : 0 ≤ a ∧ a < (t2.length : Int)) (hl : t2.length ≤ t.length + m) (hn2 : next ≤ n2 ∧ n2 ≤ 8) (hb2 : 0 ≤ b2 ∧ b2 ≤ bits) (hq : qsum t2 + b2 ≤ qsum t + bits)
    (hob : st.ob.take 3 = [some (cur l i2 h2), some ⟨g2, lN t2⟩, some ⟨g', lN vars⟩] := by rfl)
    (h : resA st.tm st.ob E fn.results.toList = some (.tup [.l (.obj 1 g2 6 0 t2.length), .l (.sc (.int .i64 a)), .l (.sc (.int .i64 n2)), .l (.sc (.int .i64 b2))]) := by first | rfl | (simp only [List.length_append, List.length_cons, List.length_nil] <;> rfl)) (hn : 3 ≤ st.ob.length := by simp) : retQ E fn 3 (QMade l t vars g' m next bits) .ret st :=
  retE (Q := QMade l t vars g' m next bits) (x' := .tup [.l (.obj 1 g2 6 0 t2.length), .l (.sc (.int .i64 a)), .l (.sc (.int .i64 n2)), .l (.sc (.int .i64 b2))]) ⟨i2, h2, g2, t2, a, n2, b2, hi, ha, hl, hn2, hb2, hq, rfl, rfl⟩ hob h rfl (by (simp only [obShut, List.all_cons, List.all_nil, flat_shut (lN_flat _), Bool.and_true]) <;> rfl) hn
section
variable {P : Program} {f : FuncId} {args args' : List AV} {st : St} {d : Option Tmp} {K : St → Prop} {l : List Int} {i s : Int} {g g' m : Nat} {t vars : List Nd} {next bits : Int}
theorem CallK.madeA {rest : Obs} (h : CallsA P f args' [some (cur l i s), some ⟨g, lN t⟩, some ⟨g', lN vars⟩] (QMade l t vars g' m next bits))
    (k : ∀ (i2 s2 : Int) (g2 : Nat) (t2 : List Nd) (a n2 b2 : Int), (0 ≤ i2 ∧ i2 ≤ (l.length : Int)) → (0 ≤ a ∧ a < (t2.length : Int)) → t2.length ≤ t.length + m → (next ≤ n2 ∧ n2 ≤ 8) → (0 ≤ b2 ∧ b2 ≤ bits) → qsum t2 + b2 ≤ qsum t + bits → K ⟨putT st.tm d (.tup [.l (.obj 1 g2 6 0 t2.length), .l (.sc (.int .i64 a)), .l (.sc (.int .i64 n2)), .l (.sc (.int .i64 b2))]), some (cur l i2 s2) :: some ⟨g2, lN t2⟩ :: some ⟨g', lN vars⟩ :: rest⟩)
    (ho : st.ob = some (cur l i s) :: some ⟨g, lN t⟩ :: some ⟨g', lN vars⟩ :: rest := by rfl) (ha : args.map (AV.toC (List.range 3) []) = args' := by rfl) : CallK P f args st d K :=
  CallK.handE 3 h (fun r ob1 ⟨i2, s2, g2, t2, a, n2, b2, hi, ha2, hl, hn, hb, hq, e1, e2⟩ => ⟨[some (cur l i2 s2), some ⟨g2, lN t2⟩, some ⟨g', lN vars⟩], [], by rw [e2]; rfl, rfl, by (simp only [obShut, List.all_cons, List.all_nil, flat_shut (lN_flat _), Bool.and_true]) <;> rfl, by
    rw [ho, e1]
    rw [show AV.ren (shm 3 (some (cur l i s) :: some ⟨g, lN t⟩ :: some ⟨g', lN vars⟩ :: rest).length) (.tup [.l (.obj 1 g2 6 0 t2.length), .l (.sc (.int .i64 a)), .l (.sc (.int .i64 n2)), .l (.sc (.int .i64 b2))]) = .tup [.l (.obj 1 g2 6 0 t2.length), .l (.sc (.int .i64 a)), .l (.sc (.int .i64 n2)), .l (.sc (.int .i64 b2))] from rfl]
    simpa using k i2 s2 g2 t2 a n2 b2 hi ha2 hl hn hb hq⟩) (by rw [ho]; rfl) ha (by (simp only [obShut, List.all_cons, List.all_nil, flat_shut (lN_flat _), Bool.and_true]) <;> rfl) (by rw [ho]; simp)
/-- The third row handed over is the one at 4. -/
theorem CallK.madeB {r2 r3 : Option Ob} (h : CallsA P f args' [some (cur l i s), some ⟨g, lN t⟩, some ⟨g', lN vars⟩] (QMade l t vars g' m next bits))
    (k : ∀ (i2 s2 : Int) (g2 : Nat) (t2 : List Nd) (a n2 b2 : Int), (0 ≤ i2 ∧ i2 ≤ (l.length : Int)) → (0 ≤ a ∧ a < (t2.length : Int)) → t2.length ≤ t.length + m → (next ≤ n2 ∧ n2 ≤ 8) → (0 ≤ b2 ∧ b2 ≤ bits) → qsum t2 + b2 ≤ qsum t + bits → K ⟨putT st.tm d (.tup [.l (.obj 1 g2 6 0 t2.length), .l (.sc (.int .i64 a)), .l (.sc (.int .i64 n2)), .l (.sc (.int .i64 b2))]), [some (cur l i2 s2), some ⟨g2, lN t2⟩, r2, r3, some ⟨g', lN vars⟩]⟩)
    (ho : st.ob = [some (cur l i s), some ⟨g, lN t⟩, r2, r3, some ⟨g', lN vars⟩] := by rfl) (ha : args.map (AV.toC [0, 1, 4] []) = args' := by rfl) : CallK P f args st d K := by
  have hc : ∀ (mm : Nat → Nat → Option (Nat × Nat)) (i s : Int), (cur l i s).cs.map (LV.ren mm) = (cur l i s).cs := fun _ _ _ => rfl
  refine CallK.use (Q := QMade l t vars g' m next bits) [0, 1, 4] [] ⟨by decide, fun s hs => by rw [ho]; simp only [List.mem_cons, List.not_mem_nil, or_false] at hs; simp; omega, by simp, by simp⟩ ?_ ?_
  · rw [ha, show obC [0, 1, 4] st.ob = [some (cur l i s), some ⟨g, lN t⟩, some ⟨g', lN vars⟩] by
      rw [ho]; simp only [obC, List.map_cons, List.map_nil, List.getD_cons_zero, List.getD_cons_succ, Option.map_some, hc, map_flat (lN_flat _)]]
    exact h
  · rintro r ob1 ⟨i2, s2, g2, t2, a, n2, b2, hi, ha2, hl, hn, hb, hq, e1, e2⟩
    subst e1; subst e2
    refine ⟨by simp, .inl rfl, ?_⟩
    have e : ∀ (m : Nat → Nat → Option (Nat × Nat)) (a b c d e x y z : Option Ob), obB [0, 1, 4] [a, b, c, d, e] [x, y, z] = [x.map (Ob.ren (mB [0, 1, 4] 5)), y.map (Ob.ren (mB [0, 1, 4] 5)), c, d, z.map (Ob.ren (mB [0, 1, 4] 5))] := fun _ _ _ _ _ _ _ _ _ => rfl
    rw [ho, e (fun _ _ => none)]
    simp only [Option.map_some, Ob.ren, hc, map_flat (lN_flat _)]
    exact k i2 s2 g2 t2 a n2 b2 hi ha2 hl hn hb hq
end
end Go.Proofs.YtkdkbnacelnljaaGreat.RE
