/- Drawing: the cursor. Conditions: those that a theorem names. -/
import Derived.Test.YtkdkbnacelnljaaGreatND9
set_option linter.unusedVariables false
set_option linter.unusedSimpArgs false
namespace Go.Proofs.YtkdkbnacelnljaaGreat.RE
open Go Go.RowKit
set_option maxRecDepth 100000
set_option maxHeartbeats 8000000

/-! ### Rows handed over, an answer that is told by a property -/
section
variable {P : Program} {f : FuncId} {args args' : List AV} {st : St} {d : Option Tmp} {K : St → Prop}
theorem CallK.handE (m : Nat) {Q : AV → Obs → Prop} {obm : Obs} (h : CallsA P f args' obm Q)
    (k : ∀ r ob1, Q r ob1 → ∃ o1 new, ob1 = o1 ++ new ∧ o1.length = m ∧ obShut m o1 = true ∧ K ⟨putT st.tm d (r.ren (shm m st.ob.length)), o1 ++ st.ob.drop m ++ new.map (Option.map (Ob.ren (shm m st.ob.length)))⟩)
    (ho : st.ob.take m = obm := by rfl) (ha : args.map (AV.toC (List.range m) []) = args' := by rfl)
    (hs : obShut m obm = true := by (simp only [obShut, List.all_cons, List.all_nil, flat_shut (lN_flat _), flat_shut (flatI _), flat_shut (flatB _), Bool.and_true]) <;> rfl) (hm : m ≤ st.ob.length := by simp) : CallK P f args st d K :=
  CallK.use (Q := Q) (List.range m) [] ⟨List.nodup_range, fun s hs => by rw [List.mem_range] at hs; omega, by simp, by simp⟩ (by rw [obC_range hm (by rw [ho]; exact hs), ho, ha]; exact h) fun r ob1 hq => by
    obtain ⟨o1, new, rfl, hl, hs1, hk⟩ := k r ob1 hq
    refine ⟨by simp [hl], .inl rfl, ?_⟩
    rw [obB_range hm hl hs1, mB_range]
    exact hk
end
section
variable {st : St}
/-- A return whose rows are those that were handed over. -/
theorem retE {fn : Func} {m : Nat} {Q : AV → Obs → Prop} {x x' : AV} {ob' : Obs} (hQ : Q x' ob') (hob : st.ob.take m = ob') (h : resA st.tm st.ob E fn.results.toList = some x := by rfl) (hx : x.ren (keepM m [] st.ob) = x' := by rfl)
    (hi : obShut m ob' = true := by (simp only [obShut, List.all_cons, List.all_nil, flat_shut (lN_flat _), flat_shut (flatI _), flat_shut (flatB _), Bool.and_true]) <;> rfl) (hn : m ≤ st.ob.length := by simp) : retQ E fn m Q .ret st := by
  refine ⟨x, [], h, hn, List.nodup_nil, by simp, ?_⟩
  rw [hx]
  have e : keepO m [] st.ob = ob' := by
    simp only [keepO, List.map_nil, List.append_nil]
    rw [hob]
    apply List.ext_getElem?
    intro i
    rw [List.getElem?_map]
    cases hx : ob'[i]? with
    | none => rfl
    | some y => cases y with
      | none => rfl
      | some y => simp only [Option.map_some, shut_map (keepM_below m st.ob) (shut_at hi hx)]
  rw [e]
  exact hQ
end
/-! ### The cursor -/
def encY (l : List Int) : List DV := l.map fun x => .sc (.int .u8 x)
abbrev dY (l : List Int) : AV := .l (.dsl true l.length (encY l))
theorem encY_len (l : List Int) : (encY l).length = l.length := by simp [encY]
theorem atDY {l : List Int} {i : Nat} (h : i < l.length) : ((encY l).drop i).getD 0 .nils = .sc (.int .u8 (l.getD i 0)) := by
  simp [encY, List.getD_eq_getElem?_getD, h]
abbrev cur (l : List Int) (i h : Int) : Ob := ⟨0, [.dsl true l.length (encY l), .sc (.int .i64 i), .sc (.int .i64 h)]⟩
attribute [go_sem] atDY encY_len wrU bits64 min64
theorem and255 (a : Int) : 0 ≤ IntKind.i64.wrap ((BitVec.ofInt 64 a &&& BitVec.ofInt 64 255).toNat : Int) ∧ IntKind.i64.wrap ((BitVec.ofInt 64 a &&& BitVec.ofInt 64 255).toNat : Int) ≤ 255 := by
  have h : (BitVec.ofInt 64 a &&& BitVec.ofInt 64 255).toNat ≤ 255 := by
    rw [BitVec.toNat_and]
    exact Nat.le_trans Nat.and_le_right (by decide)
  rw [wr (by omega) (by omega)]
  omega
def QCur (l : List Int) (p : AV → Prop) : AV → Obs → Prop := fun r ob => ∃ i2 h2, (0 ≤ i2 ∧ i2 ≤ (l.length : Int)) ∧ p r ∧ ob = [some (cur l i2 h2)]
def PI (lo hi : Int) (r : AV) : Prop := ∃ x, r = I x ∧ lo ≤ x ∧ x ≤ hi
def PT (r : AV) : Prop := ∃ x, r = T x
theorem retCur {st : St} {fn : Func} {l : List Int} {p : AV → Prop} {x : AV} {i2 h2 : Int} (hp : p x) (hi : 0 ≤ i2 ∧ i2 ≤ (l.length : Int)) (h : resA st.tm st.ob E fn.results.toList = some x := by rfl) (hob : st.ob.take 1 = [some (cur l i2 h2)] := by rfl)
    (hf : x.flat = true := by rfl) (hn : 1 ≤ st.ob.length := by simp) : retQ E fn 1 (QCur l p) .ret st :=
  retE (Q := QCur l p) ⟨i2, h2, hi, hp, rfl⟩ hob h (AV.flat_ren hf) rfl hn
theorem CallK.cur0 {P : Program} {f : FuncId} {args args' : List AV} {st : St} {d : Option Tmp} {K : St → Prop} {l : List Int} {i s : Int} {p : AV → Prop} {rest : Obs} (h : CallsA P f args' [some (cur l i s)] (QCur l p))
    (k : ∀ r i2 s2, p r → (0 ≤ i2 ∧ i2 ≤ (l.length : Int)) → K ⟨putT st.tm d r, some (cur l i2 s2) :: rest⟩) (hp : ∀ r, p r → r.flat = true) (ho : st.ob = some (cur l i s) :: rest := by rfl) (ha : args.map (AV.toC (List.range 1) []) = args' := by rfl) : CallK P f args st d K :=
  CallK.handE 1 h (fun r ob1 ⟨i2, s2, hi, hpr, e⟩ => ⟨[some (cur l i2 s2)], [], by rw [e]; rfl, rfl, rfl, by
    rw [ho, AV.flat_ren (hp r hpr)]
    simpa using k r i2 s2 hpr hi⟩) (by rw [ho]; rfl) ha rfl (by rw [ho]; simp)
theorem CallK.curI {P : Program} {f : FuncId} {args args' : List AV} {st : St} {d : Option Tmp} {K : St → Prop} {l : List Int} {i s lo hi : Int} {rest : Obs} (h : CallsA P f args' [some (cur l i s)] (QCur l (PI lo hi)))
    (k : ∀ x i2 s2, (lo ≤ x ∧ x ≤ hi) → (0 ≤ i2 ∧ i2 ≤ (l.length : Int)) → K ⟨putT st.tm d (I x), some (cur l i2 s2) :: rest⟩) (ho : st.ob = some (cur l i s) :: rest := by rfl) (ha : args.map (AV.toC (List.range 1) []) = args' := by rfl) : CallK P f args st d K :=
  CallK.cur0 h (fun r i2 s2 ⟨x, e, hx⟩ hi => by subst e; exact k x i2 s2 hx hi) (fun r ⟨x, e, _⟩ => by subst e; rfl) ho ha
theorem CallK.curT {P : Program} {f : FuncId} {args args' : List AV} {st : St} {d : Option Tmp} {K : St → Prop} {l : List Int} {i s : Int} {rest : Obs} (h : CallsA P f args' [some (cur l i s)] (QCur l PT))
    (k : ∀ x i2 s2, True → (0 ≤ i2 ∧ i2 ≤ (l.length : Int)) → K ⟨putT st.tm d (T x), some (cur l i2 s2) :: rest⟩) (ho : st.ob = some (cur l i s) :: rest := by rfl) (ha : args.map (AV.toC (List.range 1) []) = args' := by rfl) : CallK P f args st d K :=
  CallK.cur0 h (fun r i2 s2 ⟨x, e⟩ hi => by subst e; exact k x i2 s2 trivial hi) (fun r ⟨x, e⟩ => by subst e; rfl) ho ha
theorem mod_b {a n : Int} (h0 : 0 ≤ a) (hn : 0 < n) : 0 ≤ a.tmod n ∧ a.tmod n ≤ n - 1 := by
  rw [Int.tmod_eq_emod_of_nonneg h0]
  have := Int.emod_lt_of_pos a hn
  have := Int.emod_nonneg a (show n ≠ 0 by omega)
  omega
theorem l01Byte_c (l : List Int) (i h : Int) (hi : 0 ≤ i ∧ i ≤ (l.length : Int)) (hl : l.length ≤ 1048576) : CallsA E.P 82 [.l (.ptr 0 0 0)] [some (cur l i h)] (QCur l (PI 0 255)) := by
  refine CallsA.body (E := E) (fn := Tryz.f82) Tryz.func82 rfl fun B hB => ?_
  simp only [Tryz.ntmps82, go_sem, nl, Nat.reduceSub, Nat.reduceAdd, List.reduceReplicate]
  refine Wp.seqK fun K1 hK1 => ?_
  refine rg ?_
  refine hK1 _ ?_
  clear hK1 K1
  refine Wp.seqK fun K2 hK2 => ?_
  refine rg ?_
  refine hK2 _ ?_
  clear hK2 K2
  refine Wp.seqK fun K3 hK3 => ?_
  refine Wp.drawI [0] [] (by kernel_rfl) ?_
  refine evd ?_
  refine hK3 _ ?_
  clear hK3 K3
  refine Wp.seqK fun K4 hK4 => ?_
  refine Wp.seqK fun K5 hK5 => ?_
  refine Wp.drawI [0] [] (by kernel_rfl) ?_
  refine evd ?_
  refine hK5 _ ?_
  clear hK5 K5
  refine Wp.condS (fun h34 => ?_) (fun h34 => ?_)
  · refine Wp.seqK fun K6 hK6 => ?_
    refine Wp.drawI [0] [11] (by kernel_rfl) ?_
    refine evd ?_
    refine hK6 _ ?_
    clear hK6 K6
    refine rg ?_
    refine hK4 _ ?_
    clear hK4 K4
    refine Wp.seqK fun K7 hK7 => ?_
    refine rg ?_
    refine hK7 _ ?_
    clear hK7 K7
    refine Wp.ret (retCur (hp := ?_) (hi := ?_))
    · exact ⟨_, rfl, and255 _⟩
    · omega
  · refine Wp.skip ?_
    refine hK4 _ ?_
    clear hK4 K4
    refine Wp.seqK fun K8 hK8 => ?_
    refine rg ?_
    refine hK8 _ ?_
    clear hK8 K8
    refine Wp.ret (retCur (hp := ?_) (hi := ?_))
    · exact ⟨_, rfl, and255 _⟩
    · omega
theorem l01Below_c (l : List Int) (i h : Int) (hi : 0 ≤ i ∧ i ≤ (l.length : Int)) (hl : l.length ≤ 1048576) (n : Int) (hn : 1 ≤ n ∧ n ≤ 1000000) : CallsA E.P 48 [.l (.ptr 0 0 0), I n] [some (cur l i h)] (QCur l (PI 0 (n - 1))) := by
  refine CallsA.body (E := E) (fn := Tryz.f48) Tryz.func48 rfl fun B hB => ?_
  simp only [Tryz.ntmps48, go_sem, nl, Nat.reduceSub, Nat.reduceAdd, List.reduceReplicate]
  refine Wp.seqK fun K1 hK1 => ?_
  refine rg ?_
  refine hK1 _ ?_
  clear hK1 K1
  refine Wp.seqK fun K2 hK2 => ?_
  refine Wp.seqK fun K3 hK3 => ?_
  refine rg ?_
  refine hK3 _ ?_
  clear hK3 K3
  refine Wp.condS (fun h10 => ?_) (fun h10 => ?_)
  · refine Wp.seqK fun K4 hK4 => ?_
    refine rg ?_
    refine hK4 _ ?_
    clear hK4 K4
    refine Wp.ret (retCur (hp := ?_) (hi := ?_))
    · exact ⟨0, rfl, by omega, by omega⟩
    · omega
  · refine Wp.skip ?_
    refine hK2 _ ?_
    clear hK2 K2
    refine Wp.seqK fun K5 hK5 => ?_
    refine Wp.seqK fun K6 hK6 => ?_
    refine rg ?_
    refine hK6 _ ?_
    clear hK6 K6
    refine Wp.condS (fun h12 => ?_) (fun h12 => ?_)
    · refine Wp.seqK fun K7 hK7 => ?_
      refine rg ?_
      refine ⟨rfl, CallK.curI (h := l01Byte_c _ _ _ (by omega) (by omega)) (fun x4_1 i4_1 s4_1 hx4_1 hi4_1 => ?_)⟩
      refine evd ?_
      refine hK7 _ ?_
      clear hK7 K7
      refine Wp.ret (retCur (hp := ?_) (hi := ?_))
      · exact ⟨_, rfl, mod_b (by omega) (by omega)⟩
      · omega
    · refine Wp.skip ?_
      refine hK5 _ ?_
      clear hK5 K5
      refine Wp.seqK fun K8 hK8 => ?_
      refine rg ?_
      refine ⟨rfl, CallK.curI (h := l01Byte_c _ _ _ (by omega) (by omega)) (fun x5_1 i5_1 s5_1 hx5_1 hi5_1 => ?_)⟩
      refine evd ?_
      refine hK8 _ ?_
      clear hK8 K8
      refine Wp.seqK fun K9 hK9 => ?_
      refine rg ?_
      refine ⟨rfl, CallK.curI (h := l01Byte_c _ _ _ (by omega) (by omega)) (fun x6_1 i6_1 s6_1 hx6_1 hi6_1 => ?_)⟩
      refine evd ?_
      refine hK9 _ ?_
      clear hK9 K9
      refine Wp.seqK fun K10 hK10 => ?_
      refine rg ?_
      refine ⟨rfl, CallK.curI (h := l01Byte_c _ _ _ (by omega) (by omega)) (fun x7_1 i7_1 s7_1 hx7_1 hi7_1 => ?_)⟩
      refine evd ?_
      refine hK10 _ ?_
      clear hK10 K10
      refine Wp.seqK fun K11 hK11 => ?_
      refine rg ?_
      refine ⟨rfl, CallK.curI (h := l01Byte_c _ _ _ (by omega) (by omega)) (fun x8_1 i8_1 s8_1 hx8_1 hi8_1 => ?_)⟩
      refine evd ?_
      refine hK11 _ ?_
      clear hK11 K11
      refine Wp.seqK fun K12 hK12 => ?_
      refine rg ?_
      refine hK12 _ ?_
      clear hK12 K12
      refine Wp.ret (retCur (hp := ?_) (hi := ?_))
      · exact ⟨_, rfl, mod_b (by omega) (by omega)⟩
      · omega
theorem l01Once_c (l : List Int) (i h : Int) (hi : 0 ≤ i ∧ i ≤ (l.length : Int)) (hl : l.length ≤ 1048576) (n : Int) (hn : 1 ≤ n ∧ n ≤ 1000000) : CallsA E.P 81 [.l (.ptr 0 0 0), I n] [some (cur l i h)] (QCur l PT) := by
  refine CallsA.body (E := E) (fn := Tryz.f81) Tryz.func81 rfl fun B hB => ?_
  simp only [Tryz.ntmps81, go_sem, nl, Nat.reduceSub, Nat.reduceAdd, List.reduceReplicate]
  refine Wp.seqK fun K1 hK1 => ?_
  refine rg ?_
  refine hK1 _ ?_
  clear hK1 K1
  refine Wp.seqK fun K2 hK2 => ?_
  refine rg ?_
  refine ⟨rfl, CallK.curI (h := l01Below_c _ _ _ (by omega) (by omega) _ (by omega)) (fun x1_2 i1_2 s1_2 hx1_2 hi1_2 => ?_)⟩
  refine evd ?_
  refine hK2 _ ?_
  clear hK2 K2
  refine Wp.ret (retCur (hp := ?_) (hi := ?_))
  · exact ⟨_, rfl⟩
  · omega
end Go.Proofs.YtkdkbnacelnljaaGreat.RE
