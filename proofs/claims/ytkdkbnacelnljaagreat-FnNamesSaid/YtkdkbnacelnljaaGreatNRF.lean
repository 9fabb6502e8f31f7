/- The other operations of the abstract memory are those of the model. Conditions: those that a theorem names. -/
import Derived.Test.YtkdkbnacelnljaaGreatNRE
import Derived.Laws.StructEq
import Derived.Laws.Tables
import Derived.Lib.ConvBytes
set_option linter.unusedVariables false
set_option linter.unusedSimpArgs false
namespace Go.Proofs.YtkdkbnacelnljaaGreat.RE
open Go Go.RowKit

section
variable {E : Env} {B : Base} {K : St → Prop} {st : St} {o : Oper}
theorem rd_sc {a : Act} {w : World} {cx : Cx} {x : Operand} {v : Value} (ht : ∀ i, VA w cx.ρ (RO w cx st.ob) (st.tm.getD i (.l .dead)) (a.tmps.getD i undef)) (h : rd st.tm x = .l (.sc v)) : a.eval x = v := by
  have := rd_ok ht x
  rw [h] at this
  exact this
theorem nil_ok {x : Operand} (ho : o.op = .nilCheck x) (h : nilF K st o.dst (rd st.tm x)) : OpB E.P B o K st := by
  unfold nilF at h
  split at h
  · rename_i o1 g off hx
    refine OpB.val h fun a w cx hM ht => ?_
    have hp := rd_ok ht x
    rw [hx] at hp
    obtain ⟨l, h1, h2, hm⟩ := hp
    exact ⟨_, by simp [execOp, ho, h2], l, h1, rfl, hm⟩
  · rename_i b cs hx
    refine OpB.val h fun a w cx hM ht => ?_
    have hp := rd_ok ht x
    rw [hx] at hp
    obtain ⟨ad, h1, h2⟩ := hp
    exact ⟨_, by simp [execOp, ho, h1], ad, rfl, h2⟩
  · exact h.elim
theorem un_ok {op : UnOp} {t : TypeId} {x : Operand} (ho : o.op = .unOp op t x) (h : unF K st o.dst op (rd st.tm x)) : OpB E.P B o K st := by
  unfold unF at h
  split at h
  · rename_i b hx
    split at h
    case h_2 => exact h.elim
    exact OpB.val h fun a w cx hM ht => ⟨_, by simp [execOp, ho, rd_sc ht hx, Op.unary], rfl⟩
  · rename_i k n hx
    split at h
    case h_2 => exact h.elim
    exact OpB.val h fun a w cx hM ht => ⟨_, by simp [execOp, ho, rd_sc ht hx, Op.unary, Op.intArith], rfl⟩
  · exact h.elim
theorem eqGuard_int {P : Program} (op : BinOp) (t : TypeId) (x y : Operand) (k j : IntKind) (a b : Int) (w : World) : (eqGuard op t x y (.int k a) (.int j b)).run P w = .ok () w := by cases op <;> simp [eqGuard]
theorem eqGuard_bool {P : Program} (op : BinOp) (t : TypeId) (x y : Operand) (a b : Bool) (w : World) : (eqGuard op t x y (.bool a) (.bool b)).run P w = .ok () w := by cases op <;> simp [eqGuard]
theorem eqGuard_str {P : Program} (op : BinOp) (t : TypeId) (x y : Operand) (a b : ByteArray) (w : World) : (eqGuard op t x y (.string a) (.string b)).run P w = .ok () w := by cases op <;> simp [eqGuard]
theorem bin_run {P : Program} {op : BinOp} {t u : TypeId} {x y : Operand} (ho : o.op = .binOp op t x y u) (a : Act) (w : World) {r : Value} (h1 : (eqGuard op t x y (a.eval x) (a.eval y)).run P w = .ok () w) (h2 : (binOp op t (a.eval x) (a.eval y)).run P w = .ok r w) : (execOp a.eval o).run P w = .ok (.value r) w := by
  simp [execOp, ho, h1, h2]
theorem beq_dec (x y : Int) : (x == y) = decide (x = y) := by by_cases h : x = y <;> simp [h]
theorem bytes_dec (x y : ByteArray) : (x.toList == y.toList) = decide (x = y) := by
  rw [← beq_toListBytes]
  by_cases h : x = y
  · subst h; simp [beq_toListBytes]
  · rw [decide_eq_false h, beq_toListBytes, ByteArray.toList_eq, ByteArray.toList_eq]
    obtain ⟨⟨x⟩⟩ := x
    obtain ⟨⟨y⟩⟩ := y
    simp at h ⊢
    exact h
theorem bin_int {op : BinOp} {k : IntKind} {x y : Int} {t : TypeId} (w : World) : (∀ b, cmpB op x y = some b → (binOp op t (.int k x) (.int k y)).run E.P w = .ok (.bool b) w) ∧
    (∀ n, cmpB op x y = none → ariB op k x y = some n → (binOp op t (.int k x) (.int k y)).run E.P w = .ok (.int k n) w) := by
  cases op <;> simp [cmpB, ariB, binOp, Op.intArith, Op.intBits, Op.intCmp, beq_dec, bne]
theorem eq1_ok {P : Program} {d : Nat} {t : TypeId} {u : TypeDesc} {ty : Ty} {l m : LV} {x y : Value} {c : Bool} (w : World) {ρ : Nat → Nat → Option Loc} {r : Bool → Nat → Prop} (hx : VC w ρ r l x) (hy : VC w ρ r m y) (h : eq1 ty l m = some c)
    (hu : P.underlying t = some u) (hty : tyIs u ty = true) : (Op.equalIn (d + 1) t x y).run P w = .ok c w := by
  unfold eq1 at h
  split at h
  · rename_i k' k a j b
    split at h
    case isFalse => cases h
    rename_i hkj
    subst hkj
    simp at h
    have e1 : x = .int k a := hx.1
    have e2 : y = .int k b := hy.1
    subst e1 e2 h
    cases u <;> simp [tyIs] at hty
    rw [run_equalIn_int w d t k _ a b hu, beq_dec]
  · rename_i a b
    simp at h
    have e1 : x = .bool a := hx.1
    have e2 : y = .bool b := hy.1
    subst e1 e2 h
    cases u <;> simp [tyIs] at hty
    rw [run_equalIn_bool' w d t a b hu]
  · rename_i a b
    simp at h
    have e1 : x = .string a := hx.1
    have e2 : y = .string b := hy.1
    subst e1 e2 h
    cases u <;> simp [tyIs] at hty
    rw [run_equalIn_string w d t a b hu, bytes_dec]
  · cases h
theorem eqFields_ok {w : World} {ρ : Nat → Nat → Option Loc} {r : Bool → Nat → Prop} (d : Nat) (X Y : Array Value) : ∀ (fs : List Field) (ls ms : List LV) (xs ys : List Value) (k : Nat) (b : Bool),
    eqC E (fs.map fun f => (f.type, f.offset)) ls ms = some b → All2 (VC w ρ r) ls xs → All2 (VC w ρ r) ms ys → X.toList.drop k = xs → Y.toList.drop k = ys →
    (∀ j f, fs[j]? = some f → f.offset = k + j ∧ f.name ≠ "_") → (Op.eqFields (d + 1) X Y fs).run E.P w = .ok b w
  | [], ls, ms, _, _, _, b, h, _, _, _, _, _ => by
    cases ls <;> cases ms <;> simp [eqC] at h
    subst h; simp [Op.eqFields]
  | f :: fs, ls, ms, xs, ys, k, b, h, h1, h2, h4, h5, h7 => by
    cases h1 with
    | nil => simp [eqC] at h
    | @cons l x ls xs a1 a2 =>
    cases h2 with
    | nil => simp [eqC] at h
    | @cons m y ms ys b1 b2 =>
    simp only [List.map_cons, eqC] at h
    split at h
    case h_2 => cases h
    rename_i u hu
    split at h
    case h_2 => cases h
    rename_i c b' hc hb'
    simp at h
    obtain ⟨ud, ui, uz, F⟩ := E.facts hu
    obtain ⟨hf1, hf2⟩ := h7 0 f (by simp)
    have hX : X[k]? = some x := by
      have := congrArg (·[0]?) h4
      simpa using this
    have hY : Y[k]? = some y := by
      have := congrArg (·[0]?) h5
      simpa using this
    have hnagg : (isAgg f.type).run E.P w = .ok false w := by
      rw [F.isAgg w]
      have : u.agg = false := by
        unfold eq1 at hc
        unfold TyI.agg
        split at hc <;> simp_all
      rw [this]
    have px : (part f.type X f.offset).run E.P w = .ok x w := by simp [part, hnagg, hf1, hX]
    have py : (part f.type Y f.offset).run E.P w = .ok y w := by simp [part, hnagg, hf1, hY]
    have e3 := eq1_ok (d := d) w a1 b1 hc F.und F.is
    simp only [Op.eqFields, if_pos hf2, Sem.run_bind, px, py, e3, Result.andThen_ok, Sem.run_ite, Sem.run_pure]
    cases c with
    | false => simp at h; simp [h]
    | true =>
      simp at h
      simp only [Bool.not_true, Bool.false_eq_true, if_false]
      refine eqFields_ok d X Y fs ls ms xs ys (k + 1) b (by rw [hb', h]) a2 b2 ?_ ?_ (fun j f' hj => ?_)
      · have := congrArg List.tail h4; simpa using this
      · have := congrArg List.tail h5; simpa using this
      · have := h7 (j + 1) f' (by simpa using hj)
        exact ⟨by omega, this.2⟩
theorem eqo_ok {t : TypeId} (h : E.eqo t = true) : E.P.stoodInHeld t = false ∧ E.P.eqGuardType E.P.depth t = false ∧ ∃ fs, E.P.underlying t = some (.struct fs) ∧ ∀ (j : Nat) (f : Field), fs.toList[j]? = some f → f.offset = j ∧ f.name ≠ "_" := by
  have h := E.eqok t h
  unfold eqChk at h
  simp only [Bool.and_eq_true, Bool.not_eq_true'] at h
  obtain ⟨⟨h1, h2⟩, h3⟩ := h
  refine ⟨h1, h2, ?_⟩
  split at h3
  case h_2 => cases h3
  rename_i fs hfs
  simp only [Bool.and_eq_true, List.all_eq_true] at h3
  refine ⟨fs, hfs, fun j f hj => ?_⟩
  have := h3.1 (f, j) (by
    rw [List.mem_iff_getElem?]
    exact ⟨j, by simp [List.getElem?_zipIdx, hj]⟩)
  simp only [Bool.and_eq_true, beq_iff_eq, bne_iff_ne] at this
  exact ⟨this.1.1.1, this.1.1.2⟩
theorem bin_ok {op : BinOp} {t u : TypeId} {x y : Operand} (ho : o.op = .binOp op t x y u) (h : binF E K st o.dst op t (rd st.tm x) (rd st.tm y)) : OpB E.P B o K st := by
  unfold binF at h
  split at h
  · rename_i k p j q hx hy
    have go : ∀ {r : Value}, fin K st o.dst (.l (.sc r)) → (∀ w, (binOp op t (.int k p) (.int j q)).run E.P w = .ok r w) → OpB E.P B o K st := fun {r} h1 h2 =>
      OpB.val h1 fun a w cx hM ht => ⟨r, bin_run ho a w (by rw [rd_sc ht hx, rd_sc ht hy]; exact eqGuard_int _ _ _ _ _ _ _ _ _) (by rw [rd_sc ht hx, rd_sc ht hy]; exact h2 w), rfl⟩
    split at h
    · have hq : ¬ q < 0 := by omega
      exact go h.2 fun w => by simp [binOp, Op.shift, hq]
    · have hq : ¬ q < 0 := by omega
      exact go h.2 fun w => by simp [binOp, Op.shift, hq]
    · obtain ⟨⟨rfl, hq⟩, h⟩ := h
      exact go h fun w => by simp [binOp, Op.intDiv, hq]
    · obtain ⟨⟨rfl, hq⟩, h⟩ := h
      exact go h fun w => by simp [binOp, Op.intDiv, hq]
    · split at h
      · rename_i b hb
        obtain ⟨rfl, h⟩ := h
        exact go h fun w => (bin_int w).1 b hb
      · rename_i hb hn
        obtain ⟨rfl, h⟩ := h
        exact go h fun w => (bin_int w).2 _ hb hn
      · exact h.elim
  · rename_i p q hx hy
    have go : ∀ {r : Value}, fin K st o.dst (.l (.sc r)) → (∀ w, (binOp op t (.bool p) (.bool q)).run E.P w = .ok r w) → OpB E.P B o K st := fun {r} h1 h2 =>
      OpB.val h1 fun a w cx hM ht => ⟨r, bin_run ho a w (by rw [rd_sc ht hx, rd_sc ht hy]; exact eqGuard_bool _ _ _ _ _ _ _) (by rw [rd_sc ht hx, rd_sc ht hy]; exact h2 w), rfl⟩
    split at h
    · rename_i hT
      obtain ⟨ud, ui, uz, F⟩ := E.facts hT
      have hu := F.is
      cases ud <;> simp [tyIs] at hu
      exact go h fun w => run_eql_bool w t p q F.und
    · rename_i hT
      obtain ⟨ud, ui, uz, F⟩ := E.facts hT
      have hu := F.is
      cases ud <;> simp [tyIs] at hu
      exact go h fun w => run_neq_bool w t p q F.und
    · exact h.elim
  · rename_i p q hx hy
    have go : ∀ {r : Value}, fin K st o.dst (.l (.sc r)) → (∀ w, (binOp op t (.string p) (.string q)).run E.P w = .ok r w) → OpB E.P B o K st := fun {r} h1 h2 =>
      OpB.val h1 fun a w cx hM ht => ⟨r, bin_run ho a w (by rw [rd_sc ht hx, rd_sc ht hy]; exact eqGuard_str _ _ _ _ _ _ _) (by rw [rd_sc ht hx, rd_sc ht hy]; exact h2 w), rfl⟩
    split at h
    · have hq : ¬ ((9223372036854775807 : Int) < ((p.size + q.size : Nat) : Int)) := by omega
      refine go h.2 fun w => ?_
      have : IntKind.i64.max = 9223372036854775807 := rfl
      simp only [binOp, Op.stringOp, this, gt_iff_lt, if_neg hq, Sem.run_pure]
    · exact go h fun w => by simp [binOp, Op.stringOp, bytes_dec]
    · exact go h fun w => by simp [binOp, Op.stringOp, bytes_dec]
    · exact h.elim
  · rename_i xs ys hx hy
    split at h
    case h_2 => exact h.elim
    rename_i fs sz by_ z hT
    obtain ⟨ud, ui, uz, F⟩ := E.facts hT
    have hu := F.is
    cases ud <;> simp [tyIs] at hu
    rename_i fs'
    have main : ∀ b, eqC E fs xs ys = some b → E.eqo t = true → ∀ (a : Act) (w : World) (cx : Cx), MemOk w cx st.ob → (∀ i, VA w cx.ρ (RO w cx st.ob) (st.tm.getD i (.l .dead)) (a.tmps.getD i undef)) →
        ∃ X Y, a.eval x = .agg X ∧ a.eval y = .agg Y ∧ (eqGuard op t x y (.agg X) (.agg Y)).run E.P w = .ok () w ∧ (Op.equalIn 10000 t (.agg X) (.agg Y)).run E.P w = .ok b w := by
      intro b hb he a w cx hM ht
      have p1 := rd_ok ht x
      have p2 := rd_ok ht y
      rw [hx] at p1
      rw [hy] at p2
      obtain ⟨X, e1, v1⟩ := p1
      obtain ⟨Y, e2, v2⟩ := p2
      obtain ⟨g1, g2, fs2, g3, g4⟩ := eqo_ok he
      refine ⟨X, Y, e1, e2, run_eqGuard_agg w op t x y X Y g2, ?_⟩
      have hff : E.P.fieldsOf t = fs2 := by unfold Program.fieldsOf; rw [g3]
      rw [run_equalIn_agg w 9999 t X Y (by rw [hff]; exact g3) g1, hff]
      have hfs : fs2 = fs' := by have := g3.symm.trans F.und; simpa using this
      subst hfs
      refine eqFields_ok (E := E) 9998 X Y fs2.toList xs ys X.toList Y.toList 0 b ?_ v1 v2 rfl rfl (fun j f hj => by have := g4 j f hj; exact ⟨by omega, this.2⟩)
      rw [hu]; exact hb
    split at h
    · rename_i b hb
      refine OpB.val h.2 fun a w cx hM ht => ?_
      obtain ⟨X, Y, e1, e2, e3, e4⟩ := main b hb h.1 a w cx hM ht
      exact ⟨_, bin_run ho a w (by rw [e1, e2]; exact e3) (by rw [e1, e2, run_eql_struct, e4]; rfl), rfl⟩
    · rename_i b hb
      refine OpB.val h.2 fun a w cx hM ht => ?_
      obtain ⟨X, Y, e1, e2, e3, e4⟩ := main b hb h.1 a w cx hM ht
      exact ⟨_, bin_run ho a w (by rw [e1, e2]; exact e3) (by rw [e1, e2, run_neq_struct, e4]; rfl), rfl⟩
    · exact h.elim
  · exact h.elim
end
end Go.Proofs.YtkdkbnacelnljaaGreat.RE
