/- The operations on places, slices and rows of the abstract memory are those of the model. Conditions: those that a theorem names. -/
import Derived.Test.YtkdkbnacelnljaaGreatNRF
set_option linter.unusedVariables false
set_option linter.unusedSimpArgs false
namespace Go.Proofs.YtkdkbnacelnljaaGreat.RE
open Go Go.RowKit

section
variable {E : Env} {B : Base} {K : St → Prop} {st : St} {o : Oper}
theorem RowD.drop {w : World} {r : Nat → Prop} {cs : List DV} {ad : Addr} (h : RowD w r cs ad) (n : Nat) : RowD w r (cs.drop n) (ad.add n) := by
  obtain ⟨hs, us, hu⟩ := h
  obtain ⟨ab, ao, asp⟩ := ad
  obtain rfl : asp = none := hs
  refine ⟨by rw [Addr.add_mid], fun i => us (n + i), fun i hi => ?_⟩
  have := hu (n + i) (by simp at hi; omega)
  rw [Addr.add_mid] at this ⊢
  rw [Addr.add_mid]
  refine ⟨this.1, by rw [show ao + n + i = ao + (n + i) by omega]; exact this.2.1, ?_⟩
  rw [List.getD_eq_getElem?_getD, List.getElem?_drop, ← List.getD_eq_getElem?_getD]
  exact this.2.2
theorem und_eq {P : Program} {t : TypeId} {y : TyI} {u : TypeDesc} {i : TypeInfo} {z : Value} (F : TyF P t y u i z) : (∀ e, y.ty = .sl e → u = .slice e) ∧ (∀ n e, y.ty = .arr n e → u = .array n e) ∧ (y.ty = .str → u = .string) ∧ (∀ k, y.ty = .int k → u = .int k) ∧
    (∀ gs, y.ty = .st gs → ∃ fs, u = .struct fs ∧ fs.toList.map (fun f => (f.type, f.offset)) = gs) := by
  have h := F.is
  refine ⟨fun e he => ?_, fun n e he => ?_, fun he => ?_, fun k he => ?_, fun gs he => ?_⟩ <;> rw [he] at h <;> cases u <;> simp [tyIs] at h
  · rw [h]
  · rw [h.1, h.2]
  · rfl
  · rw [h]
  · exact ⟨_, rfl, h⟩
theorem fa_ok {t : TypeId} {x : Operand} {f : Nat} (ho : o.op = .fieldAddr t x f) (h : faF E K st o.dst t f (rd st.tm x)) : OpB E.P B o K st := by
  unfold faF at h
  split at h
  case h_2 => exact h.elim
  rename_i fs s by_ z hT
  split at h
  case h_2 => exact h.elim
  rename_i ft fo hf
  split at h
  case h_2 => exact h.elim
  rename_i y hy
  obtain ⟨hsz, h⟩ := h
  obtain ⟨u, i, z', F⟩ := E.facts hT
  obtain ⟨fs', rfl, hfs⟩ := (und_eq F).2.2.2.2 _ rfl
  obtain ⟨u2, i2, z2, F2⟩ := E.facts hy
  have hf' : ∃ q : Field, fs'[f]? = some q ∧ q.type = ft ∧ q.offset = fo := by
    rw [← hfs] at hf
    simp only [List.getElem?_map, Option.map_eq_some_iff] at hf
    obtain ⟨q, h1, h2⟩ := hf
    cases h2
    exact ⟨q, by simpa using h1, rfl, rfl⟩
  obtain ⟨q, hq, rfl, rfl⟩ := hf'
  have run : ∀ (w : World) (ad : Addr), (Instr.fieldAt t (.pointer (some ad)) f).run E.P w = .ok (.pointer (some (ad.add q.offset))) w := by
    intro w ad
    have : ¬ y.size = 0 := by omega
    simp [Instr.fieldAt, run_underlying F.und, hq, Instr.sureAddr, fieldPlace, F2.sizeOf w, this]
  split at h
  · rename_i o1 g off hx
    refine OpB.val h fun a w cx hM ht => ?_
    have hp := rd_ok ht x
    rw [hx] at hp
    obtain ⟨l, h1, h2, hm⟩ := hp
    refine ⟨.pointer (some ((⟨l.b, l.o + off, none⟩ : Addr).add q.offset)), by simp [execOp, ho, h2, run], l, h1, ?_, hm⟩
    rw [Addr.add_mid, Nat.add_assoc]
  · rename_i b cs hx
    refine OpB.val h.2 fun a w cx hM ht => ?_
    have hp := rd_ok ht x
    rw [hx] at hp
    obtain ⟨ad, h1, h2⟩ := hp
    exact ⟨_, by simp [execOp, ho, h1, run], _, rfl, h2.drop _⟩
  · exact h.elim
theorem VD.row {w : World} {r : Nat → Prop} {len : Nat} {cs : List DV} {v : Value} (h : VD w r (.dsl len cs) v) : ∃ a cap, v = .slice a len cap ∧ len ≤ cap ∧ cap ≤ maxLen ∧ (0 < cs.length → ∃ ad, a = some ad ∧ RowD w r cs ad) := by
  cases h with
  | dsl len cs a cap us h1 h1' h2 h3 =>
    refine ⟨a, cap, rfl, h1, h1', fun h0 => ?_⟩
    obtain ⟨ad, ha, hs, _⟩ := h2 0 h0
    refine ⟨ad, ha, hs, us, fun i hi => ?_⟩
    obtain ⟨ad', ha', _, hr, hc⟩ := h2 i hi
    rw [ha] at ha'; cases ha'
    exact ⟨hr, hc, h3 i hi⟩
theorem ia_ok {t : TypeId} {x ix : Operand} (ho : o.op = .indexAddr t x ix) (h : iaF E K st o.dst t (rd st.tm x) (rd st.tm ix)) : OpB E.P B o K st := by
  unfold iaF at h
  split at h
  · rename_i b len cs k i hx hi
    split at h
    case h_2 => exact h.elim
    rename_i e _ _ _ hT
    split at h
    case h_2 => exact h.elim
    rename_i y hy
    obtain ⟨h1, h2, h⟩ := h
    obtain ⟨u, _, _, F⟩ := E.facts hT
    obtain rfl := (und_eq F).1 _ rfl
    obtain ⟨_, _, _, F2⟩ := E.facts hy
    refine OpB.val h fun a w cx hM ht => ?_
    have hp := rd_ok ht x
    rw [hx] at hp
    obtain ⟨a', cap, e1, _, _, e2⟩ := VD.row hp
    obtain ⟨ad, rfl, e3⟩ := e2 (by omega)
    refine ⟨_, ?_, _, rfl, e3.drop (i.toNat * y.size)⟩
    simp [execOp, ho, e1, rd_sc ht hi, Instr.indexAt, asIntOf, run_underlying F.und, h1.1, h1.2, F2.sizeOf w]
  · rename_i o1 g sz off len k i hx hi
    split at h
    case h_2 => exact h.elim
    rename_i e _ _ _ hT
    split at h
    case h_2 => exact h.elim
    rename_i y hy
    obtain ⟨h1, rfl, h2, h⟩ := h
    obtain ⟨u, _, _, F⟩ := E.facts hT
    obtain rfl := (und_eq F).1 _ rfl
    obtain ⟨_, _, _, F2⟩ := E.facts hy
    refine OpB.val h fun a w cx hM ht => ?_
    have hp := rd_ok ht x
    rw [hx] at hp
    obtain ⟨l, a', cap, e0, e1, e2, e3, e4, _, hm⟩ := hp
    obtain rfl := e4 (by omega)
    refine ⟨_, ?_, l, e0, rfl, hm⟩
    simp only [execOp, ho, e1, rd_sc ht hi, Instr.indexAt, asIntOf, run_underlying F.und, Sem.run_bind, Sem.run_pure, Result.andThen_ok, h1.1, h1.2, and_self, if_true, F2.sizeOf w, Addr.add_mid, Nat.add_assoc]
  · rename_i o1 g off k i hx hi
    split at h
    case h_2 => exact h.elim
    rename_i n e _ _ _ hT
    split at h
    case h_2 => exact h.elim
    rename_i y hy
    obtain ⟨h1, h⟩ := h
    obtain ⟨u, _, _, F⟩ := E.facts hT
    obtain rfl := (und_eq F).2.1 _ _ rfl
    obtain ⟨_, _, _, F2⟩ := E.facts hy
    refine OpB.val h fun a w cx hM ht => ?_
    have hp := rd_ok ht x
    rw [hx] at hp
    obtain ⟨l, e0, e1, hm⟩ := hp
    refine ⟨_, ?_, l, e0, rfl, hm⟩
    simp only [execOp, ho, e1, rd_sc ht hi, Instr.indexAt, Instr.sureAddr, asIntOf, run_underlying F.und, Sem.run_bind, Sem.run_pure, Result.andThen_ok, h1.1, h1.2, and_self, if_true, F2.sizeOf w, Addr.add_mid, Nat.add_assoc]
  · exact h.elim
theorem len_ok {t : TypeId} {x : Operand} (ho : o.op = .call { callee := .builtin .len, args := #[x], argTypes := #[t] }) (h : lenF E K st o.dst t (rd st.tm x)) : OpB E.P B o K st := by
  unfold lenF at h
  split at h
  · rename_i hT hx
    obtain ⟨u, _, _, F⟩ := E.facts hT
    obtain rfl := (und_eq F).1 _ rfl
    refine OpB.val h fun a w cx hM ht => ?_
    have hp : a.eval x = .slice none 0 0 := by have := rd_ok ht x; rw [hx] at this; exact this
    exact ⟨_, by simp [execOp, ho, resolve, invoke, builtin, Builtin.len_, hp, run_underlying F.und, goInt], rfl⟩
  · rename_i hT hx
    obtain ⟨u, _, _, F⟩ := E.facts hT
    obtain rfl := (und_eq F).1 _ rfl
    refine OpB.val h fun a w cx hM ht => ?_
    have hp := rd_ok ht x
    rw [hx] at hp
    obtain ⟨a', cap, e1, _⟩ := VD.row hp
    exact ⟨_, by simp [execOp, ho, resolve, invoke, builtin, Builtin.len_, e1, run_underlying F.und, goInt], rfl⟩
  · rename_i hT hx
    obtain ⟨u, _, _, F⟩ := E.facts hT
    obtain rfl := (und_eq F).1 _ rfl
    refine OpB.val h fun a w cx hM ht => ?_
    have hp := rd_ok ht x
    rw [hx] at hp
    obtain ⟨l, a', cap, _, e1, _⟩ := hp
    exact ⟨_, by simp [execOp, ho, resolve, invoke, builtin, Builtin.len_, e1, run_underlying F.und, goInt], rfl⟩
  · rename_i hT hx
    obtain ⟨u, _, _, F⟩ := E.facts hT
    obtain rfl := (und_eq F).2.2.1 rfl
    refine OpB.val h fun a w cx hM ht => ⟨_, by simp [execOp, ho, resolve, invoke, builtin, Builtin.len_, rd_sc ht hx, run_underlying F.und, goInt], rfl⟩
  · exact h.elim
theorem ex_ok {x : Operand} {i : Nat} (ho : o.op = .extract x i) (h : exF K st o.dst i (rd st.tm x)) : OpB E.P B o K st := by
  unfold exF at h
  split at h
  case h_2 => exact h.elim
  rename_i ts hx
  split at h
  case h_2 => exact h.elim
  rename_i y hy
  refine OpB.val h fun a w cx hM ht => ?_
  have hp := rd_ok ht x
  rw [hx] at hp
  obtain ⟨vs, e1, e2⟩ := hp
  obtain ⟨v, e3, e4⟩ := e2.get hy
  refine ⟨v, ?_, by cases y <;> exact e4⟩
  have : vs[i]? = some v := by simpa using e3
  simp [execOp, ho, e1, Instr.extract, this]
theorem mm_ok {x y : Operand} {ts : Array TypeId} {mx : Bool} (ho : o.op = .call { callee := .builtin (if mx then .max else .min), args := #[x, y], argTypes := ts }) (h : mmF K st o.dst mx (rd st.tm x) (rd st.tm y)) : OpB E.P B o K st := by
  unfold mmF at h
  split at h
  case h_2 => exact h.elim
  rename_i k p j q hx hy
  refine OpB.val h fun a w cx hM ht => ?_
  cases mx with
  | true => exact ⟨_, by simp [execOp, ho, resolve, invoke, builtin, rd_sc ht hx, rd_sc ht hy, run_max_int2], rfl⟩
  | false => exact ⟨_, by simp [execOp, ho, resolve, invoke, builtin, rd_sc ht hx, rd_sc ht hy, run_min_int2], rfl⟩
theorem mkf_ok {fn : Fn} {first caps : Array Operand} (ho : o.op = .makeFunc fn first caps) (h : mkfF K st o.dst fn (first.toList.map (rd st.tm)) (caps.toList.map (rd st.tm))) : OpB E.P B o K st := by
  unfold mkfF at h
  split at h
  case h_2 => exact h.elim
  rename_i _ _ _ f cs hf hc
  have hfirst : first = #[] := by
    have : first.toList.length = 0 := by have := congrArg List.length hf; simpa using this
    exact Array.eq_empty_of_size_eq_zero (by simpa using this)
  subst hfirst
  refine OpB.val h fun a w cx hM ht => ?_
  refine ⟨.func (.func f) #[] (caps.map a.eval), ?_, _, rfl, ?_⟩
  · simp [execOp, ho, Instr.makeFunc]
  · have : ∀ (l : List Operand) (cs : List (Nat × Nat × Nat)), (l.map (rd st.tm)).mapM (fun x => match x with | .l (.ptr o g off) => some (o, g, off) | _ => none) = some cs → All2 (PtrV cx.ρ) cs (l.map a.eval) := by
      intro l
      induction l with
      | nil => intro cs h; simp at h; subst h; exact .nil
      | cons x l ih =>
        intro cs h
        simp only [List.map_cons, List.mapM_cons, Option.bind_eq_bind, Option.pure_def, Option.bind_eq_some_iff] at h
        obtain ⟨c, h1, cs', h2, h3⟩ := h
        cases h3
        split at h1
        case h_2 => cases h1
        rename_i o1 g off hx
        cases h1
        refine .cons ?_ (ih _ h2)
        have hp := rd_ok ht x
        rw [hx] at hp
        exact hp
    have := this caps.toList cs hc
    simpa using this
end
end Go.Proofs.YtkdkbnacelnljaaGreat.RE
