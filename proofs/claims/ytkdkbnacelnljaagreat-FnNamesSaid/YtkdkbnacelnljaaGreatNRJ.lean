/- Slices, parts, conversions and copies of the abstract memory are those of the model; every operation. Conditions: those that a theorem names. -/
import Derived.Test.YtkdkbnacelnljaaGreatNRI
import Derived.Laws.IdiomStrings
set_option linter.unusedVariables false
set_option linter.unusedSimpArgs false
namespace Go.Proofs.YtkdkbnacelnljaaGreat.RE
open Go Go.RowKit

section
variable {E : Env} {B : Base} {K : St → Prop} {st : St} {o : Oper}
theorem bnd_ok {a : Act} {w : World} {cx : Cx} {n : Nat} {lo hi : Option Operand} {p q : Int} (isS : Bool) (cap : Nat) (ht : ∀ i, VA w cx.ρ (RO w cx st.ob) (st.tm.getD i (.l .dead)) (a.tmps.getD i undef))
    (h : bndF n (lo.map (rd st.tm)) (hi.map (rd st.tm)) = some (p, q)) (h0 : 0 ≤ p) (h1 : p ≤ q) (h2 : q ≤ n) (hc : n ≤ cap) :
    (Instr.sliceBounds isS n cap (lo.map a.eval) (hi.map a.eval) none).run E.P w = .ok (p.toNat, q.toNat, cap) w := by
  unfold bndF at h
  split at h
  · rename_i e1 e2
    have l1 : lo = none := by cases lo <;> simp at e1; rfl
    have l2 : hi = none := by cases hi <;> simp at e2; rfl
    subst l1 l2
    simp at h; obtain ⟨rfl, rfl⟩ := h
    simp [Instr.sliceBounds]
  · rename_i k x e1 e2
    have l2 : hi = none := by cases hi <;> simp at e2; rfl
    obtain ⟨lo', rfl, e3⟩ := Option.map_eq_some_iff.1 e1
    subst l2
    simp at h; obtain ⟨rfl, rfl⟩ := h
    simp [Instr.sliceBounds, rd_sc ht e3, Instr.sliceBound, asIntOf, h0, h1]
  · rename_i k x e1 e2
    have l1 : lo = none := by cases lo <;> simp at e1; rfl
    obtain ⟨hi', rfl, e3⟩ := Option.map_eq_some_iff.1 e2
    subst l1
    simp at h; obtain ⟨rfl, rfl⟩ := h
    simp [Instr.sliceBounds, rd_sc ht e3, Instr.sliceBound, asIntOf, show (0 : Int) ≤ x by omega, show x ≤ (cap : Int) by omega]
  · rename_i k x k' x' e1 e2
    obtain ⟨lo', rfl, e3⟩ := Option.map_eq_some_iff.1 e1
    obtain ⟨hi', rfl, e4⟩ := Option.map_eq_some_iff.1 e2
    simp at h; obtain ⟨rfl, rfl⟩ := h
    have e : ((x'.toNat : Nat) : Int) = x' := Int.toNat_of_nonneg (by omega)
    simp [Instr.sliceBounds, rd_sc ht e3, rd_sc ht e4, Instr.sliceBound, asIntOf, h0, h1, show (0 : Int) ≤ x' by omega, show x' ≤ (cap : Int) by omega, e]
  · cases h
theorem sl_ok {t : TypeId} {x : Operand} {lo hi : Option Operand} (ho : o.op = .slice t x lo hi none) (h : slF E K st o.dst t (rd st.tm x) (lo.map (rd st.tm)) (hi.map (rd st.tm))) : OpB E.P B o K st := by
  unfold slF at h
  split at h
  · rename_i s hx
    split at h
    case h_2 => exact h.elim
    rename_i p q hT hb
    obtain ⟨⟨h0, h1, h2⟩, h⟩ := h
    obtain ⟨u, _, _, F⟩ := E.facts hT
    obtain rfl := (und_eq F).2.2.1 rfl
    refine OpB.val h fun a w cx hM ht => ⟨_, ?_, rfl⟩
    have := bnd_ok (E := E) false s.size ht hb h0 h1 h2 (Nat.le_refl _)
    simp [execOp, ho, rd_sc ht hx, Instr.sliceAt, Instr.slice, run_underlying F.und, this]
  · rename_i hx
    split at h
    case h_2 => exact h.elim
    rename_i e _ _ _ p q hT hb
    split at h
    case h_2 => exact h.elim
    rename_i y hy
    obtain ⟨⟨rfl, rfl⟩, h⟩ := h
    obtain ⟨_, _, _, F2⟩ := E.facts hy
    obtain ⟨u, i1, z1, F⟩ := E.facts hT
    obtain rfl := (und_eq F).1 _ rfl
    refine OpB.val h fun a w cx hM ht => ?_
    have es : a.eval x = .slice none 0 0 := by have := rd_ok ht x; rw [hx] at this; exact this
    have := bnd_ok (E := E) true 0 ht hb (Int.le_refl _) (Int.le_refl _) (Int.le_refl _) (Nat.le_refl _)
    exact ⟨.slice none 0 0, by simp [execOp, ho, es, Instr.sliceAt, Instr.slice, run_underlying F.und, this, F2.sizeOf w], rfl⟩
  · rename_i b len cs hx
    split at h
    case h_2 => exact h.elim
    rename_i e _ _ _ p q hT hb
    split at h
    case h_2 => exact h.elim
    rename_i y hy
    obtain ⟨⟨h0, h1, h2⟩, h⟩ := h
    obtain ⟨u, i1, z1, F⟩ := E.facts hT
    obtain rfl := (und_eq F).1 _ rfl
    obtain ⟨_, _, _, F2⟩ := E.facts hy
    refine OpB.val h fun a w cx hM ht => ?_
    have hp := rd_ok ht x
    rw [hx] at hp
    obtain ⟨a', cap, e1, e2, e2', e3⟩ := VD.row hp
    have := bnd_ok (E := E) true cap ht hb h0 h1 h2 e2
    refine ⟨.slice (if cap = p.toNat then a' else a'.map (·.add (p.toNat * y.size))) (q.toNat - p.toNat) (cap - p.toNat), ?_, ?_⟩
    · simp [execOp, ho, e1, Instr.sliceAt, Instr.slice, run_underlying F.und, this, F2.sizeOf w]
    · have eqn : (q - p).toNat = q.toNat - p.toNat := by omega
      show VD w _ (.dsl (q - p).toNat _) _
      rw [eqn]
      by_cases hz : 0 < ((cs.drop (p.toNat * y.size)).take ((q.toNat - p.toNat) * y.size)).length
      · have hcl : 0 < cs.length := by
          rw [List.length_take, List.length_drop] at hz; omega
        obtain ⟨ad, rfl, hr⟩ := e3 hcl
        have hlt : p.toNat < q.toNat := by
          rcases Nat.lt_or_ge p.toNat q.toNat with h' | h'
          · exact h'
          · rw [show q.toNat - p.toNat = 0 by omega] at hz; simp at hz
        rw [if_neg (by omega)]
        obtain ⟨hs, us, hu⟩ := hr.drop (p.toNat * y.size)
        refine .dsl _ _ _ _ us (by omega) (by omega) (fun i hi => ?_) (fun i hi => ?_)
        · have hi' : i < (cs.drop (p.toNat * y.size)).length := by rw [List.length_take] at hi; omega
          exact ⟨_, rfl, hs, (hu i hi').1, (hu i hi').2.1⟩
        · have hi' : i < (cs.drop (p.toNat * y.size)).length := by rw [List.length_take] at hi; omega
          have hi2 : i < (q.toNat - p.toNat) * y.size := by rw [List.length_take] at hi; omega
          have := (hu i hi').2.2
          rw [List.getD_eq_getElem?_getD, List.getElem?_take, if_pos hi2, ← List.getD_eq_getElem?_getD]
          exact this
      · refine .dsl _ _ _ _ (fun _ => undef) (by omega) (by omega) (fun i hi => absurd hi (by omega)) (fun i hi => absurd hi (by omega))
  · rename_i o1 g sz off len hx
    split at h
    case h_2 => exact h.elim
    rename_i e _ _ _ p q hT hb
    split at h
    case h_2 => exact h.elim
    rename_i y hy
    obtain ⟨⟨h0, h1, h2, rfl⟩, h⟩ := h
    obtain ⟨u, i1, z1, F⟩ := E.facts hT
    obtain rfl := (und_eq F).1 _ rfl
    obtain ⟨_, _, _, F2⟩ := E.facts hy
    refine OpB.val h fun a w cx hM ht => ?_
    have hp := rd_ok ht x
    rw [hx] at hp
    obtain ⟨l, a', cap, e0, e1, e2, e3, e4, e5, hmp⟩ := hp
    have := bnd_ok (E := E) true cap ht hb h0 h1 h2 e2
    refine ⟨.slice (if cap = p.toNat then a' else a'.map (·.add (p.toNat * y.size))) (q.toNat - p.toNat) (cap - p.toNat), ?_, ?_⟩
    · simp [execOp, ho, e1, Instr.sliceAt, Instr.slice, run_underlying F.und, this, F2.sizeOf w]
    · have eqn : (q - p).toNat = q.toNat - p.toNat := by omega
      have hmul : (cap - p.toNat) * y.size + p.toNat * y.size = cap * y.size := by
        rw [← Nat.add_mul]; congr 1; omega
      refine ⟨l, _, cap - p.toNat, e0, by rw [eqn], by omega, by omega, fun hc => ?_, by omega, hmp⟩
      have ha := e4 (by omega)
      rw [if_neg (by omega), ha]
      simp [Addr.add_mid, Nat.add_assoc]
  · rename_i o1 g off hx
    split at h
    case h_2 => exact h.elim
    rename_i n e _ _ _ hT
    split at h
    case h_2 => exact h.elim
    rename_i y p q ob hy hb hq
    obtain ⟨⟨h0, h1, h2, hg, hle, hnm⟩, h⟩ := h
    obtain ⟨u, i1, z1, F⟩ := E.facts hT
    obtain rfl := (und_eq F).2.1 _ _ rfl
    obtain ⟨_, _, _, F2⟩ := E.facts hy
    refine OpB.val h fun a w cx hM ht => ?_
    have hp := rd_ok ht x
    rw [hx] at hp
    obtain ⟨_, l, ⟨e0, hmp⟩, e1, hR⟩ := hM.at hq hg hp
    have := bnd_ok (E := E) false n ht hb h0 h1 h2 (Nat.le_refl _)
    refine ⟨.slice (some (if n = p.toNat then ⟨l.b, l.o + off, none⟩ else (⟨l.b, l.o + off, none⟩ : Addr).add (p.toNat * y.size))) (q.toNat - p.toNat) (n - p.toNat), ?_, ?_⟩
    · simp [execOp, ho, e1, Instr.sliceAt, Instr.sureAddr, run_underlying F.und, this, F2.sizeOf w]
    · have eqn : (q - p).toNat = q.toNat - p.toNat := by omega
      have hmul : (n - p.toNat) * y.size + p.toNat * y.size = n * y.size := by
        rw [← Nat.add_mul]; congr 1; omega
      have := hR.1
      refine ⟨l, _, n - p.toNat, by rw [← hg]; exact e0, by rw [eqn], by omega, by omega, fun hc => ?_, by omega, hmp⟩
      rw [if_neg (by omega)]
      simp [Addr.add_mid, Nat.add_assoc]
  · exact h.elim
theorem part_ok {y : TyI} {t : TypeId} {u : TypeDesc} {i : TypeInfo} {z : Value} (F : TyF E.P t y u i z) {w : World} {ρ : Nat → Nat → Option Loc} {r : Bool → Nat → Prop} {off : Nat} {cs : List LV} {vs : Array Value} (hv : All2 (VC w ρ r) cs vs.toList)
    (h : partF K st o.dst y.agg y.size cs off) : ∃ x v, fin K st o.dst x ∧ (part t vs off).run E.P w = .ok v w ∧ VA w ρ r x v := by
  have hlen := hv.len
  unfold partF at h
  by_cases ha : y.agg = true
  · rw [if_pos ha] at h
    obtain ⟨h1, h2⟩ := h
    have hagg := F.isAgg w
    rw [ha] at hagg
    refine ⟨_, .agg (vs.extract off (off + y.size)), h2, by simp [part, hagg, F.sizeOf w], _, rfl, ?_⟩
    rw [Array.toList_extract]
    have := (hv.drop off).take y.size
    simpa [List.extract_eq_take_drop] using this
  · rw [if_neg ha] at h
    obtain ⟨h1, h2⟩ := h
    obtain ⟨v, hv1, hv2⟩ := hv.get (i := off) (a := cs.getD off .dead) (by rw [List.getD_eq_getElem?_getD, List.getElem?_eq_getElem h1]; rfl)
    have hagg := F.isAgg w
    rw [show y.agg = false by simpa using ha] at hagg
    have hv1' : vs[off]? = some v := by simpa using hv1
    exact ⟨_, v, h2, by simp [part, hagg, hv1'], hv2.1⟩
theorem f_ok {t : TypeId} {x : Operand} {f : Nat} (ho : o.op = .field t x f) (h : fF E K st o.dst t f (rd st.tm x)) : OpB E.P B o K st := by
  unfold fF at h
  split at h
  case h_2 => exact h.elim
  rename_i cs hx
  split at h
  case h_2 => exact h.elim
  rename_i fs _ _ _ hT
  split at h
  case h_2 => exact h.elim
  rename_i ft fo hf
  split at h
  case h_2 => exact h.elim
  rename_i y hy
  obtain ⟨u, i, z', F⟩ := E.facts hT
  obtain ⟨fs', rfl, hfs⟩ := (und_eq F).2.2.2.2 _ rfl
  obtain ⟨u2, i2, z2, F2⟩ := E.facts hy
  have hf' : ∃ q : Field, fs'[f]? = some q ∧ q.type = ft ∧ q.offset = fo := by
    rw [← hfs] at hf
    simp only [List.getElem?_map, Option.map_eq_some_iff] at hf
    obtain ⟨q, h1, h2⟩ := hf
    cases h2
    exact ⟨q, by simpa using h1, rfl, rfl⟩
  obtain ⟨q, hq, rfl, rfl⟩ := hf'
  rintro a w Q ⟨cx, hB, hM, hd, hl, ht⟩
  have hp := rd_ok ht x
  rw [hx] at hp
  obtain ⟨vs, hv, hvs⟩ := hp
  obtain ⟨r, v, hK, hr, hv'⟩ := part_ok (E := E) F2 hvs h
  unfold Oper.wp
  have : (execOp a.eval o).run E.P w = .ok (.value v) w := by simp [execOp, ho, hv, Instr.field, run_underlying F.und, hq, asAgg, hr]
  rw [this]
  exact ⟨_, hK, Rel.same hB hM hd hl ht hv'⟩
theorem ix_ok {t : TypeId} {x ix : Operand} (ho : o.op = .index t x ix) (h : ixF E K st o.dst t (rd st.tm x) (rd st.tm ix)) : OpB E.P B o K st := by
  unfold ixF at h
  split at h
  · rename_i s k i hx hi
    split at h
    case h_2 => exact h.elim
    rename_i hT
    obtain ⟨h1, h⟩ := h
    obtain ⟨u, _, _, F⟩ := E.facts hT
    obtain rfl := (und_eq F).2.2.1 rfl
    refine OpB.val h fun a w cx hM ht => ⟨_, ?_, rfl⟩
    have hlt : i.toNat < s.data.size := by have : s.size = s.data.size := rfl; omega
    have hg : s[i.toNat]? = some (s.data.toList.getD i.toNat 0) := by
      rw [List.getD_eq_getElem?_getD, List.getElem?_eq_getElem (by simpa using hlt)]
      simp
      rw [getElem?_pos s i.toNat hlt]
      rfl
    simp [execOp, ho, rd_sc ht hx, rd_sc ht hi, Instr.index, asIntOf, run_underlying F.und, h1.1, hg]
  · rename_i cs k i hx hi
    split at h
    case h_2 => exact h.elim
    rename_i n e _ _ _ hT
    split at h
    case h_2 => exact h.elim
    rename_i y hy
    obtain ⟨h1, h⟩ := h
    obtain ⟨u, _, _, F⟩ := E.facts hT
    obtain rfl := (und_eq F).2.1 _ _ rfl
    obtain ⟨_, _, _, F2⟩ := E.facts hy
    rintro a w Q ⟨cx, hB, hM, hd, hl, ht⟩
    have hp := rd_ok ht x
    rw [hx] at hp
    obtain ⟨vs, hv, hvs⟩ := hp
    obtain ⟨r, v, hK, hr, hv'⟩ := part_ok (E := E) F2 hvs h
    unfold Oper.wp
    have : (execOp a.eval o).run E.P w = .ok (.value v) w := by simp [execOp, ho, hv, rd_sc ht hi, Instr.index, asIntOf, run_underlying F.und, h1.1, h1.2, F2.sizeOf w, hr]
    rw [this]
    exact ⟨_, hK, Rel.same hB hM hd hl ht hv'⟩
  · exact h.elim
end
end Go.Proofs.YtkdkbnacelnljaaGreat.RE
