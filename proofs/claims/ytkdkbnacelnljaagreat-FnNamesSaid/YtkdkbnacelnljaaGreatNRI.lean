/- New rows, conversions and slices of the abstract memory are those of the model. Conditions: those that a theorem names. -/
import Derived.Test.YtkdkbnacelnljaaGreatNRH
import Derived.Laws.Slices
import Derived.Great.BuildSlice
set_option linter.unusedVariables false
set_option linter.unusedSimpArgs false
namespace Go.Proofs.YtkdkbnacelnljaaGreat.RE
open Go Go.RowKit

theorem getElem_bang {z : Array Value} (i : Nat) (h : i < z.size) : z[i]! = z[i] := by simp [h]
/-- Zeros in a row. -/
theorem rows_ok {R : LV → Value → Prop} {zs : List LV} {z : Array Value} (h : All2 R zs z.toList) (hz : 0 < z.size) : ∀ n, All2 R (rowOf n zs) (((Array.range (n * z.size)).map (fun i => z[i % z.size]!)).toList)
  | 0 => by simp [rowOf]; exact .nil
  | n + 1 => by
    have hzl : zs.length = z.size := by rw [h.len]; simp
    refine All2.of (by simp [rowOf, hzl]) fun i a v ha hv => ?_
    have hi : i < (n + 1) * z.size := by have := (List.getElem?_eq_some_iff.1 hv).1; simpa using this
    have hv' : v = z[i % z.size]! := by simp [hi] at hv; exact hv.symm
    have hmod : i % z.size < z.size := Nat.mod_lt _ hz
    have key : ∀ (m : Nat) (i : Nat) (a : LV), (rowOf m zs)[i]? = some a → zs[i % z.size]? = some a := by
      intro m
      induction m with
      | zero => intro i a h; simp [rowOf] at h
      | succ m ih =>
        intro i a h
        simp only [rowOf, List.replicate_succ, List.flatten_cons] at h
        by_cases hlt : i < zs.length
        · rw [List.getElem?_append_left hlt] at h
          rw [Nat.mod_eq_of_lt (by omega)]; exact h
        · rw [List.getElem?_append_right (by omega)] at h
          have := ih (i - zs.length) a h
          rw [hzl] at this
          have e : i = (i - z.size) + z.size := by omega
          rw [e, Nat.add_mod_right]; exact this
    obtain ⟨u, hu, hr⟩ := h.get (key _ _ _ ha)
    have : u = v := by
      rw [hv', getElem_bang _ hmod]
      have h3 : z[i % z.size]? = some u := by simpa using hu
      rw [Array.getElem?_eq_getElem hmod] at h3
      exact (Option.some.inj h3).symm
    rw [← this]; exact hr
section
variable {E : Env} {B : Base} {K : St → Prop} {st : St} {o : Oper}
/-- A new row of so many elements. -/
theorem newRow_ok {w : World} {cx : Cx} {cs : List LV} {c : Array Value} {e sz n : Nat} (hM : MemOk w cx st.ob) (hv : All2 (VC w cx.ρ (RO w cx st.ob)) cs c.toList) (hn : n * sz = c.size) (hm : n ≤ maxLen) :
    ∃ cx', Ext w cx st.ob (w.alloc (.cells c e)) cx' (st.ob ++ [some ⟨0, cs⟩]) ∧ MemOk (w.alloc (.cells c e)) cx' (st.ob ++ [some ⟨0, cs⟩]) ∧
      VA (w.alloc (.cells c e)) cx'.ρ (RO (w.alloc (.cells c e)) cx' (st.ob ++ [some ⟨0, cs⟩])) (.l (.obj st.ob.length 0 sz 0 n)) (.slice (some ⟨w.heap.size, 0, none⟩) n n) := by
  obtain ⟨cx', hE, hM', hρ⟩ := mem_new (e := e) (c := c) hM (Grow.alloc w _ _) (alloc_get w _) c.toList (by rw [List.take_of_length_le (Nat.le_refl _)]) hv
  exact ⟨cx', hE, hM', _, _, n, hρ, rfl, Nat.le_refl _, by show 0 + n * sz ≤ c.size; omega, fun _ => rfl, hm, rfl⟩
theorem mks_ok {t : TypeId} {x y : Operand} (ho : o.op = .makeSlice t x y) (h : mksF E K st o.dst t (rd st.tm x) (rd st.tm y)) : OpB E.P B o K st := by
  unfold mksF at h
  split at h
  case h_2 => exact h.elim
  rename_i _ _ k n j c hx hy
  split at h
  case h_2 => exact h.elim
  rename_i e _ _ _ hT
  split at h
  case h_2 => exact h.elim
  rename_i y' hy'
  obtain ⟨⟨h0, rfl, hb, hm, hsz⟩, hK⟩ := h
  obtain ⟨u, _, _, F⟩ := E.facts hT
  obtain rfl := (und_eq F).1 _ rfl
  obtain ⟨_, i, z, F2⟩ := E.facts hy'
  refine OpB.new hK fun a w cx hM ht => ?_
  have hr := run_make (P := E.P) w t e i z F.und F2.info F2.zero k j n n h0 (Int.le_refl _) (by rw [F2.bytes]; omega) hm
  have hz : z.cells.size = y'.size := F2.zn
  have hrows := rows_ok (dvsAre_ok F2.zs false w cx.ρ (RO w cx st.ob)) (by omega) n.toNat
  have hmc : (madeCells z.cells (n.toNat * i.size)) = (Array.range (n.toNat * z.cells.size)).map (fun i => z.cells[i % z.cells.size]!) := by
    unfold madeCells; rw [F2.size, hz]
  obtain ⟨cx', hE, hM', hv⟩ := newRow_ok (st := st) (e := e) (sz := y'.size) (n := n.toNat) hM hrows (by simp [hz]) (by unfold maxLen; omega)
  refine ⟨_, _, cx', ?_, hE, hM', hv⟩
  simp only [execOp, ho, rd_sc ht hx, rd_sc ht hy, Sem.run_bind, hr, Result.andThen_ok, Sem.run_pure, hmc]
/-- The parts of a literal are laid. -/
theorem fold_set : ∀ (us : List Value) (off k : Nat) (c : Array Value), off + k + us.length ≤ c.size → ((us.zipIdx k).foldl (fun cs (p : Value × Nat) => cs.setIfInBounds (off + p.2) p.1) c).toList = c.toList.take (off + k) ++ us ++ c.toList.drop (off + k + us.length)
  | [], off, k, c, h => by simp
  | u :: us, off, k, c, h => by
    simp only [List.zipIdx_cons, List.foldl_cons]
    rw [fold_set us off (k + 1) _ (by simp at h ⊢; omega)]
    simp only [Array.toList_setIfInBounds]
    have hlt : off + k < c.toList.length := by simp at h ⊢; omega
    have e1 : (c.toList.set (off + k) u).take (off + k + 1) = c.toList.take (off + k) ++ [u] := by
      rw [List.take_set, List.take_succ_eq_append_getElem hlt, List.set_append]
      have hmin : min (off + k) c.size = off + k := by simp at hlt; omega
      simp [hmin]
    have e2 : (c.toList.set (off + k) u).drop (off + k + 1 + us.length) = c.toList.drop (off + k + 1 + us.length) := List.drop_set_of_lt (by omega)
    rw [show off + (k + 1) = off + k + 1 by omega, e1, e2]
    simp
    omega
theorem fill_ok {w : World} {cx : Cx} {a : Act} {tm : List AV} {place : Nat → Option (Nat × Nat)} (ht : ∀ i, VA w cx.ρ (RO w cx st.ob) (tm.getD i (.l .dead)) (a.tmps.getD i undef)) : ∀ (ps : List (Nat × Operand)) (cs cs' : List LV) (c : Array Value),
    fillF place tm cs ps = some cs' → All2 (VC w cx.ρ (RO w cx st.ob)) cs c.toList → ∃ c', Instr.fill place c (ps.map fun p => (p.1, a.eval p.2)) = some c' ∧ All2 (VC w cx.ρ (RO w cx st.ob)) cs' c'.toList ∧ c'.size = c.size
  | [], cs, cs', c, h, hv => by simp [fillF] at h; subst h; exact ⟨c, rfl, hv, rfl⟩
  | (i, x) :: ps, cs, cs', c, h, hv => by
    simp only [fillF] at h
    split at h
    case h_2 => cases h
    rename_i off size vs hp hc
    split at h
    case isFalse => cases h
    rename_i hh
    have hcs := cells_ok (rd_ok ht x) hc
    have hn := hcs.len
    have hvl := hv.len
    simp only [Array.length_toList] at hn hvl
    have hfs := fold_set (a.eval x).cells.toList off 0 c (by simp; omega)
    simp only [Nat.add_zero] at hfs
    have hfs' : ((a.eval x).cells.zipIdx.foldl (fun cs (p : Value × Nat) => cs.setIfInBounds (off + p.2) p.1) c).toList = c.toList.take off ++ (a.eval x).cells.toList ++ c.toList.drop (off + (a.eval x).cells.toList.length) := by
      rw [← hfs, ← Array.foldl_toList]
      simp
    obtain ⟨c', h1, h2, h3⟩ := fill_ok ht ps _ cs' ((a.eval x).cells.zipIdx.foldl (fun cs (p : Value × Nat) => cs.setIfInBounds (off + p.2) p.1) c) h (by
      rw [hfs']
      unfold spl
      rw [show vs.length = (a.eval x).cells.toList.length by simpa using hn]
      exact ((hv.take off).app hcs).app (hv.drop _))
    refine ⟨c', ?_, h2, ?_⟩
    · simp only [List.map_cons, Instr.fill, hp]
      rw [if_neg (by simp; omega)]
      exact h1
    · rw [h3]
      have := congrArg List.length hfs'
      rw [Array.length_toList] at this
      rw [this]
      simp
      omega
theorem plc_ok : ∀ (fs : List Field) (pl : List (Nat × Nat)), plcF E (fs.map fun f => (f.type, f.offset)) = some pl → fs.mapM (fun f => (E.P.info? f.type).map fun i => (f.offset, i.size)) = some pl
  | [], pl, h => by simp [plcF] at h; subst h; simp
  | f :: fs, pl, h => by
    simp only [List.map_cons, plcF] at h
    split at h
    case h_2 => cases h
    rename_i y l hy hl
    cases h
    obtain ⟨u, i, z, F⟩ := E.facts hy
    simp [List.mapM_cons, F.info, plc_ok fs l hl, F.size]
theorem build_ok {t : TypeId} {ps : Array (Nat × Operand)} (ho : o.op = .build t ps) (h : buildF E K st o.dst t ps.toList) : OpB E.P B o K st := by
  unfold buildF at h
  split at h
  case h_3 => exact h.elim
  case h_1 =>
    rename_i fs _ _ z0 hT
    split at h
    case h_2 => exact h.elim
    rename_i pl hpl
    split at h
    case h_2 => exact h.elim
    rename_i cs hc
    obtain ⟨u, i, z, F⟩ := E.facts hT
    obtain ⟨fs', rfl, hfs⟩ := (und_eq F).2.2.2.2 _ rfl
    refine OpB.val h fun a w cx hM ht => ?_
    obtain ⟨c', h1, h2, h3⟩ := fill_ok ht ps.toList _ _ z.cells hc (dvsAre_ok F.zs false w cx.ρ (RO w cx st.ob))
    have hp := plc_ok (E := E) fs'.toList pl (by rw [hfs]; exact hpl)
    refine ⟨.agg c', ?_, c', rfl, h2⟩
    have hr : (Instr.build t (ps.map fun p => (p.1, a.eval p.2))).run E.P w = .ok (.agg c') w := by
      refine run_build w t _ c' ?_
      unfold Program.built
      simp only [F.info, F.und, F.zero, hp]
      rw [← h1]
      simp
    simp only [execOp, ho]
    simp [hr]
  case h_2 =>
    rename_i n e _ _ z0 hT
    split at h
    case h_2 => exact h.elim
    rename_i y hy
    split at h
    case h_2 => exact h.elim
    rename_i cs hc
    obtain ⟨u, i, z, F⟩ := E.facts hT
    obtain rfl := (und_eq F).2.1 _ _ rfl
    obtain ⟨_, i2, z2, F2⟩ := E.facts hy
    refine OpB.val h fun a w cx hM ht => ?_
    obtain ⟨c', h1, h2, h3⟩ := fill_ok ht ps.toList _ _ z.cells hc (dvsAre_ok F.zs false w cx.ρ (RO w cx st.ob))
    refine ⟨.agg c', ?_, c', rfl, h2⟩
    have hr : (Instr.build t (ps.map fun p => (p.1, a.eval p.2))).run E.P w = .ok (.agg c') w := by
      refine run_build w t _ c' ?_
      unfold Program.built
      simp only [F.info, F.und, F.zero, F2.info, F2.size]
      rw [← h1]
      simp
    simp only [execOp, ho]
    simp [hr]
theorem bsl_ok {t : TypeId} {n : Nat} {ps : Array (Nat × Operand)} (ho : o.op = .buildSlice t n ps) (h : bslF E K st o.dst t n ps.toList) : OpB E.P B o K st := by
  unfold bslF at h
  split at h
  case h_2 => exact h.elim
  rename_i e _ _ _ hT
  split at h
  case h_2 => exact h.elim
  rename_i y hy
  split at h
  case h_2 => exact h.elim
  rename_i cs hc
  obtain ⟨⟨hb, hsz⟩, hK⟩ := h
  obtain ⟨u, _, _, F⟩ := E.facts hT
  obtain rfl := (und_eq F).1 _ rfl
  obtain ⟨_, i, z, F2⟩ := E.facts hy
  refine OpB.new hK fun a w cx hM ht => ?_
  have hz : z.cells.size = y.size := F2.zn
  have hrows := rows_ok (dvsAre_ok F2.zs false w cx.ρ (RO w cx st.ob)) (by omega) n
  obtain ⟨c', h1, h2, h3⟩ := fill_ok ht ps.toList _ _ ((Array.range (n * z.cells.size)).map (fun i => z.cells[i % z.cells.size]!)) hc hrows
  have hle : n ≤ n * y.size := Nat.le_mul_of_pos_right _ hsz
  obtain ⟨cx', hE, hM', hv⟩ := newRow_ok (st := st) (e := e) (sz := y.size) (n := n) hM h2 (by rw [h3]; simp [hz]) (by unfold maxLen; omega)
  refine ⟨_, _, cx', ?_, hE, hM', hv⟩
  by_cases h0 : n = 0
  · subst h0
    have h1' : Instr.fill (fun i => some (i * y.size, y.size)) #[] (ps.toList.map fun p => (p.1, a.eval p.2)) = some c' := by
      have e0 : Array.range (0 * z.cells.size) = #[] := by simp [Array.range_zero']
      rw [← h1, e0, Array.map_empty]
    have hr0 : Array.range 0 = #[] := Array.range_zero'
    simp only [execOp, ho]
    simp [Instr.buildSlice, run_underlying F.und, F2.sizeOf w, newRow, hr0, h1']
  · have hr := run_buildSlice (P := E.P) w t e n (ps.map fun p => (p.1, a.eval p.2)) c' i z F.und F2.info F2.zero (by rw [F2.size]; omega) (by
      rw [F2.size]
      exact Nat.ne_of_gt (Nat.mul_pos (by omega) hsz)) (by
      rw [F2.size, ← h1, hz]
      simp)
    simp only [execOp, ho]
    simp [hr]
end
end Go.Proofs.YtkdkbnacelnljaaGreat.RE
