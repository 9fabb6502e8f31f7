/- Conversions and copies of the abstract memory; every operation of it is that of the model. Conditions: those that a theorem names. -/
import Derived.Test.YtkdkbnacelnljaaGreatNRJ
set_option linter.unusedVariables false
set_option linter.unusedSimpArgs false
namespace Go.Proofs.YtkdkbnacelnljaaGreat.RE
open Go Go.RowKit

theorem foldl_push (ns : List Int) : ∀ s : ByteArray, ns.foldl (fun r n => r.push (UInt8.ofNat n.toNat)) s = ⟨s.data ++ (ns.map fun n => UInt8.ofNat n.toNat).toArray⟩ := by
  induction ns with
  | nil => intro s; simp
  | cons n ns ih => intro s; simp only [List.foldl_cons, ih, List.map_cons]; simp [ByteArray.push]
theorem bytesOf_ok {w : World} {ρ : Nat → Nat → Option Loc} {r : Bool → Nat → Prop} : ∀ {cs : List LV} {us : List Value} {bs : List UInt8}, All2 (VC w ρ r) cs us → bytesOf cs = some bs → ∃ ns : List Int, us = ns.map (Value.int .u8) ∧ bs = ns.map fun n => UInt8.ofNat n.toNat
  | _, _, bs, .nil, h => by simp [bytesOf] at h; exact ⟨[], rfl, by simp [h]⟩
  | c :: cs, u :: us, bs, .cons h1 h2, h => by
    unfold bytesOf at h
    split at h
    · rename_i heq; cases heq
    · rename_i n r' heq
      cases heq
      obtain ⟨bs', h3, h4⟩ := Option.map_eq_some_iff.1 h
      obtain ⟨ns, h5, h6⟩ := bytesOf_ok h2 h3
      have : u = .int .u8 n := h1.1
      exact ⟨n :: ns, by rw [this, h5]; rfl, by rw [← h4, h6]; rfl⟩
    · cases h
section
variable {E : Env} {B : Base} {K : St → Prop} {st : St} {o : Oper}
theorem conv_ok {s t : TypeId} {x : Operand} (ho : o.op = .convert s t x) (h : convF E K st o.dst s t (rd st.tm x)) : OpB E.P B o K st := by
  unfold convF at h
  split at h
  · rename_i k n hx
    split at h
    case h_2 => exact h.elim
    rename_i _ _ _ _ k' _ _ _ hS hT
    obtain ⟨u, _, _, F⟩ := E.facts hS
    obtain rfl := (und_eq F).2.2.2.1 _ rfl
    obtain ⟨u2, _, _, F2⟩ := E.facts hT
    obtain rfl := (und_eq F2).2.2.2.1 _ rfl
    exact OpB.val h fun a w cx hM ht => ⟨_, by simp [execOp, ho, rd_sc ht hx, convert, run_underlying F.und, run_underlying F2.und, Conv.intToInt], rfl⟩
  · rename_i p hx
    split at h
    · rename_i e _ _ _ hS hT
      split at h
      case h_2 => exact h.elim
      rename_i hE
      obtain ⟨hm, hK⟩ := h
      obtain ⟨u, _, _, F⟩ := E.facts hS
      obtain rfl := (und_eq F).2.2.1 rfl
      obtain ⟨u2, _, _, F2⟩ := E.facts hT
      obtain rfl := (und_eq F2).1 _ rfl
      obtain ⟨u3, _, _, F3⟩ := E.facts hE
      obtain rfl := (und_eq F3).2.2.2.1 _ rfl
      refine OpB.new hK fun a w cx hM ht => ?_
      have hr := Lib.run_convert_string_bytes (P := E.P) w s t e p F.und F2.und F3.und
      have hge : p.size ≤ (Lib.bytesCells w e p).size := by simp [Lib.bytesCells]
      have hcap : (Lib.bytesCells w e p).size = grownCap w p.size 0 e := by
        have := grownCap_ge w p.size 0 e
        simp [Lib.bytesCells]; show p.size + _ = _; omega
      have hnew := Lib.bytesWorld_at_new w e p
      have hth : (Lib.bytesWorld w e p).there w.heap.size 0 (Lib.bytesCells w e p).size := fun j hj => by
        refine ⟨by simp [World.cell?, hnew, hj], by simp [World.frozen?, hnew]; omega⟩
      have hra : (Lib.bytesWorld w e p).rangeAt w.heap.size 0 (p.data.toList.map fun b => Value.int .u8 b.toNat) := fun j v hj => by
        have hj' : j < p.size := by have := (List.getElem?_eq_some_iff.1 hj).1; simpa using this
        have := Lib.bytesWorld_cell w e p j hj'
        rw [Nat.zero_add, this]
        simp only [List.getElem?_map, Option.map_eq_some_iff] at hj
        obtain ⟨b, h1, h2⟩ := hj
        rw [List.getD_eq_getElem?_getD, h1, ← h2]; rfl
      obtain ⟨cx', hE', hM', hρ⟩ := mem_put (w' := Lib.bytesWorld w e p) (ob' := st.ob ++ [some ⟨0, strOf p⟩]) (o := st.ob.length) (x := ⟨0, strOf p⟩) (l := ⟨w.heap.size, 0, (Lib.bytesCells w e p).size, false⟩) hM (by simp) (app_old _) (fun g _ => hM.top _ _ (Nat.le_refl _)) (by simp)
        ⟨rfl, rfl, rfl, by rw [Lib.bytesWorld_size]; omega, fun b hb _ => Lib.bytesWorld_at_old w e p b hb⟩ (fun _ => .inl (Nat.le_refl _)) hth hra (by
          unfold strOf
          refine All2.of (by simp) fun i a v ha hv => ?_
          simp only [List.getElem?_map, Option.map_eq_some_iff] at ha hv
          obtain ⟨b, h1, h2⟩ := ha
          obtain ⟨b', h3, h4⟩ := hv
          rw [h1] at h3; cases h3
          subst h2 h4
          exact ⟨rfl, rfl⟩) (by simp [strOf]; exact hge)
      refine ⟨_, _, cx', by simp [execOp, ho, rd_sc ht hx, hr], hE', hM', ⟨w.heap.size, 0, (Lib.bytesCells w e p).size, false⟩, some ⟨w.heap.size, 0, none⟩, grownCap w p.size 0 e, hρ, rfl, by omega, by show 0 + grownCap w p.size 0 e * 1 ≤ (Lib.bytesCells w e p).size; omega, fun _ => rfl, grownCap_le_maxLen w p.size 0 e hm, rfl⟩
    · rename_i hS hT
      obtain ⟨u, _, _, F⟩ := E.facts hS
      obtain rfl := (und_eq F).2.2.1 rfl
      obtain ⟨u2, _, _, F2⟩ := E.facts hT
      obtain rfl := (und_eq F2).2.2.1 rfl
      exact OpB.val h fun a w cx hM ht => ⟨_, by simp [execOp, ho, rd_sc ht hx, convert, run_underlying F.und, run_underlying F2.und], rfl⟩
    · exact h.elim
  · rename_i x0 h1 h2
    split at h
    case h_2 => exact h.elim
    rename_i e _ _ _ _ _ _ n cs hS hT hsrc
    split at h
    case h_2 => exact h.elim
    rename_i bs hE hb
    obtain ⟨u, _, _, F⟩ := E.facts hS
    obtain rfl := (und_eq F).1 _ rfl
    obtain ⟨u2, _, _, F2⟩ := E.facts hT
    obtain rfl := (und_eq F2).2.2.1 rfl
    obtain ⟨u3, _, _, F3⟩ := E.facts hE
    obtain rfl := (und_eq F3).2.2.2.1 _ rfl
    refine OpB.val h fun a w cx hM ht => ?_
    obtain ⟨hl, ax, c, us, ex, hmc, hus, hc⟩ := src_ok hM (rd_ok ht x) hsrc
    obtain ⟨ns, hns, hbs⟩ := bytesOf_ok hus hb
    have hul := hus.len
    have hnl : ns.length = n := by rw [hns] at hul; simp at hul; omega
    refine ⟨.string ⟨bs.toArray⟩, ?_, rfl⟩
    have hload : (Conv.bytesToString (.slice ax n c)).run E.P w = .ok (.string ⟨bs.toArray⟩) w := by
      cases ax with
      | none =>
        have : n = 0 := by
          rcases Nat.eq_zero_or_pos n with h0 | h0
          · exact h0
          · obtain ⟨ad, h3, _⟩ := hc (by omega) h0; cases h3
        subst this
        have : ns = [] := List.eq_nil_of_length_eq_zero hnl
        subst this
        simp [Conv.bytesToString, hbs]
        rfl
      | some ad =>
        have hl2 : (loadCells ad n).run E.P w = .ok (ns.map (Value.int .u8)).toArray w := by
          have : us.length = n := by rw [hns]; simp [hnl]
          rw [← this]
          rw [← hns]
          refine run_loadCells_list (P := E.P) w ad us fun j v hj => ?_
          have hj' := (List.getElem?_eq_some_iff.1 hj).1
          obtain ⟨ad', h3, h4⟩ := hc (by omega) (by omega)
          cases h3
          exact h4 j v hj
        rw [run_bytesToString w ad n c ns hl2, foldl_push, hbs]
        have he0 : ByteArray.empty.data = #[] := rfl
        rw [he0, Array.empty_append]
    have : (convert s t (.slice ax n c)).run E.P w = .ok (.string ⟨bs.toArray⟩) w := by
      simp [convert, run_underlying F.und, run_underlying F2.und, run_underlying F3.und, hload]
    simp [execOp, ho, ex, this]
theorem cpy_ok {t t' : TypeId} {x y : Operand} (ho : o.op = .call { callee := .builtin .copy, args := #[x, y], argTypes := #[t, t'] }) (h : cpyF E K st o.dst t (rd st.tm x) (rd st.tm y)) : OpB E.P B o K st := by
  unfold cpyF at h
  split at h
  case h_2 => exact h.elim
  rename_i e _ _ _ o1 g sz off n hT hx
  split at h
  case h_2 => exact h.elim
  rename_i _ _ _ m xs q hE hsrc hq
  obtain ⟨⟨hg, rfl, hle⟩, hK⟩ := h
  obtain ⟨u, _, _, F⟩ := E.facts hT
  obtain rfl := (und_eq F).1 _ rfl
  obtain ⟨u3, _, _, F3⟩ := E.facts hE
  refine OpB.new hK fun a w cx hM ht => ?_
  obtain ⟨hl, ax, c, us, ex, hmc, hus, hc⟩ := src_ok hM (rd_ok ht y) hsrc
  have hv := rd_ok ht x
  rw [hx] at hv
  obtain ⟨l, as, cap, h1, es, h2, h3, h4, _, hmp⟩ := hv
  have h5 : st.ob[o1]? = some (some q) := by
    rw [List.getD_eq_getElem?_getD] at hq
    cases h : st.ob[o1]? with
    | none => rw [h] at hq; simp at hq
    | some p => rw [h] at hq; simp at hq; rw [hq]
  obtain ⟨l', h6, hR⟩ := hM.rep o1 q h5
  have hul := hus.len
  rw [hg, h1] at h6; simp at h6; subst h6
  have hR := hR.row hmp
  by_cases h0 : Nat.min m n = 0
  · have hr := run_copy_none (P := E.P) w t t' o.type e as ax n cap m c F.und (by rw [F3.map_size]) h0
    refine ⟨goInt 0, w, cx, by simp [execOp, ho, resolve, invoke, builtin, es, ex, hr], ?_, ?_, ?_⟩
    all_goals
      have e0 : spl q.cs off (xs.take (Nat.min m n)) = q.cs := by rw [h0]; simp [spl]
      have e1 : st.ob.set o1 (some ⟨g, q.cs⟩) = st.ob := by
        rw [← hg]
        apply List.ext_getElem?
        intro j
        by_cases hj : j = o1
        · subst hj; rw [List.getElem?_set_self (List.getElem?_eq_some_iff.1 h5).1, h5]
        · rw [List.getElem?_set_ne (Ne.symm hj)]
      rw [e0, e1]
    · exact Ext.refl _ _ _
    · exact hM
    · rw [h0]; rfl
  · have hmn : Nat.min m n ≤ m ∧ Nat.min m n ≤ n := ⟨Nat.min_le_left _ _, Nat.min_le_right _ _⟩
    obtain ⟨ad, rfl, hcc⟩ := hc (by omega) (by omega)
    obtain rfl := h4 (by omega)
    have htl : (us.take (Nat.min m n)).length = Nat.min m n := by rw [List.length_take]; omega
    have hxt := hus.take (Nat.min m n)
    have th : w.there l.b (l.o + off) (us.take (Nat.min m n)).length := fun j hj => by
      have := hR.2.1 (off + j) (by have := hR.1; omega)
      rwa [← Nat.add_assoc] at this
    have hr := run_copy_cells (P := E.P) w t t' o.type e l.b (l.o + off) n cap ad m c (us.take (Nat.min m n)) F.und (by rw [F3.map_size]) htl
      (fun j v hj => hcc j v (by rw [List.getElem?_take] at hj; split at hj; exact hj; cases hj)) (fun j hj => (th j hj).1) (fun j hj => (th j hj).2)
      (fun u hu => by
        obtain ⟨j, hj⟩ := List.getElem?_of_mem hu
        obtain ⟨_, _, h⟩ := hxt.get' hj
        exact h.2)
    have hxl := hxt.len
    have hw := ObRep.write hM h5 (by rw [hg]; exact h1) hmp hR off hxt (by rw [hxl, htl]; omega) (by omega)
    rw [hg] at hw
    exact ⟨goInt (us.take (Nat.min m n)).length, _, cx, by simp only [execOp, ho, resolve, invoke, builtin, Sem.run_bind, Sem.run_pure, Result.andThen_ok, List.map_toArray, List.map_cons, List.map_nil, es, ex, hr], hw.1, hw.2, by rw [htl]; rfl⟩
theorem call_ok {f : Operand} {args : Array Operand} {ts : Array TypeId} (ho : o.op = .call { callee := .value f, args := args, argTypes := ts }) (h : callF E K st o.dst (rd st.tm f) (args.toList.map (rd st.tm))) : OpB E.P B o K st := by
  unfold callF at h
  split at h
  case h_2 => exact h.elim
  rename_i fid caps hf
  obtain ⟨hgo, hK⟩ := h
  have hgo := E.gok fid hgo
  rintro a w Q ⟨cx, hB, hM, hd, hl, ht⟩
  have hp := rd_ok ht f
  rw [hf] at hp
  obtain ⟨vs, e1, e2⟩ := hp
  unfold goB at hgo
  split at hgo
  case h_2 => cases hgo
  rename_i fn hfn
  simp only [Bool.and_eq_true, Bool.not_eq_true', beq_eq_false_iff_ne, ne_eq] at hgo
  obtain ⟨bd, hbd⟩ : ∃ bd, fn.body = some bd := Option.isSome_iff_exists.1 hgo.1
  have hrun : (execOp a.eval o).run E.P w = .ok (.enter fid (args.map a.eval ++ vs)) w := by
    simp [execOp, ho, resolve, e1, Deferred.ofValue, invoke, callFunc, hfn, hgo.2, hbd]
  unfold Oper.wp
  rw [hrun]
  show Calls E.P fid (args.map a.eval ++ vs) w _
  have hargs : All2 (VA w cx.ρ (RO w cx st.ob)) (args.toList.map (rd st.tm) ++ caps.map fun c => .l (.ptr c.1 c.2.1 c.2.2)) (args.map a.eval ++ vs).toList := by
    rw [Array.toList_append, Array.toList_map]
    refine All2.app ?_ (All2.map_l (f := fun c : Nat × Nat × Nat => AV.l (.ptr c.1 c.2.1 c.2.2)) (e2.imp fun c u h => (h : PtrV cx.ρ (c.1, c.2.1, c.2.2) u)))
    generalize args.toList = l
    induction l with
    | nil => exact .nil
    | cons x l ih => exact .cons (rd_ok ht x) ih
  have := hK w cx _ hM hargs
  simp only [Array.toArray_toList] at this
  refine this.mono fun e w' ⟨v, r, ob', cx', he, hq, hE, hM', hv⟩ => ?_
  subst he
  exact ⟨_, hq, Rel.step hB hM hd hl ht hE hM' hv⟩
theorem app2_ok {t u : TypeId} {s x : Operand} (ho : o.op = .call { callee := .builtin .append, args := #[s, x], argTypes := #[t, u] }) (h : if t = u then appF E K st o.dst t (rd st.tm s) (rd st.tm x) else False) : OpB E.P B o K st := by
  by_cases hu : t = u
  · subst hu
    rw [if_pos rfl] at h
    exact app_ok ho h
  · rw [if_neg hu] at h
    exact h.elim
theorem mkm_ok {t : TypeId} (ho : o.op = .makeMap t none) (h : mkmF K st o.dst) : OpB E.P B o K st :=
  OpB.new h fun a w cx hM ht => by
    obtain ⟨cx', hE, hM', hρ⟩ := mem_newM (es := #[]) (clock := 0) hM
    exact ⟨.map (some w.heap.size), _, cx', by simp [execOp, ho, run_makeMap], hE, hM', _, hρ, rfl, rfl⟩
theorem MemOk.atM {w : World} {cx : Cx} {ob : Obs} (hM : MemOk w cx ob) {o g g' : Nat} {es : Array MapEntry} {clock : Nat} (hx : ob.getD o none = some ⟨g', [.mpc es clock]⟩) (hg : g' = g) {v : Value} (hv : VL w cx.ρ (RO w cx ob) (.mp o g) v) :
    ob[o]? = some (some ⟨g', [.mpc es clock]⟩) ∧ ∃ l, (cx.ρ o g' = some l ∧ l.mp = true ∧ l.room = 1) ∧ v = .map (some l.b) ∧ w.heap[l.b]? = some (.map es clock) := by
  subst hg
  have h1 : ob[o]? = some (some ⟨g', [.mpc es clock]⟩) := by
    rw [List.getD_eq_getElem?_getD] at hx
    cases h : ob[o]? with
    | none => rw [h] at hx; simp at hx
    | some q => rw [h] at hx; simp at hx; rw [hx]
  obtain ⟨l, h2, h3, hm⟩ := hv
  obtain ⟨l', h4, h5⟩ := hM.rep o _ h1
  rw [h2] at h4; simp at h4; subst h4
  obtain ⟨h6, es', clock', h7, h8⟩ := h5.map hm
  simp at h7
  obtain ⟨rfl, rfl⟩ := h7
  exact ⟨h1, l, ⟨h2, hm, h6⟩, h3, h8⟩
theorem look_ok {t : TypeId} {m x : Operand} (ho : o.op = .lookup t m x false) (h : lookF E K st o.dst t (rd st.tm m) (rd st.tm x)) : OpB E.P B o K st := by
  unfold lookF at h
  split at h
  case h_2 => exact h.elim
  rename_i o1 g s hm hx
  split at h
  case h_2 => exact h.elim
  rename_i g' es clock hq
  obtain ⟨⟨hg, hs⟩, n, f, ⟨k, e, h1, h2, h3, h4, D, h5, h6, h7⟩, hK⟩ := h
  refine OpB.val hK fun a w cx hM ht => ?_
  have hp := rd_ok ht m
  rw [hm] at hp
  obtain ⟨_, l, _, hv, hb⟩ := hM.atM hq hg hp
  obtain ⟨c, hrun, hat, _⟩ := (h5 w l.b hb).lookup_int (Go.Maps.string_keyed h2) h1 h3 (h4 w) (Go.WideMaps.keyOf_string_mk h2 hs)
  have hc : f s = c := by
    have := (h7 s hs).symm.trans hat
    simpa using this
  exact ⟨.int .i64 c, by simp [execOp, ho, hv, rd_sc ht hx, hrun], by rw [hc]; rfl⟩
theorem mup_ok {t : TypeId} {m x y : Operand} (ho : o.op = .mapUpdate t m x y) (h : mupF E K st o.dst t (rd st.tm m) (rd st.tm x) (rd st.tm y)) : OpB E.P B o K st := by
  unfold mupF at h
  split at h
  case h_2 => exact h.elim
  rename_i o1 g s v hm hx hy
  split at h
  case h_2 => exact h.elim
  rename_i g' es clock hq
  obtain ⟨⟨hg, hs⟩, n, f, ⟨k, e, h1, h2, h3, h4, D, h5, h6, h7⟩, ⟨hn, hwf⟩, hK⟩ := h
  rintro a w Q ⟨cx, hB, hM, hd, hl, ht⟩
  have hp := rd_ok ht m
  rw [hm] at hp
  obtain ⟨a1, l, ⟨a2, a3, a4⟩, hv, hb⟩ := hM.atM hq hg hp
  have hkey : keyOf E.P k (.string s) = some (.string s.data.toList) := Go.WideMaps.keyOf_string_mk h2 hs
  obtain ⟨w', hrun, ⟨es', clock', b1, b2, b3, b4⟩, hgr⟩ := (h5 w l.b hb).update (Go.Maps.string_keyed h2) h1 hn hkey (plainElem_int h3 hwf)
  have hS : MapS E.P t es' clock' (n + 1) (fun x => if x = s then v else f x) := by
    refine ⟨k, e, h1, h2, h3, h4, _, fun w2 b hb2 => ⟨es', clock', hb2, b2, b3, b4⟩, h6.put _ _, fun z hz => ?_⟩
    show _ = DataW.lit (Lit.int IntKind.i64 (if z = s then v else f z))
    by_cases hzs : z = s
    · rw [hzs, Go.Maps.atKey_put_same h6 (by trivial), if_pos rfl]
    · rw [if_neg hzs, ← h7 z hz]
      refine Go.Maps.atKey_put_other (fun he => hzs ?_) _ _
      cases z; cases s
      simp at he
      rw [he]
  obtain ⟨hE, hM'⟩ := mem_setG (cs := [.mpc es' clock']) hM a1 a2 ⟨hgr.os, hgr.tape, hgr.output, hgr.size, fun b hb' hne => hgr.block b hb' (fun e => hne ⟨by omega, by simpa using e⟩)⟩ (fun _ => .inr ⟨a3, a4, es', clock', rfl, b1⟩)
  unfold Oper.wp
  simp only [execOp, ho, hv, rd_sc ht hx, rd_sc ht hy, Sem.run_bind, hrun, Result.andThen_ok, Sem.run_pure]
  exact ⟨_, hK es' clock' hS, Rel.step hB hM hd hl ht hE hM' trivial⟩
theorem opF_ok (h : opF E o K st) : OpB E.P B o K st := by
  unfold opF at h
  split at h
  all_goals first
    | exact h.elim
    | (rename_i ho; first | exact move_ok (.inl ho) h | exact move_ok (.inr ho) h | exact pick_ok ho h | exact alloc_ok ho h | exact box_ok ho h | exact build_ok ho h | exact bsl_ok ho h | exact load_ok ho h | exact store_ok ho h | exact nil_ok ho h | exact bin_ok ho h | exact un_ok ho h | exact conv_ok ho h | exact mkf_ok ho h | exact mks_ok ho h | exact sl_ok ho h | exact fa_ok ho h | exact f_ok ho h | exact ia_ok ho h | exact ix_ok ho h | exact ex_ok ho h | exact call_ok ho h | exact len_ok ho h | exact mm_ok (mx := true) ho h | exact mm_ok (mx := false) ho h | exact cpy_ok ho h | exact mkm_ok ho h | exact look_ok ho h | exact mup_ok ho h)
    | (rename_i ho; exact app2_ok ho h)
end
end Go.Proofs.YtkdkbnacelnljaaGreat.RE
