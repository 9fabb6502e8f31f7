/- Regions that draw their order: the rule. Conditions: those that a theorem names. -/
import Derived.Test.YtkdkbnacelnljaaGreatNRP
set_option linter.unusedVariables false
set_option linter.unusedSimpArgs false
namespace Go.Proofs.YtkdkbnacelnljaaGreat.RE
open Go Go.RowKit

/-- One operation of a region, its guard looked at. -/
def opG (E : Env) (ops : Array Oper) (o : Oper) (K : St → Prop) (st : St) : Prop := match o.guard with
  | none => opF E o K st
  | some (j, want) => match (ops[j]?).bind (·.dst) with
    | some t => ∃ b : Option Bool, st.tm.getD t (.l .dead) = gA b ∧ (b = some want → opF E o K st) ∧ (b ≠ some want → fin K st o.dst uA)
    | none => False
/-- .. where the rows of D must stay as they are. -/
def opH (E : Env) (ops : Array Oper) (D : List Nat) (dd : Bool) (o : Oper) (K : St → Prop) (st : St) : Prop :=
  if dd then opG E ops o (fun s => sameD D st.ob s.ob ∧ K s) st else opG E ops o K st
/-- Whatever order is picked. -/
def anyG (E : Env) (ops : Array Oper) (D : List Nat) (DD : Nat → Bool) (K : St → Prop) : Nat → Array Bool → St → Prop
  | 0, listed, st => Region.ready .any ops listed = [] ∧ K st
  | fuel + 1, listed, st => (Region.ready .any ops listed = [] → K st) ∧ ∀ i ∈ Region.ready .any ops listed, ∃ o, ops[i]? = some o ∧ opH E ops D (DD i) o (anyG E ops D DD K fuel (listed.setIfInBounds i true)) st

section
variable {E : Env} {ops : Array Oper} {D : List Nat} {DD : Nat → Bool} {K K2 : St → Prop} {st : St} {o : Oper} {B : Base}
theorem opF_mono (h : opF E o K st) (hK : ∀ s, K s → K2 s) : opF E o K2 st := by
  by_cases hp : plainOp o.op = true
  · obtain ⟨v, ob', h1, h2⟩ := opF_det hp h
    exact h2 st K2 (fun _ _ => rfl) rfl (hK _ h1)
  · obtain ⟨dst, op, type, pos, after, guard⟩ := o
    cases op <;> simp [plainOp] at hp
    case mapUpdate t m x y =>
      unfold opF mupF at h ⊢
      simp only at h ⊢
      split at h
      case h_2 => exact h.elim
      split at h
      case h_2 => exact h.elim
      obtain ⟨h1, n, f, h2, h3, h4⟩ := h
      exact ⟨h1, n, f, h2, h3, fun es' clock' hS => hK _ (h4 es' clock' hS)⟩
    rename_i c
    obtain ⟨callee, args, ts⟩ := c
    cases callee <;> simp at hp
    unfold opF callF at h ⊢
    simp only at h ⊢
    split at h
    case h_2 => exact h.elim
    refine ⟨h.1, fun w cx vs hM hv => (h.2 w cx vs hM hv).mono fun e w' ⟨v, r, ob', cx', h1, h2, h3⟩ => ⟨v, r, ob', cx', h1, hK _ h2, h3⟩⟩
theorem opG_mono (h : opG E ops o K st) (hK : ∀ s, K s → K2 s) : opG E ops o K2 st := by
  unfold opG at *
  split at h
  · exact opF_mono h hK
  · split at h
    case h_2 => exact h.elim
    obtain ⟨b, h1, h2, h3⟩ := h
    exact ⟨b, h1, fun e => opF_mono (h2 e) hK, fun e => hK _ (h3 e)⟩
theorem opH_mono {dd : Bool} (h : opH E ops D dd o K st) (hK : ∀ s, K s → K2 s) : opH E ops D dd o K2 st := by
  unfold opH at *
  split
  · rename_i hd; rw [if_pos hd] at h; exact opG_mono h fun s hs => ⟨hs.1, hK s hs.2⟩
  · rename_i hd; rw [if_neg hd] at h; exact opG_mono h hK
theorem opG_ok (h : opG E ops o K st) {Q' : Exit → Act → World → Prop} {a : Act} {w : World} (hr : Rel B st a w) {i : Nat} (hi : ops[i]? = some o) : wpOp E.P ops Q' i (fun a' w' => ∃ s, K s ∧ Rel B s a' w') a w := by
  unfold wpOp
  simp only [hi]
  unfold opG at h
  cases hg : o.guard with
  | none =>
    rw [hg] at h
    rw [if_pos (by simp [Region.wanted, hg])]
    exact .inl (opF_ok (B := B) h a w Q' hr)
  | some gw =>
    obtain ⟨j, want⟩ := gw
    rw [hg] at h
    simp only at h
    split at h
    case h_2 => exact h.elim
    rename_i t htt
    obtain ⟨b, hb, h1, h2⟩ := h
    obtain ⟨cx, hB, hM, hd, hl, htm⟩ := hr
    have hv := htm t
    rw [hb] at hv
    have hy : yielded ops a.tmps j = b := gA_yield htt (gA_val hv)
    have hw : Region.wanted o (yielded ops a.tmps) = (b == some want) := by simp [Region.wanted, hg, hy]
    have hr : Rel B st a w := ⟨cx, hB, hM, hd, hl, htm⟩
    by_cases hbw : b = some want
    · subst hbw
      rw [if_pos (by rw [hw]; simp)]
      exact .inl (opF_ok (B := B) (h1 rfl) a w Q' hr)
    · rw [if_neg (by rw [hw]; simpa using hbw)]
      exact ⟨_, h2 hbw, Rel.same hB hM hd hl htm (r := uA) (v := undef) rfl⟩
theorem opH_G {dd : Bool} (h : opH E ops D dd o K st) : opG E ops o K st := by
  unfold opH at h
  split at h
  · exact opG_mono h fun s hs => hs.2
  · exact h
theorem anyG_ok {Q' : Exit → Act → World → Prop} (hK : ∀ s, K s → ∀ a w, Rel B s a w → Q' .normal a w) : ∀ (fuel : Nat) (listed : Array Bool) (st : St) (a : Act) (w : World), anyG E ops D DD K fuel listed st → Rel B st a w → wpAny E.P .any ops Q' fuel listed a w
  | 0, listed, st, a, w, h, hr => ⟨h.1, hK st h.2 a w hr⟩
  | fuel + 1, listed, st, a, w, h, hr => ⟨fun h0 => hK st (h.1 h0) a w hr, fun i hi => by
      obtain ⟨o, ho, h1⟩ := h.2 i hi
      exact wpOp_mono (fun a' w' ⟨s, hs, hr'⟩ => anyG_ok hK fuel _ s a' w' hs hr') (opG_ok (opH_G h1) hr ho)⟩

/-- What an operation looks at, its guard's temporary too. -/
def agree (ops : Array Oper) (D : List Nat) (o : Oper) (st st2 : St) : Prop := (∀ d ∈ o.looksAt ops, st2.tm.getD d (.l .dead) = st.tm.getD d (.l .dead)) ∧ sameD D st.ob st2.ob
/-- The operation answers v, in every state that is the same where it looks. -/
def Yld (E : Env) (ops : Array Oper) (D : List Nat) (o : Oper) (v : AV) (st : St) : Prop :=
  ∀ (st2 : St) (K' : St → Prop), agree ops D o st st2 → fin K' st2 o.dst v → opG E ops o K' st2
theorem rd_looks {st2 : St} (h : ∀ d ∈ o.looksAt ops, st2.tm.getD d (.l .dead) = st.tm.getD d (.l .dead)) : ∀ x ∈ o.op.operands, rd st2.tm x = rd st.tm x := by
  intro x hx
  cases x with
  | tmp t => exact h t (List.mem_append_left _ (List.mem_filterMap.2 ⟨.tmp t, by simpa using hx, rfl⟩))
  | const v => rfl
  | global g => rfl
  | func f => rfl
theorem guard_looks {j : Nat} {want : Bool} {t : Tmp} (hg : o.guard = some (j, want)) (ht : (ops[j]?).bind (·.dst) = some t) : t ∈ o.looksAt ops := by
  unfold Oper.looksAt
  rw [hg]
  simp [ht]
theorem opG_read (hr : readOp o.op = true) (hD : readsIn D o st) (h : opG E ops o K st) : ∃ v, fin K st o.dst v ∧ Yld E ops D o v st := by
  unfold opG at h
  cases hg : o.guard with
  | none =>
    rw [hg] at h
    obtain ⟨v, h1, h2⟩ := opF_read hr hD h
    refine ⟨v, h1, fun st2 K' ha hk => ?_⟩
    unfold opG
    rw [hg]
    exact h2 st2 K' (rd_looks ha.1) ha.2 hk
  | some gw =>
    obtain ⟨j, want⟩ := gw
    rw [hg] at h
    simp only at h
    split at h
    case h_2 => exact h.elim
    rename_i t htt
    obtain ⟨b, hb, h1, h2⟩ := h
    by_cases hbw : b = some want
    · obtain ⟨v, h3, h4⟩ := opF_read hr hD (h1 hbw)
      refine ⟨v, h3, fun st2 K' ha hk => ?_⟩
      unfold opG
      rw [hg]
      simp only [htt]
      exact ⟨b, (ha.1 t (guard_looks hg htt)).trans hb, fun _ => h4 st2 K' (rd_looks ha.1) ha.2 hk, fun e => absurd hbw e⟩
    · refine ⟨uA, h2 hbw, fun st2 K' ha hk => ?_⟩
      unfold opG
      rw [hg]
      simp only [htt]
      exact ⟨b, (ha.1 t (guard_looks hg htt)).trans hb, fun e => absurd e hbw, fun _ => hk⟩
theorem getD_set_ne' {tm : List AV} {d t : Nat} {v : AV} (h : d ≠ t) : (tm.set d v).getD t (.l .dead) = tm.getD t (.l .dead) := by
  rw [List.getD_eq_getElem?_getD, List.getElem?_set_ne h, ← List.getD_eq_getElem?_getD]
/-- An operation in a state with another one's answer already there is the same as without it. -/
theorem opF_put {i j : Nat} {oi oj : Oper} {v : AV} (hap : oi.apart ops oj = true) (h : opF E oj K ⟨putT st.tm oi.dst v, st.ob⟩) :
    opF E oj (fun s => ∃ u ob', s = ⟨putT st.tm oj.dst u, ob'⟩ ∧ (readOp oj.op = true → sameD D st.ob ob') ∧ K ⟨putT s.tm oi.dst v, s.ob⟩) st := by
  obtain ⟨h1, h2, h3⟩ := Oper.apart_spec hap
  have hrd : ∀ x ∈ oj.op.operands, rd st.tm x = rd (putT st.tm oi.dst v) x := by
    intro x hx
    cases hd : oi.dst with
    | none => rfl
    | some d =>
      cases x with
      | tmp t =>
        have hne : d ≠ t := fun e => h1 d hd (by subst e; exact List.mem_append_left _ (List.mem_filterMap.2 ⟨.tmp d, by simpa using hx, rfl⟩))
        exact (getD_set_ne' hne).symm
      | _ => rfl
  have hcomm : ∀ u, putT (putT st.tm oi.dst v) oj.dst u = putT (putT st.tm oj.dst u) oi.dst v := by
    intro u
    cases hd : oi.dst with
    | none => rfl
    | some d =>
      cases he : oj.dst with
      | none => rfl
      | some e =>
        have hne : d ≠ e := fun hh => h2 d hd (by rw [he, hh])
        simp only [putT]
        rw [List.set_comm _ _ hne]
  by_cases hro : readOp oj.op = true
  · obtain ⟨D', hD'⟩ : ∃ D', readsIn D' oj ⟨putT st.tm oi.dst v, st.ob⟩ := by
      have : ∀ x : AV, ∃ D', inD D' x := fun x => by
        cases x with
        | l y => cases y with
          | ptr q g off => exact ⟨[q], List.mem_cons_self⟩
          | _ => exact ⟨[], trivial⟩
        | _ => exact ⟨[], trivial⟩
      unfold readsIn
      split
      · exact this _
      · exact this _
      · exact ⟨[], trivial⟩
    obtain ⟨u, h4, h5⟩ := opF_read hro hD' h
    refine h5 st _ hrd (fun _ _ => rfl) ⟨u, st.ob, rfl, fun _ _ _ => rfl, ?_⟩
    show K ⟨putT (putT st.tm oj.dst u) oi.dst v, st.ob⟩
    rw [← hcomm]; exact h4
  by_cases hp : plainOp oj.op = true
  · obtain ⟨u, ob', h4, h5⟩ := opF_det hp h
    refine h5 st _ hrd rfl ⟨u, ob', rfl, fun h => absurd h hro, ?_⟩
    show K ⟨putT (putT st.tm oj.dst u) oi.dst v, ob'⟩
    rw [← hcomm]; exact h4
  · obtain ⟨dst, op, type, pos, after, guard⟩ := oj
    cases op <;> simp [plainOp] at hp
    case mapUpdate t m x y =>
      unfold opF mupF at h ⊢
      simp only at h ⊢
      rw [← hrd m (by simp [Op.operands]), ← hrd x (by simp [Op.operands]), ← hrd y (by simp [Op.operands])] at h
      split at h
      case h_2 => exact h.elim
      split at h
      case h_2 => exact h.elim
      obtain ⟨h1, n, f, h2, h3, h4⟩ := h
      refine ⟨h1, n, f, h2, h3, fun es' clock' hS => ⟨.l .dead, _, rfl, fun h => absurd h hro, ?_⟩⟩
      have := hcomm (.l .dead)
      simp only at this
      show K ⟨putT (putT st.tm dst (.l .dead)) oi.dst v, _⟩
      rw [← this]; exact h4 es' clock' hS
    rename_i c
    obtain ⟨callee, args, ts⟩ := c
    cases callee <;> simp at hp
    rename_i f
    unfold opF callF at h ⊢
    simp only at h ⊢
    have e1 : rd (putT st.tm oi.dst v) f = rd st.tm f := (hrd f (by simp [Op.operands, Call.operands])).symm
    have e2 : args.toList.map (rd (putT st.tm oi.dst v)) = args.toList.map (rd st.tm) := List.map_congr_left fun x hx => (hrd x (by simp [Op.operands, Call.operands]; exact .inr (by simpa using hx))).symm
    rw [e1, e2] at h
    split at h
    case h_2 => exact h.elim
    refine ⟨h.1, fun w cx vs hM hv => (h.2 w cx vs hM hv).mono fun e w' ⟨v', r, ob', cx', h4, h5, h6⟩ => ⟨v', r, ob', cx', h4, ⟨r, ob', rfl, fun h => absurd h hro, ?_⟩, h6⟩⟩
    show K ⟨putT (putT st.tm dst r) oi.dst v, ob'⟩
    have := hcomm r
    simp only at this
    rw [← this]; exact h5
theorem opG_put {oi oj : Oper} {v : AV} (hap : oi.apart ops oj = true) (h : opG E ops oj K ⟨putT st.tm oi.dst v, st.ob⟩) :
    opG E ops oj (fun s => ∃ u ob', s = ⟨putT st.tm oj.dst u, ob'⟩ ∧ (readOp oj.op = true → sameD D st.ob ob') ∧ K ⟨putT s.tm oi.dst v, s.ob⟩) st := by
  obtain ⟨h1, h2, h3⟩ := Oper.apart_spec hap
  unfold opG at h ⊢
  cases hg : oj.guard with
  | none =>
    rw [hg] at h
    exact opF_put (i := 0) (j := 0) hap h
  | some gw =>
    obtain ⟨k, want⟩ := gw
    rw [hg] at h
    simp only at h ⊢
    split at h
    case h_2 => exact h.elim
    rename_i t htt
    obtain ⟨b, hb, h4, h5⟩ := h
    have hb' : st.tm.getD t (.l .dead) = gA b := by
      rw [← hb]
      cases hd : oi.dst with
      | none => rfl
      | some d =>
        have hne : d ≠ t := fun e => h1 d hd (by subst e; exact guard_looks hg htt)
        exact (getD_set_ne' hne).symm
    refine ⟨b, hb', fun e => opF_put (i := 0) (j := 0) hap (h4 e), fun e => ?_⟩
    have h6 := h5 e
    refine ⟨uA, st.ob, rfl, fun _ _ _ => rfl, ?_⟩
    have hcomm : putT (putT st.tm oi.dst v) oj.dst uA = putT (putT st.tm oj.dst uA) oi.dst v := by
      cases hd : oi.dst with
      | none => rfl
      | some d =>
        cases he : oj.dst with
        | none => rfl
        | some e =>
          have hne : d ≠ e := fun hh => h2 d hd (by rw [he, hh])
          simp only [putT]
          rw [List.set_comm _ _ hne]
    show K ⟨putT (putT st.tm oj.dst uA) oi.dst v, st.ob⟩
    rw [← hcomm]
    exact h6
theorem Yld.step {oi oj : Oper} {v u : AV} {ob' : Obs} (hap : oi.apart ops oj = true) (hy : Yld E ops D oi v st) (hs : sameD D st.ob ob') : Yld E ops D oi v ⟨putT st.tm oj.dst u, ob'⟩ := by
  obtain ⟨h1, h2, h3⟩ := Oper.apart_spec hap
  intro st2 K' ha hk
  refine hy st2 K' ⟨fun d hd => (ha.1 d hd).trans ?_, fun q hq => (ha.2 q hq).trans (hs q hq)⟩ hk
  cases he : oj.dst with
  | none => rfl
  | some e =>
    have hne : e ≠ d := fun hh => h3 e he (by rw [hh]; exact hd)
    exact getD_set_ne' hne
theorem opH_put {oi oj : Oper} {v : AV} {dd : Bool} (hap : oi.apart ops oj = true) (hdd : dd = true ∨ readOp oj.op = true) (hy : Yld E ops D oi v st) (h : opH E ops D dd oj K ⟨putT st.tm oi.dst v, st.ob⟩) :
    opH E ops D dd oj (fun s => Yld E ops D oi v s ∧ K ⟨putT s.tm oi.dst v, s.ob⟩) st := by
  unfold opH at h ⊢
  by_cases hd : dd = true
  · rw [if_pos hd] at h ⊢
    refine opG_mono (opG_put (D := D) hap h) fun s ⟨u, ob', hs, _, h1, h2⟩ => ?_
    subst hs
    exact ⟨h1, hy.step hap h1, h2⟩
  · rw [if_neg hd] at h ⊢
    have hro : readOp oj.op = true := hdd.resolve_left hd
    refine opG_mono (opG_put (D := D) hap h) fun s ⟨u, ob', hs, h1, h2⟩ => ?_
    subst hs
    exact ⟨hy.step hap (h1 hro), h2⟩
/-- A reading operation that may come up now may be taken first. -/
theorem anyG_first {i : Nat} {oi : Oper} {v : AV} (hi : ops[i]? = some oi) (hro : readOp oi.op = true) : ∀ (fuel : Nat) (listed : Array Bool) (st : St),
    (∀ j oj, ops[j]? = some oj → j ≠ i → listed.getD j true = false → (∀ e ∈ oj.after, Region.binds .any e = true → e.on ≠ i) → oi.apart ops oj = true ∧ (DD j = true ∨ readOp oj.op = true)) →
    i ∈ Region.ready .any ops listed → Yld E ops D oi v st → anyG E ops D DD K fuel (listed.setIfInBounds i true) ⟨putT st.tm oi.dst v, st.ob⟩ → anyG E ops D DD K (fuel + 1) listed st := by
  have take : ∀ (listed : Array Bool) (st : St) (K' : St → Prop), Yld E ops D oi v st → K' ⟨putT st.tm oi.dst v, st.ob⟩ → opH E ops D (DD i) oi K' st := by
    intro listed st K' hy hk
    have h1 : opG E ops oi (fun s => sameD D st.ob s.ob ∧ K' s) st := hy st _ ⟨fun _ _ => rfl, fun _ _ => rfl⟩ ⟨fun _ _ => rfl, hk⟩
    unfold opH
    split
    · exact h1
    · exact opG_mono h1 fun s hs => hs.2
  intro fuel
  induction fuel with
  | zero =>
    intro listed st _ hr hy H
    refine ⟨fun h => (by rw [h] at hr; cases hr), fun j hj => ?_⟩
    by_cases hji : j = i
    · subst hji; exact ⟨oi, hi, take listed st _ hy H⟩
    · have := ready_mono hj hji
      rw [H.1] at this
      cases this
  | succ fuel ih =>
    intro listed st hfree hr hy H
    refine ⟨fun h => (by rw [h] at hr; cases hr), fun j hj => ?_⟩
    by_cases hji : j = i
    · subst hji; exact ⟨oi, hi, take listed st _ hy H⟩
    · obtain ⟨oj, hoj, h1⟩ := H.2 j (ready_mono hj hji)
      obtain ⟨hjun, oj', hoj', hall⟩ := mem_ready.1 hj
      rw [hoj] at hoj'; cases hoj'
      have hnot : ∀ e ∈ oj.after, Region.binds .any e = true → e.on ≠ i := fun e he hb heq => by
        have h1 := hall e he hb
        have h0 := (mem_ready.1 hr).1
        rw [heq] at h1
        rcases Nat.lt_or_ge i listed.size with h' | h'
        · simp [h'] at h0 h1; rw [h0] at h1; cases h1
        · simp [Array.getElem?_eq_none h'] at h1
      obtain ⟨hap, hdd⟩ := hfree j oj hoj hji hjun hnot
      refine ⟨oj, hoj, opH_mono (opH_put hap hdd hy h1) fun s ⟨h2, h3⟩ => ih (listed.setIfInBounds j true) s ?_ (ready_mono hr (Ne.symm hji)) h2 ?_⟩
      · intro k ok hk hki hun hno
        refine hfree k ok hk hki ?_ hno
        by_cases hjk : j = k
        · subst hjk; exact hjun
        · rw [getD_set_ne true hjk] at hun; exact hun
      · rw [Array.setIfInBounds_comm _ _ hji]
        exact h3
end
end Go.Proofs.YtkdkbnacelnljaaGreat.RE
