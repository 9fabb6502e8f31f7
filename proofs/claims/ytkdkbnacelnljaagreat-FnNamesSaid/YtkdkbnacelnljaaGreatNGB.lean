/- The value of a term, the program. Conditions: those that a theorem names. -/
import Derived.Test.YtkdkbnacelnljaaGreatNGA
import Derived.Test.YtkdkbnacelnljaaGreatNV1
import Derived.Test.YtkdkbnacelnljaaGreatNF1
set_option linter.unusedVariables false
set_option linter.unusedSimpArgs false
namespace Go.Proofs.YtkdkbnacelnljaaGreat.RE
open Go Go.RowKit
set_option maxRecDepth 100000
set_option maxHeartbeats 8000000
/-! ### The valuer -/
def nR (n x : Nat) : List Int := List.replicate x (-1) ++ List.replicate (n - x) 0
theorem nR_0 (n : Nat) : nR n 0 = List.replicate n 0 := by simp [nR]
theorem nR_len {n x : Nat} (h : x ≤ n) : (nR n x).length = n := by simp [nR]; omega
theorem nR_end (n : Nat) : nR n n = List.replicate n (-1) := by simp [nR]
theorem nR_set {n x : Nat} (h : x < n) : (nR n x).set x (-1) = nR n (x + 1) := by
  unfold nR
  obtain ⟨k, hk⟩ : ∃ k, n - x = k + 1 := ⟨n - x - 1, by omega⟩
  rw [hk, List.set_append_right _ _ (by simp), List.length_replicate, Nat.sub_self, List.replicate_succ, List.set_cons_zero]
  rw [show n - (x + 1) = k by omega, List.replicate_succ', List.append_assoc]; rfl
def KnOk (t : List Nd) (env kn : List Int) : Prop := kn.length = t.length ∧ ∀ j, j < t.length → 0 ≤ kn.getD j 0 → kn.getD j 0 = evT quI t env j
theorem kn_new (t : List Nd) (env : List Int) : KnOk t env (List.replicate t.length (-1)) := by
  refine ⟨List.length_replicate, fun j hj h => ?_⟩
  rw [List.getD_eq_getElem?_getD, List.getElem?_replicate, if_pos hj, Option.getD_some] at h
  omega
theorem kn_set {t : List Nd} {env kn : List Int} (h : KnOk t env kn) {i : Nat} (hi : i < t.length) : KnOk t env (kn.set i (evT quI t env i)) := by
  refine ⟨by rw [List.length_set]; exact h.1, fun j hj h0 => ?_⟩
  by_cases e : i = j
  · subst e; exact getD_set_eq (by rw [h.1]; exact hi)
  · rw [getD_set_ne e] at h0 ⊢
    exact h.2 j hj h0
theorem quI_yes {all : Bool} {l : List Int} (h : ∀ v ∈ l, v = bitT all) : quI all l = bitT all := by
  unfold quI
  rw [if_pos (List.all_eq_true.2 fun v hv => decide_eq_true (h v hv))]
theorem quI_no {all : Bool} {l : List Int} {v : Int} (hv : v ∈ l) (h : v ≠ bitT all) : quI all l = 1 - bitT all := by
  unfold quI
  rw [if_neg]
  intro ha
  exact h (of_decide_eq_true (List.all_eq_true.1 ha v hv))
theorem still {m : Nat → Nat → Option (Nat × Nat)} {cs : List LV} (h : cs.all (LV.shut 0) = true) : cs.map (LV.ren m) = cs := shut_map (m := 0) (fun _ _ h => absurd h (Nat.not_lt_zero _)) h
theorem obB_two {a b : Nat} {ob : Obs} {y1 y2 : Ob} (hab : a ≠ b) (ha : a < ob.length) (hb : b < ob.length) (f1 : y1.cs.all (LV.shut 0) = true) (f2 : y2.cs.all (LV.shut 0) = true) : obB [a, b] ob [some y1, some y2] = (ob.set a (some y1)).set b (some y2) := by
  unfold obB
  simp only [List.length_cons, List.length_nil, List.drop_succ_cons, List.drop_zero, List.map_nil, List.append_nil, Nat.zero_add]
  have e : ∀ j, ([a, b] : List Nat).idxOf? j = if j = a then some 0 else if j = b then some 1 else none := fun j => by
    simp only [List.idxOf?, List.findIdx?_cons, List.findIdx?_nil, beq_iff_eq]
    by_cases h1 : j = a
    · subst h1; simp
    · rw [if_neg (fun h => h1 h.symm), if_neg h1]
      by_cases h2 : j = b
      · subst h2; simp
      · rw [if_neg (fun h => h2 h.symm), if_neg h2]; rfl
  have g : ∀ (mm : Nat → Nat → Option (Nat × Nat)) (y : Ob), y.cs.all (LV.shut 0) = true → Ob.ren mm y = y := fun mm y h => by
    unfold Ob.ren
    rw [still h]
  apply List.ext_getElem?
  intro j
  rw [mrg_get, Nat.zero_add, e]
  by_cases h1 : j = a
  · subst h1
    rw [if_pos rfl, List.getElem?_set_ne (Ne.symm hab), List.getElem?_set_self ha, List.getElem?_eq_getElem ha]
    simp [g _ y1 f1]
  · rw [if_neg h1]
    by_cases h2 : j = b
    · subst h2
      rw [if_pos rfl, List.getElem?_set_self (by rw [List.length_set]; exact hb), List.getElem?_eq_getElem hb]
      simp [g _ y2 f2]
    · rw [if_neg h2, List.getElem?_set_ne (Ne.symm h2), List.getElem?_set_ne (Ne.symm h1)]
      cases ob[j]? <;> rfl
/-- Two flat rows are handed over and written; the answer is told by a property. -/
theorem CallK.give2E {P : Program} {f : FuncId} {args args' : List AV} {st : St} {d : Option Tmp} {K : St → Prop} (a b : Nat) {x1 x2 : Ob} {Q : AV → Obs → Prop} (h : CallsA P f args' [some x1, some x2] Q)
    (k : ∀ r ob1, Q r ob1 → ∃ y1 y2, ob1 = [some y1, some y2] ∧ y1.cs.all (LV.shut 0) = true ∧ y2.cs.all (LV.shut 0) = true ∧ r.flat = true ∧ K ⟨putT st.tm d r, (st.ob.set a (some y1)).set b (some y2)⟩) (h1 : st.ob.getD a none = some x1) (h2 : st.ob.getD b none = some x2)
    (e1 : x1.cs.all (LV.shut 0) = true) (e2 : x2.cs.all (LV.shut 0) = true) (hab : a ≠ b := by decide) (ha : args.map (AV.toC [a, b] []) = args' := by rfl) : CallK P f args st d K := by
  have lt : ∀ {i : Nat} {x : Ob}, st.ob.getD i none = some x → i < st.ob.length := fun {i x} h => by
    rcases Nat.lt_or_ge i st.ob.length with h' | h'
    · exact h'
    · rw [List.getD_eq_getElem?_getD, List.getElem?_eq_none h'] at h; cases h
  refine CallK.use (Q := Q) [a, b] [] ⟨by simp [hab], (fun s hs => by
    simp only [List.mem_cons, List.not_mem_nil, or_false] at hs
    rcases hs with h | h
    · rw [h]; exact lt h1
    · rw [h]; exact lt h2), by simp, by simp⟩ ?_ ?_
  · rw [ha, show obC [a, b] st.ob = [some x1, some x2] by simp only [obC, List.map_cons, List.map_nil, h1, h2, Option.map_some, still e1, still e2]]
    exact h
  · intro r ob1 hq
    obtain ⟨y1, y2, rfl, f1, f2, hv, hk⟩ := k r ob1 hq
    refine ⟨by simp, .inl rfl, ?_⟩
    rw [obB_two hab (lt h1) (lt h2) f1 f2, AV.flat_ren hv]
    exact hk
theorem vr_still (t : List Nd) (env : List Int) : (LV.dsl true t.length (encN t) :: env.map ci).all (LV.shut 0) = true := by
  rw [List.all_cons, flat_shut (flatI _)]; rfl
theorem env_set {D : LV} {e : List Int} {k : Nat} (hk : k < e.length) (v : Int) : List.take (1 + k) (D :: e.map ci) ++ [LV.sc (Value.int IntKind.i64 v)] ++ List.drop (1 + k) (e.map ci) = D :: (e.set k v).map ci := by
  rw [Nat.add_comm 1 k, List.take_succ_cons, List.cons_append, List.cons_append, ← List.map_take, ← List.map_drop, List.set_eq_take_append_cons_drop, if_pos hk, List.map_append, List.map_cons, List.append_assoc]; rfl
theorem env_get {D : LV} {e : List Int} {k : Nat} (hk : k < e.length) : (D :: e.map ci).getD (1 + k) LV.dead = LV.sc (Value.int IntKind.i64 (e.getD k 0)) := by
  rw [Nat.add_comm 1 k, List.getD_cons_succ, List.getD_eq_getElem?_getD, List.getD_eq_getElem?_getD, List.getElem?_map, List.getElem?_eq_getElem hk]; rfl
theorem set_back {e : List Int} {k : Nat} (hk : k < e.length) : e.set k (e.getD k 0) = e := by
  rw [List.getD_eq_getElem?_getD, List.getElem?_eq_getElem hk, Option.getD_some, List.set_getElem_self]
theorem wrap_bit (b : Bool) : IntKind.i64.wrap (1 - bitT b) = 1 - bitT b := by cases b <;> decide
theorem ci_still (l : List Int) : (l.map ci).all (LV.shut 0) = true := flat_shut (flatI _)
theorem blank_c (t : List Nd) (env : List Int) (he : env.length = 8) (hl : t.length ≤ 1048576) : CallsA E.P 53 [.l (.ptr 0 0 0)] [some ⟨0, .dsl true t.length (encN t) :: env.map ci⟩] fun r ob => r = .l (.obj 1 0 1 0 t.length) ∧ ob = [some ⟨0, .dsl true t.length (encN t) :: env.map ci⟩, some ⟨0, (List.replicate t.length (-1)).map ci⟩] := by
  refine CallsA.body (E := E) (fn := Tryz.f53) Tryz.func53 rfl fun B hB => ?_
  simp only [Tryz.ntmps53, go_sem, nl, Nat.reduceSub, Nat.reduceAdd, List.reduceReplicate]
  refine Wp.seqK fun K1 hK1 => ?_
  refine rg ?_
  refine hK1 _ ?_
  clear hK1 K1
  refine Wp.seqK fun K2 hK2 => ?_
  refine rg ?_
  refine hK2 _ ?_
  clear hK2 K2
  refine Wp.seqK fun K3 hK3 => ?_
  refine Wp.seqK fun K4 hK4 => ?_
  refine rg ?_
  refine hK4 _ ?_
  clear hK4 K4
  refine Wp.block ?_
  refine Wp.loopU (α := Nat) (fun x => [.d, .d, .d, .k, .d5, .d, .d, .d, .k, .v (I x), .d5, .d, .d]) (fun x => [some ⟨0, .dsl true t.length (encN t) :: env.map ci⟩, some ⟨0, (nR t.length x).map ci⟩]) (fun x => x ≤ t.length) (fun x => t.length - x) 0 (by omega) (anyS (ho := by rw [nR_0] <;> first | rfl | (simp [ci] <;> rfl))) ?_
  rintro x f5 K5 hx hK5
  simp only [updT_k, updT_d, updT_d5, updT_v, updT_nil, Nat.reduceAdd]
  have hnl := nR_len hx
  refine Wp.seqK fun K6 hK6 => ?_
  refine rg ?_
  refine hK6 _ ?_
  clear hK6 K6
  refine Wp.seqK fun K7 hK7 => ?_
  refine Wp.condS (fun h14 => ?_) (fun h14 => ?_)
  · have hxl : x < t.length := by omega
    refine Wp.skip ?_
    refine hK7 _ ?_
    clear hK7 K7
    refine Wp.seqK fun K8 hK8 => ?_
    refine Wp.block ?_
    refine Wp.seqK fun K9 hK9 => ?_
    refine rg ?_
    refine hK9 _ ?_
    clear hK9 K9
    refine rg ?_
    try simp only [thn, inB, if_true, reduceIte, Nat.reduceEqDiff, Nat.zero_ne_one, Nat.one_ne_zero, if_false]
    refine hK8 _ ?_
    clear hK8 K8
    refine rg ?_
    exact hK5 (x + 1) _ (by omega) (by omega) (anyS (ho := by rw [← nR_set hxl] <;> rfl))
  · have hxl : x = t.length := by omega
    subst hxl
    refine Wp.exit ?_
    try simp only [thn, inB, if_true, reduceIte, Nat.reduceEqDiff, Nat.zero_ne_one, Nat.one_ne_zero, if_false]
    clear hK7 K7
    clear hK5 K5
    refine hK3 _ ?_
    clear hK3 K3
    refine Wp.seqK fun K10 hK10 => ?_
    refine rg ?_
    refine hK10 _ ?_
    clear hK10 K10
    refine Wp.ret ⟨_, [1], rfl, by simp, by decide, by simp, rfl, ?_⟩
    simp only [keepO, List.take_succ_cons, List.take_zero, List.map_cons, List.map_nil, List.cons_append, List.nil_append, List.append_nil, List.getD_cons_succ, List.getD_cons_zero, Option.map_some, renB, renI, renS]
    rw [← nR_end] <;> rfl
def ValAt (t : List Nd) (i : Nat) : Prop := ∀ (env kn : List Int), env.length = 8 → KnOk t env kn → CallsA E.P 52 [.l (.ptr 0 0 0), I i, .l (.obj 1 0 1 0 t.length)] [some ⟨0, .dsl true t.length (encN t) :: env.map ci⟩, some ⟨0, kn.map ci⟩] fun r ob => r = I (evT quI t env i) ∧ ∃ kn', KnOk t env kn' ∧ ob = [some ⟨0, .dsl true t.length (encN t) :: env.map ci⟩, some ⟨0, kn'.map ci⟩]
theorem quant_c (t : List Nd) (hok : okT t = true) (hl : t.length ≤ 80) (i : Nat) (hi : i < t.length) (hq : isQ (t.getD i default).op = true) (ih : ValAt t (t.getD i default).a.toNat) (env : List Int) (he : env.length = 8) : CallsA E.P 89 [.l (.ptr 0 0 0), .agg (nl (t.getD i default))] [some ⟨0, .dsl true t.length (encN t) :: env.map ci⟩] fun r ob => r = I (evT quI t env i) ∧ ob = [some ⟨0, .dsl true t.length (encN t) :: env.map ci⟩] := by
  refine CallsA.body (E := E) (fn := Tryz.f89) Tryz.func89 rfl fun B hB => ?_
  simp only [Tryz.ntmps89, go_sem, nl, Nat.reduceSub, Nat.reduceAdd, List.reduceReplicate]
  obtain ⟨⟨hk0, hk7⟩, ⟨hb1, hb8⟩, _, _⟩ := quant_rule (okT_node hok hi) hq
  have hpa := okT_parts hok i hi (t.getD i default).a (by rw [parts_q hq]; simp)
  have hkl : (t.getD i default).k.toNat < 8 := by omega
  have hpw := pw8 hb1 hb8
  have hpo := okT_parts hok
  have hn1 : ¬ (t.getD i default).op = 1 := fun h => by rw [h] at hq; exact absurd hq (by decide)
  refine Wp.seqK fun K1 hK1 => ?_
  refine rg ?_
  refine hK1 _ ?_
  clear hK1 K1
  refine Wp.seqK fun K2 hK2 => ?_
  refine Wp.drawI [0, 1, 2, 3, 4, 5, 6, 7] [] (by kernel_rfl) ?_
  refine evd ?_
  refine hK2 _ ?_
  clear hK2 K2
  refine Wp.seqK fun K3 hK3 => ?_
  rw [env_get (by omega)]
  refine rg ?_
  refine ⟨rfl, CallK.valA (h := iBit_c _) (k := ?_)⟩
  refine evd ?_
  refine hK3 _ ?_
  clear hK3 K3
  refine Wp.seqU (α := List Int) (fun e2 => [.k, .d, .d, .k, .d, .k, .v (I (evT quI t env i)), .d5, .d5, .d5, .d5, .d5, .d5, .d5, .d5, .d5]) (fun e2 => [some ⟨0, .dsl true t.length (encN t) :: e2.map ci⟩, some ⟨0, nl (t.getD i default)⟩]) (fun e2 => e2.length = 8 ∧ (∀ v : Int, e2.set (t.getD i default).k.toNat v = env.set (t.getD i default).k.toNat v)) (fun K4 hK4 => ?_) ?_
  · refine Wp.seqK fun K5 hK5 => ?_
    refine rg ?_
    refine hK5 _ ?_
    clear hK5 K5
    refine Wp.block ?_
    refine Wp.loopU (α := Nat × List Int) (fun p => [.k, .d, .d, .k, .d, .k, .v (I (bitT (decide ((t.getD i default).op = 19)))), .d5, .d5, .d5, .k, .v (I p.1), .d5, .d5, .d5, .d5, .d5, .d, .d, .d]) (fun p => [some ⟨0, .dsl true t.length (encN t) :: p.2.map ci⟩, some ⟨0, nl (t.getD i default)⟩]) (fun p => p.1 ≤ 2 ^ (t.getD i default).b.toNat ∧ p.2.length = 8 ∧ (∀ v : Int, p.2.set (t.getD i default).k.toNat v = env.set (t.getD i default).k.toNat v) ∧ (∀ z : Nat, z < p.1 → evT quI t (env.set (t.getD i default).k.toNat z) (t.getD i default).a.toNat = bitT (decide ((t.getD i default).op = 19)))) (fun p => 2 ^ (t.getD i default).b.toNat - p.1) (0, env) (⟨Nat.zero_le _, he, fun _ => rfl, fun z hz => absurd hz (Nat.not_lt_zero z)⟩) (anyS) ?_
    rintro ⟨y, e⟩ f6 K6 ⟨hy, hel, hes, hall⟩ hK6
    simp only [updT_k, updT_d, updT_d5, updT_v, updT_nil, Nat.reduceAdd]
    simp only at hy hel hes hall
    refine Wp.seqK fun K7 hK7 => ?_
    refine rg ?_
    refine hK7 _ ?_
    clear hK7 K7
    refine Wp.seqK fun K8 hK8 => ?_
    refine Wp.condS (fun h24 => ?_) (fun h24 => ?_)
    · have h2n : ((2 ^ (t.getD i default).b.toNat : Nat) : Int) = 2 ^ (t.getD i default).b.toNat := by simp
      have hyb : y < 2 ^ (t.getD i default).b.toNat := by omega
      refine Wp.skip ?_
      refine hK8 _ ?_
      clear hK8 K8
      refine Wp.seqK fun K9 hK9 => ?_
      refine Wp.block ?_
      refine Wp.seqK fun K10 hK10 => ?_
      refine rg ?_
      refine hK10 _ ?_
      clear hK10 K10
      refine Wp.seqK fun K11 hK11 => ?_
      refine Wp.drawI [1] [7] (by kernel_rfl) ?_
      refine evd ?_
      refine hK11 _ ?_
      clear hK11 K11
      refine Wp.seqK fun K12 hK12 => ?_
      rw [env_set (by omega)]
      refine Wp.drawP [1] [4, 5] [0, 1, 2, 3, 6, 4, 5, 7] rfl (by kernel_rfl) ?_
      refine evd ?_
      refine ⟨rfl, CallK.handA 1 (o1 := [some ⟨0, .dsl true t.length (encN t) :: (e.set (t.getD i default).k.toNat (y : Int)).map ci⟩]) (new := [some ⟨0, (List.replicate t.length (-1)).map ci⟩]) (blank_c t (e.set (t.getD i default).k.toNat (y : Int)) (by simp [hel]) (by omega)) ?_⟩
      refine evd ?_
      refine ⟨rfl, CallK.give2E 0 2 (ih _ _ (by simp [hel]) (kn_new t _)) (fun r ob1 hq1 => ?_) rfl rfl (vr_still _ _) (ci_still _) (ha := by rw [Int.toNat_of_nonneg hpa.1] <;> rfl)⟩
      obtain ⟨rfl, kn2, hk2, rfl⟩ := hq1
      refine ⟨_, _, rfl, vr_still _ _, ci_still _, rfl, ?_⟩
      refine evd ?_
      refine hK12 _ ?_
      clear hK12 K12
      refine Wp.condS (fun h40 => ?_) (fun h40 => ?_)
      · have hne : ¬ evT quI t (env.set (t.getD i default).k.toNat (y : Int)) (t.getD i default).a.toNat = bitT (decide ((t.getD i default).op = 19)) := by rw [← hes]; simpa using h40
        have hev : evT quI t env i = 1 - bitT (decide ((t.getD i default).op = 19)) := by
          rw [evT_eq hpo hi env, if_neg hn1, if_pos hq]
          exact quI_no (List.mem_map.2 ⟨y, List.mem_range.2 hyb, rfl⟩) hne
        refine Wp.seqK fun K13 hK13 => ?_
        refine Wp.keep 2 (by simp [hB]) (by simp) ?_
        refine evd ?_
        refine rg ?_
        refine hK13 _ ?_
        clear hK13 K13
        refine Wp.exit ?_
        try simp only [thn, inB, if_true, reduceIte, Nat.reduceEqDiff, Nat.zero_ne_one, Nat.one_ne_zero, if_false]
        clear hK9 K9
        clear hK6 K6
        exact hK4 (e.set (t.getD i default).k.toNat (y : Int)) _ ⟨by simp [hel], fun v => by rw [List.set_set]; exact hes v⟩ (anyS (h := by rw [hev.trans (wrap_bit _).symm] <;> rfl))
      · have heq : evT quI t (env.set (t.getD i default).k.toNat (y : Int)) (t.getD i default).a.toNat = bitT (decide ((t.getD i default).op = 19)) := by rw [← hes]; simpa using h40
        refine Wp.skip ?_
        try simp only [thn, inB, if_true, reduceIte, Nat.reduceEqDiff, Nat.zero_ne_one, Nat.one_ne_zero, if_false]
        refine hK9 _ ?_
        clear hK9 K9
        refine Wp.keep 2 (by simp [hB]) (by simp) ?_
        refine evd ?_
        refine rg ?_
        exact hK6 (y + 1, e.set (t.getD i default).k.toNat (y : Int)) _ ⟨hyb, by simp [hel], fun v => by rw [List.set_set]; exact hes v, fun z hz => by
          rcases Nat.lt_or_ge z y with h | h
          · exact hall z h
          · have e1 : z = y := by have h2 : z < y + 1 := hz; omega
            subst e1; exact heq⟩ (Nat.sub_lt_sub_left hyb (Nat.lt_succ_self y)) anyS
    · have h2n : ((2 ^ (t.getD i default).b.toNat : Nat) : Int) = 2 ^ (t.getD i default).b.toNat := by simp
      have hyb : y = 2 ^ (t.getD i default).b.toNat := by omega
      subst hyb
      have hev : evT quI t env i = bitT (decide ((t.getD i default).op = 19)) := by
        rw [evT_eq hpo hi env, if_neg hn1, if_pos hq]
        exact quI_yes (fun v hv => by obtain ⟨z, hz, rfl⟩ := List.mem_map.1 hv; exact hall z (List.mem_range.1 hz))
      refine Wp.exit ?_
      try simp only [thn, inB, if_true, reduceIte, Nat.reduceEqDiff, Nat.zero_ne_one, Nat.one_ne_zero, if_false]
      clear hK8 K8
      clear hK6 K6
      exact hK4 e _ ⟨hel, hes⟩ (anyS (h := by rw [hev] <;> rfl))
  rintro e2 f4 ⟨he2, hs2⟩
  simp only [updT_k, updT_d, updT_d5, updT_v, updT_nil, Nat.reduceAdd]
  refine Wp.seqK fun K14 hK14 => ?_
  refine Wp.drawI [1] [7] (by kernel_rfl) ?_
  refine evd ?_
  refine hK14 _ ?_
  clear hK14 K14
  refine Wp.seqK fun K15 hK15 => ?_
  rw [env_set (by omega), hs2, set_back (by omega)]
  refine rg ?_
  refine hK15 _ ?_
  clear hK15 K15
  refine Wp.ret (retH (n := 1) rfl rfl)
end Go.Proofs.YtkdkbnacelnljaaGreat.RE

/-! The value of a term, the program (value). Conditions: those that a theorem names. -/
set_option linter.unusedVariables false
set_option linter.unusedSimpArgs false
namespace Go.Proofs.YtkdkbnacelnljaaGreat.RE
open Go Go.RowKit
set_option maxRecDepth 100000
set_option maxHeartbeats 8000000
theorem ci_2 (l : List Int) : (l.map ci).all (LV.shut 2) = true := flat_shut (flatI _)
theorem vr_2 (t : List Nd) : LV.shut 2 (LV.dsl true t.length (encN t)) = true := rfl
def xsT (t : List Nd) (env : List Int) (n : Nd) (k : Nat) : List Int := (List.range 3).map fun j => if j < k then evT quI t env ((parts n).getD j 0).toNat else 0
theorem xs_len (t : List Nd) (env : List Int) (n : Nd) (k : Nat) : (xsT t env n k).length = 3 := by simp [xsT]
theorem xs_at (t : List Nd) (env : List Int) (n : Nd) (k : Nat) {j : Nat} (hj : j < 3) : (xsT t env n k).getD j 0 = if j < k then evT quI t env ((parts n).getD j 0).toNat else 0 := by
  simp [xsT, List.getD_eq_getElem?_getD, hj]
theorem xs_set (t : List Nd) (env : List Int) (n : Nd) {k : Nat} (hk : k < 3) : (xsT t env n k).set k (evT quI t env ((parts n).getD k 0).toNat) = xsT t env n (k + 1) := by
  apply List.ext_getElem?
  intro j
  by_cases e : k = j
  · subst e
    rw [List.getElem?_set_self (by rw [xs_len]; exact hk)]
    simp [xsT, hk]
  · rw [List.getElem?_set_ne e]
    by_cases hj : j < 3
    · simp only [xsT, List.getElem?_map, List.getElem?_range hj, Option.map_some]
      have : (j < k + 1) ↔ (j < k) := by omega
      simp only [this]
    · rw [List.getElem?_eq_none (by rw [xs_len]; omega), List.getElem?_eq_none (by rw [xs_len]; omega)]
theorem value_step (t : List Nd) (hok : okT t = true) (hl : t.length ≤ 80) (i : Nat) (hi : i < t.length) (ih : ∀ j, j < i → ValAt t j) (env kn : List Int) (he : env.length = 8) (hk : KnOk t env kn) : CallsA E.P 52 [.l (.ptr 0 0 0), I i, .l (.obj 1 0 1 0 t.length)] [some ⟨0, .dsl true t.length (encN t) :: env.map ci⟩, some ⟨0, kn.map ci⟩] fun r ob => r = I (evT quI t env i) ∧ ∃ kn', KnOk t env kn' ∧ ob = [some ⟨0, .dsl true t.length (encN t) :: env.map ci⟩, some ⟨0, kn'.map ci⟩] := by
  refine CallsA.body (E := E) (fn := Tryz.f52) Tryz.func52 rfl fun B hB => ?_
  simp only [Tryz.ntmps52, go_sem, nl, Nat.reduceSub, Nat.reduceAdd, List.reduceReplicate]
  have hpo := okT_parts hok
  have hpp := hpo i hi
  have hpl := parts_len (t.getD i default)
  have hkl := hk.1
  have hka := (okT_kb hok hi).1
  have hkb := (okT_kb hok hi).2
  refine Wp.seqK fun K1 hK1 => ?_
  refine rg ?_
  refine hK1 _ ?_
  clear hK1 K1
  refine Wp.seqK fun K2 hK2 => ?_
  refine Wp.seqK fun K3 hK3 => ?_
  refine rg ?_
  refine hK3 _ ?_
  clear hK3 K3
  refine Wp.condS (fun h16 => ?_) (fun h16 => ?_)
  · refine Wp.seqK fun K4 hK4 => ?_
    refine rg ?_
    refine hK4 _ ?_
    clear hK4 K4
    have e := hk.2 i hi (by simpa using h16)
    refine Wp.ret ?_
    try simp only [thn]
    refine retE (m := 2) (x' := I (evT quI t env i)) (ob' := [some ⟨0, .dsl true t.length (encN t) :: env.map ci⟩, some ⟨0, kn.map ci⟩]) ?_ rfl (hx := by rw [← e] <;> rfl) (hi := by simp only [obShut, List.all_cons, List.all_nil, vr_2, ci_2, LV.shut, Bool.and_true])
    exact ⟨rfl, kn, hk, rfl⟩
  · refine Wp.skip ?_
    refine hK2 _ ?_
    clear hK2 K2
    refine Wp.seqK fun K5 hK5 => ?_
    refine rg ?_
    refine hK5 _ ?_
    clear hK5 K5
    refine Wp.seqU (α := List Int × Obs) (fun o => [.d, .k, .k, .d5, .d5, .d5, .d5, .d5, .d5, .d5, .d5, .d5, .d5, .d5, .d5, .d5, .d5, .d5, .d5, .d5, .d5]) (fun o => some ⟨0, .dsl true t.length (encN t) :: env.map ci⟩ :: some ⟨0, o.1.map ci⟩ :: o.2) (fun o => KnOk t env o.1 ∧ o.1.getD i 0 = evT quI t env i) (fun K6 hK6 => ?_) ?_
    · refine Wp.block ?_
      refine Wp.seqK fun K7 hK7 => ?_
      refine rg ?_
      refine hK7 _ ?_
      clear hK7 K7
      refine Wp.condS (fun h66 => ?_) (fun h66 => ?_)
      · have h1 : (t.getD i default).op = 1 := by simpa using h66
        refine Wp.drawI [0, 1, 2, 3, 4, 5, 6, 7] [] (by kernel_rfl) ?_
        refine evd ?_
        try simp only [thn, inB, if_true, reduceIte]
        have hv := var_rule (okT_node hok hi) h1
        have hk7 : (t.getD i default).k.toNat < env.length := by omega
        simp only [env_get hk7]
        refine evd ?_
        trace_state
        exact hK6 (kn.set i (evT quI t env i), [some ⟨0, nl (t.getD i default)⟩]) _ ⟨kn_set hk hi, getD_set_eq (by rw [hk.1]; exact hi)⟩ (anyS (ho := by rw [evT_eq hpo hi env, if_pos h1] <;> rfl))
      · have hn1 : ¬ (t.getD i default).op = 1 := by simpa using h66
        refine Wp.seqK fun K8 hK8 => ?_
        refine rg ?_
        refine ⟨rfl, CallK.valA (h := isQuant_c _) (k := ?_)⟩
        refine evd ?_
        refine hK8 _ ?_
        clear hK8 K8
        refine Wp.condS (fun h80 => ?_) (fun h80 => ?_)
        · have hqq : isQ (t.getD i default).op = true := by simpa using h80
          refine rg ?_
          refine ⟨rfl, CallK.passS [0] (h := quant_c t hok hl i hi hqq (ih _ (by have := hpp (t.getD i default).a (by rw [parts_q hqq]; simp); omega)) env he) (k := ?_) (ho := by simp only [obC, List.map_cons, List.map_nil, List.getD_cons_zero, Option.map_some, still (vr_still _ _)])⟩
          refine evd ?_
          try simp only [thn, inB, if_true, reduceIte]
          exact hK6 (kn.set i (evT quI t env i), [some ⟨0, nl (t.getD i default)⟩]) _ ⟨kn_set hk hi, getD_set_eq (by rw [hk.1]; exact hi)⟩ anyS
        · have hqn : isQ (t.getD i default).op = false := by simpa using h80
          refine Wp.seqK fun K9 hK9 => ?_
          refine rg ?_
          refine hK9 _ ?_
          clear hK9 K9
          refine Wp.seqK fun K10 hK10 => ?_
          refine rg ?_
          refine hK10 _ ?_
          clear hK10 K10
          refine Wp.seqK fun K11 hK11 => ?_
          refine Wp.seqK fun K12 hK12 => ?_
          refine rg ?_
          refine ⟨rfl, CallK.rowA (h := iParts_c _) (k := ?_)⟩
          refine evd ?_
          refine hK12 _ ?_
          clear hK12 K12
          refine Wp.block ?_
          refine Wp.loopU (α := Nat × List Int) (fun p => [.k, .k, .k, .d, .d, .d, .d, .k, .k, .v (I (if p.1 = 0 then 1 else wAt t ((parts (t.getD i default)).getD 0 0))), .d5, .d5, .d5, .d5, .k, .k, .v (I p.1), .d5, .d5, .d5, .d5, .d5, .d5, .d5, .d5, .d5, .d5, .d5, .d5]) (fun p => [some ⟨0, .dsl true t.length (encN t) :: env.map ci⟩, some ⟨0, p.2.map ci⟩, some ⟨0, nl (t.getD i default)⟩, some ⟨0, (xsT t env (t.getD i default) p.1).map ci⟩, some ⟨0, (parts (t.getD i default)).map ci⟩]) (fun p => p.1 ≤ (parts (t.getD i default)).length ∧ KnOk t env p.2) (fun p => (parts (t.getD i default)).length - p.1) (0, kn) (⟨Nat.zero_le _, hk⟩) (anyS) ?_
          rintro ⟨k, kn1⟩ f13 K13 ⟨hk0, hkn⟩ hK13
          simp only [updT_k, updT_d, updT_d5, updT_v, updT_nil, Nat.reduceAdd]
          simp only at hk0 hkn
          have hkl1 := hkn.1
          have hxl := xs_len t env (t.getD i default) k
          refine Wp.seqK fun K14 hK14 => ?_
          refine rg ?_
          refine hK14 _ ?_
          clear hK14 K14
          refine Wp.seqK fun K15 hK15 => ?_
          refine Wp.condS (fun h33 => ?_) (fun h33 => ?_)
          · have hkl2 : k < (parts (t.getD i default)).length := by omega
            have hpk := hpp ((parts (t.getD i default)).getD k 0) (mem_gV hkl2)
            refine Wp.skip ?_
            refine hK15 _ ?_
            clear hK15 K15
            refine Wp.seqU (α := List Int) (fun u => [.k, .k, .k, .d, .d, .d, .d, .k, .k, .v (I (if k + 1 = 0 then 1 else wAt t ((parts (t.getD i default)).getD 0 0))), .d5, .d5, .d5, .d5, .k, .k, .k, .d5, .d5, .d5, .d5, .d5, .d5, .d5, .d5, .d5, .d5, .d5, .d5]) (fun u => [some ⟨0, .dsl true t.length (encN t) :: env.map ci⟩, some ⟨0, u.map ci⟩, some ⟨0, nl (t.getD i default)⟩, some ⟨0, (xsT t env (t.getD i default) (k + 1)).map ci⟩, some ⟨0, (parts (t.getD i default)).map ci⟩]) (fun u => KnOk t env u) (fun K16 hK16 => ?_) ?_
            · refine Wp.block ?_
              refine Wp.seqK fun K17 hK17 => ?_
              refine rg ?_
              refine hK17 _ ?_
              clear hK17 K17
              refine Wp.seqK fun K18 hK18 => ?_
              refine rg ?_
              refine ⟨rfl, CallK.give2E 0 1 (ih ((parts (t.getD i default)).getD k 0).toNat (by omega) env kn1 he hkn) (fun r ob1 hq1 => ?_) rfl rfl (vr_still _ _) (ci_still _) (ha := by rw [Int.toNat_of_nonneg hpk.1] <;> rfl)⟩
              obtain ⟨rfl, kn2, hk2, rfl⟩ := hq1
              refine ⟨_, _, rfl, vr_still _ _, ci_still _, rfl, ?_⟩
              refine evd ?_
              refine hK18 _ ?_
              clear hK18 K18
              refine Wp.seqK fun K19 hK19 => ?_
              refine rg ?_
              refine hK19 _ ?_
              clear hK19 K19
              refine Wp.condS (fun h44 => ?_) (fun h44 => ?_)
              · refine rg ?_
                try simp only [thn, inB, if_true, reduceIte]
                exact hK16 kn2 _ hk2 (anyS (h := by rw [if_neg (show ¬ k + 1 = 0 by omega), show k = 0 by omega] <;> rfl) (ho := by rw [← xs_set t env (t.getD i default) (by omega)] <;> rfl))
              · refine Wp.skip ?_
                try simp only [thn, inB, if_true, reduceIte]
                exact hK16 kn2 _ hk2 (anyS (h := by rw [if_neg (show ¬ k + 1 = 0 by omega), if_neg (show ¬ k = 0 by omega)] <;> rfl) (ho := by rw [← xs_set t env (t.getD i default) (by omega)] <;> rfl))
            rintro kn2 f16 hk2
            simp only [updT_k, updT_d, updT_d5, updT_v, updT_nil, Nat.reduceAdd]
            refine rg ?_
            exact hK13 (k + 1, kn2) _ ⟨hkl2, hk2⟩ (Nat.sub_lt_sub_left hkl2 (Nat.lt_succ_self k)) anyS
          · have hkl2 : k = (parts (t.getD i default)).length := by omega
            subst hkl2
            refine Wp.exit ?_
            try simp only [thn, inB, if_true, reduceIte]
            clear hK15 K15
            clear hK13 K13
            refine hK11 _ ?_
            clear hK11 K11
            refine rg ?_
            refine ⟨rfl, CallK.valA (h := iApply_c _ _ _ _ _ hka hkb) (k := ?_)⟩
            refine evd ?_
            try simp only [thn, inB, if_true, reduceIte]
            have hval : evT quI t env i = appT (t.getD i default) (if (parts (t.getD i default)).length = 0 then 1 else wAt t ((parts (t.getD i default)).getD 0 0)) ((xsT t env (t.getD i default) (parts (t.getD i default)).length).getD 0 0) ((xsT t env (t.getD i default) (parts (t.getD i default)).length).getD 1 0) ((xsT t env (t.getD i default) (parts (t.getD i default)).length).getD 2 0) := by
              rw [evT_eq hpo hi env, if_neg hn1, if_neg (by rw [hqn]; decide), xs_at _ _ _ _ (by omega), xs_at _ _ _ _ (by omega), xs_at _ _ _ _ (by omega)]; rfl
            exact hK6 (kn1.set i (evT quI t env i), _) _ ⟨kn_set hkn hi, getD_set_eq (by rw [hkn.1]; exact hi)⟩ (anyS (ho := by rw [hval] <;> rfl))
    rintro ⟨kn3, o⟩ f6 ⟨hk3, hv3⟩
    simp only [updT_k, updT_d, updT_d5, updT_v, updT_nil, Nat.reduceAdd]
    simp only at hk3 hv3
    have hl3 := hk3.1
    refine Wp.seqK fun K20 hK20 => ?_
    refine rg ?_
    refine hK20 _ ?_
    clear hK20 K20
    refine Wp.ret ?_
    try simp only [thn]
    refine retE (m := 2) (x' := I (evT quI t env i)) (ob' := [some ⟨0, .dsl true t.length (encN t) :: env.map ci⟩, some ⟨0, kn3.map ci⟩]) ?_ rfl (hx := by rw [← hv3] <;> rfl) (hi := by simp only [obShut, List.all_cons, List.all_nil, vr_2, ci_2, LV.shut, Bool.and_true])
    exact ⟨rfl, kn3, hk3, rfl⟩
theorem value_all (t : List Nd) (hok : okT t = true) (hl : t.length ≤ 80) : ∀ (m i : Nat), i < m → i < t.length → ValAt t i
  | m + 1, i, hm, hi => fun env kn he hk => value_step t hok hl i hi (fun j hj => value_all t hok hl m j (by omega) (by omega)) env kn he hk
theorem value_c (t : List Nd) (hok : okT t = true) (hl : t.length ≤ 80) (i : Nat) (hi : i < t.length) : ValAt t i := value_all t hok hl (i + 1) i (Nat.lt_succ_self i) hi
end Go.Proofs.YtkdkbnacelnljaaGreat.RE
