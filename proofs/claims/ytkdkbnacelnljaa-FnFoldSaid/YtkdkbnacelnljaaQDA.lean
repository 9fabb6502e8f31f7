/- Nodes under new numbers. Conditions: those that a theorem names. -/
import Derived.Test.YtkdkbnacelnljaaQDQ
import Derived.Test.YtkdkbnacelnljaaQD10
/-! Nodes under new numbers. Conditions: those that a theorem names. -/
set_option linter.unusedVariables false
set_option linter.unusedSimpArgs false
namespace Go.Proofs.Ytkdkbnacelnljaa.RE
open Go Go.RowKit
set_option maxRecDepth 100000
set_option maxHeartbeats 8000000

def rA (f : Int → Int) (n : Nd) : Int := if 0 < (parts n).length then f n.a else n.a
def rB' (f : Int → Int) (n : Nd) : Int := if 1 < (parts n).length then f n.b else n.b
def rC (f : Int → Int) (n : Nd) : Int := if 2 < (parts n).length then f n.c else n.c
def renF (f : Int → Int) (n : Nd) : Nd := ⟨n.op, n.w, n.k, rA f n, rB' f n, rC f n⟩
theorem same_c (i : Int) : Val E.P 37 [I i] (I i) := by
  refine CallsA.body (E := E) (fn := Try.f37) Try.func37 rfl fun B hB => ?_
  simp only [Try.ntmps37, go_sem, nl, Nat.reduceSub, Nat.reduceAdd, List.reduceReplicate]
  refine Wp.seqK fun K1 hK1 => ?_
  refine rg ?_
  refine hK1 _ ?_
  clear hK1 K1
  refine Wp.seqK fun K2 hK2 => ?_
  refine rg ?_
  refine hK2 _ ?_
  clear hK2 K2
  refine Wp.ret (retV ?_)
  simp only [List.getD_cons_zero, List.getD_cons_succ]
theorem keptFn_c (m : List Int) (p : Int) (hp : 0 ≤ p ∧ p < m.length) : CallsA E.P 73 [I p, .l (.ptr 0 0 0), .l (.ptr 1 0 0)] [some ⟨0, [.obj 2 0 1 0 m.length]⟩, some ⟨0, [.clo 37 []]⟩, some ⟨0, m.map ci⟩] fun r ob => r = I (m.getD p.toNat 0) ∧ ob = [some ⟨0, [.obj 2 0 1 0 m.length]⟩, some ⟨0, [.clo 37 []]⟩, some ⟨0, m.map ci⟩] := by
  refine CallsA.body (E := E) (fn := Try.f73) Try.func73 rfl fun B hB => ?_
  simp only [Try.ntmps73, go_sem, nl, Nat.reduceSub, Nat.reduceAdd, List.reduceReplicate]
  refine Wp.seqK fun K1 hK1 => ?_
  refine rg ?_
  refine hK1 _ ?_
  clear hK1 K1
  refine Wp.seqK fun K2 hK2 => ?_
  refine Wp.drawI [0, 1, 2] [3] (by kernel_rfl) ?_
  refine evd ?_
  refine ⟨rfl, CallK.valA (h := same_c _) (k := ?_)⟩
  refine evd ?_
  refine hK2 _ ?_
  clear hK2 K2
  refine Wp.ret (retH (n := 3) rfl rfl)
theorem renumK_c (n : Nd) (m : List Int) (hm : m.length ≤ 1048576) (hp : ∀ p ∈ parts n, 0 ≤ p ∧ p < (m.length : Int)) : CallsA E.P 72 [.agg (nl n), .l (.clo 73 [(0, 0, 0), (1, 0, 0)])] [some ⟨0, [.obj 2 0 1 0 m.length]⟩, some ⟨0, [.clo 37 []]⟩, some ⟨0, m.map ci⟩] fun r ob => r = .agg (nl (renF (fun p => m.getD p.toNat 0) n)) ∧ ob = [some ⟨0, [.obj 2 0 1 0 m.length]⟩, some ⟨0, [.clo 37 []]⟩, some ⟨0, m.map ci⟩] := by
  refine CallsA.body (E := E) (fn := Try.f72) Try.func72 rfl fun B hB => ?_
  simp only [Try.ntmps72, go_sem, nl, Nat.reduceSub, Nat.reduceAdd, List.reduceReplicate]
  have hpl := parts_len n
  refine Wp.seqK fun K1 hK1 => ?_
  refine rg ?_
  refine hK1 _ ?_
  clear hK1 K1
  refine Wp.seqK fun K2 hK2 => ?_
  refine rg ?_
  refine ⟨rfl, CallK.rowA (h := iParts_c _) (k := ?_)⟩
  refine evd ?_
  refine hK2 _ ?_
  clear hK2 K2
  refine Wp.seqU (α := Unit) (fun x => [.d, .k, .k, .d, .k, .k, .d5, .d5, .d5, .d5, .d5]) (fun x => [some ⟨0, [.obj 2 0 1 0 m.length]⟩, some ⟨0, [.clo 37 []]⟩, some ⟨0, m.map ci⟩, some ⟨0, nl ⟨n.op, n.w, n.k, (rA (fun p => m.getD p.toNat 0) n), n.b, n.c⟩⟩, some ⟨0, nl ⟨0, 0, 0, 0, 0, 0⟩⟩]) (fun x => True) (fun K3 hK3 => ?_) ?_
  · refine Wp.seqK fun K4 hK4 => ?_
    refine Wp.keep 5 (by simp [hB]) (by simp) ?_
    refine evd ?_
    refine rg ?_
    refine hK4 _ ?_
    clear hK4 K4
    refine Wp.condS (fun h10 => ?_) (fun h10 => ?_)
    · have hk : 0 < (parts n).length := by omega
      have hq := part_a hp hk
      refine rg ?_
      refine ⟨rfl, CallK.passS [0, 1, 2] (keptFn_c m _ hq) ?_⟩
      refine evd ?_
      exact hK3 () _ trivial (anyS (ho := by rw [show rA (fun p => m.getD p.toNat 0) n = (fun p => m.getD p.toNat 0) n.a from if_pos (by omega)] <;> rfl))
    · refine Wp.skip ?_
      exact hK3 () _ trivial (anyS (ho := by rw [show rA (fun p => m.getD p.toNat 0) n = n.a from if_neg (by omega)] <;> rfl))
  rintro _ f3 _
  simp only [updT_k, updT_d, updT_d5, updT_v, updT_nil, Nat.reduceAdd]
  refine Wp.seqU (α := Unit) (fun x => [.d, .k, .k, .d, .k, .k, .d5, .d5, .d5, .d5, .d5]) (fun x => [some ⟨0, [.obj 2 0 1 0 m.length]⟩, some ⟨0, [.clo 37 []]⟩, some ⟨0, m.map ci⟩, some ⟨0, nl ⟨n.op, n.w, n.k, (rA (fun p => m.getD p.toNat 0) n), (rB' (fun p => m.getD p.toNat 0) n), n.c⟩⟩, some ⟨0, nl ⟨0, 0, 0, 0, 0, 0⟩⟩]) (fun x => True) (fun K5 hK5 => ?_) ?_
  · refine Wp.seqK fun K6 hK6 => ?_
    refine rg ?_
    refine hK6 _ ?_
    clear hK6 K6
    refine Wp.condS (fun h17 => ?_) (fun h17 => ?_)
    · have hk : 1 < (parts n).length := by omega
      have hq := part_b hp hk
      refine rg ?_
      refine ⟨rfl, CallK.passS [0, 1, 2] (keptFn_c m _ hq) ?_⟩
      refine evd ?_
      exact hK5 () _ trivial (anyS (ho := by rw [show rB' (fun p => m.getD p.toNat 0) n = (fun p => m.getD p.toNat 0) n.b from if_pos (by omega)] <;> rfl))
    · refine Wp.skip ?_
      exact hK5 () _ trivial (anyS (ho := by rw [show rB' (fun p => m.getD p.toNat 0) n = n.b from if_neg (by omega)] <;> rfl))
  rintro _ f5 _
  simp only [updT_k, updT_d, updT_d5, updT_v, updT_nil, Nat.reduceAdd]
  refine Wp.seqU (α := Unit) (fun x => [.d, .d, .k, .d, .k, .d5, .d5, .d5, .d5, .d5, .d]) (fun x => [some ⟨0, [.obj 2 0 1 0 m.length]⟩, some ⟨0, [.clo 37 []]⟩, some ⟨0, m.map ci⟩, some ⟨0, nl ⟨n.op, n.w, n.k, (rA (fun p => m.getD p.toNat 0) n), (rB' (fun p => m.getD p.toNat 0) n), (rC (fun p => m.getD p.toNat 0) n)⟩⟩, some ⟨0, nl ⟨0, 0, 0, 0, 0, 0⟩⟩]) (fun x => True) (fun K7 hK7 => ?_) ?_
  · refine Wp.seqK fun K8 hK8 => ?_
    refine rg ?_
    refine hK8 _ ?_
    clear hK8 K8
    refine Wp.condS (fun h24 => ?_) (fun h24 => ?_)
    · have hk : 2 < (parts n).length := by omega
      have hq := part_c hp hk
      refine rg ?_
      refine ⟨rfl, CallK.passS [0, 1, 2] (keptFn_c m _ hq) ?_⟩
      refine evd ?_
      exact hK7 () _ trivial (anyS (ho := by rw [show rC (fun p => m.getD p.toNat 0) n = (fun p => m.getD p.toNat 0) n.c from if_pos (by omega)] <;> rfl))
    · refine Wp.skip ?_
      exact hK7 () _ trivial (anyS (ho := by rw [show rC (fun p => m.getD p.toNat 0) n = n.c from if_neg (by omega)] <;> rfl))
  rintro _ f7 _
  simp only [updT_k, updT_d, updT_d5, updT_v, updT_nil, Nat.reduceAdd]
  refine Wp.seqK fun K9 hK9 => ?_
  refine rg ?_
  refine hK9 _ ?_
  clear hK9 K9
  refine Wp.ret (retH (n := 3) (v := .agg (nl (renF (fun p => m.getD p.toNat 0) n))) rfl rfl)
end Go.Proofs.Ytkdkbnacelnljaa.RE
/-! Terms without what is not reached, the program. Conditions: those that a theorem names. -/
set_option linter.unusedVariables false
set_option linter.unusedSimpArgs false
namespace Go.Proofs.Ytkdkbnacelnljaa.RE
open Go Go.RowKit
set_option maxRecDepth 100000
set_option maxHeartbeats 8000000

/-- The places and the nodes that are kept ahead of a place. -/
def kpL (t : List Nd) (met : List Bool) : Nat → List Int × List Nd
  | 0 => (List.replicate t.length 0, [])
  | i + 1 => if met.getD i false = true then ((kpL t met i).1.set i ((kpL t met i).2.length : Int), (kpL t met i).2 ++ [renF (fun p => ((kpL t met i).1.set i ((kpL t met i).2.length : Int)).getD p.toNat 0) (t.getD i default)]) else kpL t met i
theorem kpL_len (t : List Nd) (met : List Bool) : ∀ i, (kpL t met i).1.length = t.length ∧ (kpL t met i).2.length ≤ i
  | 0 => ⟨by simp [kpL], Nat.le_refl _⟩
  | i + 1 => by
    obtain ⟨h1, h2⟩ := kpL_len t met i
    simp only [kpL]
    split
    · exact ⟨by simp [h1], by simp; omega⟩
    · exact ⟨h1, by omega⟩
theorem kpL_yes {t : List Nd} {met : List Bool} {i : Nat} (h : met.getD i false = true) : kpL t met (i + 1) = ((kpL t met i).1.set i ((kpL t met i).2.length : Int), (kpL t met i).2 ++ [renF (fun p => ((kpL t met i).1.set i ((kpL t met i).2.length : Int)).getD p.toNat 0) (t.getD i default)]) := by
  simp only [kpL]; rw [if_pos h]
theorem kpL_no {t : List Nd} {met : List Bool} {i : Nat} (h : met.getD i false = false) : kpL t met (i + 1) = kpL t met i := by
  simp only [kpL]; rw [if_neg (by rw [h]; decide)]
theorem zeroI (n : Nat) : (List.replicate n [LV.sc (.int .i64 0)]).flatten = (List.replicate n (0 : Int)).map ci := by
  induction n with
  | zero => rfl
  | succ n ih => simp only [List.replicate_succ, List.flatten_cons, List.map_cons, ih]; rfl
attribute [go_sem] zeroI
theorem kept_c (t : List Nd) (met : List Bool) (hl : t.length ≤ 1048576) (hm : met.length = t.length) (hp : PartsOk t) : Row E.P 35 [dN t, dB met, .l (.clo 37 [])] 6 (kpL t met t.length).2.length (lN (kpL t met t.length).2) := by
  refine CallsA.body (E := E) (fn := Try.f35) Try.func35 rfl fun B hB => ?_
  simp only [Try.ntmps35, go_sem, nl, Nat.reduceSub, Nat.reduceAdd, List.reduceReplicate]
  refine Wp.seqK fun K1 hK1 => ?_
  refine rg ?_
  refine hK1 _ ?_
  clear hK1 K1
  refine Wp.seqK fun K2 hK2 => ?_
  refine rg ?_
  refine hK2 _ ?_
  clear hK2 K2
  refine Wp.seqK fun K3 hK3 => ?_
  refine rg ?_
  refine hK3 _ ?_
  clear hK3 K3
  refine Wp.seqK fun K4 hK4 => ?_
  refine Wp.seqK fun K5 hK5 => ?_
  refine rg ?_
  refine hK5 _ ?_
  clear hK5 K5
  refine Wp.block ?_
  refine Wp.loopU (α := Nat) (fun x => [.d, .k, .d, .d, .d, .k, .d, .k, .v (.l (.obj 3 (kpL t met x).2.length 6 0 (kpL t met x).2.length)), .d5, .d, .k, .k, .v (I x), .d5, .d5, .d5, .d5, .d]) (fun x => [some ⟨0, [.clo 37 []]⟩, some ⟨0, (kpL t met x).1.map ci⟩, some ⟨0, [.obj 1 0 1 0 t.length]⟩, some ⟨(kpL t met x).2.length, lN (kpL t met x).2⟩]) (fun x => x ≤ t.length) (fun x => t.length - x) 0 (by omega) (anyS) ?_
  rintro x f6 K6 hx hK6
  simp only [updT_k, updT_d, updT_d5, updT_v, updT_nil, Nat.reduceAdd]
  have hkl := kpL_len t met x
  refine Wp.seqK fun K7 hK7 => ?_
  refine rg ?_
  refine hK7 _ ?_
  clear hK7 K7
  refine Wp.seqK fun K8 hK8 => ?_
  refine Wp.condS (fun h18 => ?_) (fun h18 => ?_)
  · have hxl : x < t.length := by omega
    have hpp := hp x hxl
    refine Wp.skip ?_
    refine hK8 _ ?_
    clear hK8 K8
    refine Wp.seqK fun K9 hK9 => ?_
    refine Wp.block ?_
    refine Wp.seqK fun K10 hK10 => ?_
    refine rg ?_
    refine hK10 _ ?_
    clear hK10 K10
    refine Wp.seqK fun K11 hK11 => ?_
    refine rg ?_
    refine hK11 _ ?_
    clear hK11 K11
    refine Wp.condS (fun h25 => ?_) (fun h25 => ?_)
    · have hk := kpL_yes (t := t) h25
      refine Wp.seqK fun K12 hK12 => ?_
      refine rg ?_
      refine hK12 _ ?_
      clear hK12 K12
      refine rg ?_
      refine ⟨rfl, CallK.passS [2, 0, 1] (renumK_c (t.getD x default) ((kpL t met x).1.set x ((kpL t met x).2.length : Int)) (by rw [List.length_set]; omega) (fun p hp => by have := hpp p hp; rw [List.length_set]; omega)) ?_ (ho := by simp only [obC, List.map_cons, List.map_nil, List.getD_cons_zero, List.getD_cons_succ, Option.map_some, renI, List.length_set, hkl.1]; rfl) (hs := by simp only [sigOk, List.all_cons, List.all_nil, List.getD_cons_zero, List.getD_cons_succ, List.length_cons, List.length_nil, flat_within (flatI _), Bool.and_true]; rfl)⟩
      refine evd ?_
      try simp only [thn, inB, if_true, reduceIte]
      refine hK9 _ ?_
      clear hK9 K9
      refine Wp.keep 4 (by simp [hB]) (by simp) ?_
      refine evd ?_
      refine rg ?_
      exact hK6 (x + 1) _ (by omega) (by omega) (anyS (h := by rw [hk] <;> first | rfl | (simp only [List.length_append, List.length_cons, List.length_nil, Nat.zero_add] <;> rfl)) (ho := by rw [hk] <;> first | rfl | (simp only [List.length_append, List.length_cons, List.length_nil, Nat.zero_add] <;> rfl)))
    · have hk := kpL_no (t := t) h25
      refine Wp.skip ?_
      try simp only [thn, inB, if_true, reduceIte]
      refine hK9 _ ?_
      clear hK9 K9
      refine Wp.keep 4 (by simp [hB]) (by simp) ?_
      refine evd ?_
      refine rg ?_
      exact hK6 (x + 1) _ (by omega) (by omega) (anyS (h := by rw [hk] <;> first | rfl | (simp only [List.length_append, List.length_cons, List.length_nil, Nat.zero_add] <;> rfl)) (ho := by rw [hk] <;> first | rfl | (simp only [List.length_append, List.length_cons, List.length_nil, Nat.zero_add] <;> rfl)))
  · have hxl : x = t.length := by omega
    subst hxl
    refine Wp.exit ?_
    try simp only [thn, inB, if_true, reduceIte]
    clear hK8 K8
    clear hK6 K6
    refine hK4 _ ?_
    clear hK4 K4
    refine Wp.seqK fun K13 hK13 => ?_
    refine rg ?_
    refine hK13 _ ?_
    clear hK13 K13
    refine Wp.ret (retR (cs := lN (kpL t met t.length).2) rfl rfl (lN_flat _))

theorem mem_a {n : Nd} (h : 0 < (parts n).length) : n.a ∈ parts n := by
  unfold parts at h ⊢
  split
  · simp
  · split
    · simp
    · split
      · simp
      · simp_all
theorem mem_b {n : Nd} (h : 1 < (parts n).length) : n.b ∈ parts n := by
  unfold parts at h ⊢
  split
  · simp_all
  · split
    · simp
    · split
      · simp
      · simp_all
theorem mem_c {n : Nd} (h : 2 < (parts n).length) : n.c ∈ parts n := by
  unfold parts at h ⊢
  split
  · simp_all
  · split
    · simp_all
    · split
      · simp
      · simp_all
theorem kp_prn {t : List Nd} (hok : okT t = true) : ∀ i, i ≤ t.length → (kpL t (reachT t) i).2 = (prn t (reachT t) i).2 ∧ ∀ j, j < i → (reachT t).getD j false = true → (kpL t (reachT t) i).1.getD j 0 = (prn t (reachT t) i).1.getD j 0
  | 0, _ => ⟨rfl, fun j hj => absurd hj (by omega)⟩
  | i + 1, h => by
    obtain ⟨h1, h2⟩ := kp_prn hok i (by omega)
    have hkl := kpL_len t (reachT t) i
    have hpl := prn_len t (reachT t) i
    have hrk : ReachOk t (fun _ => true) (reachT t) := reachP_ok (fun _ => true) (okT_parts hok)
    by_cases hm : (reachT t).getD i false = true
    · have e1 := kpL_yes (t := t) hm
      have e2 : prn t (reachT t) (i + 1) = ((prn t (reachT t) i).1 ++ [((prn t (reachT t) i).2.length : Int)], (prn t (reachT t) i).2 ++ [renum ((prn t (reachT t) i).1 ++ [((prn t (reachT t) i).2.length : Int)]) (t.getD i default)]) := by simp only [prn]; rw [if_pos hm]
      have hg : ∀ j, j < i → (reachT t).getD j false = true → ((kpL t (reachT t) i).1.set i ((kpL t (reachT t) i).2.length : Int)).getD j 0 = ((prn t (reachT t) i).1 ++ [((prn t (reachT t) i).2.length : Int)]).getD j 0 := fun j hj hr => by
        rw [List.getD_eq_getElem?_getD, List.getElem?_set_ne (by omega), ← List.getD_eq_getElem?_getD, h2 j hj hr]
        rw [List.getD_eq_getElem?_getD, List.getD_eq_getElem?_getD, List.getElem?_append_left (by omega)]
      have hpp : ∀ p ∈ parts (t.getD i default), ((kpL t (reachT t) i).1.set i ((kpL t (reachT t) i).2.length : Int)).getD p.toNat 0 = ((prn t (reachT t) i).1 ++ [((prn t (reachT t) i).2.length : Int)]).getD p.toNat 0 := fun p hp => by
        have hb := okT_part hok (show i < t.length by omega) p hp
        exact hg p.toNat (by omega) (hrk.clo i hm rfl p hp)
      rw [e1, e2]
      refine ⟨?_, fun j hj hr => ?_⟩
      · simp only
        rw [h1]
        congr 2
        rw [← h1]
        have hb := okT_part hok (show i < t.length by omega)
        simp only [renF, renum, Nd.mk.injEq, true_and]
        refine ⟨?_, ?_, ?_⟩
        · unfold rA ra
          split
          · rename_i hk
            exact (hpp _ (mem_a hk)).trans (by rw [h1])
          · rfl
        · unfold rB' rb
          split
          · rename_i hk
            exact (hpp _ (mem_b hk)).trans (by rw [h1])
          · rfl
        · unfold rC rc
          split
          · rename_i hk
            exact (hpp _ (mem_c hk)).trans (by rw [h1])
          · rfl
      · simp only
        by_cases hji : j = i
        · subst hji
          rw [List.getD_eq_getElem?_getD, List.getElem?_set_self (by omega), List.getD_eq_getElem?_getD, List.getElem?_append_right (by omega), h1]
          simp [hpl.1]
        · exact hg j (by omega) hr
    · have hm' : (reachT t).getD i false = false := by simpa using hm
      have e1 := kpL_no (t := t) hm'
      have e2 : prn t (reachT t) (i + 1) = ((prn t (reachT t) i).1 ++ [((prn t (reachT t) i).2.length : Int)], (prn t (reachT t) i).2) := by simp only [prn]; rw [if_neg hm]
      rw [e1, e2]
      refine ⟨h1, fun j hj hr => ?_⟩
      by_cases hji : j = i
      · subst hji; rw [hm'] at hr; cases hr
      · rw [h2 j (by omega) hr, List.getD_eq_getElem?_getD, List.getD_eq_getElem?_getD, List.getElem?_append_left (by omega)]
theorem kp_prune {t : List Nd} (hok : okT t = true) : (kpL t (reachT t) t.length).2 = pruneT t := by
  unfold pruneT
  rw [if_pos hok, (kp_prn hok t.length (Nat.le_refl _)).1]
theorem iPrune_c (t : List Nd) : Row E.P 16 [dN t] 6 (pruneT t).length (lN (pruneT t)) := by
  refine CallsA.body (E := E) (fn := Try.f16) Try.func16 rfl fun B hB => ?_
  simp only [Try.ntmps16, go_sem, nl, Nat.reduceSub, Nat.reduceAdd, List.reduceReplicate]
  refine Wp.seqK fun K1 hK1 => ?_
  refine rg ?_
  refine hK1 _ ?_
  clear hK1 K1
  refine Wp.seqK fun K2 hK2 => ?_
  refine Wp.seqK fun K3 hK3 => ?_
  refine rg ?_
  refine ⟨rfl, CallK.valA (h := iTermOk_c _) (k := ?_)⟩
  refine evd ?_
  refine hK3 _ ?_
  clear hK3 K3
  refine Wp.condS (fun h5 => ?_) (fun h5 => ?_)
  · have hpr : pruneT t = [] := by unfold pruneT; rw [if_neg (by rw [h5]; decide)]
    refine Wp.seqK fun K4 hK4 => ?_
    refine rg ?_
    refine hK4 _ ?_
    clear hK4 K4
    refine Wp.nilRow 2 6 rfl ?_
    simp only [List.set_cons_zero, List.set_cons_succ, List.cons_append, List.nil_append, List.length_cons, List.length_nil]
    refine Wp.ret (retR ?_ ?_ ?_)
    · rw [hpr] <;> rfl
    · rw [hpr] <;> rfl
    · rfl
  · have hok := h5
    have hl := okT_len hok
    have hrl := reachT_len t
    refine Wp.skip ?_
    refine hK2 _ ?_
    clear hK2 K2
    refine Wp.seqK fun K5 hK5 => ?_
    refine rg ?_
    refine ⟨rfl, CallK.rowA (h := reached_c _ (by assumption) (by omega)) (k := ?_)⟩
    refine evd ?_
    refine ⟨rfl, CallK.rowA (h := kept_c t (reachT t) (by omega) hrl (okT_parts hok)) (k := ?_)⟩
    refine evd ?_
    refine hK5 _ ?_
    clear hK5 K5
    refine Wp.ret (retR (cs := lN (kpL t (reachT t) t.length).2) ?_ ?_ (lN_flat _))
    all_goals rw [kp_prune hok]
end Go.Proofs.Ytkdkbnacelnljaa.RE
/-! Constants put together: a node. Conditions: those that a theorem names. -/
set_option linter.unusedVariables false
set_option linter.unusedSimpArgs false
namespace Go.Proofs.Ytkdkbnacelnljaa.RE
open Go Go.RowKit
set_option maxRecDepth 100000
set_option maxHeartbeats 8000000

theorem gL1 {t : List Nd} {i : Nat} (h : i < t.length) : (lN t).getD (i * 6 + 1) .dead = .sc (.int .i64 (t.getD i default).w) := (fL h (by omega)).trans rfl
theorem gL2 {t : List Nd} {i : Nat} (h : i < t.length) : (lN t).getD (i * 6 + 2) .dead = .sc (.int .i64 (t.getD i default).k) := (fL h (by omega)).trans rfl
theorem gL3 {t : List Nd} {i : Nat} (h : i < t.length) : (lN t).getD (i * 6 + 3) .dead = .sc (.int .i64 (t.getD i default).a) := (fL h (by omega)).trans rfl
theorem gL4 {t : List Nd} {i : Nat} (h : i < t.length) : (lN t).getD (i * 6 + 4) .dead = .sc (.int .i64 (t.getD i default).b) := (fL h (by omega)).trans rfl
theorem gL5 {t : List Nd} {i : Nat} (h : i < t.length) : (lN t).getD (i * 6 + 5) .dead = .sc (.int .i64 (t.getD i default).c) := (fL h (by omega)).trans rfl
theorem setL6 {t : List Nd} {i : Nat} (h : i < t.length) (a b c d e f : Int) : List.take (i * 6) (lN t) ++ [LV.sc (.int .i64 a), .sc (.int .i64 b), .sc (.int .i64 c), .sc (.int .i64 d), .sc (.int .i64 e), .sc (.int .i64 f)] ++ List.drop (i * 6 + 6) (lN t) = lN (t.set i ⟨a, b, c, d, e, f⟩) := setL h ⟨a, b, c, d, e, f⟩
attribute [go_sem] fL0 gL1 gL2 gL3 gL4 gL5 setL6
def isC (o : List Nd) (p : Int) : Bool := decide ((o.getD p.toNat default).op = 0)
def foldX (o : List Nd) (ps : List Int) (k : Nat) : List Int := (List.range 3).map fun j => if j < k then (o.getD (ps.getD j 0).toNat default).k else 0
theorem foldX_len (o : List Nd) (ps : List Int) (k : Nat) : (foldX o ps k).length = 3 := by simp [foldX]
theorem foldX_set {o : List Nd} {ps : List Int} {k : Nat} (h : k < 3) : (foldX o ps k).set k (o.getD (ps.getD k 0).toNat default).k = foldX o ps (k + 1) := by
  apply List.ext_getElem
  · simp [foldX]
  · intro i h1 h2
    simp only [foldX, List.length_set, List.length_map, List.length_range] at h1
    simp only [foldX, List.getElem_set, List.getElem_map, List.getElem_range]
    by_cases hik : k = i
    · subst hik; rw [if_pos rfl, if_pos (by omega)]
    · rw [if_neg hik]
      by_cases hlt : i < k
      · rw [if_pos hlt, if_pos (by omega)]
      · rw [if_neg hlt, if_neg (by omega)]
def foldV (o : List Nd) (n : Nd) : Nd := ⟨0, n.w, appT n (o.getD ((parts n).getD 0 0).toNat default).w ((foldX o (parts n) (parts n).length).getD 0 0) ((foldX o (parts n) (parts n).length).getD 1 0) ((foldX o (parts n) (parts n).length).getD 2 0), 0, 0, 0⟩
def foldB (o : List Nd) (n : Nd) : Bool := (decide (0 < (parts n).length) && !isQ n.op) && (parts n).all (isC o)
def foldNode (o : List Nd) (n : Nd) : Nd × Bool := if foldB o n = true then (foldV o n, true) else (n, false)
theorem all_no {l : List Int} {f : Int → Bool} {k : Nat} (hk : k < l.length) (h : f (l.getD k 0) = false) : l.all f = false := by
  rw [List.all_eq_false]
  exact ⟨l.getD k 0, by rw [← getD_at hk]; exact List.getElem_mem hk, by rw [h]; decide⟩
theorem all_push {l : List Int} {f : Int → Bool} {k : Nat} (hk : k < l.length) : (l.take (k + 1)).all f = ((l.take k).all f && f (l.getD k 0)) := by
  rw [take_push 0 hk, List.all_append]; simp
theorem folded_c (o : List Nd) (n : Nd) (hl : o.length ≤ 1048576) (hp : ∀ p ∈ parts n, 0 ≤ p ∧ p < (o.length : Int)) (hk1 : -1000 ≤ n.k) (hk2 : n.k ≤ 1000) : Val E.P 15 [dN o, .agg (nl n)] (.tup [.agg (nl (foldNode o n).1), TB (foldNode o n).2]) := by
  refine CallsA.body (E := E) (fn := Try.f15) Try.func15 rfl fun B hB => ?_
  simp only [Try.ntmps15, go_sem, nl, Nat.reduceSub, Nat.reduceAdd, List.reduceReplicate]
  have hpl := parts_len n
  refine Wp.seqK fun K1 hK1 => ?_
  refine rg ?_
  refine hK1 _ ?_
  clear hK1 K1
  refine Wp.seqK fun K2 hK2 => ?_
  refine rg ?_
  refine ⟨rfl, CallK.rowA (h := iParts_c _) (k := ?_)⟩
  refine evd ?_
  refine hK2 _ ?_
  clear hK2 K2
  refine Wp.seqK fun K3 hK3 => ?_
  refine Wp.seqU0 [.k, .d, .d, .k, .k, .d, .k, .d5, .d5, .d, .v (T (decide ((((parts n).length : Nat) : Int) = 0) || isQ n.op)), .d5, .d5, .d5, .d5, .d5, .d5, .d5, .d5, .d, .d] (fun K4 hK4 => ?_) ?_
  · refine rg ?_
    refine grdA_split rfl (fun g2_4 => ?_) (fun g2_4 => ?_)
    · try simp only [decide_eq_true_eq, decide_eq_false_iff_not] at g2_4
      refine evd ?_
      exact hK4 _ (anyS (h := by first | rfl | (simp only [g2_4, Bool.true_or, Bool.or_true, Bool.false_or, Bool.or_false, Bool.true_and, Bool.and_true, Bool.false_and, Bool.and_false, Bool.not_true, Bool.not_false, decide_true, decide_false, eq_self, Int.reduceEq] <;> rfl)))
    · try simp only [decide_eq_true_eq, decide_eq_false_iff_not] at g2_4
      refine evd ?_
      refine ⟨rfl, CallK.valA (h := isQuant_c _) (k := ?_)⟩
      refine evd ?_
      exact hK4 _ (anyS (h := by first | rfl | (simp only [g2_4, Bool.true_or, Bool.or_true, Bool.false_or, Bool.or_false, Bool.true_and, Bool.and_true, Bool.false_and, Bool.and_false, Bool.not_true, Bool.not_false, decide_true, decide_false, eq_self, Int.reduceEq] <;> rfl)))
  rintro f4
  simp only [updT_k, updT_d, updT_d5, updT_v, updT_nil, Nat.reduceAdd]
  refine Wp.condS (fun h18 => ?_) (fun h18 => ?_)
  · have hf : foldNode o n = (n, false) := if_neg (by
      unfold foldB
      rcases h18 with h | h
      · rw [decide_eq_false (show ¬ 0 < (parts n).length by omega)]; simp
      · rw [h]; simp)
    refine Wp.seqK fun K5 hK5 => ?_
    refine rg ?_
    refine hK5 _ ?_
    clear hK5 K5
    refine Wp.ret (retV (x := .tup [.agg (nl n), TB false]) ?_)
    rw [hf]
    rfl
  · have hp0 : 0 < (parts n).length := by have := h18.1; omega
    have hq0 : isQ n.op = false := h18.2
    refine Wp.skip ?_
    refine hK3 _ ?_
    clear hK3 K3
    refine Wp.seqK fun K6 hK6 => ?_
    refine rg ?_
    refine hK6 _ ?_
    clear hK6 K6
    refine Wp.seqK fun K7 hK7 => ?_
    refine Wp.seqK fun K8 hK8 => ?_
    refine rg ?_
    refine hK8 _ ?_
    clear hK8 K8
    refine Wp.block ?_
    refine Wp.loopU (α := Nat) (fun k => [.k, .d, .d, .k, .k, .d, .k, .k, .d5, .d5, .d, .d, .d, .k, .k, .v (I k), .d5, .d5, .d5, .d5, .d5, .d5, .d5, .d, .d]) (fun k => [some ⟨0, nl n⟩, some ⟨0, nl ⟨0, 0, 0, 0, 0, 0⟩⟩, some ⟨0, (parts n).map ci⟩, some ⟨0, (foldX o (parts n) k).map ci⟩]) (fun k => k ≤ (parts n).length ∧ ((parts n).take k).all (isC o) = true) (fun k => (parts n).length - k) 0 (⟨Nat.zero_le _, rfl⟩) (anyS) ?_
    rintro k f9 K9 ⟨hk, ha⟩ hK9
    simp only [updT_k, updT_d, updT_d5, updT_v, updT_nil, Nat.reduceAdd]
    have hxl := foldX_len o (parts n) k
    refine Wp.seqK fun K10 hK10 => ?_
    refine rg ?_
    refine hK10 _ ?_
    clear hK10 K10
    refine Wp.seqK fun K11 hK11 => ?_
    refine Wp.condS (fun h24 => ?_) (fun h24 => ?_)
    · have hkl : k < (parts n).length := by omega
      have hpk := hp ((parts n).getD k 0) (by rw [← getD_at hkl]; exact List.getElem_mem hkl)
      refine Wp.skip ?_
      refine hK11 _ ?_
      clear hK11 K11
      refine Wp.seqK fun K12 hK12 => ?_
      refine Wp.block ?_
      refine Wp.seqK fun K13 hK13 => ?_
      refine rg ?_
      refine hK13 _ ?_
      clear hK13 K13
      refine Wp.seqK fun K14 hK14 => ?_
      refine Wp.seqK fun K15 hK15 => ?_
      refine rg ?_
      refine hK15 _ ?_
      clear hK15 K15
      refine Wp.condS (fun h33 => ?_) (fun h33 => ?_)
      · have hf : foldNode o n = (n, false) := if_neg (by
          unfold foldB
          rw [all_no hkl (by unfold isC; exact decide_eq_false h33)]; simp)
        refine Wp.seqK fun K16 hK16 => ?_
        refine rg ?_
        refine hK16 _ ?_
        clear hK16 K16
        refine Wp.ret (retV (x := .tup [.agg (nl n), TB false]) ?_)
        rw [hf]
        rfl
      · have hc : isC o ((parts n).getD k 0) = true := decide_eq_true h33
        refine Wp.skip ?_
        refine hK14 _ ?_
        clear hK14 K14
        refine rg ?_
        try simp only [thn, inB, if_true, reduceIte]
        refine hK12 _ ?_
        clear hK12 K12
        refine rg ?_
        exact hK9 (k + 1) _ ⟨by omega, by rw [all_push hkl, ha, hc]; rfl⟩ (by omega) (anyS (ho := by rw [← foldX_set (by omega)] <;> rfl))
    · have hkl : k = (parts n).length := by omega
      subst hkl
      rw [List.take_length] at ha
      have hp0k := hp ((parts n).getD 0 0) (by rw [← getD_at hp0]; exact List.getElem_mem hp0)
      have hf : foldNode o n = (foldV o n, true) := if_pos (by unfold foldB; rw [decide_eq_true hp0, hq0, ha]; rfl)
      refine Wp.exit ?_
      try simp only [thn, inB, if_true, reduceIte]
      clear hK11 K11
      clear hK9 K9
      refine hK7 _ ?_
      clear hK7 K7
      refine Wp.seqK fun K17 hK17 => ?_
      refine Wp.drawI [0, 2, 3] [16, 18] (by kernel_rfl) ?_
      refine evd ?_
      refine ⟨rfl, CallK.valA (h := iApply_c _ _ _ _ _ (by omega) (by omega)) (k := ?_)⟩
      refine evd ?_
      refine hK17 _ ?_
      clear hK17 K17
      refine Wp.ret (retV (x := .tup [.agg (nl (foldV o n)), TB true]) ?_)
      rw [hf]
      rfl
end Go.Proofs.Ytkdkbnacelnljaa.RE
/-! Constants put together, the program. Conditions: those that a theorem names. -/
set_option linter.unusedVariables false
set_option linter.unusedSimpArgs false
namespace Go.Proofs.Ytkdkbnacelnljaa.RE
open Go Go.RowKit
set_option maxRecDepth 100000
set_option maxHeartbeats 8000000

theorem okT_w {t : List Nd} (h : okT t = true) {i : Nat} (hi : i < t.length) : 1 ≤ (t.getD i default).w ∧ (t.getD i default).w ≤ 8 := by
  have hs := okT_at h hi
  simp only [sRight, Bool.and_eq_true, decide_eq_true_eq] at hs
  exact hs.2.1
theorem okT_kb {t : List Nd} (h : okT t = true) {i : Nat} (hi : i < t.length) : -1000 ≤ (t.getD i default).k ∧ (t.getD i default).k ≤ 1000 := by
  have hs := okT_at h hi
  have hp := okT_part h hi
  have hw := okT_w h hi
  simp only [sRight, Bool.and_eq_true] at hs
  have hr := hs.2.2
  clear hs
  generalize hn : t.getD i default = n at *
  by_cases h17 : n.op = 17
  · have hps := parts_1 (n := n) (by omega)
    rw [hps] at hp hr
    have ha := hp n.a (by simp)
    have hwa := okT_w h (i := n.a.toNat) (by omega)
    unfold rule at hr
    rw [if_neg (by omega), if_neg (by omega), if_neg (by omega), if_neg (by simp; omega), if_neg (by simp; omega), if_neg (by omega), if_pos h17] at hr
    simp only [List.map_cons, List.map_nil, List.getD_cons_zero, wAt, Bool.and_eq_true, decide_eq_true_eq] at hr
    rw [wr (by omega) (by omega)] at hr
    omega
  · unfold rule at hr
    split at hr
    · simp only [Bool.and_eq_true] at hr
      have h1 := wordOk_t hr.1.1.1
      have h2 := pw (show 0 ≤ n.w by omega) hw.2
      omega
    · split at hr
      · simp only [Bool.and_eq_true, decide_eq_true_eq] at hr; omega
      · split at hr
        · simp only [Bool.and_eq_true, decide_eq_true_eq] at hr; omega
        · split at hr
          · simp only [Bool.and_eq_true, decide_eq_true_eq] at hr; omega
          · split at hr
            · simp only [Bool.and_eq_true, decide_eq_true_eq] at hr; omega
            · split at hr
              · simp only [Bool.and_eq_true, decide_eq_true_eq] at hr; omega
              · split at hr
                · simp only [Bool.and_eq_true, decide_eq_true_eq] at hr; omega
                · split at hr
                  · simp only [Bool.and_eq_true, decide_eq_true_eq] at hr; omega
                  · cases hr
def fM (t : List Nd) : Nat → List Nd
  | 0 => t
  | x + 1 => (fM t x).set x (foldNode (fM t x) (t.getD x default)).1
theorem fM_len (t : List Nd) : ∀ x, (fM t x).length = t.length
  | 0 => rfl
  | x + 1 => by simp [fM, fM_len t x]
theorem fM_at (t : List Nd) : ∀ (x j : Nat), x ≤ j → (fM t x).getD j default = t.getD j default
  | 0, _, _ => rfl
  | x + 1, j, h => by
    simp only [fM]
    rw [List.getD_eq_getElem?_getD, List.getElem?_set_ne (by omega), ← List.getD_eq_getElem?_getD, fM_at t x j (by omega)]
theorem fM_no {t : List Nd} {x : Nat} (hx : x < t.length) (h : (foldNode (fM t x) (t.getD x default)).2 = false) : fM t (x + 1) = fM t x := by
  have h1 : (foldNode (fM t x) (t.getD x default)).1 = t.getD x default := by
    unfold foldNode at h ⊢
    split
    · rename_i hh; rw [if_pos hh] at h; cases h
    · rfl
  simp only [fM]
  rw [h1, ← fM_at t x x (Nat.le_refl _)]
  have hl := fM_len t x
  apply List.ext_getElem?
  intro j
  by_cases hj : j = x
  · subst hj
    rw [List.getElem?_set_self (by omega), ← getD_at (show j < (fM t j).length by omega), List.getElem?_eq_getElem]
  · rw [List.getElem?_set_ne (by omega)]
def foldT (t : List Nd) : List Nd × Bool := if okT t = true then (pruneT (fM t t.length), true) else ([], false)
theorem foldT_len (t : List Nd) : (foldT t).1.length ≤ 80 := by
  unfold foldT
  split
  · exact pruneT_len' _
  · exact Nat.zero_le _
theorem fM_at' {t : List Nd} {x : Nat} (h : x < t.length) : (fM t x).getD x default = t.getD x default := fM_at t x x (Nat.le_refl _)
attribute [go_sem] fM_at'
theorem iFold_c (t : List Nd) : Ret E.P 6 [dN t] (.tup [.l (.obj 0 0 6 0 (foldT t).1.length), TB (foldT t).2]) [some ⟨0, lN (foldT t).1⟩] := by
  refine CallsA.body (E := E) (fn := Try.f6) Try.func6 rfl fun B hB => ?_
  simp only [Try.ntmps6, go_sem, nl, Nat.reduceSub, Nat.reduceAdd, List.reduceReplicate]
  refine Wp.seqK fun K1 hK1 => ?_
  refine rg ?_
  refine hK1 _ ?_
  clear hK1 K1
  refine Wp.seqK fun K2 hK2 => ?_
  refine Wp.seqK fun K3 hK3 => ?_
  refine rg ?_
  refine ⟨rfl, CallK.valA (h := iTermOk_c _) (k := ?_)⟩
  refine evd ?_
  refine hK3 _ ?_
  clear hK3 K3
  refine Wp.condS (fun h11 => ?_) (fun h11 => ?_)
  · have hc : foldT t = ([], false) := if_neg (by rw [h11]; decide)
    refine Wp.seqK fun K4 hK4 => ?_
    refine rg ?_
    refine hK4 _ ?_
    clear hK4 K4
    refine Wp.nilRow 2 6 rfl ?_
    simp only [List.set_cons_zero, List.set_cons_succ, List.cons_append, List.nil_append, List.length_cons, List.length_nil]
    refine Wp.ret (retRB ?_ ?_ ?_)
    all_goals rw [hc]
    all_goals rfl
  · have hok := h11
    have hl := okT_len hok
    have hc : foldT t = (pruneT (fM t t.length), true) := if_pos hok
    refine Wp.skip ?_
    refine hK2 _ ?_
    clear hK2 K2
    refine Wp.seqK fun K5 hK5 => ?_
    refine rg ?_
    refine hK5 _ ?_
    clear hK5 K5
    refine Wp.seqK fun K6 hK6 => ?_
    refine Wp.seqK fun K7 hK7 => ?_
    refine rg ?_
    refine hK7 _ ?_
    clear hK7 K7
    refine Wp.block ?_
    refine Wp.loopU (α := Nat) (fun x => [.d, .d, .d, .d, .k, .d5, .d, .d, .d, .d, .k, .k, .v (I x), .d5, .d5, .d5, .d, .d, .d]) (fun x => [some ⟨0, lN (fM t x)⟩]) (fun x => x ≤ t.length) (fun x => t.length - x) 0 (by omega) (anyS) ?_
    rintro x f8 K8 hx hK8
    simp only [updT_k, updT_d, updT_d5, updT_v, updT_nil, Nat.reduceAdd]
    have hfm := fM_len t x
    refine Wp.seqK fun K9 hK9 => ?_
    refine rg ?_
    refine hK9 _ ?_
    clear hK9 K9
    refine Wp.seqK fun K10 hK10 => ?_
    refine Wp.condS (fun h17 => ?_) (fun h17 => ?_)
    · have hxl : x < t.length := by omega
      have hpp := okT_part hok hxl
      have hpm : ∀ p ∈ parts (t.getD x default), 0 ≤ p ∧ p < ((fM t x).length : Int) := fun p hp => by have := hpp p hp; omega
      have hkb := okT_kb hok hxl
      refine Wp.skip ?_
      refine hK10 _ ?_
      clear hK10 K10
      refine Wp.seqK fun K11 hK11 => ?_
      refine Wp.block ?_
      refine Wp.seqK fun K12 hK12 => ?_
      refine rg ?_
      refine hK12 _ ?_
      clear hK12 K12
      refine Wp.seqK fun K13 hK13 => ?_
      refine rg ?_
      refine ⟨rfl, CallK.valA (h := folded_c _ _ (by omega) hpm (by omega) (by omega)) (k := ?_)⟩
      refine evd ?_
      refine hK13 _ ?_
      clear hK13 K13
      refine Wp.seqK fun K14 hK14 => ?_
      refine rg ?_
      refine hK14 _ ?_
      clear hK14 K14
      refine Wp.condS (fun h27 => ?_) (fun h27 => ?_)
      · have hst : fM t (x + 1) = (fM t x).set x (foldNode (fM t x) (t.getD x default)).1 := rfl
        refine rg ?_
        try simp only [thn, inB, if_true, reduceIte]
        refine hK11 _ ?_
        clear hK11 K11
        refine Wp.keep 1 (by simp [hB]) (by simp) ?_
        refine evd ?_
        refine rg ?_
        exact hK8 (x + 1) _ (by omega) (by omega) (anyS (ho := by rw [hst] <;> rfl))
      · have hst := fM_no hxl h27
        refine Wp.skip ?_
        try simp only [thn, inB, if_true, reduceIte]
        refine hK11 _ ?_
        clear hK11 K11
        refine Wp.keep 1 (by simp [hB]) (by simp) ?_
        refine evd ?_
        refine rg ?_
        exact hK8 (x + 1) _ (by omega) (by omega) (anyS (ho := by rw [hst] <;> rfl))
    · have hxl : x = t.length := by omega
      subst hxl
      refine Wp.exit ?_
      try simp only [thn, inB, if_true, reduceIte]
      clear hK10 K10
      clear hK8 K8
      refine hK6 _ ?_
      clear hK6 K6
      refine Wp.seqK fun K15 hK15 => ?_
      refine rg ?_
      refine ⟨rfl, CallK.rowA (h := iPrune_c _) (k := ?_)⟩
      refine evd ?_
      refine hK15 _ ?_
      clear hK15 K15
      refine Wp.ret (retRB (cs := lN (pruneT (fM t t.length))) ?_ ?_ ?_)
      all_goals rw [hc]
end Go.Proofs.Ytkdkbnacelnljaa.RE
