/- Levels, what is reached. Conditions: those that a theorem names. -/
import Derived.Test.YtkdkbnacelnljaaGreatNF6
import Derived.Test.YtkdkbnacelnljaaGreatNDQ
import Derived.Test.YtkdkbnacelnljaaGreatNCX
import Derived.Test.YtkdkbnacelnljaaGreatNF8
set_option linter.unusedVariables false
set_option linter.unusedSimpArgs false
namespace Go.Proofs.YtkdkbnacelnljaaGreat.RE
open Go Go.RowKit
set_option maxRecDepth 100000
set_option maxHeartbeats 8000000

def mxL (b : List Int) (ps : List Int) : Int := ps.foldl (fun m p => max m (b.getD p.toNat 0)) 0
def levL (t : List Nd) : Nat → List Int
  | 0 => []
  | x + 1 => levL t x ++ [mxL (levL t x) (parts (t.getD x default)) + 1]
def levelT (t : List Nd) : Int := if okT t = true then (levL t t.length).getD (t.length - 1) 0 else 0
theorem levL_len (t : List Nd) : ∀ x, (levL t x).length = x
  | 0 => rfl
  | x + 1 => by simp [levL, levL_len t x]
theorem mxL_push {b ps : List Int} {k : Nat} (h : k < ps.length) : mxL b (ps.take (k + 1)) = max (mxL b (ps.take k)) (b.getD (ps.getD k 0).toNat 0) := by
  unfold mxL
  rw [take_push 0 h, List.foldl_append]; rfl
theorem mxL_le {b : List Int} {c : Int} (hb : ∀ i, b.getD i 0 ≤ c) (hc : 0 ≤ c) : ∀ (ps : List Int), 0 ≤ mxL b ps ∧ mxL b ps ≤ c := by
  suffices h : ∀ (ps : List Int) (m : Int), 0 ≤ m → m ≤ c → 0 ≤ ps.foldl (fun m p => max m (b.getD p.toNat 0)) m ∧ ps.foldl (fun m p => max m (b.getD p.toNat 0)) m ≤ c from fun ps => h ps 0 (Int.le_refl _) hc
  intro ps
  induction ps with
  | nil => exact fun m h1 h2 => ⟨h1, h2⟩
  | cons p ps ih =>
    intro m h1 h2
    have := hb p.toNat
    exact ih (max m (b.getD p.toNat 0)) (by omega) (by omega)
theorem levL_b (t : List Nd) : ∀ x i, 0 ≤ (levL t x).getD i 0 ∧ (levL t x).getD i 0 ≤ (x : Int)
  | 0, i => by simp [levL]
  | x + 1, i => by
    have ih := levL_b t x
    have hm := mxL_le (b := levL t x) (c := x) (fun i => (ih i).2) (by omega) (parts (t.getD x default))
    have hl := levL_len t x
    simp only [levL]
    by_cases hi : i < x
    · rw [List.getD_eq_getElem?_getD, List.getElem?_append_left (by omega), ← List.getD_eq_getElem?_getD]
      have := ih i
      omega
    · by_cases he : i = x
      · subst he
        rw [List.getD_eq_getElem?_getD, List.getElem?_append_right (by omega), hl, Nat.sub_self]
        simp only [List.getElem?_cons_zero, Option.getD_some]
        omega
      · rw [List.getD_eq_getElem?_getD, List.getElem?_eq_none (by simp; omega)]
        simp only [Option.getD_none]
        omega
attribute [go_sem] levL_len
theorem getD_ci {l : List Int} {i : Nat} (h : i < l.length) : (l.map ci).getD i .dead = .sc (.int .i64 (l.getD i 0)) := by
  simp [List.getD_eq_getElem?_getD, h, ci]
def lvZ (t : List Nd) (x : Nat) : List Int := levL t x ++ List.replicate (t.length - x) 0
theorem lvZ_len {t : List Nd} {x : Nat} (h : x ≤ t.length) : (lvZ t x).length = t.length := by simp [lvZ, levL_len]; omega
theorem lvZ_at {t : List Nd} {x p : Nat} (h : p < x) (d : Int) : (lvZ t x).getD p d = (levL t x).getD p d := by
  unfold lvZ
  rw [List.getD_eq_getElem?_getD, List.getElem?_append_left (by rw [levL_len]; omega), ← List.getD_eq_getElem?_getD]
theorem lvZ_set {t : List Nd} {x : Nat} (h : x < t.length) : (lvZ t x).set x (mxL (levL t x) (parts (t.getD x default)) + 1) = lvZ t (x + 1) := by
  unfold lvZ
  rw [List.set_append_right _ _ (by rw [levL_len]; exact Nat.le_refl _), levL_len, Nat.sub_self, show t.length - x = t.length - (x + 1) + 1 by omega, List.replicate_succ, List.set_cons_zero]
  simp [levL]
theorem lvZ_0 (t : List Nd) : lvZ t 0 = List.replicate t.length 0 := by simp [lvZ, levL]
theorem lvZ_end (t : List Nd) : lvZ t t.length = levL t t.length := by simp [lvZ]
theorem lvs_at {t : List Nd} {x : Nat} (h : x < t.length) (v d : Int) : ((lvZ t x).set x v).getD x d = v := by
  rw [List.getD_eq_getElem?_getD, List.getElem?_set_self (by rw [lvZ_len (by omega)]; exact h)]; rfl
theorem lvs_ne {t : List Nd} {x p : Nat} (h : p < x) (v d : Int) : ((lvZ t x).set x v).getD p d = (levL t x).getD p d := by
  rw [List.getD_eq_getElem?_getD, List.getElem?_set_ne (by omega), ← List.getD_eq_getElem?_getD, lvZ_at h]
theorem map_ci_rep (n : Nat) : List.replicate n (LV.sc (.int .i64 0)) = (List.replicate n (0 : Int)).map ci := by simp [ci]
theorem iLevel_c (t : List Nd) (hlb : t.length ≤ 1048576) : Val E.P 19 [dN t] (I (levelT t)) := by
  refine CallsA.body (E := E) (fn := Tryz.f19) Tryz.func19 rfl fun B hB => ?_
  simp only [Tryz.ntmps19, go_sem, nl, Nat.reduceSub, Nat.reduceAdd, List.reduceReplicate]
  refine Wp.seqK fun K1 hK1 => ?_
  refine rg ?_
  refine hK1 _ ?_
  clear hK1 K1
  refine Wp.seqK fun K2 hK2 => ?_
  refine Wp.seqK fun K3 hK3 => ?_
  refine rg ?_
  refine ⟨rfl, CallK.valA (h := iTermOk_c _) (k := ?_)⟩
  refine evd ?_
  refine hK3 _ ?_
  clear hK3 K3
  refine Wp.condS (fun h10 => ?_) (fun h10 => ?_)
  · have hs : levelT t = 0 := if_neg (by rw [h10]; decide)
    refine Wp.seqK fun K4 hK4 => ?_
    refine rg ?_
    refine hK4 _ ?_
    clear hK4 K4
    refine Wp.ret (retV ?_)
    try simp only [List.getD_cons_zero, List.getD_cons_succ]
    rw [hs]
  · have hok := h10
    have hl := okT_len hok
    have hpo := okT_parts hok
    have hs : levelT t = (levL t t.length).getD (t.length - 1) 0 := if_pos hok
    refine Wp.skip ?_
    refine hK2 _ ?_
    clear hK2 K2
    refine Wp.seqK fun K5 hK5 => ?_
    refine rg ?_
    refine hK5 _ ?_
    clear hK5 K5
    refine Wp.seqK fun K6 hK6 => ?_
    refine Wp.seqK fun K7 hK7 => ?_
    refine rg ?_
    refine hK7 _ ?_
    clear hK7 K7
    refine Wp.block ?_
    refine Wp.loopU (α := Nat) (fun x => [.k, .d, .d, .k, .d5, .d5, .k, .k, .v (I x), .d5, .d5, .d5, .d5, .d5, .d5, .d5]) (fun x => [some ⟨0, (lvZ t x).map ci⟩]) (fun x => x ≤ t.length) (fun x => t.length - x) 0 (by omega) (anyS (ho := by rw [lvZ_0] <;> first | rfl | (simp only [map_ci_rep] <;> rfl) | (simp [ci]))) ?_
    rintro x f8 K8 hx hK8
    simp only [updT_k, updT_d, updT_d5, updT_v, updT_nil, Nat.reduceAdd]
    have hll := lvZ_len hx
    refine Wp.seqK fun K9 hK9 => ?_
    refine rg ?_
    refine hK9 _ ?_
    clear hK9 K9
    refine Wp.seqK fun K10 hK10 => ?_
    refine Wp.condS (fun h17 => ?_) (fun h17 => ?_)
    · have hxl : x < t.length := by omega
      have hpp := hpo x hxl
      have hpl := parts_len (t.getD x default)
      refine Wp.skip ?_
      refine hK10 _ ?_
      clear hK10 K10
      refine Wp.seqK fun K11 hK11 => ?_
      refine Wp.block ?_
      refine Wp.seqK fun K12 hK12 => ?_
      refine rg ?_
      refine hK12 _ ?_
      clear hK12 K12
      refine Wp.seqK fun K13 hK13 => ?_
      refine rg ?_
      refine hK13 _ ?_
      clear hK13 K13
      refine Wp.seqK fun K14 hK14 => ?_
      refine rg ?_
      refine ⟨rfl, CallK.rowA (h := iParts_c _) (k := ?_)⟩
      refine evd ?_
      refine hK14 _ ?_
      clear hK14 K14
      refine Wp.block ?_
      refine Wp.loopU (α := Nat) (fun k => [.k, .d, .d, .k, .k, .d5, .d, .d, .d, .d, .k, .k, .k, .d5, .d, .d, .d, .k, .k, .v (I k), .d5, .d5, .d5, .d5, .d, .d, .d, .d]) (fun k => [some ⟨0, ((lvZ t x).set x ((mxL (levL t x) ((parts (t.getD x default)).take k)) + 1)).map ci⟩, some ⟨0, nl (t.getD x default)⟩, some ⟨0, (parts (t.getD x default)).map ci⟩]) (fun k => k ≤ (parts (t.getD x default)).length) (fun k => (parts (t.getD x default)).length - k) 0 (by omega) (anyS) ?_
      rintro k f15 K15 hk hK15
      simp only [updT_k, updT_d, updT_d5, updT_v, updT_nil, Nat.reduceAdd]
      have hsl : ((lvZ t x).set x ((mxL (levL t x) ((parts (t.getD x default)).take k)) + 1)).length = t.length := by rw [List.length_set, hll]
      refine Wp.seqK fun K16 hK16 => ?_
      refine rg ?_
      refine hK16 _ ?_
      clear hK16 K16
      refine Wp.seqK fun K17 hK17 => ?_
      refine Wp.condS (fun h28 => ?_) (fun h28 => ?_)
      · have hkl : k < (parts (t.getD x default)).length := by omega
        have hpk := hpp ((parts (t.getD x default)).getD k 0) (by rw [← getD_at hkl]; exact List.getElem_mem hkl)
        have hlb := levL_b t x ((parts (t.getD x default)).getD k 0).toNat
        have hm := mxL_le (b := levL t x) (c := x) (fun i => (levL_b t x i).2) (by omega) ((parts (t.getD x default)).take k)
        have e1 := lvs_at hxl ((mxL (levL t x) ((parts (t.getD x default)).take k)) + 1) 0
        have e2 := lvs_ne (t := t) (x := x) (p := ((parts (t.getD x default)).getD k 0).toNat) (by omega) ((mxL (levL t x) ((parts (t.getD x default)).take k)) + 1) 0
        have e3 : (if ((lvZ t x).set x ((mxL (levL t x) ((parts (t.getD x default)).take k)) + 1)).getD ((parts (t.getD x default)).getD k 0).toNat 0 + 1 > (mxL (levL t x) ((parts (t.getD x default)).take k)) + 1 then ((lvZ t x).set x ((mxL (levL t x) ((parts (t.getD x default)).take k)) + 1)).getD ((parts (t.getD x default)).getD k 0).toNat 0 + 1 else (mxL (levL t x) ((parts (t.getD x default)).take k)) + 1) = max (mxL (levL t x) ((parts (t.getD x default)).take k)) ((levL t x).getD ((parts (t.getD x default)).getD k 0).toNat 0) + 1 := by
          rw [e2]
          split <;> omega
        refine Wp.skip ?_
        refine hK17 _ ?_
        clear hK17 K17
        refine Wp.seqK fun K18 hK18 => ?_
        refine Wp.block ?_
        refine Wp.seqK fun K19 hK19 => ?_
        refine rg ?_
        refine hK19 _ ?_
        clear hK19 K19
        refine Wp.drawI [0, 1, 2] [] (by kernel_rfl) ?_
        refine evd ?_
        try simp only [thn, inB, if_true, reduceIte]
        refine hK18 _ ?_
        clear hK18 K18
        refine rg ?_
        exact hK15 (k + 1) _ (by omega) (by omega) (anyS (ho := by rw [mxL_push hkl, ← e3] <;> rfl))
      · have hkl : k = (parts (t.getD x default)).length := by omega
        subst hkl
        simp only [List.take_length]
        refine Wp.exit ?_
        try simp only [thn, inB, if_true, reduceIte]
        clear hK17 K17
        clear hK15 K15
        try simp only [thn, inB, if_true, reduceIte]
        refine hK11 _ ?_
        clear hK11 K11
        refine Wp.keep 1 (by simp [hB]) (by simp) ?_
        refine evd ?_
        refine rg ?_
        exact hK8 (x + 1) _ (by omega) (by omega) (anyS (ho := by rw [lvZ_set hxl] <;> rfl))
    · have hxl : x = t.length := by omega
      subst hxl
      simp only [lvZ_end]
      refine Wp.exit ?_
      try simp only [thn, inB, if_true, reduceIte]
      clear hK10 K10
      clear hK8 K8
      refine hK6 _ ?_
      clear hK6 K6
      refine Wp.seqK fun K20 hK20 => ?_
      refine rg ?_
      refine hK20 _ ?_
      clear hK20 K20
      refine Wp.ret (retV ?_)
      try simp only [List.getD_cons_zero, List.getD_cons_succ]
      rw [hs]
      try rw [show ((t.length : Int) - 1).toNat = t.length - 1 by omega]
      try rw [getD_ci (by rw [levL_len]; omega)]

end Go.Proofs.YtkdkbnacelnljaaGreat.RE

/-! FnCounts: what is counted. Conditions: those that a theorem names. -/
set_option linter.unusedVariables false
set_option linter.unusedSimpArgs false
namespace Go.Proofs.YtkdkbnacelnljaaGreat.RE
open Go Go.RowKit
set_option maxRecDepth 100000
set_option maxHeartbeats 8000000

/-! ### No way is longer than there are nodes -/
end Go.Proofs.YtkdkbnacelnljaaGreat.RE

/-! FnCounts. Conditions: those that a theorem names. -/
set_option linter.unusedVariables false
set_option linter.unusedSimpArgs false
namespace Go.Proofs.YtkdkbnacelnljaaGreat.RE
open Go Go.RowKit
set_option maxRecDepth 100000
set_option maxHeartbeats 8000000

/-! ### A part of a row lent -/
section
variable {P : Program} {f : FuncId} {st : St} {d : Option Tmp} {K : St → Prop} {t : List Nd} {n g : Nat} {al : List AV}
end
/-! ### The draw -/
theorem CallK.new0 {P : Program} {f : FuncId} {args args' : List AV} {st : St} {d : Option Tmp} {K : St → Prop} {l : List Int} (h : CallsA P f args' [] (fun r ob => ∃ h : Int, r = .l (.ptr 0 0 0) ∧ ob = [some (cur l 0 h)]))
    (k : ∀ s : Int, K ⟨putT st.tm d (.l (.ptr st.ob.length 0 0)), st.ob ++ [some (cur l 0 s)]⟩) (ha : args.map (AV.toC (List.range 0) []) = args' := by rfl) : CallK P f args st d K :=
  CallK.handE 0 (obm := []) h (fun r ob1 ⟨s, e1, e2⟩ => ⟨[], [some (cur l 0 s)], e2, rfl, rfl, by
    have := k s
    rw [e1]
    simpa [AV.ren, LV.ren, shm, Ob.ren] using this⟩) rfl ha rfl (Nat.zero_le _)
def atT (l : List Int) (k : Int) : Int := if k < (l.length : Int) then IntKind.i64.wrap (l.getD k.toNat 0) else (k * 7 + l.length).tmod 256
theorem at_c (l : List Int) (k : Int) (hk : 0 ≤ k ∧ k ≤ 1000) (hl : l.length ≤ 1048576) : Val E.P 13 [dY l, I k] (I (atT l k)) := by
  refine CallsA.body (E := E) (fn := Tryz.f13) Tryz.func13 rfl fun B hB => ?_
  simp only [Tryz.ntmps13, go_sem, nl, Nat.reduceSub, Nat.reduceAdd, List.reduceReplicate]
  refine Wp.seqK fun K1 hK1 => ?_
  refine rg ?_
  refine hK1 _ ?_
  clear hK1 K1
  refine Wp.seqK fun K2 hK2 => ?_
  refine Wp.seqK fun K3 hK3 => ?_
  refine rg ?_
  refine hK3 _ ?_
  clear hK3 K3
  refine Wp.condS (fun h8 => ?_) (fun h8 => ?_)
  · have e : atT l k = IntKind.i64.wrap (l.getD k.toNat 0) := if_pos (by omega)
    refine Wp.seqK fun K4 hK4 => ?_
    refine rg ?_
    refine hK4 _ ?_
    clear hK4 K4
    refine Wp.ret (retV ?_)
    try simp only [List.getD_cons_zero, List.getD_cons_succ]
    rw [e]
  · have e : atT l k = (k * 7 + l.length).tmod 256 := if_neg (by omega)
    refine Wp.skip ?_
    refine hK2 _ ?_
    clear hK2 K2
    refine Wp.seqK fun K5 hK5 => ?_
    refine rg ?_
    refine hK5 _ ?_
    clear hK5 K5
    refine Wp.ret (retV ?_)
    try simp only [List.getD_cons_zero, List.getD_cons_succ]
    rw [e]
theorem big_c (l : List Int) : Val E.P 11 [dY l] (T (decide (1048576 < (l.length : Int)))) := by
  refine CallsA.body (E := E) (fn := Tryz.f11) Tryz.func11 rfl fun B hB => ?_
  simp only [Tryz.ntmps11, go_sem, nl, Nat.reduceSub, Nat.reduceAdd, List.reduceReplicate]
  refine Wp.seqK fun K1 hK1 => ?_
  refine rg ?_
  refine hK1 _ ?_
  clear hK1 K1
  refine Wp.seqK fun K2 hK2 => ?_
  refine rg ?_
  refine hK2 _ ?_
  clear hK2 K2
  refine Wp.ret (retV ?_)
  try simp only [List.getD_cons_zero, List.getD_cons_succ]
  try rfl
end Go.Proofs.YtkdkbnacelnljaaGreat.RE
