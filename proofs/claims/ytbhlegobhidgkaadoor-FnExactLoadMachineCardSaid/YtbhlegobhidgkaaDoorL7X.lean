/- LoadMachine, the reference. Conditions: those that a theorem names. -/
import Derived.Test.YtbhlegobhidgkaaDoorXB
set_option linter.unusedVariables false
set_option linter.unusedSimpArgs false
namespace Go.Proofs.YtbhlegobhidgkaaDoor.RE
open Go Go.RowKit
set_option maxRecDepth 100000
set_option maxHeartbeats 8000000

/-! ### Words of lines as a row of frozen slices -/
def wdC (l : ByteArray) : LV := .dsl false (pcs 32 l).length (encT (pcs 32 l))
def wsC (s : ByteArray) (x : Nat) : List LV := ((linesS s).take x).map wdC
theorem lines_ln {s : ByteArray} {i : Nat} (h : i < (linesS s).length) : (linesS s).getD i ⟨#[]⟩ = lnP s i := by
  unfold linesS lnP at *
  rw [List.length_take] at h
  rw [List.getD_eq_getElem?_getD, List.getElem?_take, if_pos (by omega), ← List.getD_eq_getElem?_getD]
theorem wsC_len {s : ByteArray} {x : Nat} (h : x ≤ (linesS s).length) : (wsC s x).length = x := by
  unfold wsC
  rw [List.length_map, List.length_take]; omega
theorem wsC_at {s : ByteArray} {x i : Nat} (hi : i < x) (hx : x ≤ (linesS s).length) : (wsC s x).getD i .dead = .dsl false (pcs 32 (lnP s i)).length (encT (pcs 32 (lnP s i))) := by
  rw [← lines_ln (by omega)]
  unfold wsC
  rw [List.getD_eq_getElem?_getD, List.getElem?_map, List.getElem?_take, if_pos hi, List.getD_eq_getElem?_getD, List.getElem?_eq_getElem (by omega)]
  rfl
theorem wsC_push {s : ByteArray} {x : Nat} (hx : x < (linesS s).length) : wsC s (x + 1) = wsC s x ++ [.dsl false (pcs 32 (lnP s x)).length (encT (pcs 32 (lnP s x)))] := by
  rw [← lines_ln hx]
  unfold wsC
  rw [List.take_succ_eq_append_getElem hx, List.map_append, List.getD_eq_getElem?_getD, List.getElem?_eq_getElem hx]
  rfl
theorem flatW (s : ByteArray) (x : Nat) : (wsC s x).all LV.flat = true := by
  unfold wsC
  rw [List.all_eq_true]
  intro c hc
  obtain ⟨l, _, rfl⟩ := List.mem_map.1 hc
  rfl
theorem renW (m : Nat → Nat → Option (Nat × Nat)) (s : ByteArray) (x : Nat) : (wsC s x).map (LV.ren m) = wsC s x := map_flat (flatW s x)
theorem encT_full (l : List ByteArray) : (encT l).take l.length = encT l := List.take_of_length_le (by rw [encT_len]; exact Nat.le_refl _)
theorem renWa (m : Nat → Nat → Option (Nat × Nat)) (s : ByteArray) (x n : Nat) (e : List DV) : (wsC s x ++ [LV.dsl false n e]).map (LV.ren m) = wsC s x ++ [LV.dsl false n e] := by
  rw [List.map_append, renW]; rfl
attribute [go_sem] renW renWa wsC_at wsC_len encT_full
theorem lines_len (s : ByteArray) : (linesS s).length = (pcs 10 s).length - 1 := by
  unfold linesS
  rw [List.length_take]; omega
def lnOk (s : ByteArray) : Bool := decide (s.size ≤ 400000 ∧ 7 ≤ (linesS s).length ∧ (linesS s).length ≤ 47)
theorem lines_c (s : ByteArray) (hs : s.size ≤ 1048576) : Ret E.P 47 [S s] (.l (.dsl false (linesS s).length (encT (linesS s)))) [] := by
  have := l11Lines_c s hs
  rw [show List.take ((pcs 10 s).length - 1) (pcs 10 s) = linesS s from rfl, ← lines_len] at this
  exact this
theorem wOk_no {i n : Nat} (h : ¬ (2 ≤ n ∧ (i = 6 → n = 4) ∧ (6 < i → n = 3))) : wOk i n = false := decide_eq_false h
theorem wOk_yes {i n : Nat} (h : 2 ≤ n ∧ (i = 6 → n = 4) ∧ (6 < i → n = 3)) : wOk i n = true := decide_eq_true h
theorem wOk_get {i n : Nat} (h : wOk i n = true) : 2 ≤ n ∧ (i = 6 → n = 4) ∧ (6 < i → n = 3) := of_decide_eq_true h
theorem lno_1 {s : ByteArray} (h : lnOk s = false) : loadB s = false := by
  rw [← (load_eq s).1]
  unfold loadBS sC
  rw [show decide (s.size ≤ 400000 ∧ 7 ≤ (linesS s).length ∧ (linesS s).length ≤ 47) = false from h]
  rfl
theorem wsOk_at {l : List ByteArray} (h : wsOk l = true) {i : Nat} (hi : i < l.length) : wOk i (pcs 32 (l.getD i ⟨#[]⟩)).length = true := by
  have := List.all_eq_true.1 h (l.getD i ⟨#[]⟩, i) (by rw [List.mem_zipIdx_iff_getElem?]; simp [List.getD_eq_getElem?_getD, List.getElem?_eq_getElem hi])
  exact this
theorem wsOk_all {l : List ByteArray} (h : ∀ i, i < l.length → wOk i (pcs 32 (l.getD i ⟨#[]⟩)).length = true) : wsOk l = true := by
  refine List.all_eq_true.2 fun p hp => ?_
  obtain ⟨x, i⟩ := p
  rw [List.mem_zipIdx_iff_getElem?] at hp
  simp only at hp ⊢
  have hi := (List.getElem?_eq_some_iff.1 hp)
  have := h i hi.1
  rwa [List.getD_eq_getElem?_getD, hp] at this
theorem lno_2 {s : ByteArray} {i : Nat} (hi : i < (linesS s).length) (h : wOk i (pcs 32 (lnP s i)).length = false) : loadB s = false := by
  rw [← (load_eq s).1]
  have e : wsOk (linesS s) = false := by
    rw [← Bool.not_eq_true]
    intro e
    have := wsOk_at e hi
    rw [lines_ln hi, h] at this
    cases this
  unfold loadBS sC
  rw [e]
  simp
theorem lno_3 {s : ByteArray} (h : (rowOk (wS s 0 1) && rkS (wS s 1 1)) = false) : loadB s = false := by
  rw [← (load_eq s).1]
  unfold loadBS sC
  rw [h]
  simp
theorem sC_yes {s : ByteArray} (h1 : lnOk s = true) (h2 : ∀ i, i < (linesS s).length → wOk i (pcs 32 (lnP s i)).length = true) (h3 : (rowOk (wS s 0 1) && rkS (wS s 1 1)) = true) : sC s = true := by
  unfold sC
  rw [show decide (s.size ≤ 400000 ∧ 7 ≤ (linesS s).length ∧ (linesS s).length ≤ 47) = true from h1, h3, wsOk_all fun i hi => by rw [lines_ln hi]; exact h2 i hi]
  rfl
theorem wS_le (s : ByteArray) (i k : Nat) : (wS s i k).size ≤ s.size := Nat.le_trans (getD_size (fun _ h => pcs_size h) k) (ln_le s i)
/-! ### Values, the memo -/
def bS (w : ByteArray) (x : Nat) : List Int := (w.data.toList.take x).map fun b => (b.toNat : Int) - 48
theorem bS_len {w : ByteArray} {x : Nat} (h : x ≤ w.data.toList.length) : (bS w x).length = x := by
  unfold bS
  rw [List.length_map, List.length_take]; omega
theorem bS_push {w : ByteArray} {x : Nat} (h : x < w.data.toList.length) : bS w (x + 1) = bS w x ++ [((w.data.toList.getD x 0).toNat : Int) - 48] := by
  unfold bS
  rw [take_push 0 h, List.map_append]; rfl
theorem bS_end {w : ByteArray} {x : Nat} (h0 : w = ⟨#[45]⟩ → x = 0) (h : x = w.data.toList.length ∨ w = ⟨#[45]⟩) : bS w x = bitsS w := by
  unfold bS bitsS
  by_cases hw : w = ⟨#[45]⟩
  · rw [if_pos hw, h0 hw]; rfl
  · rw [if_neg hw]
    rcases h with h | h
    · rw [h, List.take_length]
    · exact absurd h hw
def sX (s : ByteArray) (x : Nat) : List Sn := (((linesS s).drop 7).take x).map snS
theorem sX_len {s : ByteArray} {x : Nat} (h : x + 7 ≤ (linesS s).length) : (sX s x).length = x := by
  unfold sX
  rw [List.length_map, List.length_take, List.length_drop]; omega
theorem sX_push {s : ByteArray} {x : Nat} (h : x + 7 < (linesS s).length) : sX s (x + 1) = sX s x ++ [⟨wS s (x + 7) 1, rtS (wS s (x + 7) 2)⟩] := by
  unfold sX
  have hx : x < ((linesS s).drop 7).length := by rw [List.length_drop]; omega
  rw [List.take_succ_eq_append_getElem hx, List.map_append]
  congr 1
  rw [List.getElem_drop]
  have e : (linesS s)[7 + x]'(by omega) = lnP s (x + 7) := by
    rw [← lines_ln h, List.getD_eq_getElem?_getD, List.getElem?_eq_getElem h]
    simp only [Nat.add_comm, Option.getD_some]
  rw [List.map_cons, List.map_nil, e]
  rfl
theorem sX_end {s : ByteArray} {x : Nat} (h : x + 7 = (linesS s).length) : sX s x = (mS s).memo := by
  show _ = ((linesS s).drop 7).map snS
  unfold sX
  rw [List.take_of_length_le (by rw [List.length_drop]; omega)]
theorem bitsS_le (s : ByteArray) : (bitsS s).length ≤ s.size := by
  unfold bitsS
  split
  · exact Nat.zero_le _
  · rw [List.length_map, size_list]; exact Nat.le_refl _
theorem mS_fits {s : ByteArray} (hs : s.size ≤ 1048576) : (mS s).Fits := by
  have hp := pcs_le 10 s
  refine ⟨Nat.le_trans (rowQ_le _) (by decide), ?_, ?_, ?_, fun x hx => ?_⟩
  · show (okO (rkS (wS s 1 1)) (rkO (wS s 1 1))).size ≤ 1048576
    unfold okO
    split
    · have h1 := wS_le s 1 1
      have h3 : (rkO (wS s 1 1)).size ≤ (wS s 1 1).size := by unfold rkO; exact ext_le _ _ _
      omega
    · exact Nat.zero_le _
  · have h1 := bitsS_le (wS s 3 1)
    have h2 := wS_le s 3 1
    show (bitsS (wS s 3 1)).length ≤ 1048576
    omega
  · show (((linesS s).drop 7).map snS).length ≤ 1048576
    have := lines_len s
    rw [List.length_map, List.length_drop]; omega
  · obtain ⟨l, hl, rfl⟩ := List.mem_map.1 (show x ∈ ((linesS s).drop 7).map snS from hx)
    have h1 : (snS l).key.size ≤ l.size := getD_size (fun _ h => pcs_size h) 1
    have h2 := pcs_size (List.mem_of_mem_take (List.mem_of_mem_drop hl))
    omega

/-! ### A record with many fields is built in one step -/
theorem stepG_build {E : Env} {ds : List (Option Tmp)} {D : List Nat} {L : List (Oper × Bool)} {i : Nat} {K : St → Prop} {st : St} {d : Option Tmp} {t : TypeId} {ps : Array (Nat × Operand)} {ty : TypeId} {pos : String} {after : Array Edge} {fs : List (TypeId × Nat)} {sz by_ : Nat} {z : List DV} {pl : List (Nat × Nat)} {cs : List LV}
    (hL : L.getD i (default, false) = (⟨d, .build t ps, ty, pos, after, none⟩, false)) (hT : E.T t = some ⟨.st fs, sz, by_, z⟩) (hp : plcF E fs = some pl) (hf : fillF (fun i => pl[i]?) st.tm (z.map (LV.ofD false)) ps.toList = some cs) (k : K ⟨putT st.tm d (.agg cs), st.ob⟩) : stepG E ds D (L.getD i (default, false)) K st := by
  rw [hL, stepG_none]
  refine ⟨trivial, ?_⟩
  show buildF E _ st d t ps.toList
  unfold buildF
  rw [hT]
  simp only [hp, hf]
  exact k
theorem sLoad_c (s : ByteArray) (hs : s.size ≤ 1048576) : Ret E.P 15 [S s] (.tup [.agg (mO 0 1 2 (loadM s)), TB (loadB s)]) (mR (loadM s)) := by
  refine CallsA.body (E := E) (fn := Tryd.f15) Tryd.func15 rfl fun B hB => ?_
  simp only [Tryd.ntmps15, go_sem, nl, Nat.reduceSub, Nat.reduceAdd, List.reduceReplicate]
  have hll := lines_len s
  have hp2 := pcs_le 10 s
  refine Wp.seqK fun K1 hK1 => ?_
  refine rg ?_
  refine hK1 _ ?_
  clear hK1 K1
  refine Wp.seqK fun K2 hK2 => ?_
  refine rg ?_
  refine hK2 _ ?_
  clear hK2 K2
  refine Wp.seqK fun K3 hK3 => ?_
  refine rg ?_
  refine ⟨rfl, CallK.retA (h := lines_c s (by omega)) (ha := .same rfl .nil) (k := ?_)⟩
  refine evd ?_
  refine hK3 _ ?_
  clear hK3 K3
  refine Wp.seqK fun K4 hK4 => ?_
  refine Wp.seqU0 [.k, .d, .k, .d, .k, .k, .d5, .d5, .d5, .d5, .d5, .d, .d, .d, .v (T (!lnOk s)), .d5, .d5, .d5, .d5, .d5, .d5, .d5, .d5, .d5, .d5, .d5, .d5, .d5, .d5, .d5, .d5, .d5, .d5, .d5, .d5, .d5, .d5, .d5, .d5, .d5, .d5, .d5, .d5, .d5, .d5, .d5, .d5, .d5, .d, .d] (fun K5 hK5 => ?_) ?_
  · as_aux_lemma =>
      refine rg ?_
      refine grdA_split rfl (fun g3_4 => ?_) (fun g3_4 => ?_)
      · try simp only [decide_eq_true_eq, decide_eq_false_iff_not] at g3_4
        try refine evd ?_
        have e : (!lnOk s) = true := by
          rw [show lnOk s = false from decide_eq_false (fun h => by omega)]; rfl
        exact hK5 _ (anyS (h := by rw [e]; rfl))
      · try simp only [decide_eq_true_eq, decide_eq_false_iff_not] at g3_4
        try refine evd ?_
        refine grdA_split rfl (fun g3_9 => ?_) (fun g3_9 => ?_)
        · try simp only [decide_eq_true_eq, decide_eq_false_iff_not] at g3_9
          try refine evd ?_
          have e : (!lnOk s) = true := by
            rw [show lnOk s = false from decide_eq_false (fun h => by omega)]; rfl
          exact hK5 _ (anyS (h := by rw [e]; rfl))
        · try simp only [decide_eq_true_eq, decide_eq_false_iff_not] at g3_9
          try refine evd ?_
          have e : (!lnOk s) = decide ((47 : Int) < ((linesS s).length : Int)) := by
            unfold lnOk; rw [← decide_not]; exact decide_eq_decide.2 ⟨fun h => by omega, fun h => by omega⟩
          exact hK5 _ (anyS (h := by rw [e]; rfl))
  rintro f5
  simp only [updT_k, updT_d, updT_d5, updT_v, updT_nil, Nat.reduceAdd]
  refine Wp.condS (fun h34 => ?_) (fun h34 => ?_)
  · have hld : loadB s = false := lno_1 (by simpa using h34)
    refine Wp.seqK fun K6 hK6 => ?_
    refine rg ?_
    refine hK6 _ ?_
    clear hK6 K6
    rw [show loadM s = default from if_neg (by rw [hld]; simp), hld]
    refine Wp.nilCell 0 0 1 rfl rfl ?_
    refine evd ?_
    refine Wp.nilCell 0 4 1 rfl rfl ?_
    refine evd ?_
    refine Wp.nilCell 0 10 2 rfl rfl ?_
    refine evd ?_
    refine Wp.ret (retL [2, 3, 4] rfl (Nat.zero_le _) (by decide) (by simp) rfl ?_)
    simp only [keepO, List.take_zero, List.map_nil, List.nil_append, List.map_cons, List.getD_cons_zero, List.getD_cons_succ, Option.map_some]
    try rfl
  · have hlo : lnOk s = true := by simpa using h34
    have hlo2 := of_decide_eq_true hlo
    refine Wp.skip ?_
    refine hK4 _ ?_
    clear hK4 K4
    refine Wp.seqK fun K7 hK7 => ?_
    refine rg ?_
    refine hK7 _ ?_
    clear hK7 K7
    refine Wp.seqK fun K8 hK8 => ?_
    refine Wp.seqK fun K9 hK9 => ?_
    refine rg ?_
    refine hK9 _ ?_
    clear hK9 K9
    refine Wp.block ?_
    refine Wp.loopU (α := Nat) (fun x => [.k, .d, .k, .d, .k, .k, .v (.l (.obj 2 x 1 0 x)), .v (I x), .d5, .d5, .d5, .d5, .d5, .d5, .d5, .d5, .d5, .d5, .d5, .d5, .d5, .d5, .d5, .d5, .d5, .d5, .d5, .d5, .d5, .d5, .d5, .d5, .d5, .d5, .d5, .d5, .d5, .d5, .d5, .d5, .d5, .d5, .d5, .d5, .d5, .d5, .d, .d, .d, .d]) (fun x => [some ⟨0, [.nils, .sc (.int .i64 0), .sc (.string ⟨#[]⟩), .sc (.int .i64 0), .nils, .sc (.int .i64 0), .sc (.bool false), .sc (.int .i64 0), .sc (.int .i64 0), .sc (.int .i64 0), .nils]⟩, some ⟨0, [.nils, .sc (.int .i64 0), .sc (.string ⟨#[]⟩), .sc (.int .i64 0), .nils, .sc (.int .i64 0), .sc (.bool false), .sc (.int .i64 0), .sc (.int .i64 0), .sc (.int .i64 0), .nils]⟩, some ⟨x, wsC s x⟩]) (fun x => x ≤ (linesS s).length ∧ ∀ i, i < x → wOk i (pcs 32 (lnP s i)).length = true) (fun x => (linesS s).length - x) 0 (⟨Nat.zero_le _, fun i h => absurd h (by omega)⟩) (anyS) ?_
    rintro x f10 K10 ⟨hx, hw⟩ hK10
    simp only [updT_k, updT_d, updT_d5, updT_v, updT_nil, Nat.reduceAdd]
    have hwl := wsC_len hx
    refine Wp.seqK fun K11 hK11 => ?_
    refine Wp.seqK fun K12 hK12 => ?_
    refine rg ?_
    refine hK12 _ ?_
    clear hK12 K12
    refine Wp.condS (fun h40 => ?_) (fun h40 => ?_)
    · have hxl : x < (linesS s).length := by omega
      refine Wp.skip ?_
      refine hK11 _ ?_
      clear hK11 K11
      refine Wp.seqK fun K13 hK13 => ?_
      refine Wp.block ?_
      refine Wp.seqK fun K14 hK14 => ?_
      refine rg ?_
      have hln := ln_le s x
      rw [lines_ln hxl]
      refine ⟨rfl, CallK.retA (h := l11Words_c (lnP s x) (by omega)) (ha := .same rfl .nil) (k := ?_)⟩
      refine evd ?_
      refine hK14 _ ?_
      clear hK14 K14
      refine Wp.seqK fun K15 hK15 => ?_
      refine Wp.seqU0 [.k, .d, .k, .d, .k, .k, .k, .k, .k, .d5, .d5, .d5, .d5, .d5, .d5, .d5, .d5, .d5, .d5, .d5, .d, .d, .d, .d, .v (T (!wOk x (pcs 32 (lnP s x)).length)), .d5, .d5, .d5, .d5, .d5, .d5, .d5, .d5, .d5, .d5, .d5, .d5, .d5, .d5, .d5, .d5, .d5, .d5, .d5, .d5, .d5, .d5, .d5, .d5, .d5, .d5, .d, .d, .d] (fun K16 hK16 => ?_) ?_
      · as_aux_lemma =>
          refine rg ?_
          refine grdA_split rfl (fun g10_4 => ?_) (fun g10_4 => ?_)
          · try simp only [Bool.not_eq_true', Bool.not_eq_false', decide_eq_true_eq, decide_eq_false_iff_not] at g10_4
            try refine evd ?_
            have e : (!wOk x (pcs 32 (lnP s x)).length) = true := by
              rw [wOk_no (i := x) (n := (pcs 32 (lnP s x)).length) (fun h => by omega)]; rfl
            exact hK16 _ (anyS (h := by rw [e]; rfl))
          · try simp only [Bool.not_eq_true', Bool.not_eq_false', decide_eq_true_eq, decide_eq_false_iff_not] at g10_4
            try refine evd ?_
            refine grdA_split rfl (fun g10_7 => ?_) (fun g10_7 => ?_)
            · try simp only [Bool.not_eq_true', Bool.not_eq_false', decide_eq_true_eq, decide_eq_false_iff_not] at g10_7
              try refine evd ?_
              refine grdA_split rfl (fun g10_13 => ?_) (fun g10_13 => ?_)
              · try simp only [Bool.not_eq_true', Bool.not_eq_false', decide_eq_true_eq, decide_eq_false_iff_not] at g10_13
                try refine evd ?_
                have e : (!wOk x (pcs 32 (lnP s x)).length) = true := by
                  rw [wOk_no (i := x) (n := (pcs 32 (lnP s x)).length) (fun h => by omega)]; rfl
                exact hK16 _ (anyS (h := by rw [e]; rfl))
              · try simp only [Bool.not_eq_true', Bool.not_eq_false', decide_eq_true_eq, decide_eq_false_iff_not] at g10_13
                try refine evd ?_
                refine grdA_split rfl (fun g10_16 => ?_) (fun g10_16 => ?_)
                · try simp only [Bool.not_eq_true', Bool.not_eq_false', decide_eq_true_eq, decide_eq_false_iff_not] at g10_16
                  try refine evd ?_
                  exfalso
                  omega
                · try simp only [Bool.not_eq_true', Bool.not_eq_false', decide_eq_true_eq, decide_eq_false_iff_not] at g10_16
                  try refine evd ?_
                  have e : (!wOk x (pcs 32 (lnP s x)).length) = false := by
                    rw [wOk_yes (i := x) (n := (pcs 32 (lnP s x)).length) ⟨by omega, fun _ => by omega, fun _ => by omega⟩]; rfl
                  exact hK16 _ (anyS (h := by rw [e]; rfl))
            · try simp only [Bool.not_eq_true', Bool.not_eq_false', decide_eq_true_eq, decide_eq_false_iff_not] at g10_7
              try refine evd ?_
              refine grdA_split rfl (fun g10_16 => ?_) (fun g10_16 => ?_)
              · try simp only [Bool.not_eq_true', Bool.not_eq_false', decide_eq_true_eq, decide_eq_false_iff_not] at g10_16
                try refine evd ?_
                have e : (!wOk x (pcs 32 (lnP s x)).length) = !decide (((pcs 32 (lnP s x)).length : Int) = 3) := by
                  by_cases h3 : ((pcs 32 (lnP s x)).length : Int) = 3
                  · rw [wOk_yes (i := x) (n := (pcs 32 (lnP s x)).length) ⟨by omega, fun _ => by omega, fun _ => by omega⟩, decide_eq_true h3]
                  · rw [wOk_no (fun h => by omega), decide_eq_false h3]
                exact hK16 _ (anyS (h := by rw [e]; rfl))
              · try simp only [Bool.not_eq_true', Bool.not_eq_false', decide_eq_true_eq, decide_eq_false_iff_not] at g10_16
                try refine evd ?_
                have e : (!wOk x (pcs 32 (lnP s x)).length) = false := by
                  rw [wOk_yes (i := x) (n := (pcs 32 (lnP s x)).length) ⟨by omega, fun _ => by omega, fun _ => by omega⟩]; rfl
                exact hK16 _ (anyS (h := by rw [e]; rfl))
      rintro f16
      simp only [updT_k, updT_d, updT_d5, updT_v, updT_nil, Nat.reduceAdd]
      refine Wp.condS (fun h68 => ?_) (fun h68 => ?_)
      · have hld : loadB s = false := lno_2 hxl (by simpa using h68)
        refine Wp.seqK fun K17 hK17 => ?_
        refine rg ?_
        refine hK17 _ ?_
        clear hK17 K17
        rw [show loadM s = default from if_neg (by rw [hld]; simp), hld]
        refine Wp.nilCell 0 0 1 rfl rfl ?_
        refine evd ?_
        refine Wp.nilCell 0 4 1 rfl rfl ?_
        refine evd ?_
        refine Wp.nilCell 0 10 2 rfl rfl ?_
        refine evd ?_
        refine Wp.ret (retL [3, 4, 5] rfl (Nat.zero_le _) (by decide) (by simp) rfl ?_)
        simp only [keepO, List.take_zero, List.map_nil, List.nil_append, List.map_cons, List.getD_cons_zero, List.getD_cons_succ, Option.map_some]
        try rfl
      · have hwx : wOk x (pcs 32 (lnP s x)).length = true := by simpa using h68
        refine Wp.skip ?_
        refine hK15 _ ?_
        clear hK15 K15
        refine rg ?_
        try simp only [thn, inB, if_true, reduceIte]
        refine hK13 _ ?_
        clear hK13 K13
        refine Wp.keepR 3 [] (by rw [hB]; simp) (by simp) (by simp) (by simp) ?_
        refine evd ?_
        refine rg ?_
        exact hK10 (x + 1) _ ⟨by omega, fun i hi => by
          rcases Nat.lt_or_ge i x with h | h
          · exact hw i h
          · rwa [show i = x by omega]⟩ (by omega) (anyS (ho := by rw [wsC_push hxl]))
    · have hxl : x = (linesS s).length := by omega
      subst hxl
      have w0 := wOk_get (hw 0 (by omega))
      have w1 := wOk_get (hw 1 (by omega))
      have w2 := wOk_get (hw 2 (by omega))
      have w3 := wOk_get (hw 3 (by omega))
      have w4 := wOk_get (hw 4 (by omega))
      have w5 := wOk_get (hw 5 (by omega))
      have w6 := wOk_get (hw 6 (by omega))
      have w64 := w6.2.1 rfl
      refine Wp.exit ?_
      try simp only [thn, inB, if_true, reduceIte]
      clear hK11 K11
      clear hK10 K10
      refine hK8 _ ?_
      clear hK8 K8
      refine Wp.seqK fun K18 hK18 => ?_
      refine rg ?_
      refine ⟨rfl, CallK.retA (h := sReadRow_c (wS s 0 1) (by have := wS_le s 0 1; omega)) (ha := .same rfl .nil) (k := ?_)⟩
      refine evd ?_
      refine hK18 _ ?_
      clear hK18 K18
      refine Wp.seqK fun K19 hK19 => ?_
      refine rg ?_
      refine ⟨rfl, CallK.valA (h := sReadKey_c (wS s 1 1) (by have := wS_le s 1 1; omega)) (ha := .same rfl .nil) (k := ?_)⟩
      refine evd ?_
      refine hK19 _ ?_
      clear hK19 K19
      refine Wp.seqK fun K20 hK20 => ?_
      refine Wp.seqU0 [.k, .d, .k, .d, .k, .d, .k, .d, .d, .k, .d, .k, .d5, .d5, .d5, .d5, .d5, .d5, .d5, .d5, .d5, .d5, .d5, .d5, .d5, .d5, .d5, .d5, .d5, .v (T (!(rowOk (wS s 0 1) && rkS (wS s 1 1)))), .d5, .d5, .d5, .d5, .d5, .d5, .d5, .d5, .d5, .d5, .d5, .d5, .d5, .d5, .d5, .d5, .d5, .d5, .d5, .d5, .d, .d, .d, .d] (fun K21 hK21 => ?_) ?_
      · as_aux_lemma =>
          refine rg ?_
          refine grdA_split rfl (fun g15_3 => ?_) (fun g15_3 => ?_)
          · try simp only [decide_eq_true_eq, decide_eq_false_iff_not] at g15_3
            try refine evd ?_
            have e : rowOk (wS s 0 1) = false := by simpa using g15_3
            exact hK21 _ (anyS (h := by rw [e]; rfl))
          · try simp only [decide_eq_true_eq, decide_eq_false_iff_not] at g15_3
            try refine evd ?_
            have e : rowOk (wS s 0 1) = true := by simpa using g15_3
            exact hK21 _ (anyS (h := by rw [e, Bool.true_and]; rfl))
      rintro f21
      simp only [updT_k, updT_d, updT_d5, updT_v, updT_nil, Nat.reduceAdd]
      refine Wp.condS (fun h97 => ?_) (fun h97 => ?_)
      · have hld : loadB s = false := lno_3 (by simpa using h97)
        refine Wp.seqK fun K22 hK22 => ?_
        refine rg ?_
        refine hK22 _ ?_
        clear hK22 K22
        rw [show loadM s = default from if_neg (by rw [hld]; simp), hld]
        refine Wp.nilCell 0 0 1 rfl rfl ?_
        refine evd ?_
        refine Wp.nilCell 0 4 1 rfl rfl ?_
        refine evd ?_
        refine Wp.nilCell 0 10 2 rfl rfl ?_
        refine evd ?_
        refine Wp.ret (retL [5, 6, 7] rfl (Nat.zero_le _) (by decide) (by simp) rfl ?_)
        simp only [keepO, List.take_zero, List.map_nil, List.nil_append, List.map_cons, List.getD_cons_zero, List.getD_cons_succ, Option.map_some]
        try rfl
      · have hok3 : (rowOk (wS s 0 1) && rkS (wS s 1 1)) = true := by simpa using h97
        have hsc := sC_yes hlo hw hok3
        refine Wp.skip ?_
        refine hK20 _ ?_
        clear hK20 K20
        refine Wp.seqU (α := Unit) (fun u_ => [.k, .d, .k, .d, .k, .d, .k, .d5, .d, .v (.l (.ptr 5 0 0)), .d5, .d5, .d5, .d5, .d5, .d5, .d5, .d5, .d5, .d5, .d5, .d5, .d5, .d5, .d5, .d5, .d5, .d5, .d5, .d5, .d5, .d5, .d5, .d5, .d5, .d5, .d5, .d5, .d5, .d5, .d5, .d5, .d5, .d5, .d5, .d5, .d5, .d, .d, .d]) (fun u_ => [some ⟨0, [.nils, .sc (.int .i64 0), .sc (.string ⟨#[]⟩), .sc (.int .i64 0), .nils, .sc (.int .i64 0), .sc (.bool false), .sc (.int .i64 0), .sc (.int .i64 0), .sc (.int .i64 0), .nils]⟩, some ⟨0, [.nils, .sc (.int .i64 0), .sc (.string ⟨#[]⟩), .sc (.int .i64 0), .nils, .sc (.int .i64 0), .sc (.bool false), .sc (.int .i64 0), .sc (.int .i64 0), .sc (.int .i64 0), .nils]⟩, some ⟨(linesS s).length, wsC s (linesS s).length⟩, some ⟨0, ((mS s).row).map cb⟩, some ⟨0, tb (mS s).n (mS s).ones⟩, some ⟨0, mCells (.obj 3 0 1 0 (mS s).row.length) .nils .nils (mS s)⟩]) (fun u_ => True) (fun K23 hK23 => ?_) ?_
        · as_aux_lemma =>
            refine Wp.drawS [0, 1, 2, 3, 4] [7, 13, 25, 31, 37, 39] (.one 0 (.one 1 (.one 2 (.one 3 (.one 4 (.one 5 (.one 6 (.one 8 (.one 9 (.one 10 (.one 11 (.one 12 (.one 14 (.one 15 (.one 16 (.one 17 (.one 18 (.one 19 (.one 20 (.one 21 (.one 22 (.one 23 (.one 24 (.one 26 (.one 27 (.one 28 (.one 29 (.one 30 (.one 32 (.one 33 (.one 34 (.one 35 (.one 36 (.two 7 39 (.two 13 39 (.two 25 39 (.two 31 39 (.two 37 39 (.one 38 (.one 39 (.one 40 .done))) (.one 37 (.one 38 (.one 40 .done)))) (.one 31 (.one 37 (.one 38 (.one 40 .done))))) (.one 25 (.one 31 (.one 37 (.one 38 (.one 40 .done)))))) (.one 13 (.one 25 (.one 31 (.one 37 (.one 38 (.one 40 .done))))))) (.one 7 (.one 13 (.one 25 (.one 31 (.one 37 (.one 38 (.one 40 .done))))))))))))))))))))))))))))))))))))))))) rfl (by kernel_rfl) ?_
            simp only [flg, strip_mk]
            refine tG_one fun Kt17_1 ht17_1 => ?_
            refine evd ?_
            refine ht17_1 _ ?_
            clear ht17_1 Kt17_1
            refine tG_one fun Kt17_2 ht17_2 => ?_
            refine evd ?_
            refine ht17_2 _ ?_
            clear ht17_2 Kt17_2
            refine tG_one fun Kt17_3 ht17_3 => ?_
            refine evd ?_
            refine ht17_3 _ ?_
            clear ht17_3 Kt17_3
            refine tG_one fun Kt17_4 ht17_4 => ?_
            refine evd ?_
            refine ht17_4 _ ?_
            clear ht17_4 Kt17_4
            refine tG_one fun Kt17_5 ht17_5 => ?_
            refine evd ?_
            refine ht17_5 _ ?_
            clear ht17_5 Kt17_5
            refine tG_one fun Kt17_6 ht17_6 => ?_
            refine evd ?_
            refine ht17_6 _ ?_
            clear ht17_6 Kt17_6
            refine tG_one fun Kt17_7 ht17_7 => ?_
            refine evd ?_
            refine ht17_7 _ ?_
            clear ht17_7 Kt17_7
            refine tG_one fun Kt17_8 ht17_8 => ?_
            refine evd ?_
            refine ht17_8 _ ?_
            clear ht17_8 Kt17_8
            refine tG_one fun Kt17_9 ht17_9 => ?_
            refine evd ?_
            refine ht17_9 _ ?_
            clear ht17_9 Kt17_9
            refine tG_one fun Kt17_10 ht17_10 => ?_
            refine evd ?_
            refine ht17_10 _ ?_
            clear ht17_10 Kt17_10
            refine tG_one fun Kt17_11 ht17_11 => ?_
            refine evd ?_
            refine ht17_11 _ ?_
            clear ht17_11 Kt17_11
            refine tG_one fun Kt17_12 ht17_12 => ?_
            refine evd ?_
            refine ht17_12 _ ?_
            clear ht17_12 Kt17_12
            refine tG_one fun Kt17_13 ht17_13 => ?_
            refine evd ?_
            refine ht17_13 _ ?_
            clear ht17_13 Kt17_13
            refine tG_one fun Kt17_14 ht17_14 => ?_
            refine evd ?_
            refine ht17_14 _ ?_
            clear ht17_14 Kt17_14
            refine tG_one fun Kt17_15 ht17_15 => ?_
            refine evd ?_
            refine ht17_15 _ ?_
            clear ht17_15 Kt17_15
            refine tG_one fun Kt17_16 ht17_16 => ?_
            refine evd ?_
            refine ht17_16 _ ?_
            clear ht17_16 Kt17_16
            refine tG_one fun Kt17_17 ht17_17 => ?_
            refine evd ?_
            refine ht17_17 _ ?_
            clear ht17_17 Kt17_17
            refine tG_one fun Kt17_18 ht17_18 => ?_
            refine evd ?_
            refine ht17_18 _ ?_
            clear ht17_18 Kt17_18
            refine tG_one fun Kt17_19 ht17_19 => ?_
            refine evd ?_
            refine ht17_19 _ ?_
            clear ht17_19 Kt17_19
            refine tG_one fun Kt17_20 ht17_20 => ?_
            refine evd ?_
            refine ht17_20 _ ?_
            clear ht17_20 Kt17_20
            refine tG_one fun Kt17_21 ht17_21 => ?_
            refine evd ?_
            refine ht17_21 _ ?_
            clear ht17_21 Kt17_21
            refine tG_one fun Kt17_22 ht17_22 => ?_
            refine evd ?_
            refine ht17_22 _ ?_
            clear ht17_22 Kt17_22
            refine tG_one fun Kt17_23 ht17_23 => ?_
            refine evd ?_
            refine ht17_23 _ ?_
            clear ht17_23 Kt17_23
            refine tG_one fun Kt17_24 ht17_24 => ?_
            refine evd ?_
            refine ht17_24 _ ?_
            clear ht17_24 Kt17_24
            refine tG_one fun Kt17_25 ht17_25 => ?_
            refine evd ?_
            refine ht17_25 _ ?_
            clear ht17_25 Kt17_25
            refine tG_one fun Kt17_26 ht17_26 => ?_
            refine evd ?_
            refine ht17_26 _ ?_
            clear ht17_26 Kt17_26
            refine tG_one fun Kt17_27 ht17_27 => ?_
            refine evd ?_
            refine ht17_27 _ ?_
            clear ht17_27 Kt17_27
            refine tG_one fun Kt17_28 ht17_28 => ?_
            refine evd ?_
            refine ht17_28 _ ?_
            clear ht17_28 Kt17_28
            refine tG_one fun Kt17_29 ht17_29 => ?_
            refine evd ?_
            refine ht17_29 _ ?_
            clear ht17_29 Kt17_29
            refine tG_one fun Kt17_30 ht17_30 => ?_
            refine evd ?_
            refine ht17_30 _ ?_
            clear ht17_30 Kt17_30
            refine tG_one fun Kt17_31 ht17_31 => ?_
            refine evd ?_
            refine ht17_31 _ ?_
            clear ht17_31 Kt17_31
            refine tG_one fun Kt17_32 ht17_32 => ?_
            refine evd ?_
            refine ht17_32 _ ?_
            clear ht17_32 Kt17_32
            refine tG_one fun Kt17_33 ht17_33 => ?_
            refine evd ?_
            refine ht17_33 _ ?_
            clear ht17_33 Kt17_33
            refine tG_two (fun Kt17_34 ht17_34 => ?_) (fun Kt17_34 ht17_34 => ?_)
            · refine evd ?_
              refine ⟨rfl, CallK.valA (h := l11Int_c (wS s 2 1) (by have := wS_le s 2 1; omega)) (ha := .same rfl .nil) (k := ?_)⟩
              refine evd ?_
              refine ht17_34 _ ?_
              clear ht17_34 Kt17_34
              refine tG_two (fun Kt17_35 ht17_35 => ?_) (fun Kt17_35 ht17_35 => ?_)
              · refine evd ?_
                refine ⟨rfl, CallK.valA (h := l11Int_c (wS s 4 1) (by have := wS_le s 4 1; omega)) (ha := .same rfl .nil) (k := ?_)⟩
                refine evd ?_
                refine ht17_35 _ ?_
                clear ht17_35 Kt17_35
                refine tG_two (fun Kt17_36 ht17_36 => ?_) (fun Kt17_36 ht17_36 => ?_)
                · refine evd ?_
                  refine ⟨rfl, CallK.valA (h := l11Int_c (wS s 6 1) (by have := wS_le s 6 1; omega)) (ha := .same rfl .nil) (k := ?_)⟩
                  refine evd ?_
                  refine ht17_36 _ ?_
                  clear ht17_36 Kt17_36
                  refine tG_two (fun Kt17_37 ht17_37 => ?_) (fun Kt17_37 ht17_37 => ?_)
                  · refine evd ?_
                    refine ⟨rfl, CallK.valA (h := l11Int_c (wS s 6 2) (by have := wS_le s 6 2; omega)) (ha := .same rfl .nil) (k := ?_)⟩
                    refine evd ?_
                    refine ht17_37 _ ?_
                    clear ht17_37 Kt17_37
                    refine tG_two (fun Kt17_38 ht17_38 => ?_) (fun Kt17_38 ht17_38 => ?_)
                    · refine evd ?_
                      refine ⟨rfl, CallK.valA (h := l11Int_c (wS s 6 3) (by have := wS_le s 6 3; omega)) (ha := .same rfl .nil) (k := ?_)⟩
                      refine evd ?_
                      refine ht17_38 _ ?_
                      clear ht17_38 Kt17_38
                      refine tG_one fun Kt17_39 ht17_39 => ?_
                      refine stepG_build (cs := mCells (.obj 3 0 1 0 (mS s).row.length) .nils .nils (mS s)) rfl rfl rfl (by kernel_rfl) ?_
                      refine evd ?_
                      refine ht17_39 _ ?_
                      clear ht17_39 Kt17_39
                      refine tG_one fun Kt17_40 ht17_40 => ?_
                      refine evd ?_
                      refine ht17_40 _ ?_
                      clear ht17_40 Kt17_40
                      refine tG_one fun Kt17_41 ht17_41 => ?_
                      refine evd ?_
                      refine ht17_41 _ ?_
                      clear ht17_41 Kt17_41
                      refine tG_done ?_
                      exact hK23 () _ trivial anyS
                    · refine evd ?_
                      refine ht17_38 _ ?_
                      clear ht17_38 Kt17_38
                      refine tG_one fun Kt17_42 ht17_42 => ?_
                      refine evd ?_
                      refine ⟨rfl, CallK.valA (h := l11Int_c (wS s 6 3) (by have := wS_le s 6 3; omega)) (ha := .same rfl .nil) (k := ?_)⟩
                      refine evd ?_
                      refine ht17_42 _ ?_
                      clear ht17_42 Kt17_42
                      refine tG_one fun Kt17_43 ht17_43 => ?_
                      refine stepG_build (cs := mCells (.obj 3 0 1 0 (mS s).row.length) .nils .nils (mS s)) rfl rfl rfl (by kernel_rfl) ?_
                      refine evd ?_
                      refine ht17_43 _ ?_
                      clear ht17_43 Kt17_43
                      refine tG_one fun Kt17_44 ht17_44 => ?_
                      refine evd ?_
                      refine ht17_44 _ ?_
                      clear ht17_44 Kt17_44
                      refine tG_done ?_
                      exact hK23 () _ trivial anyS
                  · refine evd ?_
                    refine ht17_37 _ ?_
                    clear ht17_37 Kt17_37
                    refine tG_one fun Kt17_45 ht17_45 => ?_
                    refine evd ?_
                    refine ⟨rfl, CallK.valA (h := l11Int_c (wS s 6 2) (by have := wS_le s 6 2; omega)) (ha := .same rfl .nil) (k := ?_)⟩
                    refine evd ?_
                    refine ht17_45 _ ?_
                    clear ht17_45 Kt17_45
                    refine tG_one fun Kt17_46 ht17_46 => ?_
                    refine evd ?_
                    refine ⟨rfl, CallK.valA (h := l11Int_c (wS s 6 3) (by have := wS_le s 6 3; omega)) (ha := .same rfl .nil) (k := ?_)⟩
                    refine evd ?_
                    refine ht17_46 _ ?_
                    clear ht17_46 Kt17_46
                    refine tG_one fun Kt17_47 ht17_47 => ?_
                    refine stepG_build (cs := mCells (.obj 3 0 1 0 (mS s).row.length) .nils .nils (mS s)) rfl rfl rfl (by kernel_rfl) ?_
                    refine evd ?_
                    refine ht17_47 _ ?_
                    clear ht17_47 Kt17_47
                    refine tG_one fun Kt17_48 ht17_48 => ?_
                    refine evd ?_
                    refine ht17_48 _ ?_
                    clear ht17_48 Kt17_48
                    refine tG_done ?_
                    exact hK23 () _ trivial anyS
                · refine evd ?_
                  refine ht17_36 _ ?_
                  clear ht17_36 Kt17_36
                  refine tG_one fun Kt17_49 ht17_49 => ?_
                  refine evd ?_
                  refine ⟨rfl, CallK.valA (h := l11Int_c (wS s 6 1) (by have := wS_le s 6 1; omega)) (ha := .same rfl .nil) (k := ?_)⟩
                  refine evd ?_
                  refine ht17_49 _ ?_
                  clear ht17_49 Kt17_49
                  refine tG_one fun Kt17_50 ht17_50 => ?_
                  refine evd ?_
                  refine ⟨rfl, CallK.valA (h := l11Int_c (wS s 6 2) (by have := wS_le s 6 2; omega)) (ha := .same rfl .nil) (k := ?_)⟩
                  refine evd ?_
                  refine ht17_50 _ ?_
                  clear ht17_50 Kt17_50
                  refine tG_one fun Kt17_51 ht17_51 => ?_
                  refine evd ?_
                  refine ⟨rfl, CallK.valA (h := l11Int_c (wS s 6 3) (by have := wS_le s 6 3; omega)) (ha := .same rfl .nil) (k := ?_)⟩
                  refine evd ?_
                  refine ht17_51 _ ?_
                  clear ht17_51 Kt17_51
                  refine tG_one fun Kt17_52 ht17_52 => ?_
                  refine stepG_build (cs := mCells (.obj 3 0 1 0 (mS s).row.length) .nils .nils (mS s)) rfl rfl rfl (by kernel_rfl) ?_
                  refine evd ?_
                  refine ht17_52 _ ?_
                  clear ht17_52 Kt17_52
                  refine tG_one fun Kt17_53 ht17_53 => ?_
                  refine evd ?_
                  refine ht17_53 _ ?_
                  clear ht17_53 Kt17_53
                  refine tG_done ?_
                  exact hK23 () _ trivial anyS
              · refine evd ?_
                refine ht17_35 _ ?_
                clear ht17_35 Kt17_35
                refine tG_one fun Kt17_54 ht17_54 => ?_
                refine evd ?_
                refine ⟨rfl, CallK.valA (h := l11Int_c (wS s 4 1) (by have := wS_le s 4 1; omega)) (ha := .same rfl .nil) (k := ?_)⟩
                refine evd ?_
                refine ht17_54 _ ?_
                clear ht17_54 Kt17_54
                refine tG_one fun Kt17_55 ht17_55 => ?_
                refine evd ?_
                refine ⟨rfl, CallK.valA (h := l11Int_c (wS s 6 1) (by have := wS_le s 6 1; omega)) (ha := .same rfl .nil) (k := ?_)⟩
                refine evd ?_
                refine ht17_55 _ ?_
                clear ht17_55 Kt17_55
                refine tG_one fun Kt17_56 ht17_56 => ?_
                refine evd ?_
                refine ⟨rfl, CallK.valA (h := l11Int_c (wS s 6 2) (by have := wS_le s 6 2; omega)) (ha := .same rfl .nil) (k := ?_)⟩
                refine evd ?_
                refine ht17_56 _ ?_
                clear ht17_56 Kt17_56
                refine tG_one fun Kt17_57 ht17_57 => ?_
                refine evd ?_
                refine ⟨rfl, CallK.valA (h := l11Int_c (wS s 6 3) (by have := wS_le s 6 3; omega)) (ha := .same rfl .nil) (k := ?_)⟩
                refine evd ?_
                refine ht17_57 _ ?_
                clear ht17_57 Kt17_57
                refine tG_one fun Kt17_58 ht17_58 => ?_
                refine stepG_build (cs := mCells (.obj 3 0 1 0 (mS s).row.length) .nils .nils (mS s)) rfl rfl rfl (by kernel_rfl) ?_
                refine evd ?_
                refine ht17_58 _ ?_
                clear ht17_58 Kt17_58
                refine tG_one fun Kt17_59 ht17_59 => ?_
                refine evd ?_
                refine ht17_59 _ ?_
                clear ht17_59 Kt17_59
                refine tG_done ?_
                exact hK23 () _ trivial anyS
            · refine evd ?_
              refine ht17_34 _ ?_
              clear ht17_34 Kt17_34
              refine tG_one fun Kt17_60 ht17_60 => ?_
              refine evd ?_
              refine ⟨rfl, CallK.valA (h := l11Int_c (wS s 2 1) (by have := wS_le s 2 1; omega)) (ha := .same rfl .nil) (k := ?_)⟩
              refine evd ?_
              refine ht17_60 _ ?_
              clear ht17_60 Kt17_60
              refine tG_one fun Kt17_61 ht17_61 => ?_
              refine evd ?_
              refine ⟨rfl, CallK.valA (h := l11Int_c (wS s 4 1) (by have := wS_le s 4 1; omega)) (ha := .same rfl .nil) (k := ?_)⟩
              refine evd ?_
              refine ht17_61 _ ?_
              clear ht17_61 Kt17_61
              refine tG_one fun Kt17_62 ht17_62 => ?_
              refine evd ?_
              refine ⟨rfl, CallK.valA (h := l11Int_c (wS s 6 1) (by have := wS_le s 6 1; omega)) (ha := .same rfl .nil) (k := ?_)⟩
              refine evd ?_
              refine ht17_62 _ ?_
              clear ht17_62 Kt17_62
              refine tG_one fun Kt17_63 ht17_63 => ?_
              refine evd ?_
              refine ⟨rfl, CallK.valA (h := l11Int_c (wS s 6 2) (by have := wS_le s 6 2; omega)) (ha := .same rfl .nil) (k := ?_)⟩
              refine evd ?_
              refine ht17_63 _ ?_
              clear ht17_63 Kt17_63
              refine tG_one fun Kt17_64 ht17_64 => ?_
              refine evd ?_
              refine ⟨rfl, CallK.valA (h := l11Int_c (wS s 6 3) (by have := wS_le s 6 3; omega)) (ha := .same rfl .nil) (k := ?_)⟩
              refine evd ?_
              refine ht17_64 _ ?_
              clear ht17_64 Kt17_64
              refine tG_one fun Kt17_65 ht17_65 => ?_
              refine stepG_build (cs := mCells (.obj 3 0 1 0 (mS s).row.length) .nils .nils (mS s)) rfl rfl rfl (by kernel_rfl) ?_
              refine evd ?_
              refine ht17_65 _ ?_
              clear ht17_65 Kt17_65
              refine tG_one fun Kt17_66 ht17_66 => ?_
              refine evd ?_
              refine ht17_66 _ ?_
              clear ht17_66 Kt17_66
              refine tG_done ?_
              exact hK23 () _ trivial anyS
        rintro _ f23 _
        simp only [updT_k, updT_d, updT_d5, updT_v, updT_nil, Nat.reduceAdd]
        refine Wp.seqK fun K24 hK24 => ?_
        refine Wp.nilCell 5 4 1 rfl rfl ?_
        refine evd ?_
        refine Wp.nilCell 5 10 2 rfl rfl ?_
        refine evd ?_
        refine rg ?_
        refine hK24 _ ?_
        clear hK24 K24
        refine Wp.seqK fun K25 hK25 => ?_
        refine Wp.seqK fun K26 hK26 => ?_
        refine rg ?_
        refine hK26 _ ?_
        clear hK26 K26
        refine Wp.block ?_
        refine Wp.loopU (α := Nat) (fun x => [.k, .d, .k, .d, .k, .d, .k, .d5, .d, .k, .k, .v (I x), .d5, .d5, .d5, .d5, .d5, .d5, .d5, .d5, .d5, .d5, .d5, .d5, .d5, .d5, .d5, .d5, .d5, .d5, .d5, .d5, .d5, .d5, .d5, .d5, .d5, .d5, .d5, .d5, .d5, .d5, .d5, .d5, .d5, .d5, .d5, .d5, .d5, .d]) (fun x => [some ⟨0, [.nils, .sc (.int .i64 0), .sc (.string ⟨#[]⟩), .sc (.int .i64 0), .nils, .sc (.int .i64 0), .sc (.bool false), .sc (.int .i64 0), .sc (.int .i64 0), .sc (.int .i64 0), .nils]⟩, some ⟨0, [.nils, .sc (.int .i64 0), .sc (.string ⟨#[]⟩), .sc (.int .i64 0), .nils, .sc (.int .i64 0), .sc (.bool false), .sc (.int .i64 0), .sc (.int .i64 0), .sc (.int .i64 0), .nils]⟩, some ⟨(linesS s).length, wsC s (linesS s).length⟩, some ⟨0, ((mS s).row).map cb⟩, some ⟨0, tb (mS s).n (mS s).ones⟩, some ⟨0, mCells (.obj 3 0 1 0 (mS s).row.length) (.obj 6 x 1 0 x) (.obj 7 0 2 0 0) (mS s)⟩, some ⟨x, (bS ((pcs 32 (lnP s 3)).getD 1 (⟨#[]⟩ : ByteArray)) x).map ci⟩, some ⟨0, []⟩]) (fun x => x ≤ ((pcs 32 (lnP s 3)).getD 1 (⟨#[]⟩ : ByteArray)).size ∧ (((pcs 32 (lnP s 3)).getD 1 (⟨#[]⟩ : ByteArray)) = (⟨#[45]⟩ : ByteArray) → x = 0)) (fun x => ((pcs 32 (lnP s 3)).getD 1 (⟨#[]⟩ : ByteArray)).size - x) 0 (⟨Nat.zero_le _, fun _ => rfl⟩) (anyS) ?_
        rintro x f27 K27 ⟨hx, hx0⟩ hK27
        simp only [updT_k, updT_d, updT_d5, updT_v, updT_nil, Nat.reduceAdd]
        have hw3 : ((pcs 32 (lnP s 3)).getD 1 (⟨#[]⟩ : ByteArray)).size ≤ s.size := wS_le s 3 1
        have hsz := size_list ((pcs 32 (lnP s 3)).getD 1 (⟨#[]⟩ : ByteArray))
        have hbl := bS_len (w := ((pcs 32 (lnP s 3)).getD 1 (⟨#[]⟩ : ByteArray))) (x := x) (by omega)
        have hby := byte_le (((pcs 32 (lnP s 3)).getD 1 (⟨#[]⟩ : ByteArray)).data.toList.getD x 0)
        simp only [mCells]
        refine Wp.seqK fun K28 hK28 => ?_
        refine Wp.seqU0 [.k, .d, .k, .d, .k, .d, .k, .d5, .d, .k, .k, .k, .d5, .d5, .d5, .d5, .d5, .d5, .d5, .d5, .d5, .d5, .d5, .d5, .d5, .d5, .d5, .d5, .d5, .d5, .d5, .d5, .d5, .d5, .d5, .d5, .d5, .d5, .d, .d, .d, .d, .v (T (decide ((x : Int) < (((pcs 32 (lnP s 3)).getD 1 (⟨#[]⟩ : ByteArray)).size : Int)) && !decide (((pcs 32 (lnP s 3)).getD 1 (⟨#[]⟩ : ByteArray)) = (⟨#[45]⟩ : ByteArray)))), .d5, .d5, .d5, .d5, .d5, .d5, .d5, .d5, .d5, .d5, .d] (fun K29 hK29 => ?_) ?_
        · as_aux_lemma =>
            refine rg ?_
            refine grdA_split rfl (fun g20_5 => ?_) (fun g20_5 => ?_)
            · try simp only [decide_eq_true_eq, decide_eq_false_iff_not] at g20_5
              try refine evd ?_
              have e : (decide ((x : Int) < (((pcs 32 (lnP s 3)).getD 1 (⟨#[]⟩ : ByteArray)).size : Int)) && !decide (((pcs 32 (lnP s 3)).getD 1 (⟨#[]⟩ : ByteArray)) = ⟨#[45]⟩)) = !decide (((pcs 32 (lnP s 3)).getD 1 (⟨#[]⟩ : ByteArray)) = (⟨#[45]⟩ : ByteArray)) := by rw [decide_eq_true g20_5, Bool.true_and]
              exact hK29 _ (anyS (h := by rw [e]; rfl))
            · try simp only [decide_eq_true_eq, decide_eq_false_iff_not] at g20_5
              try refine evd ?_
              have e : (decide ((x : Int) < (((pcs 32 (lnP s 3)).getD 1 (⟨#[]⟩ : ByteArray)).size : Int)) && !decide (((pcs 32 (lnP s 3)).getD 1 (⟨#[]⟩ : ByteArray)) = (⟨#[45]⟩ : ByteArray))) = false := by rw [decide_eq_false g20_5, Bool.false_and]
              exact hK29 _ (anyS (h := by rw [e]; rfl))
        rintro f29
        simp only [updT_k, updT_d, updT_d5, updT_v, updT_nil, Nat.reduceAdd]
        refine Wp.condS (fun h150 => ?_) (fun h150 => ?_)
        · have hxs : x < ((pcs 32 (lnP s 3)).getD 1 (⟨#[]⟩ : ByteArray)).size ∧ ¬ ((pcs 32 (lnP s 3)).getD 1 (⟨#[]⟩ : ByteArray)) = (⟨#[45]⟩ : ByteArray) := by
            have h150 : (x : Int) < (((pcs 32 (lnP s 3)).getD 1 (⟨#[]⟩ : ByteArray)).size : Int) ∧ ¬ ((pcs 32 (lnP s 3)).getD 1 (⟨#[]⟩ : ByteArray)) = (⟨#[45]⟩ : ByteArray) := by simpa using h150
            exact ⟨by omega, h150.2⟩
          have hxv := hxs.1
          refine Wp.skip ?_
          refine hK28 _ ?_
          clear hK28 K28
          refine Wp.seqK fun K30 hK30 => ?_
          refine Wp.block ?_
          refine Wp.drawI [0, 1, 2, 3, 4, 5] [5, 7, 8] (by kernel_rfl) ?_
          refine evd ?_
          try simp only [thn, inB, if_true, reduceIte]
          refine hK30 _ ?_
          clear hK30 K30
          refine Wp.keepR 8 [] (by rw [hB]; simp) (by simp) (by simp) (by simp) ?_
          refine evd ?_
          refine rg ?_
          exact hK27 (x + 1) _ ⟨by omega, fun h => absurd h hxs.2⟩ (by omega) (anyS (ho := by rw [bS_push (by omega)]; simp [tb, mCells]))
        · have hve : bS ((pcs 32 (lnP s 3)).getD 1 (⟨#[]⟩ : ByteArray)) x = (mS s).vals := bS_end hx0 (by
            by_cases hd : ((pcs 32 (lnP s 3)).getD 1 (⟨#[]⟩ : ByteArray)) = (⟨#[45]⟩ : ByteArray)
            · exact .inr hd
            · have h151 : ¬ ((x : Int) < (((pcs 32 (lnP s 3)).getD 1 (⟨#[]⟩ : ByteArray)).size : Int)) := fun h => by
                rw [decide_eq_true h, decide_eq_false hd] at h150
                exact absurd h150 (by decide)
              exact .inl (by omega))
          have hvl : (mS s).vals.length = x := by rw [← hve]; exact hbl
          subst hvl
          rw [hve]
          refine Wp.exit ?_
          try simp only [thn, inB, if_true, reduceIte]
          clear hK28 K28
          clear hK27 K27
          refine hK25 _ ?_
          clear hK25 K25
          refine Wp.seqK fun K31 hK31 => ?_
          refine Wp.seqK fun K32 hK32 => ?_
          refine rg ?_
          refine hK32 _ ?_
          clear hK32 K32
          refine Wp.block ?_
          refine Wp.loopU (α := Nat) (fun x => [.k, .d, .k, .d, .k, .d, .k, .d5, .d, .k, .d, .d, .v (I ((x + 7 : Nat) : Int)), .d5, .d5, .d5, .d5, .d5, .d5, .d5, .d5, .d5, .d5, .d5, .d5, .d5, .d5, .d5, .d5, .d5, .d5, .d5, .d5, .d5, .d5, .d5, .d5, .d5, .d5, .d5, .d5, .d5, .d5, .d5, .d5, .d5, .d5, .d5, .d5, .d5]) (fun x => [some ⟨0, [.nils, .sc (.int .i64 0), .sc (.string ⟨#[]⟩), .sc (.int .i64 0), .nils, .sc (.int .i64 0), .sc (.bool false), .sc (.int .i64 0), .sc (.int .i64 0), .sc (.int .i64 0), .nils]⟩, some ⟨0, [.nils, .sc (.int .i64 0), .sc (.string ⟨#[]⟩), .sc (.int .i64 0), .nils, .sc (.int .i64 0), .sc (.bool false), .sc (.int .i64 0), .sc (.int .i64 0), .sc (.int .i64 0), .nils]⟩, some ⟨(linesS s).length, wsC s (linesS s).length⟩, some ⟨0, ((mS s).row).map cb⟩, some ⟨0, tb (mS s).n (mS s).ones⟩, some ⟨0, mCells (.obj 3 0 1 0 (mS s).row.length) (.obj 6 (mS s).vals.length 1 0 (mS s).vals.length) (.obj 7 x 2 0 x) (mS s)⟩, some ⟨(mS s).vals.length, (mS s).vals.map ci⟩, some ⟨x, lS (sX s x)⟩]) (fun x => x + 7 ≤ (linesS s).length) (fun x => (linesS s).length - x) 0 (by omega) (anyS) ?_
          rintro x f33 K33 hx hK33
          simp only [updT_k, updT_d, updT_d5, updT_v, updT_nil, Nat.reduceAdd]
          have hsx := sX_len hx
          simp only [mCells]
          refine Wp.seqK fun K34 hK34 => ?_
          refine Wp.seqK fun K35 hK35 => ?_
          refine rg ?_
          refine hK35 _ ?_
          clear hK35 K35
          refine Wp.condS (fun h166 => ?_) (fun h166 => ?_)
          · have hx7 : x + 7 < (linesS s).length := by omega
            have wx := wOk_get (hw (x + 7) hx7)
            have wx3 := wx.2.2 (by omega)
            refine Wp.skip ?_
            refine hK34 _ ?_
            clear hK34 K34
            refine Wp.seqK fun K36 hK36 => ?_
            refine Wp.block ?_
            refine Wp.drawI [0, 1, 2, 3, 4, 5, 6] [14, 16, 17] (by kernel_rfl) ?_
            refine evd ?_
            refine ⟨rfl, CallK.valA (h := l11Int_c (wS s (x + 7) 2) (by have := wS_le s (x + 7) 2; omega)) (ha := .same rfl .nil) (k := ?_)⟩
            refine evd ?_
            try simp only [thn, inB, if_true, reduceIte]
            refine hK36 _ ?_
            clear hK36 K36
            refine Wp.keepR 8 [] (by rw [hB]; simp) (by simp) (by simp) (by simp) ?_
            refine evd ?_
            refine rg ?_
            exact hK33 (x + 1) _ (by omega) (by omega) (anyS (ho := by rw [sX_push hx7]; rfl))
          · have hxe : x + 7 = (linesS s).length := by omega
            have hme : sX s x = (mS s).memo := sX_end hxe
            have hml : (mS s).memo.length = x := by rw [← hme]; exact hsx
            subst hml
            rw [hme]
            have hF := mS_fits hs
            refine Wp.exit ?_
            try simp only [thn, inB, if_true, reduceIte]
            clear hK34 K34
            clear hK33 K33
            refine hK31 _ ?_
            clear hK31 K31
            refine Wp.seqK fun K37 hK37 => ?_
            refine rg ?_
            refine ⟨rfl, CallK.valA (h := sSave_c (mS s) hF) (ha := argG (G := ⟨0, (mS s).vals.length, [], (mS s).memo.length, []⟩) (m := mS s) (a := 3) (b := 6) (c := 7) rfl (by simp) rfl (by simp [lk]) (by simp [lk]) (by simp [lk])) (k := ?_)⟩
            refine evd ?_
            refine hK37 _ ?_
            clear hK37 K37
            refine Wp.seqK fun K38 hK38 => ?_
            refine Wp.seqU0 [.d, .d, .k, .d, .k, .d5, .d, .d, .d, .k, .d5, .d5, .d5, .d5, .d5, .d5, .d5, .d5, .d5, .d5, .d5, .d5, .d5, .d5, .d5, .d5, .d5, .d5, .d5, .d5, .d5, .d5, .d5, .d5, .d5, .d5, .d5, .d5, .d5, .d5, .d5, .d5, .d5, .d5, .d5, .d5, .d5, .v (T (!loadB s)), .d, .d] (fun K39 hK39 => ?_) ?_
            · as_aux_lemma =>
                refine rg ?_
                refine grdA_split rfl (fun g28_3 => ?_) (fun g28_3 => ?_)
                · try simp only [decide_eq_true_eq, decide_eq_false_iff_not] at g28_3
                  try refine evd ?_
                  have e : loadB s = false := by rw [← (load_eq s).1]; unfold loadBS; rw [show saveB (mS s) = false by simpa using g28_3, Bool.false_and, Bool.and_false]
                  exact hK39 _ (anyS (h := by rw [e]; rfl))
                · try simp only [decide_eq_true_eq, decide_eq_false_iff_not] at g28_3
                  try refine evd ?_
                  have hsv : saveB (mS s) = true := by simpa using g28_3
                  have e : (!loadB s) = !decide (saveR (mS s) = s) := by rw [← (load_eq s).1]; unfold loadBS saveR; rw [hsc, hsv, if_pos rfl, Bool.true_and, Bool.true_and]
                  exact hK39 _ (anyS (h := by rw [e]; rfl))
            rintro f39
            simp only [updT_k, updT_d, updT_d5, updT_v, updT_nil, Nat.reduceAdd]
            refine Wp.condS (fun h199 => ?_) (fun h199 => ?_)
            · have hld : loadB s = false := by simpa using h199
              refine Wp.seqK fun K40 hK40 => ?_
              refine rg ?_
              refine hK40 _ ?_
              clear hK40 K40
              rw [show loadM s = default from if_neg (by rw [hld]; simp), hld]
              refine Wp.nilCell 0 0 1 rfl rfl ?_
              refine evd ?_
              refine Wp.nilCell 0 4 1 rfl rfl ?_
              refine evd ?_
              refine Wp.nilCell 0 10 2 rfl rfl ?_
              refine evd ?_
              refine Wp.ret (retL [8, 9, 10] rfl (Nat.zero_le _) (by decide) (by simp) rfl ?_)
              simp only [keepO, List.take_zero, List.map_nil, List.nil_append, List.map_cons, List.getD_cons_zero, List.getD_cons_succ, Option.map_some]
              try rfl
            · have hld : loadB s = true := by simpa using h199
              refine Wp.skip ?_
              refine hK38 _ ?_
              clear hK38 K38
              refine Wp.seqK fun K41 hK41 => ?_
              refine rg ?_
              refine hK41 _ ?_
              clear hK41 K41
              rw [show loadM s = mS s from (if_pos hld).trans ((load_eq s).2 hld).symm, hld]
              refine Wp.keepR 0 [3, 6, 7, 0] (by rw [hB]; simp) (by simp) (by decide) (by simp) ?_
              refine evd ?_
              refine Wp.ret (retL [0, 1, 2] rfl (Nat.zero_le _) (by decide) (by simp) rfl ?_)
              simp only [keepO, List.take_zero, List.map_nil, List.nil_append, List.map_cons, List.getD_cons_zero, List.getD_cons_succ, Option.map_some, renB, renI, renS]
              try rfl
end Go.Proofs.YtbhlegobhidgkaaDoor.RE
