/- A machine as a text, reference. Conditions: those that a theorem names. -/
import Derived.Test.YtbhlegobhidgkaaDoorS3
set_option linter.unusedVariables false
set_option linter.unusedSimpArgs false
namespace Go.Proofs.YtbhlegobhidgkaaDoor.RE
open Go Go.RowKit
set_option maxRecDepth 100000
set_option maxHeartbeats 8000000

theorem l03Dec_d (n : Int) (hn : 0 ≤ n ∧ n ≤ 1000000000) : Val E.P 40 [I n] (S (decB n)) := l03Dec_i n (by omega)
theorem tkey_i (n : Int) (o : ByteArray) (ht : tableOk n o = true) (ho : o.size ≤ 1048576) : Val E.P 39 [.agg (tb n o)] (S (keyB n o)) := by
  have := sTableKey_c n o ho
  unfold tkT at this
  rwa [if_pos ht] at this
theorem save_badL {m : Mc} {x : Nat} (h : 400000 < (linB (headL m) ++ linB ((m.memo.take x).map seenL)).length) : saveB m = false := by
  have h3 : (saveT m).size = (linB (saveL m)).length := mkB_size _
  have h4 : linB (saveL m) = (linB (headL m) ++ linB ((m.memo.take x).map seenL)) ++ linB ((m.memo.drop x).map seenL) := by
    rw [save_lin, List.append_assoc, ← linB_app (List.map seenL _), ← List.map_append, List.take_append_drop]
  rw [h4, List.length_append] at h3
  unfold saveB
  rw [decide_eq_false (show ¬ ((saveT m).size : Int) ≤ 400000 by omega), Bool.and_false, Bool.and_false]
def sb (s : Sn) : List UInt8 := (seenL s).data.toList ++ [10]
theorem lit_list (l : List UInt8) : (⟨l.toArray⟩ : ByteArray).data.toList = l := rfl
theorem seen_str (s : Sn) : (⟨#[115, 101, 101, 110, 32]⟩ : ByteArray) ++ s.key ++ ⟨#[32]⟩ ++ decB s.ret ++ ⟨#[10]⟩ = mkB (sb s) := ba_ext (by
  unfold sb seenL sp
  rw [bapp, mkB_list])
theorem head_str (m : Mc) : (⟨#[114, 111, 119, 32]⟩ : ByteArray) ++ mkB (rowT m.row) ++ ⟨#[10, 116, 97, 98, 108, 101, 32]⟩ ++ keyB m.n m.ones ++ ⟨#[10, 114, 111, 111, 109, 32]⟩ ++ decB m.room ++ ⟨#[10, 118, 97, 108, 115, 32]⟩ ++ mkB (valsT m.vals) ++ ⟨#[10, 114, 101, 116, 32]⟩ ++ mkB (retT m.ret) ++ ⟨#[10, 111, 118, 101, 114, 32]⟩ ++ decB (b01 m.over) ++
    ⟨#[10, 99, 111, 117, 110, 116, 115, 32]⟩ ++ decB m.steps ++ ⟨#[32]⟩ ++ decB m.looks ++ ⟨#[32]⟩ ++ decB m.hits ++ ⟨#[10]⟩ = mkB (linB (headL m)) := ba_ext (by
  simp only [linB, headL, rowL, tableL, roomL, valsL, retL', overL, cntL, sp, bapp, mkB_list, List.flatMap_cons, List.flatMap_nil, List.append_nil, List.append_assoc, List.cons_append, List.nil_append])
theorem linU_push {l : List Sn} {x : Nat} (h : x < l.length) (m : Mc) : linB (headL m) ++ linB ((l.take (x + 1)).map seenL) = (linB (headL m) ++ linB ((l.take x).map seenL)) ++ sb (l.getD x default) := by
  rw [take_push default h, List.map_append, linB_app, List.append_assoc]
  simp [linB, sb]
theorem sb_len {s : Sn} (hr : bitI s.ret = true) : (sb s).length ≤ s.key.size + 17 := by
  have := (seenL_size hr).1
  unfold sb
  rw [List.length_append, ← size_list]
  simp; omega
attribute [go_sem] seen_str head_str mkB_list mkB_size
theorem sSave_c (m : Mc) (hf : m.Fits) : Val E.P 10 [.agg (mD m)] (.tup [.l (.sc (.string (saveR m))), TB (saveB m)]) := by
  refine CallsA.body (E := E) (fn := Tryd.f10) Tryd.func10 rfl fun B hB => ?_
  simp only [Tryd.ntmps10, go_sem, nl, Nat.reduceSub, Nat.reduceAdd, List.reduceReplicate]
  have hk := hf.keys
  have hr0 := hf.row
  have ho0 := hf.ones
  have hv0 := hf.vals
  have hm0 := hf.memo
  refine Wp.seqK fun K1 hK1 => ?_
  refine rg ?_
  refine hK1 _ ?_
  clear hK1 K1
  refine Wp.seqK fun K2 hK2 => ?_
  refine Wp.seqK fun K3 hK3 => ?_
  refine rg ?_
  refine ⟨rfl, CallK.valA (h := sMachineOk_c _ hf) (k := ?_)⟩
  refine evd ?_
  refine hK3 _ ?_
  clear hK3 K3
  refine Wp.condS (fun h8 => ?_) (fun h8 => ?_)
  · refine Wp.seqK fun K4 hK4 => ?_
    refine rg ?_
    refine hK4 _ ?_
    clear hK4 K4
    refine Wp.ret (retV ?_)
    show _ = AV.tup [.l (.sc (.string (saveR m))), TB (saveB m)]
    unfold saveR saveB
    rw [h8]; rfl
  · have hn := mOk_n h8
    have z10 := hn.memo
    have hh := head_len hn
    refine Wp.skip ?_
    refine hK2 _ ?_
    clear hK2 K2
    refine Wp.seqU (α := Unit) (fun u_ => [.d, .k, .d, .d, .v (.l (.obj 1 0 1 0 (linB (headL m)).length)), .d5, .d5, .d5, .d5, .d5, .d5, .d5, .d5, .d5, .d5, .d5, .d5, .d5, .d5, .d5, .d5, .d5, .d5, .d]) (fun u_ => [some ⟨0, mD m⟩, some ⟨0, (linB (headL m)).map cu⟩]) (fun u_ => True) (fun K5 hK5 => ?_) ?_
    · have l0 : (#[114, 111, 119, 32] : Array UInt8).size = 4 := rfl
      have l1 : (#[116, 97, 98, 108, 101, 32] : Array UInt8).size = 6 := rfl
      have l2 : (#[114, 111, 111, 109, 32] : Array UInt8).size = 5 := rfl
      have l3 : (#[118, 97, 108, 115, 32] : Array UInt8).size = 5 := rfl
      have l4 : (#[114, 101, 116, 32] : Array UInt8).size = 4 := rfl
      have l5 : (#[111, 118, 101, 114, 32] : Array UInt8).size = 5 := rfl
      have l6 : (#[99, 111, 117, 110, 116, 115, 32] : Array UInt8).size = 7 := rfl
      have l7 : (#[32] : Array UInt8).size = 1 := rfl
      have l8 : (#[115, 101, 101, 110, 32] : Array UInt8).size = 5 := rfl
      have l9 : (#[10] : Array UInt8).size = 1 := rfl
      have l40 : (#[10, 116, 97, 98, 108, 101, 32] : Array UInt8).size = 7 := rfl
      have l41 : (#[10, 114, 111, 111, 109, 32] : Array UInt8).size = 6 := rfl
      have l42 : (#[10, 118, 97, 108, 115, 32] : Array UInt8).size = 6 := rfl
      have l43 : (#[10, 114, 101, 116, 32] : Array UInt8).size = 5 := rfl
      have l44 : (#[10, 111, 118, 101, 114, 32] : Array UInt8).size = 6 := rfl
      have l45 : (#[10, 99, 111, 117, 110, 116, 115, 32] : Array UInt8).size = 8 := rfl
      have q1 := rowT_len m.row
      have q2 := keyB_size m.ones hn.n
      have q3 := decB_size (n := m.room) (by have := hn.room; omega)
      have q4 := valsT_len m.vals
      have q5 := retT_len hn.ret
      have q6 := b01_le m.over
      have q7 := decB_size (n := b01 m.over) (by omega)
      have q8 := decB_size hn.steps
      have q9 := decB_size hn.looks
      have q10 := decB_size hn.hits
      have q11 := mkB_size (rowT m.row)
      have q12 := mkB_size (valsT m.vals)
      have q13 := mkB_size (retT m.ret)
      have c1 := sz_app ⟨#[99, 111, 117, 110, 116, 115, 32]⟩ (decB m.steps)
      have c2 := sz_app (⟨#[99, 111, 117, 110, 116, 115, 32]⟩ ++ decB m.steps) ⟨#[32]⟩
      have c3 := sz_app (⟨#[99, 111, 117, 110, 116, 115, 32]⟩ ++ decB m.steps ++ ⟨#[32]⟩) (decB m.looks)
      have c4 := sz_app (⟨#[99, 111, 117, 110, 116, 115, 32]⟩ ++ decB m.steps ++ ⟨#[32]⟩ ++ decB m.looks) ⟨#[32]⟩
      have l10 : (⟨#[32]⟩ : ByteArray).size = 1 := rfl
      have l11 : (⟨#[99, 111, 117, 110, 116, 115, 32]⟩ : ByteArray).size = 7 := rfl
      have z1 := hn.row
      have z2 := hn.n
      have z3 := hn.ones
      have z4 := hn.room
      have z5 := hn.vals
      have hva := hn.va
      have z6 := hn.ret
      have z7 := hn.steps
      have z8 := hn.looks
      have z9 := hn.hits
      have z10 := hn.memo
      refine Wp.drawP [0] [2, 7, 12, 17, 22, 27, 28, 33, 38, 43, 46] [0, 1, 5, 6, 10, 11, 15, 16, 20, 21, 25, 26, 31, 32, 36, 37, 41, 42, 2, 3, 4, 7, 8, 9, 12, 13, 14, 17, 18, 19, 22, 23, 24, 27, 28, 29, 30, 33, 34, 35, 38, 39, 40, 43, 44, 45, 46, 47] rfl (by kernel_rfl) ?_
      refine evd ?_
      refine ⟨rfl, CallK.valA (h := sRowText_c _ (by omega)) (k := ?_)⟩
      refine evd ?_
      refine ⟨rfl, CallK.valA (h := tkey_i _ _ hn.tab (by omega)) (k := ?_)⟩
      refine evd ?_
      refine ⟨rfl, CallK.valA (h := l03Dec_d (m.room) (by omega)) (k := ?_)⟩
      refine evd ?_
      refine ⟨rfl, CallK.valA (h := l11Vals_c _ (by omega) hva) (k := ?_)⟩
      refine evd ?_
      refine ⟨rfl, CallK.valA (h := l03Dec_r m.ret (by omega)) (k := ?_)⟩
      refine evd ?_
      refine ⟨rfl, CallK.valA (h := l01Bool_c _) (k := ?_)⟩
      refine evd ?_
      refine ⟨rfl, CallK.valA (h := l03Dec_d (b01 m.over) (by omega)) (k := ?_)⟩
      refine evd ?_
      refine ⟨rfl, CallK.valA (h := l03Dec_d (m.steps) (by omega)) (k := ?_)⟩
      refine evd ?_
      refine ⟨rfl, CallK.valA (h := l03Dec_d (m.looks) (by omega)) (k := ?_)⟩
      refine evd ?_
      refine ⟨rfl, CallK.valA (h := l03Dec_d (m.hits) (by omega)) (k := ?_)⟩
      refine evd ?_
      exact hK5 () _ trivial anyS
    rintro _ f5 _
    simp only [updT_k, updT_d, updT_d5, updT_v, updT_nil, Nat.reduceAdd]
    refine Wp.seqK fun K6 hK6 => ?_
    refine Wp.seqK fun K7 hK7 => ?_
    refine rg ?_
    refine hK7 _ ?_
    clear hK7 K7
    refine Wp.block ?_
    refine Wp.loopU (α := Nat) (fun x => [.d, .k, .d, .d, .v (.l (.obj 1 x 1 0 (linB (headL m) ++ linB ((m.memo.take x).map seenL)).length)), .v (I x), .d5, .d5, .d5, .d5, .d5, .d5, .d5, .d5, .d5, .d5, .d5, .d5, .d5, .d5, .d5, .d5, .d5, .d5]) (fun x => [some ⟨0, mD m⟩, some ⟨x, (linB (headL m) ++ linB ((m.memo.take x).map seenL)).map cu⟩]) (fun x => x ≤ m.memo.length ∧ (linB (headL m) ++ linB ((m.memo.take x).map seenL)).length ≤ 400000 ∧ (m.memo.take x).all (fun s => plainB s.key) = true) (fun x => m.memo.length - x) 0 (⟨Nat.zero_le _, by simp [linB] at hh ⊢; omega, rfl⟩) (anyS (h := by simp only [List.take_zero, List.map_nil, linB, List.flatMap_nil, List.append_nil]; rfl) (ho := by simp only [List.take_zero, List.map_nil, linB, List.flatMap_nil, List.append_nil, mD, mCells])) ?_
    rintro x f8 K8 ⟨hx, hk4, hpa⟩ hK8
    simp only [updT_k, updT_d, updT_d5, updT_v, updT_nil, Nat.reduceAdd]
    refine Wp.seqK fun K9 hK9 => ?_
    refine Wp.seqK fun K10 hK10 => ?_
    refine rg ?_
    refine hK10 _ ?_
    clear hK10 K10
    refine Wp.condS (fun h60 => ?_) (fun h60 => ?_)
    · have hxl : x < m.memo.length := by omega
      have hkx := hk _ (mem_getD (d := default) hxl)
      have hbr := hn.mret x hxl
      have hb2 := bitI_le hbr
      have s0 := decB_size (n := (m.memo.getD x default).ret) (by omega)
      have s1 := sz_app ⟨#[115, 101, 101, 110, 32]⟩ (m.memo.getD x default).key
      have s2 := sz_app (⟨#[115, 101, 101, 110, 32]⟩ ++ (m.memo.getD x default).key) ⟨#[32]⟩
      have s5 := sz_app (⟨#[115, 101, 101, 110, 32]⟩ ++ (m.memo.getD x default).key ++ ⟨#[32]⟩) (decB (m.memo.getD x default).ret)
      have s3 : (⟨#[115, 101, 101, 110, 32]⟩ : ByteArray).size = 5 := rfl
      have s4 : (⟨#[32]⟩ : ByteArray).size = 1 := rfl
      have s6 : (#[115, 101, 101, 110, 32] : Array UInt8).size = 5 := rfl
      have s7 : (#[32] : Array UInt8).size = 1 := rfl
      have s8 : (#[10] : Array UInt8).size = 1 := rfl
      have s9 := sb_len hbr
      have hlp := linU_push hxl m
      have hll : (linB (headL m) ++ linB ((m.memo.take (x + 1)).map seenL)).length = (linB (headL m) ++ linB ((m.memo.take x).map seenL)).length + (sb (m.memo.getD x default)).length := by rw [hlp, List.length_append]
      have hl0 : (linB (headL m) ++ linB ((m.memo.take x).map seenL)).length = (linB (headL m)).length + (linB ((m.memo.take x).map seenL)).length := List.length_append
      refine Wp.skip ?_
      refine hK9 _ ?_
      clear hK9 K9
      refine Wp.seqK fun K11 hK11 => ?_
      refine Wp.block ?_
      refine Wp.seqK fun K12 hK12 => ?_
      refine Wp.seqK fun K13 hK13 => ?_
      refine rg ?_
      refine ⟨rfl, CallK.valA (h := l11Plain_c _ (by omega)) (k := ?_)⟩
      refine evd ?_
      refine hK13 _ ?_
      clear hK13 K13
      refine Wp.condS (fun h70 => ?_) (fun h70 => ?_)
      · refine Wp.seqK fun K14 hK14 => ?_
        refine rg ?_
        refine hK14 _ ?_
        clear hK14 K14
        refine Wp.ret (retV ?_)
        show _ = AV.tup [.l (.sc (.string (saveR m))), TB (saveB m)]
        have hsb : saveB m = false := save_badP hxl h70
        unfold saveR
        rw [hsb]; rfl
      · have hpl := h70
        refine Wp.skip ?_
        refine hK12 _ ?_
        clear hK12 K12
        refine Wp.seqK fun K15 hK15 => ?_
        refine Wp.drawI [0] [15, 18, 19] (by kernel_rfl) ?_
        refine evd ?_
        refine ⟨rfl, CallK.valA (h := l03Dec_d _ (by omega)) (k := ?_)⟩
        refine evd ?_
        refine hK15 _ ?_
        clear hK15 K15
        refine Wp.seqK fun K16 hK16 => ?_
        refine rg ?_
        refine hK16 _ ?_
        clear hK16 K16
        refine Wp.condS (fun h93 => ?_) (fun h93 => ?_)
        · refine Wp.seqK fun K17 hK17 => ?_
          refine rg ?_
          refine hK17 _ ?_
          clear hK17 K17
          refine Wp.ret (retV ?_)
          show _ = AV.tup [.l (.sc (.string (saveR m))), TB (saveB m)]
          have hsb : saveB m = false := save_badL (x := x + 1) (by omega)
          unfold saveR
          rw [hsb]; rfl
        · refine Wp.skip ?_
          try simp only [thn, inB, if_true, reduceIte]
          refine hK11 _ ?_
          clear hK11 K11
          refine Wp.keepR 2 [] (by rw [hB]; simp) (by simp) (by simp) (by simp) ?_
          refine evd ?_
          refine rg ?_
          exact hK8 (x + 1) _ ⟨hxl, by omega, allS_push hxl hpa hpl⟩ (by omega) (anyS (h := by rw [hll, hl0]; simp only [updT_k, updT_d, updT_d5, updT_v, updT_nil, Nat.reduceAdd, List.getD_cons_zero, List.getD_cons_succ, List.cons.injEq, true_and, and_true]) (ho := by rw [hlp]; simp only [List.map_append, renU, mD, mCells]))
    · have hxl : x = m.memo.length := by omega
      subst hxl
      refine Wp.exit ?_
      try simp only [thn, inB, if_true, reduceIte]
      clear hK9 K9
      clear hK8 K8
      refine hK6 _ ?_
      clear hK6 K6
      refine Wp.seqK fun K18 hK18 => ?_
      refine rg ?_
      refine hK18 _ ?_
      clear hK18 K18
      refine Wp.ret (retV ?_)
      show _ = AV.tup [.l (.sc (.string (saveR m))), TB (saveB m)]
      rw [List.take_length, ← save_lin] at hk4
      rw [List.take_length] at hpa
      have hsz : (saveT m).size = (linB (saveL m)).length := mkB_size _
      have hsb : saveB m = true := by unfold saveB; rw [h8, show allP m = true from hpa, decide_eq_true (by omega)]; rfl
      unfold saveR
      rw [hsb, ← save_lin]; rfl
end Go.Proofs.YtbhlegobhidgkaaDoor.RE
