/- Texts of a machine. Conditions: those that a theorem names. -/
import Derived.Test.YtonacngeaknlcaaGreatDoorJ4
set_option linter.unusedVariables false
set_option linter.unusedSimpArgs false
namespace Go.Proofs.YtonacngeaknlcaaGreatDoor.RE
open Go Go.RowKit
set_option maxRecDepth 100000
set_option maxHeartbeats 8000000

theorem mkB_lit (l : List UInt8) : (⟨l.toArray⟩ : ByteArray) = mkB l := rfl
def rowT (r : List Bool) : List UInt8 := if r = [] then [45] else r.map fun b => if b = true then 97 else 115
def valsT (v : List Int) : List UInt8 := if v = [] then [45] else v.map fun x => dig x.toNat
def retT (n : Int) : List UInt8 := if n = -1 then [45, 49] else decL n.toNat
def plainB (s : ByteArray) : Bool := decide (0 < s.size) && s.data.toList.all fun b => b == 58 || digB b
def cB2 (b : Bool) : UInt8 := if b = true then 97 else 115
theorem cu_of {k : Int} (h : 0 ≤ k ∧ k ≤ 255) : LV.sc (.int .u8 k) = cu (UInt8.ofNat k.toNat) := by
  have : (UInt8.ofNat k.toNat).toNat = k.toNat := by rw [UInt8.toNat_ofNat']; omega
  show _ = LV.sc (.int .u8 ((UInt8.ofNat k.toNat).toNat : Int))
  rw [this, Int.toNat_of_nonneg h.1]
theorem pushU (l : List UInt8) (n : Nat) (k : Int) (h : l.length = n) (hk : 0 ≤ k ∧ k ≤ 255) : List.take n (l.map cu) ++ [.sc (.int .u8 k)] = (l ++ [UInt8.ofNat k.toNat]).map cu := by
  rw [List.take_of_length_le (by simp; omega), cu_of hk]; simp
theorem pushU' (l : List UInt8) (k : Int) (hk : 0 ≤ k ∧ k ≤ 255) : l.map cu ++ [.sc (.int .u8 k)] = (l ++ [UInt8.ofNat k.toNat]).map cu := by
  rw [cu_of hk]; simp
attribute [go_sem] pushU pushU' Nat.le_refl
theorem rowP {r : List Bool} {x : Nat} (h : x < r.length) : (r.take (x + 1)).map cB2 = (r.take x).map cB2 ++ [cB2 (r.getD x false)] := by rw [take_push false h, List.map_append]; rfl
theorem iRowText_c (r : List Bool) (hr : r.length ≤ 1048576) : Val E.P 159 [dB r] (S (mkB (rowT r))) := by
  refine CallsA.body (E := E) (fn := Tryz.f159) Tryz.func159 rfl fun B hB => ?_
  simp only [Tryz.ntmps159, go_sem, nl, Nat.reduceSub, Nat.reduceAdd, List.reduceReplicate]
  refine Wp.seqK fun K1 hK1 => ?_
  refine rg ?_
  refine hK1 _ ?_
  clear hK1 K1
  refine Wp.seqK fun K2 hK2 => ?_
  refine Wp.seqK fun K3 hK3 => ?_
  refine rg ?_
  refine hK3 _ ?_
  clear hK3 K3
  refine Wp.condS (fun h8 => ?_) (fun h8 => ?_)
  · refine Wp.seqK fun K4 hK4 => ?_
    refine rg ?_
    refine hK4 _ ?_
    clear hK4 K4
    refine Wp.ret (retV ?_)
    try simp only [List.getD_cons_zero, List.getD_cons_succ]
    show S _ = S (mkB (rowT r))
    unfold rowT
    rw [if_pos (List.eq_nil_of_length_eq_zero (by omega))]; rfl
  · refine Wp.skip ?_
    refine hK2 _ ?_
    clear hK2 K2
    refine Wp.seqK fun K5 hK5 => ?_
    refine rg ?_
    refine hK5 _ ?_
    clear hK5 K5
    refine Wp.seqK fun K6 hK6 => ?_
    refine Wp.seqK fun K7 hK7 => ?_
    refine rg ?_
    refine hK7 _ ?_
    clear hK7 K7
    refine Wp.block ?_
    refine Wp.loopU (α := Nat) (fun x => [.d, .d, .d, .v (.l (.obj 0 x 1 0 x)), .d5, .d, .k, .k, .v (I x), .d5, .d5, .d, .d, .d]) (fun x => [some ⟨x, ((r.take x).map cB2).map cu⟩]) (fun x => x ≤ r.length) (fun x => r.length - x) 0 (Nat.zero_le _) (anyS) ?_
    rintro x f8 K8 hx hK8
    simp only [updT_k, updT_d, updT_d5, updT_v, updT_nil, Nat.reduceAdd]
    refine Wp.seqK fun K9 hK9 => ?_
    refine rg ?_
    refine hK9 _ ?_
    clear hK9 K9
    refine Wp.seqK fun K10 hK10 => ?_
    refine Wp.condS (fun h13 => ?_) (fun h13 => ?_)
    · have hxl : x < r.length := by omega
      refine Wp.skip ?_
      refine hK10 _ ?_
      clear hK10 K10
      refine Wp.seqK fun K11 hK11 => ?_
      refine Wp.block ?_
      refine Wp.seqK fun K12 hK12 => ?_
      refine rg ?_
      refine hK12 _ ?_
      clear hK12 K12
      refine Wp.seqK fun K13 hK13 => ?_
      refine rg ?_
      refine hK13 _ ?_
      clear hK13 K13
      refine Wp.condS (fun h16 => ?_) (fun h16 => ?_)
      · refine rg ?_
        try simp only [thn, inB, if_true, reduceIte]
        refine hK11 _ ?_
        clear hK11 K11
        refine Wp.keepR 1 [] (by rw [hB]; simp) (by simp) (by simp) (by simp) ?_
        refine evd ?_
        refine rg ?_
        exact hK8 (x + 1) _ (by omega) (by omega) (anyS (ho := by rw [rowP hxl, h16]; rfl))
      · refine rg ?_
        try simp only [thn, inB, if_true, reduceIte]
        refine hK11 _ ?_
        clear hK11 K11
        refine Wp.keepR 1 [] (by rw [hB]; simp) (by simp) (by simp) (by simp) ?_
        refine evd ?_
        refine rg ?_
        exact hK8 (x + 1) _ (by omega) (by omega) (anyS (ho := by rw [rowP hxl, h16]; rfl))
    · have hxl : x = r.length := by omega
      subst hxl
      refine Wp.exit ?_
      try simp only [thn, inB, if_true, reduceIte]
      clear hK10 K10
      clear hK8 K8
      refine hK6 _ ?_
      clear hK6 K6
      refine Wp.seqK fun K14 hK14 => ?_
      refine rg ?_
      refine hK14 _ ?_
      clear hK14 K14
      refine Wp.ret (retV ?_)
      try simp only [List.getD_cons_zero, List.getD_cons_succ]
      show S _ = S (mkB (rowT r))
      unfold rowT
      rw [if_neg (fun e => h8 (by rw [e]; rfl))]; rfl
theorem sRowText_c (r : List Bool) (hr : r.length ≤ 1048576) : Val E.P 91 [dB r] (S (mkB (rowT r))) := by
  refine CallsA.body (E := E) (fn := Tryz.f91) Tryz.func91 rfl fun B hB => ?_
  simp only [Tryz.ntmps91, go_sem, nl, Nat.reduceSub, Nat.reduceAdd, List.reduceReplicate]
  refine Wp.seqK fun K1 hK1 => ?_
  refine rg ?_
  refine hK1 _ ?_
  clear hK1 K1
  refine Wp.seqK fun K2 hK2 => ?_
  refine rg ?_
  refine hK2 _ ?_
  clear hK2 K2
  refine Wp.seqK fun K3 hK3 => ?_
  refine Wp.seqK fun K4 hK4 => ?_
  refine rg ?_
  refine hK4 _ ?_
  clear hK4 K4
  refine Wp.block ?_
  refine Wp.loopU (α := Nat) (fun x => [.k, .d, .d, .v (.l (.obj 0 x 1 0 x)), .v (I x), .d5, .d5, .d5, .d5, .d, .d]) (fun x => [some ⟨x, ((r.take x).map cB2).map cu⟩]) (fun x => x ≤ r.length) (fun x => r.length - x) 0 (Nat.zero_le _) (anyS) ?_
  rintro x f5 K5 hx hK5
  simp only [updT_k, updT_d, updT_d5, updT_v, updT_nil, Nat.reduceAdd]
  refine Wp.seqK fun K6 hK6 => ?_
  refine Wp.seqK fun K7 hK7 => ?_
  refine rg ?_
  refine hK7 _ ?_
  clear hK7 K7
  refine Wp.condS (fun h9 => ?_) (fun h9 => ?_)
  · have hxl : x < r.length := by omega
    refine Wp.skip ?_
    refine hK6 _ ?_
    clear hK6 K6
    refine Wp.seqK fun K8 hK8 => ?_
    refine Wp.block ?_
    refine Wp.seqK fun K9 hK9 => ?_
    refine rg ?_
    refine hK9 _ ?_
    clear hK9 K9
    refine Wp.condS (fun h15 => ?_) (fun h15 => ?_)
    · refine rg ?_
      try simp only [thn, inB, if_true, reduceIte]
      refine hK8 _ ?_
      clear hK8 K8
      refine Wp.keepR 1 [] (by rw [hB]; simp) (by simp) (by simp) (by simp) ?_
      refine evd ?_
      refine rg ?_
      exact hK5 (x + 1) _ (by omega) (by omega) (anyS (ho := by rw [rowP hxl, h15]; rfl))
    · refine rg ?_
      try simp only [thn, inB, if_true, reduceIte]
      refine hK8 _ ?_
      clear hK8 K8
      refine Wp.keepR 1 [] (by rw [hB]; simp) (by simp) (by simp) (by simp) ?_
      refine evd ?_
      refine rg ?_
      exact hK5 (x + 1) _ (by omega) (by omega) (anyS (ho := by rw [rowP hxl, h15]; rfl))
  · have hxl : x = r.length := by omega
    subst hxl
    refine Wp.exit ?_
    try simp only [thn, inB, if_true, reduceIte]
    clear hK6 K6
    clear hK5 K5
    refine hK3 _ ?_
    clear hK3 K3
    refine Wp.seqK fun K10 hK10 => ?_
    refine Wp.seqK fun K11 hK11 => ?_
    refine rg ?_
    refine hK11 _ ?_
    clear hK11 K11
    refine Wp.condS (fun h24 => ?_) (fun h24 => ?_)
    · refine Wp.seqK fun K12 hK12 => ?_
      refine rg ?_
      refine hK12 _ ?_
      clear hK12 K12
      refine Wp.ret (retV ?_)
      try simp only [List.getD_cons_zero, List.getD_cons_succ]
      show S _ = S (mkB (rowT r))
      unfold rowT
      rw [if_pos (List.eq_nil_of_length_eq_zero (by omega))]; rfl
    · refine Wp.skip ?_
      refine hK10 _ ?_
      clear hK10 K10
      refine Wp.seqK fun K13 hK13 => ?_
      refine rg ?_
      refine hK13 _ ?_
      clear hK13 K13
      refine Wp.ret (retV ?_)
      try simp only [List.getD_cons_zero, List.getD_cons_succ]
      show S _ = S (mkB (rowT r))
      unfold rowT
      rw [if_neg (fun e => h24 (by rw [e]; rfl))]; rfl
theorem dig01 {x : Int} (h : bitI x = true) : UInt8.ofNat (IntKind.u8.wrap (IntKind.i64.wrap (48 + IntKind.i64.wrap ((BitVec.ofInt IntKind.i64.bits x &&& BitVec.ofInt IntKind.i64.bits 1).toNat : Int)))).toNat = dig x.toNat := by
  have h4 : x = 0 ∨ x = 1 := by simpa [bitI] using h
  rcases h4 with h4 | h4 <;> subst h4 <;> rfl
theorem sgn01 {x : Int} (h : bitI x = true) : IntKind.u8.wrap (IntKind.i64.wrap (48 + IntKind.i64.wrap ((BitVec.ofInt IntKind.i64.bits x &&& BitVec.ofInt IntKind.i64.bits 1).toNat : Int))) = 48 + x := by
  have h4 : x = 0 ∨ x = 1 := by simpa [bitI] using h
  rcases h4 with h4 | h4 <;> subst h4 <;> rfl
theorem sign_c (x : Int) (h : bitI x = true) : Val E.P 156 [I x] (.l (.sc (.int .u8 (48 + x)))) := by
  refine CallsA.body (E := E) (fn := Tryz.f156) Tryz.func156 rfl fun B hB => ?_
  simp only [Tryz.ntmps156, go_sem, nl, Nat.reduceSub, Nat.reduceAdd, List.reduceReplicate]
  refine Wp.seqK fun K1 hK1 => ?_
  refine rg ?_
  refine hK1 _ ?_
  clear hK1 K1
  refine Wp.seqK fun K2 hK2 => ?_
  refine rg ?_
  refine hK2 _ ?_
  clear hK2 K2
  refine Wp.ret (retV ?_)
  try simp only [List.getD_cons_zero, List.getD_cons_succ]
  exact congrArg (fun z => AV.l (.sc (.int .u8 z))) (sgn01 h)
def dgI (x : Int) : UInt8 := dig x.toNat
theorem dgI_of {x : Int} (h : bitI x = true) : UInt8.ofNat (48 + x).toNat = dgI x := by
  have h4 : x = 0 ∨ x = 1 := by simpa [bitI] using h
  rcases h4 with h4 | h4 <;> subst h4 <;> rfl
theorem valP {r : List Int} {x : Nat} (h : x < r.length) : (r.take (x + 1)).map dgI = (r.take x).map dgI ++ [dgI (r.getD x 0)] := by rw [take_push 0 h, List.map_append]; rfl
theorem valsT_ne {v : List Int} (h : ¬ (v.length : Int) = 0) : valsT v = v.map dgI := by
  unfold valsT
  rw [if_neg (fun e => h (by rw [e]; rfl))]; rfl
theorem bitsText_c (v : List Int) (hl : v.length ≤ 12) (ha : v.all bitI = true) : Val E.P 162 [dI v] (S (mkB (valsT v))) := by
  refine CallsA.body (E := E) (fn := Tryz.f162) Tryz.func162 rfl fun B hB => ?_
  simp only [Tryz.ntmps162, go_sem, nl, Nat.reduceSub, Nat.reduceAdd, List.reduceReplicate]
  refine Wp.seqK fun K1 hK1 => ?_
  refine rg ?_
  refine hK1 _ ?_
  clear hK1 K1
  refine Wp.seqK fun K2 hK2 => ?_
  refine Wp.seqK fun K3 hK3 => ?_
  refine rg ?_
  refine ⟨rfl, CallK.valA (h := placeOfBits_c _ (by omega)) (k := ?_)⟩
  refine evd ?_
  refine hK3 _ ?_
  clear hK3 K3
  refine Wp.seqU0 [.k, .d5, .d5, .d5, .d, .d, .d, .v (T false), .d5, .d5, .d5, .d, .d, .d] (fun K4 hK4 => ?_) ?_
  · refine rg ?_
    refine grdA_split rfl (fun g2_3 => ?_) (fun g2_3 => ?_)
    · try simp only [Bool.not_eq_true', Bool.not_eq_false', decide_eq_true_eq, decide_eq_false_iff_not] at g2_3
      try refine evd ?_
      exfalso
      rw [ha] at g2_3
      cases g2_3
    · try simp only [Bool.not_eq_true', Bool.not_eq_false', decide_eq_true_eq, decide_eq_false_iff_not] at g2_3
      try refine evd ?_
      exact hK4 _ (anyS (h := by rw [decide_eq_false (show ¬ (12 : Int) < (v.length : Int) by omega)]; rfl))
  rintro f4
  simp only [updT_k, updT_d, updT_d5, updT_v, updT_nil, Nat.reduceAdd]
  refine Wp.condS (fun h19 => ?_) (fun h19 => ?_)
  · cases h19
  · refine Wp.skip ?_
    refine hK2 _ ?_
    clear hK2 K2
    refine Wp.seqK fun K5 hK5 => ?_
    refine Wp.seqK fun K6 hK6 => ?_
    refine rg ?_
    refine hK6 _ ?_
    clear hK6 K6
    refine Wp.condS (fun h22 => ?_) (fun h22 => ?_)
    · refine Wp.seqK fun K7 hK7 => ?_
      refine rg ?_
      refine hK7 _ ?_
      clear hK7 K7
      refine Wp.ret (retV ?_)
      try simp only [List.getD_cons_zero, List.getD_cons_succ]
      show S _ = S (mkB (valsT v))
      unfold valsT
      rw [if_pos (List.eq_nil_of_length_eq_zero (by omega))]; rfl
    · refine Wp.skip ?_
      refine hK5 _ ?_
      clear hK5 K5
      refine Wp.seqK fun K8 hK8 => ?_
      refine rg ?_
      refine hK8 _ ?_
      clear hK8 K8
      refine Wp.seqK fun K9 hK9 => ?_
      refine Wp.seqK fun K10 hK10 => ?_
      refine rg ?_
      refine hK10 _ ?_
      clear hK10 K10
      refine Wp.block ?_
      refine Wp.loopU (α := Nat) (fun x => [.d5, .v (.l (.obj 0 x 1 0 x)), .d5, .d5, .d5, .d, .d, .d, .k, .k, .v (I x), .d5, .d5, .d]) (fun x => [some ⟨x, ((v.take x).map dgI).map cu⟩]) (fun x => x ≤ v.length) (fun x => v.length - x) 0 (Nat.zero_le _) (anyS) ?_
      rintro x f11 K11 hx hK11
      simp only [updT_k, updT_d, updT_d5, updT_v, updT_nil, Nat.reduceAdd]
      refine Wp.seqK fun K12 hK12 => ?_
      refine rg ?_
      refine hK12 _ ?_
      clear hK12 K12
      refine Wp.seqK fun K13 hK13 => ?_
      refine Wp.condS (fun h27 => ?_) (fun h27 => ?_)
      · have hxl : x < v.length := by omega
        have hb : bitI (v.getD x 0) = true := List.all_eq_true.1 ha _ (mem_getD hxl)
        have hb2 := bitI_le hb
        refine Wp.skip ?_
        refine hK13 _ ?_
        clear hK13 K13
        refine Wp.seqK fun K14 hK14 => ?_
        refine Wp.block ?_
        refine Wp.seqK fun K15 hK15 => ?_
        refine rg ?_
        refine hK15 _ ?_
        clear hK15 K15
        refine rg ?_
        refine ⟨rfl, CallK.valA (h := sign_c _ hb) (k := ?_)⟩
        refine evd ?_
        skip
        try simp only [thn, inB, if_true, reduceIte]
        refine hK14 _ ?_
        clear hK14 K14
        refine Wp.keepR 1 [] (by rw [hB]; simp) (by simp) (by simp) (by simp) ?_
        refine evd ?_
        refine rg ?_
        exact hK11 (x + 1) _ (by omega) (by omega) (anyS (ho := by rw [valP hxl, ← dgI_of hb]))
      · have hxl : x = v.length := by omega
        subst hxl
        refine Wp.exit ?_
        try simp only [thn, inB, if_true, reduceIte]
        clear hK13 K13
        clear hK11 K11
        refine hK9 _ ?_
        clear hK9 K9
        refine Wp.seqK fun K16 hK16 => ?_
        refine rg ?_
        refine hK16 _ ?_
        clear hK16 K16
        refine Wp.ret (retV ?_)
        try simp only [List.getD_cons_zero, List.getD_cons_succ]
        show S _ = S (mkB (valsT v))
        rw [valsT_ne h22]; rfl
theorem l03Dec_i (n : Int) (hn : 0 ≤ n ∧ n ≤ 1000000000000000000) : Val E.P 93 [I n] (S (mkB (decL n.toNat))) := by
  have := l03Dec_c n.toNat (by omega)
  rwa [Int.toNat_of_nonneg hn.1] at this
theorem decimal_i (n : Int) (hn : 0 ≤ n ∧ n ≤ 1000000000000000000) : Val E.P 161 [I n] (S (mkB (decL n.toNat))) := by
  have := decimal_c n.toNat (by omega)
  rwa [Int.toNat_of_nonneg hn.1] at this
theorem decL01 {x : Int} (h : bitI x = true) : decL x.toNat = [dgI x] := by
  have h4 : x = 0 ∨ x = 1 := by simpa [bitI] using h
  rcases h4 with h4 | h4 <;> subst h4 <;> (rw [decL]; rfl)
theorem l11Vals_c (v : List Int) (hl : v.length ≤ 12) (ha : v.all bitI = true) : Val E.P 94 [dI v] (S (mkB (valsT v))) := by
  refine CallsA.body (E := E) (fn := Tryz.f94) Tryz.func94 rfl fun B hB => ?_
  simp only [Tryz.ntmps94, go_sem, nl, Nat.reduceSub, Nat.reduceAdd, List.reduceReplicate]
  refine Wp.seqK fun K1 hK1 => ?_
  refine rg ?_
  refine hK1 _ ?_
  clear hK1 K1
  refine Wp.seqK fun K2 hK2 => ?_
  refine rg ?_
  refine hK2 _ ?_
  clear hK2 K2
  refine Wp.seqK fun K3 hK3 => ?_
  refine Wp.seqK fun K4 hK4 => ?_
  refine rg ?_
  refine hK4 _ ?_
  clear hK4 K4
  refine Wp.block ?_
  refine Wp.loopU0 (α := Nat) (fun x => [.k, .d, .d, .v (S (mkB ((v.take x).map dgI))), .v (I x), .d5, .d5, .d5, .d]) (fun x => x ≤ v.length) (fun x => v.length - x) 0 (Nat.zero_le _) anyS ?_
  rintro x f5 K5 hx hK5
  simp only [updT_k, updT_d, updT_d5, updT_v, updT_nil, Nat.reduceAdd]
  refine Wp.seqK fun K6 hK6 => ?_
  refine Wp.seqK fun K7 hK7 => ?_
  refine rg ?_
  refine hK7 _ ?_
  clear hK7 K7
  refine Wp.condS (fun h8 => ?_) (fun h8 => ?_)
  · have hxl : x < v.length := by omega
    have hb : bitI (v.getD x 0) = true := List.all_eq_true.1 ha _ (mem_getD hxl)
    have hb2 := bitI_le hb
    refine Wp.skip ?_
    refine hK6 _ ?_
    clear hK6 K6
    refine Wp.seqK fun K8 hK8 => ?_
    refine Wp.block ?_
    refine rg ?_
    refine ⟨rfl, CallK.valA (h := l03Dec_i _ (by omega)) (k := ?_)⟩
    refine evd ?_
    refine ⟨by rw [mkB_size, mkB_size, decL01 hb]; simp; omega, ?_⟩
    try refine evd ?_
    try simp only [thn, inB, if_true, reduceIte]
    refine hK8 _ ?_
    clear hK8 K8
    refine rg ?_
    exact hK5 (x + 1) _ (by omega) (by omega) (anyS (h := by rw [valP hxl, ← mkB_app, ← decL01 hb]; rfl))
  · have hxl : x = v.length := by omega
    subst hxl
    refine Wp.exit ?_
    try simp only [thn, inB, if_true, reduceIte]
    clear hK6 K6
    clear hK5 K5
    refine hK3 _ ?_
    clear hK3 K3
    refine Wp.seqK fun K9 hK9 => ?_
    refine Wp.seqK fun K10 hK10 => ?_
    refine rg ?_
    refine hK10 _ ?_
    clear hK10 K10
    refine Wp.condS (fun h19 => ?_) (fun h19 => ?_)
    · refine Wp.seqK fun K11 hK11 => ?_
      refine rg ?_
      refine hK11 _ ?_
      clear hK11 K11
      refine Wp.ret (retV ?_)
      try simp only [List.getD_cons_zero, List.getD_cons_succ]
      show S _ = S (mkB (valsT v))
      have e := mkB_nil h19
      unfold valsT
      rw [if_pos (show v = [] by simpa using e)]; rfl
    · refine Wp.skip ?_
      refine hK9 _ ?_
      clear hK9 K9
      refine Wp.seqK fun K12 hK12 => ?_
      refine rg ?_
      refine hK12 _ ?_
      clear hK12 K12
      refine Wp.ret (retV ?_)
      try simp only [List.getD_cons_zero, List.getD_cons_succ]
      show S _ = S (mkB (valsT v))
      rw [valsT_ne (fun e => h19 (by rw [List.eq_nil_of_length_eq_zero (show v.length = 0 by omega)]; rfl))]
def plB (b : UInt8) : Bool := b == 58 || digB b
theorem pl_a {b : UInt8} (g : (b.toNat : Int) = 58) : plB b = true := by
  unfold plB
  rw [show b = 58 from UInt8.toNat_inj.1 (by have : (58 : UInt8).toNat = 58 := rfl; omega)]; rfl
theorem pl_b {b : UInt8} (g : ¬ (b.toNat : Int) = 58) : plB b = digB b := by
  unfold plB
  rw [beq_eq_false_iff_ne.2 (fun e => g (by rw [e]; rfl)), Bool.false_or]
theorem plain_no {s : ByteArray} {x : Nat} (hx : x < s.data.toList.length) (h : plB (s.data.toList.getD x 0) = false) : plainB s = false := by
  have : s.data.toList.all plB = false := by
    rw [Bool.eq_false_iff]
    intro ha
    have := List.all_eq_true.1 ha _ (mem_getD (d := 0) hx)
    rw [h] at this; cases this
  unfold plainB
  rw [show (s.data.toList.all fun b => b == 58 || digB b) = false from this, Bool.and_false]
theorem plain_yes {s : ByteArray} {x : Nat} (hx : x = s.data.toList.length) (h : (s.data.toList.take x).all plB = true) : plainB s = decide (0 < s.size) := by
  rw [hx, List.take_length] at h
  unfold plainB
  rw [show (s.data.toList.all fun b => b == 58 || digB b) = true from h, Bool.and_true]
theorem ne_size (s : ByteArray) : (!decide (s = (⟨#[]⟩ : ByteArray))) = decide (0 < s.size) := by
  by_cases h : s = ⟨#[]⟩
  · subst h; rfl
  · rw [decide_eq_false h, decide_eq_true]
    · rfl
    · rcases Nat.eq_zero_or_pos s.size with h0 | h0
      · exfalso
        apply h
        obtain ⟨d⟩ := s
        congr 1
        exact Array.eq_empty_of_size_eq_zero h0
      · exact h0
theorem all_pushP {l : List UInt8} {x : Nat} (hx : x < l.length) (h : (l.take x).all plB = true) (hb : plB (l.getD x 0) = true) : (l.take (x + 1)).all plB = true := by
  rw [take_push 0 hx, List.all_append, h, List.all_cons, hb]; rfl
theorem isKey_c (s : ByteArray) (hs : s.size ≤ 1048576) : Val E.P 164 [S s] (T (plainB s)) := by
  refine CallsA.body (E := E) (fn := Tryz.f164) Tryz.func164 rfl fun B hB => ?_
  simp only [Tryz.ntmps164, go_sem, nl, Nat.reduceSub, Nat.reduceAdd, List.reduceReplicate]
  have hsz := size_list s
  refine Wp.seqK fun K1 hK1 => ?_
  refine rg ?_
  refine hK1 _ ?_
  clear hK1 K1
  refine Wp.seqK fun K2 hK2 => ?_
  refine Wp.seqK fun K3 hK3 => ?_
  refine rg ?_
  refine hK3 _ ?_
  clear hK3 K3
  refine Wp.block ?_
  refine Wp.loopU0 (α := Nat) (fun x => [.k, .d, .d, .d, .d, .k, .v (I x), .d5, .d5, .d5, .d5, .d]) (fun x => x ≤ s.data.toList.length ∧ (s.data.toList.take x).all plB = true) (fun x => s.data.toList.length - x) 0 (⟨Nat.zero_le _, rfl⟩) anyS ?_
  rintro x f4 K4 ⟨hx, ha⟩ hK4
  simp only [updT_k, updT_d, updT_d5, updT_v, updT_nil, Nat.reduceAdd]
  refine Wp.seqK fun K5 hK5 => ?_
  refine rg ?_
  refine hK5 _ ?_
  clear hK5 K5
  refine Wp.seqK fun K6 hK6 => ?_
  refine Wp.condS (fun h7 => ?_) (fun h7 => ?_)
  · have hxl : x < s.data.toList.length := by omega
    have hbl := byte_le (s.data.toList.getD x 0)
    refine Wp.skip ?_
    refine hK6 _ ?_
    clear hK6 K6
    refine Wp.seqK fun K7 hK7 => ?_
    refine Wp.block ?_
    refine Wp.seqK fun K8 hK8 => ?_
    refine rg ?_
    refine hK8 _ ?_
    clear hK8 K8
    refine Wp.seqU0 [.k, .d, .d, .d, .d, .k, .k, .d5, .d5, .d5, .d, .d, .v (T (!plB (s.data.toList.getD x 0))), .d, .d, .d] (fun K9 hK9 => ?_) ?_
    · refine rg ?_
      refine grdA_split rfl (fun g4_5 => ?_) (fun g4_5 => ?_)
      · try simp only [Bool.not_eq_true', Bool.not_eq_false', decide_eq_true_eq, decide_eq_false_iff_not] at g4_5
        try refine evd ?_
        refine grdA_split rfl (fun g4_10 => ?_) (fun g4_10 => ?_)
        · try simp only [Bool.not_eq_true', Bool.not_eq_false', decide_eq_true_eq, decide_eq_false_iff_not] at g4_10
          try refine evd ?_
          exact hK9 _ (anyS (h := by rw [show plB (s.data.toList.getD x 0) = false from (by rw [pl_b g4_5]; exact dig_a g4_10)]; rfl))
        · try simp only [Bool.not_eq_true', Bool.not_eq_false', decide_eq_true_eq, decide_eq_false_iff_not] at g4_10
          try refine evd ?_
          exact hK9 _ (anyS (h := by rw [show plB (s.data.toList.getD x 0) = digB (s.data.toList.getD x 0) from pl_b g4_5, dig_b g4_10]; rfl))
      · try simp only [Bool.not_eq_true', Bool.not_eq_false', decide_eq_true_eq, decide_eq_false_iff_not] at g4_5
        try refine evd ?_
        exact hK9 _ (anyS (h := by rw [show plB (s.data.toList.getD x 0) = true from pl_a g4_5]; rfl))
    rintro f9
    simp only [updT_k, updT_d, updT_d5, updT_v, updT_nil, Nat.reduceAdd]
    refine Wp.condS (fun h24 => ?_) (fun h24 => ?_)
    · have hb : plB (s.data.toList.getD x 0) = false := h24
      refine Wp.seqK fun K10 hK10 => ?_
      refine rg ?_
      refine hK10 _ ?_
      clear hK10 K10
      refine Wp.ret (retV ?_)
      try simp only [List.getD_cons_zero, List.getD_cons_succ]
      rw [plain_no hxl hb]
    · have hb : plB (s.data.toList.getD x 0) = true := h24
      refine Wp.skip ?_
      try simp only [thn, inB, if_true, reduceIte]
      refine hK7 _ ?_
      clear hK7 K7
      refine rg ?_
      exact hK4 (x + 1) _ ⟨hxl, all_pushP hxl ha hb⟩ (by omega) anyS
  · have hxl : x = s.data.toList.length := by omega
    refine Wp.exit ?_
    try simp only [thn, inB, if_true, reduceIte]
    clear hK6 K6
    clear hK4 K4
    refine hK2 _ ?_
    clear hK2 K2
    refine Wp.seqK fun K11 hK11 => ?_
    refine rg ?_
    refine hK11 _ ?_
    clear hK11 K11
    refine Wp.ret (retV ?_)
    try simp only [List.getD_cons_zero, List.getD_cons_succ]
    rw [plain_yes hxl ha, ne_size]
theorem l11Plain_c (s : ByteArray) (hs : s.size ≤ 1048576) : Val E.P 96 [S s] (T (plainB s)) := by
  refine CallsA.body (E := E) (fn := Tryz.f96) Tryz.func96 rfl fun B hB => ?_
  simp only [Tryz.ntmps96, go_sem, nl, Nat.reduceSub, Nat.reduceAdd, List.reduceReplicate]
  have hsz := size_list s
  refine Wp.seqK fun K1 hK1 => ?_
  refine rg ?_
  refine hK1 _ ?_
  clear hK1 K1
  refine Wp.seqK fun K2 hK2 => ?_
  refine Wp.seqK fun K3 hK3 => ?_
  refine rg ?_
  refine hK3 _ ?_
  clear hK3 K3
  refine Wp.block ?_
  refine Wp.loopU0 (α := Nat) (fun x => [.k, .d, .d, .v (I x), .d5, .d5, .d5, .d5, .d]) (fun x => x ≤ s.data.toList.length ∧ (s.data.toList.take x).all plB = true) (fun x => s.data.toList.length - x) 0 (⟨Nat.zero_le _, rfl⟩) anyS ?_
  rintro x f4 K4 ⟨hx, ha⟩ hK4
  simp only [updT_k, updT_d, updT_d5, updT_v, updT_nil, Nat.reduceAdd]
  refine Wp.seqK fun K5 hK5 => ?_
  refine Wp.seqK fun K6 hK6 => ?_
  refine rg ?_
  refine hK6 _ ?_
  clear hK6 K6
  refine Wp.condS (fun h7 => ?_) (fun h7 => ?_)
  · have hxl : x < s.data.toList.length := by omega
    have hbl := byte_le (s.data.toList.getD x 0)
    refine Wp.skip ?_
    refine hK5 _ ?_
    clear hK5 K5
    refine Wp.seqK fun K7 hK7 => ?_
    refine Wp.block ?_
    refine Wp.seqU0 [.k, .d, .d, .k, .d5, .d5, .d5, .d, .d, .v (T (!plB (s.data.toList.getD x 0))), .d, .d, .d] (fun K8 hK8 => ?_) ?_
    · refine rg ?_
      refine grdA_split rfl (fun g4_5 => ?_) (fun g4_5 => ?_)
      · try simp only [Bool.not_eq_true', Bool.not_eq_false', decide_eq_true_eq, decide_eq_false_iff_not] at g4_5
        try refine evd ?_
        refine ⟨rfl, CallK.valA (h := l01In_c _ _ _) (k := ?_)⟩
        refine evd ?_
        exact hK8 _ (anyS (h := by rw [show plB (s.data.toList.getD x 0) = digB (s.data.toList.getD x 0) from pl_b g4_5]; rfl))
      · try simp only [Bool.not_eq_true', Bool.not_eq_false', decide_eq_true_eq, decide_eq_false_iff_not] at g4_5
        try refine evd ?_
        exact hK8 _ (anyS (h := by rw [show plB (s.data.toList.getD x 0) = true from pl_a g4_5]; rfl))
    rintro f8
    simp only [updT_k, updT_d, updT_d5, updT_v, updT_nil, Nat.reduceAdd]
    refine Wp.condS (fun h21 => ?_) (fun h21 => ?_)
    · have hb : plB (s.data.toList.getD x 0) = false := h21
      refine Wp.seqK fun K9 hK9 => ?_
      refine rg ?_
      refine hK9 _ ?_
      clear hK9 K9
      refine Wp.ret (retV ?_)
      try simp only [List.getD_cons_zero, List.getD_cons_succ]
      rw [plain_no hxl hb]
    · have hb : plB (s.data.toList.getD x 0) = true := h21
      refine Wp.skip ?_
      try simp only [thn, inB, if_true, reduceIte]
      refine hK7 _ ?_
      clear hK7 K7
      refine rg ?_
      exact hK4 (x + 1) _ ⟨hxl, all_pushP hxl ha hb⟩ (by omega) anyS
  · have hxl : x = s.data.toList.length := by omega
    refine Wp.exit ?_
    try simp only [thn, inB, if_true, reduceIte]
    clear hK5 K5
    clear hK4 K4
    refine hK2 _ ?_
    clear hK2 K2
    refine Wp.seqK fun K10 hK10 => ?_
    refine rg ?_
    refine hK10 _ ?_
    clear hK10 K10
    refine Wp.ret (retV ?_)
    try simp only [List.getD_cons_zero, List.getD_cons_succ]
    rw [plain_yes hxl ha]
    exact congrArg (fun b => AV.l (.sc (.bool b))) (decide_eq_decide.2 ⟨fun h => by omega, fun h => by omega⟩)
theorem bit_c (b : Bool) : Val E.P 163 [T b] (I (if b = true then 1 else 0)) := by
  refine CallsA.body (E := E) (fn := Tryz.f163) Tryz.func163 rfl fun B hB => ?_
  simp only [Tryz.ntmps163, go_sem, nl, Nat.reduceSub, Nat.reduceAdd, List.reduceReplicate]
  refine Wp.seqK fun K1 hK1 => ?_
  refine rg ?_
  refine hK1 _ ?_
  clear hK1 K1
  refine Wp.seqK fun K2 hK2 => ?_
  refine Wp.seqK fun K3 hK3 => ?_
  refine rg ?_
  refine hK3 _ ?_
  clear hK3 K3
  refine Wp.condS (fun h3 => ?_) (fun h3 => ?_)
  · refine Wp.seqK fun K4 hK4 => ?_
    refine rg ?_
    refine hK4 _ ?_
    clear hK4 K4
    refine Wp.ret (retV ?_)
    try simp only [List.getD_cons_zero, List.getD_cons_succ]
    rw [h3]; rfl
  · refine Wp.skip ?_
    refine hK2 _ ?_
    clear hK2 K2
    refine Wp.seqK fun K5 hK5 => ?_
    refine rg ?_
    refine hK5 _ ?_
    clear hK5 K5
    refine Wp.ret (retV ?_)
    try simp only [List.getD_cons_zero, List.getD_cons_succ]
    rw [h3]; rfl
theorem l01Bool_c (b : Bool) : Val E.P 95 [T b] (I (if b = true then 1 else 0)) := by
  refine CallsA.body (E := E) (fn := Tryz.f95) Tryz.func95 rfl fun B hB => ?_
  simp only [Tryz.ntmps95, go_sem, nl, Nat.reduceSub, Nat.reduceAdd, List.reduceReplicate]
  refine Wp.seqK fun K1 hK1 => ?_
  refine rg ?_
  refine hK1 _ ?_
  clear hK1 K1
  refine Wp.seqK fun K2 hK2 => ?_
  refine Wp.seqK fun K3 hK3 => ?_
  refine rg ?_
  refine hK3 _ ?_
  clear hK3 K3
  refine Wp.condS (fun h3 => ?_) (fun h3 => ?_)
  · refine Wp.seqK fun K4 hK4 => ?_
    refine rg ?_
    refine hK4 _ ?_
    clear hK4 K4
    refine Wp.ret (retV ?_)
    try simp only [List.getD_cons_zero, List.getD_cons_succ]
    rw [h3]; rfl
  · refine Wp.skip ?_
    refine hK2 _ ?_
    clear hK2 K2
    refine Wp.seqK fun K5 hK5 => ?_
    refine rg ?_
    refine hK5 _ ?_
    clear hK5 K5
    refine Wp.ret (retV ?_)
    try simp only [List.getD_cons_zero, List.getD_cons_succ]
    rw [h3]; rfl
theorem decimal_m : Val E.P 161 [I (-1)] (S (mkB [45, 49])) := by
  refine CallsA.body (E := E) (fn := Tryz.f161) Tryz.func161 rfl fun B hB => ?_
  simp only [Tryz.ntmps161, go_sem, nl, Nat.reduceSub, Nat.reduceAdd, List.reduceReplicate]
  refine Wp.seqK fun K1 hK1 => ?_
  refine rg ?_
  refine hK1 _ ?_
  clear hK1 K1
  refine Wp.seqK fun K2 hK2 => ?_
  refine Wp.seqK fun K3 hK3 => ?_
  refine rg ?_
  refine hK3 _ ?_
  clear hK3 K3
  refine Wp.condS (fun h4 => ?_) (fun h4 => ?_)
  · refine Wp.seqK fun K4 hK4 => ?_
    refine rg ?_
    refine ⟨rfl, CallK.valA (h := digits_c 1 (by omega)) (k := ?_)⟩
    refine evd ?_
    rw [show decL 1 = [49] from by rw [decL]; rfl]
    refine ⟨by decide, ?_⟩
    try refine evd ?_
    refine hK4 _ ?_
    clear hK4 K4
    refine Wp.ret (retV ?_)
    try simp only [List.getD_cons_zero, List.getD_cons_succ]
    rfl
  · first | exact h4.elim | exact absurd h4 (by decide) | omega | simp at h4
theorem l03Dec_m : Val E.P 93 [I (-1)] (S (mkB [45, 49])) := by
  refine CallsA.body (E := E) (fn := Tryz.f93) Tryz.func93 rfl fun B hB => ?_
  simp only [Tryz.ntmps93, go_sem, nl, Nat.reduceSub, Nat.reduceAdd, List.reduceReplicate]
  refine Wp.seqK fun K1 hK1 => ?_
  refine rg ?_
  refine hK1 _ ?_
  clear hK1 K1
  refine Wp.seqK fun K2 hK2 => ?_
  refine Wp.seqK fun K3 hK3 => ?_
  refine rg ?_
  refine hK3 _ ?_
  clear hK3 K3
  refine Wp.condS (fun h7 => ?_) (fun h7 => ?_)
  · first | exact h7.elim | exact absurd h7 (by decide) | omega | simp at h7
  · refine Wp.skip ?_
    refine hK2 _ ?_
    clear hK2 K2
    refine Wp.seqK fun K4 hK4 => ?_
    refine rg ?_
    refine hK4 _ ?_
    clear hK4 K4
    refine Wp.seqK fun K5 hK5 => ?_
    refine rg ?_
    refine hK5 _ ?_
    clear hK5 K5
    refine Wp.seqK fun K6 hK6 => ?_
    refine Wp.block ?_
    refine Wp.loopU0 (α := Bool) (fun x => [.k, .d, .d, .v (S (if x = true then mkB [49] else ⟨#[]⟩)), .v (I (if x = true then 0 else -1)), .d5, .d5, .d5, .d5, .d5]) (fun x => True) (fun x => if x = true then 0 else 1) false (trivial) anyS ?_
    rintro x f7 K7 _ hK7
    simp only [updT_k, updT_d, updT_d5, updT_v, updT_nil, Nat.reduceAdd]
    refine Wp.seqK fun K8 hK8 => ?_
    refine Wp.seqK fun K9 hK9 => ?_
    refine rg ?_
    refine hK9 _ ?_
    clear hK9 K9
    refine Wp.condS (fun h10 => ?_) (fun h10 => ?_)
    · obtain rfl : x = false := by cases x <;> simp_all
      simp only [Bool.false_eq_true, if_false]
      refine Wp.skip ?_
      refine hK8 _ ?_
      clear hK8 K8
      refine Wp.block ?_
      refine Wp.seqK fun K10 hK10 => ?_
      refine rg ?_
      simp only [show (-1 : Int).tmod 10 = -1 from rfl]
      refine hK10 _ ?_
      clear hK10 K10
      refine Wp.seqK fun K11 hK11 => ?_
      refine Wp.seqK fun K12 hK12 => ?_
      refine rg ?_
      refine hK12 _ ?_
      clear hK12 K12
      refine Wp.condS (fun h14 => ?_) (fun h14 => ?_)
      · refine rg ?_
        refine hK11 _ ?_
        clear hK11 K11
        refine Wp.seqK fun K13 hK13 => ?_
        refine rg ?_
        rw [show ByteArray.extract ⟨#[48, 49, 50, 51, 52, 53, 54, 55, 56, 57]⟩ 1 2 = mkB [49] from dig_slice (d := 1) (by decide)]
        refine ⟨by decide, by decide, ?_⟩
        try refine evd ?_
        refine hK13 _ ?_
        clear hK13 K13
        refine rg ?_
        try simp only [thn, inB, if_true, reduceIte]
        exact hK7 true _ trivial (by decide) anyS
      · first | exact h14.elim | exact absurd h14 (by decide) | omega | simp at h14
    · obtain rfl : x = true := by cases x <;> simp_all
      simp only [if_true]
      refine Wp.exit ?_
      try simp only [thn, inB, if_true, reduceIte]
      clear hK8 K8
      clear hK7 K7
      refine hK6 _ ?_
      clear hK6 K6
      refine Wp.seqK fun K14 hK14 => ?_
      refine Wp.seqK fun K15 hK15 => ?_
      refine rg ?_
      refine hK15 _ ?_
      clear hK15 K15
      refine Wp.condS (fun h26 => ?_) (fun h26 => ?_)
      · refine Wp.seqK fun K16 hK16 => ?_
        refine rg ?_
        refine ⟨by decide, ?_⟩
        try refine evd ?_
        refine hK16 _ ?_
        clear hK16 K16
        refine Wp.ret (retV ?_)
        try simp only [List.getD_cons_zero, List.getD_cons_succ]
        rfl
      · first | exact h26.elim | exact absurd h26 (by decide) | omega | simp at h26
theorem decimal_r (n : Int) (hn : -1 ≤ n ∧ n ≤ 1) : Val E.P 161 [I n] (S (mkB (retT n))) := by
  unfold retT
  by_cases h : n = -1
  · subst h
    rw [if_pos rfl]
    exact decimal_m
  · rw [if_neg h]
    exact decimal_i n (by omega)
theorem l03Dec_r (n : Int) (hn : -1 ≤ n ∧ n ≤ 1) : Val E.P 93 [I n] (S (mkB (retT n))) := by
  unfold retT
  by_cases h : n = -1
  · subst h
    rw [if_pos rfl]
    exact l03Dec_m
  · rw [if_neg h]
    exact l03Dec_i n (by omega)
end Go.Proofs.YtonacngeaknlcaaGreatDoor.RE
