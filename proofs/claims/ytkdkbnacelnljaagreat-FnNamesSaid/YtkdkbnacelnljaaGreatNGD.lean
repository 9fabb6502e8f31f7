/- The value of a term, the reference. Conditions: those that a theorem names. -/
import Derived.Test.YtkdkbnacelnljaaGreatNGC
set_option linter.unusedVariables false
set_option linter.unusedSimpArgs false
namespace Go.Proofs.YtkdkbnacelnljaaGreat.RE
open Go Go.RowKit
set_option maxRecDepth 100000
set_option maxHeartbeats 8000000
/-! ### The value of a term, the reference -/
def vlS (t : List Nd) (env : List Int) (k : Nat) : List Int := (List.range k).map (evT quS t env)
theorem vlS_len (t : List Nd) (env : List Int) (k : Nat) : (vlS t env k).length = k := by simp [vlS]
theorem vlS_push (t : List Nd) (env : List Int) (k : Nat) : vlS t env k ++ [evT quS t env k] = vlS t env (k + 1) := by simp [vlS, List.range_succ]
theorem vlS_at {t : List Nd} {env : List Int} {k j : Nat} (h : j < k) : (vlS t env k).getD j 0 = evT quS t env j := by simp [vlS, List.getD_eq_getElem?_getD, h]
def AtS (t : List Nd) (i : Nat) : Prop := ∀ (g : Nat) (env : List Int), env.length = 8 → CallsA E.P 76 [dN t, .l (.obj 0 g 1 0 8), I i] [some ⟨g, env.map ci⟩] fun r ob => r = I (evT quS t env i) ∧ ob = [some ⟨g, env.map ci⟩]
def OneS (t : List Nd) (k : Nat) : Prop := ∀ (g0 g : Nat) (env : List Int), env.length = 8 → CallsA E.P 103 [dN t, .l (.obj 0 g0 1 0 8), .l (.obj 1 g 1 0 k), I k] [some ⟨g0, env.map ci⟩, some ⟨g, (vlS t env k).map ci⟩] fun r ob => r = I (evT quS t env k) ∧ ob = [some ⟨g0, env.map ci⟩, some ⟨g, (vlS t env k).map ci⟩]
theorem at_step (t : List Nd) (hl : t.length ≤ 80) (i : Nat) (hi : i < t.length) (hone : ∀ k, k ≤ i → OneS t k) (g : Nat) (env : List Int) (he : env.length = 8) : CallsA E.P 76 [dN t, .l (.obj 0 g 1 0 8), I i] [some ⟨g, env.map ci⟩] fun r ob => r = I (evT quS t env i) ∧ ob = [some ⟨g, env.map ci⟩] := by
  refine CallsA.body (E := E) (fn := Tryz.f76) Tryz.func76 rfl fun B hB => ?_
  simp only [Tryz.ntmps76, go_sem, nl, Nat.reduceSub, Nat.reduceAdd, List.reduceReplicate]
  refine Wp.seqK fun K1 hK1 => ?_
  refine rg ?_
  refine hK1 _ ?_
  clear hK1 K1
  refine Wp.seqK fun K2 hK2 => ?_
  refine rg ?_
  refine hK2 _ ?_
  clear hK2 K2
  refine Wp.seqK fun K3 hK3 => ?_
  refine Wp.seqK fun K4 hK4 => ?_
  refine rg ?_
  refine hK4 _ ?_
  clear hK4 K4
  refine Wp.block ?_
  refine Wp.loopU (α := Nat) (fun k => [.k, .k, .k, .d, .d, .d, .d, .v (.l (.obj 1 k 1 0 k)), .v (I k), .d5, .d5, .d5, .d, .d, .d]) (fun k => [some ⟨g, env.map ci⟩, some ⟨k, (vlS t env k).map ci⟩]) (fun k => k ≤ i + 1) (fun k => i + 1 - k) 0 (Nat.zero_le _) (anyS) ?_
  rintro k f5 K5 hk hK5
  simp only [updT_k, updT_d, updT_d5, updT_v, updT_nil, Nat.reduceAdd]
  have hvl := vlS_len t env k
  refine Wp.seqK fun K6 hK6 => ?_
  refine Wp.seqK fun K7 hK7 => ?_
  refine rg ?_
  refine hK7 _ ?_
  clear hK7 K7
  refine Wp.condS (fun h12 => ?_) (fun h12 => ?_)
  · have hki : k ≤ i := by omega
    refine Wp.skip ?_
    refine hK6 _ ?_
    clear hK6 K6
    refine Wp.seqK fun K8 hK8 => ?_
    refine Wp.block ?_
    refine rg ?_
    refine ⟨rfl, CallK.passS [0, 1] (h := hone k hki g k env he) (k := ?_)⟩
    refine evd ?_
    try simp only [thn, inB, if_true, reduceIte]
    refine hK8 _ ?_
    clear hK8 K8
    refine Wp.keep 2 (by simp [hB]) (by simp) ?_
    refine evd ?_
    refine rg ?_
    exact hK5 (k + 1) _ (by omega) (by omega) (anyS (ho := by rw [← vlS_push, List.map_append] <;> rfl))
  · have hki : k = i + 1 := by omega
    subst hki
    refine Wp.exit ?_
    try simp only [thn, inB, if_true, reduceIte]
    clear hK6 K6
    clear hK5 K5
    refine hK3 _ ?_
    clear hK3 K3
    refine Wp.seqK fun K9 hK9 => ?_
    refine rg ?_
    refine hK9 _ ?_
    clear hK9 K9
    rw [vlS_at (Nat.lt_succ_self i)]
    refine Wp.ret (retH (n := 1) rfl rfl)
def qL (t : List Nd) (env : List Int) (v a x : Nat) : List Int := (List.range x).map fun (y : Nat) => evT quS t (env.set v y) a
theorem qL_push (t : List Nd) (env : List Int) (v a x : Nat) : qL t env v a (x + 1) = qL t env v a x ++ [evT quS t (env.set v (x : Nat)) a] := by simp [qL, List.range_succ]
def alB (l : List Int) : Bool := l.all fun v => decide (v = 1)
def soB (l : List Int) : Bool := l.any fun v => decide (v = 1)
theorem alB_push (l : List Int) (y : Int) : alB (l ++ [y]) = (alB l && decide (y = 1)) := by simp [alB]
theorem soB_push (l : List Int) (y : Int) : soB (l ++ [y]) = (soB l || decide (y = 1)) := by simp [soB]
def xsS (t : List Nd) (env : List Int) (n : Nd) (k : Nat) : List Int := (List.range 3).map fun j => if j < k then evT quS t env ((parts n).getD j 0).toNat else 0
theorem xsS_len (t : List Nd) (env : List Int) (n : Nd) (k : Nat) : (xsS t env n k).length = 3 := by simp [xsS]
theorem xsS_at (t : List Nd) (env : List Int) (n : Nd) (k : Nat) {j : Nat} (hj : j < 3) : (xsS t env n k).getD j 0 = if j < k then evT quS t env ((parts n).getD j 0).toNat else 0 := by
  simp [xsS, List.getD_eq_getElem?_getD, hj]
theorem xsS_set (t : List Nd) (env : List Int) (n : Nd) {k : Nat} (hk : k < 3) : (xsS t env n k).set k (evT quS t env ((parts n).getD k 0).toNat) = xsS t env n (k + 1) := by
  apply List.ext_getElem?
  intro j
  by_cases e : k = j
  · subst e
    rw [List.getElem?_set_self (by rw [xsS_len]; exact hk)]
    simp [xsS, hk]
  · rw [List.getElem?_set_ne e]
    by_cases hj : j < 3
    · simp only [xsS, List.getElem?_map, List.getElem?_range hj, Option.map_some]
      have : (j < k + 1) ↔ (j < k) := by omega
      simp only [this]
    · rw [List.getElem?_eq_none (by rw [xsS_len]; omega), List.getElem?_eq_none (by rw [xsS_len]; omega)]
theorem one_step (t : List Nd) (hok : okT t = true) (hl : t.length ≤ 80) (k : Nat) (hk : k < t.length) (ih : ∀ j, j < k → AtS t j) (g0 g : Nat) (env : List Int) (he : env.length = 8) : CallsA E.P 103 [dN t, .l (.obj 0 g0 1 0 8), .l (.obj 1 g 1 0 k), I k] [some ⟨g0, env.map ci⟩, some ⟨g, (vlS t env k).map ci⟩] fun r ob => r = I (evT quS t env k) ∧ ob = [some ⟨g0, env.map ci⟩, some ⟨g, (vlS t env k).map ci⟩] := by
  refine CallsA.body (E := E) (fn := Tryz.f103) Tryz.func103 rfl fun B hB => ?_
  simp only [Tryz.ntmps103, go_sem, nl, Nat.reduceSub, Nat.reduceAdd, List.reduceReplicate]
  have hpo := okT_parts hok
  have hpp := hpo k hk
  have hpl := parts_len (t.getD k default)
  have hka := (okT_kb hok hk).1
  have hkb := (okT_kb hok hk).2
  have hvl := vlS_len t env k
  refine Wp.seqK fun K1 hK1 => ?_
  refine rg ?_
  refine hK1 _ ?_
  clear hK1 K1
  refine Wp.seqK fun K2 hK2 => ?_
  refine rg ?_
  refine hK2 _ ?_
  clear hK2 K2
  refine Wp.seqK fun K3 hK3 => ?_
  refine Wp.seqK fun K4 hK4 => ?_
  refine rg ?_
  refine hK4 _ ?_
  clear hK4 K4
  refine Wp.condS (fun h24 => ?_) (fun h24 => ?_)
  · have h1 : (t.getD k default).op = 1 := h24
    have hv := var_rule (okT_node hok hk) h1
    refine Wp.seqK fun K5 hK5 => ?_
    refine rg ?_
    refine hK5 _ ?_
    clear hK5 K5
    refine Wp.ret (retH (n := 2) (by rw [evT_eq hpo hk env, if_pos h1]) rfl)
  · have hn1 : ¬ (t.getD k default).op = 1 := h24
    refine Wp.skip ?_
    refine hK3 _ ?_
    clear hK3 K3
    refine Wp.seqK fun K6 hK6 => ?_
    refine Wp.seqK fun K7 hK7 => ?_
    refine rg ?_
    refine ⟨rfl, CallK.valA (h := l02Quant_c _) (k := ?_)⟩
    refine evd ?_
    refine hK7 _ ?_
    clear hK7 K7
    refine Wp.condS (fun h32 => ?_) (fun h32 => ?_)
    · have hq : isQ (t.getD k default).op = true := h32
      obtain ⟨⟨hk0, hk7⟩, ⟨hb1, hb8⟩, _, _⟩ := quant_rule (okT_node hok hk) hq
      have hpa := hpp (t.getD k default).a (by rw [parts_q hq]; simp)
      have hkl : (t.getD k default).k.toNat < 8 := by omega
      have hpw := pw8 hb1 hb8
      have h2n : ((2 ^ (t.getD k default).b.toNat : Nat) : Int) = 2 ^ (t.getD k default).b.toNat := by simp
      refine Wp.seqK fun K8 hK8 => ?_
      refine rg ?_
      refine hK8 _ ?_
      clear hK8 K8
      refine Wp.seqK fun K9 hK9 => ?_
      refine rg ?_
      refine hK9 _ ?_
      clear hK9 K9
      refine Wp.seqK fun K10 hK10 => ?_
      refine Wp.seqK fun K11 hK11 => ?_
      refine rg ?_
      refine hK11 _ ?_
      clear hK11 K11
      refine Wp.block ?_
      refine Wp.loopU (α := Nat × List Int) (fun p => [.k, .k, .d5, .d, .d, .k, .k, .v (I (bitT (alB (qL t env (t.getD k default).k.toNat (t.getD k default).a.toNat p.1)))), .v (I (bitT (soB (qL t env (t.getD k default).k.toNat (t.getD k default).a.toNat p.1)))), .v (I p.1), .d5, .d5, .d5, .d5, .d5, .d5, .d5, .d5, .d5, .d5, .d5, .d5, .d5, .d5, .d5, .d5, .d5, .d5, .d, .d, .d]) (fun p => [some ⟨g0, p.2.map ci⟩, some ⟨g, (vlS t env k).map ci⟩, some ⟨0, nl (t.getD k default)⟩]) (fun p => p.1 ≤ 2 ^ (t.getD k default).b.toNat ∧ p.2.length = 8 ∧ (∀ v : Int, p.2.set (t.getD k default).k.toNat v = env.set (t.getD k default).k.toNat v)) (fun p => 2 ^ (t.getD k default).b.toNat - p.1) (0, env) (⟨Nat.zero_le _, he, fun _ => rfl⟩) (anyS) ?_
      rintro ⟨y, e⟩ f12 K12 ⟨hy, hel, hes⟩ hK12
      simp only [updT_k, updT_d, updT_d5, updT_v, updT_nil, Nat.reduceAdd]
      simp only at hy hel hes
      refine Wp.seqK fun K13 hK13 => ?_
      refine Wp.seqK fun K14 hK14 => ?_
      refine rg ?_
      refine ⟨rfl, CallK.valA (h := l01Pow2_c _ (by omega) (by omega)) (k := ?_)⟩
      refine evd ?_
      refine hK14 _ ?_
      clear hK14 K14
      refine Wp.condS (fun h42 => ?_) (fun h42 => ?_)
      · have hyb : y < 2 ^ (t.getD k default).b.toNat := by omega
        refine Wp.skip ?_
        refine hK13 _ ?_
        clear hK13 K13
        refine Wp.seqU (α := List Int) (fun e2 => [.k, .k, .d5, .d, .d, .k, .k, .v (I (bitT (alB (qL t env (t.getD k default).k.toNat (t.getD k default).a.toNat (y + 1))))), .v (I (bitT (soB (qL t env (t.getD k default).k.toNat (t.getD k default).a.toNat (y + 1))))), .k, .d5, .d5, .d5, .d5, .d5, .d5, .d5, .d5, .d5, .d5, .d5, .d5, .d5, .d5, .d5, .d5, .d5, .d5, .d, .d, .d]) (fun e2 => [some ⟨g0, e2.map ci⟩, some ⟨g, (vlS t env k).map ci⟩, some ⟨0, nl (t.getD k default)⟩]) (fun e2 => e2.length = 8 ∧ (∀ v : Int, e2.set (t.getD k default).k.toNat v = env.set (t.getD k default).k.toNat v)) (fun K15 hK15 => ?_) ?_
        · refine Wp.block ?_
          refine Wp.seqK fun K16 hK16 => ?_
          refine rg ?_
          refine hK16 _ ?_
          clear hK16 K16
          refine Wp.seqK fun K17 hK17 => ?_
          refine rg ?_
          refine ⟨rfl, CallK.passS [0] (h := ih (t.getD k default).a.toNat (by omega) g0 (e.set (t.getD k default).k.toNat (y : Int)) (by simp [hel])) (ha := by rw [Int.toNat_of_nonneg hpa.1] <;> rfl) (k := ?_)⟩
          refine evd ?_
          refine hK17 _ ?_
          clear hK17 K17
          refine Wp.condS (fun h55 => ?_) (fun h55 => ?_)
          · have hone1 : evT quS t (env.set (t.getD k default).k.toNat (y : Int)) (t.getD k default).a.toNat = 1 := by rw [← hes]; exact h55
            refine rg ?_
            try simp only [thn, inB, if_true, reduceIte]
            exact hK15 (e.set (t.getD k default).k.toNat (y : Int)) _ ⟨by simp [hel], fun v => by rw [List.set_set]; exact hes v⟩ (anyS (h := by rw [qL_push, alB_push, soB_push, decide_eq_true hone1, Bool.and_true, Bool.or_true] <;> rfl))
          · have hone0 : ¬ evT quS t (env.set (t.getD k default).k.toNat (y : Int)) (t.getD k default).a.toNat = 1 := by rw [← hes]; exact h55
            refine rg ?_
            try simp only [thn, inB, if_true, reduceIte]
            exact hK15 (e.set (t.getD k default).k.toNat (y : Int)) _ ⟨by simp [hel], fun v => by rw [List.set_set]; exact hes v⟩ (anyS (h := by rw [qL_push, alB_push, soB_push, decide_eq_false hone0, Bool.and_false, Bool.or_false] <;> rfl))
        rintro e2 f15 ⟨he2, hs2⟩
        simp only [updT_k, updT_d, updT_d5, updT_v, updT_nil, Nat.reduceAdd]
        refine Wp.keep 3 (by simp [hB]) (by simp) ?_
        refine evd ?_
        refine rg ?_
        exact hK12 (y + 1, e2) _ ⟨hyb, he2, hs2⟩ (Nat.sub_lt_sub_left hyb (Nat.lt_succ_self y)) anyS
      · have hyb : y = 2 ^ (t.getD k default).b.toNat := by omega
        subst hyb
        refine Wp.exit ?_
        try simp only [thn, inB, if_true, reduceIte]
        clear hK13 K13
        clear hK12 K12
        refine hK10 _ ?_
        clear hK10 K10
        refine Wp.seqK fun K18 hK18 => ?_
        refine rg ?_
        refine hK18 _ ?_
        clear hK18 K18
        refine Wp.seqK fun K19 hK19 => ?_
        refine Wp.seqK fun K20 hK20 => ?_
        rw [hes, set_back (by omega)]
        refine rg ?_
        refine hK20 _ ?_
        clear hK20 K20
        refine Wp.condS (fun h63 => ?_) (fun h63 => ?_)
        · refine Wp.seqK fun K21 hK21 => ?_
          refine rg ?_
          refine hK21 _ ?_
          clear hK21 K21
          have hev : evT quS t env k = bitT (alB (qL t env (t.getD k default).k.toNat (t.getD k default).a.toNat (2 ^ (t.getD k default).b.toNat))) := by
            rw [evT_eq hpo hk env, if_neg hn1, if_pos hq, show decide ((t.getD k default).op = 19) = true from decide_eq_true h63]; rfl
          refine Wp.ret (retH (n := 2) (by rw [hev]) rfl)
        · refine Wp.skip ?_
          refine hK19 _ ?_
          clear hK19 K19
          refine Wp.seqK fun K22 hK22 => ?_
          refine rg ?_
          refine hK22 _ ?_
          clear hK22 K22
          have hev : evT quS t env k = bitT (soB (qL t env (t.getD k default).k.toNat (t.getD k default).a.toNat (2 ^ (t.getD k default).b.toNat))) := by
            rw [evT_eq hpo hk env, if_neg hn1, if_pos hq, show decide ((t.getD k default).op = 19) = false from decide_eq_false h63]; rfl
          refine Wp.ret (retH (n := 2) (by rw [hev]) rfl)
    · have hqn : isQ (t.getD k default).op = false := h32
      refine Wp.skip ?_
      refine hK6 _ ?_
      clear hK6 K6
      refine Wp.seqK fun K23 hK23 => ?_
      refine rg ?_
      refine hK23 _ ?_
      clear hK23 K23
      refine Wp.seqK fun K24 hK24 => ?_
      refine rg ?_
      refine hK24 _ ?_
      clear hK24 K24
      refine Wp.seqK fun K25 hK25 => ?_
      refine rg ?_
      refine ⟨rfl, CallK.rowA (h := sParts_c _) (k := ?_)⟩
      refine evd ?_
      refine hK25 _ ?_
      clear hK25 K25
      refine Wp.seqK fun K26 hK26 => ?_
      refine Wp.seqK fun K27 hK27 => ?_
      refine rg ?_
      refine hK27 _ ?_
      clear hK27 K27
      refine Wp.block ?_
      refine Wp.loopU (α := Nat) (fun d => [.k, .d, .k, .d5, .d, .k, .d, .d, .d, .d, .k, .v (I (if d = 0 then 1 else wAt t ((parts (t.getD k default)).getD 0 0))), .k, .v (I d), .d5, .d5, .d5, .d5, .d5, .d5, .d5, .d5, .d5, .d5, .d5, .d5, .d5, .d5, .d5, .d5, .d5, .d, .d, .d, .d]) (fun d => [some ⟨g0, env.map ci⟩, some ⟨g, (vlS t env k).map ci⟩, some ⟨0, nl (t.getD k default)⟩, some ⟨0, (xsS t env (t.getD k default) d).map ci⟩, some ⟨0, (parts (t.getD k default)).map ci⟩]) (fun d => d ≤ (parts (t.getD k default)).length) (fun d => (parts (t.getD k default)).length - d) 0 (Nat.zero_le _) (anyS) ?_
      rintro d f28 K28 hd hK28
      simp only [updT_k, updT_d, updT_d5, updT_v, updT_nil, Nat.reduceAdd]
      have hxl := xsS_len t env (t.getD k default) d
      refine Wp.seqK fun K29 hK29 => ?_
      refine Wp.seqK fun K30 hK30 => ?_
      refine rg ?_
      refine hK30 _ ?_
      clear hK30 K30
      refine Wp.condS (fun h72 => ?_) (fun h72 => ?_)
      · have hdl : d < (parts (t.getD k default)).length := by omega
        have hpk := hpp ((parts (t.getD k default)).getD d 0) (mem_gV hdl)
        refine Wp.skip ?_
        refine hK29 _ ?_
        clear hK29 K29
        refine Wp.seqU (α := Unit) (fun u_ => [.k, .d, .k, .d5, .d, .k, .d, .d, .d, .d, .k, .v (I (if d + 1 = 0 then 1 else wAt t ((parts (t.getD k default)).getD 0 0))), .k, .k, .d5, .d5, .d5, .d5, .d5, .d5, .d5, .d5, .d5, .d5, .d5, .d5, .d5, .d5, .d5, .d5, .d5, .d, .d, .d, .d]) (fun u_ => [some ⟨g0, env.map ci⟩, some ⟨g, (vlS t env k).map ci⟩, some ⟨0, nl (t.getD k default)⟩, some ⟨0, (xsS t env (t.getD k default) (d + 1)).map ci⟩, some ⟨0, (parts (t.getD k default)).map ci⟩]) (fun u_ => True) (fun K31 hK31 => ?_) ?_
        · refine Wp.block ?_
          refine Wp.seqK fun K32 hK32 => ?_
          refine rg ?_
          refine hK32 _ ?_
          clear hK32 K32
          refine Wp.seqK fun K33 hK33 => ?_
          try simp only [vlS_at (show ((parts (t.getD k default)).getD d 0).toNat < k by omega)]
          refine rg ?_
          refine hK33 _ ?_
          clear hK33 K33
          refine Wp.condS (fun h86 => ?_) (fun h86 => ?_)
          · refine rg ?_
            try simp only [thn, inB, if_true, reduceIte]
            exact hK31 () _ trivial (anyS (h := by rw [if_neg (show ¬ d + 1 = 0 by omega), show d = 0 by omega] <;> rfl) (ho := by rw [← xsS_set t env (t.getD k default) (by omega)] <;> rfl))
          · refine Wp.skip ?_
            try simp only [thn, inB, if_true, reduceIte]
            exact hK31 () _ trivial (anyS (h := by rw [if_neg (show ¬ d + 1 = 0 by omega), if_neg (show ¬ d = 0 by omega)] <;> rfl) (ho := by rw [← xsS_set t env (t.getD k default) (by omega)] <;> rfl))
        rintro _ f31 _
        simp only [updT_k, updT_d, updT_d5, updT_v, updT_nil, Nat.reduceAdd]
        refine rg ?_
        exact hK28 (d + 1) _ (by omega) (by omega) anyS
      · have hdl : d = (parts (t.getD k default)).length := by omega
        subst hdl
        refine Wp.exit ?_
        try simp only [thn, inB, if_true, reduceIte]
        clear hK29 K29
        clear hK28 K28
        refine hK26 _ ?_
        clear hK26 K26
        refine Wp.seqK fun K34 hK34 => ?_
        refine Wp.drawI [0, 1, 2, 3, 4, 5, 6, 7] [11] (by kernel_rfl) ?_
        refine evd ?_
        refine ⟨rfl, CallK.valA (h := sApply_c _ _ _ _ _ hka hkb) (k := ?_)⟩
        refine evd ?_
        refine hK34 _ ?_
        clear hK34 K34
        have hval : evT quS t env k = appT (t.getD k default) (if (parts (t.getD k default)).length = 0 then 1 else wAt t ((parts (t.getD k default)).getD 0 0)) ((xsS t env (t.getD k default) (parts (t.getD k default)).length).getD 0 0) ((xsS t env (t.getD k default) (parts (t.getD k default)).length).getD 1 0) ((xsS t env (t.getD k default) (parts (t.getD k default)).length).getD 2 0) := by
          rw [evT_eq hpo hk env, if_neg hn1, if_neg (by rw [hqn]; decide), xsS_at _ _ _ _ (by omega), xsS_at _ _ _ _ (by omega), xsS_at _ _ _ _ (by omega)]; rfl
        refine Wp.ret (retH (n := 2) (by rw [hval]) rfl)
theorem at_all (t : List Nd) (hok : okT t = true) (hl : t.length ≤ 80) : ∀ (m i : Nat), i < m → i < t.length → AtS t i
  | m + 1, i, hm, hi => fun g env he => at_step t hl i hi (fun k hk g0 g1 env' he' => one_step t hok hl k (by omega) (fun j hj => at_all t hok hl m j (by omega) (by omega)) g0 g1 env' he') g env he
theorem l04At_c (t : List Nd) (hok : okT t = true) (hl : t.length ≤ 80) (i : Nat) (hi : i < t.length) : AtS t i := at_all t hok hl (i + 1) i (Nat.lt_succ_self i) hi
end Go.Proofs.YtkdkbnacelnljaaGreat.RE

/-! What suits, the reference. Conditions: those that a theorem names. -/
set_option linter.unusedVariables false
set_option linter.unusedSimpArgs false
namespace Go.Proofs.YtkdkbnacelnljaaGreat.RE
open Go Go.RowKit
set_option maxRecDepth 100000
set_option maxHeartbeats 8000000
/-! ### What suits, as the reference asks it -/
def rowM (t : List Nd) (i : Nat) : List Int := (List.range 8).map fun (v : Nat) => ((msk t v i : Nat) : Int)
theorem rowM_len (t : List Nd) (i : Nat) : (rowM t i).length = 8 := by simp [rowM]
def rowsM (t : List Nd) (x : Nat) : List LV := (List.range x).map fun i => LV.dsl false 8 (encI (rowM t i))
theorem rowsM_len (t : List Nd) (x : Nat) : (rowsM t x).length = x := by simp [rowsM]
theorem rowsM_push (t : List Nd) (x : Nat) : rowsM t x ++ [LV.dsl false 8 (encI (rowM t x))] = rowsM t (x + 1) := by simp [rowsM, List.range_succ]
theorem rowsM_flat (t : List Nd) (x : Nat) : (rowsM t x).all LV.flat = true := by simp [rowsM, LV.flat]
theorem rowsM_ren (m : Nat → Nat → Option (Nat × Nat)) (t : List Nd) (x : Nat) : (rowsM t x).map (LV.ren m) = rowsM t x := map_flat (rowsM_flat t x)
theorem rowsM_fz (o g : Nat) (ds : List DV) (t : List Nd) (x : Nat) : (rowsM t x).map (LV.fz o g ds) = rowsM t x := map_fz (rowsM_flat t x)
theorem rowsM_at {t : List Nd} {x i : Nat} (h : i < x) : (rowsM t x).getD i .dead = .dsl false 8 (encI (rowM t i)) := by
  simp [rowsM, List.getD_eq_getElem?_getD, h]
theorem rowM_at {t : List Nd} {i v : Nat} (h : v < 8) : ((encI (rowM t i)).drop v).getD 0 .nils = .sc (.int .i64 ((msk t v i : Nat) : Int)) := by
  rw [atDI (by rw [rowM_len]; exact h)]
  congr 2
  simp [rowM, List.getD_eq_getElem?_getD, h]
theorem rowM_enc (t : List Nd) (i : Nat) : (encI (rowM t i)).take 8 = encI (rowM t i) := List.take_of_length_le (by rw [encI_len, rowM_len]; omega)
theorem rowM_fixed (t : List Nd) (i : Nat) : (rowM t i).map ci = (encI (rowM t i)).map (LV.ofD false) := (lI_encI _ _).symm
attribute [go_sem] rowsM_push rowsM_ren rowsM_fz rowsM_at rowM_at rowM_enc rowsM_len rowM_len
def preM (t : List Nd) (i v : Nat) : List Int := (List.range v).map fun (v : Nat) => ((msk t v i : Nat) : Int)
theorem preM_len (t : List Nd) (i v : Nat) : (preM t i v).length = v := by simp [preM]
theorem preM_push (t : List Nd) (i v : Nat) : preM t i v ++ [((msk t v i : Nat) : Int)] = preM t i (v + 1) := by simp [preM, List.range_succ]
theorem preM_end (t : List Nd) (i : Nat) : preM t i 8 = rowM t i := rfl
def rawK (t : List Nd) (v : Int) (i k : Nat) : Nat := orL (mskB t v i) ((parts (t.getD i default)).take k) (if (t.getD i default).op = 1 ∧ (t.getD i default).k = v then 2 ^ (t.getD i default).w.toNat else 0)
theorem rawK_0 (t : List Nd) (v : Int) (i : Nat) : rawK t v i 0 = if (t.getD i default).op = 1 ∧ (t.getD i default).k = v then 2 ^ (t.getD i default).w.toNat else 0 := rfl
theorem rawK_end (t : List Nd) (v : Int) (i : Nat) : rawK t v i (parts (t.getD i default)).length = raw t v i := by
  unfold rawK raw rawM
  rw [List.take_length]
theorem rawK_push {t : List Nd} (v : Int) {i k : Nat} (h : k < (parts (t.getD i default)).length) (hp : ((parts (t.getD i default)).getD k 0).toNat < i) : rawK t v i (k + 1) = rawK t v i k ||| msk t v ((parts (t.getD i default)).getD k 0).toNat := by
  unfold rawK orL
  rw [take_push 0 h, List.foldl_append]
  show _ ||| (mskB t v i).getD _ 0 = _
  rw [mskB_get t v hp]
theorem msk_no {t : List Nd} {v : Int} {i : Nat} (h : (isQ (t.getD i default).op && decide ((t.getD i default).k = v)) = false) : msk t v i = raw t v i := by
  unfold msk oneM raw
  rw [if_neg]
  rintro ⟨h1, h2⟩
  rw [h1, decide_eq_true h2] at h
  cases h
theorem msk_yes {t : List Nd} {v : Int} {i : Nat} (h : (isQ (t.getD i default).op && decide ((t.getD i default).k = v)) = true) : msk t v i = 0 := by
  unfold msk oneM
  rw [Bool.and_eq_true, decide_eq_true_eq] at h
  rw [if_pos h]
theorem orL_lt {l : List Nat} (hl : ∀ j, l.getD j 0 < 2 ^ 9) : ∀ (ps : List Int) (b : Nat), b < 2 ^ 9 → orL l ps b < 2 ^ 9
  | [], b, h => h
  | p :: ps, b, h => orL_lt hl ps _ (Nat.or_lt_two_pow h (hl _))
theorem base_lt {t : List Nd} (hok : okT t = true) (v : Int) {i : Nat} (hi : i < t.length) : (if (t.getD i default).op = 1 ∧ (t.getD i default).k = v then 2 ^ (t.getD i default).w.toNat else 0) < 2 ^ 9 := by
  have hw := (okT_node hok hi).w
  split
  · exact Nat.pow_lt_pow_right (by decide) (by omega)
  · decide
theorem mskB_lt {t : List Nd} (hok : okT t = true) (v : Int) : ∀ i, i ≤ t.length → ∀ j, (mskB t v i).getD j 0 < 2 ^ 9
  | 0, _, j => by simp [mskB]
  | i + 1, hi, j => by
    have ih := mskB_lt hok v i (by omega)
    show (mskB t v i ++ [oneM t v (mskB t v i) i]).getD j 0 < _
    have hl := mskB_len t v i
    rcases Nat.lt_or_ge j i with h | h
    · rw [List.getD_eq_getElem?_getD, List.getElem?_append_left (by omega), ← List.getD_eq_getElem?_getD]
      exact ih j
    · rw [List.getD_eq_getElem?_getD, List.getElem?_append_right (by omega)]
      rcases Nat.lt_or_ge (j - (mskB t v i).length) 1 with h2 | h2
      · rw [show j - (mskB t v i).length = 0 by omega]
        show oneM t v (mskB t v i) i < _
        unfold oneM
        split
        · decide
        · exact orL_lt ih _ _ (base_lt hok v (by omega))
      · rw [List.getElem?_eq_none (by simpa using h2)]; decide
theorem rawK_lt {t : List Nd} (hok : okT t = true) (v : Int) {i : Nat} (hi : i < t.length) (k : Nat) : rawK t v i k < 2 ^ 9 := orL_lt (mskB_lt hok v i (by omega)) _ _ (base_lt hok v hi)
theorem msk_lt {t : List Nd} (hok : okT t = true) (v : Int) {i : Nat} (hi : i < t.length) : msk t v i < 2 ^ 9 := by
  have := mskB_lt hok v (i + 1) (by omega) i
  rwa [mskB_get t v (Nat.lt_succ_self i)] at this
theorem or_nat {a b : Nat} (ha : a < 2 ^ 9) (hb : b < 2 ^ 9) : IntKind.i64.wrap (((BitVec.ofInt 64 (a : Int) ||| BitVec.ofInt 64 (b : Int)).toNat : Nat) : Int) = ((a ||| b : Nat) : Int) := by
  have h := Nat.or_lt_two_pow ha hb
  have e : ∀ x : Nat, x < 2 ^ 9 → (BitVec.ofInt 64 (x : Int)).toNat = x := fun x hx => by
    rw [BitVec.toNat_ofInt]
    have : ((x : Int) % ((2 ^ 64 : Nat) : Int)) = (x : Int) := Int.emod_eq_of_lt (by omega) (by omega)
    rw [this]; omega
  rw [BitVec.toNat_or, e a ha, e b hb]
  exact wr (by omega) (by omega)
def bV (t : List Nd) (i v : Nat) : Bool := (isQ (t.getD i default).op && decide ((t.getD i default).k = (v : Int))) && (!decide (raw t v i = 0) && !decide (raw t v i = 2 ^ (t.getD i default).b.toNat))
theorem bOk_no {t : List Nd} {i v : Nat} (h : bV t i v = true) : bOk t i = false := by
  unfold bV at h
  simp only [Bool.and_eq_true, decide_eq_true_eq, Bool.not_eq_true', decide_eq_false_iff_not] at h
  unfold bOk
  rw [h.1.1, h.1.2, decide_eq_false h.2.1, decide_eq_false h.2.2]; rfl
theorem bOk_yes {t : List Nd} (hok : okT t = true) {i : Nat} (hi : i < t.length) (h : ∀ v, v < 8 → bV t i v = false) : bOk t i = true := by
  unfold bOk
  rw [imp_bool]
  intro hq
  have hr := quant_rule (okT_node hok hi) hq
  have := h (t.getD i default).k.toNat (by omega)
  unfold bV at this
  rw [show (((t.getD i default).k.toNat : Nat) : Int) = (t.getD i default).k by omega, hq, decide_eq_true rfl, Bool.true_and, Bool.true_and] at this
  cases h1 : decide (raw t (t.getD i default).k i = 0) with
  | true => rfl
  | false =>
    rw [h1] at this
    cases h2 : decide (raw t (t.getD i default).k i = 2 ^ (t.getD i default).b.toNat) with
    | true => rfl
    | false => rw [h2] at this; cases this
def wB (t : List Nd) (env : List Int) (v w : Nat) : Bool := decide (msk t v (t.length - 1) / 2 ^ (w + 1) % 2 = 1) && !wordOk ((w + 1 : Nat) : Int) (env.getD v 0)
theorem wOk_not (t : List Nd) (env : List Int) (v : Nat) : wOkM t env v = !(List.range 8).any (wB t env v) := by
  unfold wOkM
  rw [not_any (g := wB t env v)]
  intro w
  unfold wB
  cases decide (msk t v (t.length - 1) / 2 ^ (w + 1) % 2 = 1) <;> simp
theorem fits_n1 {t : List Nd} {env : List Int} {i : Nat} (hi : i < t.length) (h : bOk t i = false) : fitsT t env = false := by
  unfold fitsT
  have : (List.range t.length).all (bOk t) = false := by
    rw [List.all_eq_false]
    exact ⟨i, List.mem_range.2 hi, by rw [h]; decide⟩
  rw [this]; rfl
theorem fits_n2 {t : List Nd} {env : List Int} {v w : Nat} (hv : v < 8) (hw : w < 8) (h : wB t env v w = true) : fitsT t env = false := by
  unfold fitsT
  have : (List.range 8).all (wOkM t env) = false := by
    rw [List.all_eq_false]
    exact ⟨v, List.mem_range.2 hv, by rw [wOk_not, any_at hw h]; decide⟩
  rw [this, Bool.and_false]
theorem fits_y {t : List Nd} {env : List Int} (h1 : ∀ i, i < t.length → bOk t i = true) (h2 : ∀ v, v < 8 → wOkM t env v = true) : fitsT t env = true := by
  unfold fitsT
  rw [Bool.and_eq_true, List.all_eq_true, List.all_eq_true]
  exact ⟨fun i hi => h1 i (List.mem_range.1 hi), fun v hv => h2 v (List.mem_range.1 hv)⟩
theorem all_next {f : Nat → Bool} {x : Nat} (h : ∀ j, j < x → f j = true) (hx : f x = true) : ∀ j, j < x + 1 → f j = true := fun j hj => by
  rcases Nat.lt_succ_iff_lt_or_eq.1 hj with h1 | h1
  · exact h j h1
  · rw [h1]; exact hx
theorem msk_bit {m n : Nat} (hm : m < 2 ^ 9) (hn : n ≤ 8) : (IntKind.i64.wrap ((m : Int).tdiv (2 ^ n))).tmod 2 = ((m / 2 ^ n % 2 : Nat) : Int) := by
  have e : (m : Int).tdiv (2 ^ n) = ((m / 2 ^ n : Nat) : Int) := by
    rw [Int.tdiv_eq_ediv_of_nonneg (by omega)]; simp
  have hb : m / 2 ^ n ≤ m := Nat.div_le_self _ _
  rw [e]
  generalize m / 2 ^ n = q at hb
  have w1 : IntKind.i64.wrap (q : Int) = (q : Int) := wr (by omega) (by omega)
  rw [w1, Int.tmod_eq_emod_of_nonneg (by omega), show (q : Int) % 2 = ((q % 2 : Nat) : Int) by omega]
theorem l04Fits_c (t : List Nd) (hok : okT t = true) (hl : 1 ≤ t.length ∧ t.length ≤ 80) (env : List Int) (he : env.length = 8) : Val E.P 75 [dN t, dI env] (T (fitsT t env)) := by
  refine CallsA.body (E := E) (fn := Tryz.f75) Tryz.func75 rfl fun B hB => ?_
  simp only [Tryz.ntmps75, go_sem, nl, Nat.reduceSub, Nat.reduceAdd, List.reduceReplicate]
  have hpo := okT_parts hok
  have hel : env.length = 8 := he
  refine Wp.seqK fun K1 hK1 => ?_
  refine rg ?_
  refine hK1 _ ?_
  clear hK1 K1
  refine Wp.seqK fun K2 hK2 => ?_
  refine rg ?_
  refine hK2 _ ?_
  clear hK2 K2
  refine Wp.seqK fun K3 hK3 => ?_
  refine Wp.seqK fun K4 hK4 => ?_
  refine rg ?_
  refine hK4 _ ?_
  clear hK4 K4
  refine Wp.block ?_
  refine Wp.loopU (α := Nat) (fun i => [.k, .k, .d, .d, .d, .v (.l (.obj 0 i 1 0 i)), .v (I i), .d5, .d5, .d5, .d5, .d5, .d5, .d5, .d5, .d5, .d5, .d5, .d5, .d5, .d5, .d5, .d5, .d5, .d5, .d5, .d5, .d5, .d5, .d, .d, .d]) (fun i => [some ⟨i, rowsM t i⟩]) (fun i => i ≤ t.length ∧ ∀ j, j < i → bOk t j = true) (fun i => t.length - i) 0 (⟨Nat.zero_le _, fun j h => absurd h (Nat.not_lt_zero j)⟩) (anyS) ?_
  rintro i f5 K5 ⟨hi, hib⟩ hK5
  simp only [updT_k, updT_d, updT_d5, updT_v, updT_nil, Nat.reduceAdd]
  have hfl := rowsM_len t i
  refine Wp.seqK fun K6 hK6 => ?_
  refine Wp.seqK fun K7 hK7 => ?_
  refine rg ?_
  refine hK7 _ ?_
  clear hK7 K7
  refine Wp.condS (fun h19 => ?_) (fun h19 => ?_)
  · have hi : i < t.length := by omega
    have hpp := hpo i hi
    have hpl := parts_len (t.getD i default)
    have hnw := (okT_node hok hi).w
    refine Wp.skip ?_
    refine hK6 _ ?_
    clear hK6 K6
    refine Wp.seqK fun K8 hK8 => ?_
    refine Wp.block ?_
    refine Wp.seqK fun K9 hK9 => ?_
    refine rg ?_
    refine hK9 _ ?_
    clear hK9 K9
    refine Wp.seqK fun K10 hK10 => ?_
    refine rg ?_
    refine hK10 _ ?_
    clear hK10 K10
    refine Wp.seqK fun K11 hK11 => ?_
    refine rg ?_
    refine ⟨rfl, CallK.rowA (h := sParts_c _) (k := ?_)⟩
    refine evd ?_
    refine hK11 _ ?_
    clear hK11 K11
    refine Wp.seqK fun K12 hK12 => ?_
    refine Wp.seqK fun K13 hK13 => ?_
    refine rg ?_
    refine hK13 _ ?_
    clear hK13 K13
    refine Wp.block ?_
    refine Wp.loopU (α := Nat) (fun v => [.k, .k, .d, .d, .d, .k, .k, .k, .v (.l (.obj 2 v 1 0 v)), .k, .v (I v), .d5, .d5, .d5, .d5, .d5, .d5, .d5, .d5, .d5, .d5, .d5, .d5, .d5, .d5, .d5, .d5, .d5, .d5, .d5, .d5, .d5, .d, .d, .d, .d]) (fun v => [some ⟨i, rowsM t i⟩, some ⟨0, nl (t.getD i default)⟩, some ⟨v, (preM t i v).map ci⟩, some ⟨0, (parts (t.getD i default)).map ci⟩]) (fun v => v ≤ 8 ∧ ∀ u, u < v → bV t i u = false) (fun v => 8 - v) 0 (⟨Nat.zero_le _, fun j h => absurd h (Nat.not_lt_zero j)⟩) (anyS) ?_
    rintro v f14 K14 ⟨hv, hvb⟩ hK14
    simp only [updT_k, updT_d, updT_d5, updT_v, updT_nil, Nat.reduceAdd]
    have hvl := preM_len t i v
    refine Wp.seqK fun K15 hK15 => ?_
    refine Wp.seqK fun K16 hK16 => ?_
    refine rg ?_
    refine hK16 _ ?_
    clear hK16 K16
    refine Wp.condS (fun h30 => ?_) (fun h30 => ?_)
    · have hv8 : v < 8 := by omega
      refine Wp.skip ?_
      refine hK15 _ ?_
      clear hK15 K15
      refine Wp.seqK fun K17 hK17 => ?_
      refine Wp.block ?_
      refine Wp.seqK fun K18 hK18 => ?_
      refine rg ?_
      refine hK18 _ ?_
      clear hK18 K18
      refine Wp.seqU0 [.k, .k, .d, .d, .d, .k, .k, .k, .k, .k, .k, .v (I ((rawK t v i 0 : Nat) : Int)), .d5, .d5, .d5, .d5, .d5, .d5, .d5, .d5, .d5, .d5, .d5, .d5, .d5, .d5, .d5, .d5, .d5, .d5, .d5, .d5, .d5, .d, .d, .d] (fun K19 hK19 => ?_) ?_
      · refine Wp.seqU0 [.k, .k, .d, .d, .d, .k, .k, .k, .k, .k, .k, .k, .d5, .d5, .d5, .d5, .d5, .d, .d, .d, .d, .v (T (decide ((t.getD i default).op = 1) && decide ((t.getD i default).k = (v : Int)))), .d5, .d5, .d5, .d5, .d5, .d5, .d5, .d5, .d5, .d5, .d5, .d5, .d5, .d5, .d5, .d, .d, .d] (fun K20 hK20 => ?_) ?_
        · refine rg ?_
          refine grdA_split rfl (fun g12_4 => ?_) (fun g12_4 => ?_)
          · try simp only [decide_eq_true_eq, decide_eq_false_iff_not] at g12_4
            try refine evd ?_
            exact hK20 _ (anyS (h := by first | rfl | (simp only [g12_4, Bool.true_or, Bool.or_true, Bool.false_or, Bool.or_false, Bool.true_and, Bool.and_true, Bool.false_and, Bool.and_false, Bool.not_true, Bool.not_false, decide_true, decide_false, eq_self, Int.reduceEq] <;> rfl)))
          · try simp only [decide_eq_true_eq, decide_eq_false_iff_not] at g12_4
            try refine evd ?_
            exact hK20 _ (anyS (h := by first | rfl | (simp only [g12_4, Bool.true_or, Bool.or_true, Bool.false_or, Bool.or_false, Bool.true_and, Bool.and_true, Bool.false_and, Bool.and_false, Bool.not_true, Bool.not_false, decide_true, decide_false, eq_self, Int.reduceEq] <;> rfl)))
        rintro f20
        simp only [updT_k, updT_d, updT_d5, updT_v, updT_nil, Nat.reduceAdd]
        refine Wp.condS (fun h41 => ?_) (fun h41 => ?_)
        · have hb0 : rawK t v i 0 = 2 ^ (t.getD i default).w.toNat := by rw [rawK_0, if_pos h41]
          refine rg ?_
          refine ⟨rfl, CallK.valA (h := l01Pow2_c _ (by omega) (by omega)) (k := ?_)⟩
          refine evd ?_
          exact hK19 _ (anyS (h := by rw [hb0, Int.natCast_pow] <;> rfl))
        · have hb0 : rawK t v i 0 = 0 := by
            rw [rawK_0, if_neg]
            rintro ⟨h1, h2⟩
            rw [decide_eq_true h1, decide_eq_true h2] at h41
            cases h41
          refine Wp.skip ?_
          exact hK19 _ (anyS (h := by rw [hb0] <;> rfl))
      rintro f19
      simp only [updT_k, updT_d, updT_d5, updT_v, updT_nil, Nat.reduceAdd]
      refine Wp.seqK fun K21 hK21 => ?_
      refine Wp.seqK fun K22 hK22 => ?_
      refine rg ?_
      refine hK22 _ ?_
      clear hK22 K22
      refine Wp.block ?_
      refine Wp.loopU (α := Nat) (fun k => [.k, .k, .d, .d, .d, .k, .k, .k, .k, .k, .k, .v (I ((rawK t v i k : Nat) : Int)), .v (I k), .d5, .d5, .d5, .d5, .d5, .d5, .d5, .d5, .d5, .d5, .d5, .d5, .d5, .d5, .d5, .d5, .d5, .d5, .d5, .d5, .d5, .d, .d]) (fun k => [some ⟨i, rowsM t i⟩, some ⟨0, nl (t.getD i default)⟩, some ⟨v, (preM t i v).map ci⟩, some ⟨0, (parts (t.getD i default)).map ci⟩]) (fun k => k ≤ (parts (t.getD i default)).length) (fun k => (parts (t.getD i default)).length - k) 0 (Nat.zero_le _) (anyS) ?_
      rintro k f23 K23 hk hK23
      simp only [updT_k, updT_d, updT_d5, updT_v, updT_nil, Nat.reduceAdd]
      refine Wp.seqK fun K24 hK24 => ?_
      refine Wp.seqK fun K25 hK25 => ?_
      refine rg ?_
      refine hK25 _ ?_
      clear hK25 K25
      refine Wp.condS (fun h48 => ?_) (fun h48 => ?_)
      · have hkl : k < (parts (t.getD i default)).length := by omega
        have hpk := hpp ((parts (t.getD i default)).getD k 0) (mem_gV hkl)
        have hpn : ((parts (t.getD i default)).getD k 0).toNat < i := by omega
        have hrp := rawK_push (t := t) (v : Int) hkl hpn
        have hon := or_nat (rawK_lt hok (v : Int) hi k) (msk_lt hok (v : Int) (show ((parts (t.getD i default)).getD k 0).toNat < t.length by omega))
        refine Wp.skip ?_
        refine hK24 _ ?_
        clear hK24 K24
        refine Wp.seqU0 [.k, .k, .d, .d, .d, .k, .k, .k, .k, .k, .k, .v (I ((rawK t v i (k + 1) : Nat) : Int)), .k, .d5, .d5, .d5, .d5, .d5, .d5, .d5, .d5, .d5, .d5, .d5, .d5, .d5, .d5, .d5, .d5, .d5, .d5, .d5, .d5, .d5, .d, .d] (fun K26 hK26 => ?_) ?_
        · refine Wp.block ?_
          refine rg ?_
          try simp only [thn, inB, if_true, reduceIte]
          exact hK26 _ (anyS (h := by rw [hrp, ← hon] <;> rfl))
        rintro f26
        simp only [updT_k, updT_d, updT_d5, updT_v, updT_nil, Nat.reduceAdd]
        refine rg ?_
        exact hK23 (k + 1) _ (by omega) (by omega) anyS
      · have hkl : k = (parts (t.getD i default)).length := by omega
        subst hkl
        simp only [rawK_end]
        refine Wp.exit ?_
        try simp only [thn, inB, if_true, reduceIte]
        clear hK24 K24
        clear hK23 K23
        refine hK21 _ ?_
        clear hK21 K21
        refine Wp.seqU (α := Unit) (fun u_ => [.k, .k, .d, .d, .d, .k, .k, .k, .k, .k, .k, .v (I ((msk t v i : Nat) : Int)), .d5, .d5, .d5, .d5, .d5, .d5, .d5, .d5, .d5, .d5, .d5, .d5, .d5, .d5, .d5, .d5, .d5, .d5, .d5, .d5, .d5, .d, .d, .d]) (fun u_ => [some ⟨i, rowsM t i⟩, some ⟨0, nl (t.getD i default)⟩, some ⟨v, (preM t i v).map ci⟩, some ⟨0, (parts (t.getD i default)).map ci⟩]) (fun u_ => bV t i v = false) (fun K27 hK27 => ?_) ?_
        · refine Wp.seqU0 [.k, .k, .d, .d, .d, .k, .k, .k, .k, .k, .k, .k, .d5, .d5, .d5, .d5, .d5, .d5, .d5, .d5, .d5, .d5, .d5, .d, .d, .d, .d, .v (T (isQ (t.getD i default).op && decide ((t.getD i default).k = (v : Int)))), .d5, .d5, .d5, .d5, .d5, .d5, .d5, .d5, .d5, .d, .d, .d] (fun K28 hK28 => ?_) ?_
          · refine rg ?_
            refine ⟨rfl, CallK.valA (h := l02Quant_c _) (k := ?_)⟩
            refine evd ?_
            refine grdA_split rfl (fun g18_4 => ?_) (fun g18_4 => ?_)
            · try simp only [decide_eq_true_eq, decide_eq_false_iff_not] at g18_4
              try refine evd ?_
              exact hK28 _ (anyS (h := by first | rfl | (simp only [g18_4, Bool.true_or, Bool.or_true, Bool.false_or, Bool.or_false, Bool.true_and, Bool.and_true, Bool.false_and, Bool.and_false, Bool.not_true, Bool.not_false, decide_true, decide_false, eq_self, Int.reduceEq] <;> rfl)))
            · try simp only [decide_eq_true_eq, decide_eq_false_iff_not] at g18_4
              try refine evd ?_
              exact hK28 _ (anyS (h := by first | rfl | (simp only [g18_4, Bool.true_or, Bool.or_true, Bool.false_or, Bool.or_false, Bool.true_and, Bool.and_true, Bool.false_and, Bool.and_false, Bool.not_true, Bool.not_false, decide_true, decide_false, eq_self, Int.reduceEq] <;> rfl)))
          rintro f28
          simp only [updT_k, updT_d, updT_d5, updT_v, updT_nil, Nat.reduceAdd]
          refine Wp.condS (fun h71 => ?_) (fun h71 => ?_)
          · have hqv : (isQ (t.getD i default).op && decide ((t.getD i default).k = (v : Int))) = true := by simpa using h71
            have hm := msk_yes hqv
            have hqr := quant_rule (okT_node hok hi) ((Bool.and_eq_true _ _).mp hqv).1
            refine Wp.seqK fun K29 hK29 => ?_
            refine Wp.seqU0 [.k, .k, .d, .d, .d, .k, .k, .k, .k, .k, .k, .d5, .d5, .d5, .d5, .d5, .d5, .d5, .d5, .d5, .d5, .d5, .d5, .d5, .d, .d, .d, .d, .v (T (!decide (raw t v i = 0) && !decide (raw t v i = 2 ^ (t.getD i default).b.toNat))), .d5, .d5, .d5, .d5, .d5, .d5, .d5, .d, .d, .d, .d] (fun K30 hK30 => ?_) ?_
            · refine rg ?_
              refine grdA_split rfl (fun g19_3 => ?_) (fun g19_3 => ?_)
              · try simp only [decide_eq_true_eq, decide_eq_false_iff_not] at g19_3
                try refine evd ?_
                refine ⟨rfl, CallK.valA (h := l01Pow2_c _ (by omega) (by omega)) (k := ?_)⟩
                refine evd ?_
                have e : decide (raw t v i = 0) = false := by simpa using g19_3
                have h2n : ((2 ^ (t.getD i default).b.toNat : Nat) : Int) = 2 ^ (t.getD i default).b.toNat := by simp
                have e2 : decide (((raw t v i : Nat) : Int) = 2 ^ (t.getD i default).b.toNat) = decide (raw t v i = 2 ^ (t.getD i default).b.toNat) := by rw [decide_eq_decide]; omega
                exact hK30 _ (anyS (h := by rw [e, ← e2] <;> rfl))
              · try simp only [decide_eq_true_eq, decide_eq_false_iff_not] at g19_3
                try refine evd ?_
                have e : decide (raw t v i = 0) = true := by simpa using g19_3
                exact hK30 _ (anyS (h := by rw [e] <;> rfl))
            rintro f30
            simp only [updT_k, updT_d, updT_d5, updT_v, updT_nil, Nat.reduceAdd]
            refine Wp.condS (fun h80 => ?_) (fun h80 => ?_)
            · have hbd : bV t i v = true := by unfold bV; rw [hqv]; simpa using h80
              have hs := fits_n1 (env := env) hi (bOk_no hbd)
              refine Wp.seqK fun K31 hK31 => ?_
              refine rg ?_
              refine hK31 _ ?_
              clear hK31 K31
              refine Wp.ret (retV ?_)
              try simp only [List.getD_cons_zero, List.getD_cons_succ]
              rw [hs]
            · have hbv : bV t i v = false := by unfold bV; rw [hqv, Bool.true_and]; exact h80
              refine Wp.skip ?_
              refine hK29 _ ?_
              clear hK29 K29
              refine rg ?_
              exact hK27 () _ hbv (anyS (h := by rw [hm] <;> rfl))
          · have hqv : (isQ (t.getD i default).op && decide ((t.getD i default).k = (v : Int))) = false := by simpa using h71
            have hm := msk_no hqv
            have hbv : bV t i v = false := by unfold bV; rw [hqv]; rfl
            refine Wp.skip ?_
            exact hK27 () _ hbv (anyS (h := by rw [hm] <;> rfl))
        rintro _ f27 hbv
        simp only [updT_k, updT_d, updT_d5, updT_v, updT_nil, Nat.reduceAdd]
        refine rg ?_
        try simp only [thn, inB, if_true, reduceIte]
        refine hK17 _ ?_
        clear hK17 K17
        refine Wp.keep 4 (by simp [hB]) (by simp) ?_
        refine evd ?_
        refine rg ?_
        exact hK14 (v + 1) _ ⟨by omega, ub_next hvb hbv⟩ (by omega) (anyS (ho := by rw [← preM_push, List.map_append] <;> rfl))
    · have hv8 : v = 8 := by omega
      subst hv8
      simp only [preM_end]
      have hbi := bOk_yes hok hi hvb
      refine Wp.exit ?_
      try simp only [thn, inB, if_true, reduceIte]
      clear hK15 K15
      clear hK14 K14
      refine hK12 _ ?_
      clear hK12 K12
      refine Wp.freeze 2 8 (encI (rowM t i)) rfl (rowM_fixed t i) ?_
      refine evd ?_
      refine rg ?_
      try simp only [thn, inB, if_true, reduceIte]
      refine hK8 _ ?_
      clear hK8 K8
      refine Wp.keep 1 (by simp [hB]) (by simp) ?_
      refine evd ?_
      refine rg ?_
      exact hK5 (i + 1) _ ⟨by omega, all_next hib hbi⟩ (by omega) anyS
  · have hi : i = t.length := by omega
    subst hi
    refine Wp.exit ?_
    try simp only [thn, inB, if_true, reduceIte]
    clear hK6 K6
    clear hK5 K5
    refine hK3 _ ?_
    clear hK3 K3
    refine Wp.seqK fun K32 hK32 => ?_
    refine Wp.seqK fun K33 hK33 => ?_
    refine rg ?_
    refine hK33 _ ?_
    clear hK33 K33
    refine Wp.block ?_
    refine Wp.loopU (α := Nat) (fun v => [.k, .k, .d, .d, .d, .k, .d5, .d, .d, .v (I v), .d5, .d5, .d5, .d5, .d5, .d5, .d5, .d5, .d5, .d5, .d5, .d5, .d5, .d5, .d5, .d5, .d5, .d5, .d5, .d5, .d5, .d]) (fun v => [some ⟨t.length, rowsM t t.length⟩]) (fun v => v ≤ 8 ∧ ∀ u, u < v → wOkM t env u = true) (fun v => 8 - v) 0 (⟨Nat.zero_le _, fun j h => absurd h (Nat.not_lt_zero j)⟩) (anyS) ?_
    rintro v f34 K34 ⟨hv, hvb⟩ hK34
    simp only [updT_k, updT_d, updT_d5, updT_v, updT_nil, Nat.reduceAdd]
    have hfl := rowsM_len t t.length
    refine Wp.seqK fun K35 hK35 => ?_
    refine Wp.seqK fun K36 hK36 => ?_
    refine rg ?_
    refine hK36 _ ?_
    clear hK36 K36
    refine Wp.condS (fun h90 => ?_) (fun h90 => ?_)
    · have hv8 : v < 8 := by omega
      refine Wp.skip ?_
      refine hK35 _ ?_
      clear hK35 K35
      refine Wp.seqK fun K37 hK37 => ?_
      refine Wp.block ?_
      refine Wp.seqK fun K38 hK38 => ?_
      refine rg ?_
      refine hK38 _ ?_
      clear hK38 K38
      refine Wp.block ?_
      refine Wp.loopU (α := Nat) (fun w => [.k, .k, .d, .d, .d, .k, .d5, .d, .d, .k, .v (I ((w : Int) + 1)), .d5, .d5, .d5, .d5, .d5, .d5, .d5, .d5, .d5, .d5, .d5, .d5, .d5, .d5, .d5, .d5, .d5, .d5, .d5, .d5, .d5]) (fun w => [some ⟨t.length, rowsM t t.length⟩]) (fun w => w ≤ 8 ∧ ∀ u, u < w → wB t env v u = false) (fun w => 8 - w) 0 (⟨Nat.zero_le _, fun j h => absurd h (Nat.not_lt_zero j)⟩) (anyS) ?_
      rintro w f39 K39 ⟨hw, hwb⟩ hK39
      simp only [updT_k, updT_d, updT_d5, updT_v, updT_nil, Nat.reduceAdd]
      refine Wp.seqK fun K40 hK40 => ?_
      refine Wp.seqK fun K41 hK41 => ?_
      refine rg ?_
      refine hK41 _ ?_
      clear hK41 K41
      refine Wp.condS (fun h94 => ?_) (fun h94 => ?_)
      · have hw8 : w < 8 := by omega
        have hpz : ¬ (2 : Int) ^ (w + 1) = 0 := by have : 0 < (2 : Int) ^ (w + 1) := Int.pow_pos (by decide)
                                                   omega
        refine Wp.skip ?_
        refine hK40 _ ?_
        clear hK40 K40
        refine Wp.seqK fun K42 hK42 => ?_
        refine Wp.block ?_
        refine Wp.seqU0 [.k, .k, .d, .d, .d, .k, .d5, .d, .d, .k, .k, .d5, .d5, .d5, .d5, .d5, .d5, .d5, .d5, .d5, .d5, .d5, .d5, .d5, .d5, .d5, .d5, .d5, .d5, .d5, .d5, .d, .d, .d, .d, .v (T (wB t env v w))] (fun K43 hK43 => ?_) ?_
        · skip
          refine Wp.drawI [0, 1, 2, 3, 4, 5, 6, 7] [10, 20] (by kernel_rfl) ?_
          refine evd ?_
          refine ⟨rfl, CallK.valA (h := l01Pow2_c _ (by omega) (by omega)) (k := ?_)⟩
          refine evd ?_
          refine grdA_split rfl (fun g30_15 => ?_) (fun g30_15 => ?_)
          · try simp only [decide_eq_true_eq, decide_eq_false_iff_not] at g30_15
            try refine evd ?_
            refine ⟨rfl, CallK.valA (h := sWordOk_c _ _) (k := ?_)⟩
            refine evd ?_
            have ei : ((t.length : Int) - 1).toNat = t.length - 1 := by omega
            have hmb := msk_bit (msk_lt hok (v : Int) (show t.length - 1 < t.length by omega)) (show w + 1 ≤ 8 by omega)
            rw [ei, hmb] at g30_15
            have e : decide (msk t v (t.length - 1) / 2 ^ (w + 1) % 2 = 1) = true := decide_eq_true (by omega)
            have e2 : wB t env v w = !wordOk ((w + 1 : Nat) : Int) (env.getD v 0) := by unfold wB; rw [e]; rfl
            exact hK43 _ (anyS (h := by rw [e2] <;> rfl))
          · try simp only [decide_eq_true_eq, decide_eq_false_iff_not] at g30_15
            try refine evd ?_
            have ei : ((t.length : Int) - 1).toNat = t.length - 1 := by omega
            have hmb := msk_bit (msk_lt hok (v : Int) (show t.length - 1 < t.length by omega)) (show w + 1 ≤ 8 by omega)
            rw [ei, hmb] at g30_15
            have e : decide (msk t v (t.length - 1) / 2 ^ (w + 1) % 2 = 1) = false := decide_eq_false (by omega)
            have e2 : wB t env v w = false := by unfold wB; rw [e]; rfl
            exact hK43 _ (anyS (h := by rw [e2] <;> rfl))
        rintro f43
        simp only [updT_k, updT_d, updT_d5, updT_v, updT_nil, Nat.reduceAdd]
        refine Wp.condS (fun h119 => ?_) (fun h119 => ?_)
        · have hs := fits_n2 hv8 hw8 h119
          refine Wp.seqK fun K44 hK44 => ?_
          refine rg ?_
          refine hK44 _ ?_
          clear hK44 K44
          refine Wp.ret (retV ?_)
          try simp only [List.getD_cons_zero, List.getD_cons_succ]
          rw [hs]
        · have hwn : wB t env v w = false := h119
          refine Wp.skip ?_
          try simp only [thn, inB, if_true, reduceIte]
          refine hK42 _ ?_
          clear hK42 K42
          refine rg ?_
          exact hK39 (w + 1) _ ⟨by omega, ub_next hwb hwn⟩ (by omega) anyS
      · have hw8 : w = 8 := by omega
        subst hw8
        have hwo : wOkM t env v = true := by rw [wOk_not, any_none hwb]; rfl
        refine Wp.exit ?_
        try simp only [thn, inB, if_true, reduceIte]
        clear hK40 K40
        clear hK39 K39
        try simp only [thn, inB, if_true, reduceIte]
        refine hK37 _ ?_
        clear hK37 K37
        refine rg ?_
        exact hK34 (v + 1) _ ⟨by omega, all_next hvb hwo⟩ (by omega) anyS
    · have hv8 : v = 8 := by omega
      subst hv8
      refine Wp.exit ?_
      try simp only [thn, inB, if_true, reduceIte]
      clear hK35 K35
      clear hK34 K34
      refine hK32 _ ?_
      clear hK32 K32
      refine Wp.seqK fun K45 hK45 => ?_
      refine rg ?_
      refine hK45 _ ?_
      clear hK45 K45
      refine Wp.ret (retV ?_)
      try simp only [List.getD_cons_zero, List.getD_cons_succ]
      rw [fits_y hib hvb]
end Go.Proofs.YtkdkbnacelnljaaGreat.RE
