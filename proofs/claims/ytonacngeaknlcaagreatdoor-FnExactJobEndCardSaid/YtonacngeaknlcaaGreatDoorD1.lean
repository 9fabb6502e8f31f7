/- Rows of numbers in the laws. Conditions: those that a theorem names. -/
import Derived.Test.YtonacngeaknlcaaGreatDoorRZ
import Derived.Test.YtonacngeaknlcaaGreatDoorCA
set_option linter.unusedVariables false
set_option linter.unusedSimpArgs false
namespace Go.Proofs.YtonacngeaknlcaaGreatDoor.RE
open Go Go.RowKit
set_option maxRecDepth 100000
set_option maxHeartbeats 8000000

theorem up1 {x : Nat} : ((x : Int) + 1) = ((x + 1 : Nat) : Int) := rfl
theorem take_extI {a b : List Int} {x : Nat} (hl : a.length = b.length) (hx : x < a.length) (h : a.take x = b.take x) (he : a.getD x 0 = b.getD x 0) : a.take (x + 1) = b.take (x + 1) := by
  rw [take_push 0 hx, take_push 0 (by omega), h, he]
theorem eqIntS_c (a b : List Int) (ha : a.length ≤ 1048576) (hb : b.length ≤ 1048576) : Val E.P 39 [dI a, dI b] (T (decide (a = b))) := by
  refine CallsA.body (E := E) (fn := Tryz.f39) Tryz.func39 rfl fun B hB => ?_
  simp only [Tryz.ntmps39, go_sem, nl, Nat.reduceSub, Nat.reduceAdd, List.reduceReplicate]
  refine Wp.seqK fun K1 hK1 => ?_
  refine rg ?_
  refine hK1 _ ?_
  clear hK1 K1
  refine Wp.seqK fun K2 hK2 => ?_
  refine Wp.seqK fun K3 hK3 => ?_
  refine rg ?_
  refine hK3 _ ?_
  clear hK3 K3
  refine Wp.condS (fun h10 => ?_) (fun h10 => ?_)
  · refine Wp.seqK fun K4 hK4 => ?_
    refine rg ?_
    refine hK4 _ ?_
    clear hK4 K4
    refine Wp.ret (retV ?_)
    simp only [List.getD_cons_zero, List.getD_cons_succ]
    rw [decide_eq_false (fun e => h10 (by rw [e]))]
  · have hl : a.length = b.length := by omega
    refine Wp.skip ?_
    refine hK2 _ ?_
    clear hK2 K2
    refine Wp.seqK fun K5 hK5 => ?_
    refine Wp.seqK fun K6 hK6 => ?_
    refine rg ?_
    refine hK6 _ ?_
    clear hK6 K6
    refine Wp.block ?_
    refine Wp.loopU0 (α := Nat) (fun x => [.k, .k, .d, .d, .d, .v (I x), .d5, .d5, .d5, .d5]) (fun x => x ≤ a.length ∧ a.take x = b.take x) (fun x => a.length - x) 0 (⟨Nat.zero_le _, rfl⟩) anyS ?_
    rintro x f7 K7 ⟨hx, he⟩ hK7
    simp only [updT_k, updT_d, updT_d5, updT_v, updT_nil, Nat.reduceAdd]
    refine Wp.seqK fun K8 hK8 => ?_
    refine Wp.seqK fun K9 hK9 => ?_
    refine rg ?_
    refine hK9 _ ?_
    clear hK9 K9
    refine Wp.condS (fun h14 => ?_) (fun h14 => ?_)
    · have hxl : x < a.length := by omega
      refine Wp.skip ?_
      refine hK8 _ ?_
      clear hK8 K8
      refine Wp.seqK fun K10 hK10 => ?_
      refine Wp.block ?_
      refine Wp.seqK fun K11 hK11 => ?_
      refine Wp.drawI [0, 1, 2, 3, 4, 5, 6, 7] [] (by kernel_rfl) ?_
      refine evd ?_
      refine hK11 _ ?_
      clear hK11 K11
      refine Wp.condS (fun h25 => ?_) (fun h25 => ?_)
      · refine Wp.seqK fun K12 hK12 => ?_
        refine rg ?_
        refine hK12 _ ?_
        clear hK12 K12
        refine Wp.ret (retV ?_)
        simp only [List.getD_cons_zero, List.getD_cons_succ]
        rw [decide_eq_false (fun e => h25 (by rw [e]))]
      · refine Wp.skip ?_
        try simp only [thn, inB, if_true, reduceIte]
        refine hK10 _ ?_
        clear hK10 K10
        refine rg ?_
        exact hK7 (x + 1) _ ⟨by omega, take_extI hl hxl he (by omega)⟩ (by omega) anyS
    · have hxl : x = a.length := by omega
      refine Wp.exit ?_
      try simp only [thn, inB, if_true, reduceIte]
      clear hK8 K8
      clear hK7 K7
      refine hK5 _ ?_
      clear hK5 K5
      refine Wp.seqK fun K13 hK13 => ?_
      refine rg ?_
      refine hK13 _ ?_
      clear hK13 K13
      refine Wp.ret (retV ?_)
      simp only [List.getD_cons_zero, List.getD_cons_succ]
      rw [hxl, List.take_length, hl, List.take_length] at he
      simp [he]
def markI (n : Nat) (k : Int) : List Int := (List.range n).map fun (i : Nat) => k + i
theorem markIntS_c (l : List Int) (g : Nat) (k : Int) (h0 : 0 ≤ k) (h1 : k ≤ 1048576) (hl : l.length ≤ 1048576) : CallsA E.P 42 [.l (.obj 0 g 1 0 l.length), I k] [some ⟨g, l.map ci⟩] fun r ob => r = I (k + l.length) ∧ ob = [some ⟨g, (markI l.length k).map ci⟩] := by
  refine CallsA.body (E := E) (fn := Tryz.f42) Tryz.func42 rfl fun B hB => ?_
  simp only [Tryz.ntmps42, go_sem, nl, Nat.reduceSub, Nat.reduceAdd, List.reduceReplicate]
  refine Wp.seqK fun K1 hK1 => ?_
  refine rg ?_
  refine hK1 _ ?_
  clear hK1 K1
  refine Wp.seqK fun K2 hK2 => ?_
  refine Wp.seqK fun K3 hK3 => ?_
  refine rg ?_
  refine hK3 _ ?_
  clear hK3 K3
  refine Wp.block ?_
  refine Wp.loopU (α := Nat) (fun x => [.k, .v (I (k + x)), .d, .d, .d, .v (I x), .d5, .d5, .d, .d, .d]) (fun x => [some ⟨g, (mkR (fun (i : Nat) => k + (i : Int)) l x).map ci⟩]) (fun x => x ≤ l.length) (fun x => l.length - x) 0 (by omega) (anyS) ?_
  rintro x f4 K4 hx hK4
  simp only [updT_k, updT_d, updT_d5, updT_v, updT_nil, Nat.reduceAdd]
  have hml := mkR_len (fun (i : Nat) => k + (i : Int)) l hx
  refine Wp.seqK fun K5 hK5 => ?_
  refine Wp.seqK fun K6 hK6 => ?_
  refine rg ?_
  refine hK6 _ ?_
  clear hK6 K6
  refine Wp.condS (fun h9 => ?_) (fun h9 => ?_)
  · refine Wp.skip ?_
    refine hK5 _ ?_
    clear hK5 K5
    refine Wp.seqK fun K7 hK7 => ?_
    refine Wp.block ?_
    refine Wp.seqK fun K8 hK8 => ?_
    refine rg ?_
    refine hK8 _ ?_
    clear hK8 K8
    refine rg ?_
    try simp only [thn, inB, if_true, reduceIte]
    refine hK7 _ ?_
    clear hK7 K7
    refine rg ?_
    rw [mkR_set _ _ (by omega)]
    exact hK4 (x + 1) _ (by omega) (by omega) anyS
  · have hxl : x = l.length := by omega
    subst hxl
    refine Wp.exit ?_
    try simp only [thn, inB, if_true, reduceIte]
    clear hK5 K5
    clear hK4 K4
    refine hK2 _ ?_
    clear hK2 K2
    refine Wp.seqK fun K9 hK9 => ?_
    refine rg ?_
    refine hK9 _ ?_
    clear hK9 K9
    refine Wp.ret (retH ?_ ?_)
    · rfl
    · rw [mkR_end]; rfl
theorem markI_at {n i : Nat} {k : Int} (h : i < n) : (markI n k).getD i 0 = k + i := by simp [markI, List.getD_eq_getElem?_getD, h]
theorem markI_len (n : Nat) (k : Int) : (markI n k).length = n := by simp [markI]
theorem heldIntS_c (n : Nat) (k : Int) (h0 : 0 ≤ k) (h1 : k ≤ 1048576) (hl : n ≤ 1048576) : Val E.P 45 [dI (markI n k), I k] (I (k + n)) := by
  refine CallsA.body (E := E) (fn := Tryz.f45) Tryz.func45 rfl fun B hB => ?_
  simp only [Tryz.ntmps45, go_sem, nl, Nat.reduceSub, Nat.reduceAdd, List.reduceReplicate]
  have hml := markI_len n k
  refine Wp.seqK fun K1 hK1 => ?_
  refine rg ?_
  refine hK1 _ ?_
  clear hK1 K1
  refine Wp.seqK fun K2 hK2 => ?_
  refine Wp.seqK fun K3 hK3 => ?_
  refine rg ?_
  refine hK3 _ ?_
  clear hK3 K3
  refine Wp.block ?_
  refine Wp.loopU0 (α := Nat) (fun x => [.k, .v (I (k + x)), .d, .d, .d, .v (I x), .d5, .d5, .d5]) (fun x => x ≤ n) (fun x => n - x) 0 (by omega) anyS ?_
  rintro x f4 K4 hx hK4
  simp only [updT_k, updT_d, updT_d5, updT_v, updT_nil, Nat.reduceAdd]
  refine Wp.seqK fun K5 hK5 => ?_
  refine Wp.seqK fun K6 hK6 => ?_
  refine rg ?_
  refine hK6 _ ?_
  clear hK6 K6
  refine Wp.condS (fun h9 => ?_) (fun h9 => ?_)
  · refine Wp.skip ?_
    refine hK5 _ ?_
    clear hK5 K5
    refine Wp.seqK fun K7 hK7 => ?_
    refine Wp.block ?_
    refine Wp.seqK fun K8 hK8 => ?_
    refine Wp.seqK fun K9 hK9 => ?_
    refine rg ?_
    refine hK9 _ ?_
    clear hK9 K9
    refine Wp.condS (fun h17 => ?_) (fun h17 => ?_)
    · exact absurd (markI_at (by omega)) h17
    · refine Wp.skip ?_
      refine hK8 _ ?_
      clear hK8 K8
      refine rg ?_
      try simp only [thn, inB, if_true, reduceIte]
      refine hK7 _ ?_
      clear hK7 K7
      refine rg ?_
      exact hK4 (x + 1) _ (by omega) (by omega) anyS
  · have hxl : x = n := by omega
    subst hxl
    refine Wp.exit ?_
    try simp only [thn, inB, if_true, reduceIte]
    clear hK5 K5
    clear hK4 K4
    refine hK2 _ ?_
    clear hK2 K2
    refine Wp.seqK fun K10 hK10 => ?_
    refine rg ?_
    refine hK10 _ ?_
    clear hK10 K10
    refine Wp.ret (retV ?_)
    simp only [List.getD_cons_zero, List.getD_cons_succ]
def mk6 (k : Int) : Nd := ⟨k, k + 1, k + 2, k + 3, k + 4, k + 5⟩
def markN (n : Nat) (k : Int) : List Nd := (List.range n).map fun (i : Nat) => mk6 (k + 6 * i)
theorem markN_at {n i : Nat} {k : Int} (h : i < n) : (markN n k).getD i default = mk6 (k + 6 * i) := by simp [markN, List.getD_eq_getElem?_getD, h]
theorem markN_len (n : Nat) (k : Int) : (markN n k).length = n := by simp [markN]
end Go.Proofs.YtonacngeaknlcaaGreatDoor.RE
