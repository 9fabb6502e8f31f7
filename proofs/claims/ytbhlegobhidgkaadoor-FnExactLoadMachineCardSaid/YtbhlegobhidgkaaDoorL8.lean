/- Marks of machines in the laws. Conditions: those that a theorem names. -/
import Derived.Test.YtbhlegobhidgkaaDoorJ1
import Derived.Test.YtbhlegobhidgkaaDoorD1
import Derived.Test.YtbhlegobhidgkaaDoorRS
set_option linter.unusedVariables false
set_option linter.unusedSimpArgs false
namespace Go.Proofs.YtbhlegobhidgkaaDoor.RE
open Go Go.RowKit
set_option maxRecDepth 100000
set_option maxHeartbeats 8000000

theorem lS_set {n' : Sn} {c : LV} {j : Nat} (hj : j < 2) : ∀ {l : List Sn} {i : Nat}, i < l.length → sl n' = (sl (l.getD i default)).set j c → (lS l).set (i * 2 + j) c = lS (l.set i n')
  | a :: l, 0, _, h => by
    have e : lS (a :: l) = sl a ++ lS l := rfl
    rw [e, Nat.zero_mul, Nat.zero_add, List.set_append_left _ _ (by show j < 2; omega), List.set_cons_zero]
    show _ = sl n' ++ lS l
    rw [h]; rfl
  | a :: l, i + 1, h, h2 => by
    have e : lS (a :: l) = sl a ++ lS l := rfl
    have h3 := lS_set (n' := n') (c := c) hj (l := l) (i := i) (by simpa using h) (by simpa using h2)
    rw [e, List.set_append_right _ _ (by show 2 ≤ _; omega), List.set_cons_succ, show (i + 1) * 2 + j - (sl a).length = i * 2 + j by show (i + 1) * 2 + j - 2 = _; omega, h3]
    rfl
section
variable {l : List Sn} {i : Nat}
theorem setG0 (h : i < l.length) (k : ByteArray) : List.take (i * 2) (lS l) ++ LV.sc (.string k) :: List.drop (i * 2 + 1) (lS l) = lS (l.set i { l.getD i default with key := k }) := by
  rw [show List.take (i * 2) (lS l) ++ LV.sc (.string k) :: List.drop (i * 2 + 1) (lS l) = List.take (i * 2) (lS l) ++ [LV.sc (.string k)] ++ List.drop (i * 2 + 1) (lS l) by simp, cell_set (by rw [lS_len]; omega)]; exact lS_set (j := 0) (by decide) h rfl
theorem setG1 (h : i < l.length) (r : Int) : List.take (i * 2 + 1) (lS l) ++ LV.sc (.int .i64 r) :: List.drop (i * 2 + 1 + 1) (lS l) = lS (l.set i { l.getD i default with ret := r }) := by
  rw [show List.take (i * 2 + 1) (lS l) ++ LV.sc (.int .i64 r) :: List.drop (i * 2 + 1 + 1) (lS l) = List.take (i * 2 + 1) (lS l) ++ [LV.sc (.int .i64 r)] ++ List.drop (i * 2 + 1 + 1) (lS l) by simp, cell_set (by rw [lS_len]; omega)]; exact lS_set (j := 1) (by decide) h rfl
end
attribute [go_sem] setG0 setG1
/-! ### A mark as a text -/
def mkTx (k : Int) : ByteArray := if k ≤ 0 then ⟨#[109, 48]⟩ else mkB (109 :: decL k.toNat)
theorem bytes_digI (n : Nat) : bytesOf [.sc (.int .u8 (IntKind.u8.wrap (48 + (n : Int).tmod 10)))] = some [dig (n % 10)] := by
  have e : (n : Int).tmod 10 = ((n % 10 : Nat) : Int) := by rw [Int.tmod_eq_emod_of_nonneg (by omega)]; rfl
  rw [e]
  have : n % 10 = 0 ∨ n % 10 = 1 ∨ n % 10 = 2 ∨ n % 10 = 3 ∨ n % 10 = 4 ∨ n % 10 = 5 ∨ n % 10 = 6 ∨ n % 10 = 7 ∨ n % 10 = 8 ∨ n % 10 = 9 := by omega
  rcases this with h | h | h | h | h | h | h | h | h | h <;> rw [h] <;> rfl
theorem tmod_le (n : Nat) : 0 ≤ (n : Int).tmod 10 ∧ (n : Int).tmod 10 ≤ 9 := by
  rw [Int.tmod_eq_emod_of_nonneg (by omega)]; omega
theorem markText_c (k : Int) (h0 : 0 ≤ k) (hk : k ≤ 100000000) : Val E.P 91 [I k] (S (mkTx k)) := by
  refine CallsA.body (E := E) (fn := Tryd.f91) Tryd.func91 rfl fun B hB => ?_
  simp only [Tryd.ntmps91, go_sem, nl, Nat.reduceSub, Nat.reduceAdd, List.reduceReplicate]
  obtain ⟨n, rfl⟩ : ∃ n : Nat, k = n := ⟨k.toNat, by omega⟩
  refine Wp.seqK fun K1 hK1 => ?_
  refine rg ?_
  refine hK1 _ ?_
  clear hK1 K1
  refine Wp.seqK fun K2 hK2 => ?_
  refine Wp.seqK fun K3 hK3 => ?_
  refine rg ?_
  refine hK3 _ ?_
  clear hK3 K3
  refine Wp.condS (fun h5 => ?_) (fun h5 => ?_)
  · refine Wp.seqK fun K4 hK4 => ?_
    refine rg ?_
    refine hK4 _ ?_
    clear hK4 K4
    refine Wp.ret (retV ?_)
    try simp only [List.getD_cons_zero, List.getD_cons_succ]
    unfold mkTx
    rw [if_pos (by omega)]
  · refine Wp.skip ?_
    refine hK2 _ ?_
    clear hK2 K2
    refine Wp.seqK fun K5 hK5 => ?_
    refine rg ?_
    refine hK5 _ ?_
    clear hK5 K5
    refine Wp.seqK fun K6 hK6 => ?_
    refine Wp.block ?_
    refine Wp.loopU0 (α := Nat × List UInt8) (fun x => [.v (I (x.1 : Int)), .d, .d, .v (S (mkB x.2)), .d5, .d5, .d5, .d]) (fun x => x.1 ≤ n ∧ rest x.1 x.2 = decL n ∧ (x.2 = [] → 0 < x.1)) (fun x => x.1) (n, []) (⟨Nat.le_refl _, rfl, fun _ => by omega⟩) anyS ?_
    rintro x f7 K7 ⟨hn, he, hp⟩ hK7
    simp only [updT_k, updT_d, updT_d5, updT_v, updT_nil, Nat.reduceAdd]
    refine Wp.seqK fun K8 hK8 => ?_
    refine Wp.seqK fun K9 hK9 => ?_
    refine rg ?_
    refine hK9 _ ?_
    clear hK9 K9
    refine Wp.condS (fun h7 => ?_) (fun h7 => ?_)
    · have hc : x.2 = [] ∨ 0 < x.1 := .inr (by omega)
      refine Wp.skip ?_
      refine hK8 _ ?_
      clear hK8 K8
      refine Wp.block ?_
      refine Wp.seqK fun K10 hK10 => ?_
      refine rg ?_
      have htm := tmod_le x.1
      rw [wr (by omega) (by omega)]
      simp only [bytes_digI]
      refine ⟨dig_room he (by omega), ?_⟩
      refine hK10 _ ?_
      clear hK10 K10
      refine Wp.keepR 0 [] (by rw [hB]; simp) (by simp) (by simp) (by simp) ?_
      refine evd ?_
      refine rg ?_
      try simp only [thn, inB, if_true, reduceIte]
      exact hK7 (x.1 / 10, dig (x.1 % 10) :: x.2) _ ⟨by omega, (rest_step hc).trans he, fun e => by cases e⟩ (Nat.div_lt_self (by omega) (by decide)) (anyS (h := by simp only [tdiv10, one_app]; rw [wr (by omega) (by omega)]; rfl))
    · have hz : x.1 = 0 := by omega
      have hx : x.2 ≠ [] := fun e => by have := hp e; omega
      refine Wp.exit ?_
      try simp only [thn, inB, if_true, reduceIte]
      clear hK8 K8
      clear hK7 K7
      refine hK6 _ ?_
      clear hK6 K6
      refine Wp.seqK fun K11 hK11 => ?_
      refine rg ?_
      have h2 : x.2 = decL n := by rw [← he, rest_end hz hx]
      have h3 := decL_len 18 n (by have : 10 ^ (18 + 1) = 10000000000000000000 := rfl; omega)
      refine ⟨by rw [mkB_size, h2]; have h4 : #[(109 : UInt8)].size = 1 := rfl; omega, ?_⟩
      refine hK11 _ ?_
      clear hK11 K11
      refine Wp.ret (retV ?_)
      try simp only [List.getD_cons_zero, List.getD_cons_succ]
      unfold mkTx
      rw [if_neg (by omega), Int.toNat_natCast, ← he, rest_end hz hx, one_app]
def markBo (n : Nat) (k : Int) : List Bool := (List.range n).map fun (i : Nat) => decide ((k + (i : Int)).tmod 3 = 0)
theorem markBo_at {n i : Nat} {k : Int} (h : i < n) : (markBo n k).getD i false = decide ((k + (i : Int)).tmod 3 = 0) := by simp [markBo, List.getD_eq_getElem?_getD, h]
theorem markBo_len (n : Nat) (k : Int) : (markBo n k).length = n := by simp [markBo]
theorem markBoolS_c (l : List Bool) (g : Nat) (k : Int) (h0 : 0 ≤ k) (h1 : k ≤ 10000000) (hl : l.length ≤ 1048576) : CallsA E.P 56 [.l (.obj 0 g 1 0 l.length), I k] [some ⟨g, l.map cb⟩] fun r ob => r = I (k + l.length) ∧ ob = [some ⟨g, (markBo l.length k).map cb⟩] := by
  refine CallsA.body (E := E) (fn := Tryd.f56) Tryd.func56 rfl fun B hB => ?_
  simp only [Tryd.ntmps56, go_sem, nl, Nat.reduceSub, Nat.reduceAdd, List.reduceReplicate]
  refine Wp.seqK fun K1 hK1 => ?_
  refine rg ?_
  refine hK1 _ ?_
  clear hK1 K1
  refine Wp.seqK fun K2 hK2 => ?_
  refine Wp.seqK fun K3 hK3 => ?_
  refine rg ?_
  refine hK3 _ ?_
  clear hK3 K3
  refine Wp.block ?_
  refine Wp.loopU (α := Nat) (fun x => [.k, .v (I (k + x)), .d, .d, .d, .v (I x), .d5, .d5, .d5]) (fun x => [some ⟨g, (mkR (fun (i : Nat) => decide ((k + (i : Int)).tmod 3 = 0)) l x).map cb⟩]) (fun x => x ≤ l.length) (fun x => l.length - x) 0 (by omega) (anyS) ?_
  rintro x f4 K4 hx hK4
  simp only [updT_k, updT_d, updT_d5, updT_v, updT_nil, Nat.reduceAdd]
  have hml := mkR_len (fun (i : Nat) => decide ((k + (i : Int)).tmod 3 = 0)) l hx
  refine Wp.seqK fun K5 hK5 => ?_
  refine Wp.seqK fun K6 hK6 => ?_
  refine rg ?_
  refine hK6 _ ?_
  clear hK6 K6
  refine Wp.condS (fun h9 => ?_) (fun h9 => ?_)
  · refine Wp.skip ?_
    refine hK5 _ ?_
    clear hK5 K5
    refine Wp.seqK fun K7 hK7 => ?_
    refine Wp.block ?_
    refine Wp.seqK fun K8 hK8 => ?_
    refine rg ?_
    refine hK8 _ ?_
    clear hK8 K8
    refine rg ?_
    try simp only [thn, inB, if_true, reduceIte]
    refine hK7 _ ?_
    clear hK7 K7
    refine rg ?_
    rw [mkR_set (fun (i : Nat) => decide ((k + (i : Int)).tmod 3 = 0)) l (show x < l.length by omega)]
    exact hK4 (x + 1) _ (by omega) (by omega) anyS
  · have hxl : x = l.length := by omega
    subst hxl
    refine Wp.exit ?_
    try simp only [thn, inB, if_true, reduceIte]
    clear hK5 K5
    clear hK4 K4
    refine hK2 _ ?_
    clear hK2 K2
    refine Wp.seqK fun K9 hK9 => ?_
    refine rg ?_
    refine hK9 _ ?_
    clear hK9 K9
    refine Wp.ret (retH ?_ ?_)
    · rfl
    · rw [mkR_end]; rfl
theorem heldBoolS_c (n : Nat) (k : Int) (h0 : 0 ≤ k) (h1 : k ≤ 10000000) (hl : n ≤ 1048576) : Val E.P 59 [dB (markBo n k), I k] (I (k + n)) := by
  refine CallsA.body (E := E) (fn := Tryd.f59) Tryd.func59 rfl fun B hB => ?_
  simp only [Tryd.ntmps59, go_sem, nl, Nat.reduceSub, Nat.reduceAdd, List.reduceReplicate]
  have hml := markBo_len n k
  refine Wp.seqK fun K1 hK1 => ?_
  refine rg ?_
  refine hK1 _ ?_
  clear hK1 K1
  refine Wp.seqK fun K2 hK2 => ?_
  refine Wp.seqK fun K3 hK3 => ?_
  refine rg ?_
  refine hK3 _ ?_
  clear hK3 K3
  refine Wp.block ?_
  refine Wp.loopU0 (α := Nat) (fun x => [.k, .v (I (k + x)), .d, .d, .d, .v (I x), .d5, .d5, .d5, .d, .d]) (fun x => x ≤ n) (fun x => n - x) 0 (by omega) anyS ?_
  rintro x f4 K4 hx hK4
  simp only [updT_k, updT_d, updT_d5, updT_v, updT_nil, Nat.reduceAdd]
  refine Wp.seqK fun K5 hK5 => ?_
  refine Wp.seqK fun K6 hK6 => ?_
  refine rg ?_
  refine hK6 _ ?_
  clear hK6 K6
  refine Wp.condS (fun h9 => ?_) (fun h9 => ?_)
  · refine Wp.skip ?_
    refine hK5 _ ?_
    clear hK5 K5
    refine Wp.seqK fun K7 hK7 => ?_
    refine Wp.block ?_
    refine Wp.seqK fun K8 hK8 => ?_
    refine Wp.seqK fun K9 hK9 => ?_
    refine rg ?_
    refine hK9 _ ?_
    clear hK9 K9
    refine Wp.condS (fun h19 => ?_) (fun h19 => ?_)
    · exact absurd h19 (by rw [markBo_at (by omega)]; simp)
    · refine Wp.skip ?_
      refine hK8 _ ?_
      clear hK8 K8
      refine rg ?_
      try simp only [thn, inB, if_true, reduceIte]
      refine hK7 _ ?_
      clear hK7 K7
      refine rg ?_
      exact hK4 (x + 1) _ (by omega) (by omega) anyS
  · have hxl : x = n := by omega
    subst hxl
    refine Wp.exit ?_
    try simp only [thn, inB, if_true, reduceIte]
    clear hK5 K5
    clear hK4 K4
    refine hK2 _ ?_
    clear hK2 K2
    refine Wp.seqK fun K10 hK10 => ?_
    refine rg ?_
    refine hK10 _ ?_
    clear hK10 K10
    refine Wp.ret (retV ?_)
    try simp only [List.getD_cons_zero, List.getD_cons_succ]
def markSn (n : Nat) (k : Int) : List Sn := (List.range n).map fun (i : Nat) => (⟨mkTx (k + 2 * (i : Int)), k + 2 * (i : Int) + 1⟩ : Sn)
theorem markSn_at {n i : Nat} {k : Int} (h : i < n) : (markSn n k).getD i default = ⟨mkTx (k + 2 * (i : Int)), k + 2 * (i : Int) + 1⟩ := by simp [markSn, List.getD_eq_getElem?_getD, h]
theorem markSn_len (n : Nat) (k : Int) : (markSn n k).length = n := by simp [markSn]
theorem markSeenS_c (l : List Sn) (g : Nat) (k : Int) (h0 : 0 ≤ k) (h1 : k ≤ 10000000) (hl : l.length ≤ 1048576) : CallsA E.P 58 [.l (.obj 0 g 2 0 l.length), I k] [some ⟨g, lS l⟩] fun r ob => r = I (k + 2 * l.length) ∧ ob = [some ⟨g, lS (markSn l.length k)⟩] := by
  refine CallsA.body (E := E) (fn := Tryd.f58) Tryd.func58 rfl fun B hB => ?_
  simp only [Tryd.ntmps58, go_sem, nl, Nat.reduceSub, Nat.reduceAdd, List.reduceReplicate]
  refine Wp.seqK fun K1 hK1 => ?_
  refine rg ?_
  refine hK1 _ ?_
  clear hK1 K1
  refine Wp.seqK fun K2 hK2 => ?_
  refine Wp.seqK fun K3 hK3 => ?_
  refine rg ?_
  refine hK3 _ ?_
  clear hK3 K3
  refine Wp.block ?_
  refine Wp.loopU (α := Nat) (fun x => [.k, .v (I (k + 2 * x)), .d, .d, .d, .v (I x), .d5, .d5, .d5, .d5, .d, .d]) (fun x => [some ⟨g, lS (mkR (fun (i : Nat) => (⟨mkTx (k + 2 * (i : Int)), k + 2 * (i : Int) + 1⟩ : Sn)) l x)⟩]) (fun x => x ≤ l.length) (fun x => l.length - x) 0 (by omega) (anyS) ?_
  rintro x f4 K4 hx hK4
  simp only [updT_k, updT_d, updT_d5, updT_v, updT_nil, Nat.reduceAdd]
  have hml := mkR_len (fun (i : Nat) => (⟨mkTx (k + 2 * (i : Int)), k + 2 * (i : Int) + 1⟩ : Sn)) l hx
  refine Wp.seqK fun K5 hK5 => ?_
  refine Wp.seqK fun K6 hK6 => ?_
  refine rg ?_
  refine hK6 _ ?_
  clear hK6 K6
  refine Wp.condS (fun h9 => ?_) (fun h9 => ?_)
  · refine Wp.skip ?_
    refine hK5 _ ?_
    clear hK5 K5
    refine Wp.seqK fun K7 hK7 => ?_
    refine Wp.block ?_
    refine Wp.seqK fun K8 hK8 => ?_
    refine rg ?_
    refine ⟨rfl, CallK.valA (h := markText_c _ (by omega) (by omega)) (k := ?_)⟩
    refine evd ?_
    refine hK8 _ ?_
    clear hK8 K8
    refine Wp.seqK fun K9 hK9 => ?_
    refine rg ?_
    refine hK9 _ ?_
    clear hK9 K9
    refine Wp.seqK fun K10 hK10 => ?_
    refine rg ?_
    refine hK10 _ ?_
    clear hK10 K10
    refine rg ?_
    try simp only [thn, inB, if_true, reduceIte]
    refine hK7 _ ?_
    clear hK7 K7
    refine rg ?_
    exact hK4 (x + 1) _ (by omega) (by omega) (anyS (ho := by rw [← mkR_set (fun (i : Nat) => (⟨mkTx (k + 2 * (i : Int)), k + 2 * (i : Int) + 1⟩ : Sn)) l (show x < l.length by omega)]))
  · have hxl : x = l.length := by omega
    subst hxl
    refine Wp.exit ?_
    try simp only [thn, inB, if_true, reduceIte]
    clear hK5 K5
    clear hK4 K4
    refine hK2 _ ?_
    clear hK2 K2
    refine Wp.seqK fun K11 hK11 => ?_
    refine rg ?_
    refine hK11 _ ?_
    clear hK11 K11
    refine Wp.ret (retH ?_ ?_)
    · rfl
    · rw [mkR_end]; rfl
theorem heldSeenS_c (n : Nat) (k : Int) (h0 : 0 ≤ k) (h1 : k ≤ 10000000) (hl : n ≤ 1048576) : Val E.P 61 [dS (markSn n k), I k] (I (k + 2 * n)) := by
  refine CallsA.body (E := E) (fn := Tryd.f61) Tryd.func61 rfl fun B hB => ?_
  simp only [Tryd.ntmps61, go_sem, nl, Nat.reduceSub, Nat.reduceAdd, List.reduceReplicate]
  have hml := markSn_len n k
  refine Wp.seqK fun K1 hK1 => ?_
  refine rg ?_
  refine hK1 _ ?_
  clear hK1 K1
  refine Wp.seqK fun K2 hK2 => ?_
  refine Wp.seqK fun K3 hK3 => ?_
  refine rg ?_
  refine hK3 _ ?_
  clear hK3 K3
  refine Wp.block ?_
  refine Wp.loopU0 (α := Nat) (fun x => [.k, .v (I (k + 2 * x)), .d, .d, .d, .v (I x), .d5, .d5, .d5, .d5, .d5, .d]) (fun x => x ≤ n) (fun x => n - x) 0 (by omega) anyS ?_
  rintro x f4 K4 hx hK4
  simp only [updT_k, updT_d, updT_d5, updT_v, updT_nil, Nat.reduceAdd]
  refine Wp.seqK fun K5 hK5 => ?_
  refine Wp.seqK fun K6 hK6 => ?_
  refine rg ?_
  refine hK6 _ ?_
  clear hK6 K6
  refine Wp.condS (fun h9 => ?_) (fun h9 => ?_)
  · refine Wp.skip ?_
    refine hK5 _ ?_
    clear hK5 K5
    refine Wp.seqK fun K7 hK7 => ?_
    refine Wp.block ?_
    refine Wp.seqK fun K8 hK8 => ?_
    refine Wp.seqK fun K9 hK9 => ?_
    refine Wp.drawI [0, 1, 2, 3, 4, 5, 6, 7] [6] (by kernel_rfl) ?_
    refine evd ?_
    refine ⟨rfl, CallK.valA (h := markText_c _ (by omega) (by omega)) (k := ?_)⟩
    refine evd ?_
    refine hK9 _ ?_
    clear hK9 K9
    refine Wp.condS (fun h19 => ?_) (fun h19 => ?_)
    · exact absurd (show _ = _ by rw [markSn_at (by omega)]) h19
    · refine Wp.skip ?_
      refine hK8 _ ?_
      clear hK8 K8
      refine Wp.seqK fun K10 hK10 => ?_
      refine rg ?_
      refine hK10 _ ?_
      clear hK10 K10
      refine Wp.seqK fun K11 hK11 => ?_
      refine Wp.seqK fun K12 hK12 => ?_
      refine rg ?_
      refine hK12 _ ?_
      clear hK12 K12
      refine Wp.condS (fun h28 => ?_) (fun h28 => ?_)
      · exact absurd (show _ = _ by rw [markSn_at (by omega)]) h28
      · refine Wp.skip ?_
        refine hK11 _ ?_
        clear hK11 K11
        refine rg ?_
        try simp only [thn, inB, if_true, reduceIte]
        refine hK7 _ ?_
        clear hK7 K7
        refine rg ?_
        exact hK4 (x + 1) _ (by omega) (by omega) anyS
  · have hxl : x = n := by omega
    subst hxl
    refine Wp.exit ?_
    try simp only [thn, inB, if_true, reduceIte]
    clear hK5 K5
    clear hK4 K4
    refine hK2 _ ?_
    clear hK2 K2
    refine Wp.seqK fun K13 hK13 => ?_
    refine rg ?_
    refine hK13 _ ?_
    clear hK13 K13
    refine Wp.ret (retV ?_)
    try simp only [List.getD_cons_zero, List.getD_cons_succ]

/-! ### A machine's marks -/
def totM (m : Mc) : Int := m.row.length + m.vals.length + 2 * m.memo.length
def mkM (m : Mc) (k : Int) : Obs := [some ⟨0, (markBo m.row.length k).map cb⟩, some ⟨0, (markI m.vals.length (k + m.row.length)).map ci⟩, some ⟨0, lS (markSn m.memo.length (k + m.row.length + m.vals.length))⟩]
theorem mkM_shut (m : Mc) (k : Int) : obShut 3 (mkM m k) = true := by
  simp only [mkM, obShut, List.all_cons, List.all_nil, flat_shut (flatI _), flat_shut (flatB _), flat_shut (lS_flat _), Bool.and_true]
def mK (m : Mc) (k : Int) : List LV := mCells (.dsl true m.row.length (encB (markBo m.row.length k))) (.dsl true m.vals.length (encI (markI m.vals.length (k + m.row.length)))) (.dsl true m.memo.length (encS (markSn m.memo.length (k + m.row.length + m.vals.length)))) m
attribute [go_sem] mK
theorem argK {ob : Obs} {L : Lend} {a b c : Nat} {m : Mc} {k n : Int} (e1 : ob.getD a none = some ⟨0, (markBo m.row.length k).map cb⟩) (e2 : ob.getD b none = some ⟨0, (markI m.vals.length (k + m.row.length)).map ci⟩) (e3 : ob.getD c none = some ⟨0, lS (markSn m.memo.length (k + m.row.length + m.vals.length))⟩)
    (l1 : lk L a 0 = some (encB (markBo m.row.length k))) (l2 : lk L b 0 = some (encI (markI m.vals.length (k + m.row.length)))) (l3 : lk L c 0 = some (encS (markSn m.memo.length (k + m.row.length + m.vals.length)))) :
    ArgsL ob L [.agg (mO a b c m), I n] [.agg (mK m k), I n] [(a, 0, encB (markBo m.row.length k)), (b, 0, encI (markI m.vals.length (k + m.row.length))), (c, 0, encS (markSn m.memo.length (k + m.row.length + m.vals.length)))] := by
  refine .agg (.same rfl .nil) ?_
  unfold mO mK mCells
  refine .row e1 (lB_encB _ false).symm (by rw [List.drop_zero, Nat.mul_one, List.take_of_length_le (by rw [encB_len, markBo_len]; exact Nat.le_refl _)]) l1 ?_
  refine .same rfl (.same rfl (.same rfl ?_))
  refine .row e2 (lI_encI _ false).symm (by rw [List.drop_zero, Nat.mul_one, List.take_of_length_le (by rw [encI_len, markI_len]; exact Nat.le_refl _)]) l2 ?_
  refine .same rfl (.same rfl (.same rfl (.same rfl (.same rfl ?_))))
  refine .row e3 (lS_encS _ false).symm (by rw [List.drop_zero, List.take_of_length_le (by rw [encS_len, markSn_len]; exact Nat.le_refl _)]) l3 ?_
  exact .nil
theorem markMachine_c (m : Mc) (k : Int) (h0 : 0 ≤ k) (h1 : k ≤ 1000) (hr : m.row.length ≤ 100000) (hv : m.vals.length ≤ 100000) (hm : m.memo.length ≤ 1048576) : CallsA E.P 17 [.agg (mO 0 1 2 m), I k] (mR m) fun r ob => r = I (k + totM m) ∧ ob = mkM m k := by
  refine CallsA.body (E := E) (fn := Tryd.f17) Tryd.func17 rfl fun B hB => ?_
  simp only [Tryd.ntmps17, go_sem, nl, Nat.reduceSub, Nat.reduceAdd, List.reduceReplicate]
  refine Wp.seqK fun K1 hK1 => ?_
  refine rg ?_
  refine hK1 _ ?_
  clear hK1 K1
  refine Wp.seqK fun K2 hK2 => ?_
  refine rg ?_
  refine ⟨rfl, CallK.giveA 0 (markBoolS_c m.row 0 k h0 (by omega) (by omega)) ?_⟩
  refine evd ?_
  refine hK2 _ ?_
  clear hK2 K2
  refine Wp.seqK fun K3 hK3 => ?_
  refine rg ?_
  refine ⟨rfl, CallK.giveA 1 (markIntS_c m.vals 0 (k + m.row.length) (by omega) (by omega) (by omega)) ?_⟩
  refine evd ?_
  refine hK3 _ ?_
  clear hK3 K3
  refine Wp.seqK fun K4 hK4 => ?_
  refine rg ?_
  refine ⟨rfl, CallK.giveA 2 (markSeenS_c m.memo 0 (k + m.row.length + m.vals.length) (by omega) (by omega) (by omega)) ?_⟩
  refine evd ?_
  refine hK4 _ ?_
  clear hK4 K4
  refine Wp.seqK fun K5 hK5 => ?_
  refine rg ?_
  refine hK5 _ ?_
  clear hK5 K5
  refine Wp.ret (retH (hi := mkM_shut m k) ?_ ?_)
  · simp only [List.getD_cons_zero, List.getD_cons_succ]
    unfold totM
    rw [show k + ((m.row.length : Int) + m.vals.length + 2 * m.memo.length) = k + m.row.length + m.vals.length + 2 * m.memo.length by omega]
  · rfl
theorem heldBo_d (n : Nat) (k : Int) (h0 : 0 ≤ k) (h1 : k ≤ 10000000) (hl : n ≤ 1048576) : Val E.P 59 [.l (.dsl true n (encB (markBo n k))), I k] (I (k + n)) := by
  have := heldBoolS_c n k h0 h1 hl
  unfold dB at this
  rwa [markBo_len] at this
theorem heldI_d (n : Nat) (k : Int) (h0 : 0 ≤ k) (h1 : k ≤ 1048576) (hl : n ≤ 1048576) : Val E.P 60 [.l (.dsl true n (encI (markI n k))), I k] (I (k + n)) := by
  have := heldIntS_c n k h0 h1 hl
  unfold dI at this
  rwa [markI_len] at this
theorem heldS_d (n : Nat) (k : Int) (h0 : 0 ≤ k) (h1 : k ≤ 10000000) (hl : n ≤ 1048576) : Val E.P 61 [.l (.dsl true n (encS (markSn n k))), I k] (I (k + 2 * n)) := by
  have := heldSeenS_c n k h0 h1 hl
  unfold dS at this
  rwa [markSn_len] at this
theorem heldMachine_c (m : Mc) (k : Int) (h0 : 0 ≤ k) (h1 : k ≤ 1000) (hr : m.row.length ≤ 100000) (hv : m.vals.length ≤ 100000) (hm : m.memo.length ≤ 1048576) : Val E.P 18 [.agg (mK m k), I k] (I (k + totM m)) := by
  refine CallsA.body (E := E) (fn := Tryd.f18) Tryd.func18 rfl fun B hB => ?_
  simp only [Tryd.ntmps18, go_sem, nl, Nat.reduceSub, Nat.reduceAdd, List.reduceReplicate]
  refine Wp.seqK fun K1 hK1 => ?_
  refine rg ?_
  refine hK1 _ ?_
  clear hK1 K1
  refine Wp.seqK fun K2 hK2 => ?_
  refine rg ?_
  refine ⟨rfl, CallK.valA (h := heldBo_d m.row.length k h0 (by omega) (by omega)) (ha := .same rfl (.same rfl .nil)) (k := ?_)⟩
  refine evd ?_
  refine hK2 _ ?_
  clear hK2 K2
  refine Wp.seqK fun K3 hK3 => ?_
  refine Wp.seqK fun K4 hK4 => ?_
  refine rg ?_
  refine hK4 _ ?_
  clear hK4 K4
  refine Wp.condS (fun h10 => ?_) (fun h10 => ?_)
  · omega
  · refine Wp.skip ?_
    refine hK3 _ ?_
    clear hK3 K3
    refine Wp.seqK fun K5 hK5 => ?_
    refine rg ?_
    refine ⟨rfl, CallK.valA (h := heldI_d m.vals.length (k + m.row.length) (by omega) (by omega) (by omega)) (ha := .same rfl (.same rfl .nil)) (k := ?_)⟩
    refine evd ?_
    refine hK5 _ ?_
    clear hK5 K5
    refine Wp.seqK fun K6 hK6 => ?_
    refine Wp.seqK fun K7 hK7 => ?_
    refine rg ?_
    refine hK7 _ ?_
    clear hK7 K7
    refine Wp.condS (fun h16 => ?_) (fun h16 => ?_)
    · omega
    · refine Wp.skip ?_
      refine hK6 _ ?_
      clear hK6 K6
      refine Wp.seqK fun K8 hK8 => ?_
      refine rg ?_
      refine ⟨rfl, CallK.valA (h := heldS_d m.memo.length (k + m.row.length + m.vals.length) (by omega) (by omega) (by omega)) (ha := .same rfl (.same rfl .nil)) (k := ?_)⟩
      refine evd ?_
      refine hK8 _ ?_
      clear hK8 K8
      refine Wp.seqK fun K9 hK9 => ?_
      refine Wp.seqK fun K10 hK10 => ?_
      refine rg ?_
      refine hK10 _ ?_
      clear hK10 K10
      refine Wp.condS (fun h22 => ?_) (fun h22 => ?_)
      · omega
      · refine Wp.skip ?_
        refine hK9 _ ?_
        clear hK9 K9
        refine Wp.seqK fun K11 hK11 => ?_
        refine rg ?_
        refine hK11 _ ?_
        clear hK11 K11
        refine Wp.ret (retV ?_)
        try simp only [List.getD_cons_zero, List.getD_cons_succ]
        unfold totM
        rw [show k + ((m.row.length : Int) + m.vals.length + 2 * m.memo.length) = k + m.row.length + m.vals.length + 2 * m.memo.length by omega]
end Go.Proofs.YtbhlegobhidgkaaDoor.RE
