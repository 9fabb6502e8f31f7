/- Machines that are right. Conditions: those that a theorem names. -/
import Derived.Test.YtonacngeaknlcaaGreatDoorJ1
set_option linter.unusedVariables false
set_option linter.unusedSimpArgs false
namespace Go.Proofs.YtonacngeaknlcaaGreatDoor.RE
open Go Go.RowKit
set_option maxRecDepth 100000
set_option maxHeartbeats 8000000

/-! ### What is right -/
def inI (x a b : Int) : Bool := decide (a ≤ x) && decide (x ≤ b)
def rowedB (r : List Bool) (n : Int) (o : ByteArray) : Bool := tableOk n o && decide ((r.length : Int) = n)
def bitI (x : Int) : Bool := decide (x = 0 ∨ x = 1)
def cntB (x : Int) : Bool := inI x 0 1000000000
def seenB (l : List Sn) (k : ByteArray) : Bool := l.any fun x => decide (x.key = k)
def memN (l : List Sn) : Nat → Bool
  | 0 => true
  | n + 1 => memN l n && (bitI (l.getD n default).ret && !seenB (l.take n) (l.getD n default).key)
def mA (m : Mc) : Bool := rowedB m.row m.n m.ones && inI m.room 0 40 && decide ((m.memo.length : Int) ≤ m.room) && decide ((m.vals.length : Int) ≤ m.n)
def mB' (m : Mc) : Bool := m.vals.all bitI && inI m.ret (-1) 1 && !(m.over && (decide (m.ret < 0) || decide (0 < m.vals.length)))
def mC' (m : Mc) : Bool := memN m.memo m.memo.length
def mD' (m : Mc) : Bool := cntB m.steps && cntB m.looks && cntB m.hits
def mOk (m : Mc) : Bool := mA m && mB' m && mC' m && mD' m
def mZero (m : Mc) : Bool := decide (m.row.length = 0 ∧ m.n = 0 ∧ m.ones = ⟨#[]⟩ ∧ m.room = 0 ∧ m.vals.length = 0 ∧ m.ret = 0 ∧ m.over = false ∧ m.steps = 0 ∧ m.looks = 0 ∧ m.hits = 0 ∧ m.memo.length = 0)
theorem mA_n {m : Mc} (h : mA m = true) : 0 ≤ m.n ∧ m.n ≤ 12 := by
  unfold mA rowedB tableOk tokA at h
  simp only [Bool.and_eq_true, decide_eq_true_eq] at h
  omega
theorem mA_v {m : Mc} (h : mA m = true) : (m.vals.length : Int) ≤ m.n := by
  unfold mA at h
  simp only [Bool.and_eq_true, decide_eq_true_eq] at h
  omega
def jOk (j : Jb) : Bool := (decide (j.journal.size ≤ 2000000) && inI j.synced 0 j.journal.size) && (if j.state = 0 then mZero j.m else if j.state = 1 then mOk j.m && !j.m.over else if j.state = 2 then mOk j.m && j.m.over else false)
theorem rowed_c (r : List Bool) (n : Int) (o : ByteArray) (ho : o.size ≤ 1048576) : Val E.P 105 [dB r, .agg (tb n o)] (T (rowedB r n o)) := by
  refine CallsA.body (E := E) (fn := Tryz.f105) Tryz.func105 rfl fun B hB => ?_
  simp only [Tryz.ntmps105, go_sem, nl, Nat.reduceSub, Nat.reduceAdd, List.reduceReplicate]
  refine Wp.seqK fun K1 hK1 => ?_
  refine rg ?_
  refine hK1 _ ?_
  clear hK1 K1
  refine Wp.seqK fun K2 hK2 => ?_
  refine rg ?_
  refine ⟨rfl, CallK.valA (h := iTableOk_c _ _ (by omega)) (k := ?_)⟩
  refine evd ?_
  refine grdA_split rfl (fun g1_3 => ?_) (fun g1_3 => ?_)
  · try simp only [decide_eq_true_eq, decide_eq_false_iff_not] at g1_3
    try refine evd ?_
    refine hK2 _ ?_
    clear hK2 K2
    refine Wp.ret (retV ?_)
    try simp only [List.getD_cons_zero, List.getD_cons_succ]
    show T _ = T (rowedB r n o)
    unfold rowedB
    rw [g1_3, Bool.true_and]
  · try simp only [decide_eq_true_eq, decide_eq_false_iff_not] at g1_3
    try refine evd ?_
    refine hK2 _ ?_
    clear hK2 K2
    refine Wp.ret (retV ?_)
    try simp only [List.getD_cons_zero, List.getD_cons_succ]
    show T _ = T (rowedB r n o)
    unfold rowedB
    rw [g1_3, Bool.false_and]
theorem l08Ok_c (r : List Bool) (n : Int) (o : ByteArray) (ho : o.size ≤ 1048576) : Val E.P 75 [dB r, .agg (tb n o)] (T (rowedB r n o)) := by
  refine CallsA.body (E := E) (fn := Tryz.f75) Tryz.func75 rfl fun B hB => ?_
  simp only [Tryz.ntmps75, go_sem, nl, Nat.reduceSub, Nat.reduceAdd, List.reduceReplicate]
  refine Wp.seqK fun K1 hK1 => ?_
  refine rg ?_
  refine hK1 _ ?_
  clear hK1 K1
  refine Wp.seqK fun K2 hK2 => ?_
  refine rg ?_
  refine ⟨rfl, CallK.valA (h := sTableOk_c _ _ (by omega)) (k := ?_)⟩
  refine evd ?_
  refine grdA_split rfl (fun g1_3 => ?_) (fun g1_3 => ?_)
  · try simp only [decide_eq_true_eq, decide_eq_false_iff_not] at g1_3
    try refine evd ?_
    refine hK2 _ ?_
    clear hK2 K2
    refine Wp.ret (retV ?_)
    try simp only [List.getD_cons_zero, List.getD_cons_succ]
    show T _ = T (rowedB r n o)
    unfold rowedB
    rw [g1_3, Bool.true_and]
  · try simp only [decide_eq_true_eq, decide_eq_false_iff_not] at g1_3
    try refine evd ?_
    refine hK2 _ ?_
    clear hK2 K2
    refine Wp.ret (retV ?_)
    try simp only [List.getD_cons_zero, List.getD_cons_succ]
    show T _ = T (rowedB r n o)
    unfold rowedB
    rw [g1_3, Bool.false_and]
theorem isCount_c (x : Int) : Val E.P 107 [I x] (T (cntB x)) := by
  refine CallsA.body (E := E) (fn := Tryz.f107) Tryz.func107 rfl fun B hB => ?_
  simp only [Tryz.ntmps107, go_sem, nl, Nat.reduceSub, Nat.reduceAdd, List.reduceReplicate]
  refine Wp.seqK fun K1 hK1 => ?_
  refine rg ?_
  refine hK1 _ ?_
  clear hK1 K1
  refine Wp.seqK fun K2 hK2 => ?_
  refine rg ?_
  refine ⟨rfl, CallK.valA (h := within_c _ _ _) (k := ?_)⟩
  refine evd ?_
  refine hK2 _ ?_
  clear hK2 K2
  refine Wp.ret (retV ?_)
  try simp only [List.getD_cons_zero, List.getD_cons_succ]
  rfl

theorem mem_getD {α : Type} {l : List α} {i : Nat} {d : α} (h : i < l.length) : l.getD i d ∈ l := by
  rw [List.getD_eq_getElem?_getD, List.getElem?_eq_getElem h]
  exact List.getElem_mem h
theorem memN_no {l : List Sn} {n : Nat} (h : memN l n = false) : ∀ k, n ≤ k → memN l k = false
  | 0, hk => by
    have : n = 0 := by omega
    rw [this] at h; exact h
  | k + 1, hk => by
    by_cases he : n = k + 1
    · rw [← he]; exact h
    · rw [memN, memN_no h k (by omega), Bool.false_and]
theorem memN_s {l : List Sn} {n : Nat} (h : memN l n = true) : memN l (n + 1) = (bitI (l.getD n default).ret && !seenB (l.take n) (l.getD n default).key) := by
  rw [memN, h, Bool.true_and]
theorem seenB_s {l : List Sn} {n : Nat} (h : n < l.length) (k : ByteArray) : seenB (l.take (n + 1)) k = (seenB (l.take n) k || decide ((l.getD n default).key = k)) := by
  unfold seenB
  rw [take_push default h, List.any_append]
  simp
def seenV (l : List Sn) (n : Nat) (k : ByteArray) : Int := if seenB (l.take n) k = true then 1 else 0
theorem seenV_s {l : List Sn} {n : Nat} (h : n < l.length) : (fun x => if x = (l.getD n default).key then (1 : Int) else seenV l n x) = seenV l (n + 1) := by
  funext x
  unfold seenV
  rw [seenB_s h]
  by_cases hx : x = (l.getD n default).key
  · rw [if_pos hx, hx]; simp
  · rw [if_neg hx]
    have : decide ((l.getD n default).key = x) = false := decide_eq_false (fun e => hx e.symm)
    rw [this, Bool.or_false]
theorem seenV_pos (l : List Sn) (n : Nat) (k : ByteArray) : decide (0 < seenV l n k) = seenB (l.take n) k := by
  unfold seenV
  cases h : seenB (l.take n) k <;> simp
theorem d_lt (a b : Int) : (!decide (b ≤ a)) = decide (a < b) := by
  by_cases h : a < b
  · rw [decide_eq_true h, decide_eq_false (by omega)]; rfl
  · rw [decide_eq_false h, decide_eq_true (by omega)]; rfl
theorem mapS_nil : MapS E.P 142 #[] 0 0 (fun _ => 0) := by
  have hz : (E.P.info? 3).bind (·.zero) = some (.int .i64 0) := by kernel_rfl
  refine ⟨9, 3, by kernel_rfl, by kernel_rfl, by kernel_rfl, fun w => ?_, .map [], fun w b h => ⟨#[], 0, h, ⟨by simp, Go.MapKept.stamped_empty 0, by simp⟩, Nat.le_refl _, rfl⟩, Go.Maps.isMap_empty, fun s _ => rfl⟩
  cases hi : E.P.info? 3 with
  | none => rw [hi] at hz; cases hz
  | some i =>
    rw [hi] at hz
    simp only [Option.bind_some] at hz
    simp [zeroValue, typeInfo, hi, hz]
/-! ### Bits as a place -/
def plV (l : List Int) : Int := l.foldl (fun a b => 2 * a + b) 0
theorem plV_push {l : List Int} {x : Nat} (h : x < l.length) : plV (l.take (x + 1)) = 2 * plV (l.take x) + l.getD x 0 := by
  unfold plV
  rw [take_push 0 h, List.foldl_append]; rfl
theorem plV_lt {l : List Int} : ∀ (x : Nat), x ≤ l.length → (l.take x).all bitI = true → 0 ≤ plV (l.take x) ∧ plV (l.take x) < 2 ^ x
  | 0, _, _ => by simp [plV]
  | x + 1, hx, h => by
    rw [take_push 0 (show x < l.length by omega), List.all_append, Bool.and_eq_true] at h
    obtain ⟨h1, h2⟩ := plV_lt x (by omega) h.1
    have h3 : bitI (l.getD x 0) = true := by simpa using h.2
    have h4 : l.getD x 0 = 0 ∨ l.getD x 0 = 1 := by simpa [bitI] using h3
    rw [plV_push (by omega), Int.pow_succ]
    omega
theorem pw12' {n : Nat} (h : n ≤ 12) : (2 : Int) ^ n ≤ 4096 := by
  have : n = 0 ∨ n = 1 ∨ n = 2 ∨ n = 3 ∨ n = 4 ∨ n = 5 ∨ n = 6 ∨ n = 7 ∨ n = 8 ∨ n = 9 ∨ n = 10 ∨ n = 11 ∨ n = 12 := by omega
  rcases this with h | h | h | h | h | h | h | h | h | h | h | h | h <;> subst h <;> decide
theorem allI_no {l : List Int} {x : Nat} (hx : x < l.length) (h : bitI (l.getD x 0) = false) : l.all bitI = false := by
  rw [Bool.eq_false_iff]
  intro ha
  have := List.all_eq_true.1 ha (l.getD x 0) (by rw [← getD_at (d := 0) hx]; exact List.getElem_mem hx)
  rw [h] at this; cases this
theorem allI_push {l : List Int} {x : Nat} (hx : x < l.length) (h : (l.take x).all bitI = true) (hb : bitI (l.getD x 0) = true) : (l.take (x + 1)).all bitI = true := by
  rw [take_push 0 hx, List.all_append, h, List.all_cons, hb]; rfl
theorem bitI_le {x : Int} (h : bitI x = true) : 0 ≤ x ∧ x ≤ 1 := by
  have h4 : x = 0 ∨ x = 1 := by simpa [bitI] using h
  omega
theorem bitI_a {x : Int} (g : ¬ x = 0) : (!bitI x) = !decide (x = 1) := by
  unfold bitI
  by_cases h : x = 1
  · rw [decide_eq_true (.inr h), decide_eq_true h]
  · rw [decide_eq_false (by omega), decide_eq_false h]
theorem bitI_b {x : Int} (g : x = 0) : (!bitI x) = false := by
  unfold bitI
  rw [decide_eq_true (.inl g)]; rfl
theorem placeOfBits_c (l : List Int) (hl : l.length ≤ 12) : Val E.P 106 [dI l] (.tup [TI (if l.all bitI = true then plV l else 0), TB (l.all bitI)]) := by
  refine CallsA.body (E := E) (fn := Tryz.f106) Tryz.func106 rfl fun B hB => ?_
  simp only [Tryz.ntmps106, go_sem, nl, Nat.reduceSub, Nat.reduceAdd, List.reduceReplicate]
  have hp := pw12' hl
  refine Wp.seqK fun K1 hK1 => ?_
  refine rg ?_
  refine hK1 _ ?_
  clear hK1 K1
  refine Wp.seqK fun K2 hK2 => ?_
  refine rg ?_
  refine hK2 _ ?_
  clear hK2 K2
  refine Wp.seqK fun K3 hK3 => ?_
  refine Wp.seqK fun K4 hK4 => ?_
  refine rg ?_
  refine hK4 _ ?_
  clear hK4 K4
  refine Wp.block ?_
  refine Wp.loopU0 (α := Nat) (fun x => [.d, .d, .d, .d, .v (I (plV (l.take x))), .d, .d, .k, .k, .v (I x), .d5, .d5, .d5]) (fun x => x ≤ l.length ∧ (l.take x).all bitI = true) (fun x => l.length - x) 0 (⟨Nat.zero_le _, rfl⟩) anyS ?_
  rintro x f5 K5 ⟨hx, ha⟩ hK5
  simp only [updT_k, updT_d, updT_d5, updT_v, updT_nil, Nat.reduceAdd]
  refine Wp.seqK fun K6 hK6 => ?_
  refine rg ?_
  refine hK6 _ ?_
  clear hK6 K6
  refine Wp.seqK fun K7 hK7 => ?_
  refine Wp.condS (fun h10 => ?_) (fun h10 => ?_)
  · have hxl : x < l.length := by omega
    have hpl := plV_lt x hx ha
    have hp2 := pw12' (show x ≤ 12 by omega)
    have hps := plV_push hxl
    refine Wp.skip ?_
    refine hK7 _ ?_
    clear hK7 K7
    refine Wp.seqK fun K8 hK8 => ?_
    refine Wp.block ?_
    refine Wp.seqK fun K9 hK9 => ?_
    refine rg ?_
    refine hK9 _ ?_
    clear hK9 K9
    refine Wp.seqK fun K10 hK10 => ?_
    refine Wp.seqU0 [.d, .d, .d, .d, .k, .d, .k, .k, .k, .k, .d5, .d, .d, .d, .v (T (!bitI (l.getD x 0))), .d5, .d] (fun K11 hK11 => ?_) ?_
    · refine rg ?_
      refine grdA_split rfl (fun g5_3 => ?_) (fun g5_3 => ?_)
      · try simp only [decide_eq_true_eq, decide_eq_false_iff_not] at g5_3
        try refine evd ?_
        exact hK11 _ (anyS (h := by rw [bitI_a (by simpa using g5_3)]; rfl))
      · try simp only [decide_eq_true_eq, decide_eq_false_iff_not] at g5_3
        try refine evd ?_
        exact hK11 _ (anyS (h := by rw [bitI_b (by simpa using g5_3)]; rfl))
    rintro f11
    simp only [updT_k, updT_d, updT_d5, updT_v, updT_nil, Nat.reduceAdd]
    refine Wp.condS (fun h18 => ?_) (fun h18 => ?_)
    · have hb : bitI (l.getD x 0) = false := h18
      refine Wp.seqK fun K12 hK12 => ?_
      refine rg ?_
      refine hK12 _ ?_
      clear hK12 K12
      refine Wp.ret (retV ?_)
      try simp only [List.getD_cons_zero, List.getD_cons_succ]
      rw [allI_no hxl hb]; rfl
    · have hb : bitI (l.getD x 0) = true := h18
      have hb2 := bitI_le hb
      refine Wp.skip ?_
      refine hK10 _ ?_
      clear hK10 K10
      refine rg ?_
      try simp only [thn, inB, if_true, reduceIte]
      refine hK8 _ ?_
      clear hK8 K8
      refine rg ?_
      exact hK5 (x + 1) _ ⟨hxl, allI_push hxl ha hb⟩ (by omega) (anyS (h := by rw [hps]; rfl))
  · have hxl : x = l.length := by omega
    refine Wp.exit ?_
    try simp only [thn, inB, if_true, reduceIte]
    clear hK7 K7
    clear hK5 K5
    refine hK3 _ ?_
    clear hK3 K3
    refine Wp.seqK fun K13 hK13 => ?_
    refine rg ?_
    refine hK13 _ ?_
    clear hK13 K13
    refine Wp.ret (retV ?_)
    try simp only [List.getD_cons_zero, List.getD_cons_succ]
    rw [hxl, List.take_length] at ha
    rw [ha]; rfl
theorem iMachineOk_c (m : Mc) (hf : m.Fits) : Val E.P 67 [.agg (mD m)] (T (mOk m)) := by
  refine CallsA.body (E := E) (fn := Tryz.f67) Tryz.func67 rfl fun B hB => ?_
  simp only [Tryz.ntmps67, go_sem, nl, Nat.reduceSub, Nat.reduceAdd, List.reduceReplicate]
  have hk := hf.keys
  have hr0 := hf.row
  have ho0 := hf.ones
  have hv0 := hf.vals
  have hm0 := hf.memo
  refine Wp.seqK fun K1 hK1 => ?_
  refine rg ?_
  refine hK1 _ ?_
  clear hK1 K1
  refine Wp.seqK fun K2 hK2 => ?_
  refine Wp.seqU0 [.d, .k, .d5, .d5, .d5, .d5, .d5, .d5, .d, .d, .d, .d, .v (T (!mA m)), .d5, .d5, .d5, .d5, .d5, .d5, .d5, .d5, .d5, .d5, .d5, .d5, .d5, .d, .d, .d, .d] (fun K3 hK3 => ?_) ?_
  · refine rg ?_
    refine ⟨rfl, CallK.valA (h := rowed_c _ _ _ (by omega)) (k := ?_)⟩
    refine evd ?_
    refine grdA_split rfl (fun g1_7 => ?_) (fun g1_7 => ?_)
    · try simp only [Bool.not_eq_true', Bool.not_eq_false', decide_eq_true_eq, decide_eq_false_iff_not] at g1_7
      try refine evd ?_
      exact hK3 _ (anyS (h := by rw [show mA m = false from by unfold mA; rw [show rowedB m.row m.n m.ones = false from g1_7]; rfl]; rfl))
    · try simp only [Bool.not_eq_true', Bool.not_eq_false', decide_eq_true_eq, decide_eq_false_iff_not] at g1_7
      try refine evd ?_
      refine ⟨rfl, CallK.valA (h := within_c _ _ _) (k := ?_)⟩
      refine evd ?_
      refine grdA_split rfl (fun g1_13 => ?_) (fun g1_13 => ?_)
      · try simp only [Bool.not_eq_true', Bool.not_eq_false', decide_eq_true_eq, decide_eq_false_iff_not] at g1_13
        try refine evd ?_
        exact hK3 _ (anyS (h := by rw [show mA m = false from by unfold mA; rw [show rowedB m.row m.n m.ones = true from g1_7, show inI m.room 0 40 = false from g1_13]; rfl]; rfl))
      · try simp only [Bool.not_eq_true', Bool.not_eq_false', decide_eq_true_eq, decide_eq_false_iff_not] at g1_13
        try refine evd ?_
        refine grdA_split rfl (fun g1_21 => ?_) (fun g1_21 => ?_)
        · try simp only [Bool.not_eq_true', Bool.not_eq_false', decide_eq_true_eq, decide_eq_false_iff_not] at g1_21
          try refine evd ?_
          exact hK3 _ (anyS (h := by rw [show mA m = false from by unfold mA; rw [show rowedB m.row m.n m.ones = true from g1_7, show inI m.room 0 40 = true from g1_13, decide_eq_false (by omega)]; rfl]; rfl))
        · try simp only [Bool.not_eq_true', Bool.not_eq_false', decide_eq_true_eq, decide_eq_false_iff_not] at g1_21
          try refine evd ?_
          exact hK3 _ (anyS (h := by rw [show mA m = !decide (m.n < (m.vals.length : Int)) from (by unfold mA; rw [show rowedB m.row m.n m.ones = true from g1_7, show inI m.room 0 40 = true from g1_13, decide_eq_true (show (m.memo.length : Int) ≤ m.room by omega), ← d_lt]; simp), Bool.not_not]; rfl))
  rintro f3
  simp only [updT_k, updT_d, updT_d5, updT_v, updT_nil, Nat.reduceAdd]
  refine Wp.condS (fun h36 => ?_) (fun h36 => ?_)
  · refine Wp.seqK fun K4 hK4 => ?_
    refine rg ?_
    refine hK4 _ ?_
    clear hK4 K4
    refine Wp.ret (retV ?_)
    try simp only [List.getD_cons_zero, List.getD_cons_succ]
    show T _ = T (mOk m)
    unfold mOk
    rw [h36]; rfl
  · have hA : mA m = true := by simpa using h36
    have hn12 : 0 ≤ m.n ∧ m.n ≤ 12 := mA_n hA
    have hvn : (m.vals.length : Int) ≤ m.n := mA_v hA
    refine Wp.skip ?_
    refine hK2 _ ?_
    clear hK2 K2
    refine Wp.seqK fun K5 hK5 => ?_
    refine Wp.seqK fun K6 hK6 => ?_
    refine rg ?_
    refine ⟨rfl, CallK.valA (h := placeOfBits_c _ (by omega)) (k := ?_)⟩
    refine evd ?_
    refine hK6 _ ?_
    clear hK6 K6
    refine Wp.seqU0 [.d, .k, .d5, .d5, .d5, .d5, .d5, .d5, .d5, .d5, .d5, .d5, .d5, .d5, .d, .d, .d, .v (T (!mB' m)), .d5, .d5, .d5, .d5, .d5, .d5, .d5, .d5] (fun K7 hK7 => ?_) ?_
    · refine rg ?_
      refine grdA_split rfl (fun g4_3 => ?_) (fun g4_3 => ?_)
      · try simp only [Bool.not_eq_true', Bool.not_eq_false', decide_eq_true_eq, decide_eq_false_iff_not] at g4_3
        try refine evd ?_
        exact hK7 _ (anyS (h := by rw [show mB' m = false from by unfold mB'; rw [show m.vals.all bitI = false from g4_3]; rfl]; rfl))
      · try simp only [Bool.not_eq_true', Bool.not_eq_false', decide_eq_true_eq, decide_eq_false_iff_not] at g4_3
        try refine evd ?_
        refine ⟨rfl, CallK.valA (h := within_c _ _ _) (k := ?_)⟩
        refine evd ?_
        refine grdA_split rfl (fun g4_9 => ?_) (fun g4_9 => ?_)
        · try simp only [Bool.not_eq_true', Bool.not_eq_false', decide_eq_true_eq, decide_eq_false_iff_not] at g4_9
          try refine evd ?_
          exact hK7 _ (anyS (h := by rw [show mB' m = false from by unfold mB'; rw [show m.vals.all bitI = true from g4_3, show inI m.ret (-1) 1 = false from g4_9]; rfl]; rfl))
        · try simp only [Bool.not_eq_true', Bool.not_eq_false', decide_eq_true_eq, decide_eq_false_iff_not] at g4_9
          try refine evd ?_
          refine grdA_split rfl (fun g4_12 => ?_) (fun g4_12 => ?_)
          · try simp only [Bool.not_eq_true', Bool.not_eq_false', decide_eq_true_eq, decide_eq_false_iff_not] at g4_12
            try refine evd ?_
            refine grdA_split rfl (fun g4_16 => ?_) (fun g4_16 => ?_)
            · try simp only [Bool.not_eq_true', Bool.not_eq_false', decide_eq_true_eq, decide_eq_false_iff_not] at g4_16
              try refine evd ?_
              exact hK7 _ (anyS (h := by rw [show mB' m = false from by unfold mB'; rw [show m.vals.all bitI = true from g4_3, show inI m.ret (-1) 1 = true from g4_9, g4_12, decide_eq_true g4_16]; rfl]; rfl))
            · try simp only [Bool.not_eq_true', Bool.not_eq_false', decide_eq_true_eq, decide_eq_false_iff_not] at g4_16
              try refine evd ?_
              exact hK7 _ (anyS (h := by rw [show mB' m = !decide (0 < (m.vals.length : Int)) from (by unfold mB'; rw [show m.vals.all bitI = true from g4_3, show inI m.ret (-1) 1 = true from g4_9, g4_12, decide_eq_false (show ¬ m.ret < 0 by omega)]; simp), Bool.not_not]; rfl))
          · try simp only [Bool.not_eq_true', Bool.not_eq_false', decide_eq_true_eq, decide_eq_false_iff_not] at g4_12
            try refine evd ?_
            exact hK7 _ (anyS (h := by rw [show mB' m = true from by unfold mB'; rw [show m.vals.all bitI = true from g4_3, show inI m.ret (-1) 1 = true from g4_9, g4_12]; rfl]; rfl))
    rintro f7
    simp only [updT_k, updT_d, updT_d5, updT_v, updT_nil, Nat.reduceAdd]
    refine Wp.condS (fun h65 => ?_) (fun h65 => ?_)
    · refine Wp.seqK fun K8 hK8 => ?_
      refine rg ?_
      refine hK8 _ ?_
      clear hK8 K8
      refine Wp.ret (retV ?_)
      try simp only [List.getD_cons_zero, List.getD_cons_succ]
      show T _ = T (mOk m)
      unfold mOk
      rw [hA, h65]; rfl
    · have hB1 : mB' m = true := by simpa using h65
      refine Wp.skip ?_
      refine hK5 _ ?_
      clear hK5 K5
      refine Wp.seqK fun K9 hK9 => ?_
      refine rg ?_
      refine hK9 _ ?_
      clear hK9 K9
      refine Wp.seqK fun K10 hK10 => ?_
      refine Wp.seqK fun K11 hK11 => ?_
      refine rg ?_
      refine hK11 _ ?_
      clear hK11 K11
      refine Wp.block ?_
      refine Wp.loopU (α := Nat × Array MapEntry × Nat) (fun x => [.d, .k, .d, .d, .d, .k, .d5, .d5, .d5, .d5, .d5, .d5, .d5, .d5, .d5, .d5, .d5, .d5, .d, .d, .k, .k, .v (I (x.1 : Int)), .d5, .d5, .d5, .d5, .d5, .d5, .d5]) (fun x => [some ⟨0, mD m⟩, some ⟨0, [.mpc x.2.1 x.2.2]⟩]) (fun x => x.1 ≤ m.memo.length ∧ MapS E.P 142 x.2.1 x.2.2 x.1 (seenV m.memo x.1) ∧ memN m.memo x.1 = true) (fun x => m.memo.length - x.1) (0, #[], 0) (⟨Nat.zero_le _, mapS_nil, rfl⟩) (anyS) ?_
      rintro x f12 K12 ⟨hx, hm, hok⟩ hK12
      simp only [updT_k, updT_d, updT_d5, updT_v, updT_nil, Nat.reduceAdd]
      simp only [mD, mCells]
      refine Wp.seqK fun K13 hK13 => ?_
      refine rg ?_
      refine hK13 _ ?_
      clear hK13 K13
      refine Wp.seqK fun K14 hK14 => ?_
      refine Wp.condS (fun h71 => ?_) (fun h71 => ?_)
      · have hxl : x.1 < m.memo.length := by omega
        have hkx := hk _ (mem_getD (l := m.memo) (d := default) hxl)
        refine Wp.skip ?_
        refine hK14 _ ?_
        clear hK14 K14
        refine Wp.seqK fun K15 hK15 => ?_
        refine Wp.block ?_
        refine Wp.seqK fun K16 hK16 => ?_
        refine rg ?_
        refine hK16 _ ?_
        clear hK16 K16
        refine Wp.seqK fun K17 hK17 => ?_
        refine Wp.seqU0 [.d, .k, .d, .d, .d, .k, .d, .k, .d5, .d5, .d5, .d5, .d5, .d5, .d5, .d5, .d5, .d5, .d5, .d5, .k, .k, .k, .d5, .d5, .d5, .d, .d, .v (T (!(bitI (m.memo.getD x.1 default).ret && !seenB (m.memo.take x.1) (m.memo.getD x.1 default).key))), .d5, .d5, .d5, .d, .d] (fun K18 hK18 => ?_) ?_
        · refine rg ?_
          refine grdA_split rfl (fun g10_4 => ?_) (fun g10_4 => ?_)
          · try simp only [Bool.not_eq_true', Bool.not_eq_false', decide_eq_true_eq, decide_eq_false_iff_not] at g10_4
            try refine evd ?_
            refine grdA_split rfl (fun g10_9 => ?_) (fun g10_9 => ?_)
            · try simp only [Bool.not_eq_true', Bool.not_eq_false', decide_eq_true_eq, decide_eq_false_iff_not] at g10_9
              try refine evd ?_
              exact hK18 _ (anyS (h := by rw [show bitI (m.memo.getD x.1 default).ret = false from (by unfold bitI; exact decide_eq_false (by omega))]; rfl))
            · try simp only [Bool.not_eq_true', Bool.not_eq_false', decide_eq_true_eq, decide_eq_false_iff_not] at g10_9
              try refine evd ?_
              refine ⟨_, _, hm, ?_⟩
              try refine evd ?_
              exact hK18 _ (anyS (h := by rw [show bitI (m.memo.getD x.1 default).ret = true from (by unfold bitI; exact decide_eq_true (by omega)), seenV_pos, Bool.not_and, Bool.not_not]; rfl))
          · try simp only [Bool.not_eq_true', Bool.not_eq_false', decide_eq_true_eq, decide_eq_false_iff_not] at g10_4
            try refine evd ?_
            refine ⟨_, _, hm, ?_⟩
            try refine evd ?_
            exact hK18 _ (anyS (h := by rw [show bitI (m.memo.getD x.1 default).ret = true from (by unfold bitI; exact decide_eq_true (by omega)), seenV_pos, Bool.not_and, Bool.not_not]; rfl))
        rintro f18
        simp only [updT_k, updT_d, updT_d5, updT_v, updT_nil, Nat.reduceAdd]
        refine Wp.condS (fun h88 => ?_) (fun h88 => ?_)
        · refine Wp.seqK fun K19 hK19 => ?_
          refine rg ?_
          refine hK19 _ ?_
          clear hK19 K19
          refine Wp.ret (retV ?_)
          try simp only [List.getD_cons_zero, List.getD_cons_succ]
          show T _ = T (mOk m)
          unfold mOk
          rw [hA, hB1, show mC' m = false from memN_no ((memN_s hok).trans (by revert h88; exact id)) _ hxl]; rfl
        · refine Wp.skip ?_
          refine hK17 _ ?_
          clear hK17 K17
          refine rg ?_
          refine ⟨_, _, hm, ⟨by omega, by decide⟩, fun es2 cl2 hm2 => ?_⟩
          try refine evd ?_
          try simp only [thn, inB, if_true, reduceIte]
          refine hK15 _ ?_
          clear hK15 K15
          refine Wp.keepR 2 [] (by rw [hB]; simp) (by simp) (by simp) (by simp) ?_
          refine evd ?_
          refine rg ?_
          exact hK12 (x.1 + 1, es2, cl2) _ ⟨hxl, (seenV_s hxl ▸ hm2), by rw [memN_s hok, h88.1, h88.2]; rfl⟩ (by show m.memo.length - (x.1 + 1) < m.memo.length - x.1; omega) anyS
      · have hxl : x.1 = m.memo.length := by omega
        refine Wp.exit ?_
        try simp only [thn, inB, if_true, reduceIte]
        clear hK14 K14
        clear hK12 K12
        refine hK10 _ ?_
        clear hK10 K10
        refine Wp.seqK fun K20 hK20 => ?_
        refine rg ?_
        refine ⟨rfl, CallK.valA (h := isCount_c _) (k := ?_)⟩
        refine evd ?_
        refine grdA_split rfl (fun g14_4 => ?_) (fun g14_4 => ?_)
        · try simp only [decide_eq_true_eq, decide_eq_false_iff_not] at g14_4
          try refine evd ?_
          refine ⟨rfl, CallK.valA (h := isCount_c _) (k := ?_)⟩
          refine evd ?_
          refine grdA_split rfl (fun g14_9 => ?_) (fun g14_9 => ?_)
          · try simp only [decide_eq_true_eq, decide_eq_false_iff_not] at g14_9
            try refine evd ?_
            refine ⟨rfl, CallK.valA (h := isCount_c _) (k := ?_)⟩
            refine evd ?_
            refine hK20 _ ?_
            clear hK20 K20
            refine Wp.ret (retV ?_)
            try simp only [List.getD_cons_zero, List.getD_cons_succ]
            show T _ = T (mOk m)
            unfold mOk
            rw [hA, hB1, show mC' m = true from (by unfold mC'; rw [← hxl]; exact hok), Bool.true_and, Bool.true_and, Bool.true_and]
            unfold mD'
            rw [g14_4, g14_9, Bool.true_and]; try rfl
          · try simp only [decide_eq_true_eq, decide_eq_false_iff_not] at g14_9
            try refine evd ?_
            refine hK20 _ ?_
            clear hK20 K20
            refine Wp.ret (retV ?_)
            try simp only [List.getD_cons_zero, List.getD_cons_succ]
            show T _ = T (mOk m)
            unfold mOk
            rw [hA, hB1, show mC' m = true from (by unfold mC'; rw [← hxl]; exact hok), Bool.true_and, Bool.true_and, Bool.true_and]
            unfold mD'
            rw [g14_4, g14_9]; rfl
        · try simp only [decide_eq_true_eq, decide_eq_false_iff_not] at g14_4
          try refine evd ?_
          refine hK20 _ ?_
          clear hK20 K20
          refine Wp.ret (retV ?_)
          try simp only [List.getD_cons_zero, List.getD_cons_succ]
          show T _ = T (mOk m)
          unfold mOk
          rw [hA, hB1, show mC' m = true from (by unfold mC'; rw [← hxl]; exact hok), Bool.true_and, Bool.true_and, Bool.true_and]
          unfold mD'
          rw [g14_4]; rfl

def mS1 (m : Mc) : Bool := mA m && inI m.ret (-1) 1
def mS2 (m : Mc) : Bool := !(m.over && (decide (m.ret < 0) || decide (0 < m.vals.length))) && mD' m
theorem mOk_s (m : Mc) : mOk m = (mS1 m && mS2 m && m.vals.all bitI && mC' m) := by
  unfold mOk mS1 mS2 mB'
  cases mA m <;> cases m.vals.all bitI <;> cases inI m.ret (-1) 1 <;> cases mC' m <;> cases mD' m <;> simp
theorem bit_in (v : Int) : (decide (0 ≤ v) && decide (v ≤ 1)) = bitI v := by
  unfold bitI
  by_cases h : v = 0 ∨ v = 1
  · rw [decide_eq_true h, decide_eq_true (by omega), decide_eq_true (by omega)]; rfl
  · rw [decide_eq_false h]
    by_cases h0 : 0 ≤ v
    · rw [decide_eq_true h0, decide_eq_false (by omega)]; rfl
    · rw [decide_eq_false h0]; rfl
theorem bit_in' {v : Int} (h : 0 ≤ v ∧ v ≤ 1) : bitI v = true := by
  rw [← bit_in, decide_eq_true h.1, decide_eq_true h.2]; rfl
theorem allI_end {l : List Int} {x : Nat} (hx : x = l.length) (h : (l.take x).all bitI = true) : l.all bitI = true := by
  rw [hx, List.take_length] at h; exact h
theorem memN_bad {l : List Sn} {x : Nat} (hx : x < l.length) (h : memN l x = true) (hb : bitI (l.getD x default).ret = false) : memN l l.length = false :=
  memN_no ((memN_s h).trans (by rw [hb]; rfl)) _ hx
theorem memN_bad2 {l : List Sn} {x : Nat} (hx : x < l.length) (h : memN l x = true) (hb : seenB (l.take x) (l.getD x default).key = true) : memN l l.length = false :=
  memN_no ((memN_s h).trans (by rw [hb]; simp)) _ hx
theorem seenB_at {l : List Sn} {x y : Nat} (hx : x ≤ l.length) (hy : y < x) {k : ByteArray} (h : (l.getD y default).key = k) : seenB (l.take x) k = true := by
  unfold seenB
  refine List.any_eq_true.2 ⟨l.getD y default, ?_, decide_eq_true h⟩
  rw [← getD_at (d := default) (show y < l.length by omega)]
  exact List.mem_take_iff_getElem.2 ⟨y, by omega, rfl⟩
theorem sMachineOk_c (m : Mc) (hf : m.Fits) : Val E.P 50 [.agg (mD m)] (T (mOk m)) := by
  refine CallsA.body (E := E) (fn := Tryz.f50) Tryz.func50 rfl fun B hB => ?_
  simp only [Tryz.ntmps50, go_sem, nl, Nat.reduceSub, Nat.reduceAdd, List.reduceReplicate]
  have hr0 := hf.row
  have ho0 := hf.ones
  have hv0 := hf.vals
  have hm0 := hf.memo
  refine Wp.seqK fun K1 hK1 => ?_
  refine rg ?_
  refine hK1 _ ?_
  clear hK1 K1
  refine Wp.seqK fun K2 hK2 => ?_
  refine Wp.seqU0 [.d, .k, .d5, .d5, .d5, .d5, .d5, .d5, .d5, .d, .d, .d, .v (T (!mS1 m)), .d5, .d5, .d5, .d5, .d5, .d5, .d5, .d5, .d5, .d5, .d5, .d5, .d5, .d5, .d5, .d, .d, .d] (fun K3 hK3 => ?_) ?_
  · refine rg ?_
    refine ⟨rfl, CallK.valA (h := l08Ok_c _ _ _ (by omega)) (k := ?_)⟩
    refine evd ?_
    refine grdA_split rfl (fun g1_7 => ?_) (fun g1_7 => ?_)
    · try simp only [Bool.not_eq_true', Bool.not_eq_false', decide_eq_true_eq, decide_eq_false_iff_not] at g1_7
      try refine evd ?_
      exact hK3 _ (anyS (h := by rw [show mS1 m = false from by unfold mS1 mA; rw [show rowedB m.row m.n m.ones = false from g1_7]; rfl]; rfl))
    · try simp only [Bool.not_eq_true', Bool.not_eq_false', decide_eq_true_eq, decide_eq_false_iff_not] at g1_7
      try refine evd ?_
      refine ⟨rfl, CallK.valA (h := l01In_c _ _ _) (k := ?_)⟩
      refine evd ?_
      refine grdA_split rfl (fun g1_13 => ?_) (fun g1_13 => ?_)
      · try simp only [Bool.not_eq_true', Bool.not_eq_false', decide_eq_true_eq, decide_eq_false_iff_not] at g1_13
        try refine evd ?_
        exact hK3 _ (anyS (h := by rw [show mS1 m = false from by unfold mS1 mA; rw [show rowedB m.row m.n m.ones = true from g1_7, show inI m.room 0 40 = false from g1_13]; rfl]; rfl))
      · try simp only [Bool.not_eq_true', Bool.not_eq_false', decide_eq_true_eq, decide_eq_false_iff_not] at g1_13
        try refine evd ?_
        refine grdA_split rfl (fun g1_21 => ?_) (fun g1_21 => ?_)
        · try simp only [Bool.not_eq_true', Bool.not_eq_false', decide_eq_true_eq, decide_eq_false_iff_not] at g1_21
          try refine evd ?_
          exact hK3 _ (anyS (h := by rw [show mS1 m = false from by unfold mS1 mA; rw [show rowedB m.row m.n m.ones = true from g1_7, show inI m.room 0 40 = true from g1_13, decide_eq_false (by omega)]; rfl]; rfl))
        · try simp only [Bool.not_eq_true', Bool.not_eq_false', decide_eq_true_eq, decide_eq_false_iff_not] at g1_21
          try refine evd ?_
          refine grdA_split rfl (fun g1_30 => ?_) (fun g1_30 => ?_)
          · try simp only [Bool.not_eq_true', Bool.not_eq_false', decide_eq_true_eq, decide_eq_false_iff_not] at g1_30
            try refine evd ?_
            exact hK3 _ (anyS (h := by rw [show mS1 m = false from by unfold mS1 mA; rw [show rowedB m.row m.n m.ones = true from g1_7, show inI m.room 0 40 = true from g1_13, decide_eq_true (show (m.memo.length : Int) ≤ m.room by omega), decide_eq_false (by omega)]; rfl]; rfl))
          · try simp only [Bool.not_eq_true', Bool.not_eq_false', decide_eq_true_eq, decide_eq_false_iff_not] at g1_30
            try refine evd ?_
            refine ⟨rfl, CallK.valA (h := l01In_c _ _ _) (k := ?_)⟩
            refine evd ?_
            exact hK3 _ (anyS (h := by rw [show mS1 m = inI m.ret (-1) 1 from by unfold mS1 mA; rw [show rowedB m.row m.n m.ones = true from g1_7, show inI m.room 0 40 = true from g1_13, decide_eq_true (show (m.memo.length : Int) ≤ m.room by omega), decide_eq_true (show (m.vals.length : Int) ≤ m.n by omega)]; rfl]; rfl))
  rintro f3
  simp only [updT_k, updT_d, updT_d5, updT_v, updT_nil, Nat.reduceAdd]
  refine Wp.condS (fun h40 => ?_) (fun h40 => ?_)
  · refine Wp.seqK fun K4 hK4 => ?_
    refine rg ?_
    refine hK4 _ ?_
    clear hK4 K4
    refine Wp.ret (retV ?_)
    try simp only [List.getD_cons_zero, List.getD_cons_succ]
    show T _ = T (mOk m)
    rw [mOk_s]
    rw [h40]; rfl
  · have hS1 : mS1 m = true := h40
    refine Wp.skip ?_
    refine hK2 _ ?_
    clear hK2 K2
    refine Wp.seqK fun K5 hK5 => ?_
    refine Wp.seqU0 [.d, .k, .d5, .d5, .d5, .d5, .d5, .d5, .d5, .d5, .d5, .d5, .d5, .d5, .d5, .d, .d, .d, .d, .v (T (!mS2 m)), .d5, .d5, .d5, .d5, .d5, .d5, .d5, .d5, .d5, .d, .d] (fun K6 hK6 => ?_) ?_
    · refine rg ?_
      refine grdA_split rfl (fun g3_3 => ?_) (fun g3_3 => ?_)
      · try simp only [Bool.not_eq_true', Bool.not_eq_false', decide_eq_true_eq, decide_eq_false_iff_not] at g3_3
        try refine evd ?_
        refine grdA_split rfl (fun g3_7 => ?_) (fun g3_7 => ?_)
        · try simp only [Bool.not_eq_true', Bool.not_eq_false', decide_eq_true_eq, decide_eq_false_iff_not] at g3_7
          try refine evd ?_
          exact hK6 _ (anyS (h := by rw [show mS2 m = false from by unfold mS2 mD'; rw [g3_3, decide_eq_true g3_7]; rfl]; rfl))
        · try simp only [Bool.not_eq_true', Bool.not_eq_false', decide_eq_true_eq, decide_eq_false_iff_not] at g3_7
          try refine evd ?_
          refine grdA_split rfl (fun g3_14 => ?_) (fun g3_14 => ?_)
          · try simp only [Bool.not_eq_true', Bool.not_eq_false', decide_eq_true_eq, decide_eq_false_iff_not] at g3_14
            try refine evd ?_
            exact hK6 _ (anyS (h := by rw [show mS2 m = false from by unfold mS2 mD'; rw [g3_3, decide_eq_true (show 0 < m.vals.length by omega)]; simp]; rfl))
          · try simp only [Bool.not_eq_true', Bool.not_eq_false', decide_eq_true_eq, decide_eq_false_iff_not] at g3_14
            try refine evd ?_
            refine ⟨rfl, CallK.valA (h := l01In_c _ _ _) (k := ?_)⟩
            refine evd ?_
            refine grdA_split rfl (fun g3_20 => ?_) (fun g3_20 => ?_)
            · try simp only [Bool.not_eq_true', Bool.not_eq_false', decide_eq_true_eq, decide_eq_false_iff_not] at g3_20
              try refine evd ?_
              exact hK6 _ (anyS (h := by rw [show mS2 m = false from by unfold mS2 mD'; rw [g3_3, decide_eq_false (show ¬ m.ret < 0 by omega), decide_eq_false (show ¬ 0 < m.vals.length by omega), show cntB m.steps = false from g3_20]; rfl]; rfl))
            · try simp only [Bool.not_eq_true', Bool.not_eq_false', decide_eq_true_eq, decide_eq_false_iff_not] at g3_20
              try refine evd ?_
              refine ⟨rfl, CallK.valA (h := l01In_c _ _ _) (k := ?_)⟩
              refine evd ?_
              refine grdA_split rfl (fun g3_26 => ?_) (fun g3_26 => ?_)
              · try simp only [Bool.not_eq_true', Bool.not_eq_false', decide_eq_true_eq, decide_eq_false_iff_not] at g3_26
                try refine evd ?_
                exact hK6 _ (anyS (h := by rw [show mS2 m = false from by unfold mS2 mD'; rw [g3_3, decide_eq_false (show ¬ m.ret < 0 by omega), decide_eq_false (show ¬ 0 < m.vals.length by omega), show cntB m.steps = true from g3_20, show cntB m.looks = false from g3_26]; rfl]; rfl))
              · try simp only [Bool.not_eq_true', Bool.not_eq_false', decide_eq_true_eq, decide_eq_false_iff_not] at g3_26
                try refine evd ?_
                refine ⟨rfl, CallK.valA (h := l01In_c _ _ _) (k := ?_)⟩
                refine evd ?_
                exact hK6 _ (anyS (h := by rw [show mS2 m = cntB m.hits from by unfold mS2 mD'; rw [g3_3, decide_eq_false (show ¬ m.ret < 0 by omega), decide_eq_false (show ¬ 0 < m.vals.length by omega), show cntB m.steps = true from g3_20, show cntB m.looks = true from g3_26]; rfl]; rfl))
      · try simp only [Bool.not_eq_true', Bool.not_eq_false', decide_eq_true_eq, decide_eq_false_iff_not] at g3_3
        try refine evd ?_
        refine ⟨rfl, CallK.valA (h := l01In_c _ _ _) (k := ?_)⟩
        refine evd ?_
        refine grdA_split rfl (fun g3_20 => ?_) (fun g3_20 => ?_)
        · try simp only [Bool.not_eq_true', Bool.not_eq_false', decide_eq_true_eq, decide_eq_false_iff_not] at g3_20
          try refine evd ?_
          exact hK6 _ (anyS (h := by rw [show mS2 m = false from by unfold mS2 mD'; rw [g3_3, show cntB m.steps = false from g3_20]; rfl]; rfl))
        · try simp only [Bool.not_eq_true', Bool.not_eq_false', decide_eq_true_eq, decide_eq_false_iff_not] at g3_20
          try refine evd ?_
          refine ⟨rfl, CallK.valA (h := l01In_c _ _ _) (k := ?_)⟩
          refine evd ?_
          refine grdA_split rfl (fun g3_26 => ?_) (fun g3_26 => ?_)
          · try simp only [Bool.not_eq_true', Bool.not_eq_false', decide_eq_true_eq, decide_eq_false_iff_not] at g3_26
            try refine evd ?_
            exact hK6 _ (anyS (h := by rw [show mS2 m = false from by unfold mS2 mD'; rw [g3_3, show cntB m.steps = true from g3_20, show cntB m.looks = false from g3_26]; rfl]; rfl))
          · try simp only [Bool.not_eq_true', Bool.not_eq_false', decide_eq_true_eq, decide_eq_false_iff_not] at g3_26
            try refine evd ?_
            refine ⟨rfl, CallK.valA (h := l01In_c _ _ _) (k := ?_)⟩
            refine evd ?_
            exact hK6 _ (anyS (h := by rw [show mS2 m = cntB m.hits from by unfold mS2 mD'; rw [g3_3, show cntB m.steps = true from g3_20, show cntB m.looks = true from g3_26]; rfl]; rfl))
    rintro f6
    simp only [updT_k, updT_d, updT_d5, updT_v, updT_nil, Nat.reduceAdd]
    refine Wp.condS (fun h71 => ?_) (fun h71 => ?_)
    · refine Wp.seqK fun K7 hK7 => ?_
      refine rg ?_
      refine hK7 _ ?_
      clear hK7 K7
      refine Wp.ret (retV ?_)
      try simp only [List.getD_cons_zero, List.getD_cons_succ]
      show T _ = T (mOk m)
      rw [mOk_s]
      rw [hS1, h71]; rfl
    · have hS2 : mS2 m = true := h71
      refine Wp.skip ?_
      refine hK5 _ ?_
      clear hK5 K5
      refine Wp.seqK fun K8 hK8 => ?_
      refine Wp.seqK fun K9 hK9 => ?_
      refine rg ?_
      refine hK9 _ ?_
      clear hK9 K9
      refine Wp.block ?_
      refine Wp.loopU0 (α := Nat) (fun x => [.d, .k, .d, .v (I x), .d5, .d5, .d5, .d5, .d5, .d5, .d5, .d5, .d5, .d5, .d5, .d5, .d5, .d5, .d5, .d5, .d5, .d5, .d5, .d5, .d5, .d5, .d5]) (fun x => x ≤ m.vals.length ∧ (m.vals.take x).all bitI = true) (fun x => m.vals.length - x) 0 (⟨Nat.zero_le _, rfl⟩) anyS ?_
      rintro x f10 K10 ⟨hx, ha⟩ hK10
      simp only [updT_k, updT_d, updT_d5, updT_v, updT_nil, Nat.reduceAdd]
      refine Wp.seqK fun K11 hK11 => ?_
      refine Wp.seqK fun K12 hK12 => ?_
      refine rg ?_
      refine hK12 _ ?_
      clear hK12 K12
      refine Wp.condS (fun h76 => ?_) (fun h76 => ?_)
      · have hxl : x < m.vals.length := by omega
        refine Wp.skip ?_
        refine hK11 _ ?_
        clear hK11 K11
        refine Wp.seqK fun K13 hK13 => ?_
        refine Wp.block ?_
        refine Wp.seqK fun K14 hK14 => ?_
        refine rg ?_
        refine ⟨rfl, CallK.valA (h := l01In_c _ _ _) (k := ?_)⟩
        refine evd ?_
        refine hK14 _ ?_
        clear hK14 K14
        refine Wp.condS (fun h85 => ?_) (fun h85 => ?_)
        · have hb : bitI (m.vals.getD x 0) = false := by rw [← bit_in]; exact h85
          refine Wp.seqK fun K15 hK15 => ?_
          refine rg ?_
          refine hK15 _ ?_
          clear hK15 K15
          refine Wp.ret (retV ?_)
          try simp only [List.getD_cons_zero, List.getD_cons_succ]
          show T _ = T (mOk m)
          rw [mOk_s]
          rw [hS1, hS2, allI_no hxl hb]; rfl
        · have hb : bitI (m.vals.getD x 0) = true := bit_in' h85
          refine Wp.skip ?_
          try simp only [thn, inB, if_true, reduceIte]
          refine hK13 _ ?_
          clear hK13 K13
          refine rg ?_
          exact hK10 (x + 1) _ ⟨hxl, allI_push hxl ha hb⟩ (by omega) anyS
      · have hxl : x = m.vals.length := by omega
        have hV := allI_end hxl ha
        refine Wp.exit ?_
        try simp only [thn, inB, if_true, reduceIte]
        clear hK11 K11
        clear hK10 K10
        refine hK8 _ ?_
        clear hK8 K8
        refine Wp.seqK fun K16 hK16 => ?_
        refine Wp.seqK fun K17 hK17 => ?_
        refine rg ?_
        refine hK17 _ ?_
        clear hK17 K17
        refine Wp.block ?_
        refine Wp.loopU0 (α := Nat) (fun i => [.d, .k, .d, .d, .v (I i), .d5, .d5, .d5, .d5, .d5, .d5, .d5, .d5, .d5, .d5, .d5, .d5, .d5, .d5, .d5, .d5, .d5, .d5, .d5, .d5, .d5, .d5, .d, .d, .d, .d]) (fun i => i ≤ m.memo.length ∧ memN m.memo i = true) (fun i => m.memo.length - i) 0 (⟨Nat.zero_le _, rfl⟩) anyS ?_
        rintro i f18 K18 ⟨hi, hok⟩ hK18
        simp only [updT_k, updT_d, updT_d5, updT_v, updT_nil, Nat.reduceAdd]
        refine Wp.seqK fun K19 hK19 => ?_
        refine Wp.seqK fun K20 hK20 => ?_
        refine rg ?_
        refine hK20 _ ?_
        clear hK20 K20
        refine Wp.condS (fun h90 => ?_) (fun h90 => ?_)
        · have hil : i < m.memo.length := by omega
          refine Wp.skip ?_
          refine hK19 _ ?_
          clear hK19 K19
          refine Wp.seqK fun K21 hK21 => ?_
          refine Wp.block ?_
          refine Wp.seqK fun K22 hK22 => ?_
          refine Wp.seqK fun K23 hK23 => ?_
          refine rg ?_
          refine ⟨rfl, CallK.valA (h := l01In_c _ _ _) (k := ?_)⟩
          refine evd ?_
          refine hK23 _ ?_
          clear hK23 K23
          refine Wp.condS (fun h100 => ?_) (fun h100 => ?_)
          · have hb : bitI (m.memo.getD i default).ret = false := by rw [← bit_in]; exact h100
            refine Wp.seqK fun K24 hK24 => ?_
            refine rg ?_
            refine hK24 _ ?_
            clear hK24 K24
            refine Wp.ret (retV ?_)
            try simp only [List.getD_cons_zero, List.getD_cons_succ]
            show T _ = T (mOk m)
            rw [mOk_s]
            rw [hS1, hS2, hV, show mC' m = false from memN_bad hil hok hb]; rfl
          · have hb : bitI (m.memo.getD i default).ret = true := bit_in' h100
            refine Wp.skip ?_
            refine hK22 _ ?_
            clear hK22 K22
            refine Wp.seqK fun K25 hK25 => ?_
            refine rg ?_
            refine hK25 _ ?_
            clear hK25 K25
            refine Wp.block ?_
            refine Wp.loopU0 (α := Nat) (fun y => [.d, .k, .d, .d, .k, .v (I y), .d5, .d5, .d5, .d5, .d5, .d5, .d5, .d5, .d5, .d5, .d5, .d5, .d5, .d5, .d5, .d5, .d5, .d5, .d5, .d5, .d5, .d5, .d, .d, .d]) (fun y => y ≤ i ∧ seenB (m.memo.take y) (m.memo.getD i default).key = false) (fun y => i - y) 0 (⟨Nat.zero_le _, rfl⟩) anyS ?_
            rintro y f26 K26 ⟨hy, hse⟩ hK26
            simp only [updT_k, updT_d, updT_d5, updT_v, updT_nil, Nat.reduceAdd]
            refine Wp.seqK fun K27 hK27 => ?_
            refine Wp.seqK fun K28 hK28 => ?_
            refine rg ?_
            refine hK28 _ ?_
            clear hK28 K28
            refine Wp.condS (fun h103 => ?_) (fun h103 => ?_)
            · have hyl : y < i := by omega
              refine Wp.skip ?_
              refine hK27 _ ?_
              clear hK27 K27
              refine Wp.seqK fun K29 hK29 => ?_
              refine Wp.block ?_
              refine Wp.seqK fun K30 hK30 => ?_
              refine Wp.drawI [0, 1, 2, 3, 4, 5, 6, 7] [] (by kernel_rfl) ?_
              refine evd ?_
              refine hK30 _ ?_
              clear hK30 K30
              refine Wp.condS (fun h118 => ?_) (fun h118 => ?_)
              · refine Wp.seqK fun K31 hK31 => ?_
                refine rg ?_
                refine hK31 _ ?_
                clear hK31 K31
                refine Wp.ret (retV ?_)
                try simp only [List.getD_cons_zero, List.getD_cons_succ]
                show T _ = T (mOk m)
                rw [mOk_s]
                rw [hS1, hS2, hV, show mC' m = false from memN_bad2 hil hok (seenB_at (by omega) hyl h118)]; rfl
              · refine Wp.skip ?_
                try simp only [thn, inB, if_true, reduceIte]
                refine hK29 _ ?_
                clear hK29 K29
                refine rg ?_
                exact hK26 (y + 1) _ ⟨hyl, by rw [seenB_s (by omega), hse, decide_eq_false (by assumption)]; rfl⟩ (by omega) anyS
            · have hyl : i = y := by omega
              subst hyl
              refine Wp.exit ?_
              try simp only [thn, inB, if_true, reduceIte]
              clear hK27 K27
              clear hK26 K26
              try simp only [thn, inB, if_true, reduceIte]
              refine hK21 _ ?_
              clear hK21 K21
              refine rg ?_
              exact hK18 (i + 1) _ ⟨hil, by rw [memN_s hok, hb, hse]; rfl⟩ (by omega) anyS
        · have hil : i = m.memo.length := by omega
          have hC : mC' m = true := by unfold mC'; rw [← hil]; exact hok
          refine Wp.exit ?_
          try simp only [thn, inB, if_true, reduceIte]
          clear hK19 K19
          clear hK18 K18
          refine hK16 _ ?_
          clear hK16 K16
          refine Wp.seqK fun K32 hK32 => ?_
          refine rg ?_
          refine hK32 _ ?_
          clear hK32 K32
          refine Wp.ret (retV ?_)
          try simp only [List.getD_cons_zero, List.getD_cons_succ]
          show T _ = T (mOk m)
          rw [mOk_s]
          rw [hS1, hS2, hV, hC]; rfl
end Go.Proofs.YtonacngeaknlcaaGreatDoor.RE
