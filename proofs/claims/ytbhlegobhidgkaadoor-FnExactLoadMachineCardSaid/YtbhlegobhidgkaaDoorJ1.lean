/- Machines and jobs in the laws. Conditions: those that a theorem names. -/
import Derived.Test.YtbhlegobhidgkaaDoorD1
import Derived.Test.YtbhlegobhidgkaaDoorE5
set_option linter.unusedVariables false
set_option linter.unusedSimpArgs false
namespace Go.Proofs.YtbhlegobhidgkaaDoor.RE
open Go Go.RowKit
set_option maxRecDepth 100000
set_option maxHeartbeats 8000000

/-! ### Machines and jobs -/
structure Mc where
  row : List Bool
  n : Int
  ones : ByteArray
  room : Int
  vals : List Int
  ret : Int
  over : Bool
  steps : Int
  looks : Int
  hits : Int
  memo : List Sn
deriving DecidableEq
instance : Inhabited Mc := ⟨⟨[], 0, ⟨#[]⟩, 0, [], 0, false, 0, 0, 0, []⟩⟩
structure Jb where
  state : Int
  m : Mc
  journal : ByteArray
  synced : Int
deriving DecidableEq
def mCells (r v s : LV) (m : Mc) : List LV := [r, .sc (.int .i64 m.n), .sc (.string m.ones), .sc (.int .i64 m.room), v, .sc (.int .i64 m.ret), .sc (.bool m.over), .sc (.int .i64 m.steps), .sc (.int .i64 m.looks), .sc (.int .i64 m.hits), s]
def mD (m : Mc) : List LV := mCells (.dsl true m.row.length (encB m.row)) (.dsl true m.vals.length (encI m.vals)) (.dsl true m.memo.length (encS m.memo)) m
def mO (a b c : Nat) (m : Mc) : List LV := mCells (.obj a 0 1 0 m.row.length) (.obj b 0 1 0 m.vals.length) (.obj c 0 2 0 m.memo.length) m
def mR (m : Mc) : Obs := [some ⟨0, m.row.map cb⟩, some ⟨0, m.vals.map ci⟩, some ⟨0, lS m.memo⟩]
def jCells (c : List LV) (j : Jb) : List LV := .sc (.int .i64 j.state) :: (c ++ [.sc (.string j.journal), .sc (.int .i64 j.synced)])
def jD (j : Jb) : List LV := jCells (mD j.m) j
def jO (a b c : Nat) (j : Jb) : List LV := jCells (mO a b c j.m) j
attribute [go_sem] mD mO mR mCells jD jO jCells sn List.append_assoc
theorem zeroS (n : Nat) : (List.replicate n [LV.sc (.string ⟨#[]⟩), .sc (.int .i64 0)]).flatten = lS (List.replicate n default) := by
  unfold lS
  rw [List.flatMap_replicate]
  rfl
theorem zeroB (n : Nat) : (List.replicate n [LV.sc (.bool false)]).flatten = (List.replicate n false).map cb := by
  induction n with
  | zero => rfl
  | succ n ih => rw [List.replicate_succ, List.flatten_cons, ih]; rfl
theorem zeroI (n : Nat) : (List.replicate n [LV.sc (.int .i64 0)]).flatten = (List.replicate n (0 : Int)).map ci := by
  induction n with
  | zero => rfl
  | succ n ih => rw [List.replicate_succ, List.flatten_cons, ih]; rfl
theorem zeroT (n : Nat) : (List.replicate n [LV.sc (.string ⟨#[]⟩)]).flatten = (List.replicate n (⟨#[]⟩ : ByteArray)).map ct := by
  induction n with
  | zero => rfl
  | succ n ih => rw [List.replicate_succ, List.flatten_cons, ih]; rfl
/-- A row whose first x are those of t. -/
def mix {α : Type} (t : List α) (d : α) (x : Nat) : List α := t.take x ++ List.replicate (t.length - x) d
theorem mix_len {α : Type} (t : List α) (d : α) {x : Nat} (h : x ≤ t.length) : (mix t d x).length = t.length := by simp [mix]; omega
theorem mix_set {α : Type} (t : List α) (d d' : α) {x : Nat} (h : x < t.length) : (mix t d x).set x (t.getD x d') = mix t d (x + 1) := by
  unfold mix
  rw [List.set_append_right _ _ (by simp; omega), take_push d' h, List.append_assoc]
  congr 1
  rw [show t.length - x = (t.length - (x + 1)) + 1 by omega, List.replicate_succ]
  simp [show min x t.length = x by omega]
theorem mix_end {α : Type} (t : List α) (d : α) : mix t d t.length = t := by simp [mix]
theorem mix_0 {α : Type} (t : List α) (d : α) : mix t d 0 = List.replicate t.length d := by simp [mix]
/-- Rows are answered in a record or a list. -/
theorem retL {fn : Func} {n : Nat} {st : St} (π : List Nat) {x x' : AV} {ob' : Obs} (h : resA st.tm st.ob E fn.results.toList = some x) (hn : n ≤ st.ob.length) (hd : π.Nodup) (hq : ∀ q ∈ π, n ≤ q) (hx : x.ren (keepM n π st.ob) = x') (hob : keepO n π st.ob = ob') :
    retQ E fn n (fun r ob => r = x' ∧ ob = ob') .ret st := ⟨x, π, h, hn, hd, hq, hx, hob⟩
theorem keepM_in {n : Nat} {π : List Nat} {ob : Obs} {o g i : Nat} {x : Ob} (hn : ¬ o < n) (hi : π.idxOf? o = some i) (hx : ob.getD o none = some x) (hg : x.g = g) : keepM n π ob o g = some (n + i, 0) := by
  unfold keepM
  rw [if_neg hn, hi, hx]
  simp only [hg, if_true]
theorem mR_flat (m : Mc) : obFlat (mR m) = true := by
  simp only [mR, obFlat, List.all_cons, List.all_nil, flatB, flatI, lS_flat, Bool.and_true]
/-! ### Sizes -/
def szL (n : Nat) (l : Int) : Int := if l - n < 0 then -1 else l - n
def szK : List Sn → Int → Int
  | [], l => l
  | s :: r, l => if l - s.key.size < 0 then -1 else szK r (l - s.key.size)
def szS (t : List Sn) (l : Int) : Int := if l - t.length < 0 then -1 else szK t (l - t.length)
def szM (m : Mc) (l : Int) : Int :=
  if szL m.row.length l < 0 then -1 else if szL m.ones.size (szL m.row.length l) < 0 then -1 else if szL m.vals.length (szL m.ones.size (szL m.row.length l)) < 0 then -1 else
  if szS m.memo (szL m.vals.length (szL m.ones.size (szL m.row.length l))) < 0 then -1 else szS m.memo (szL m.vals.length (szL m.ones.size (szL m.row.length l)))
def szJ (j : Jb) (l : Int) : Int := if szM j.m l < 0 then -1 else szL j.journal.size (szM j.m l)
theorem szL_le {n : Nat} {l : Int} (h : 0 ≤ szL n l) : (n : Int) ≤ l ∧ szL n l ≤ l := by
  unfold szL at *
  split at h
  · omega
  · rw [if_neg (by assumption)]; omega
theorem szL_lb (n : Nat) (l : Int) : -1 ≤ szL n l := by
  unfold szL
  split <;> omega
theorem szK_lb : ∀ (t : List Sn) (l : Int), -1 ≤ l → -1 ≤ szK t l
  | [], l, h => h
  | s :: r, l, h => by
    simp only [szK]
    split
    · omega
    · exact szK_lb r _ (by omega)
theorem szS_lb (t : List Sn) (l : Int) : -1 ≤ szS t l := by
  unfold szS
  split
  · omega
  · exact szK_lb _ _ (by omega)
theorem szK_le : ∀ {t : List Sn} {l : Int}, 0 ≤ szK t l → szK t l ≤ l ∧ ∀ s ∈ t, (s.key.size : Int) ≤ l
  | [], l, h => ⟨Int.le_refl _, fun s h => by cases h⟩
  | s :: r, l, h => by
    simp only [szK] at h ⊢
    split at h
    · omega
    · rename_i hn
      rw [if_neg hn]
      obtain ⟨h1, h2⟩ := szK_le h
      refine ⟨by omega, fun x hx => ?_⟩
      rcases List.mem_cons.1 hx with rfl | hx
      · omega
      · have := h2 x hx; omega
theorem szS_le {t : List Sn} {l : Int} (h : 0 ≤ szS t l) : (t.length : Int) ≤ l ∧ szS t l ≤ l ∧ ∀ s ∈ t, (s.key.size : Int) ≤ l := by
  unfold szS at *
  split at h
  · omega
  · rename_i hn
    rw [if_neg hn]
    obtain ⟨h1, h2⟩ := szK_le h
    exact ⟨by omega, by omega, fun s hs => by have := h2 s hs; omega⟩
/-- A machine that is no greater than a machine may be. -/
structure Mc.Fits (m : Mc) : Prop where
  row : m.row.length ≤ 1048576
  ones : m.ones.size ≤ 1048576
  vals : m.vals.length ≤ 1048576
  memo : m.memo.length ≤ 1048576
  keys : ∀ s ∈ m.memo, s.key.size ≤ 1048576
theorem szM_le {m : Mc} {l : Int} (hl : l ≤ 1048576) (h : 0 ≤ szM m l) : m.Fits ∧ szM m l ≤ l := by
  unfold szM at *
  split at h
  · omega
  rename_i h1
  split at h
  · omega
  rename_i h2
  split at h
  · omega
  rename_i h3
  split at h
  · omega
  rename_i h4
  rw [if_neg h1, if_neg h2, if_neg h3, if_neg h4]
  have a1 := szL_le (Int.not_lt.1 h1)
  have a2 := szL_le (Int.not_lt.1 h2)
  have a3 := szL_le (Int.not_lt.1 h3)
  have a4 := szS_le (Int.not_lt.1 h4)
  exact ⟨⟨by omega, by omega, by omega, by omega, fun s hs => by have := a4.2.2 s hs; omega⟩, by omega⟩
theorem szJ_le {j : Jb} {l : Int} (hl : l ≤ 1048576) (h : 0 ≤ szJ j l) : j.m.Fits ∧ j.journal.size ≤ 1048576 := by
  unfold szJ at h
  split at h
  · omega
  rename_i h1
  have a1 := szM_le hl (Int.not_lt.1 h1)
  have a2 := szL_le h
  exact ⟨a1.1, by omega⟩
theorem szK_step {t : List Sn} {x : Nat} (hx : x < t.length) (c : Int) : szK (t.drop x) c = if szL (t.getD x default).key.size c < 0 then -1 else szK (t.drop (x + 1)) (szL (t.getD x default).key.size c) := by
  rw [List.drop_eq_getElem_cons hx, szK, getD_at (d := default) hx]
  unfold szL
  by_cases h : c - (t.getD x default).key.size < 0
  · rw [if_pos h, if_pos h, if_pos (by omega)]
  · rw [if_neg h, if_neg h, if_neg h]
theorem szM_lb (m : Mc) (l : Int) : -1 ≤ szM m l := by
  unfold szM
  have := szS_lb m.memo (szL m.vals.length (szL m.ones.size (szL m.row.length l)))
  repeat' split
  all_goals omega
theorem szM_max (m : Mc) (l : Int) (h : l ≤ 1048576) : szM m l ≤ 1048576 := by
  by_cases h0 : 0 ≤ szM m l
  · have := szM_le h h0; omega
  · omega
/-! ### Equal to itself -/
theorem eqBoolS_c (t : List Bool) (ht : t.length ≤ 1048576) : Val E.P 52 [dB t, dB t] (T true) := by
  refine CallsA.body (E := E) (fn := Tryd.f52) Tryd.func52 rfl fun B hB => ?_
  simp only [Tryd.ntmps52, go_sem, nl, Nat.reduceSub, Nat.reduceAdd, List.reduceReplicate]
  refine Wp.seqK fun K1 hK1 => ?_
  refine rg ?_
  refine hK1 _ ?_
  clear hK1 K1
  refine Wp.seqK fun K2 hK2 => ?_
  refine Wp.seqK fun K3 hK3 => ?_
  refine rg ?_
  refine hK3 _ ?_
  clear hK3 K3
  refine Wp.condS (fun h10 => ?_) (fun h10 => ?_)
  · first | exact h10.elim | exact absurd h10 (by decide) | omega | simp at h10
  · refine Wp.skip ?_
    refine hK2 _ ?_
    clear hK2 K2
    refine Wp.seqK fun K4 hK4 => ?_
    refine Wp.seqK fun K5 hK5 => ?_
    refine rg ?_
    refine hK5 _ ?_
    clear hK5 K5
    refine Wp.block ?_
    refine Wp.loopU0 (α := Nat) (fun x => [.k, .k, .d, .d, .d, .v (I x), .d5, .d5, .d5, .d5]) (fun x => x ≤ t.length) (fun x => t.length - x) 0 (Nat.zero_le _) anyS ?_
    rintro x f6 K6 hx hK6
    simp only [updT_k, updT_d, updT_d5, updT_v, updT_nil, Nat.reduceAdd]
    refine Wp.seqK fun K7 hK7 => ?_
    refine Wp.seqK fun K8 hK8 => ?_
    refine rg ?_
    refine hK8 _ ?_
    clear hK8 K8
    refine Wp.condS (fun h14 => ?_) (fun h14 => ?_)
    · have hxl : x < t.length := by omega
      refine Wp.skip ?_
      refine hK7 _ ?_
      clear hK7 K7
      refine Wp.seqK fun K9 hK9 => ?_
      refine Wp.block ?_
      refine Wp.seqK fun K10 hK10 => ?_
      refine Wp.drawI [0, 1, 2, 3, 4, 5, 6, 7] [] (by kernel_rfl) ?_
      refine evd ?_
      refine hK10 _ ?_
      clear hK10 K10
      refine Wp.condS (fun h25 => ?_) (fun h25 => ?_)
      · simp at h25
      · refine Wp.skip ?_
        try simp only [thn, inB, if_true, reduceIte]
        refine hK9 _ ?_
        clear hK9 K9
        refine rg ?_
        refine hK6 (x + 1) _ ?_ ?_ anyS <;> omega
    · have hxl : x = t.length := by omega
      refine Wp.exit ?_
      try simp only [thn, inB, if_true, reduceIte]
      clear hK7 K7
      clear hK6 K6
      refine hK4 _ ?_
      clear hK4 K4
      refine Wp.seqK fun K11 hK11 => ?_
      refine rg ?_
      refine hK11 _ ?_
      clear hK11 K11
      refine Wp.ret (retV ?_)
      try simp only [List.getD_cons_zero, List.getD_cons_succ]
theorem eqSeen_c (s : Sn) : Val E.P 90 [.agg (sl s), .agg (sl s)] (T true) := by
  refine CallsA.body (E := E) (fn := Tryd.f90) Tryd.func90 rfl fun B hB => ?_
  simp only [Tryd.ntmps90, go_sem, nl, Nat.reduceSub, Nat.reduceAdd, List.reduceReplicate]
  refine Wp.seqK fun K1 hK1 => ?_
  refine rg ?_
  refine hK1 _ ?_
  clear hK1 K1
  refine Wp.seqK fun K2 hK2 => ?_
  refine Wp.seqK fun K3 hK3 => ?_
  refine rg ?_
  refine hK3 _ ?_
  clear hK3 K3
  refine Wp.condS (fun h9 => ?_) (fun h9 => ?_)
  · first | exact h9.elim | exact absurd h9 (by decide) | omega | simp at h9
  · refine Wp.skip ?_
    refine hK2 _ ?_
    clear hK2 K2
    refine Wp.seqK fun K4 hK4 => ?_
    refine Wp.seqK fun K5 hK5 => ?_
    refine rg ?_
    refine hK5 _ ?_
    clear hK5 K5
    refine Wp.condS (fun h14 => ?_) (fun h14 => ?_)
    · first | exact h14.elim | exact absurd h14 (by decide) | omega | simp at h14
    · refine Wp.skip ?_
      refine hK4 _ ?_
      clear hK4 K4
      refine Wp.seqK fun K6 hK6 => ?_
      refine rg ?_
      refine hK6 _ ?_
      clear hK6 K6
      refine Wp.ret (retV ?_)
      try simp only [List.getD_cons_zero, List.getD_cons_succ]
theorem eqSeenS_c (t : List Sn) (ht : t.length ≤ 1048576) : Val E.P 55 [dS t, dS t] (T true) := by
  refine CallsA.body (E := E) (fn := Tryd.f55) Tryd.func55 rfl fun B hB => ?_
  simp only [Tryd.ntmps55, go_sem, nl, Nat.reduceSub, Nat.reduceAdd, List.reduceReplicate]
  refine Wp.seqK fun K1 hK1 => ?_
  refine rg ?_
  refine hK1 _ ?_
  clear hK1 K1
  refine Wp.seqK fun K2 hK2 => ?_
  refine Wp.seqK fun K3 hK3 => ?_
  refine rg ?_
  refine hK3 _ ?_
  clear hK3 K3
  refine Wp.condS (fun h10 => ?_) (fun h10 => ?_)
  · first | exact h10.elim | exact absurd h10 (by decide) | omega | simp at h10
  · refine Wp.skip ?_
    refine hK2 _ ?_
    clear hK2 K2
    refine Wp.seqK fun K4 hK4 => ?_
    refine Wp.seqK fun K5 hK5 => ?_
    refine rg ?_
    refine hK5 _ ?_
    clear hK5 K5
    refine Wp.block ?_
    refine Wp.loopU0 (α := Nat) (fun x => [.k, .k, .d, .d, .d, .v (I x), .d5, .d5, .d5, .d5, .d]) (fun x => x ≤ t.length) (fun x => t.length - x) 0 (Nat.zero_le _) anyS ?_
    rintro x f6 K6 hx hK6
    simp only [updT_k, updT_d, updT_d5, updT_v, updT_nil, Nat.reduceAdd]
    refine Wp.seqK fun K7 hK7 => ?_
    refine Wp.seqK fun K8 hK8 => ?_
    refine rg ?_
    refine hK8 _ ?_
    clear hK8 K8
    refine Wp.condS (fun h14 => ?_) (fun h14 => ?_)
    · have hxl : x < t.length := by omega
      refine Wp.skip ?_
      refine hK7 _ ?_
      clear hK7 K7
      refine Wp.seqK fun K9 hK9 => ?_
      refine Wp.block ?_
      refine Wp.seqK fun K10 hK10 => ?_
      refine Wp.drawI [0, 1, 2, 3, 4, 5, 6, 7] [8] (by kernel_rfl) ?_
      refine evd ?_
      refine ⟨rfl, CallK.valA (h := eqSeen_c _) (k := ?_)⟩
      refine evd ?_
      refine hK10 _ ?_
      clear hK10 K10
      refine Wp.condS (fun h26 => ?_) (fun h26 => ?_)
      · simp at h26
      · refine Wp.skip ?_
        try simp only [thn, inB, if_true, reduceIte]
        refine hK9 _ ?_
        clear hK9 K9
        refine rg ?_
        refine hK6 (x + 1) _ ?_ ?_ anyS <;> omega
    · have hxl : x = t.length := by omega
      refine Wp.exit ?_
      try simp only [thn, inB, if_true, reduceIte]
      clear hK7 K7
      clear hK6 K6
      refine hK4 _ ?_
      clear hK4 K4
      refine Wp.seqK fun K11 hK11 => ?_
      refine rg ?_
      refine hK11 _ ?_
      clear hK11 K11
      refine Wp.ret (retV ?_)
      try simp only [List.getD_cons_zero, List.getD_cons_succ]
theorem eqIntS_s (t : List Int) (ht : t.length ≤ 1048576) : Val E.P 54 [dI t, dI t] (T true) := by
  have h := eqIntS_c t t ht ht
  rw [decide_eq_true rfl] at h
  exact h
theorem eqTable_s (n : Int) (o : ByteArray) : Val E.P 53 [.agg (tb n o), .agg (tb n o)] (T true) := by
  have h := eqTable_c n n o o
  rw [decide_eq_true ⟨rfl, rfl⟩] at h
  exact h
theorem eqMachine_c (m : Mc) (h1 : m.row.length ≤ 1048576) (h2 : m.vals.length ≤ 1048576) (h3 : m.memo.length ≤ 1048576) : Val E.P 16 [.agg (mD m), .agg (mD m)] (T true) := by
  refine CallsA.body (E := E) (fn := Tryd.f16) Tryd.func16 rfl fun B hB => ?_
  simp only [Tryd.ntmps16, go_sem, nl, Nat.reduceSub, Nat.reduceAdd, List.reduceReplicate]
  refine Wp.seqK fun K1 hK1 => ?_
  refine rg ?_
  refine hK1 _ ?_
  clear hK1 K1
  refine Wp.seqK fun K2 hK2 => ?_
  refine Wp.seqK fun K3 hK3 => ?_
  refine rg ?_
  refine ⟨rfl, CallK.valA (h := eqBoolS_c _ (by omega)) (k := ?_)⟩
  refine evd ?_
  refine hK3 _ ?_
  clear hK3 K3
  refine Wp.condS (fun h10 => ?_) (fun h10 => ?_)
  · first | exact h10.elim | exact absurd h10 (by decide) | omega | simp at h10
  · refine Wp.skip ?_
    refine hK2 _ ?_
    clear hK2 K2
    refine Wp.seqK fun K4 hK4 => ?_
    refine Wp.seqK fun K5 hK5 => ?_
    refine rg ?_
    refine ⟨rfl, CallK.valA (h := eqTable_s _ _) (k := ?_)⟩
    refine evd ?_
    refine hK5 _ ?_
    clear hK5 K5
    refine Wp.condS (fun h16 => ?_) (fun h16 => ?_)
    · first | exact h16.elim | exact absurd h16 (by decide) | omega | simp at h16
    · refine Wp.skip ?_
      refine hK4 _ ?_
      clear hK4 K4
      refine Wp.seqK fun K6 hK6 => ?_
      refine Wp.seqK fun K7 hK7 => ?_
      refine rg ?_
      refine hK7 _ ?_
      clear hK7 K7
      refine Wp.condS (fun h21 => ?_) (fun h21 => ?_)
      · first | exact h21.elim | exact absurd h21 (by decide) | omega | simp at h21
      · refine Wp.skip ?_
        refine hK6 _ ?_
        clear hK6 K6
        refine Wp.seqK fun K8 hK8 => ?_
        refine Wp.seqK fun K9 hK9 => ?_
        refine rg ?_
        refine ⟨rfl, CallK.valA (h := eqIntS_s _ (by omega)) (k := ?_)⟩
        refine evd ?_
        refine hK9 _ ?_
        clear hK9 K9
        refine Wp.condS (fun h27 => ?_) (fun h27 => ?_)
        · first | exact h27.elim | exact absurd h27 (by decide) | omega | simp at h27
        · refine Wp.skip ?_
          refine hK8 _ ?_
          clear hK8 K8
          refine Wp.seqK fun K10 hK10 => ?_
          refine Wp.seqK fun K11 hK11 => ?_
          refine rg ?_
          refine hK11 _ ?_
          clear hK11 K11
          refine Wp.condS (fun h32 => ?_) (fun h32 => ?_)
          · first | exact h32.elim | exact absurd h32 (by decide) | omega | simp at h32
          · refine Wp.skip ?_
            refine hK10 _ ?_
            clear hK10 K10
            refine Wp.seqK fun K12 hK12 => ?_
            refine Wp.seqK fun K13 hK13 => ?_
            refine rg ?_
            refine hK13 _ ?_
            clear hK13 K13
            refine Wp.condS (fun h37 => ?_) (fun h37 => ?_)
            · simp at h37
            · refine Wp.skip ?_
              refine hK12 _ ?_
              clear hK12 K12
              refine Wp.seqK fun K14 hK14 => ?_
              refine Wp.seqK fun K15 hK15 => ?_
              refine rg ?_
              refine hK15 _ ?_
              clear hK15 K15
              refine Wp.condS (fun h42 => ?_) (fun h42 => ?_)
              · first | exact h42.elim | exact absurd h42 (by decide) | omega | simp at h42
              · refine Wp.skip ?_
                refine hK14 _ ?_
                clear hK14 K14
                refine Wp.seqK fun K16 hK16 => ?_
                refine Wp.seqK fun K17 hK17 => ?_
                refine rg ?_
                refine hK17 _ ?_
                clear hK17 K17
                refine Wp.condS (fun h47 => ?_) (fun h47 => ?_)
                · first | exact h47.elim | exact absurd h47 (by decide) | omega | simp at h47
                · refine Wp.skip ?_
                  refine hK16 _ ?_
                  clear hK16 K16
                  refine Wp.seqK fun K18 hK18 => ?_
                  refine Wp.seqK fun K19 hK19 => ?_
                  refine rg ?_
                  refine hK19 _ ?_
                  clear hK19 K19
                  refine Wp.condS (fun h52 => ?_) (fun h52 => ?_)
                  · first | exact h52.elim | exact absurd h52 (by decide) | omega | simp at h52
                  · refine Wp.skip ?_
                    refine hK18 _ ?_
                    clear hK18 K18
                    refine Wp.seqK fun K20 hK20 => ?_
                    refine Wp.seqK fun K21 hK21 => ?_
                    refine rg ?_
                    refine ⟨rfl, CallK.valA (h := eqSeenS_c _ (by omega)) (k := ?_)⟩
                    refine evd ?_
                    refine hK21 _ ?_
                    clear hK21 K21
                    refine Wp.condS (fun h58 => ?_) (fun h58 => ?_)
                    · first | exact h58.elim | exact absurd h58 (by decide) | omega | simp at h58
                    · refine Wp.skip ?_
                      refine hK20 _ ?_
                      clear hK20 K20
                      refine Wp.seqK fun K22 hK22 => ?_
                      refine rg ?_
                      refine hK22 _ ?_
                      clear hK22 K22
                      refine Wp.ret (retV ?_)
                      try simp only [List.getD_cons_zero, List.getD_cons_succ]
end Go.Proofs.YtbhlegobhidgkaaDoor.RE
