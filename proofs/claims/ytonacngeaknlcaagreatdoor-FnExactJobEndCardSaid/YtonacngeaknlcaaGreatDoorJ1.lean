/- Machines and jobs in the laws. Conditions: those that a theorem names. -/
import Derived.Test.YtonacngeaknlcaaGreatDoorD1
import Derived.Test.YtonacngeaknlcaaGreatDoorE5
set_option linter.unusedVariables false
set_option linter.unusedSimpArgs false
namespace Go.Proofs.YtonacngeaknlcaaGreatDoor.RE
open Go Go.RowKit
set_option maxRecDepth 100000
set_option maxHeartbeats 8000000

/-! ### Machines and jobs -/
structure Mc where
  row : List Bool
  n : Int
  ones : ByteArray
  room : Int
  vals : List Int
  ret : Int
  over : Bool
  steps : Int
  looks : Int
  hits : Int
  memo : List Sn
deriving DecidableEq
instance : Inhabited Mc := ⟨⟨[], 0, ⟨#[]⟩, 0, [], 0, false, 0, 0, 0, []⟩⟩
structure Jb where
  state : Int
  m : Mc
  journal : ByteArray
  synced : Int
deriving DecidableEq
def mCells (r v s : LV) (m : Mc) : List LV := [r, .sc (.int .i64 m.n), .sc (.string m.ones), .sc (.int .i64 m.room), v, .sc (.int .i64 m.ret), .sc (.bool m.over), .sc (.int .i64 m.steps), .sc (.int .i64 m.looks), .sc (.int .i64 m.hits), s]
def mD (m : Mc) : List LV := mCells (.dsl true m.row.length (encB m.row)) (.dsl true m.vals.length (encI m.vals)) (.dsl true m.memo.length (encS m.memo)) m
def mO (a b c : Nat) (m : Mc) : List LV := mCells (.obj a 0 1 0 m.row.length) (.obj b 0 1 0 m.vals.length) (.obj c 0 2 0 m.memo.length) m
def mR (m : Mc) : Obs := [some ⟨0, m.row.map cb⟩, some ⟨0, m.vals.map ci⟩, some ⟨0, lS m.memo⟩]
def jCells (c : List LV) (j : Jb) : List LV := .sc (.int .i64 j.state) :: (c ++ [.sc (.string j.journal), .sc (.int .i64 j.synced)])
def jD (j : Jb) : List LV := jCells (mD j.m) j
def jO (a b c : Nat) (j : Jb) : List LV := jCells (mO a b c j.m) j
attribute [go_sem] mD mO mR mCells jD jO jCells sn List.append_assoc
theorem zeroS (n : Nat) : (List.replicate n [LV.sc (.string ⟨#[]⟩), .sc (.int .i64 0)]).flatten = lS (List.replicate n default) := by
  unfold lS
  rw [List.flatMap_replicate]
  rfl
theorem zeroB (n : Nat) : (List.replicate n [LV.sc (.bool false)]).flatten = (List.replicate n false).map cb := by
  induction n with
  | zero => rfl
  | succ n ih => rw [List.replicate_succ, List.flatten_cons, ih]; rfl
theorem zeroI (n : Nat) : (List.replicate n [LV.sc (.int .i64 0)]).flatten = (List.replicate n (0 : Int)).map ci := by
  induction n with
  | zero => rfl
  | succ n ih => rw [List.replicate_succ, List.flatten_cons, ih]; rfl
theorem zeroT (n : Nat) : (List.replicate n [LV.sc (.string ⟨#[]⟩)]).flatten = (List.replicate n (⟨#[]⟩ : ByteArray)).map ct := by
  induction n with
  | zero => rfl
  | succ n ih => rw [List.replicate_succ, List.flatten_cons, ih]; rfl
/-- A row whose first x are those of t. -/
def mix {α : Type} (t : List α) (d : α) (x : Nat) : List α := t.take x ++ List.replicate (t.length - x) d
theorem mix_len {α : Type} (t : List α) (d : α) {x : Nat} (h : x ≤ t.length) : (mix t d x).length = t.length := by simp [mix]; omega
theorem mix_set {α : Type} (t : List α) (d d' : α) {x : Nat} (h : x < t.length) : (mix t d x).set x (t.getD x d') = mix t d (x + 1) := by
  unfold mix
  rw [List.set_append_right _ _ (by simp; omega), take_push d' h, List.append_assoc]
  congr 1
  rw [show t.length - x = (t.length - (x + 1)) + 1 by omega, List.replicate_succ]
  simp [show min x t.length = x by omega]
theorem mix_end {α : Type} (t : List α) (d : α) : mix t d t.length = t := by simp [mix]
theorem mix_0 {α : Type} (t : List α) (d : α) : mix t d 0 = List.replicate t.length d := by simp [mix]
/-- Rows are answered in a record or a list. -/
theorem retL {fn : Func} {n : Nat} {st : St} (π : List Nat) {x x' : AV} {ob' : Obs} (h : resA st.tm st.ob E fn.results.toList = some x) (hn : n ≤ st.ob.length) (hd : π.Nodup) (hq : ∀ q ∈ π, n ≤ q) (hx : x.ren (keepM n π st.ob) = x') (hob : keepO n π st.ob = ob') :
    retQ E fn n (fun r ob => r = x' ∧ ob = ob') .ret st := ⟨x, π, h, hn, hd, hq, hx, hob⟩
theorem keepM_in {n : Nat} {π : List Nat} {ob : Obs} {o g i : Nat} {x : Ob} (hn : ¬ o < n) (hi : π.idxOf? o = some i) (hx : ob.getD o none = some x) (hg : x.g = g) : keepM n π ob o g = some (n + i, 0) := by
  unfold keepM
  rw [if_neg hn, hi, hx]
  simp only [hg, if_true]
theorem toBoolS_c (t : List Bool) (ht : t.length ≤ 1048576) : Row E.P 30 [dB t] 1 t.length ((t).map cb) := by
  refine CallsA.body (E := E) (fn := Tryz.f30) Tryz.func30 rfl fun B hB => ?_
  simp only [Tryz.ntmps30, go_sem, nl, Nat.reduceSub, Nat.reduceAdd, List.reduceReplicate]
  refine Wp.seqK fun K1 hK1 => ?_
  refine rg ?_
  refine hK1 _ ?_
  clear hK1 K1
  refine Wp.seqK fun K2 hK2 => ?_
  refine rg ?_
  rw [zeroB]
  refine hK2 _ ?_
  clear hK2 K2
  refine Wp.seqK fun K3 hK3 => ?_
  refine Wp.seqK fun K4 hK4 => ?_
  refine rg ?_
  refine hK4 _ ?_
  clear hK4 K4
  refine Wp.block ?_
  refine Wp.loopU (α := Nat) (fun x => [.k, .d, .d, .k, .v (I x), .d5, .d5, .d5, .d, .d]) (fun x => [some ⟨0, ((mix t false x)).map cb⟩]) (fun x => x ≤ t.length) (fun x => t.length - x) 0 (Nat.zero_le _) (anyS (ho := by rw [mix_0])) ?_
  rintro x f5 K5 hx hK5
  simp only [updT_k, updT_d, updT_d5, updT_v, updT_nil, Nat.reduceAdd]
  have hml := mix_len t (false) hx
  refine Wp.seqK fun K6 hK6 => ?_
  refine Wp.seqK fun K7 hK7 => ?_
  refine rg ?_
  refine hK7 _ ?_
  clear hK7 K7
  refine Wp.condS (fun h11 => ?_) (fun h11 => ?_)
  · have hxl : x < t.length := by omega
    refine Wp.skip ?_
    refine hK6 _ ?_
    clear hK6 K6
    refine Wp.seqK fun K8 hK8 => ?_
    refine Wp.block ?_
    refine rg ?_
    try simp only [thn, inB, if_true, reduceIte]
    refine hK8 _ ?_
    clear hK8 K8
    refine rg ?_
    rw [mix_set _ _ _ hxl]
    exact hK5 (x + 1) _ (by omega) (by omega) anyS
  · have hxl : x = t.length := by omega
    refine Wp.exit ?_
    try simp only [thn, inB, if_true, reduceIte]
    clear hK6 K6
    clear hK5 K5
    refine hK3 _ ?_
    clear hK3 K3
    refine Wp.seqK fun K9 hK9 => ?_
    refine rg ?_
    refine hK9 _ ?_
    clear hK9 K9
    subst hxl
    refine Wp.ret (retR rfl ?_ (flatB _))
    rw [mix_end]
theorem toIntS_c (t : List Int) (ht : t.length ≤ 1048576) : Row E.P 32 [dI t] 1 t.length ((t).map ci) := by
  refine CallsA.body (E := E) (fn := Tryz.f32) Tryz.func32 rfl fun B hB => ?_
  simp only [Tryz.ntmps32, go_sem, nl, Nat.reduceSub, Nat.reduceAdd, List.reduceReplicate]
  refine Wp.seqK fun K1 hK1 => ?_
  refine rg ?_
  refine hK1 _ ?_
  clear hK1 K1
  refine Wp.seqK fun K2 hK2 => ?_
  refine rg ?_
  rw [zeroI]
  refine hK2 _ ?_
  clear hK2 K2
  refine Wp.seqK fun K3 hK3 => ?_
  refine Wp.seqK fun K4 hK4 => ?_
  refine rg ?_
  refine hK4 _ ?_
  clear hK4 K4
  refine Wp.block ?_
  refine Wp.loopU (α := Nat) (fun x => [.k, .d, .d, .k, .v (I x), .d5, .d5, .d5, .d, .d]) (fun x => [some ⟨0, ((mix t 0 x)).map ci⟩]) (fun x => x ≤ t.length) (fun x => t.length - x) 0 (Nat.zero_le _) (anyS (ho := by rw [mix_0])) ?_
  rintro x f5 K5 hx hK5
  simp only [updT_k, updT_d, updT_d5, updT_v, updT_nil, Nat.reduceAdd]
  have hml := mix_len t (0) hx
  refine Wp.seqK fun K6 hK6 => ?_
  refine Wp.seqK fun K7 hK7 => ?_
  refine rg ?_
  refine hK7 _ ?_
  clear hK7 K7
  refine Wp.condS (fun h11 => ?_) (fun h11 => ?_)
  · have hxl : x < t.length := by omega
    refine Wp.skip ?_
    refine hK6 _ ?_
    clear hK6 K6
    refine Wp.seqK fun K8 hK8 => ?_
    refine Wp.block ?_
    refine rg ?_
    try simp only [thn, inB, if_true, reduceIte]
    refine hK8 _ ?_
    clear hK8 K8
    refine rg ?_
    rw [mix_set _ _ _ hxl]
    exact hK5 (x + 1) _ (by omega) (by omega) anyS
  · have hxl : x = t.length := by omega
    refine Wp.exit ?_
    try simp only [thn, inB, if_true, reduceIte]
    clear hK6 K6
    clear hK5 K5
    refine hK3 _ ?_
    clear hK3 K3
    refine Wp.seqK fun K9 hK9 => ?_
    refine rg ?_
    refine hK9 _ ?_
    clear hK9 K9
    subst hxl
    refine Wp.ret (retR rfl ?_ (flatI _))
    rw [mix_end]
theorem toSeen_c (s : Sn) : Val E.P 63 [.agg (sl s)] (.agg (sl s)) := by
  refine CallsA.body (E := E) (fn := Tryz.f63) Tryz.func63 rfl fun B hB => ?_
  simp only [Tryz.ntmps63, go_sem, nl, Nat.reduceSub, Nat.reduceAdd, List.reduceReplicate]
  refine Wp.seqK fun K1 hK1 => ?_
  refine rg ?_
  refine hK1 _ ?_
  clear hK1 K1
  refine Wp.seqK fun K2 hK2 => ?_
  refine rg ?_
  refine hK2 _ ?_
  clear hK2 K2
  refine Wp.seqK fun K3 hK3 => ?_
  refine rg ?_
  refine hK3 _ ?_
  clear hK3 K3
  refine Wp.seqK fun K4 hK4 => ?_
  refine rg ?_
  refine hK4 _ ?_
  clear hK4 K4
  refine Wp.seqK fun K5 hK5 => ?_
  refine rg ?_
  refine hK5 _ ?_
  clear hK5 K5
  refine Wp.ret (retV ?_)
  try simp only [List.getD_cons_zero, List.getD_cons_succ]
  rfl
theorem toSeenS_c (t : List Sn) (ht : t.length ≤ 1048576) : Row E.P 33 [dS t] 2 t.length (lS t) := by
  refine CallsA.body (E := E) (fn := Tryz.f33) Tryz.func33 rfl fun B hB => ?_
  simp only [Tryz.ntmps33, go_sem, nl, Nat.reduceSub, Nat.reduceAdd, List.reduceReplicate]
  refine Wp.seqK fun K1 hK1 => ?_
  refine rg ?_
  refine hK1 _ ?_
  clear hK1 K1
  refine Wp.seqK fun K2 hK2 => ?_
  refine rg ?_
  rw [zeroS]
  refine hK2 _ ?_
  clear hK2 K2
  refine Wp.seqK fun K3 hK3 => ?_
  refine Wp.seqK fun K4 hK4 => ?_
  refine rg ?_
  refine hK4 _ ?_
  clear hK4 K4
  refine Wp.block ?_
  refine Wp.loopU (α := Nat) (fun x => [.k, .d, .d, .k, .v (I x), .d5, .d5, .d5, .d, .d, .d]) (fun x => [some ⟨0, lS (mix t default x)⟩]) (fun x => x ≤ t.length) (fun x => t.length - x) 0 (Nat.zero_le _) (anyS (ho := by rw [mix_0])) ?_
  rintro x f5 K5 hx hK5
  simp only [updT_k, updT_d, updT_d5, updT_v, updT_nil, Nat.reduceAdd]
  have hml := mix_len t (default) hx
  refine Wp.seqK fun K6 hK6 => ?_
  refine Wp.seqK fun K7 hK7 => ?_
  refine rg ?_
  refine hK7 _ ?_
  clear hK7 K7
  refine Wp.condS (fun h11 => ?_) (fun h11 => ?_)
  · have hxl : x < t.length := by omega
    refine Wp.skip ?_
    refine hK6 _ ?_
    clear hK6 K6
    refine Wp.seqK fun K8 hK8 => ?_
    refine Wp.block ?_
    refine rg ?_
    refine ⟨rfl, CallK.valA (h := toSeen_c _) (k := ?_)⟩
    refine evd ?_
    try simp only [thn, inB, if_true, reduceIte]
    refine hK8 _ ?_
    clear hK8 K8
    refine rg ?_
    rw [mix_set _ _ _ hxl]
    exact hK5 (x + 1) _ (by omega) (by omega) anyS
  · have hxl : x = t.length := by omega
    refine Wp.exit ?_
    try simp only [thn, inB, if_true, reduceIte]
    clear hK6 K6
    clear hK5 K5
    refine hK3 _ ?_
    clear hK3 K3
    refine Wp.seqK fun K9 hK9 => ?_
    refine rg ?_
    refine hK9 _ ?_
    clear hK9 K9
    subst hxl
    refine Wp.ret (retR rfl ?_ (lS_flat _))
    rw [mix_end]
theorem toTable_c (n : Int) (o : ByteArray) : Val E.P 31 [.agg (tb n o)] (.agg (tb n o)) := by
  refine CallsA.body (E := E) (fn := Tryz.f31) Tryz.func31 rfl fun B hB => ?_
  simp only [Tryz.ntmps31, go_sem, nl, Nat.reduceSub, Nat.reduceAdd, List.reduceReplicate]
  refine Wp.seqK fun K1 hK1 => ?_
  refine rg ?_
  refine hK1 _ ?_
  clear hK1 K1
  refine Wp.seqK fun K2 hK2 => ?_
  refine rg ?_
  refine hK2 _ ?_
  clear hK2 K2
  refine Wp.seqK fun K3 hK3 => ?_
  refine rg ?_
  refine hK3 _ ?_
  clear hK3 K3
  refine Wp.seqK fun K4 hK4 => ?_
  refine rg ?_
  refine hK4 _ ?_
  clear hK4 K4
  refine Wp.seqK fun K5 hK5 => ?_
  refine rg ?_
  refine hK5 _ ?_
  clear hK5 K5
  refine Wp.ret (retV ?_)
  try simp only [List.getD_cons_zero, List.getD_cons_succ]
  rfl
theorem mR_flat (m : Mc) : obFlat (mR m) = true := by
  simp only [mR, obFlat, List.all_cons, List.all_nil, flatB, flatI, lS_flat, Bool.and_true]
theorem toMachine_c (m : Mc) (h1 : m.row.length ≤ 1048576) (h2 : m.vals.length ≤ 1048576) (h3 : m.memo.length ≤ 1048576) : Ret E.P 13 [.agg (mD m)] (.agg (mO 0 1 2 m)) (mR m) := by
  refine CallsA.body (E := E) (fn := Tryz.f13) Tryz.func13 rfl fun B hB => ?_
  simp only [Tryz.ntmps13, go_sem, nl, Nat.reduceSub, Nat.reduceAdd, List.reduceReplicate]
  refine Wp.seqK fun K1 hK1 => ?_
  refine rg ?_
  refine hK1 _ ?_
  clear hK1 K1
  refine Wp.seqK fun K2 hK2 => ?_
  refine rg ?_
  refine hK2 _ ?_
  clear hK2 K2
  refine Wp.seqK fun K3 hK3 => ?_
  refine rg ?_
  refine ⟨rfl, CallK.rowA (h := toBoolS_c _ (by omega)) (k := ?_)⟩
  refine evd ?_
  refine hK3 _ ?_
  clear hK3 K3
  refine Wp.seqK fun K4 hK4 => ?_
  refine rg ?_
  refine ⟨rfl, CallK.valA (h := toTable_c _ _) (k := ?_)⟩
  refine evd ?_
  refine hK4 _ ?_
  clear hK4 K4
  refine Wp.seqK fun K5 hK5 => ?_
  refine rg ?_
  refine hK5 _ ?_
  clear hK5 K5
  refine Wp.seqK fun K6 hK6 => ?_
  refine rg ?_
  refine ⟨rfl, CallK.rowA (h := toIntS_c _ (by omega)) (k := ?_)⟩
  refine evd ?_
  refine hK6 _ ?_
  clear hK6 K6
  refine Wp.seqK fun K7 hK7 => ?_
  refine rg ?_
  refine hK7 _ ?_
  clear hK7 K7
  refine Wp.seqK fun K8 hK8 => ?_
  refine rg ?_
  refine hK8 _ ?_
  clear hK8 K8
  refine Wp.seqK fun K9 hK9 => ?_
  refine rg ?_
  refine hK9 _ ?_
  clear hK9 K9
  refine Wp.seqK fun K10 hK10 => ?_
  refine rg ?_
  refine hK10 _ ?_
  clear hK10 K10
  refine Wp.seqK fun K11 hK11 => ?_
  refine rg ?_
  refine hK11 _ ?_
  clear hK11 K11
  refine Wp.seqK fun K12 hK12 => ?_
  refine rg ?_
  refine ⟨rfl, CallK.rowA (h := toSeenS_c _ (by omega)) (k := ?_)⟩
  refine evd ?_
  refine hK12 _ ?_
  clear hK12 K12
  refine Wp.seqK fun K13 hK13 => ?_
  refine rg ?_
  refine hK13 _ ?_
  clear hK13 K13
  refine Wp.ret (retL [3, 4, 5] rfl (Nat.zero_le _) (by decide) (by simp) rfl ?_)
  simp only [keepO, List.take_zero, List.map_nil, List.nil_append, List.map_cons, List.getD_cons_zero, List.getD_cons_succ, Option.map_some, renB, renI, renS, mR]
theorem toJob_c (j : Jb) (h1 : j.m.row.length ≤ 1048576) (h2 : j.m.vals.length ≤ 1048576) (h3 : j.m.memo.length ≤ 1048576) : Ret E.P 6 [.agg (jD j)] (.agg (jO 0 1 2 j)) (mR j.m) := by
  refine CallsA.body (E := E) (fn := Tryz.f6) Tryz.func6 rfl fun B hB => ?_
  simp only [Tryz.ntmps6, go_sem, nl, Nat.reduceSub, Nat.reduceAdd, List.reduceReplicate]
  refine Wp.seqK fun K1 hK1 => ?_
  refine rg ?_
  refine hK1 _ ?_
  clear hK1 K1
  refine Wp.seqK fun K2 hK2 => ?_
  refine rg ?_
  refine hK2 _ ?_
  clear hK2 K2
  refine Wp.seqK fun K3 hK3 => ?_
  refine rg ?_
  refine hK3 _ ?_
  clear hK3 K3
  refine Wp.seqK fun K4 hK4 => ?_
  refine rg ?_
  refine ⟨rfl, CallK.retA (h := toMachine_c _ (by omega) (by omega) (by omega)) (k := ?_) (hf := mR_flat _)⟩
  refine evd ?_
  refine hK4 _ ?_
  clear hK4 K4
  refine Wp.seqK fun K5 hK5 => ?_
  refine rg ?_
  refine hK5 _ ?_
  clear hK5 K5
  refine Wp.seqK fun K6 hK6 => ?_
  refine rg ?_
  refine hK6 _ ?_
  clear hK6 K6
  refine Wp.seqK fun K7 hK7 => ?_
  refine rg ?_
  refine hK7 _ ?_
  clear hK7 K7
  refine Wp.ret (retL [3, 4, 5] rfl (Nat.zero_le _) (by decide) (by simp) rfl ?_)
  simp only [keepO, List.take_zero, List.map_nil, List.nil_append, List.map_cons, List.getD_cons_zero, List.getD_cons_succ, Option.map_some, renB, renI, renS, mR]

/-! ### Sizes -/
def szL (n : Nat) (l : Int) : Int := if l - n < 0 then -1 else l - n
def szK : List Sn → Int → Int
  | [], l => l
  | s :: r, l => if l - s.key.size < 0 then -1 else szK r (l - s.key.size)
def szS (t : List Sn) (l : Int) : Int := if l - t.length < 0 then -1 else szK t (l - t.length)
def szM (m : Mc) (l : Int) : Int :=
  if szL m.row.length l < 0 then -1 else if szL m.ones.size (szL m.row.length l) < 0 then -1 else if szL m.vals.length (szL m.ones.size (szL m.row.length l)) < 0 then -1 else
  if szS m.memo (szL m.vals.length (szL m.ones.size (szL m.row.length l))) < 0 then -1 else szS m.memo (szL m.vals.length (szL m.ones.size (szL m.row.length l)))
def szJ (j : Jb) (l : Int) : Int := if szM j.m l < 0 then -1 else szL j.journal.size (szM j.m l)
theorem szL_le {n : Nat} {l : Int} (h : 0 ≤ szL n l) : (n : Int) ≤ l ∧ szL n l ≤ l := by
  unfold szL at *
  split at h
  · omega
  · rw [if_neg (by assumption)]; omega
theorem szL_lb (n : Nat) (l : Int) : -1 ≤ szL n l := by
  unfold szL
  split <;> omega
theorem szK_lb : ∀ (t : List Sn) (l : Int), -1 ≤ l → -1 ≤ szK t l
  | [], l, h => h
  | s :: r, l, h => by
    simp only [szK]
    split
    · omega
    · exact szK_lb r _ (by omega)
theorem szS_lb (t : List Sn) (l : Int) : -1 ≤ szS t l := by
  unfold szS
  split
  · omega
  · exact szK_lb _ _ (by omega)
theorem szK_le : ∀ {t : List Sn} {l : Int}, 0 ≤ szK t l → szK t l ≤ l ∧ ∀ s ∈ t, (s.key.size : Int) ≤ l
  | [], l, h => ⟨Int.le_refl _, fun s h => by cases h⟩
  | s :: r, l, h => by
    simp only [szK] at h ⊢
    split at h
    · omega
    · rename_i hn
      rw [if_neg hn]
      obtain ⟨h1, h2⟩ := szK_le h
      refine ⟨by omega, fun x hx => ?_⟩
      rcases List.mem_cons.1 hx with rfl | hx
      · omega
      · have := h2 x hx; omega
theorem szS_le {t : List Sn} {l : Int} (h : 0 ≤ szS t l) : (t.length : Int) ≤ l ∧ szS t l ≤ l ∧ ∀ s ∈ t, (s.key.size : Int) ≤ l := by
  unfold szS at *
  split at h
  · omega
  · rename_i hn
    rw [if_neg hn]
    obtain ⟨h1, h2⟩ := szK_le h
    exact ⟨by omega, by omega, fun s hs => by have := h2 s hs; omega⟩
/-- A machine that is no greater than a machine may be. -/
structure Mc.Fits (m : Mc) : Prop where
  row : m.row.length ≤ 1048576
  ones : m.ones.size ≤ 1048576
  vals : m.vals.length ≤ 1048576
  memo : m.memo.length ≤ 1048576
  keys : ∀ s ∈ m.memo, s.key.size ≤ 1048576
theorem szM_le {m : Mc} {l : Int} (hl : l ≤ 1048576) (h : 0 ≤ szM m l) : m.Fits ∧ szM m l ≤ l := by
  unfold szM at *
  split at h
  · omega
  rename_i h1
  split at h
  · omega
  rename_i h2
  split at h
  · omega
  rename_i h3
  split at h
  · omega
  rename_i h4
  rw [if_neg h1, if_neg h2, if_neg h3, if_neg h4]
  have a1 := szL_le (Int.not_lt.1 h1)
  have a2 := szL_le (Int.not_lt.1 h2)
  have a3 := szL_le (Int.not_lt.1 h3)
  have a4 := szS_le (Int.not_lt.1 h4)
  exact ⟨⟨by omega, by omega, by omega, by omega, fun s hs => by have := a4.2.2 s hs; omega⟩, by omega⟩
theorem szJ_le {j : Jb} {l : Int} (hl : l ≤ 1048576) (h : 0 ≤ szJ j l) : j.m.Fits ∧ j.journal.size ≤ 1048576 := by
  unfold szJ at h
  split at h
  · omega
  rename_i h1
  have a1 := szM_le hl (Int.not_lt.1 h1)
  have a2 := szL_le h
  exact ⟨a1.1, by omega⟩
theorem szBoolS_c (t : List Bool) (l : Int) (h0 : -1 ≤ l) (h1 : l ≤ 1048576) (ht : t.length ≤ 9223372036854775807) : Val E.P 18 [dB t, I l] (I (szL t.length l)) := by
  refine CallsA.body (E := E) (fn := Tryz.f18) Tryz.func18 rfl fun B hB => ?_
  simp only [Tryz.ntmps18, go_sem, nl, Nat.reduceSub, Nat.reduceAdd, List.reduceReplicate]
  refine Wp.seqK fun K1 hK1 => ?_
  refine rg ?_
  refine hK1 _ ?_
  clear hK1 K1
  refine Wp.seqK fun K2 hK2 => ?_
  refine rg ?_
  refine hK2 _ ?_
  clear hK2 K2
  refine Wp.seqK fun K3 hK3 => ?_
  refine Wp.seqK fun K4 hK4 => ?_
  refine rg ?_
  refine hK4 _ ?_
  clear hK4 K4
  refine Wp.condS (fun h10 => ?_) (fun h10 => ?_)
  · refine Wp.seqK fun K5 hK5 => ?_
    refine rg ?_
    refine hK5 _ ?_
    clear hK5 K5
    refine Wp.ret (retV ?_)
    try simp only [List.getD_cons_zero, List.getD_cons_succ]
    show I _ = I (szL _ _)
    unfold szL
    exact congrArg I (if_pos (by omega)).symm
  · refine Wp.skip ?_
    refine hK3 _ ?_
    clear hK3 K3
    refine Wp.seqK fun K6 hK6 => ?_
    refine rg ?_
    refine hK6 _ ?_
    clear hK6 K6
    refine Wp.ret (retV ?_)
    try simp only [List.getD_cons_zero, List.getD_cons_succ]
    show I _ = I (szL _ _)
    unfold szL
    exact congrArg I (if_neg (by omega)).symm
theorem szIntS_c (t : List Int) (l : Int) (h0 : -1 ≤ l) (h1 : l ≤ 1048576) (ht : t.length ≤ 9223372036854775807) : Val E.P 20 [dI t, I l] (I (szL t.length l)) := by
  refine CallsA.body (E := E) (fn := Tryz.f20) Tryz.func20 rfl fun B hB => ?_
  simp only [Tryz.ntmps20, go_sem, nl, Nat.reduceSub, Nat.reduceAdd, List.reduceReplicate]
  refine Wp.seqK fun K1 hK1 => ?_
  refine rg ?_
  refine hK1 _ ?_
  clear hK1 K1
  refine Wp.seqK fun K2 hK2 => ?_
  refine rg ?_
  refine hK2 _ ?_
  clear hK2 K2
  refine Wp.seqK fun K3 hK3 => ?_
  refine Wp.seqK fun K4 hK4 => ?_
  refine rg ?_
  refine hK4 _ ?_
  clear hK4 K4
  refine Wp.condS (fun h10 => ?_) (fun h10 => ?_)
  · refine Wp.seqK fun K5 hK5 => ?_
    refine rg ?_
    refine hK5 _ ?_
    clear hK5 K5
    refine Wp.ret (retV ?_)
    try simp only [List.getD_cons_zero, List.getD_cons_succ]
    show I _ = I (szL _ _)
    unfold szL
    exact congrArg I (if_pos (by omega)).symm
  · refine Wp.skip ?_
    refine hK3 _ ?_
    clear hK3 K3
    refine Wp.seqK fun K6 hK6 => ?_
    refine rg ?_
    refine hK6 _ ?_
    clear hK6 K6
    refine Wp.ret (retV ?_)
    try simp only [List.getD_cons_zero, List.getD_cons_succ]
    show I _ = I (szL _ _)
    unfold szL
    exact congrArg I (if_neg (by omega)).symm
theorem szTable_c (n : Int) (o : ByteArray) (l : Int) (h0 : -1 ≤ l) (h1 : l ≤ 1048576) (ht : o.size ≤ 9223372036854775807) : Val E.P 19 [.agg (tb n o), I l] (I (szL o.size l)) := by
  refine CallsA.body (E := E) (fn := Tryz.f19) Tryz.func19 rfl fun B hB => ?_
  simp only [Tryz.ntmps19, go_sem, nl, Nat.reduceSub, Nat.reduceAdd, List.reduceReplicate]
  refine Wp.seqK fun K1 hK1 => ?_
  refine rg ?_
  refine hK1 _ ?_
  clear hK1 K1
  refine Wp.seqK fun K2 hK2 => ?_
  refine rg ?_
  refine hK2 _ ?_
  clear hK2 K2
  refine Wp.seqK fun K3 hK3 => ?_
  refine Wp.seqK fun K4 hK4 => ?_
  refine rg ?_
  refine hK4 _ ?_
  clear hK4 K4
  refine Wp.condS (fun h11 => ?_) (fun h11 => ?_)
  · refine Wp.seqK fun K5 hK5 => ?_
    refine rg ?_
    refine hK5 _ ?_
    clear hK5 K5
    refine Wp.ret (retV ?_)
    try simp only [List.getD_cons_zero, List.getD_cons_succ]
    show I _ = I (szL _ _)
    unfold szL
    exact congrArg I (if_pos (by omega)).symm
  · refine Wp.skip ?_
    refine hK3 _ ?_
    clear hK3 K3
    refine Wp.seqK fun K6 hK6 => ?_
    refine rg ?_
    refine hK6 _ ?_
    clear hK6 K6
    refine Wp.ret (retV ?_)
    try simp only [List.getD_cons_zero, List.getD_cons_succ]
    show I _ = I (szL _ _)
    unfold szL
    exact congrArg I (if_neg (by omega)).symm
theorem szSeen_c (s : Sn) (l : Int) (h0 : -1 ≤ l) (h1 : l ≤ 1048576) (ht : s.key.size ≤ 9223372036854775807) : Val E.P 47 [.agg (sl s), I l] (I (szL s.key.size l)) := by
  refine CallsA.body (E := E) (fn := Tryz.f47) Tryz.func47 rfl fun B hB => ?_
  simp only [Tryz.ntmps47, go_sem, nl, Nat.reduceSub, Nat.reduceAdd, List.reduceReplicate]
  refine Wp.seqK fun K1 hK1 => ?_
  refine rg ?_
  refine hK1 _ ?_
  clear hK1 K1
  refine Wp.seqK fun K2 hK2 => ?_
  refine rg ?_
  refine hK2 _ ?_
  clear hK2 K2
  refine Wp.seqK fun K3 hK3 => ?_
  refine Wp.seqK fun K4 hK4 => ?_
  refine rg ?_
  refine hK4 _ ?_
  clear hK4 K4
  refine Wp.condS (fun h11 => ?_) (fun h11 => ?_)
  · refine Wp.seqK fun K5 hK5 => ?_
    refine rg ?_
    refine hK5 _ ?_
    clear hK5 K5
    refine Wp.ret (retV ?_)
    try simp only [List.getD_cons_zero, List.getD_cons_succ]
    show I _ = I (szL _ _)
    unfold szL
    exact congrArg I (if_pos (by omega)).symm
  · refine Wp.skip ?_
    refine hK3 _ ?_
    clear hK3 K3
    refine Wp.seqK fun K6 hK6 => ?_
    refine rg ?_
    refine hK6 _ ?_
    clear hK6 K6
    refine Wp.ret (retV ?_)
    try simp only [List.getD_cons_zero, List.getD_cons_succ]
    show I _ = I (szL _ _)
    unfold szL
    exact congrArg I (if_neg (by omega)).symm
theorem szK_step {t : List Sn} {x : Nat} (hx : x < t.length) (c : Int) : szK (t.drop x) c = if szL (t.getD x default).key.size c < 0 then -1 else szK (t.drop (x + 1)) (szL (t.getD x default).key.size c) := by
  rw [List.drop_eq_getElem_cons hx, szK, getD_at (d := default) hx]
  unfold szL
  by_cases h : c - (t.getD x default).key.size < 0
  · rw [if_pos h, if_pos h, if_pos (by omega)]
  · rw [if_neg h, if_neg h, if_neg h]
theorem szSeenS_c (t : List Sn) (l : Int) (h0 : -1 ≤ l) (h1 : l ≤ 1048576) (ht : t.length ≤ 9223372036854775807) (hk0 : ∀ s ∈ t, s.key.size ≤ 9223372036854775807) : Val E.P 21 [dS t, I l] (I (szS t l)) := by
  refine CallsA.body (E := E) (fn := Tryz.f21) Tryz.func21 rfl fun B hB => ?_
  simp only [Tryz.ntmps21, go_sem, nl, Nat.reduceSub, Nat.reduceAdd, List.reduceReplicate]
  have hk : ∀ x : Nat, x < t.length → (t.getD x default).key.size ≤ 9223372036854775807 := fun x hx => hk0 _ (by rw [← getD_at (d := default) hx]; exact List.getElem_mem hx)
  refine Wp.seqK fun K1 hK1 => ?_
  refine rg ?_
  refine hK1 _ ?_
  clear hK1 K1
  refine Wp.seqK fun K2 hK2 => ?_
  refine rg ?_
  refine hK2 _ ?_
  clear hK2 K2
  refine Wp.seqK fun K3 hK3 => ?_
  refine Wp.seqK fun K4 hK4 => ?_
  refine rg ?_
  refine hK4 _ ?_
  clear hK4 K4
  refine Wp.condS (fun h11 => ?_) (fun h11 => ?_)
  · refine Wp.seqK fun K5 hK5 => ?_
    refine rg ?_
    refine hK5 _ ?_
    clear hK5 K5
    refine Wp.ret (retV ?_)
    try simp only [List.getD_cons_zero, List.getD_cons_succ]
    show I _ = I (szS _ _)
    unfold szS
    exact congrArg I (if_pos (by omega)).symm
  · refine Wp.skip ?_
    refine hK3 _ ?_
    clear hK3 K3
    refine Wp.seqK fun K6 hK6 => ?_
    refine Wp.seqK fun K7 hK7 => ?_
    refine rg ?_
    refine hK7 _ ?_
    clear hK7 K7
    refine Wp.block ?_
    refine Wp.loopU0 (α := Nat × Int) (fun x => [.k, .v (I x.2), .d, .d, .d, .v (I (x.1 : Int)), .d5, .d5, .d5, .d5, .d]) (fun x => x.1 ≤ t.length ∧ (0 ≤ x.2 ∧ x.2 ≤ 1048576) ∧ szK (t.drop x.1) x.2 = szK t (l - t.length)) (fun x => t.length - x.1) (0, l - (t.length : Int)) (⟨Nat.zero_le _, ⟨by omega, by omega⟩, rfl⟩) anyS ?_
    rintro x f8 K8 ⟨hx, hb, he⟩ hK8
    simp only [updT_k, updT_d, updT_d5, updT_v, updT_nil, Nat.reduceAdd]
    refine Wp.seqK fun K9 hK9 => ?_
    refine Wp.seqK fun K10 hK10 => ?_
    refine rg ?_
    refine hK10 _ ?_
    clear hK10 K10
    refine Wp.condS (fun h15 => ?_) (fun h15 => ?_)
    · have hxl : x.1 < t.length := by omega
      have hkx := hk _ hxl
      have hst := szK_step hxl x.2
      have hlb := szL_lb (t.getD x.1 default).key.size x.2
      refine Wp.skip ?_
      refine hK9 _ ?_
      clear hK9 K9
      refine Wp.seqK fun K11 hK11 => ?_
      refine Wp.block ?_
      refine Wp.seqK fun K12 hK12 => ?_
      refine rg ?_
      refine ⟨rfl, CallK.valA (h := szSeen_c _ _ (by omega) (by omega) (by omega)) (k := ?_)⟩
      refine evd ?_
      refine hK12 _ ?_
      clear hK12 K12
      refine Wp.seqK fun K13 hK13 => ?_
      refine rg ?_
      refine hK13 _ ?_
      clear hK13 K13
      refine Wp.condS (fun h25 => ?_) (fun h25 => ?_)
      · refine Wp.seqK fun K14 hK14 => ?_
        refine rg ?_
        refine hK14 _ ?_
        clear hK14 K14
        refine Wp.ret (retV ?_)
        try simp only [List.getD_cons_zero, List.getD_cons_succ]
        show I _ = I (szS _ _)
        unfold szS
        rw [if_neg (by omega), ← he, hst, if_pos h25]
      · refine Wp.skip ?_
        try simp only [thn, inB, if_true, reduceIte]
        refine hK11 _ ?_
        clear hK11 K11
        refine rg ?_
        exact hK8 (x.1 + 1, szL (t.getD x.1 default).key.size x.2) _ ⟨hxl, ⟨by omega, by have := szL_le (n := (t.getD x.1 default).key.size) (l := x.2) (by omega); omega⟩, by rw [← he, hst, if_neg (by omega)]⟩ (by show t.length - (x.1 + 1) < t.length - x.1; omega) anyS
    · have hxl : x.1 = t.length := by omega
      refine Wp.exit ?_
      try simp only [thn, inB, if_true, reduceIte]
      clear hK9 K9
      clear hK8 K8
      refine hK6 _ ?_
      clear hK6 K6
      refine Wp.seqK fun K15 hK15 => ?_
      refine rg ?_
      refine hK15 _ ?_
      clear hK15 K15
      refine Wp.ret (retV ?_)
      try simp only [List.getD_cons_zero, List.getD_cons_succ]
      show I _ = I (szS _ _)
      unfold szS
      rw [if_neg (by omega), ← he, hxl, List.drop_length]; rfl
theorem szMachine_c (m : Mc) (l : Int) (h0 : -1 ≤ l) (h1 : l ≤ 1048576) (hr : m.row.length ≤ 9223372036854775807) (ho : m.ones.size ≤ 9223372036854775807) (hv : m.vals.length ≤ 9223372036854775807) (hm : m.memo.length ≤ 9223372036854775807) (hk : ∀ s ∈ m.memo, s.key.size ≤ 9223372036854775807) : Val E.P 11 [.agg (mD m), I l] (I (szM m l)) := by
  refine CallsA.body (E := E) (fn := Tryz.f11) Tryz.func11 rfl fun B hB => ?_
  simp only [Tryz.ntmps11, go_sem, nl, Nat.reduceSub, Nat.reduceAdd, List.reduceReplicate]
  have b1 := szL_lb m.row.length l
  have b2 := szL_lb m.ones.size (szL m.row.length l)
  have b3 := szL_lb m.vals.length (szL m.ones.size (szL m.row.length l))
  have b4 := szS_lb m.memo (szL m.vals.length (szL m.ones.size (szL m.row.length l)))
  refine Wp.seqK fun K1 hK1 => ?_
  refine rg ?_
  refine hK1 _ ?_
  clear hK1 K1
  refine Wp.seqK fun K2 hK2 => ?_
  refine rg ?_
  refine ⟨rfl, CallK.valA (h := szBoolS_c _ _ (by omega) (by omega) (by omega)) (k := ?_)⟩
  refine evd ?_
  refine hK2 _ ?_
  clear hK2 K2
  refine Wp.seqK fun K3 hK3 => ?_
  refine Wp.seqK fun K4 hK4 => ?_
  refine rg ?_
  refine hK4 _ ?_
  clear hK4 K4
  refine Wp.condS (fun h10 => ?_) (fun h10 => ?_)
  · refine Wp.seqK fun K5 hK5 => ?_
    refine rg ?_
    refine hK5 _ ?_
    clear hK5 K5
    refine Wp.ret (retV ?_)
    try simp only [List.getD_cons_zero, List.getD_cons_succ]
    show I _ = I (szM m l)
    unfold szM
    rw [if_pos h10]
  · have c1 := szL_le (n := m.row.length) (l := l) (by omega)
    refine Wp.skip ?_
    refine hK3 _ ?_
    clear hK3 K3
    refine Wp.seqK fun K6 hK6 => ?_
    refine rg ?_
    refine ⟨rfl, CallK.valA (h := szTable_c _ _ _ (by omega) (by omega) (by omega)) (k := ?_)⟩
    refine evd ?_
    refine hK6 _ ?_
    clear hK6 K6
    refine Wp.seqK fun K7 hK7 => ?_
    refine Wp.seqK fun K8 hK8 => ?_
    refine rg ?_
    refine hK8 _ ?_
    clear hK8 K8
    refine Wp.condS (fun h16 => ?_) (fun h16 => ?_)
    · refine Wp.seqK fun K9 hK9 => ?_
      refine rg ?_
      refine hK9 _ ?_
      clear hK9 K9
      refine Wp.ret (retV ?_)
      try simp only [List.getD_cons_zero, List.getD_cons_succ]
      show I _ = I (szM m l)
      unfold szM
      rw [if_neg (by omega), if_pos h16]
    · have c2 := szL_le (n := m.ones.size) (l := szL m.row.length l) (by omega)
      refine Wp.skip ?_
      refine hK7 _ ?_
      clear hK7 K7
      refine Wp.seqK fun K10 hK10 => ?_
      refine rg ?_
      refine ⟨rfl, CallK.valA (h := szIntS_c _ _ (by omega) (by omega) (by omega)) (k := ?_)⟩
      refine evd ?_
      refine hK10 _ ?_
      clear hK10 K10
      refine Wp.seqK fun K11 hK11 => ?_
      refine Wp.seqK fun K12 hK12 => ?_
      refine rg ?_
      refine hK12 _ ?_
      clear hK12 K12
      refine Wp.condS (fun h22 => ?_) (fun h22 => ?_)
      · refine Wp.seqK fun K13 hK13 => ?_
        refine rg ?_
        refine hK13 _ ?_
        clear hK13 K13
        refine Wp.ret (retV ?_)
        try simp only [List.getD_cons_zero, List.getD_cons_succ]
        show I _ = I (szM m l)
        unfold szM
        rw [if_neg (by omega), if_neg (by omega), if_pos h22]
      · have c3 := szL_le (n := m.vals.length) (l := szL m.ones.size (szL m.row.length l)) (by omega)
        refine Wp.skip ?_
        refine hK11 _ ?_
        clear hK11 K11
        refine Wp.seqK fun K14 hK14 => ?_
        refine rg ?_
        refine ⟨rfl, CallK.valA (h := szSeenS_c _ _ (by omega) (by omega) (by omega) hk) (k := ?_)⟩
        refine evd ?_
        refine hK14 _ ?_
        clear hK14 K14
        refine Wp.seqK fun K15 hK15 => ?_
        refine Wp.seqK fun K16 hK16 => ?_
        refine rg ?_
        refine hK16 _ ?_
        clear hK16 K16
        refine Wp.condS (fun h28 => ?_) (fun h28 => ?_)
        · refine Wp.seqK fun K17 hK17 => ?_
          refine rg ?_
          refine hK17 _ ?_
          clear hK17 K17
          refine Wp.ret (retV ?_)
          try simp only [List.getD_cons_zero, List.getD_cons_succ]
          show I _ = I (szM m l)
          unfold szM
          rw [if_neg (by omega), if_neg (by omega), if_neg (by omega), if_pos h28]
        · refine Wp.skip ?_
          refine hK15 _ ?_
          clear hK15 K15
          refine Wp.seqK fun K18 hK18 => ?_
          refine rg ?_
          refine hK18 _ ?_
          clear hK18 K18
          refine Wp.ret (retV ?_)
          try simp only [List.getD_cons_zero, List.getD_cons_succ]
          show I _ = I (szM m l)
          unfold szM
          rw [if_neg (by omega), if_neg (by omega), if_neg (by omega), if_neg (by omega)]
theorem szM_lb (m : Mc) (l : Int) : -1 ≤ szM m l := by
  unfold szM
  have := szS_lb m.memo (szL m.vals.length (szL m.ones.size (szL m.row.length l)))
  repeat' split
  all_goals omega
theorem szM_max (m : Mc) (l : Int) (h : l ≤ 1048576) : szM m l ≤ 1048576 := by
  by_cases h0 : 0 ≤ szM m l
  · have := szM_le h h0; omega
  · omega
theorem szJob_c (j : Jb) (l : Int) (h0 : -1 ≤ l) (h1 : l ≤ 1048576) (hr : j.m.row.length ≤ 9223372036854775807) (ho : j.m.ones.size ≤ 9223372036854775807) (hv : j.m.vals.length ≤ 9223372036854775807) (hm : j.m.memo.length ≤ 9223372036854775807) (hk : ∀ s ∈ j.m.memo, s.key.size ≤ 9223372036854775807) (hj : j.journal.size ≤ 9223372036854775807) : Val E.P 4 [.agg (jD j), I l] (I (szJ j l)) := by
  refine CallsA.body (E := E) (fn := Tryz.f4) Tryz.func4 rfl fun B hB => ?_
  simp only [Tryz.ntmps4, go_sem, nl, Nat.reduceSub, Nat.reduceAdd, List.reduceReplicate]
  have b1 := szM_lb j.m l
  have b2 := szM_max j.m l h1
  refine Wp.seqK fun K1 hK1 => ?_
  refine rg ?_
  refine hK1 _ ?_
  clear hK1 K1
  refine Wp.seqK fun K2 hK2 => ?_
  refine rg ?_
  refine ⟨rfl, CallK.valA (h := szMachine_c _ _ (by omega) (by omega) (by omega) (by omega) (by omega) (by omega) hk) (k := ?_)⟩
  refine evd ?_
  refine hK2 _ ?_
  clear hK2 K2
  refine Wp.seqK fun K3 hK3 => ?_
  refine Wp.seqK fun K4 hK4 => ?_
  refine rg ?_
  refine hK4 _ ?_
  clear hK4 K4
  refine Wp.condS (fun h10 => ?_) (fun h10 => ?_)
  · refine Wp.seqK fun K5 hK5 => ?_
    refine rg ?_
    refine hK5 _ ?_
    clear hK5 K5
    refine Wp.ret (retV ?_)
    try simp only [List.getD_cons_zero, List.getD_cons_succ]
    show I _ = I (szJ j l)
    unfold szJ
    rw [if_pos h10]
  · refine Wp.skip ?_
    refine hK3 _ ?_
    clear hK3 K3
    refine Wp.seqK fun K6 hK6 => ?_
    refine rg ?_
    refine hK6 _ ?_
    clear hK6 K6
    refine Wp.seqK fun K7 hK7 => ?_
    refine Wp.seqK fun K8 hK8 => ?_
    refine rg ?_
    refine hK8 _ ?_
    clear hK8 K8
    refine Wp.condS (fun h17 => ?_) (fun h17 => ?_)
    · refine Wp.seqK fun K9 hK9 => ?_
      refine rg ?_
      refine hK9 _ ?_
      clear hK9 K9
      refine Wp.ret (retV ?_)
      try simp only [List.getD_cons_zero, List.getD_cons_succ]
      show I _ = I (szJ j l)
      unfold szJ szL
      rw [if_neg (by omega), if_pos h17]
    · refine Wp.skip ?_
      refine hK7 _ ?_
      clear hK7 K7
      refine Wp.seqK fun K10 hK10 => ?_
      refine rg ?_
      refine hK10 _ ?_
      clear hK10 K10
      refine Wp.ret (retV ?_)
      try simp only [List.getD_cons_zero, List.getD_cons_succ]
      show I _ = I (szJ j l)
      unfold szJ szL
      rw [if_neg (by omega), if_neg (by omega)]

/-! ### Equal to itself -/
theorem eqBoolS_c (t : List Bool) (ht : t.length ≤ 1048576) : Val E.P 37 [dB t, dB t] (T true) := by
  refine CallsA.body (E := E) (fn := Tryz.f37) Tryz.func37 rfl fun B hB => ?_
  simp only [Tryz.ntmps37, go_sem, nl, Nat.reduceSub, Nat.reduceAdd, List.reduceReplicate]
  refine Wp.seqK fun K1 hK1 => ?_
  refine rg ?_
  refine hK1 _ ?_
  clear hK1 K1
  refine Wp.seqK fun K2 hK2 => ?_
  refine Wp.seqK fun K3 hK3 => ?_
  refine rg ?_
  refine hK3 _ ?_
  clear hK3 K3
  refine Wp.condS (fun h10 => ?_) (fun h10 => ?_)
  · first | exact h10.elim | exact absurd h10 (by decide) | omega | simp at h10
  · refine Wp.skip ?_
    refine hK2 _ ?_
    clear hK2 K2
    refine Wp.seqK fun K4 hK4 => ?_
    refine Wp.seqK fun K5 hK5 => ?_
    refine rg ?_
    refine hK5 _ ?_
    clear hK5 K5
    refine Wp.block ?_
    refine Wp.loopU0 (α := Nat) (fun x => [.k, .k, .d, .d, .d, .v (I x), .d5, .d5, .d5, .d5]) (fun x => x ≤ t.length) (fun x => t.length - x) 0 (Nat.zero_le _) anyS ?_
    rintro x f6 K6 hx hK6
    simp only [updT_k, updT_d, updT_d5, updT_v, updT_nil, Nat.reduceAdd]
    refine Wp.seqK fun K7 hK7 => ?_
    refine Wp.seqK fun K8 hK8 => ?_
    refine rg ?_
    refine hK8 _ ?_
    clear hK8 K8
    refine Wp.condS (fun h14 => ?_) (fun h14 => ?_)
    · have hxl : x < t.length := by omega
      refine Wp.skip ?_
      refine hK7 _ ?_
      clear hK7 K7
      refine Wp.seqK fun K9 hK9 => ?_
      refine Wp.block ?_
      refine Wp.seqK fun K10 hK10 => ?_
      refine Wp.drawI [0, 1, 2, 3, 4, 5, 6, 7] [] (by kernel_rfl) ?_
      refine evd ?_
      refine hK10 _ ?_
      clear hK10 K10
      refine Wp.condS (fun h25 => ?_) (fun h25 => ?_)
      · simp at h25
      · refine Wp.skip ?_
        try simp only [thn, inB, if_true, reduceIte]
        refine hK9 _ ?_
        clear hK9 K9
        refine rg ?_
        refine hK6 (x + 1) _ ?_ ?_ anyS <;> omega
    · have hxl : x = t.length := by omega
      refine Wp.exit ?_
      try simp only [thn, inB, if_true, reduceIte]
      clear hK7 K7
      clear hK6 K6
      refine hK4 _ ?_
      clear hK4 K4
      refine Wp.seqK fun K11 hK11 => ?_
      refine rg ?_
      refine hK11 _ ?_
      clear hK11 K11
      refine Wp.ret (retV ?_)
      try simp only [List.getD_cons_zero, List.getD_cons_succ]
theorem eqSeen_c (s : Sn) : Val E.P 73 [.agg (sl s), .agg (sl s)] (T true) := by
  refine CallsA.body (E := E) (fn := Tryz.f73) Tryz.func73 rfl fun B hB => ?_
  simp only [Tryz.ntmps73, go_sem, nl, Nat.reduceSub, Nat.reduceAdd, List.reduceReplicate]
  refine Wp.seqK fun K1 hK1 => ?_
  refine rg ?_
  refine hK1 _ ?_
  clear hK1 K1
  refine Wp.seqK fun K2 hK2 => ?_
  refine Wp.seqK fun K3 hK3 => ?_
  refine rg ?_
  refine hK3 _ ?_
  clear hK3 K3
  refine Wp.condS (fun h9 => ?_) (fun h9 => ?_)
  · first | exact h9.elim | exact absurd h9 (by decide) | omega | simp at h9
  · refine Wp.skip ?_
    refine hK2 _ ?_
    clear hK2 K2
    refine Wp.seqK fun K4 hK4 => ?_
    refine Wp.seqK fun K5 hK5 => ?_
    refine rg ?_
    refine hK5 _ ?_
    clear hK5 K5
    refine Wp.condS (fun h14 => ?_) (fun h14 => ?_)
    · first | exact h14.elim | exact absurd h14 (by decide) | omega | simp at h14
    · refine Wp.skip ?_
      refine hK4 _ ?_
      clear hK4 K4
      refine Wp.seqK fun K6 hK6 => ?_
      refine rg ?_
      refine hK6 _ ?_
      clear hK6 K6
      refine Wp.ret (retV ?_)
      try simp only [List.getD_cons_zero, List.getD_cons_succ]
theorem eqSeenS_c (t : List Sn) (ht : t.length ≤ 1048576) : Val E.P 40 [dS t, dS t] (T true) := by
  refine CallsA.body (E := E) (fn := Tryz.f40) Tryz.func40 rfl fun B hB => ?_
  simp only [Tryz.ntmps40, go_sem, nl, Nat.reduceSub, Nat.reduceAdd, List.reduceReplicate]
  refine Wp.seqK fun K1 hK1 => ?_
  refine rg ?_
  refine hK1 _ ?_
  clear hK1 K1
  refine Wp.seqK fun K2 hK2 => ?_
  refine Wp.seqK fun K3 hK3 => ?_
  refine rg ?_
  refine hK3 _ ?_
  clear hK3 K3
  refine Wp.condS (fun h10 => ?_) (fun h10 => ?_)
  · first | exact h10.elim | exact absurd h10 (by decide) | omega | simp at h10
  · refine Wp.skip ?_
    refine hK2 _ ?_
    clear hK2 K2
    refine Wp.seqK fun K4 hK4 => ?_
    refine Wp.seqK fun K5 hK5 => ?_
    refine rg ?_
    refine hK5 _ ?_
    clear hK5 K5
    refine Wp.block ?_
    refine Wp.loopU0 (α := Nat) (fun x => [.k, .k, .d, .d, .d, .v (I x), .d5, .d5, .d5, .d5, .d]) (fun x => x ≤ t.length) (fun x => t.length - x) 0 (Nat.zero_le _) anyS ?_
    rintro x f6 K6 hx hK6
    simp only [updT_k, updT_d, updT_d5, updT_v, updT_nil, Nat.reduceAdd]
    refine Wp.seqK fun K7 hK7 => ?_
    refine Wp.seqK fun K8 hK8 => ?_
    refine rg ?_
    refine hK8 _ ?_
    clear hK8 K8
    refine Wp.condS (fun h14 => ?_) (fun h14 => ?_)
    · have hxl : x < t.length := by omega
      refine Wp.skip ?_
      refine hK7 _ ?_
      clear hK7 K7
      refine Wp.seqK fun K9 hK9 => ?_
      refine Wp.block ?_
      refine Wp.seqK fun K10 hK10 => ?_
      refine Wp.drawI [0, 1, 2, 3, 4, 5, 6, 7] [8] (by kernel_rfl) ?_
      refine evd ?_
      refine ⟨rfl, CallK.valA (h := eqSeen_c _) (k := ?_)⟩
      refine evd ?_
      refine hK10 _ ?_
      clear hK10 K10
      refine Wp.condS (fun h26 => ?_) (fun h26 => ?_)
      · simp at h26
      · refine Wp.skip ?_
        try simp only [thn, inB, if_true, reduceIte]
        refine hK9 _ ?_
        clear hK9 K9
        refine rg ?_
        refine hK6 (x + 1) _ ?_ ?_ anyS <;> omega
    · have hxl : x = t.length := by omega
      refine Wp.exit ?_
      try simp only [thn, inB, if_true, reduceIte]
      clear hK7 K7
      clear hK6 K6
      refine hK4 _ ?_
      clear hK4 K4
      refine Wp.seqK fun K11 hK11 => ?_
      refine rg ?_
      refine hK11 _ ?_
      clear hK11 K11
      refine Wp.ret (retV ?_)
      try simp only [List.getD_cons_zero, List.getD_cons_succ]
theorem eqIntS_s (t : List Int) (ht : t.length ≤ 1048576) : Val E.P 39 [dI t, dI t] (T true) := by
  have h := eqIntS_c t t ht ht
  rw [decide_eq_true rfl] at h
  exact h
theorem eqTable_s (n : Int) (o : ByteArray) : Val E.P 38 [.agg (tb n o), .agg (tb n o)] (T true) := by
  have h := eqTable_c n n o o
  rw [decide_eq_true ⟨rfl, rfl⟩] at h
  exact h
theorem eqMachine_c (m : Mc) (h1 : m.row.length ≤ 1048576) (h2 : m.vals.length ≤ 1048576) (h3 : m.memo.length ≤ 1048576) : Val E.P 15 [.agg (mD m), .agg (mD m)] (T true) := by
  refine CallsA.body (E := E) (fn := Tryz.f15) Tryz.func15 rfl fun B hB => ?_
  simp only [Tryz.ntmps15, go_sem, nl, Nat.reduceSub, Nat.reduceAdd, List.reduceReplicate]
  refine Wp.seqK fun K1 hK1 => ?_
  refine rg ?_
  refine hK1 _ ?_
  clear hK1 K1
  refine Wp.seqK fun K2 hK2 => ?_
  refine Wp.seqK fun K3 hK3 => ?_
  refine rg ?_
  refine ⟨rfl, CallK.valA (h := eqBoolS_c _ (by omega)) (k := ?_)⟩
  refine evd ?_
  refine hK3 _ ?_
  clear hK3 K3
  refine Wp.condS (fun h10 => ?_) (fun h10 => ?_)
  · first | exact h10.elim | exact absurd h10 (by decide) | omega | simp at h10
  · refine Wp.skip ?_
    refine hK2 _ ?_
    clear hK2 K2
    refine Wp.seqK fun K4 hK4 => ?_
    refine Wp.seqK fun K5 hK5 => ?_
    refine rg ?_
    refine ⟨rfl, CallK.valA (h := eqTable_s _ _) (k := ?_)⟩
    refine evd ?_
    refine hK5 _ ?_
    clear hK5 K5
    refine Wp.condS (fun h16 => ?_) (fun h16 => ?_)
    · first | exact h16.elim | exact absurd h16 (by decide) | omega | simp at h16
    · refine Wp.skip ?_
      refine hK4 _ ?_
      clear hK4 K4
      refine Wp.seqK fun K6 hK6 => ?_
      refine Wp.seqK fun K7 hK7 => ?_
      refine rg ?_
      refine hK7 _ ?_
      clear hK7 K7
      refine Wp.condS (fun h21 => ?_) (fun h21 => ?_)
      · first | exact h21.elim | exact absurd h21 (by decide) | omega | simp at h21
      · refine Wp.skip ?_
        refine hK6 _ ?_
        clear hK6 K6
        refine Wp.seqK fun K8 hK8 => ?_
        refine Wp.seqK fun K9 hK9 => ?_
        refine rg ?_
        refine ⟨rfl, CallK.valA (h := eqIntS_s _ (by omega)) (k := ?_)⟩
        refine evd ?_
        refine hK9 _ ?_
        clear hK9 K9
        refine Wp.condS (fun h27 => ?_) (fun h27 => ?_)
        · first | exact h27.elim | exact absurd h27 (by decide) | omega | simp at h27
        · refine Wp.skip ?_
          refine hK8 _ ?_
          clear hK8 K8
          refine Wp.seqK fun K10 hK10 => ?_
          refine Wp.seqK fun K11 hK11 => ?_
          refine rg ?_
          refine hK11 _ ?_
          clear hK11 K11
          refine Wp.condS (fun h32 => ?_) (fun h32 => ?_)
          · first | exact h32.elim | exact absurd h32 (by decide) | omega | simp at h32
          · refine Wp.skip ?_
            refine hK10 _ ?_
            clear hK10 K10
            refine Wp.seqK fun K12 hK12 => ?_
            refine Wp.seqK fun K13 hK13 => ?_
            refine rg ?_
            refine hK13 _ ?_
            clear hK13 K13
            refine Wp.condS (fun h37 => ?_) (fun h37 => ?_)
            · simp at h37
            · refine Wp.skip ?_
              refine hK12 _ ?_
              clear hK12 K12
              refine Wp.seqK fun K14 hK14 => ?_
              refine Wp.seqK fun K15 hK15 => ?_
              refine rg ?_
              refine hK15 _ ?_
              clear hK15 K15
              refine Wp.condS (fun h42 => ?_) (fun h42 => ?_)
              · first | exact h42.elim | exact absurd h42 (by decide) | omega | simp at h42
              · refine Wp.skip ?_
                refine hK14 _ ?_
                clear hK14 K14
                refine Wp.seqK fun K16 hK16 => ?_
                refine Wp.seqK fun K17 hK17 => ?_
                refine rg ?_
                refine hK17 _ ?_
                clear hK17 K17
                refine Wp.condS (fun h47 => ?_) (fun h47 => ?_)
                · first | exact h47.elim | exact absurd h47 (by decide) | omega | simp at h47
                · refine Wp.skip ?_
                  refine hK16 _ ?_
                  clear hK16 K16
                  refine Wp.seqK fun K18 hK18 => ?_
                  refine Wp.seqK fun K19 hK19 => ?_
                  refine rg ?_
                  refine hK19 _ ?_
                  clear hK19 K19
                  refine Wp.condS (fun h52 => ?_) (fun h52 => ?_)
                  · first | exact h52.elim | exact absurd h52 (by decide) | omega | simp at h52
                  · refine Wp.skip ?_
                    refine hK18 _ ?_
                    clear hK18 K18
                    refine Wp.seqK fun K20 hK20 => ?_
                    refine Wp.seqK fun K21 hK21 => ?_
                    refine rg ?_
                    refine ⟨rfl, CallK.valA (h := eqSeenS_c _ (by omega)) (k := ?_)⟩
                    refine evd ?_
                    refine hK21 _ ?_
                    clear hK21 K21
                    refine Wp.condS (fun h58 => ?_) (fun h58 => ?_)
                    · first | exact h58.elim | exact absurd h58 (by decide) | omega | simp at h58
                    · refine Wp.skip ?_
                      refine hK20 _ ?_
                      clear hK20 K20
                      refine Wp.seqK fun K22 hK22 => ?_
                      refine rg ?_
                      refine hK22 _ ?_
                      clear hK22 K22
                      refine Wp.ret (retV ?_)
                      try simp only [List.getD_cons_zero, List.getD_cons_succ]
theorem eqJob_c (j : Jb) (h1 : j.m.row.length ≤ 1048576) (h2 : j.m.vals.length ≤ 1048576) (h3 : j.m.memo.length ≤ 1048576) : Val E.P 8 [.agg (jD j), .agg (jD j)] (T true) := by
  refine CallsA.body (E := E) (fn := Tryz.f8) Tryz.func8 rfl fun B hB => ?_
  simp only [Tryz.ntmps8, go_sem, nl, Nat.reduceSub, Nat.reduceAdd, List.reduceReplicate]
  refine Wp.seqK fun K1 hK1 => ?_
  refine rg ?_
  refine hK1 _ ?_
  clear hK1 K1
  refine Wp.seqK fun K2 hK2 => ?_
  refine Wp.seqK fun K3 hK3 => ?_
  refine rg ?_
  refine hK3 _ ?_
  clear hK3 K3
  refine Wp.condS (fun h9 => ?_) (fun h9 => ?_)
  · first | exact h9.elim | exact absurd h9 (by decide) | omega | simp at h9
  · refine Wp.skip ?_
    refine hK2 _ ?_
    clear hK2 K2
    refine Wp.seqK fun K4 hK4 => ?_
    refine Wp.seqK fun K5 hK5 => ?_
    refine rg ?_
    refine ⟨rfl, CallK.valA (h := eqMachine_c _ (by omega) (by omega) (by omega)) (k := ?_)⟩
    refine evd ?_
    refine hK5 _ ?_
    clear hK5 K5
    refine Wp.condS (fun h15 => ?_) (fun h15 => ?_)
    · first | exact h15.elim | exact absurd h15 (by decide) | omega | simp at h15
    · refine Wp.skip ?_
      refine hK4 _ ?_
      clear hK4 K4
      refine Wp.seqK fun K6 hK6 => ?_
      refine Wp.seqK fun K7 hK7 => ?_
      refine rg ?_
      refine hK7 _ ?_
      clear hK7 K7
      refine Wp.condS (fun h20 => ?_) (fun h20 => ?_)
      · first | exact h20.elim | exact absurd h20 (by decide) | omega | simp at h20
      · refine Wp.skip ?_
        refine hK6 _ ?_
        clear hK6 K6
        refine Wp.seqK fun K8 hK8 => ?_
        refine Wp.seqK fun K9 hK9 => ?_
        refine rg ?_
        refine hK9 _ ?_
        clear hK9 K9
        refine Wp.condS (fun h25 => ?_) (fun h25 => ?_)
        · first | exact h25.elim | exact absurd h25 (by decide) | omega | simp at h25
        · refine Wp.skip ?_
          refine hK8 _ ?_
          clear hK8 K8
          refine Wp.seqK fun K10 hK10 => ?_
          refine rg ?_
          refine hK10 _ ?_
          clear hK10 K10
          refine Wp.ret (retV ?_)
          try simp only [List.getD_cons_zero, List.getD_cons_succ]
end Go.Proofs.YtonacngeaknlcaaGreatDoor.RE
