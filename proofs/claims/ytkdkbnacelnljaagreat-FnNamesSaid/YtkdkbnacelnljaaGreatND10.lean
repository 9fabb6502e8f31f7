/- What an operator makes of words. Conditions: those that a theorem names. -/
import Derived.Test.YtkdkbnacelnljaaGreatND9
set_option linter.unusedVariables false
set_option linter.unusedSimpArgs false
namespace Go.Proofs.YtkdkbnacelnljaaGreat.RE
open Go Go.RowKit
set_option maxRecDepth 100000
set_option maxHeartbeats 8000000

def andT (a b : Int) : Int := (ariB .and .i64 a b).getD 0
def orT (a b : Int) : Int := (ariB .or .i64 a b).getD 0
def xorT (a b : Int) : Int := (ariB .xor .i64 a b).getD 0
def binT (op w a b : Int) : Int := if op = 3 then andT a b else if op = 4 then orT a b else if op = 5 then xorT a b else if op = 6 then addT' w a b else if op = 7 then subT w a b else if op = 8 then mulT w a b else if op = 9 then divT w a b else if op = 10 then remT w a b else if op = 11 then shlT w a b else shrT w a b
def appOk (n : Nd) (w a b c : Int) : Bool := ((((decide (1 ≤ n.w) && decide (n.w ≤ 8)) && (decide (1 ≤ w) && decide (w ≤ 8))) && (decide (0 ≤ a) && decide (a ≤ 255))) && (decide (0 ≤ b) && decide (b ≤ 255))) && (decide (0 ≤ c) && decide (c ≤ 255))
theorem appOk_t {n : Nd} {w a b c : Int} (h : appOk n w a b c = true) : (1 ≤ n.w ∧ n.w ≤ 8) ∧ (1 ≤ w ∧ w ≤ 8) ∧ (0 ≤ a ∧ a ≤ 255) ∧ (0 ≤ b ∧ b ≤ 255) ∧ 0 ≤ c ∧ c ≤ 255 := by
  simp only [appOk, Bool.and_eq_true, decide_eq_true_eq] at h
  omega
def appT (n : Nd) (w a b c : Int) : Int := if appOk n w a b c = true then (if n.op = 0 then n.k else if n.op = 2 then flipT n.w a else if 3 ≤ n.op ∧ n.op ≤ 12 then binT n.op n.w a b else if n.op = 13 then bitT (decide (a = b)) else if n.op = 14 then lessT w a b else if n.op = 15 then lessST w a b else if n.op = 16 then (if n.w < w then b else a * 2 ^ (n.w - w).toNat + b) else if n.op = 17 then sliceT w a n.k n.w else if n.op = 18 then (if a = 1 then b else c) else 0) else 0
theorem isByte_c (a : Int) : Val E.P 122 [I a] (T (decide (0 ≤ a) && decide (a ≤ 255))) := by
  refine CallsA.body (E := E) (fn := Tryz.f122) Tryz.func122 rfl fun B hB => ?_
  simp only [Tryz.ntmps122, go_sem, nl, Nat.reduceSub, Nat.reduceAdd, List.reduceReplicate]
  refine Wp.seqK fun K1 hK1 => ?_
  refine rg ?_
  refine hK1 _ ?_
  clear hK1 K1
  refine Wp.seqK fun K2 hK2 => ?_
  refine rg ?_
  refine ⟨rfl, CallK.valA (h := within_c _ _ _) (k := ?_)⟩
  refine evd ?_
  refine hK2 _ ?_
  clear hK2 K2
  refine Wp.ret (retV ?_)
  simp only [List.getD_cons_zero, List.getD_cons_succ]
theorem binary_c (op w a b : Int) : Val E.P 124 [I op, I w, I a, I b] (I (binT op w a b)) := by
  refine CallsA.body (E := E) (fn := Tryz.f124) Tryz.func124 rfl fun B hB => ?_
  simp only [Tryz.ntmps124, go_sem, nl, Nat.reduceSub, Nat.reduceAdd, List.reduceReplicate]
  refine Wp.seqK fun K1 hK1 => ?_
  refine rg ?_
  refine hK1 _ ?_
  clear hK1 K1
  refine Wp.seqK fun K2 hK2 => ?_
  refine Wp.seqK fun K3 hK3 => ?_
  refine rg ?_
  refine hK3 _ ?_
  clear hK3 K3
  refine Wp.block ?_
  refine Wp.seqK fun K4 hK4 => ?_
  refine rg ?_
  refine hK4 _ ?_
  clear hK4 K4
  refine Wp.condS (fun h10 => ?_) (fun h10 => ?_)
  · refine Wp.seqK fun K5 hK5 => ?_
    refine rg ?_
    refine hK5 _ ?_
    clear hK5 K5
    refine Wp.ret (retV ?_)
    simp only [List.getD_cons_zero, List.getD_cons_succ]
    unfold binT
    repeat (first | rw [if_pos (by omega)] | rw [if_neg (by omega)])
    try rfl
  · refine Wp.seqK fun K6 hK6 => ?_
    refine rg ?_
    refine hK6 _ ?_
    clear hK6 K6
    refine Wp.condS (fun h15 => ?_) (fun h15 => ?_)
    · refine Wp.seqK fun K7 hK7 => ?_
      refine rg ?_
      refine hK7 _ ?_
      clear hK7 K7
      refine Wp.ret (retV ?_)
      simp only [List.getD_cons_zero, List.getD_cons_succ]
      unfold binT
      repeat (first | rw [if_pos (by omega)] | rw [if_neg (by omega)])
      try rfl
    · refine Wp.seqK fun K8 hK8 => ?_
      refine rg ?_
      refine hK8 _ ?_
      clear hK8 K8
      refine Wp.condS (fun h20 => ?_) (fun h20 => ?_)
      · refine Wp.seqK fun K9 hK9 => ?_
        refine rg ?_
        refine hK9 _ ?_
        clear hK9 K9
        refine Wp.ret (retV ?_)
        simp only [List.getD_cons_zero, List.getD_cons_succ]
        unfold binT
        repeat (first | rw [if_pos (by omega)] | rw [if_neg (by omega)])
        try rfl
      · refine Wp.seqK fun K10 hK10 => ?_
        refine rg ?_
        refine hK10 _ ?_
        clear hK10 K10
        refine Wp.condS (fun h25 => ?_) (fun h25 => ?_)
        · refine Wp.seqK fun K11 hK11 => ?_
          refine rg ?_
          refine ⟨rfl, CallK.valA (h := iAdd_c _ _ _) (k := ?_)⟩
          refine evd ?_
          refine hK11 _ ?_
          clear hK11 K11
          refine Wp.ret (retV ?_)
          simp only [List.getD_cons_zero, List.getD_cons_succ]
          unfold binT
          repeat (first | rw [if_pos (by omega)] | rw [if_neg (by omega)])
          try rfl
        · refine Wp.seqK fun K12 hK12 => ?_
          refine rg ?_
          refine hK12 _ ?_
          clear hK12 K12
          refine Wp.condS (fun h31 => ?_) (fun h31 => ?_)
          · refine Wp.seqK fun K13 hK13 => ?_
            refine rg ?_
            refine ⟨rfl, CallK.valA (h := iSub_c _ _ _) (k := ?_)⟩
            refine evd ?_
            refine hK13 _ ?_
            clear hK13 K13
            refine Wp.ret (retV ?_)
            simp only [List.getD_cons_zero, List.getD_cons_succ]
            unfold binT
            repeat (first | rw [if_pos (by omega)] | rw [if_neg (by omega)])
            try rfl
          · refine Wp.seqK fun K14 hK14 => ?_
            refine rg ?_
            refine hK14 _ ?_
            clear hK14 K14
            refine Wp.condS (fun h37 => ?_) (fun h37 => ?_)
            · refine Wp.seqK fun K15 hK15 => ?_
              refine rg ?_
              refine ⟨rfl, CallK.valA (h := iMul_c _ _ _) (k := ?_)⟩
              refine evd ?_
              refine hK15 _ ?_
              clear hK15 K15
              refine Wp.ret (retV ?_)
              simp only [List.getD_cons_zero, List.getD_cons_succ]
              unfold binT
              repeat (first | rw [if_pos (by omega)] | rw [if_neg (by omega)])
              try rfl
            · refine Wp.seqK fun K16 hK16 => ?_
              refine rg ?_
              refine hK16 _ ?_
              clear hK16 K16
              refine Wp.condS (fun h43 => ?_) (fun h43 => ?_)
              · refine Wp.seqK fun K17 hK17 => ?_
                refine rg ?_
                refine ⟨rfl, CallK.valA (h := iDiv_c _ _ _) (k := ?_)⟩
                refine evd ?_
                refine hK17 _ ?_
                clear hK17 K17
                refine Wp.ret (retV ?_)
                simp only [List.getD_cons_zero, List.getD_cons_succ]
                unfold binT
                repeat (first | rw [if_pos (by omega)] | rw [if_neg (by omega)])
                try rfl
              · refine Wp.seqK fun K18 hK18 => ?_
                refine rg ?_
                refine hK18 _ ?_
                clear hK18 K18
                refine Wp.condS (fun h49 => ?_) (fun h49 => ?_)
                · refine Wp.seqK fun K19 hK19 => ?_
                  refine rg ?_
                  refine ⟨rfl, CallK.valA (h := iRem_c _ _ _) (k := ?_)⟩
                  refine evd ?_
                  refine hK19 _ ?_
                  clear hK19 K19
                  refine Wp.ret (retV ?_)
                  simp only [List.getD_cons_zero, List.getD_cons_succ]
                  unfold binT
                  repeat (first | rw [if_pos (by omega)] | rw [if_neg (by omega)])
                  try rfl
                · refine Wp.seqK fun K20 hK20 => ?_
                  refine rg ?_
                  refine hK20 _ ?_
                  clear hK20 K20
                  refine Wp.condS (fun h55 => ?_) (fun h55 => ?_)
                  · refine Wp.seqK fun K21 hK21 => ?_
                    refine rg ?_
                    refine ⟨rfl, CallK.valA (h := iShl_c _ _ _) (k := ?_)⟩
                    refine evd ?_
                    refine hK21 _ ?_
                    clear hK21 K21
                    refine Wp.ret (retV ?_)
                    simp only [List.getD_cons_zero, List.getD_cons_succ]
                    unfold binT
                    repeat (first | rw [if_pos (by omega)] | rw [if_neg (by omega)])
                    try rfl
                  · refine Wp.skip ?_
                    try simp only [thn, inB, if_true, reduceIte]
                    refine hK2 _ ?_
                    clear hK2 K2
                    refine Wp.seqK fun K22 hK22 => ?_
                    refine rg ?_
                    refine ⟨rfl, CallK.valA (h := iShr_c _ _ _) (k := ?_)⟩
                    refine evd ?_
                    refine hK22 _ ?_
                    clear hK22 K22
                    refine Wp.ret (retV ?_)
                    simp only [List.getD_cons_zero, List.getD_cons_succ]
                    unfold binT
                    repeat (first | rw [if_pos (by omega)] | rw [if_neg (by omega)])
                    try rfl
theorem iApply_c (n : Nd) (w a b c : Int) (hk1 : -1000 ≤ n.k) (hk2 : n.k ≤ 1000) : Val E.P 90 [.agg (nl n), I w, I a, I b, I c] (I (appT n w a b c)) := by
  refine CallsA.body (E := E) (fn := Tryz.f90) Tryz.func90 rfl fun B hB => ?_
  simp only [Tryz.ntmps90, go_sem, nl, Nat.reduceSub, Nat.reduceAdd, List.reduceReplicate]
  refine Wp.seqK fun K1 hK1 => ?_
  refine rg ?_
  refine hK1 _ ?_
  clear hK1 K1
  refine Wp.seqK fun K2 hK2 => ?_
  refine Wp.seqU0 [.d, .k, .k, .k, .k, .k, .d5, .d5, .d5, .d5, .d5, .d, .d, .d, .v (T (!appOk n w a b c)), .d5, .d5, .d5, .d5, .d5, .d5, .d5, .d5, .d5, .d5, .d5, .d5, .d5, .d5, .d5, .d5, .d5, .d5, .d5, .d, .d, .d] (fun K3 hK3 => ?_) ?_
  · refine rg ?_
    refine ⟨rfl, CallK.valA (h := isWidth_c _) (k := ?_)⟩
    refine evd ?_
    refine grdA_split rfl (fun g1_5 => ?_) (fun g1_5 => ?_)
    · try simp only [Bool.not_eq_true', Bool.not_eq_false'] at g1_5
      refine evd ?_
      exact hK3 _ (anyS (h := by first | rfl | (simp only [g1_5, appOk, Bool.true_or, Bool.or_true, Bool.false_or, Bool.or_false, Bool.true_and, Bool.and_true, Bool.false_and, Bool.and_false, Bool.not_true, Bool.not_false, decide_true, decide_false, eq_self, Int.reduceEq] <;> rfl)))
    · try simp only [Bool.not_eq_true', Bool.not_eq_false'] at g1_5
      refine evd ?_
      refine ⟨rfl, CallK.valA (h := isWidth_c _) (k := ?_)⟩
      refine evd ?_
      refine grdA_split rfl (fun g1_10 => ?_) (fun g1_10 => ?_)
      · try simp only [Bool.not_eq_true', Bool.not_eq_false'] at g1_10
        refine evd ?_
        exact hK3 _ (anyS (h := by first | rfl | (simp only [g1_5, g1_10, appOk, Bool.true_or, Bool.or_true, Bool.false_or, Bool.or_false, Bool.true_and, Bool.and_true, Bool.false_and, Bool.and_false, Bool.not_true, Bool.not_false, decide_true, decide_false, eq_self, Int.reduceEq] <;> rfl)))
      · try simp only [Bool.not_eq_true', Bool.not_eq_false'] at g1_10
        refine evd ?_
        refine ⟨rfl, CallK.valA (h := isByte_c _) (k := ?_)⟩
        refine evd ?_
        refine grdA_split rfl (fun g1_15 => ?_) (fun g1_15 => ?_)
        · try simp only [Bool.not_eq_true', Bool.not_eq_false'] at g1_15
          refine evd ?_
          exact hK3 _ (anyS (h := by first | rfl | (simp only [g1_5, g1_10, g1_15, appOk, Bool.true_or, Bool.or_true, Bool.false_or, Bool.or_false, Bool.true_and, Bool.and_true, Bool.false_and, Bool.and_false, Bool.not_true, Bool.not_false, decide_true, decide_false, eq_self, Int.reduceEq] <;> rfl)))
        · try simp only [Bool.not_eq_true', Bool.not_eq_false'] at g1_15
          refine evd ?_
          refine ⟨rfl, CallK.valA (h := isByte_c _) (k := ?_)⟩
          refine evd ?_
          refine grdA_split rfl (fun g1_20 => ?_) (fun g1_20 => ?_)
          · try simp only [Bool.not_eq_true', Bool.not_eq_false'] at g1_20
            refine evd ?_
            exact hK3 _ (anyS (h := by first | rfl | (simp only [g1_5, g1_10, g1_15, g1_20, appOk, Bool.true_or, Bool.or_true, Bool.false_or, Bool.or_false, Bool.true_and, Bool.and_true, Bool.false_and, Bool.and_false, Bool.not_true, Bool.not_false, decide_true, decide_false, eq_self, Int.reduceEq] <;> rfl)))
          · try simp only [Bool.not_eq_true', Bool.not_eq_false'] at g1_20
            refine evd ?_
            refine ⟨rfl, CallK.valA (h := isByte_c _) (k := ?_)⟩
            refine evd ?_
            exact hK3 _ (anyS (h := by first | rfl | (simp only [g1_5, g1_10, g1_15, g1_20, appOk, Bool.true_or, Bool.or_true, Bool.false_or, Bool.or_false, Bool.true_and, Bool.and_true, Bool.false_and, Bool.and_false, Bool.not_true, Bool.not_false, decide_true, decide_false, eq_self, Int.reduceEq] <;> rfl)))
  rintro f3
  simp only [updT_k, updT_d, updT_d5, updT_v, updT_nil, Nat.reduceAdd]
  refine Wp.condS (fun h34 => ?_) (fun h34 => ?_)
  · refine Wp.seqK fun K4 hK4 => ?_
    refine rg ?_
    refine hK4 _ ?_
    clear hK4 K4
    refine Wp.ret (retV ?_)
    simp only [List.getD_cons_zero, List.getD_cons_succ]
    unfold appT; rw [if_neg (by rw [h34]; decide)]
  · have hok : appOk n w a b c = true := h34
    have hd := appOk_t hok
    refine Wp.skip ?_
    refine hK2 _ ?_
    clear hK2 K2
    refine Wp.seqK fun K5 hK5 => ?_
    refine Wp.block ?_
    refine Wp.seqK fun K6 hK6 => ?_
    refine rg ?_
    refine hK6 _ ?_
    clear hK6 K6
    refine Wp.condS (fun h35 => ?_) (fun h35 => ?_)
    · refine Wp.seqK fun K7 hK7 => ?_
      refine rg ?_
      refine hK7 _ ?_
      clear hK7 K7
      refine Wp.ret (retV ?_)
      simp only [List.getD_cons_zero, List.getD_cons_succ]
      unfold appT
      rw [if_pos hok]
      repeat (first | rw [if_pos (by omega)] | rw [if_neg (by omega)])
      try rfl
      try unfold binT
      repeat (first | rw [if_pos (by omega)] | rw [if_neg (by omega)])
      try rfl
    · refine Wp.seqK fun K8 hK8 => ?_
      refine rg ?_
      refine hK8 _ ?_
      clear hK8 K8
      refine Wp.condS (fun h41 => ?_) (fun h41 => ?_)
      · refine Wp.seqK fun K9 hK9 => ?_
        refine rg ?_
        refine ⟨rfl, CallK.valA (h := iFlip_c _ _) (k := ?_)⟩
        refine evd ?_
        refine hK9 _ ?_
        clear hK9 K9
        refine Wp.ret (retV ?_)
        simp only [List.getD_cons_zero, List.getD_cons_succ]
        unfold appT
        rw [if_pos hok]
        repeat (first | rw [if_pos (by omega)] | rw [if_neg (by omega)])
        try rfl
        try unfold binT
        repeat (first | rw [if_pos (by omega)] | rw [if_neg (by omega)])
        try rfl
      · refine Wp.seqK fun K10 hK10 => ?_
        refine rg ?_
        refine ⟨rfl, CallK.valA (h := within_c _ _ _) (k := ?_)⟩
        refine evd ?_
        refine hK10 _ ?_
        clear hK10 K10
        refine Wp.condS (fun h49 => ?_) (fun h49 => ?_)
        · refine Wp.seqK fun K11 hK11 => ?_
          refine rg ?_
          refine ⟨rfl, CallK.valA (h := binary_c _ _ _ _) (k := ?_)⟩
          refine evd ?_
          refine hK11 _ ?_
          clear hK11 K11
          refine Wp.ret (retV ?_)
          simp only [List.getD_cons_zero, List.getD_cons_succ]
          unfold appT
          rw [if_pos hok]
          repeat (first | rw [if_pos (by omega)] | rw [if_neg (by omega)])
          try rfl
          try unfold binT
          repeat (first | rw [if_pos (by omega)] | rw [if_neg (by omega)])
          try rfl
        · have h49n : ¬ (3 ≤ n.op ∧ n.op ≤ 12) := by
            rintro ⟨x, y⟩
            rw [decide_eq_true x, decide_eq_true y] at h49
            cases h49
          refine Wp.seqK fun K12 hK12 => ?_
          refine rg ?_
          refine hK12 _ ?_
          clear hK12 K12
          refine Wp.condS (fun h60 => ?_) (fun h60 => ?_)
          · refine Wp.seqK fun K13 hK13 => ?_
            refine rg ?_
            refine ⟨rfl, CallK.valA (h := iBit_c _) (k := ?_)⟩
            refine evd ?_
            refine hK13 _ ?_
            clear hK13 K13
            refine Wp.ret (retV ?_)
            simp only [List.getD_cons_zero, List.getD_cons_succ]
            unfold appT
            rw [if_pos hok]
            repeat (first | rw [if_pos (by omega)] | rw [if_neg (by omega)])
            try rfl
            try unfold binT
            repeat (first | rw [if_pos (by omega)] | rw [if_neg (by omega)])
            try rfl
          · refine Wp.seqK fun K14 hK14 => ?_
            refine rg ?_
            refine hK14 _ ?_
            clear hK14 K14
            refine Wp.condS (fun h68 => ?_) (fun h68 => ?_)
            · refine Wp.seqK fun K15 hK15 => ?_
              refine rg ?_
              refine ⟨rfl, CallK.valA (h := iLess_c _ _ _) (k := ?_)⟩
              refine evd ?_
              refine hK15 _ ?_
              clear hK15 K15
              refine Wp.ret (retV ?_)
              simp only [List.getD_cons_zero, List.getD_cons_succ]
              unfold appT
              rw [if_pos hok]
              repeat (first | rw [if_pos (by omega)] | rw [if_neg (by omega)])
              try rfl
              try unfold binT
              repeat (first | rw [if_pos (by omega)] | rw [if_neg (by omega)])
              try rfl
            · refine Wp.seqK fun K16 hK16 => ?_
              refine rg ?_
              refine hK16 _ ?_
              clear hK16 K16
              refine Wp.condS (fun h76 => ?_) (fun h76 => ?_)
              · refine Wp.seqK fun K17 hK17 => ?_
                refine rg ?_
                refine ⟨rfl, CallK.valA (h := iLessSigned_c _ _ _) (k := ?_)⟩
                refine evd ?_
                refine hK17 _ ?_
                clear hK17 K17
                refine Wp.ret (retV ?_)
                simp only [List.getD_cons_zero, List.getD_cons_succ]
                unfold appT
                rw [if_pos hok]
                repeat (first | rw [if_pos (by omega)] | rw [if_neg (by omega)])
                try rfl
                try unfold binT
                repeat (first | rw [if_pos (by omega)] | rw [if_neg (by omega)])
                try rfl
              · refine Wp.seqU0 [.d, .k, .k, .k, .k, .k, .d5, .d5, .d5, .d5, .d5, .d5, .d5, .d5, .d5, .d5, .d5, .d5, .d5, .d5, .d5, .d, .d, .d, .v (T (decide (n.op = 16) && decide (n.w < w))), .d5, .d5, .d5, .d5, .d5, .d5, .d5, .d5, .d5, .d, .d, .d] (fun K18 hK18 => ?_) ?_
                · refine rg ?_
                  refine grdA_split rfl (fun g15_4 => ?_) (fun g15_4 => ?_)
                  · try simp only [decide_eq_true_eq, decide_eq_false_iff_not] at g15_4
                    refine evd ?_
                    exact hK18 _ (anyS (h := by first | rfl | (simp only [g15_4, Bool.true_or, Bool.or_true, Bool.false_or, Bool.or_false, Bool.true_and, Bool.and_true, Bool.false_and, Bool.and_false, Bool.not_true, Bool.not_false, decide_true, decide_false, eq_self, Int.reduceEq] <;> rfl)))
                  · try simp only [decide_eq_true_eq, decide_eq_false_iff_not] at g15_4
                    refine evd ?_
                    exact hK18 _ (anyS (h := by first | rfl | (simp only [g15_4, Bool.true_or, Bool.or_true, Bool.false_or, Bool.or_false, Bool.true_and, Bool.and_true, Bool.false_and, Bool.and_false, Bool.not_true, Bool.not_false, decide_true, decide_false, eq_self, Int.reduceEq] <;> rfl)))
                rintro f18
                simp only [updT_k, updT_d, updT_d5, updT_v, updT_nil, Nat.reduceAdd]
                refine Wp.condS (fun h84 => ?_) (fun h84 => ?_)
                · refine Wp.seqK fun K19 hK19 => ?_
                  refine rg ?_
                  refine hK19 _ ?_
                  clear hK19 K19
                  refine Wp.ret (retV ?_)
                  simp only [List.getD_cons_zero, List.getD_cons_succ]
                  unfold appT
                  rw [if_pos hok]
                  repeat (first | rw [if_pos (by omega)] | rw [if_neg (by omega)])
                  try rfl
                  try unfold binT
                  repeat (first | rw [if_pos (by omega)] | rw [if_neg (by omega)])
                  try rfl
                · have h84n : ¬ (n.op = 16 ∧ n.w < w) := by
                    rintro ⟨x, y⟩
                    rw [decide_eq_true x, decide_eq_true y] at h84
                    cases h84
                  refine Wp.seqK fun K20 hK20 => ?_
                  refine rg ?_
                  refine hK20 _ ?_
                  clear hK20 K20
                  refine Wp.condS (fun h95 => ?_) (fun h95 => ?_)
                  · refine Wp.seqK fun K21 hK21 => ?_
                    have hp := pw (w := n.w - w) (by omega) (by omega)
                    have hm := mul_b (a := a) (b := 2 ^ (n.w - w).toNat) (by omega) (by omega) (by omega) (by omega)
                    refine rg ?_
                    refine hK21 _ ?_
                    clear hK21 K21
                    refine Wp.ret (retV ?_)
                    simp only [List.getD_cons_zero, List.getD_cons_succ]
                    unfold appT
                    rw [if_pos hok]
                    repeat (first | rw [if_pos (by omega)] | rw [if_neg (by omega)])
                    try rfl
                    try unfold binT
                    repeat (first | rw [if_pos (by omega)] | rw [if_neg (by omega)])
                    try rfl
                  · refine Wp.seqK fun K22 hK22 => ?_
                    refine rg ?_
                    refine hK22 _ ?_
                    clear hK22 K22
                    refine Wp.condS (fun h108 => ?_) (fun h108 => ?_)
                    · refine Wp.seqK fun K23 hK23 => ?_
                      refine rg ?_
                      refine ⟨rfl, CallK.valA (h := iSlice_c _ _ _ _ (by omega) (by omega)) (k := ?_)⟩
                      refine evd ?_
                      refine hK23 _ ?_
                      clear hK23 K23
                      refine Wp.ret (retV ?_)
                      simp only [List.getD_cons_zero, List.getD_cons_succ]
                      unfold appT
                      rw [if_pos hok]
                      repeat (first | rw [if_pos (by omega)] | rw [if_neg (by omega)])
                      try rfl
                      try unfold binT
                      repeat (first | rw [if_pos (by omega)] | rw [if_neg (by omega)])
                      try rfl
                    · refine Wp.seqU0 [.d, .d, .d, .k, .k, .k, .d5, .d5, .d5, .d5, .d5, .d5, .d5, .d5, .d5, .d5, .d5, .d5, .d5, .d5, .d5, .d5, .d5, .d5, .d5, .d5, .d5, .d5, .d, .d, .d, .v (T (decide (n.op = 18) && decide (a = 1))), .d5, .d5, .d, .d, .d] (fun K24 hK24 => ?_) ?_
                      · refine rg ?_
                        refine grdA_split rfl (fun g21_4 => ?_) (fun g21_4 => ?_)
                        · try simp only [decide_eq_true_eq, decide_eq_false_iff_not] at g21_4
                          refine evd ?_
                          exact hK24 _ (anyS (h := by first | rfl | (simp only [g21_4, Bool.true_or, Bool.or_true, Bool.false_or, Bool.or_false, Bool.true_and, Bool.and_true, Bool.false_and, Bool.and_false, Bool.not_true, Bool.not_false, decide_true, decide_false, eq_self, Int.reduceEq] <;> rfl)))
                        · try simp only [decide_eq_true_eq, decide_eq_false_iff_not] at g21_4
                          refine evd ?_
                          exact hK24 _ (anyS (h := by first | rfl | (simp only [g21_4, Bool.true_or, Bool.or_true, Bool.false_or, Bool.or_false, Bool.true_and, Bool.and_true, Bool.false_and, Bool.and_false, Bool.not_true, Bool.not_false, decide_true, decide_false, eq_self, Int.reduceEq] <;> rfl)))
                      rintro f24
                      simp only [updT_k, updT_d, updT_d5, updT_v, updT_nil, Nat.reduceAdd]
                      refine Wp.condS (fun h119 => ?_) (fun h119 => ?_)
                      · refine Wp.seqK fun K25 hK25 => ?_
                        refine rg ?_
                        refine hK25 _ ?_
                        clear hK25 K25
                        refine Wp.ret (retV ?_)
                        simp only [List.getD_cons_zero, List.getD_cons_succ]
                        unfold appT
                        rw [if_pos hok]
                        repeat (first | rw [if_pos (by omega)] | rw [if_neg (by omega)])
                        try rfl
                        try unfold binT
                        repeat (first | rw [if_pos (by omega)] | rw [if_neg (by omega)])
                        try rfl
                      · have h119n : ¬ (n.op = 18 ∧ a = 1) := by
                          rintro ⟨x, y⟩
                          rw [decide_eq_true x, decide_eq_true y] at h119
                          cases h119
                        refine Wp.seqK fun K26 hK26 => ?_
                        refine rg ?_
                        refine hK26 _ ?_
                        clear hK26 K26
                        refine Wp.condS (fun h128 => ?_) (fun h128 => ?_)
                        · refine Wp.seqK fun K27 hK27 => ?_
                          refine rg ?_
                          refine hK27 _ ?_
                          clear hK27 K27
                          refine Wp.ret (retV ?_)
                          simp only [List.getD_cons_zero, List.getD_cons_succ]
                          unfold appT
                          rw [if_pos hok]
                          repeat (first | rw [if_pos (by omega)] | rw [if_neg (by omega)])
                          try rfl
                          try unfold binT
                          repeat (first | rw [if_pos (by omega)] | rw [if_neg (by omega)])
                          try rfl
                        · refine Wp.skip ?_
                          try simp only [thn, inB, if_true, reduceIte]
                          refine hK5 _ ?_
                          clear hK5 K5
                          refine Wp.seqK fun K28 hK28 => ?_
                          refine rg ?_
                          refine hK28 _ ?_
                          clear hK28 K28
                          refine Wp.ret (retV ?_)
                          simp only [List.getD_cons_zero, List.getD_cons_succ]
                          unfold appT
                          rw [if_pos hok]
                          repeat (first | rw [if_pos (by omega)] | rw [if_neg (by omega)])
                          try rfl
                          try unfold binT
                          repeat (first | rw [if_pos (by omega)] | rw [if_neg (by omega)])
                          try rfl
theorem sApply_c (n : Nd) (w a b c : Int) (hk1 : -1000 ≤ n.k) (hk2 : n.k ≤ 1000) : Val E.P 83 [.agg (nl n), I w, I a, I b, I c] (I (appT n w a b c)) := by
  refine CallsA.body (E := E) (fn := Tryz.f83) Tryz.func83 rfl fun B hB => ?_
  simp only [Tryz.ntmps83, go_sem, nl, Nat.reduceSub, Nat.reduceAdd, List.reduceReplicate]
  refine Wp.seqK fun K1 hK1 => ?_
  refine rg ?_
  refine hK1 _ ?_
  clear hK1 K1
  refine Wp.seqK fun K2 hK2 => ?_
  refine Wp.seqU0 [.d, .k, .k, .k, .k, .k, .d5, .d5, .d5, .d5, .d5, .d, .d, .d, .v (T (!appOk n w a b c)), .d5, .d5, .d5, .d5, .d5, .d5, .d5, .d5, .d5, .d5, .d5, .d5, .d5, .d5, .d5, .d5, .d5, .d5, .d5, .d5, .d5, .d5, .d5, .d5, .d5] (fun K3 hK3 => ?_) ?_
  · refine rg ?_
    refine ⟨rfl, CallK.valA (h := l01In_c _ _ _) (k := ?_)⟩
    refine evd ?_
    refine grdA_split rfl (fun g1_5 => ?_) (fun g1_5 => ?_)
    · try simp only [Bool.not_eq_true', Bool.not_eq_false'] at g1_5
      refine evd ?_
      exact hK3 _ (anyS (h := by first | rfl | (simp only [g1_5, appOk, Bool.true_or, Bool.or_true, Bool.false_or, Bool.or_false, Bool.true_and, Bool.and_true, Bool.false_and, Bool.and_false, Bool.not_true, Bool.not_false, decide_true, decide_false, eq_self, Int.reduceEq] <;> rfl)))
    · try simp only [Bool.not_eq_true', Bool.not_eq_false'] at g1_5
      refine evd ?_
      refine ⟨rfl, CallK.valA (h := l01In_c _ _ _) (k := ?_)⟩
      refine evd ?_
      refine grdA_split rfl (fun g1_10 => ?_) (fun g1_10 => ?_)
      · try simp only [Bool.not_eq_true', Bool.not_eq_false'] at g1_10
        refine evd ?_
        exact hK3 _ (anyS (h := by first | rfl | (simp only [g1_5, g1_10, appOk, Bool.true_or, Bool.or_true, Bool.false_or, Bool.or_false, Bool.true_and, Bool.and_true, Bool.false_and, Bool.and_false, Bool.not_true, Bool.not_false, decide_true, decide_false, eq_self, Int.reduceEq] <;> rfl)))
      · try simp only [Bool.not_eq_true', Bool.not_eq_false'] at g1_10
        refine evd ?_
        refine ⟨rfl, CallK.valA (h := l01In_c _ _ _) (k := ?_)⟩
        refine evd ?_
        refine grdA_split rfl (fun g1_15 => ?_) (fun g1_15 => ?_)
        · try simp only [Bool.not_eq_true', Bool.not_eq_false'] at g1_15
          refine evd ?_
          exact hK3 _ (anyS (h := by first | rfl | (simp only [g1_5, g1_10, g1_15, appOk, Bool.true_or, Bool.or_true, Bool.false_or, Bool.or_false, Bool.true_and, Bool.and_true, Bool.false_and, Bool.and_false, Bool.not_true, Bool.not_false, decide_true, decide_false, eq_self, Int.reduceEq] <;> rfl)))
        · try simp only [Bool.not_eq_true', Bool.not_eq_false'] at g1_15
          refine evd ?_
          refine ⟨rfl, CallK.valA (h := l01In_c _ _ _) (k := ?_)⟩
          refine evd ?_
          refine grdA_split rfl (fun g1_20 => ?_) (fun g1_20 => ?_)
          · try simp only [Bool.not_eq_true', Bool.not_eq_false'] at g1_20
            refine evd ?_
            exact hK3 _ (anyS (h := by first | rfl | (simp only [g1_5, g1_10, g1_15, g1_20, appOk, Bool.true_or, Bool.or_true, Bool.false_or, Bool.or_false, Bool.true_and, Bool.and_true, Bool.false_and, Bool.and_false, Bool.not_true, Bool.not_false, decide_true, decide_false, eq_self, Int.reduceEq] <;> rfl)))
          · try simp only [Bool.not_eq_true', Bool.not_eq_false'] at g1_20
            refine evd ?_
            refine ⟨rfl, CallK.valA (h := l01In_c _ _ _) (k := ?_)⟩
            refine evd ?_
            exact hK3 _ (anyS (h := by first | rfl | (simp only [g1_5, g1_10, g1_15, g1_20, appOk, Bool.true_or, Bool.or_true, Bool.false_or, Bool.or_false, Bool.true_and, Bool.and_true, Bool.false_and, Bool.and_false, Bool.not_true, Bool.not_false, decide_true, decide_false, eq_self, Int.reduceEq] <;> rfl)))
  rintro f3
  simp only [updT_k, updT_d, updT_d5, updT_v, updT_nil, Nat.reduceAdd]
  refine Wp.condS (fun h34 => ?_) (fun h34 => ?_)
  · refine Wp.seqK fun K4 hK4 => ?_
    refine rg ?_
    refine hK4 _ ?_
    clear hK4 K4
    refine Wp.ret (retV ?_)
    simp only [List.getD_cons_zero, List.getD_cons_succ]
    unfold appT; rw [if_neg (by rw [h34]; decide)]
  · have hok : appOk n w a b c = true := h34
    have hd := appOk_t hok
    refine Wp.skip ?_
    refine hK2 _ ?_
    clear hK2 K2
    refine Wp.seqK fun K5 hK5 => ?_
    refine Wp.seqK fun K6 hK6 => ?_
    refine rg ?_
    refine hK6 _ ?_
    clear hK6 K6
    refine Wp.block ?_
    refine Wp.seqK fun K7 hK7 => ?_
    refine rg ?_
    refine hK7 _ ?_
    clear hK7 K7
    refine Wp.condS (fun h37 => ?_) (fun h37 => ?_)
    · refine Wp.seqK fun K8 hK8 => ?_
      refine rg ?_
      refine hK8 _ ?_
      clear hK8 K8
      refine Wp.ret (retV ?_)
      simp only [List.getD_cons_zero, List.getD_cons_succ]
      unfold appT
      rw [if_pos hok]
      repeat (first | rw [if_pos (by omega)] | rw [if_neg (by omega)])
      try rfl
      try unfold binT
      repeat (first | rw [if_pos (by omega)] | rw [if_neg (by omega)])
      try rfl
    · refine Wp.seqK fun K9 hK9 => ?_
      refine rg ?_
      refine hK9 _ ?_
      clear hK9 K9
      refine Wp.condS (fun h41 => ?_) (fun h41 => ?_)
      · refine Wp.seqK fun K10 hK10 => ?_
        refine rg ?_
        refine ⟨rfl, CallK.valA (h := sFlip_c _ _) (k := ?_)⟩
        refine evd ?_
        refine hK10 _ ?_
        clear hK10 K10
        refine Wp.ret (retV ?_)
        simp only [List.getD_cons_zero, List.getD_cons_succ]
        unfold appT
        rw [if_pos hok]
        repeat (first | rw [if_pos (by omega)] | rw [if_neg (by omega)])
        try rfl
        try unfold binT
        repeat (first | rw [if_pos (by omega)] | rw [if_neg (by omega)])
        try rfl
      · refine Wp.seqK fun K11 hK11 => ?_
        refine rg ?_
        refine hK11 _ ?_
        clear hK11 K11
        refine Wp.condS (fun h47 => ?_) (fun h47 => ?_)
        · refine Wp.seqK fun K12 hK12 => ?_
          refine rg ?_
          refine hK12 _ ?_
          clear hK12 K12
          refine Wp.ret (retV ?_)
          simp only [List.getD_cons_zero, List.getD_cons_succ]
          unfold appT
          rw [if_pos hok]
          repeat (first | rw [if_pos (by omega)] | rw [if_neg (by omega)])
          try rfl
          try unfold binT
          repeat (first | rw [if_pos (by omega)] | rw [if_neg (by omega)])
          try rfl
        · refine Wp.seqK fun K13 hK13 => ?_
          refine rg ?_
          refine hK13 _ ?_
          clear hK13 K13
          refine Wp.condS (fun h52 => ?_) (fun h52 => ?_)
          · refine Wp.seqK fun K14 hK14 => ?_
            refine rg ?_
            refine hK14 _ ?_
            clear hK14 K14
            refine Wp.ret (retV ?_)
            simp only [List.getD_cons_zero, List.getD_cons_succ]
            unfold appT
            rw [if_pos hok]
            repeat (first | rw [if_pos (by omega)] | rw [if_neg (by omega)])
            try rfl
            try unfold binT
            repeat (first | rw [if_pos (by omega)] | rw [if_neg (by omega)])
            try rfl
          · refine Wp.seqK fun K15 hK15 => ?_
            refine rg ?_
            refine hK15 _ ?_
            clear hK15 K15
            refine Wp.condS (fun h57 => ?_) (fun h57 => ?_)
            · refine Wp.seqK fun K16 hK16 => ?_
              refine rg ?_
              refine hK16 _ ?_
              clear hK16 K16
              refine Wp.ret (retV ?_)
              simp only [List.getD_cons_zero, List.getD_cons_succ]
              unfold appT
              rw [if_pos hok]
              repeat (first | rw [if_pos (by omega)] | rw [if_neg (by omega)])
              try rfl
              try unfold binT
              repeat (first | rw [if_pos (by omega)] | rw [if_neg (by omega)])
              try rfl
            · refine Wp.seqK fun K17 hK17 => ?_
              refine rg ?_
              refine hK17 _ ?_
              clear hK17 K17
              refine Wp.condS (fun h62 => ?_) (fun h62 => ?_)
              · refine Wp.seqK fun K18 hK18 => ?_
                refine rg ?_
                refine ⟨rfl, CallK.valA (h := sAdd_c _ _ _) (k := ?_)⟩
                refine evd ?_
                refine hK18 _ ?_
                clear hK18 K18
                refine Wp.ret (retV ?_)
                simp only [List.getD_cons_zero, List.getD_cons_succ]
                unfold appT
                rw [if_pos hok]
                repeat (first | rw [if_pos (by omega)] | rw [if_neg (by omega)])
                try rfl
                try unfold binT
                repeat (first | rw [if_pos (by omega)] | rw [if_neg (by omega)])
                try rfl
              · refine Wp.seqK fun K19 hK19 => ?_
                refine rg ?_
                refine hK19 _ ?_
                clear hK19 K19
                refine Wp.condS (fun h69 => ?_) (fun h69 => ?_)
                · refine Wp.seqK fun K20 hK20 => ?_
                  refine rg ?_
                  refine ⟨rfl, CallK.valA (h := sSub_c _ _ _) (k := ?_)⟩
                  refine evd ?_
                  refine hK20 _ ?_
                  clear hK20 K20
                  refine Wp.ret (retV ?_)
                  simp only [List.getD_cons_zero, List.getD_cons_succ]
                  unfold appT
                  rw [if_pos hok]
                  repeat (first | rw [if_pos (by omega)] | rw [if_neg (by omega)])
                  try rfl
                  try unfold binT
                  repeat (first | rw [if_pos (by omega)] | rw [if_neg (by omega)])
                  try rfl
                · refine Wp.seqK fun K21 hK21 => ?_
                  refine rg ?_
                  refine hK21 _ ?_
                  clear hK21 K21
                  refine Wp.condS (fun h76 => ?_) (fun h76 => ?_)
                  · refine Wp.seqK fun K22 hK22 => ?_
                    refine rg ?_
                    refine ⟨rfl, CallK.valA (h := sMul_c _ _ _) (k := ?_)⟩
                    refine evd ?_
                    refine hK22 _ ?_
                    clear hK22 K22
                    refine Wp.ret (retV ?_)
                    simp only [List.getD_cons_zero, List.getD_cons_succ]
                    unfold appT
                    rw [if_pos hok]
                    repeat (first | rw [if_pos (by omega)] | rw [if_neg (by omega)])
                    try rfl
                    try unfold binT
                    repeat (first | rw [if_pos (by omega)] | rw [if_neg (by omega)])
                    try rfl
                  · refine Wp.seqK fun K23 hK23 => ?_
                    refine rg ?_
                    refine hK23 _ ?_
                    clear hK23 K23
                    refine Wp.condS (fun h83 => ?_) (fun h83 => ?_)
                    · refine Wp.seqK fun K24 hK24 => ?_
                      refine rg ?_
                      refine ⟨rfl, CallK.valA (h := sDiv_c _ _ _) (k := ?_)⟩
                      refine evd ?_
                      refine hK24 _ ?_
                      clear hK24 K24
                      refine Wp.ret (retV ?_)
                      simp only [List.getD_cons_zero, List.getD_cons_succ]
                      unfold appT
                      rw [if_pos hok]
                      repeat (first | rw [if_pos (by omega)] | rw [if_neg (by omega)])
                      try rfl
                      try unfold binT
                      repeat (first | rw [if_pos (by omega)] | rw [if_neg (by omega)])
                      try rfl
                    · refine Wp.seqK fun K25 hK25 => ?_
                      refine rg ?_
                      refine hK25 _ ?_
                      clear hK25 K25
                      refine Wp.condS (fun h90 => ?_) (fun h90 => ?_)
                      · refine Wp.seqK fun K26 hK26 => ?_
                        refine rg ?_
                        refine ⟨rfl, CallK.valA (h := sRem_c _ _ _) (k := ?_)⟩
                        refine evd ?_
                        refine hK26 _ ?_
                        clear hK26 K26
                        refine Wp.ret (retV ?_)
                        simp only [List.getD_cons_zero, List.getD_cons_succ]
                        unfold appT
                        rw [if_pos hok]
                        repeat (first | rw [if_pos (by omega)] | rw [if_neg (by omega)])
                        try rfl
                        try unfold binT
                        repeat (first | rw [if_pos (by omega)] | rw [if_neg (by omega)])
                        try rfl
                      · refine Wp.seqK fun K27 hK27 => ?_
                        refine rg ?_
                        refine hK27 _ ?_
                        clear hK27 K27
                        refine Wp.condS (fun h97 => ?_) (fun h97 => ?_)
                        · refine Wp.seqK fun K28 hK28 => ?_
                          refine rg ?_
                          refine ⟨rfl, CallK.valA (h := sShl_c _ _ _) (k := ?_)⟩
                          refine evd ?_
                          refine hK28 _ ?_
                          clear hK28 K28
                          refine Wp.ret (retV ?_)
                          simp only [List.getD_cons_zero, List.getD_cons_succ]
                          unfold appT
                          rw [if_pos hok]
                          repeat (first | rw [if_pos (by omega)] | rw [if_neg (by omega)])
                          try rfl
                          try unfold binT
                          repeat (first | rw [if_pos (by omega)] | rw [if_neg (by omega)])
                          try rfl
                        · refine Wp.seqK fun K29 hK29 => ?_
                          refine rg ?_
                          refine hK29 _ ?_
                          clear hK29 K29
                          refine Wp.condS (fun h104 => ?_) (fun h104 => ?_)
                          · refine Wp.seqK fun K30 hK30 => ?_
                            refine rg ?_
                            refine ⟨rfl, CallK.valA (h := sShr_c _ _ _) (k := ?_)⟩
                            refine evd ?_
                            refine hK30 _ ?_
                            clear hK30 K30
                            refine Wp.ret (retV ?_)
                            simp only [List.getD_cons_zero, List.getD_cons_succ]
                            unfold appT
                            rw [if_pos hok]
                            repeat (first | rw [if_pos (by omega)] | rw [if_neg (by omega)])
                            try rfl
                            try unfold binT
                            repeat (first | rw [if_pos (by omega)] | rw [if_neg (by omega)])
                            try rfl
                          · refine Wp.seqK fun K31 hK31 => ?_
                            refine rg ?_
                            refine hK31 _ ?_
                            clear hK31 K31
                            refine Wp.condS (fun h111 => ?_) (fun h111 => ?_)
                            · refine Wp.seqK fun K32 hK32 => ?_
                              refine rg ?_
                              refine ⟨rfl, CallK.valA (h := sBit_c _) (k := ?_)⟩
                              refine evd ?_
                              refine hK32 _ ?_
                              clear hK32 K32
                              refine Wp.ret (retV ?_)
                              simp only [List.getD_cons_zero, List.getD_cons_succ]
                              unfold appT
                              rw [if_pos hok]
                              repeat (first | rw [if_pos (by omega)] | rw [if_neg (by omega)])
                              try rfl
                              try unfold binT
                              repeat (first | rw [if_pos (by omega)] | rw [if_neg (by omega)])
                              try rfl
                            · refine Wp.seqK fun K33 hK33 => ?_
                              refine rg ?_
                              refine hK33 _ ?_
                              clear hK33 K33
                              refine Wp.condS (fun h117 => ?_) (fun h117 => ?_)
                              · refine Wp.seqK fun K34 hK34 => ?_
                                refine rg ?_
                                refine ⟨rfl, CallK.valA (h := sLess_c _ _ _) (k := ?_)⟩
                                refine evd ?_
                                refine hK34 _ ?_
                                clear hK34 K34
                                refine Wp.ret (retV ?_)
                                simp only [List.getD_cons_zero, List.getD_cons_succ]
                                unfold appT
                                rw [if_pos hok]
                                repeat (first | rw [if_pos (by omega)] | rw [if_neg (by omega)])
                                try rfl
                                try unfold binT
                                repeat (first | rw [if_pos (by omega)] | rw [if_neg (by omega)])
                                try rfl
                              · refine Wp.seqK fun K35 hK35 => ?_
                                refine rg ?_
                                refine hK35 _ ?_
                                clear hK35 K35
                                refine Wp.condS (fun h123 => ?_) (fun h123 => ?_)
                                · refine Wp.seqK fun K36 hK36 => ?_
                                  refine rg ?_
                                  refine ⟨rfl, CallK.valA (h := sLessSigned_c _ _ _) (k := ?_)⟩
                                  refine evd ?_
                                  refine hK36 _ ?_
                                  clear hK36 K36
                                  refine Wp.ret (retV ?_)
                                  simp only [List.getD_cons_zero, List.getD_cons_succ]
                                  unfold appT
                                  rw [if_pos hok]
                                  repeat (first | rw [if_pos (by omega)] | rw [if_neg (by omega)])
                                  try rfl
                                  try unfold binT
                                  repeat (first | rw [if_pos (by omega)] | rw [if_neg (by omega)])
                                  try rfl
                                · refine Wp.seqK fun K37 hK37 => ?_
                                  refine rg ?_
                                  refine hK37 _ ?_
                                  clear hK37 K37
                                  refine Wp.condS (fun h129 => ?_) (fun h129 => ?_)
                                  · refine Wp.seqK fun K38 hK38 => ?_
                                    refine Wp.seqK fun K39 hK39 => ?_
                                    refine rg ?_
                                    refine hK39 _ ?_
                                    clear hK39 K39
                                    refine Wp.condS (fun h134 => ?_) (fun h134 => ?_)
                                    · refine Wp.seqK fun K40 hK40 => ?_
                                      refine rg ?_
                                      refine hK40 _ ?_
                                      clear hK40 K40
                                      refine Wp.ret (retV ?_)
                                      simp only [List.getD_cons_zero, List.getD_cons_succ]
                                      unfold appT
                                      rw [if_pos hok]
                                      repeat (first | rw [if_pos (by omega)] | rw [if_neg (by omega)])
                                      try rfl
                                      try unfold binT
                                      repeat (first | rw [if_pos (by omega)] | rw [if_neg (by omega)])
                                      try rfl
                                    · refine Wp.skip ?_
                                      refine hK38 _ ?_
                                      clear hK38 K38
                                      refine Wp.seqK fun K41 hK41 => ?_
                                      have hp := pw (w := n.w - w) (by omega) (by omega)
                                      have hm := mul_b (a := a) (b := 2 ^ (n.w - w).toNat) (by omega) (by omega) (by omega) (by omega)
                                      refine rg ?_
                                      refine ⟨rfl, CallK.valA (h := l01Pow2_c _ (by omega) (by omega)) (k := ?_)⟩
                                      refine evd ?_
                                      refine hK41 _ ?_
                                      clear hK41 K41
                                      refine Wp.ret (retV ?_)
                                      simp only [List.getD_cons_zero, List.getD_cons_succ]
                                      unfold appT
                                      rw [if_pos hok]
                                      repeat (first | rw [if_pos (by omega)] | rw [if_neg (by omega)])
                                      try rfl
                                      try unfold binT
                                      repeat (first | rw [if_pos (by omega)] | rw [if_neg (by omega)])
                                      try rfl
                                  · refine Wp.seqK fun K42 hK42 => ?_
                                    refine rg ?_
                                    refine hK42 _ ?_
                                    clear hK42 K42
                                    refine Wp.condS (fun h145 => ?_) (fun h145 => ?_)
                                    · refine Wp.seqK fun K43 hK43 => ?_
                                      refine rg ?_
                                      refine ⟨rfl, CallK.valA (h := sSlice_c _ _ _ _ (by omega) (by omega)) (k := ?_)⟩
                                      refine evd ?_
                                      refine hK43 _ ?_
                                      clear hK43 K43
                                      refine Wp.ret (retV ?_)
                                      simp only [List.getD_cons_zero, List.getD_cons_succ]
                                      unfold appT
                                      rw [if_pos hok]
                                      repeat (first | rw [if_pos (by omega)] | rw [if_neg (by omega)])
                                      try rfl
                                      try unfold binT
                                      repeat (first | rw [if_pos (by omega)] | rw [if_neg (by omega)])
                                      try rfl
                                    · refine Wp.seqK fun K44 hK44 => ?_
                                      refine rg ?_
                                      refine hK44 _ ?_
                                      clear hK44 K44
                                      refine Wp.condS (fun h154 => ?_) (fun h154 => ?_)
                                      · refine Wp.seqK fun K45 hK45 => ?_
                                        refine Wp.seqK fun K46 hK46 => ?_
                                        refine rg ?_
                                        refine hK46 _ ?_
                                        clear hK46 K46
                                        refine Wp.condS (fun h157 => ?_) (fun h157 => ?_)
                                        · refine Wp.seqK fun K47 hK47 => ?_
                                          refine rg ?_
                                          refine hK47 _ ?_
                                          clear hK47 K47
                                          refine Wp.ret (retV ?_)
                                          simp only [List.getD_cons_zero, List.getD_cons_succ]
                                          unfold appT
                                          rw [if_pos hok]
                                          repeat (first | rw [if_pos (by omega)] | rw [if_neg (by omega)])
                                          try rfl
                                          try unfold binT
                                          repeat (first | rw [if_pos (by omega)] | rw [if_neg (by omega)])
                                          try rfl
                                        · refine Wp.skip ?_
                                          refine hK45 _ ?_
                                          clear hK45 K45
                                          refine Wp.seqK fun K48 hK48 => ?_
                                          refine rg ?_
                                          refine hK48 _ ?_
                                          clear hK48 K48
                                          refine Wp.ret (retV ?_)
                                          simp only [List.getD_cons_zero, List.getD_cons_succ]
                                          unfold appT
                                          rw [if_pos hok]
                                          repeat (first | rw [if_pos (by omega)] | rw [if_neg (by omega)])
                                          try rfl
                                          try unfold binT
                                          repeat (first | rw [if_pos (by omega)] | rw [if_neg (by omega)])
                                          try rfl
                                      · refine Wp.skip ?_
                                        try simp only [thn, inB, if_true, reduceIte]
                                        refine hK5 _ ?_
                                        clear hK5 K5
                                        refine Wp.seqK fun K49 hK49 => ?_
                                        refine rg ?_
                                        refine hK49 _ ?_
                                        clear hK49 K49
                                        refine Wp.ret (retV ?_)
                                        simp only [List.getD_cons_zero, List.getD_cons_succ]
                                        unfold appT
                                        rw [if_pos hok]
                                        repeat (first | rw [if_pos (by omega)] | rw [if_neg (by omega)])
                                        try rfl
                                        try unfold binT
                                        repeat (first | rw [if_pos (by omega)] | rw [if_neg (by omega)])
                                        try rfl
end Go.Proofs.YtkdkbnacelnljaaGreat.RE
