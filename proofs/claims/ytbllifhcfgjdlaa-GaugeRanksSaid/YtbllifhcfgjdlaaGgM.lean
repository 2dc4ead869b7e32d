/- What is proved here: kinds and order of floats, plain. -/
import Derived.Test.YtbllifhcfgjdlaaSxF
namespace Go.Proofs.Ytbllifhcfgjdlaa
open Go.RowKit FltT
set_option linter.unusedVariables false
set_option linter.unusedSimpArgs false
def kindN (x : Nat) : Int := if isNan x then 0 else if frung x = 9218868437227405312 then (if fneg x then 1 else 6) else if frung x = 0 then (if fneg x then 3 else 4) else (if fneg x then 2 else 5)
def cmpN (a b : Nat) : Int := if a < b then -1 else if b < a then 1 else 0
def ordN (x y : Nat) : Int := if kindN x < kindN y then -1 else if kindN y < kindN x then 1 else if kindN x = 2 then cmpN (frung y) (frung x) else if kindN x = 5 then cmpN (frung x) (frung y) else 0
theorem ord_anti (x y : Nat) : ordN y x = - ordN x y := by
  unfold ordN cmpN
  rcases Int.lt_trichotomy (kindN x) (kindN y) with h | h | h
  · rw [if_pos h, if_neg (by omega), if_pos h]; rfl
  · rw [h]
    simp only [Int.lt_irrefl, if_false]
    repeat' split
    all_goals omega
  · rw [if_pos h, if_neg (by omega), if_pos h]
theorem ord_self (x : Nat) : ordN x x = 0 := by
  unfold ordN cmpN
  repeat' split
  all_goals omega
theorem fself (x : Nat) : (ford x x != some .eq) = decide (isNan x) := by
  unfold ford
  rw [order_self]
  by_cases h : isNan x <;> simp [h]
theorem fzero (x : Nat) : (ford x 0 == some .eq) = decide (frung x = 0) := by
  unfold ford
  rw [order_zero]
  by_cases h : isNan x
  · rw [if_pos h]
    unfold isNan at h
    have : ¬ frung x = 0 := by omega
    simp [this]
  · rw [if_neg h]
    by_cases h0 : frung x = 0
    · simp [h0]
    · cases fneg x <;> simp [h0]
theorem fltz (x : Nat) : (ford x 0 == some .lt) = decide (¬ isNan x ∧ frung x ≠ 0 ∧ fneg x = true) := by
  unfold ford
  rw [order_zero]
  by_cases h : isNan x
  · simp [h]
  · rw [if_neg h]
    by_cases h0 : frung x = 0
    · simp [h0]
    · cases fneg x <;> simp [h0, h]
theorem fgtz (x : Nat) : (ford x 0 == some .gt) = decide (¬ isNan x ∧ frung x ≠ 0 ∧ fneg x = false) := by
  unfold ford
  rw [order_zero]
  by_cases h : isNan x
  · simp [h]
  · rw [if_neg h]
    by_cases h0 : frung x = 0
    · simp [h0]
    · cases fneg x <;> simp [h0, h]
theorem FRes.det {op : BinOp} {x y r v : Nat} (h : FRes op x y r) (e : floatBits op .f64 x y = some v) : r = v := by
  rcases h.2 with h1 | h1
  · rw [e] at h1; exact (Option.some.inj h1).symm
  · rw [e] at h1; cases h1.1
theorem FRes.nan {op : BinOp} {x y r : Nat} (h : FRes op x y r) (e : floatBits op .f64 x y = none) : isNan r := by
  rcases h.2 with h1 | h1
  · rw [e] at h1; cases h1
  · exact h1.2
theorem fdivz {x r : Nat} (h : frung x = 0) (hr : FRes .quo 4607182418800017408 x r) : (ford r 0 == some .lt) = fneg x := by
  rw [hr.det (div_one_zero h)]
  cases fneg x <;> decide +kernel
theorem fsubz {x r : Nat} (hr : FRes .sub x x r) : (ford r 0 == some .eq) = decide (frung x < 9218868437227405312) := by
  by_cases h : frung x < 9218868437227405312
  · rw [hr.det (sub_self_fin h), decide_eq_true h]; decide +kernel
  · have hn := hr.nan (sub_self_none (by omega))
    rw [decide_eq_false h, fzero]
    unfold isNan at hn
    exact decide_eq_false (by omega)
theorem order_zeros {x y : Nat} (hx : frung x = 0) (hy : frung y = 0) : ford x y = some .eq := by
  unfold ford
  rw [order_fin (by omega) (by omega)]
  unfold fsv
  rw [hx, hy, fval_zero]
  cases fneg x <;> cases fneg y <;> rfl
theorem kind_cases (x : Nat) : (kindN x = 0 ∧ isNan x) ∨ (kindN x = 1 ∧ frung x = 9218868437227405312 ∧ fneg x = true) ∨ (kindN x = 2 ∧ 0 < frung x ∧ frung x < 9218868437227405312 ∧ fneg x = true) ∨ (kindN x = 3 ∧ frung x = 0 ∧ fneg x = true) ∨ (kindN x = 4 ∧ frung x = 0 ∧ fneg x = false) ∨ (kindN x = 5 ∧ 0 < frung x ∧ frung x < 9218868437227405312 ∧ fneg x = false) ∨ (kindN x = 6 ∧ frung x = 9218868437227405312 ∧ fneg x = false) := by
  unfold kindN
  by_cases h : isNan x
  · rw [if_pos h]; exact .inl ⟨rfl, h⟩
  · rw [if_neg h]
    unfold isNan at h
    by_cases h1 : frung x = 9218868437227405312
    · rw [if_pos h1]
      cases hn : fneg x <;> simp [h1]
    · rw [if_neg h1]
      by_cases h2 : frung x = 0
      · rw [if_pos h2]
        cases hn : fneg x <;> simp [h2]
      · rw [if_neg h2]
        have : frung x < 9218868437227405312 := by omega
        have : 0 < frung x := by omega
        cases hn : fneg x <;> simp [*]
/-- two floats of one kind -/
theorem ford_kind {x y : Nat} (h : kindN x = kindN y) : ford x y = if kindN x = 0 then none else some (if ordN x y < 0 then .lt else if 0 < ordN x y then .gt else .eq) := by
  unfold ordN
  rw [← h]
  simp only [Int.lt_irrefl, if_false]
  have hy := kind_cases y
  rw [← h] at hy
  rcases kind_cases x with h1 | h1 | h1 | h1 | h1 | h1 | h1
  all_goals
    rw [h1.1] at hy ⊢
    simp only [Int.reduceEq, false_and, false_or, or_false, true_and, if_true, if_false, Int.lt_irrefl] at hy ⊢
  · unfold ford; rw [order_nanL h1.2]
  · unfold ford; rw [order_infs h1.2.1 hy.1, h1.2.2, hy.2]; rfl
  · unfold ford; rw [order_neg h1.2.2.1 hy.2.1 h1.2.2.2 hy.2.2]
    unfold cmpN compare; simp only [instOrdNat, compareOfLessAndEq]
    congr 1
    repeat' split
    all_goals first | rfl | omega
  · rw [order_zeros h1.2.1 hy.1]
  · rw [order_zeros h1.2.1 hy.1]
  · unfold ford; rw [order_pos h1.2.2.1 hy.2.1 h1.2.2.2 hy.2.2]
    unfold cmpN compare; simp only [instOrdNat, compareOfLessAndEq]
    congr 1
    repeat' split
    all_goals first | rfl | omega
  · unfold ford; rw [order_infs h1.2.1 hy.1, h1.2.2, hy.2]; rfl
theorem kind_lt (x : Nat) : 0 ≤ kindN x ∧ kindN x ≤ 6 := by rcases kind_cases x with h | h | h | h | h | h | h <;> omega
theorem bits_eq {x : Nat} (h : x < 18446744073709551616) : x = (if fneg x then 9223372036854775808 else 0) + frung x := by
  unfold fneg frung
  by_cases h1 : x < 9223372036854775808
  · have : x / 9223372036854775808 = 0 := by omega
    rw [this]; simp; omega
  · have : x / 9223372036854775808 = 1 := by omega
    rw [this]; simp; omega
/-- what the reference's order looks at where the kinds are one -/
theorem ord_ref {x y : Nat} (hx : x < 18446744073709551616) (hy : y < 18446744073709551616) (h : kindN x = kindN y) (h2 : kindN x = 2 ∨ kindN x = 5) :
    ordN x y = if x = y then 0 else if decide (x < y) = decide (kindN x = 5) then -1 else 1 := by
  have hq := kind_cases y
  rw [← h] at hq
  have e1 := bits_eq hx
  have e2 := bits_eq hy
  unfold ordN cmpN
  rw [← h]
  simp only [Int.lt_irrefl, if_false]
  rcases kind_cases x with h1 | h1 | h1 | h1 | h1 | h1 | h1
  all_goals
    first
    | (exfalso; omega)
    | rw [h1.1] at hq ⊢
      simp only [Int.reduceEq, false_and, false_or, or_false, true_and, if_true, if_false, decide_true, decide_false] at hq ⊢
      rw [h1.2.2.2] at e1
      rw [hq.2.2] at e2
      simp only [if_true, if_false, Bool.false_eq_true] at e1 e2
      by_cases c1 : x = y
      · rw [if_pos c1]; subst c1; simp
      · rw [if_neg c1]
        by_cases c2 : x < y
        · simp only [c2, decide_true, decide_false, reduceCtorEq, if_false, if_true]
          repeat' split
          all_goals first | rfl | omega
        · simp only [c2, decide_true, decide_false, reduceCtorEq, if_false, if_true]
          repeat' split
          all_goals first | rfl | omega
theorem ord_ref0 {x y : Nat} (h : kindN x = kindN y) (h2 : kindN x ≠ 2) (h5 : kindN x ≠ 5) : ordN x y = 0 := by
  unfold ordN
  rw [← h]
  simp [h2, h5]
theorem ord_lt {x y : Nat} (h : kindN x < kindN y) : ordN x y = -1 := by unfold ordN; rw [if_pos h]
theorem ord_gt {x y : Nat} (h : kindN y < kindN x) : ordN x y = 1 := by unfold ordN; rw [if_neg (by omega), if_pos h]
theorem sgn_div {k : Int} (h0 : k ≠ 0) (h1 : -6 ≤ k) (h2 : k ≤ 6) : IntKind.i64.wrap (k.tdiv (if k < 0 - k then 0 - k else k)) = if k < 0 then -1 else 1 := by
  rcases (by omega : k = -6 ∨ k = -5 ∨ k = -4 ∨ k = -3 ∨ k = -2 ∨ k = -1 ∨ k = 1 ∨ k = 2 ∨ k = 3 ∨ k = 4 ∨ k = 5 ∨ k = 6) with rfl | rfl | rfl | rfl | rfl | rfl | rfl | rfl | rfl | rfl | rfl | rfl <;> rfl
theorem flss_kind {x y : Nat} (h : kindN x = kindN y) : (ford x y == some .lt) = decide (ordN x y < 0) := by
  rw [ford_kind h]
  by_cases h0 : kindN x = 0
  · rw [if_pos h0, ord_ref0 h (by omega) (by omega)]; rfl
  · rw [if_neg h0]
    by_cases h1 : ordN x y < 0
    · simp [h1]
    · rw [if_neg h1]
      by_cases h2 : 0 < ordN x y <;> simp [h1, h2]
theorem fgtr_kind {x y : Nat} (h : kindN x = kindN y) : (ford x y == some .gt) = decide (0 < ordN x y) := by
  rw [ford_kind h]
  by_cases h0 : kindN x = 0
  · rw [if_pos h0, ord_ref0 h (by omega) (by omega)]; rfl
  · rw [if_neg h0]
    by_cases h1 : ordN x y < 0
    · rw [if_pos h1, decide_eq_false (by omega)]; rfl
    · rw [if_neg h1]
      by_cases h2 : 0 < ordN x y <;> simp [h2]
theorem ord_range (x y : Nat) : ordN x y = -1 ∨ ordN x y = 0 ∨ ordN x y = 1 := by
  unfold ordN cmpN
  repeat' split
  all_goals simp
/-- what the reference's Same answers -/
def sameB (x y : Nat) : Bool := (decide (kindN x = 0) && decide (kindN y = 0)) || decide ((x : Int) = (y : Int))
theorem same_res {op : BinOp} {a b x y : Nat} (hx : FRes op a b x) (hy : FRes op a b y) : sameB x y = true := by
  unfold sameB
  rcases hx.2 with h | h
  · have := hy.det h; subst this; simp
  · have hn : ∀ z, FltT.isNan z → kindN z = 0 := fun z hz => by unfold kindN; rw [if_pos hz]
    rw [hn _ h.2, hn _ (hy.nan h.1)]; rfl
theorem same_self (x : Nat) : sameB x x = true := by unfold sameB; simp
theorem same_nan {x y : Nat} (hx : isNan x) (hy : isNan y) : sameB x y = true := by
  unfold sameB kindN; rw [if_pos hx, if_pos hy]; rfl
theorem zero_zero {r : Nat} (h : FRes .quo 0 0 r) : isNan r := h.nan rfl
theorem ofInt_lt (n : Int) : floatOfInt .f64 n < 18446744073709551616 := by
  have := floatOfInt_wf .f64 n
  simpa [Lit.wf, FloatKind.format, Ieee.Format.width] using this
end Go.Proofs.Ytbllifhcfgjdlaa
