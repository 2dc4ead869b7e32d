/- What is proved here: the order of floats is the order of their bits (plain). -/
import GoSem.Core.Float
open Ieee
namespace Go.Proofs.Ytbllifhcfgjdlaa.FltT
abbrev D := Ieee.double
theorem bin_eq : D.binade = 4503599627370496 := rfl
theorem inf_eq : D.infRung = 9218868437227405312 := rfl
theorem sw_eq : D.signWeight = 9223372036854775808 := rfl
theorem lp_eq : D.leastPlace = -1074 := rfl
/-- the sign and the rung of a word -/
def fneg (b : Nat) : Bool := b / 9223372036854775808 % 2 == 1
def frung (b : Nat) : Nat := b % 9223372036854775808
theorem read_eq (b : Nat) : D.read b = if frung b < 4503599627370496 then .number (fneg b) (frung b) (-1074) else if frung b < 9218868437227405312 then .number (fneg b) (4503599627370496 + frung b % 4503599627370496) (-1074 + ((frung b / 4503599627370496 - 1 : Nat) : Int)) else if frung b = 9218868437227405312 then .infinity (fneg b) else .nan (fneg b) (frung b - 9218868437227405312) := rfl
/-- the magnitude in units of the least place -/
def fval (r : Nat) : Nat := if r < 4503599627370496 then r else (4503599627370496 + r % 4503599627370496) * 2 ^ (r / 4503599627370496 - 1)
theorem fval_step (r : Nat) : fval r < fval (r + 1) := by
  unfold fval
  by_cases h1 : r + 1 < 4503599627370496
  · rw [if_pos (by omega), if_pos h1]; omega
  · rw [if_neg h1]
    by_cases h2 : r < 4503599627370496
    · have e : r + 1 = 4503599627370496 := by omega
      rw [if_pos h2, e]
      simp
      omega
    · rw [if_neg h2]
      by_cases h3 : (r + 1) % 4503599627370496 = 0
      · have e1 : (r + 1) / 4503599627370496 = r / 4503599627370496 + 1 := by omega
        have e2 : r % 4503599627370496 = 4503599627370495 := by omega
        rw [e1, e2, h3]
        obtain ⟨q, hq⟩ : ∃ q, r / 4503599627370496 = q + 1 := ⟨r / 4503599627370496 - 1, by omega⟩
        rw [hq, Nat.add_sub_cancel, Nat.add_sub_cancel, Nat.pow_succ]
        have hp : 0 < 2 ^ q := Nat.two_pow_pos q
        generalize 2 ^ q = p at *
        omega
      · have e1 : (r + 1) / 4503599627370496 = r / 4503599627370496 := by omega
        have e2 : (r + 1) % 4503599627370496 = r % 4503599627370496 + 1 := by omega
        rw [e1, e2]
        have hp : 0 < 2 ^ (r / 4503599627370496 - 1) := Nat.two_pow_pos _
        generalize 2 ^ (r / 4503599627370496 - 1) = p at *
        rw [← Nat.add_assoc, Nat.add_mul _ 1, Nat.one_mul]
        omega
theorem fval_lt {r s : Nat} (h : r < s) : fval r < fval s := by
  induction s with
  | zero => omega
  | succ s ih =>
    by_cases e : r = s
    · subst e; exact fval_step r
    · exact Nat.lt_trans (ih (by omega)) (fval_step s)
theorem fval_lt_iff {r s : Nat} : fval r < fval s ↔ r < s := by
  constructor
  · intro h
    by_cases h2 : r < s
    · exact h2
    · by_cases e : r = s
      · subst e; omega
      · have := fval_lt (show s < r by omega); omega
  · exact fval_lt
theorem fval_eq_iff {r s : Nat} : fval r = fval s ↔ r = s := by
  constructor
  · intro h
    by_cases h1 : r < s
    · have := fval_lt h1; omega
    · by_cases h2 : s < r
      · have := fval_lt h2; omega
      · omega
  · intro h; rw [h]
theorem fval_zero : fval 0 = 0 := rfl
/-- a finite number, as a signed multiple of the least place -/
def fsv (neg : Bool) (r : Nat) : Int := if neg then -((fval r : Nat) : Int) else ((fval r : Nat) : Int)
theorem read_fin {b : Nat} (h : frung b < 9218868437227405312) : ∃ (m k : Nat), D.read b = .number (fneg b) m (-1074 + (k : Int)) ∧ m * 2 ^ k = fval (frung b) ∧ (m = 0 ↔ frung b = 0) := by
  rw [read_eq]
  by_cases h1 : frung b < 4503599627370496
  · rw [if_pos h1]
    exact ⟨frung b, 0, by simp, by unfold fval; rw [if_pos h1]; simp, Iff.rfl⟩
  · rw [if_neg h1, if_pos h]
    exact ⟨_, _, rfl, by unfold fval; rw [if_neg h1], by omega⟩
theorem signed_base (s : Bool) (m i base : Nat) (hb : base ≤ i) : signed s m (((-1074 : Int) + (i : Int) - ((-1074 : Int) + (base : Int))).toNat) * (2 ^ base : Nat) = if s then -((m * 2 ^ i : Nat) : Int) else ((m * 2 ^ i : Nat) : Int) := by
  have e : ((-1074 : Int) + (i : Int) - ((-1074 : Int) + (base : Int))).toNat = i - base := by omega
  rw [e]
  unfold signed
  rw [Nat.shiftLeft_eq]
  have e2 : m * 2 ^ (i - base) * 2 ^ base = m * 2 ^ i := by rw [Nat.mul_assoc, ← Nat.pow_add, Nat.sub_add_cancel hb]
  cases s
  · simp only [Bool.false_eq_true, if_false]
    rw [← Int.natCast_mul, e2]
  · simp only [if_true]
    rw [Int.neg_mul, ← Int.natCast_mul, e2]
theorem cmp_mul {a b : Int} {p : Nat} (hp : 0 < p) : compare a b = compare (a * (p : Int)) (b * (p : Int)) := by
  have hpi : (0 : Int) < (p : Int) := by omega
  have h1 : (a < b) ↔ (a * (p : Int) < b * (p : Int)) := ⟨fun h => Int.mul_lt_mul_of_pos_right h hpi, fun h => Int.lt_of_mul_lt_mul_right h (by omega)⟩
  have h2 : (a = b) ↔ (a * (p : Int) = b * (p : Int)) := ⟨fun h => by rw [h], fun h => Int.eq_of_mul_eq_mul_right (by omega) h⟩
  simp only [compare, compareOfLessAndEq]
  by_cases c1 : a < b
  · rw [if_pos c1, if_pos (h1.1 c1)]
  · rw [if_neg c1, if_neg (fun h => c1 (h1.2 h))]
    by_cases c2 : a = b
    · rw [if_pos c2, if_pos (h2.1 c2)]
    · rw [if_neg c2, if_neg (fun h => c2 (h2.2 h))]
theorem order_fin {b c : Nat} (hb : frung b < 9218868437227405312) (hc : frung c < 9218868437227405312) : D.order b c = some (compare (fsv (fneg b) (frung b)) (fsv (fneg c) (frung c))) := by
  obtain ⟨m, i, e1, e2, _⟩ := read_fin hb
  obtain ⟨n, j, e3, e4, _⟩ := read_fin hc
  unfold Format.order
  rw [e1, e3]
  show some (compare _ _) = _
  congr 1
  have hmin : min ((-1074 : Int) + (i : Int)) ((-1074 : Int) + (j : Int)) = (-1074 : Int) + ((min i j : Nat) : Int) := by omega
  rw [hmin, cmp_mul (p := 2 ^ (min i j)) (Nat.two_pow_pos _), signed_base _ _ _ _ (Nat.min_le_left ..), signed_base _ _ _ _ (Nat.min_le_right ..), e2, e4]
  rfl
theorem fneg_zero : fneg 0 = false := rfl
theorem frung_zero : frung 0 = 0 := rfl
def isNan (b : Nat) : Prop := 9218868437227405312 < frung b
instance (b : Nat) : Decidable (isNan b) := by unfold isNan; exact inferInstance
theorem read_nan {b : Nat} (h : isNan b) : ∃ s f, D.read b = .nan s f := by
  unfold isNan at h
  rw [read_eq, if_neg (by omega), if_neg (by omega), if_neg (by omega)]
  exact ⟨_, _, rfl⟩
theorem read_inf {b : Nat} (h : frung b = 9218868437227405312) : D.read b = .infinity (fneg b) := by
  rw [read_eq, if_neg (by omega), if_neg (by omega), if_pos h]
theorem order_nanL {b c : Nat} (h : isNan b) : D.order b c = none := by
  obtain ⟨s, f, e⟩ := read_nan h
  unfold Format.order
  rw [e]
  rfl
theorem order_nanR {b c : Nat} (h : isNan c) : D.order b c = none := by
  obtain ⟨s, f, e⟩ := read_nan h
  unfold Format.order
  rw [e]
  cases D.read b <;> rfl
theorem order_infL {b c : Nat} (hb : frung b = 9218868437227405312) (hc : frung c < 9218868437227405312) : D.order b c = some (if fneg b then .lt else .gt) := by
  obtain ⟨m, k, e, _, _⟩ := read_fin hc
  unfold Format.order
  rw [read_inf hb, e]
  rfl
theorem order_infR {b c : Nat} (hb : frung b < 9218868437227405312) (hc : frung c = 9218868437227405312) : D.order b c = some (if fneg c then .gt else .lt) := by
  obtain ⟨m, k, e, _, _⟩ := read_fin hb
  unfold Format.order
  rw [read_inf hc, e]
  rfl
theorem order_infs {b c : Nat} (hb : frung b = 9218868437227405312) (hc : frung c = 9218868437227405312) : D.order b c = some (compare (fneg c).toNat (fneg b).toNat) := by
  unfold Format.order
  rw [read_inf hb, read_inf hc]
  rfl
theorem order_self (b : Nat) : D.order b b = if isNan b then none else some .eq := by
  by_cases h : isNan b
  · rw [if_pos h, order_nanL h]
  · rw [if_neg h]
    unfold isNan at h
    by_cases h1 : frung b = 9218868437227405312
    · rw [order_infs h1 h1]
      cases fneg b <;> rfl
    · rw [order_fin (by omega) (by omega)]
      congr 1
      simp only [compare, compareOfLessAndEq]
      rw [if_neg (by omega)]
      simp
theorem order_zero (b : Nat) : D.order b 0 = if isNan b then none else some (if frung b = 0 then .eq else if fneg b then .lt else .gt) := by
  by_cases h : isNan b
  · rw [if_pos h, order_nanL h]
  · rw [if_neg h]
    unfold isNan at h
    by_cases h1 : frung b = 9218868437227405312
    · rw [order_infL h1 (by decide), if_neg (show ¬ frung b = 0 by omega)]
    · rw [order_fin (by omega) (by decide)]
      congr 1
      rw [fneg_zero, frung_zero]
      unfold fsv
      rw [fval_zero]
      simp only [compare, compareOfLessAndEq]
      by_cases h0 : frung b = 0
      · rw [if_pos h0, h0, fval_zero]
        cases fneg b <;> rfl
      · rw [if_neg h0]
        have hp : 0 < fval (frung b) := by
          have := fval_lt (show 0 < frung b by omega)
          rw [fval_zero] at this
          exact this
        cases hn : fneg b
        · simp only [Bool.false_eq_true, if_false]
          rw [if_neg (by omega), if_neg (by omega)]
        · simp only [if_true]
          rw [if_pos (by omega)]
/-- The order of two finite words of one sign is that of their rungs. -/
theorem order_pos {b c : Nat} (hb : frung b < 9218868437227405312) (hc : frung c < 9218868437227405312) (nb : fneg b = false) (nc : fneg c = false) : D.order b c = some (compare (frung b) (frung c)) := by
  rw [order_fin hb hc, nb, nc]
  congr 1
  unfold fsv
  simp only [Bool.false_eq_true, if_false, compare, compareOfLessAndEq]
  by_cases h1 : frung b < frung c
  · rw [if_pos h1, if_pos (by have := fval_lt h1; omega)]
  · rw [if_neg h1, if_neg (by intro h; exact h1 (fval_lt_iff.1 (by omega)))]
    by_cases h2 : frung b = frung c
    · rw [if_pos h2, if_pos (by rw [h2])]
    · rw [if_neg h2, if_neg (by intro h; exact h2 (fval_eq_iff.1 (by omega)))]
theorem order_neg {b c : Nat} (hb : frung b < 9218868437227405312) (hc : frung c < 9218868437227405312) (nb : fneg b = true) (nc : fneg c = true) : D.order b c = some (compare (frung c) (frung b)) := by
  rw [order_fin hb hc, nb, nc]
  congr 1
  unfold fsv
  simp only [if_true, compare, compareOfLessAndEq]
  by_cases h1 : frung c < frung b
  · rw [if_pos h1, if_pos (by have := fval_lt h1; omega)]
  · rw [if_neg h1, if_neg (by intro h; exact h1 (fval_lt_iff.1 (by omega)))]
    by_cases h2 : frung c = frung b
    · rw [if_pos h2, if_pos (by rw [h2])]
    · rw [if_neg h2, if_neg (by intro h; exact h2 (fval_eq_iff.1 (by omega)))]
theorem sub_self_fin {b : Nat} (h : frung b < 9218868437227405312) : D.sub b b = some 0 := by
  obtain ⟨m, k, e, _, _⟩ := read_fin h
  unfold Format.sub
  rw [e]
  show (Datum.sum (.number (fneg b) m (-1074 + (k : Int))) (.number (!fneg b) m (-1074 + (k : Int)))).map D.write = some 0
  unfold Datum.sum
  simp only [Int.min_self, Int.sub_self, Int.toNat_zero]
  have ht : signed (fneg b) m 0 + signed (!fneg b) m 0 = 0 := by
    unfold signed
    cases fneg b <;> simp <;> omega
  rw [ht]
  cases fneg b <;> rfl
theorem sub_self_none {b : Nat} (h : 9218868437227405312 ≤ frung b) : D.sub b b = none := by
  unfold Format.sub
  by_cases h1 : frung b = 9218868437227405312
  · rw [read_inf h1]
    cases fneg b <;> rfl
  · obtain ⟨s, f, e⟩ := read_nan (b := b) (by unfold isNan; omega)
    rw [e]
    rfl
theorem div_one_zero {b : Nat} (h : frung b = 0) : D.div 4607182418800017408 b = some (if fneg b then 18442240474082181120 else 9218868437227405312) := by
  unfold Format.div
  have e : D.read b = .number (fneg b) 0 (-1074) := by rw [read_eq, if_pos (by omega), h]
  have e1 : D.read 4607182418800017408 = .number false 4503599627370496 (-52) := by decide +kernel
  rw [e, e1]
  cases fneg b <;> rfl
end Go.Proofs.Ytbllifhcfgjdlaa.FltT
