/- What is proved here: plain laws of bits: sums, differences, shifts, products and quotients bit by bit. -/
namespace Go.Proofs.YtahgkfekggkjnaaDoor
set_option linter.unusedVariables false
set_option linter.unusedSimpArgs false

/-- The first bits of a number. -/
def bitsK (n k : Nat) : List Bool := (List.range k).map fun i => n.testBit i
abbrev bitsL (n : Nat) : List Bool := bitsK n 32

theorem bitsK_length (n k : Nat) : (bitsK n k).length = k := by simp [bitsK]
theorem bitsK_zero (n : Nat) : bitsK n 0 = [] := rfl
theorem bitsK_succ (n k : Nat) : bitsK n (k + 1) = bitsK n k ++ [n.testBit k] := by simp [bitsK, List.range_succ]
theorem bitsK_get {n k i : Nat} (h : i < k) : (bitsK n k)[i]? = some (n.testBit i) := by simp [bitsK, h]
theorem bitsK_getD {n k i : Nat} (h : i < k) : (bitsK n k).getD i false = n.testBit i := by simp [bitsK, h]
theorem bitsK_map_get {α} (f : Bool → α) {n k i : Nat} (h : i < k) : ((bitsK n k).map f)[i]? = some (f (n.testBit i)) := by simp [bitsK, h]
theorem bitsK_congr {n m k : Nat} (h : ∀ i, i < k → n.testBit i = m.testBit i) : bitsK n k = bitsK m k := by
  unfold bitsK; exact List.map_congr_left fun i hi => h i (by simpa using hi)
theorem bitsK_zeros (k : Nat) : bitsK 0 k = List.replicate k false := by
  apply List.ext_getElem?
  intro j
  by_cases hj : j < k <;> simp [bitsK, hj]

theorem bit_def (n i : Nat) : n.testBit i = decide (n / 2 ^ i % 2 = 1) := Nat.testBit_eq_decide_div_mod_eq

theorem bit_nat (n i : Nat) : (if n.testBit i then 1 else 0 : Nat) = n / 2 ^ i % 2 := by
  rw [bit_def]
  have := Nat.mod_two_eq_zero_or_one (n / 2 ^ i)
  by_cases h : n / 2 ^ i % 2 = 1
  · simp [h]
  · simp [h]; omega

theorem div_step (n i : Nat) : n / 2 ^ i = 2 * (n / 2 ^ (i + 1)) + (if n.testBit i then 1 else 0) := by
  rw [bit_nat, Nat.pow_succ, ← Nat.div_div_eq_div_mul]
  omega

theorem mod_step (n i : Nat) : n % 2 ^ (i + 1) = n % 2 ^ i + (if n.testBit i then 1 else 0) * 2 ^ i := by
  rw [bit_nat, Nat.pow_succ, Nat.mod_mul, Nat.mul_comm]

/-- A sum with a carry, bit by bit. -/
def carryAt (a b c i : Nat) : Nat := (a % 2 ^ i + b % 2 ^ i + c) / 2 ^ i

theorem carry_zero (a b c : Nat) : carryAt a b c 0 = c := by simp [carryAt, Nat.mod_one]
theorem carry_le (a b c i : Nat) (hc : c ≤ 1) : carryAt a b c i ≤ 1 := by
  unfold carryAt
  have hp := Nat.two_pow_pos i
  have h1 := Nat.mod_lt a hp
  have h2 := Nat.mod_lt b hp
  apply Nat.le_of_lt_succ
  rw [Nat.div_lt_iff_lt_mul hp]
  omega
theorem sum_div (a b c i : Nat) : (a + b + c) / 2 ^ i = a / 2 ^ i + b / 2 ^ i + carryAt a b c i := by
  unfold carryAt
  have hp := Nat.two_pow_pos i
  have h1 := Nat.div_add_mod a (2 ^ i)
  have h2 := Nat.div_add_mod b (2 ^ i)
  have e : a + b + c = (a % 2 ^ i + b % 2 ^ i + c) + 2 ^ i * (a / 2 ^ i + b / 2 ^ i) := by
    rw [Nat.mul_add]; omega
  rw [e, Nat.add_mul_div_left _ _ hp]; omega
theorem sum_bit (a b c i : Nat) : (a + b + c).testBit i = decide (((if a.testBit i then 1 else 0 : Nat) + (if b.testBit i then 1 else 0) + carryAt a b c i) % 2 = 1) := by
  rw [bit_def, sum_div, bit_nat, bit_nat]
  congr 1
  apply propext
  omega
theorem carry_succ (a b c i : Nat) (hc : c ≤ 1) : carryAt a b c (i + 1) = if 1 < ((if a.testBit i then 1 else 0 : Nat) + (if b.testBit i then 1 else 0) + carryAt a b c i) then 1 else 0 := by
  have hp := Nat.two_pow_pos i
  have h0 := carry_le a b c i hc
  have e1 := sum_div a b c i
  have e2 := sum_div a b c (i + 1)
  have e3 : (a + b + c) / 2 ^ (i + 1) = (a + b + c) / 2 ^ i / 2 := by rw [Nat.pow_succ, Nat.div_div_eq_div_mul]
  have e4 : a / 2 ^ (i + 1) = a / 2 ^ i / 2 := by rw [Nat.pow_succ, Nat.div_div_eq_div_mul]
  have e5 : b / 2 ^ (i + 1) = b / 2 ^ i / 2 := by rw [Nat.pow_succ, Nat.div_div_eq_div_mul]
  have h1 := carry_le a b c (i + 1) hc
  rw [bit_nat, bit_nat]
  split <;> omega

theorem bitsK_mod (n k j : Nat) (h : k ≤ j) : bitsK (n % 2 ^ j) k = bitsK n k := bitsK_congr fun i hi => by
  rw [Nat.testBit_mod_two_pow]; simp; omega

/-- The other bits. -/
theorem not_bit (n i : Nat) (hn : n < 2 ^ 32) (hi : i < 32) : (2 ^ 32 - 1 - n).testBit i = !n.testBit i := by
  rw [show 2 ^ 32 - 1 - n = 2 ^ 32 - (n + 1) from by omega, Nat.testBit_two_pow_sub_succ hn]
  simp [hi]

/-- Which of two numbers is below, from the highest bit that parts them. -/
theorem less_at {a b i : Nat} (h : a / 2 ^ (i + 1) = b / 2 ^ (i + 1)) (hd : a.testBit i ≠ b.testBit i) : decide (a < b) = b.testBit i := by
  have ha := div_step a i
  have hb := div_step b i
  have hp := Nat.two_pow_pos i
  rw [h] at ha
  cases hx : a.testBit i <;> cases hy : b.testBit i <;> simp [hx, hy] at hd ha hb ⊢
  · exact Nat.lt_of_not_le fun hle => by
      have := Nat.div_le_div_right (c := 2 ^ i) hle
      omega
  · exact Nat.le_of_not_lt fun hlt => by
      have := Nat.div_le_div_right (c := 2 ^ i) (Nat.le_of_lt hlt)
      omega
theorem less_next {a b i : Nat} (h : a / 2 ^ (i + 1) = b / 2 ^ (i + 1)) (hd : a.testBit i = b.testBit i) : a / 2 ^ i = b / 2 ^ i := by
  rw [div_step a i, div_step b i, h, hd]

/-- Shifted to the left. -/
theorem shl_bit (a s i : Nat) : (a * 2 ^ s).testBit i = (decide (s ≤ i) && a.testBit (i - s)) := by
  rw [Nat.mul_comm, Nat.testBit_two_pow_mul]
/-- Shifted to the right, with what stands above. -/
def sarN (a s : Nat) (fill : Bool) : Nat := (2 ^ 32 * (if fill then 2 ^ s - 1 else 0) + a) / 2 ^ s
theorem sar_bit (a s i : Nat) (fill : Bool) (ha : a < 2 ^ 32) (hi : i < 32) : (sarN a s fill).testBit i = ((decide (i + s < 32) && a.testBit (i + s)) || (decide (32 ≤ i + s) && fill)) := by
  unfold sarN
  rw [Nat.testBit_div_two_pow, Nat.testBit_two_pow_mul_add _ ha]
  by_cases h : i + s < 32
  · have h' : ¬ 32 ≤ i + s := by omega
    simp [h, h']
  · have h' : 32 ≤ i + s := by omega
    simp only [h, h', if_false, decide_true, decide_false, Bool.false_and, Bool.true_and, Bool.false_or]
    cases fill
    · simp
    · simp only [if_true, Nat.testBit_two_pow_sub_one]
      simp; omega
theorem sar_false (a s : Nat) : sarN a s false = a / 2 ^ s := by simp [sarN]

/-- Rotated. -/
theorem rot_bit (x s i : Nat) (hx : x < 2 ^ 32) (hs : s < 32) (hi : i < 32) : ((x % 2 ^ (32 - s)) * 2 ^ s + x / 2 ^ (32 - s)).testBit i = x.testBit ((i + 32 - s) % 32) := by
  have h1 : 2 ^ (32 - s) * 2 ^ s = 2 ^ 32 := by rw [← Nat.pow_add]; congr 1; omega
  have h2 : x / 2 ^ (32 - s) < 2 ^ s := by
    rw [Nat.div_lt_iff_lt_mul (Nat.two_pow_pos _), Nat.mul_comm, h1]; exact hx
  rw [Nat.mul_comm _ (2 ^ s), Nat.testBit_two_pow_mul_add _ h2]
  by_cases h : i < s
  · rw [if_pos h, Nat.testBit_div_two_pow, show i + (32 - s) = (i + 32 - s) % 32 by omega]
  · rw [if_neg h, Nat.testBit_mod_two_pow, show (i + 32 - s) % 32 = i - s by omega]
    simp; omega

/-- A product, bit by bit. -/
theorem times_step (a b i : Nat) : (a * (b % 2 ^ (i + 1))) % 2 ^ 32 = if b.testBit i then ((a * (b % 2 ^ i)) % 2 ^ 32 + (a * 2 ^ i) % 2 ^ 32) % 2 ^ 32 else (a * (b % 2 ^ i)) % 2 ^ 32 := by
  rw [mod_step b i]
  cases b.testBit i
  · simp
  · simp only [if_true, Nat.one_mul, Nat.mul_add, ← Nat.add_mod]

/-- A quotient, bit by bit: what is left behind the higher bits. -/
theorem div_less {a b i : Nat} (hb : 0 < b) : 2 * (a / 2 ^ (i + 1) % b) + (if a.testBit i then 1 else 0) < 2 * b := by
  have := Nat.mod_lt (a / 2 ^ (i + 1)) hb
  split <;> omega
theorem rem_step {a b i : Nat} (hb : 0 < b) : a / 2 ^ i % b = (let r := 2 * (a / 2 ^ (i + 1) % b) + (if a.testBit i then 1 else 0); if b ≤ r then r - b else r) := by
  have hl := div_less (a := a) (i := i) hb
  simp only
  have e := div_step a i
  generalize (if a.testBit i then 1 else 0 : Nat) = t at *
  have h1 := Nat.div_add_mod (a / 2 ^ (i + 1)) b
  generalize hq : a / 2 ^ (i + 1) / b = q at *
  generalize hr : a / 2 ^ (i + 1) % b = r at *
  have e2 : a / 2 ^ i = b * (2 * q) + (2 * r + t) := by
    rw [e, ← h1, Nat.mul_add, ← Nat.mul_assoc, Nat.mul_comm 2 b, Nat.mul_assoc]; omega
  rw [e2, Nat.mul_add_mod]
  split
  · rw [Nat.mod_eq_sub_mod (by assumption), Nat.mod_eq_of_lt (by omega)]
  · exact Nat.mod_eq_of_lt (by omega)
theorem quo_step {a b i : Nat} (hb : 0 < b) : a / 2 ^ i / b = 2 * (a / 2 ^ (i + 1) / b) + (if b ≤ 2 * (a / 2 ^ (i + 1) % b) + (if a.testBit i then 1 else 0) then 1 else 0) := by
  have hl := div_less (a := a) (i := i) hb
  have e := div_step a i
  generalize (if a.testBit i then 1 else 0 : Nat) = t at *
  have h1 := Nat.div_add_mod (a / 2 ^ (i + 1)) b
  generalize hq : a / 2 ^ (i + 1) / b = q at *
  generalize hr : a / 2 ^ (i + 1) % b = r at *
  have e2 : a / 2 ^ i = b * (2 * q) + (2 * r + t) := by
    rw [e, ← h1, Nat.mul_add, ← Nat.mul_assoc, Nat.mul_comm 2 b, Nat.mul_assoc]; omega
  rw [e2, Nat.mul_add_div hb]
  split
  · rw [show (2 * r + t) / b = 1 from Nat.div_eq_of_lt_le (by omega) (by omega)]
  · rw [Nat.div_eq_of_lt (by omega)]

/-- How often, as a bit of the whole. -/
theorem quo_bit {a b i : Nat} (hb : 0 < b) : (a / b).testBit i = decide (b ≤ 2 * (a / 2 ^ (i + 1) % b) + (if a.testBit i then 1 else 0)) := by
  rw [bit_def, Nat.div_div_eq_div_mul, Nat.mul_comm b, ← Nat.div_div_eq_div_mul, quo_step hb]
  congr 1
  apply propext
  generalize (if a.testBit i then 1 else 0 : Nat) = t
  by_cases h : b ≤ 2 * (a / 2 ^ (i + 1) % b) + t
  · rw [if_pos h]; omega
  · rw [if_neg h]; omega
end Go.Proofs.YtahgkfekggkjnaaDoor
