/- What is proved here: a number that fits is read again from its bytes: plain, without the program. -/
import Derived.Test.YtbaomlmannpnaaaLebI0
import Derived.Test.YtbaomlmannpnaaaLebE
namespace Go.Proofs.Ytbaomlmannpnaaa
open Go.RowKit
set_option linter.unusedVariables false
set_option linter.unusedSimpArgs false

theorem uL_pos (x : Nat) : 1 ≤ (uL x).length := by
  by_cases h : x < 128
  · rw [uL_low h]; simp
  · rw [uL_high h]; simp
theorem sL_pos (y : Int) : 1 ≤ (sL y).length := by
  by_cases h : -64 ≤ y ∧ y ≤ 63
  · rw [sL_low h]; simp
  · rw [sL_high h]; simp

/-- What is read of a number's bytes from place i on. -/
theorem uL_read : ∀ (m x : Nat), x ≤ m → ∀ (F : Nat → Int) (i avail M : Nat), (∀ j, j < (uL x).length → F (i + j) = (uL x).getD j 0) → i + (uL x).length ≤ avail → (uL x).length ≤ M →
    scanG F avail (i + 1) M = (i + (uL x).length, 0) ∧ numX F (i + (uL x).length) = numX F i + x * 128 ^ i
  | m, x, hm, F, i, avail, M, hF, ha, hM => by
    by_cases h : x < 128
    · rw [uL_low h] at hF ha hM ⊢
      have h0 := hF 0 (by simp)
      simp at h0 ha hM
      obtain ⟨M', rfl⟩ : ∃ M', M = M' + 1 := ⟨M - 1, by omega⟩
      refine ⟨?_, ?_⟩
      · rw [scanG, if_neg (by omega), if_pos (by rw [show i + 1 - 1 = i from by omega, h0]; omega)]; simp
      · simp only [List.length_singleton, numX, h0]
        rw [show (((x : Int) % 128).toNat) = x from by omega]
    · rw [uL_high h] at hF ha hM ⊢
      have h0 := hF 0 (by simp)
      simp only [Nat.add_zero, List.getD_cons_zero] at h0
      simp only [List.length_cons] at ha hM ⊢
      obtain ⟨M', rfl⟩ : ∃ M', M = M' + 1 := ⟨M - 1, by omega⟩
      have hm' : 1 ≤ m := by omega
      obtain ⟨r1, r2⟩ := uL_read (m - 1) (x / 128) (by omega) F (i + 1) avail M' (fun j hj => by
        have := hF (j + 1) (by simpa using hj)
        rw [show i + 1 + j = i + (j + 1) from by omega, this]; simp) (by omega) (by omega)
      refine ⟨?_, ?_⟩
      · rw [scanG, if_neg (by omega), if_neg (by rw [show i + 1 - 1 = i from by omega, h0]; omega), r1]
        congr 1; omega
      · rw [show i + ((uL (x / 128)).length + 1) = i + 1 + (uL (x / 128)).length from by omega, r2, numX, h0]
        rw [show ((((x % 128 + 128 : Nat) : Int) % 128).toNat) = x % 128 from by omega, Nat.pow_succ]
        have := Nat.div_add_mod x 128
        generalize x / 128 = q at *
        generalize x % 128 = r at *
        subst this
        rw [Nat.add_mul, Nat.mul_comm (128 ^ i) 128, ← Nat.mul_assoc, Nat.mul_comm q 128]; omega
termination_by m => m

theorem uL_len : ∀ (m x : Nat), x ≤ m → ((uL x).length = 1 ∨ 128 ^ ((uL x).length - 1) ≤ x) ∧ x < 128 ^ (uL x).length
  | m, x, hm => by
    by_cases h : x < 128
    · rw [uL_low h]; simp; exact h
    · rw [uL_high h]
      obtain ⟨h1, h2⟩ := uL_len (m - 1) (x / 128) (by omega)
      have hp := uL_pos (x / 128)
      simp only [List.length_cons, Nat.add_sub_cancel]
      refine ⟨.inr ?_, ?_⟩
      · rcases h1 with h1 | h1
        · rw [h1]; omega
        · rw [show (uL (x / 128)).length = (uL (x / 128)).length - 1 + 1 from by omega, Nat.pow_succ]
          generalize 128 ^ ((uL (x / 128)).length - 1) = p at *
          omega
      · rw [Nat.pow_succ]
        generalize 128 ^ (uL (x / 128)).length = p at *
        omega
termination_by m => m
decreasing_by omega

theorem emod_step (y : Int) (k : Nat) : y % 128 ^ (k + 1) = y % 128 + 128 * (y / 128 % 128 ^ k) := by
  have hp : (0 : Int) < 128 ^ k := Int.pow_pos (by decide)
  have h1 := Int.emod_add_mul_ediv y 128
  have h2 := Int.emod_add_mul_ediv (y / 128) (128 ^ k)
  have h3 := Int.emod_nonneg (y / 128) (show (128 : Int) ^ k ≠ 0 by omega)
  have h4 := Int.emod_lt_of_pos (y / 128) hp
  have e : y = 128 ^ (k + 1) * (y / 128 / 128 ^ k) + (y % 128 + 128 * (y / 128 % 128 ^ k)) := by
    rw [Int.pow_succ, Int.mul_comm (128 ^ k) 128, Int.mul_assoc]
    calc y = y % 128 + 128 * (y / 128) := h1.symm
      _ = y % 128 + 128 * (y / 128 % 128 ^ k + 128 ^ k * (y / 128 / 128 ^ k)) := by rw [h2]
      _ = _ := by rw [Int.mul_add]; omega
  have h5 : 0 ≤ y % 128 + 128 * (y / 128 % 128 ^ k) := by omega
  have h6 : y % 128 + 128 * (y / 128 % 128 ^ k) < 128 ^ (k + 1) := by rw [Int.pow_succ]; omega
  generalize y % 128 + 128 * (y / 128 % 128 ^ k) = r at *
  conv => lhs; rw [e]
  rw [Int.add_comm, Int.add_mul_emod_self_left, Int.emod_eq_of_lt h5 h6]

theorem sL_read : ∀ (m : Nat) (y : Int), y.natAbs ≤ m → ∀ (F : Nat → Int) (i avail M : Nat), (∀ j, j < (sL y).length → F (i + j) = (sL y).getD j 0) → i + (sL y).length ≤ avail → (sL y).length ≤ M →
    scanG F avail (i + 1) M = (i + (sL y).length, 0) ∧ (numX F (i + (sL y).length) : Int) = numX F i + y % 128 ^ (sL y).length * 128 ^ i
  | m, y, hm, F, i, avail, M, hF, ha, hM => by
    by_cases h : -64 ≤ y ∧ y ≤ 63
    · rw [sL_low h] at hF ha hM ⊢
      have h0 := hF 0 (by simp)
      simp at h0 ha hM
      obtain ⟨M', rfl⟩ : ∃ M', M = M' + 1 := ⟨M - 1, by omega⟩
      refine ⟨?_, ?_⟩
      · rw [scanG, if_neg (by omega), if_pos (by rw [show i + 1 - 1 = i from by omega, h0]; omega)]; simp
      · simp only [List.length_singleton, numX, h0]
        have : (((y % 128 % 128).toNat : Nat) : Int) = y % 128 := by omega
        rw [Int.natCast_add, Int.natCast_mul, this]; simp
    · rw [sL_high h] at hF ha hM ⊢
      have h0 := hF 0 (by simp)
      simp only [Nat.add_zero, List.getD_cons_zero] at h0
      simp only [List.length_cons] at ha hM ⊢
      obtain ⟨M', rfl⟩ : ∃ M', M = M' + 1 := ⟨M - 1, by omega⟩
      obtain ⟨r1, r2⟩ := sL_read (m - 1) (y / 128) (by omega) F (i + 1) avail M' (fun j hj => by
        have := hF (j + 1) (by simpa using hj)
        rw [show i + 1 + j = i + (j + 1) from by omega, this]; simp) (by omega) (by omega)
      refine ⟨?_, ?_⟩
      · rw [scanG, if_neg (by omega), if_neg (by rw [show i + 1 - 1 = i from by omega, h0]; omega), r1]
        congr 1; omega
      · rw [show i + ((sL (y / 128)).length + 1) = i + 1 + (sL (y / 128)).length from by omega, r2, numX, h0, emod_step]
        have : ((((y % 128 + 128) % 128).toNat : Nat) : Int) = y % 128 := by omega
        rw [Int.natCast_add, Int.natCast_mul, this, Int.pow_succ]
        generalize y / 128 % 128 ^ (sL (y / 128)).length = q at *
        have e : ((128 ^ i : Nat) : Int) = 128 ^ i := by simp
        rw [e]
        generalize (128 : Int) ^ i = p at *
        rw [Int.add_mul, Int.mul_comm p 128, ← Int.mul_assoc, Int.mul_comm q 128]; omega
termination_by m => m
decreasing_by omega

theorem sL_len : ∀ (m : Nat) (y : Int), y.natAbs ≤ m → ((sL y).length = 1 ∨ 64 * 128 ^ ((sL y).length - 2) ≤ y ∨ y < -(64 * 128 ^ ((sL y).length - 2))) ∧ -(64 * 128 ^ ((sL y).length - 1)) ≤ y ∧ y < 64 * 128 ^ ((sL y).length - 1)
  | m, y, hm => by
    by_cases h : -64 ≤ y ∧ y ≤ 63
    · rw [sL_low h]; simp; omega
    · rw [sL_high h]
      obtain ⟨h1, h2, h3⟩ := sL_len (m - 1) (y / 128) (by omega)
      have hp := sL_pos (y / 128)
      simp only [List.length_cons, Nat.add_sub_cancel]
      have e : (128 : Int) ^ (sL (y / 128)).length = 128 * 128 ^ ((sL (y / 128)).length - 1) := by
        rw [← Int.pow_succ']; congr 1; omega
      refine ⟨.inr ?_, ?_, ?_⟩
      · rw [show (sL (y / 128)).length + 1 - 2 = (sL (y / 128)).length - 1 from by omega]
        rcases h1 with h1 | h1
        · rw [h1]; simp; omega
        · by_cases h1' : (sL (y / 128)).length = 1
          · rw [h1']; simp; omega
          · rw [show (sL (y / 128)).length - 1 = (sL (y / 128)).length - 2 + 1 from by omega, Int.pow_succ]
            generalize (128 : Int) ^ ((sL (y / 128)).length - 2) = p at *
            omega
      · rw [e]; generalize (128 : Int) ^ ((sL (y / 128)).length - 1) = p at *; omega
      · rw [e]; generalize (128 : Int) ^ ((sL (y / 128)).length - 1) = p at *; omega
termination_by m => m
decreasing_by omega

section
variable (F : Nat → Int) (n : Nat) (hn1 : 1 ≤ n) (hn2 : n ≤ 64)
include hn1 hn2

theorem most_nat : (mostN n).toNat = (n + 6) / 7 := by unfold mostN rightB; rw [if_pos (by simp; omega)]; omega

theorem uL_most {x : Nat} (hx : x < 2 ^ n) : (uL x).length ≤ (n + 6) / 7 := by
  have h := (uL_len x x (Nat.le_refl _)).1
  have hp := uL_pos x
  rcases h with h | h
  · omega
  · rw [pow128] at h
    have : 7 * ((uL x).length - 1) < n := (Nat.pow_lt_pow_iff_right (by decide)).1 (Nat.lt_of_le_of_lt h hx)
    omega

theorem sL_most {y : Int} (h1 : -(2 ^ (n - 1)) ≤ y) (h2 : y < 2 ^ (n - 1)) : (sL y).length ≤ (n + 6) / 7 := by
  have h := (sL_len y.natAbs y (Nat.le_refl _)).1
  have hp := sL_pos y
  by_cases hl : (sL y).length = 1
  · omega
  · have e : (64 : Int) * 128 ^ ((sL y).length - 2) = ((2 ^ (7 * ((sL y).length - 1) - 1) : Nat) : Int) := by
      have : (2 : Nat) ^ (7 * ((sL y).length - 1) - 1) = 2 ^ 6 * 2 ^ (7 * ((sL y).length - 2)) := by rw [← Nat.pow_add]; congr 1; omega
      rw [this, ← pow128]; simp
    have e2 : (2 : Int) ^ (n - 1) = ((2 ^ (n - 1) : Nat) : Int) := by simp
    rw [e] at h
    rw [e2] at h1 h2
    have hle : 2 ^ (7 * ((sL y).length - 1) - 1) < 2 ^ (n - 1) := by omega
    have : 7 * ((sL y).length - 1) - 1 < n - 1 := (Nat.pow_lt_pow_iff_right (by decide)).1 hle
    omega

theorem readU_back {x avail : Nat} (hx : x < 2 ^ n) (hF : ∀ j, j < (uL x).length → F j = (uL x).getD j 0) (ha : (uL x).length ≤ avail) : readU F 0 avail n = ((x : Int), ((uL x).length : Int), 0) := by
  have hM := uL_most n hn1 hn2 hx
  obtain ⟨r1, r2⟩ := uL_read x x (Nat.le_refl _) F 0 avail ((mostN n).toNat) (by simpa using hF) (by omega) (by rw [most_nat n hn1 hn2]; exact hM)
  simp only [Nat.zero_add, numX, Nat.pow_zero, Nat.mul_one] at r1 r2
  unfold readU
  rw [r1]
  simp only [ne_eq, not_true_eq_false, if_false, r2]
  rw [if_neg (fun h => by have := h.2; rw [Int.toNat_natCast] at this; omega)]
  simp

theorem readI_back {y : Int} {avail : Nat} (h1 : -(2 ^ (n - 1)) ≤ y) (h2 : y < 2 ^ (n - 1)) (hF : ∀ j, j < (sL y).length → F j = (sL y).getD j 0) (ha : (sL y).length ≤ avail) : readI F 0 avail n = (y, ((sL y).length : Int), 0) := by
  have hM := sL_most n hn1 hn2 h1 h2
  obtain ⟨r1, r2⟩ := sL_read y.natAbs y (Nat.le_refl _) F 0 avail ((mostN n).toNat) (by simpa using hF) (by omega) (by rw [most_nat n hn1 hn2]; exact hM)
  simp only [Nat.zero_add, numX, Int.pow_zero, Int.mul_one] at r1 r2
  obtain ⟨_, s1, s2⟩ := sL_len y.natAbs y (Nat.le_refl _)
  have hp := sL_pos y
  have hb : 7 * (sL y).length < n + 7 := by omega
  have e128 : (128 : Int) ^ (sL y).length = ((2 ^ (7 * (sL y).length) : Nat) : Int) := by rw [← pow128]; simp
  have e64 : (64 : Int) * 128 ^ ((sL y).length - 1) = ((2 ^ (7 * (sL y).length - 1) : Nat) : Int) := by
    have : (2 : Nat) ^ (7 * (sL y).length - 1) = 2 ^ 6 * 2 ^ (7 * ((sL y).length - 1)) := by rw [← Nat.pow_add]; congr 1; omega
    rw [this, ← pow128]; simp
  have e2 : (2 : Int) ^ (n - 1) = ((2 ^ (n - 1) : Nat) : Int) := by simp
  have edouble : (2 : Nat) ^ (7 * (sL y).length) = 2 * 2 ^ (7 * (sL y).length - 1) := by rw [← Nat.pow_succ']; congr 1; omega
  have e3 : (2 : Int) ^ (7 * (sL y).length) = ((2 ^ (7 * (sL y).length) : Nat) : Int) := by simp
  rw [e64] at s1 s2
  rw [e128] at r2
  rw [e2] at h1 h2
  unfold readI
  rw [r1]
  simp only [ne_eq, not_true_eq_false, if_false]
  generalize hX : numX F (sL y).length = X at *
  have hXv : (X : Int) = if y < 0 then y + (2 ^ (7 * (sL y).length) : Nat) else y := by
    rw [r2]
    simp only [Int.ofNat_zero, Int.zero_add]
    split
    · have : y % (2 ^ (7 * (sL y).length) : Nat) = (y + (2 ^ (7 * (sL y).length) : Nat)) % (2 ^ (7 * (sL y).length) : Nat) := by simp
      rw [this, Int.emod_eq_of_lt (by omega) (by omega)]
    · rw [Int.emod_eq_of_lt (by omega) (by omega)]
  rw [if_neg (fun h => by
    obtain ⟨_, h4, h5⟩ := h
    rw [Int.toNat_natCast] at h4 h5
    generalize 2 ^ (n - 1) = p at *
    generalize 2 ^ (7 * (sL y).length) = q at *
    split at hXv <;> omega)]
  have hsx : sx X (7 * (sL y).length) = y := by
    unfold sx
    rw [e3]
    generalize 2 ^ (7 * (sL y).length - 1) = p at *
    generalize 2 ^ (7 * (sL y).length) = q at *
    split at hXv <;> split <;> omega
  rw [hsx]; simp
end

/-- All bytes but the last go on. -/
theorem uL_cont : ∀ (m x : Nat), x ≤ m → ∀ j, j + 1 < (uL x).length → 128 ≤ (uL x).getD j 0 ∧ (uL x).getD j 0 < 256
  | m, x, hm, j, hj => by
    by_cases h : x < 128
    · rw [uL_low h] at hj; simp at hj
    · rw [uL_high h] at hj ⊢
      cases j with
      | zero => simp; omega
      | succ j => simp at hj ⊢; simpa using uL_cont (m - 1) (x / 128) (by omega) j hj
termination_by m => m
decreasing_by omega

theorem uL_bound : ∀ (m x : Nat), x ≤ m → ∀ j, 0 ≤ (uL x).getD j 0 ∧ (uL x).getD j 0 < 256
  | m, x, hm, j => by
    by_cases h : x < 128
    · rw [uL_low h]; cases j <;> simp; omega
    · rw [uL_high h]
      cases j with
      | zero => simp; omega
      | succ j => simpa using uL_bound (m - 1) (x / 128) (by omega) j
termination_by m => m
decreasing_by omega

theorem sL_bound : ∀ (m : Nat) (y : Int), y.natAbs ≤ m → ∀ j, 0 ≤ (sL y).getD j 0 ∧ (sL y).getD j 0 < 256
  | m, y, hm, j => by
    by_cases h : -64 ≤ y ∧ y ≤ 63
    · rw [sL_low h]; cases j <;> simp; omega
    · rw [sL_high h]
      cases j with
      | zero => simp; omega
      | succ j => simpa using sL_bound (m - 1) (y / 128) (by omega) j
termination_by m => m
decreasing_by omega

/-- Bytes that all go on, and then none. -/
theorem scan_short (F : Nat → Int) (avail : Nat) : ∀ k n, 1 ≤ n → n + k > avail + 1 → n ≤ avail + 1 → (∀ j, n - 1 ≤ j → j < avail → 128 ≤ F j) → scanG F avail n k = (0, 2)
  | 0, n, h1, h2, h3, _ => by omega
  | k + 1, n, h1, h2, h3, h => by
    rw [scanG]
    by_cases ha : avail < n
    · rw [if_pos ha]
    · rw [if_neg ha, if_neg (by have := h (n - 1) (Nat.le_refl _) (by omega); omega)]
      exact scan_short F avail k (n + 1) (by omega) (by omega) (by omega) (fun j h1 h2 => h j (by omega) h2)

/-- The bytes, the last of which goes on, and a zero. -/
def lng (l : List Int) : List Int := l.set (l.length - 1) (l.getD (l.length - 1) 0 + 128) ++ [0]

theorem lng_cons {c : Int} {l : List Int} (h : 1 ≤ l.length) : lng (c :: l) = c :: lng l := by
  unfold lng
  obtain ⟨k, hk⟩ : ∃ k, l.length = k + 1 := ⟨l.length - 1, by omega⟩
  simp [hk]

theorem lng_length (l : List Int) : (lng l).length = l.length + 1 := by simp [lng]

theorem lng_read : ∀ (m x : Nat), x ≤ m → ∀ (F : Nat → Int) (i avail M : Nat), (∀ j, j < (uL x).length + 1 → F (i + j) = (lng (uL x)).getD j 0) → i + (uL x).length + 1 ≤ avail → (uL x).length + 1 ≤ M →
    scanG F avail (i + 1) M = (i + (uL x).length + 1, 0) ∧ numX F (i + (uL x).length + 1) = numX F i + x * 128 ^ i
  | m, x, hm, F, i, avail, M, hF, ha, hM => by
    by_cases h : x < 128
    · rw [uL_low h] at hF ha hM ⊢
      have h0 := hF 0 (by simp)
      have h1 := hF 1 (by simp)
      simp [lng] at h0 h1 ha hM
      obtain ⟨M', rfl⟩ : ∃ M', M = M' + 1 + 1 := ⟨M - 2, by omega⟩
      refine ⟨?_, ?_⟩
      · rw [scanG, if_neg (by omega), if_neg (by rw [show i + 1 - 1 = i from by omega, h0]; omega), scanG, if_neg (by omega), if_pos (by rw [show i + 1 + 1 - 1 = i + 1 from by omega, h1]; omega)]; simp
      · simp only [List.length_singleton, numX, h0, h1]
        rw [show ((((x : Int) + 128) % 128).toNat) = x from by omega]
        simp
    · rw [uL_high h] at hF ha hM ⊢
      rw [lng_cons (uL_pos _)] at hF
      have h0 := hF 0 (by simp)
      simp only [Nat.add_zero, List.getD_cons_zero] at h0
      simp only [List.length_cons] at ha hM ⊢
      obtain ⟨M', rfl⟩ : ∃ M', M = M' + 1 := ⟨M - 1, by omega⟩
      obtain ⟨r1, r2⟩ := lng_read (m - 1) (x / 128) (by omega) F (i + 1) avail M' (fun j hj => by
        have := hF (j + 1) (by simpa using hj)
        rw [show i + 1 + j = i + (j + 1) from by omega, this]; simp) (by omega) (by omega)
      refine ⟨?_, ?_⟩
      · rw [scanG, if_neg (by omega), if_neg (by rw [show i + 1 - 1 = i from by omega, h0]; omega), r1]
        congr 1; omega
      · rw [show i + ((uL (x / 128)).length + 1) + 1 = i + 1 + (uL (x / 128)).length + 1 from by omega, r2, numX, h0]
        rw [show ((((x % 128 + 128 : Nat) : Int) % 128).toNat) = x % 128 from by omega, Nat.pow_succ]
        have := Nat.div_add_mod x 128
        generalize x / 128 = q at *
        generalize x % 128 = r at *
        subst this
        rw [Nat.add_mul, Nat.mul_comm (128 ^ i) 128, ← Nat.mul_assoc, Nat.mul_comm q 128]; omega
termination_by m => m

theorem readU_long {F : Nat → Int} {n x avail : Nat} (hn1 : 1 ≤ n) (hn2 : n ≤ 64) (hx : x < 2 ^ n) (hF : ∀ j, j < (uL x).length + 1 → F j = (lng (uL x)).getD j 0) (ha : (uL x).length + 1 ≤ avail) (hM : (uL x).length < (n + 6) / 7) : readU F 0 avail n = ((x : Int), ((uL x).length : Int) + 1, 0) := by
  obtain ⟨r1, r2⟩ := lng_read x x (Nat.le_refl _) F 0 avail ((mostN n).toNat) (by simpa using hF) (by omega) (by rw [most_nat n hn1 hn2]; omega)
  have h00 : numX F 0 = 0 := rfl
  simp only [Nat.zero_add, h00, Nat.pow_zero, Nat.mul_one] at r1 r2
  unfold readU
  rw [r1]
  simp only [ne_eq, not_true_eq_false, if_false]
  rw [if_neg (fun h => by have := h.2; rw [Int.toNat_natCast, r2] at this; omega), r2]
  simp

theorem readU_short {F : Nat → Int} {n x : Nat} (hn1 : 1 ≤ n) (hn2 : n ≤ 64) (hx : x < 2 ^ n) (hF : ∀ j, j < (uL x).length → F j = (uL x).getD j 0) : readU F 0 ((uL x).length - 1) n = (0, 0, 2) := by
  have hM := uL_most n hn1 hn2 hx
  have hp := uL_pos x
  have hs := scan_short F ((uL x).length - 1) ((mostN n).toNat) 1 (by omega) (by rw [most_nat n hn1 hn2]; omega) (by omega) (fun j h1 h2 => by rw [hF j (by omega)]; exact (uL_cont x x (Nat.le_refl _) j (by omega)).1)
  unfold readU
  rw [hs]
  simp
end Go.Proofs.Ytbaomlmannpnaaa
