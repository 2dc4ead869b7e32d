/- What is proved here: the number that leb reads is the document's: plain, without the program. -/
import Derived.Test.YtbaomlmannpnaaaLebI0
import Derived.Test.YtbaomlmannpnaaaLebE
namespace Go.Proofs.Ytbaomlmannpnaaa
open Go.RowKit
set_option linter.unusedVariables false
set_option linter.unusedSimpArgs false

theorem bitAt_add_low {A c s i : Nat} (hi : i < s) : bitAt (A + c * 2 ^ s) i = bitAt A i := by
  unfold bitAt
  have e : c * 2 ^ s = 2 ^ i * (2 * (c * 2 ^ (s - i - 1))) := by
    have : (2 : Nat) ^ s = 2 ^ i * 2 * 2 ^ (s - i - 1) := by rw [← Nat.pow_succ, ← Nat.pow_add]; congr 1; omega
    rw [this]; simp only [Nat.mul_assoc, Nat.mul_comm, Nat.mul_left_comm]
  rw [e, Nat.add_mul_div_left _ _ (Nat.two_pow_pos i), Nat.add_mul_mod_self_left]

theorem bitAt_add_high {A c s k : Nat} (hA : A < 2 ^ s) : bitAt (A + c * 2 ^ s) (s + k) = bitAt c k := by
  unfold bitAt
  rw [Nat.pow_add, ← Nat.div_div_eq_div_mul, Nat.add_mul_div_right _ _ (Nat.two_pow_pos s), Nat.div_eq_of_lt hA, Nat.zero_add]

theorem bitAt_mod {c b k : Nat} (hk : k < b) : bitAt (c % 2 ^ b) k = bitAt c k := by
  have h := Nat.div_add_mod c (2 ^ b)
  have := bitAt_add_low (A := c % 2 ^ b) (c := c / 2 ^ b) (s := b) hk
  rw [← this]; congr 1
  rw [Nat.mul_comm]; omega

theorem numX_bit (F : Nat → Int) (hF : ∀ j, 0 ≤ F j) : ∀ n i, i < 7 * n → bitAt (numX F n) i = bitB F i
  | 0, i, h => by omega
  | n + 1, i, h => by
    rw [numX, pow128]
    by_cases hi : i < 7 * n
    · rw [bitAt_add_low hi, numX_bit F hF n i hi]
    · obtain ⟨k, rfl⟩ : ∃ k, i = 7 * n + k := ⟨i - 7 * n, by omega⟩
      have hlt := numX_lt F n
      rw [pow128] at hlt
      rw [bitAt_add_high hlt]
      unfold bitB
      rw [show (7 * n + k) / 7 = n from by omega, show (7 * n + k) % 7 = k from by omega]
      have : (F n % 128).toNat = (F n).toNat % 2 ^ 7 := by have := hF n; omega
      rw [this, bitAt_mod (by omega)]; rfl

theorem valB_congr {g h : Nat → Bool} : ∀ m, (∀ j, j < m → g j = h j) → valB g m = valB h m
  | 0, _ => rfl
  | m + 1, hh => by rw [valB, valB, valB_congr m (fun j hj => hh j (by omega)), hh m (by omega)]

theorem valB_int (v : Int) : ∀ m, ((valB (bitI v) m : Nat) : Int) = v % 2 ^ m
  | 0 => by simp [valB]
  | m + 1 => by
    rw [valB, Int.natCast_add, valB_int v m]
    have hb : (((bitI v m).toNat : Nat) : Int) = v / 2 ^ m % 2 := bit_nat _
    rw [Int.natCast_mul, hb]
    have h1 := Int.emod_add_mul_ediv v (2 ^ m)
    have h2 := Int.emod_add_mul_ediv (v / 2 ^ m) 2
    have hp : (0 : Int) < 2 ^ m := Int.pow_pos (by decide)
    have h3 : v = 2 ^ (m + 1) * (v / 2 ^ m / 2) + (v % 2 ^ m + v / 2 ^ m % 2 * 2 ^ m) := by
      rw [Int.pow_succ, Int.mul_assoc]
      calc v = v % 2 ^ m + 2 ^ m * (v / 2 ^ m) := h1.symm
        _ = v % 2 ^ m + 2 ^ m * (v / 2 ^ m % 2 + 2 * (v / 2 ^ m / 2)) := by rw [h2]
        _ = _ := by rw [Int.mul_add, Int.mul_comm (v / 2 ^ m % 2)]; omega
    have h4 : 0 ≤ v % 2 ^ m := Int.emod_nonneg _ (by omega)
    have h5 : v % 2 ^ m < 2 ^ m := Int.emod_lt_of_pos _ hp
    have h6 : v / 2 ^ m % 2 = 0 ∨ v / 2 ^ m % 2 = 1 := by omega
    have e : ((2 ^ m : Nat) : Int) = 2 ^ m := by simp
    rw [e]
    generalize hr : v % 2 ^ m + v / 2 ^ m % 2 * 2 ^ m = r at *
    have hr0 : 0 ≤ r ∧ r < 2 ^ (m + 1) := by
      rw [Int.pow_succ]
      rcases h6 with h6 | h6 <;> rw [h6] at hr <;> omega
    conv => rhs; rw [h3]
    rw [Int.add_comm, Int.add_mul_emod_self_left, Int.emod_eq_of_lt hr0.1 hr0.2]

theorem bitI_nat (X j : Nat) : bitI (X : Int) j = bitAt X j := (bitAt_I X j).symm

/-- A number with a sign has the bits of the number without, up to its last. -/
theorem bitI_sx {X b : Nat} (hb : 1 ≤ b) (j : Nat) (hj : j < b) : bitI (sx X b) j = bitAt X j := by
  unfold sx
  split
  · have : (X : Int) = ((X : Int) - 2 ^ b) + 2 ^ j * (2 * 2 ^ (b - j - 1)) := by
      have : (2 : Int) ^ b = 2 ^ j * 2 * 2 ^ (b - j - 1) := by rw [← Int.pow_succ, ← Int.pow_add]; congr 1; omega
      rw [← Int.mul_assoc, ← this]; omega
    rw [← bitI_nat]
    unfold bitI
    conv => rhs; rw [this, Int.add_mul_ediv_left _ _ (by have := Int.pow_pos (n := 2) (m := j) (by decide); omega)]
    congr 1
    omega
  · exact bitI_nat X j

theorem sx_high {X b : Nat} (hb : 1 ≤ b) (hX : X < 2 ^ b) (j : Nat) (hj : b - 1 ≤ j) : sx X b / 2 ^ j = sg (decide (2 ^ (b - 1) ≤ X)) := by
  have e : (2 : Nat) ^ b = 2 * 2 ^ (b - 1) := by rw [← Nat.pow_succ']; congr 1; omega
  have e2 : (2 : Int) ^ b = ((2 ^ b : Nat) : Int) := by simp
  have hp := Nat.pow_le_pow_right (n := 2) (by decide) hj
  have e3 : (2 : Int) ^ j = ((2 ^ j : Nat) : Int) := by simp
  have hp0 := Nat.two_pow_pos (b - 1)
  unfold sx
  rw [e2, e3]
  by_cases h : 2 ^ (b - 1) ≤ X
  · rw [if_pos h]
    simp only [h, decide_true, sg, if_true]
    generalize 2 ^ j = q at *
    generalize 2 ^ (b - 1) = p at *
    refine Int.le_antisymm ?_ ?_
    · have := Int.ediv_lt_of_lt_mul (show (0 : Int) < q by omega) (show (X : Int) - (2 ^ b : Nat) < 0 * q by omega)
      omega
    · exact Int.le_ediv_of_mul_le (by omega) (by omega)
  · rw [if_neg h]
    simp only [h, decide_false, sg]
    exact Int.ediv_eq_zero_of_lt (by omega) (by omega)

theorem anyFrom_congr {f g : Nat → Bool} : ∀ m s, (∀ j, s ≤ j → j < s + m → f j = g j) → anyFrom f s m = anyFrom g s m
  | 0, _, _ => rfl
  | m + 1, s, h => by rw [anyFrom, anyFrom, anyFrom_congr m s (fun j h1 h2 => h j h1 (by omega)), h (s + m) (by omega) (by omega)]

theorem anyFrom_false {f : Nat → Bool} : ∀ m s, anyFrom f s m = false ↔ ∀ j, s ≤ j → j < s + m → f j = false
  | 0, s => by simp [anyFrom]; omega
  | m + 1, s => by
    rw [anyFrom, Bool.or_eq_false_iff, anyFrom_false m s]
    constructor
    · rintro ⟨h1, h2⟩ j hj1 hj2
      by_cases e : j = s + m
      · rw [e]; exact h2
      · exact h1 j hj1 (by omega)
    · intro h
      exact ⟨fun j h1 h2 => h j h1 (by omega), h (s + m) (by omega) (by omega)⟩

section
variable (F : Nat → Int) (hF : ∀ j, 0 ≤ F j) (n bits : Nat) (hn : 1 ≤ n) (hb1 : 1 ≤ bits) (hb2 : bits ≤ 64)
include hF hn hb1 hb2

/-- Without a sign. -/
theorem plainU : (badB F n bits false = true ↔ (bits < 7 * n ∧ 2 ^ bits ≤ numX F n)) ∧ (badB F n bits false = false → valB (isB F n bits false) 64 = numX F n) := by
  have _h1 := hn
  have _h2 := hb1
  have hlt := numX_lt F n
  rw [pow128] at hlt
  have hbit := numX_bit F hF n
  generalize numX F n = X at *
  have hzero : ∀ j, 7 * n ≤ j → (X : Int) / 2 ^ j = 0 := fun j hj => by
    have : X / 2 ^ j = 0 := Nat.div_eq_of_lt (Nat.lt_of_lt_of_le hlt (Nat.pow_le_pow_right (by decide) hj))
    have h2 : ((X / 2 ^ j : Nat) : Int) = (X : Int) / 2 ^ j := by simp
    rw [← h2, this]; rfl
  have hbad : badB F n bits false = false ↔ (bits < 7 * n → X < 2 ^ bits) := by
    unfold badB
    by_cases hb : bits < 7 * n
    · have h := any_iff X false (7 * n - bits) bits (by rw [show bits + (7 * n - bits) = 7 * n from by omega]; exact hzero _ (Nat.le_refl _))
      rw [anyFrom_congr (g := fun j => bitI (X : Int) j != false) _ _ (fun j h1 h2 => by rw [bitI_nat, hbit j (by omega)]), h]
      have h2 : ((X / 2 ^ bits : Nat) : Int) = (X : Int) / 2 ^ bits := by simp
      rw [← h2, show sg false = 0 from rfl]
      have : X / 2 ^ bits = 0 ↔ X < 2 ^ bits := Nat.div_eq_zero_iff_lt (Nat.two_pow_pos _)
      constructor
      · intro h _; exact this.1 (by omega)
      · intro h; have := this.2 (h hb); omega
    · rw [show 7 * n - bits = 0 from by omega]
      simp [anyFrom, hb]
  constructor
  · cases h : badB F n bits false with
    | false => have := hbad.1 h; simp; exact fun a => this a
    | true =>
      simp only [true_iff]
      have : ¬ (bits < 7 * n → X < 2 ^ bits) := fun hh => by rw [hbad.2 hh] at h; cases h
      by_cases hb : bits < 7 * n
      · exact ⟨hb, Nat.le_of_not_lt fun hh => this (fun _ => hh)⟩
      · exact absurd (fun h => absurd h hb) this
  · intro h
    have hX : X < 2 ^ bits := by
      by_cases hb : bits < 7 * n
      · exact hbad.1 h hb
      · exact Nat.lt_of_lt_of_le hlt (Nat.pow_le_pow_right (by decide) (by omega))
    have e : valB (isB F n bits false) 64 = valB (bitI (X : Int)) 64 := valB_congr 64 (fun j _ => by
      unfold isB
      by_cases hj : bits ≤ j
      · rw [if_pos hj]
        unfold bitI
        have : X / 2 ^ j = 0 := Nat.div_eq_of_lt (Nat.lt_of_lt_of_le hX (Nat.pow_le_pow_right (by decide) hj))
        have h2 : ((X / 2 ^ j : Nat) : Int) = (X : Int) / 2 ^ j := by simp
        rw [← h2, this]; rfl
      · rw [if_neg hj]
        by_cases hj2 : j < 7 * n
        · rw [if_pos hj2, bitI_nat, hbit j hj2]
        · rw [if_neg hj2]; unfold bitI; rw [hzero j (by omega)]; rfl)
    have h64 : X < 2 ^ 64 := Nat.lt_of_lt_of_le hX (Nat.pow_le_pow_right (by decide) hb2)
    have := valB_int X 64
    rw [← e] at this
    omega

/-- With a sign. -/
theorem plainS (hn10 : 7 * n < bits + 7) : (badB F n bits (topB F n bits true) = true ↔ (bits < 7 * n ∧ 2 ^ (bits - 1) ≤ numX F n ∧ numX F n < 2 ^ (7 * n) - 2 ^ (bits - 1))) ∧
    (badB F n bits (topB F n bits true) = false → ((valB (isB F n bits (topB F n bits true)) 64 : Nat) : Int) = sx (numX F n) (7 * n) % 2 ^ 64 ∧ -(2 ^ 63) ≤ sx (numX F n) (7 * n) ∧ sx (numX F n) (7 * n) < 2 ^ 63) := by
  have hlt := numX_lt F n
  rw [pow128] at hlt
  have hbit := numX_bit F hF n
  generalize numX F n = X at *
  have hYb : ∀ j, j < 7 * n → bitI (sx X (7 * n)) j = bitB F j := fun j hj => (bitI_sx (by omega) j hj).trans (hbit j hj)
  have hYh := sx_high (X := X) (b := 7 * n) (by omega) hlt
  generalize hs : decide (2 ^ (7 * n - 1) ≤ X) = σ at *
  have hbig : ∀ j, 7 * n - 1 ≤ j → bitI (sx X (7 * n)) j = σ := fun j hj => by unfold bitI; rw [hYh j hj]; cases σ <;> rfl
  have hlast : bitB F (7 * n - 1) = σ := by rw [← hYb _ (by omega)]; exact hbig _ (Nat.le_refl _)
  have htop : topB F n bits true = bitB F (min bits (7 * n) - 1) := by simp [topB]
  rw [htop]
  -- all bits from the last of the number on are the sign's
  have hgood : ∀ s, s + 1 ≤ 7 * n → ((∀ j, s ≤ j → j < 7 * n → bitB F j = σ) ↔ sx X (7 * n) / 2 ^ s = sg σ) := fun s h => by
    have hi := any_iff (sx X (7 * n)) σ (7 * n - s) s (hYh _ (by omega))
    rw [← hi, anyFrom_false]
    constructor
    · intro hh j h1 h2; simp [hYb j (by omega), hh j h1 (by omega)]
    · intro hh j h1 h2; have := hh j h1 (by omega); rw [hYb j (by omega)] at this; simpa using this
  have hrange : ∀ s, s + 1 ≤ 7 * n → (sx X (7 * n) / 2 ^ s = sg σ ↔ ¬ (2 ^ s ≤ X ∧ X < 2 ^ (7 * n) - 2 ^ s)) := fun s h => by
    have e1 : (2 : Int) ^ s = ((2 ^ s : Nat) : Int) := by simp
    have e2 : (2 : Int) ^ (7 * n) = ((2 ^ (7 * n) : Nat) : Int) := by simp
    have e3 : (2 : Nat) ^ (7 * n) = 2 * 2 ^ (7 * n - 1) := by rw [← Nat.pow_succ']; congr 1; omega
    have hp := Nat.pow_le_pow_right (n := 2) (by decide) (show s ≤ 7 * n - 1 by omega)
    have hp0 := Nat.two_pow_pos s
    unfold sx
    rw [e1, e2]
    by_cases hx : 2 ^ (7 * n - 1) ≤ X
    · have : σ = true := by rw [← hs]; simp [hx]
      rw [if_pos hx, this, show sg true = -1 from rfl]
      generalize 2 ^ (7 * n - 1) = p at *
      generalize 2 ^ s = q at *
      constructor
      · intro hd
        have := Int.ediv_mul_le ((X : Int) - (2 ^ (7 * n) : Nat)) (show (q : Int) ≠ 0 by omega)
        rw [hd] at this
        omega
      · intro hd
        refine Int.le_antisymm ?_ ?_
        · have := Int.ediv_lt_of_lt_mul (show (0 : Int) < q by omega) (show (X : Int) - (2 ^ (7 * n) : Nat) < 0 * q by omega)
          omega
        · exact Int.le_ediv_of_mul_le (by omega) (by omega)
    · have : σ = false := by rw [← hs]; simp; omega
      rw [if_neg hx, this, show sg false = 0 from rfl]
      generalize 2 ^ (7 * n - 1) = p at *
      generalize 2 ^ s = q at *
      constructor
      · intro hd
        have := Int.lt_ediv_add_one_mul_self (X : Int) (show (0 : Int) < q by omega)
        rw [hd] at this
        omega
      · intro hd
        exact Int.ediv_eq_zero_of_lt (by omega) (by omega)
  by_cases hb : bits < 7 * n
  · rw [show min bits (7 * n) - 1 = bits - 1 from by omega]
    have hiff : badB F n bits (bitB F (bits - 1)) = false ↔ sx X (7 * n) / 2 ^ (bits - 1) = sg σ := by
      rw [← hgood (bits - 1) (by omega)]
      unfold badB
      rw [anyFrom_false]
      constructor
      · intro h
        have ht : bitB F (bits - 1) = σ := by
          have := h (7 * n - 1) (by omega) (by omega)
          rw [hlast] at this
          simp at this; exact this.symm
        intro j h1 h2
        by_cases e : j = bits - 1
        · rw [e]; exact ht
        · have := h j (by omega) (by omega)
          rw [ht] at this
          simpa using this
      · intro h j h1 h2
        rw [h j (by omega) (by omega), h (bits - 1) (by omega) (by omega)]; simp
    rw [hrange (bits - 1) (by omega)] at hiff
    constructor
    · cases hbd : badB F n bits (bitB F (bits - 1)) with
      | false => have := hiff.1 hbd; simp only [Bool.false_eq_true, false_iff]; exact fun h => this h.2
      | true =>
        simp only [true_iff]
        refine ⟨hb, Classical.byContradiction fun hh => ?_⟩
        rw [hiff.2 hh] at hbd; cases hbd
    · intro h
      have hd := (hrange (bits - 1) (by omega)).2 (hiff.1 h)
      have hall := (hgood (bits - 1) (by omega)).2 hd
      have hyj : ∀ j, bits - 1 ≤ j → bitI (sx X (7 * n)) j = σ := fun j hj => by
        by_cases h2 : j < 7 * n
        · rw [hYb j h2]; exact hall j hj h2
        · exact hbig j (by omega)
      refine ⟨?_, ?_⟩
      · rw [← valB_int]
        congr 1
        refine valB_congr 64 (fun j _ => ?_)
        unfold isB
        rw [hall (bits - 1) (by omega) (by omega)]
        by_cases hj : bits ≤ j
        · rw [if_pos hj, hyj j (by omega)]
        · rw [if_neg hj, if_pos (by omega), hYb j (by omega)]
      · have hp : (2 : Int) ^ (bits - 1) ≤ 2 ^ 63 := by exact_mod_cast Nat.pow_le_pow_right (n := 2) (by decide) (show bits - 1 ≤ 63 by omega)
        have hp0 : (0 : Int) < 2 ^ (bits - 1) := Int.pow_pos (by decide)
        have h1 := Int.ediv_mul_le (sx X (7 * n)) (show (2 : Int) ^ (bits - 1) ≠ 0 by omega)
        have h2 := Int.lt_ediv_add_one_mul_self (sx X (7 * n)) hp0
        rw [hd] at h1 h2
        cases σ <;> simp only [sg, if_true, Bool.false_eq_true, if_false] at h1 h2 <;> omega
  · rw [show min bits (7 * n) - 1 = 7 * n - 1 from by omega, hlast]
    have hbd : badB F n bits σ = false := by unfold badB; rw [show 7 * n - bits = 0 from by omega]; rfl
    constructor
    · rw [hbd]; simp; omega
    · intro _
      refine ⟨?_, ?_⟩
      · rw [← valB_int]
        congr 1
        refine valB_congr 64 (fun j _ => ?_)
        unfold isB
        by_cases hj : bits ≤ j
        · rw [if_pos hj, hbig j (by omega)]
        · rw [if_neg hj]
          by_cases h2 : j < 7 * n
          · rw [if_pos h2, hYb j h2]
          · rw [if_neg h2, hbig j (by omega)]
      · have e3 : (2 : Nat) ^ (7 * n) = 2 * 2 ^ (7 * n - 1) := by rw [← Nat.pow_succ']; congr 1; omega
        have e2 : (2 : Int) ^ (7 * n) = ((2 ^ (7 * n) : Nat) : Int) := by simp
        have hp := Nat.pow_le_pow_right (n := 2) (by decide) (show 7 * n - 1 ≤ 63 by omega)
        have h63 : (2 : Nat) ^ 63 = 9223372036854775808 := by decide
        have h63' : (2 : Int) ^ 63 = 9223372036854775808 := by decide
        unfold sx
        rw [e2, h63']
        split <;> omega
end
end Go.Proofs.Ytbaomlmannpnaaa
