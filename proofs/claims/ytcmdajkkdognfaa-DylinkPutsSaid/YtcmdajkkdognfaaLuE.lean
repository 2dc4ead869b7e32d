/- What is proved here: the shortest bytes of a number are those that the document asks for: plain, without the program. -/
import Derived.Test.YtcmdajkkdognfaaLuC
namespace Go.Proofs.Ytcmdajkkdognfaa
open Go.RowKit
set_option linter.unusedVariables false
set_option linter.unusedSimpArgs false

def bitI (v : Int) (j : Nat) : Bool := (v / 2 ^ j) % 2 == 1
def sg (s : Bool) : Int := if s then -1 else 0
def gL (v : Int) (n : Nat) : List Int := (List.range n).map fun i => v / 128 ^ i % 128 + if i + 1 < n then 128 else 0

theorem anyFrom_bottom (f : Nat → Bool) : ∀ m s, anyFrom f s (m + 1) = (f s || anyFrom f (s + 1) m)
  | 0, s => by simp [anyFrom]
  | m + 1, s => by
    rw [anyFrom, anyFrom_bottom f m s, anyFrom, Bool.or_assoc, show s + (m + 1) = s + 1 + m from by omega]

theorem div_pow_succ (v : Int) (s : Nat) : v / 2 ^ (s + 1) = v / 2 ^ s / 2 := by
  rw [Int.ediv_ediv_of_nonneg (Int.pow_nonneg (by decide)), Int.pow_succ]

theorem any_iff (v : Int) (s0 : Bool) : ∀ m s, v / 2 ^ (s + m) = sg s0 → (anyFrom (fun j => bitI v j != s0) s m = false ↔ v / 2 ^ s = sg s0)
  | 0, s, h => by simpa [anyFrom] using h
  | m + 1, s, h => by
    rw [anyFrom_bottom, Bool.or_eq_false_iff, any_iff v s0 m (s + 1) (by rw [show s + 1 + m = s + (m + 1) from by omega]; exact h), div_pow_succ]
    simp only [bitI]
    generalize v / 2 ^ s = y
    cases s0 <;> simp [sg] <;> omega

theorem gL_succ (v : Int) (n : Nat) : gL v (n + 2) = (v % 128 + 128) :: gL (v / 128) (n + 1) := by
  unfold gL
  rw [List.range_succ_eq_map, List.map_cons, List.map_map]
  congr 1
  · simp
  · apply List.map_congr_left
    intro i _
    simp only [Function.comp, Nat.succ_eq_add_one]
    rw [Int.ediv_ediv_of_nonneg (by decide), Int.pow_succ, Int.mul_comm]
    congr 1
    by_cases h : i + 1 < n + 1
    · rw [if_pos h, if_pos (by omega)]
    · rw [if_neg h, if_neg (by omega)]

theorem div_shift (v : Int) (k : Nat) : v / 2 ^ (7 + k) = v / 128 / 2 ^ k := by
  rw [Int.ediv_ediv_of_nonneg (by decide), Int.pow_add]; rfl

theorem uL_gL : ∀ (n : Nat) (v : Nat), 1 ≤ n → (v : Int) / 2 ^ (7 * n) = 0 → (∀ k, 1 ≤ k → k < n → (v : Int) / 2 ^ (7 * k) ≠ 0) → uL v = gL v n
  | 0, _, h, _, _ => by omega
  | 1, v, _, h, _ => by
    have : (2 : Int) ^ (7 * 1) = 128 := by decide
    rw [this] at h
    have hv : v < 128 := by omega
    rw [uL_low hv]
    simp [gL]; omega
  | n + 2, v, _, h, hk => by
    have h1 := hk 1 (by omega) (by omega)
    have : (2 : Int) ^ (7 * 1) = 128 := by decide
    rw [this] at h1
    rw [uL_high (by omega), gL_succ, uL_gL (n + 1) (v / 128) (by omega) ?_ ?_]
    · simp
    · rw [show 7 * (n + 2) = 7 + 7 * (n + 1) from by omega, div_shift] at h
      simpa using h
    · intro k h1 h2 h3
      refine hk (k + 1) (by omega) (by omega) ?_
      rw [show 7 * (k + 1) = 7 + 7 * k from by omega, div_shift]
      simpa using h3

theorem sL_gL : ∀ (n : Nat) (v : Int) (s0 : Bool), 1 ≤ n → (s0 = true ↔ v < 0) → v / 2 ^ (7 * n - 1) = sg s0 → (∀ k, 1 ≤ k → k < n → v / 2 ^ (7 * k - 1) ≠ sg s0) → sL v = gL v n
  | 0, _, _, h, _, _, _ => by omega
  | 1, v, s0, _, hs, h, _ => by
    have : (2 : Int) ^ (7 * 1 - 1) = 64 := by decide
    rw [this] at h
    have hv : -64 ≤ v ∧ v ≤ 63 := by cases s0 <;> simp [sg] at h hs <;> omega
    rw [sL_low hv]
    simp [gL]
  | n + 2, v, s0, _, hs, h, hk => by
    have h1 := hk 1 (by omega) (by omega)
    have : (2 : Int) ^ (7 * 1 - 1) = 64 := by decide
    rw [this] at h1
    rw [sL_high (by cases s0 <;> simp [sg] at h1 hs <;> omega), gL_succ, sL_gL (n + 1) (v / 128) s0 (by omega) (hs.trans (by omega)) ?_ ?_]
    · rw [show 7 * (n + 2) - 1 = 7 + (7 * (n + 1) - 1) from by omega, div_shift] at h
      exact h
    · intro k h1 h2 h3
      refine hk (k + 1) (by omega) (by omega) ?_
      rw [show 7 * (k + 1) - 1 = 7 + (7 * k - 1) from by omega, div_shift]
      exact h3

theorem bit_nat (x : Int) : (((x % 2 == 1).toNat : Nat) : Int) = x % 2 := by
  rcases (show x % 2 = 0 ∨ x % 2 = 1 by omega) with h | h <;> simp [h]

theorem acc_bits (v : Int) (i : Nat) : ((acc (bitI v) i 7 : Nat) : Int) = v / 128 ^ i % 128 := by
  have e : ∀ k, v / 2 ^ (7 * i + k) = v / 128 ^ i / 2 ^ k := fun k => by
    rw [Int.ediv_ediv_of_nonneg (Int.pow_nonneg (by decide)), Int.pow_add, Int.pow_mul]; rfl
  simp only [acc, bitI, e]
  generalize v / 128 ^ i = y
  simp only [Int.natCast_add, Int.natCast_mul, bit_nat]
  simp
  omega

theorem grpL_gL (f : Nat → Bool) (v : Int) (n : Nat) (hf : ∀ j, f j = bitI v j) : grpL f n n = gL v n := by
  have : f = bitI v := funext hf
  subst this
  unfold grpL gL
  apply List.map_congr_left
  intro i _
  unfold grpB
  rw [← acc_bits]
  split <;> simp

theorem bitAt_I (v j : Nat) : bitAt v j = bitI v j := by
  unfold bitAt bitI
  rw [Bool.eq_iff_iff]
  have : ((v / 2 ^ j : Nat) : Int) = (v : Int) / 2 ^ j := by simp
  simp only [beq_iff_eq]
  rw [← this]; omega

theorem big_zero (v : Nat) (hv : v < 2 ^ 64) (j : Nat) (hj : 64 ≤ j) : (v : Int) / 2 ^ j = 0 := by
  have : v / 2 ^ j = 0 := Nat.div_eq_of_lt (Nat.lt_of_lt_of_le hv (Nat.pow_le_pow_right (by decide) hj))
  have h2 : ((v / 2 ^ j : Nat) : Int) = (v : Int) / 2 ^ j := by simp
  rw [← h2, this]; rfl

theorem bitOf_U (v : Nat) (hv : v < 2 ^ 64) (j : Nat) : bitOf (bitsL v 64) false j = bitI v j := by
  unfold bitOf
  rw [bitsL_length]
  split
  · rename_i h
    rw [← bitAt_I]; simp [bitsL, h]
  · rename_i h
    unfold bitI; rw [big_zero v hv j (by omega)]; rfl

theorem refU (v : Nat) (hv : v < 2 ^ 64) (n : Nat) (h : RefRes (moU (bitAt v)) n) : uL v = grpL (bitOf (bitsL v 64) false) n n := by
  obtain ⟨h1, h2, h3, h4⟩ := h
  rw [grpL_gL _ v n (bitOf_U v hv)]
  have key : ∀ k, 1 ≤ k → k < 10 → (moU (bitAt v) k = false ↔ (v : Int) / 2 ^ (7 * k) = 0) := by
    intro k hk1 hk2
    have := any_iff v false (64 - 7 * k) (7 * k) (by rw [show 7 * k + (64 - 7 * k) = 64 from by omega]; exact big_zero v hv 64 (by omega))
    rw [show (sg false) = 0 from rfl] at this
    rw [← this]
    unfold moU
    rw [show (fun j => bitI (v : Int) j != false) = bitAt v from funext fun j => by rw [bitAt_I]; simp]
  refine uL_gL n v h1 ?_ (fun k hk1 hk2 => ?_)
  · by_cases hn : n < 10
    · exact (key n h1 hn).1 (h3 hn)
    · exact big_zero v hv _ (by omega)
  · intro h0
    have := (key k hk1 (by omega)).2 h0
    rw [h4 k hk1 hk2] at this
    cases this

theorem big_sign (v : Int) (h1 : -(2 ^ 63) ≤ v) (h2 : v < 2 ^ 63) (j : Nat) (hj : 63 ≤ j) : v / 2 ^ j = sg (decide (v < 0)) := by
  have hp : (2 : Int) ^ 63 ≤ 2 ^ j := by
    have := Nat.pow_le_pow_right (n := 2) (by decide) hj
    exact_mod_cast this
  generalize (2 : Int) ^ j = p at *
  by_cases h : v < 0
  · simp only [h, decide_true, sg, if_true]
    have hp0 : 0 < p := by omega
    refine Int.le_antisymm ?_ ?_
    · have := Int.ediv_lt_of_lt_mul hp0 (show v < 0 * p by omega)
      omega
    · exact Int.le_ediv_of_mul_le hp0 (by omega)
  · simp only [h, decide_false, sg]
    exact Int.ediv_eq_zero_of_lt (by omega) (by omega)

theorem bit_mod (v : Int) (u : Nat) (hu : (u : Int) = v % 2 ^ 64) (j : Nat) (hj : j < 64) : bitAt u j = bitI v j := by
  rw [bitAt_I]
  unfold bitI
  have : (u : Int) / 2 ^ j % 2 = v / 2 ^ j % 2 := by
    obtain ⟨q, hq⟩ : ∃ q, v = u + 2 ^ j * (2 * q) := by
      refine ⟨v / 2 ^ 64 * 2 ^ (63 - j), ?_⟩
      have e : (2 : Int) ^ j * (2 * (v / 2 ^ 64 * 2 ^ (63 - j))) = 2 ^ 64 * (v / 2 ^ 64) := by
        have : (2 : Int) ^ 64 = 2 ^ j * 2 * 2 ^ (63 - j) := by
          rw [← Int.pow_succ, ← Int.pow_add]; congr 1; omega
        rw [this]; simp only [Int.mul_assoc, Int.mul_comm, Int.mul_left_comm]
      rw [e, hu]
      have := Int.emod_add_mul_ediv v (2 ^ 64)
      omega
    rw [hq, Int.add_mul_ediv_left _ _ (by have := Int.pow_pos (n := 2) (m := j) (by decide); omega)]
    omega
  rw [this]

theorem bitOf_S (v : Int) (h1 : -(2 ^ 63) ≤ v) (h2 : v < 2 ^ 63) (u : Nat) (hu : (u : Int) = v % 2 ^ 64) (j : Nat) : bitOf (bitsL u 64) (bitAt u 63) j = bitI v j := by
  have hb : bitAt u 63 = bitI v 63 := bit_mod v u hu 63 (by decide)
  unfold bitOf
  rw [bitsL_length]
  split
  · rename_i h
    rw [← bit_mod v u hu j h]; simp [bitsL, h]
  · rename_i h
    rw [hb]; unfold bitI
    rw [big_sign v h1 h2 63 (by omega), big_sign v h1 h2 j (by omega)]

theorem refS (v : Int) (h1 : -(2 ^ 63) ≤ v) (h2 : v < 2 ^ 63) (u : Nat) (hu : (u : Int) = v % 2 ^ 64) (n : Nat) (h : RefRes (moS (bitAt u)) n) : sL v = grpL (bitOf (bitsL u 64) (bitAt u 63)) n n := by
  obtain ⟨g1, g2, g3, g4⟩ := h
  rw [grpL_gL _ v n (bitOf_S v h1 h2 u hu)]
  have hs : bitAt u 63 = decide (v < 0) := by
    rw [bit_mod v u hu 63 (by decide)]; unfold bitI
    rw [big_sign v h1 h2 63 (by omega)]
    by_cases h : v < 0 <;> simp [sg, h]
  have key : ∀ k, 1 ≤ k → k < 10 → (moS (bitAt u) k = false ↔ v / 2 ^ (7 * k - 1) = sg (decide (v < 0))) := by
    intro k hk1 hk2
    have := any_iff v (decide (v < 0)) (65 - 7 * k) (7 * k - 1) (by rw [show 7 * k - 1 + (65 - 7 * k) = 64 from by omega]; exact big_sign v h1 h2 64 (by omega))
    rw [← this]
    unfold moS
    rw [hs]
    have cong : ∀ m s, s + m ≤ 64 → anyFrom (fun j => bitAt u j != decide (v < 0)) s m = anyFrom (fun j => bitI v j != decide (v < 0)) s m := by
      intro m s hm
      induction m with
      | zero => rfl
      | succ m ih => rw [anyFrom, anyFrom, ih (by omega), bit_mod v u hu (s + m) (by omega)]
    rw [cong _ _ (by omega)]
  refine sL_gL n v (decide (v < 0)) g1 (by simp) ?_ (fun k hk1 hk2 => ?_)
  · by_cases hn : n < 10
    · exact (key n g1 hn).1 (g3 hn)
    · exact big_sign v h1 h2 _ (by omega)
  · intro h0
    have := (key k hk1 (by omega)).2 h0
    rw [g4 k hk1 hk2] at this
    cases this
end Go.Proofs.Ytcmdajkkdognfaa
