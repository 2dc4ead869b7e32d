/- What is proved here: leading and trailing noughts and ones of a number, as plain laws. -/
import Derived.Test.YtahgkfekggkjnaaDoorAlQ
import Derived.Test.YtahgkfekggkjnaaDoorSxG
namespace Go.Proofs.YtahgkfekggkjnaaDoor
open Go.RowKit
set_option linter.unusedVariables false
set_option linter.unusedSimpArgs false

theorem shr_n (x s m : Nat) (hm : 2 ^ s = m) (hs : s < 32) : Int.fdiv ((x : Nat) : Int) (2 ^ (min s IntKind.u32.bits)) = ((x / m : Nat) : Int) := by
  rw [show min s IntKind.u32.bits = s from Nat.min_eq_left (by simp only [IntKind.bits]; omega), pow_cast, Int.fdiv_eq_ediv_of_nonneg _ (Int.natCast_nonneg _), hm]
  rfl
def lenN (v : Nat) : Nat := if v = 0 then 0 else Nat.log2 v + 1
def lenOk (v L : Nat) : Prop := v < 2 ^ L ∧ (v ≠ 0 → 1 ≤ L ∧ 2 ^ (L - 1) ≤ v) ∧ (v = 0 → L = 0)
theorem lenOk_eq {v L : Nat} (h : lenOk v L) : L = lenN v := by
  obtain ⟨h1, h2, h3⟩ := h
  unfold lenN
  by_cases h0 : v = 0
  · rw [if_pos h0]; exact h3 h0
  · rw [if_neg h0]
    obtain ⟨a, b⟩ := h2 h0
    have c1 := (Nat.log2_lt h0).2 h1
    have c2 := (Nat.le_log2 h0).2 b
    omega
theorem lenOk_lenN (v : Nat) : lenOk v (lenN v) := by
  unfold lenN
  by_cases h0 : v = 0
  · subst h0; exact ⟨by decide, fun h => absurd rfl h, fun _ => rfl⟩
  · rw [if_neg h0]
    refine ⟨(Nat.log2_lt h0).1 (by omega), fun _ => ⟨by omega, ?_⟩, fun h => absurd h h0⟩
    rw [Nat.add_sub_cancel]
    exact (Nat.le_log2 h0).1 (Nat.le_refl _)
theorem lenN_le {v : Nat} (hv : v < 4294967296) : lenN v ≤ 32 := by
  unfold lenN
  by_cases h0 : v = 0
  · rw [if_pos h0]; omega
  · rw [if_neg h0]
    have := (Nat.log2_lt h0).2 (show v < 2 ^ 32 from hv)
    omega
theorem lenOk_shift {v s x L : Nat} (hx : v / 2 ^ s = x) (hl : lenOk x L) (h0 : x = 0 → s = 0) : lenOk v (s + L) := by
  obtain ⟨h1, h2, h3⟩ := hl
  have hp : 0 < 2 ^ s := Nat.two_pow_pos s
  have hd := Nat.div_add_mod v (2 ^ s)
  have hm := Nat.mod_lt v hp
  rw [hx] at hd
  refine ⟨?_, fun hv => ?_, fun hv => ?_⟩
  · rw [Nat.pow_add]
    have : 2 ^ s * (x + 1) ≤ 2 ^ s * 2 ^ L := Nat.mul_le_mul_left _ h1
    rw [Nat.mul_add, Nat.mul_one] at this
    omega
  · by_cases hx0 : x = 0
    · have hs := h0 hx0
      subst hs
      rw [Nat.pow_zero, Nat.div_one] at hx
      omega
    · obtain ⟨a, b⟩ := h2 hx0
      refine ⟨by omega, ?_⟩
      rw [show s + L - 1 = s + (L - 1) by omega, Nat.pow_add]
      have := Nat.mul_le_mul_left (2 ^ s) b
      omega
  · subst hv
    rw [Nat.zero_div] at hx
    rw [h0 hx.symm, h3 hx.symm]
theorem lenN_shift {v s x : Nat} (hx : v / 2 ^ s = x) (h0 : x = 0 → s = 0) : s + lenN x = lenN v := lenOk_eq (lenOk_shift hx (lenOk_lenN x) h0)
theorem clz_eq {v n : Nat} (hv : v < 4294967296) (h1 : ∀ j, j < n → v.testBit (31 - j) = false) (hn : n ≤ 32) (h2 : n < 32 → v.testBit (31 - n) = true) : n + lenN v = 32 := by
  have hhi : ∀ i, 32 - n ≤ i → v.testBit i = false := by
    intro i hi
    by_cases h : i < 32
    · have := h1 (31 - i) (by omega)
      rwa [show 31 - (31 - i) = i by omega] at this
    · apply Nat.testBit_lt_two_pow
      have : 2 ^ 32 ≤ 2 ^ i := Nat.pow_le_pow_right (by decide) (by omega)
      omega
  have hlt : v < 2 ^ (32 - n) := Nat.lt_pow_two_of_testBit v (fun i hi => hhi i hi)
  by_cases h32 : n < 32
  · have hge : 2 ^ (31 - n) ≤ v := Nat.ge_two_pow_of_testBit (h2 h32)
    have hv0 : v ≠ 0 := by
      have := Nat.two_pow_pos (31 - n)
      omega
    unfold lenN
    rw [if_neg hv0]
    have c1 := (Nat.log2_lt hv0).2 hlt
    have c2 := (Nat.le_log2 hv0).2 hge
    omega
  · have : n = 32 := by omega
    subst this
    have : v = 0 := by simpa using hlt
    subst this; rfl
def ctzR (v : Nat) : Nat → Nat → Nat
  | 0, i => i
  | f + 1, i => if v.testBit i = true then i else ctzR v f (i + 1)
def ctzN (v : Nat) : Nat := ctzR v 32 0
theorem ctzR_ok (v : Nat) : ∀ (f i : Nat), i ≤ ctzR v f i ∧ ctzR v f i ≤ i + f ∧ (∀ j, i ≤ j → j < ctzR v f i → v.testBit j = false) ∧ (ctzR v f i < i + f → v.testBit (ctzR v f i) = true)
  | 0, i => ⟨Nat.le_refl _, Nat.le_refl _, fun j h1 h2 => absurd (show j < i from h2) (by omega), fun h => absurd (show i < i + 0 from h) (by omega)⟩
  | f + 1, i => by
    obtain ⟨a, b, c, d⟩ := ctzR_ok v f (i + 1)
    rw [ctzR]
    by_cases h : v.testBit i = true
    · rw [if_pos h]
      exact ⟨Nat.le_refl _, by omega, fun j h1 h2 => by omega, fun _ => h⟩
    · rw [if_neg h]
      refine ⟨by omega, by omega, fun j h1 h2 => ?_, fun hh => d (by omega)⟩
      by_cases hj : j = i
      · subst hj; simpa using h
      · exact c j (by omega) h2
theorem ctz_le (v : Nat) : ctzN v ≤ 32 := by have := (ctzR_ok v 32 0).2.1; unfold ctzN; omega
theorem ctz_low {v : Nat} (hv : v < 4294967296) (h0 : v ≠ 0) : ctzN v < 32 := by
  obtain ⟨a, b, c, d⟩ := ctzR_ok v 32 0
  rcases Nat.lt_or_ge (ctzN v) 32 with h | h
  · exact h
  · exfalso
    apply h0
    apply Nat.eq_of_testBit_eq
    intro i
    rw [Nat.zero_testBit]
    by_cases hi : i < 32
    · exact c i (by omega) (by unfold ctzN at h; omega)
    · apply Nat.testBit_lt_two_pow
      have : 2 ^ 32 ≤ 2 ^ i := Nat.pow_le_pow_right (by decide) (by omega)
      omega
theorem ctz_zero : ctzN 0 = 32 := by decide
theorem and_low {v : Nat} (hv : v < 4294967296) (h0 : v ≠ 0) : v &&& (4294967296 - v) = 2 ^ ctzN v := by
  have hn := ctz_low hv h0
  obtain ⟨a, b, c, d⟩ := ctzR_ok v 32 0
  have c' : ∀ j, j < ctzN v → v.testBit j = false := fun j hj => c j (Nat.zero_le _) hj
  have d' : v.testBit (ctzN v) = true := d (by unfold ctzN at hn; omega)
  generalize ctzN v = n at *
  have hp : 0 < 2 ^ n := Nat.two_pow_pos n
  have hmod : v % 2 ^ n = 0 := by
    apply Nat.eq_of_testBit_eq
    intro i
    rw [Nat.testBit_mod_two_pow, Nat.zero_testBit]
    by_cases hi : i < n
    · rw [c' i hi]; simp
    · simp [hi]
  have hq : (v / 2 ^ n) % 2 = 1 := by
    have := d'
    rw [Nat.testBit_eq_decide_div_mod_eq] at this
    simpa using this
  obtain ⟨m, hm⟩ : ∃ m, v / 2 ^ n = 2 * m + 1 := ⟨v / 2 ^ n / 2, by omega⟩
  have hv2 : v = 2 ^ n * (2 * m + 1) := by
    have := Nat.div_add_mod v (2 ^ n)
    rw [hmod, hm] at this
    omega
  have hv1 : v - 1 = 2 ^ n * (2 * m) + (2 ^ n - 1) := by
    rw [hv2, Nat.mul_add]
    omega
  apply Nat.eq_of_testBit_eq
  intro i
  rw [Nat.testBit_and, show 4294967296 - v = 2 ^ 32 - (v - 1 + 1) by omega, Nat.testBit_two_pow_sub_succ (show v - 1 < 2 ^ 32 by omega), Nat.testBit_two_pow]
  by_cases hi : i < n
  · rw [c' i hi]
    have : ¬ n = i := by omega
    simp [this]
  · by_cases he : i = n
    · subst he
      rw [d', hv1, Nat.testBit_two_pow_mul_add _ (by omega), if_neg (by omega), Nat.sub_self]
      have e0 : (2 * m).testBit 0 = false := by rw [Nat.testBit_zero]; simp
      rw [e0]
      simp [hn]
    · have e1 : v.testBit i = m.testBit (i - n - 1) := by
        have : v = 2 ^ n * (2 * m + 1) + 0 := by omega
        rw [this, Nat.testBit_two_pow_mul_add _ hp, if_neg (by omega)]
        obtain ⟨k, hk⟩ : ∃ k, i - n = k + 1 := ⟨i - n - 1, by omega⟩
        rw [hk, Nat.testBit_succ, show (2 * m + 1) / 2 = m by omega, show k + 1 - 1 = k by omega]
      have e2 : (v - 1).testBit i = m.testBit (i - n - 1) := by
        rw [hv1, Nat.testBit_two_pow_mul_add _ (by omega), if_neg (by omega)]
        obtain ⟨k, hk⟩ : ∃ k, i - n = k + 1 := ⟨i - n - 1, by omega⟩
        rw [hk, Nat.testBit_succ, show 2 * m / 2 = m by omega, show k + 1 - 1 = k by omega]
      rw [e1, e2]
      have : ¬ n = i := fun h => he h.symm
      simp [this]
      intro h1 _
      exact h1
def popK (v : Nat) : Nat → Nat
  | 0 => 0
  | k + 1 => popK v k + tn (v.testBit k)
theorem popK_le (v : Nat) : ∀ k, popK v k ≤ k
  | 0 => Nat.le_refl _
  | k + 1 => by
    have := popK_le v k
    have := tn_le (v.testBit k)
    rw [popK]; omega
theorem popK_bytes (v : Nat) (hv : v < 4294967296) : popK (v / 16777216) 8 + popK (v / 65536 % 256) 8 + popK (v / 256 % 256) 8 + popK (v % 256) 8 = popK v 32 := by
  have e1 : ∀ i, i < 8 → (v / 16777216).testBit i = v.testBit (i + 24) := fun i _ => by rw [show 16777216 = 2 ^ 24 from rfl, Nat.testBit_div_two_pow, Nat.add_comm]
  have e2 : ∀ i, i < 8 → (v / 65536 % 256).testBit i = v.testBit (i + 16) := fun i hi => by rw [show 256 = 2 ^ 8 from rfl, Nat.testBit_mod_two_pow, show 65536 = 2 ^ 16 from rfl, Nat.testBit_div_two_pow, Nat.add_comm]; simp [hi]
  have e3 : ∀ i, i < 8 → (v / 256 % 256).testBit i = v.testBit (i + 8) := fun i hi => by rw [show v / 256 % 256 = v / 2 ^ 8 % 2 ^ 8 from rfl, Nat.testBit_mod_two_pow, Nat.testBit_div_two_pow, Nat.add_comm]; simp [hi]
  have e4 : ∀ i, i < 8 → (v % 256).testBit i = v.testBit i := fun i hi => by rw [show 256 = 2 ^ 8 from rfl, Nat.testBit_mod_two_pow]; simp [hi]
  simp only [popK, e1, e2, e3, e4, Nat.reduceLT, Nat.reduceAdd]
  omega
def tab32 : List Int := [0, 1, 28, 2, 29, 14, 24, 3, 30, 22, 20, 15, 25, 17, 4, 8, 31, 27, 13, 23, 21, 19, 16, 7, 26, 12, 18, 6, 11, 5, 10, 9]
theorem tab_fin : ∀ n : Fin 32, tab32[2 ^ n.val * 125613361 % 4294967296 / 134217728]? = some ((n.val : Nat) : Int) := by decide +kernel
theorem tab_at {n : Nat} (h : n < 32) : tab32[2 ^ n * 125613361 % 4294967296 / 134217728]? = some ((n : Nat) : Int) := tab_fin ⟨n, h⟩
def oneP (o : Int) (v : Nat) : Int × Bool :=
  if o = 69 then (tz (decide (v = 0)), true) else if o = 103 then (32 - (lenN v : Int), true) else if o = 104 then ((ctzN v : Int), true) else if o = 105 then ((popK v 32 : Int), true) else (0, false)
theorem pop_zero {v : Nat} (hv : v < 4294967296) : decide (((popK v 32 : Nat) : Int) = 0) = decide (v = 0) := by
  rw [decide_eq_decide]
  constructor
  · intro h
    have h' : popK v 32 = 0 := by omega
    apply Nat.eq_of_testBit_eq
    intro i
    rw [Nat.zero_testBit]
    by_cases hi : i < 32
    · have key : ∀ k, i < k → popK v k = 0 → v.testBit i = false := by
        intro k
        induction k with
        | zero => intro h; omega
        | succ k ih =>
          intro h1 h2
          rw [popK] at h2
          by_cases he : i = k
          · subst he
            cases hb : v.testBit i with
            | false => rfl
            | true => rw [hb] at h2; simp [tn] at h2
          · exact ih (by omega) (by omega)
      exact key 32 hi h'
    · apply Nat.testBit_lt_two_pow
      have : 2 ^ 32 ≤ 2 ^ i := Nat.pow_le_pow_right (by decide) (by omega)
      omega
  · intro h
    subst h
    decide
end Go.Proofs.YtahgkfekggkjnaaDoor
