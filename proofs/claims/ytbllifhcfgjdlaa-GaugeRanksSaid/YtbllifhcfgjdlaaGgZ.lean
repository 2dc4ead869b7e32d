/- What is proved here: a float of the unit interval times a small whole number, cut to a whole number: plain. -/
import Derived.Test.YtbllifhcfgjdlaaGgY
namespace Go.Proofs.Ytbllifhcfgjdlaa
open Go.RowKit FltT Ieee
set_option linter.unusedVariables false
set_option linter.unusedSimpArgs false
theorem ofInt_data : ∀ N : Fin 1001, N.val ≠ 0 → D.read (floatOfInt .f64 ((N.val : Nat) : Int)) = .number false (N.val <<< (52 - N.val.log2)) ((N.val.log2 : Int) - 52) ∧ frung (floatOfInt .f64 ((N.val : Nat) : Int)) = (N.val.log2 + 1022) * 4503599627370496 + N.val <<< (52 - N.val.log2) ∧ N.val.log2 ≤ 9 := by decide +kernel
theorem cut_le {neg : Bool} {n drop M : Nat} (h : n ≤ M * 2 ^ drop) : Toward.even.cut neg n drop ≤ M := by
  unfold Toward.cut
  simp only [Nat.one_shiftLeft]
  by_cases hd : drop ≤ n.log2 + 2
  · rw [Nat.min_eq_left hd]
    have hp : 0 < 2 ^ drop := Nat.two_pow_pos _
    generalize 2 ^ drop = g at *
    have h1 : n / g ≤ M := by
      have := Nat.div_le_div_right (c := g) h
      rwa [Nat.mul_div_cancel _ hp] at this
    have h2 := Nat.div_add_mod n g
    have h3 := Nat.mod_lt n hp
    by_cases e : n / g = M
    · have hr : n % g = 0 := by
        rw [e, Nat.mul_comm] at h2; omega
      rw [e, hr]
      have : (decide (g < 2 * 0) || (g == 2 * 0 && M % 2 == 1)) = false := by
        rw [Bool.or_eq_false_iff]
        constructor
        · simp
        · simp; omega
      rw [this]; simp
    · have : ∀ b : Bool, b.toNat ≤ 1 := by decide
      have := this (decide (g < 2 * (n % g)) || (g == 2 * (n % g) && n / g % 2 == 1))
      omega
  · rw [Nat.min_eq_right (by omega)]
    have hn : n < 2 ^ (n.log2 + 1) := Nat.lt_log2_self
    have hg : 2 ^ (n.log2 + 2) = 2 * 2 ^ (n.log2 + 1) := by rw [Nat.pow_succ, Nat.mul_comm]
    rw [hg]
    generalize 2 ^ (n.log2 + 1) = g at *
    rw [Nat.div_eq_of_lt (by omega), Nat.mod_eq_of_lt (by omega)]
    have : (decide (2 * g < 2 * n) || (2 * g == 2 * n && 0 % 2 == 1)) = false := by
      rw [Bool.or_eq_false_iff]
      constructor
      · simp; omega
      · simp
    rw [this]; simp
theorem kept_le {neg : Bool} {mag pl la M : Nat} (h : mag * 2 ^ pl ≤ M * 2 ^ la) : Toward.even.cut neg (mag <<< (pl - la)) (la - pl) ≤ M := by
  apply cut_le
  rw [Nat.shiftLeft_eq]
  by_cases c : la ≤ pl
  · rw [show la - pl = 0 by omega, Nat.pow_zero, Nat.mul_one]
    have e : 2 ^ pl = 2 ^ (pl - la) * 2 ^ la := by rw [← Nat.pow_add]; congr 1; omega
    rw [e, ← Nat.mul_assoc] at h
    exact Nat.le_of_mul_le_mul_right h (Nat.two_pow_pos _)
  · rw [show pl - la = 0 by omega, Nat.pow_zero, Nat.mul_one]
    have e : 2 ^ la = 2 ^ (la - pl) * 2 ^ pl := by rw [← Nat.pow_add]; congr 1; omega
    rw [e, ← Nat.mul_assoc] at h
    exact Nat.le_of_mul_le_mul_right h (Nat.two_pow_pos _)
/-- the rung of the product -/
theorem rung_le {neg : Bool} {mag k f mN : Nat} (hm : mag ≠ 0) (hmN : 4503599627370496 ≤ mN) (hmN2 : mN < 9007199254740992) (hv : mag * 2 ^ (k + f) ≤ mN * 2 ^ (f + 1074)) (hf : f ≤ 9) :
    ∃ R, D.nearest neg mag (-1126 + ((k + f : Nat) : Int)) = D.word neg R ∧ R ≤ (f + 1022) * 4503599627370496 + mN := by
  unfold Format.nearest
  rw [if_neg hm]
  have hfb : D.fractionBits = 52 := rfl
  rw [hfb, lp_eq, bin_eq, inf_eq]
  have hL : 2 ^ mag.log2 ≤ mag := Nat.log2_self_le hm
  have hE : k + f + mag.log2 ≤ f + 1126 := by
    have h1 : 2 ^ (k + f + mag.log2) ≤ mag * 2 ^ (k + f) := by
      rw [Nat.pow_add, Nat.mul_comm]; exact Nat.mul_le_mul_right _ hL
    have h2 : mN * 2 ^ (f + 1074) < 2 ^ (f + 1127) := by
      have e : 2 ^ (f + 1127) = 9007199254740992 * 2 ^ (f + 1074) := by
        rw [show f + 1127 = 53 + (f + 1074) by omega, Nat.pow_add]
      rw [e]
      exact Nat.mul_lt_mul_of_pos_right hmN2 (Nat.two_pow_pos _)
    have h3 : 2 ^ (k + f + mag.log2) < 2 ^ (f + 1127) := Nat.lt_of_le_of_lt (Nat.le_trans h1 hv) h2
    have := (Nat.pow_lt_pow_iff_right (a := 2) (by decide)).1 h3
    omega
  obtain ⟨la, hla⟩ : ∃ la : Nat, la = max (k + f + mag.log2 - 52) 52 := ⟨_, rfl⟩
  have hlast : max ((-1126 : Int) + ((k + f : Nat) : Int) + (mag.log2 : Int) - ((52 : Nat) : Int)) (-1074) = (la : Int) - 1126 := by omega
  rw [hlast]
  dsimp only
  rw [show ((-1126 : Int) + ((k + f : Nat) : Int) - ((la : Int) - 1126)).toNat = (k + f) - la by omega, show ((la : Int) - 1126 - (-1126 + ((k + f : Nat) : Int))).toNat = la - (k + f) by omega, show ((la : Int) - 1126 - (-1074)).toNat = la - 52 by omega]
  refine ⟨_, rfl, Nat.le_trans (Nat.min_le_left _ _) ?_⟩
  by_cases c : k + f + mag.log2 = f + 1126
  · have hk : Toward.even.cut neg (mag <<< (k + f - la)) (la - (k + f)) ≤ mN := kept_le (by rw [show la = f + 1074 by omega]; exact hv)
    rw [show la - 52 = f + 1022 by omega]
    omega
  · have hk : Toward.even.cut neg (mag <<< (k + f - la)) (la - (k + f)) ≤ 9007199254740992 := by
      apply kept_le
      have h1 : mag < 2 ^ (mag.log2 + 1) := Nat.lt_log2_self
      have h2 : mag * 2 ^ (k + f) ≤ 2 ^ (mag.log2 + 1) * 2 ^ (k + f) := Nat.mul_le_mul_right _ (Nat.le_of_lt h1)
      refine Nat.le_trans h2 ?_
      rw [← Nat.pow_add, show (9007199254740992 : Nat) = 2 ^ 53 from rfl, ← Nat.pow_add]
      exact Nat.pow_le_pow_right (by decide) (by omega)
    have : la ≤ f + 1073 := by omega
    omega
set_option exponentiation.threshold 2000 in
theorem toInt_le {b N : Nat} (hb : fneg b = false) (h : fval (frung b) ≤ N * 2 ^ 1074) (hf : frung b < 9218868437227405312) (hN : N ≤ 1000) : ∃ t : Nat, floatToIntVal .f64 b .i64 = some ((t : Nat) : Int) ∧ t ≤ N := by
  obtain ⟨m, k, e, hm, _⟩ := read_fin hf
  rw [hb] at e
  have hq : ∀ q, (q : Nat) ≤ N → (if IntKind.i64.min ≤ ((q : Nat) : Int) ∧ ((q : Nat) : Int) ≤ IntKind.i64.max then some ((q : Nat) : Int) else none) = some ((q : Nat) : Int) := by
    intro q hq
    rw [if_pos]
    simp [IntKind.min, IntKind.max, IntKind.signed, IntKind.bits]
    omega
  have hcut : Toward.zero.cut false (m <<< ((-1074 : Int) + (k : Int)).toNat) (-((-1074 : Int) + (k : Int))).toNat ≤ N := by
    have hle : m * 2 ^ k ≤ N * 2 ^ 1074 := by rw [hm]; exact h
    unfold Toward.cut
    simp only [Nat.one_shiftLeft, Nat.shiftLeft_eq, Bool.toNat_false, Nat.add_zero, Nat.one_mul]
    by_cases c : 1074 ≤ k
    · rw [show (-((-1074 : Int) + (k : Int))).toNat = 0 by omega, show ((-1074 : Int) + (k : Int)).toNat = k - 1074 by omega, Nat.zero_min, Nat.pow_zero, Nat.div_one]
      have e2 : 2 ^ k = 2 ^ (k - 1074) * 2 ^ 1074 := by
        have e3 := Nat.pow_add 2 (k - 1074) 1074
        have e4 : k - 1074 + 1074 = k := by clear h hle e3; omega
        generalize (2 : Nat) ^ 1074 = G at *
        rw [e4] at e3
        exact e3
      rw [e2, ← Nat.mul_assoc] at hle
      exact Nat.le_of_mul_le_mul_right hle (Nat.two_pow_pos _)
    · rw [show (-((-1074 : Int) + (k : Int))).toNat = 1074 - k by omega, show ((-1074 : Int) + (k : Int)).toNat = 0 by omega, Nat.pow_zero, Nat.mul_one]
      by_cases d : 1074 - k ≤ m.log2 + 2
      · rw [Nat.min_eq_left d]
        have e2 : 2 ^ 1074 = 2 ^ (1074 - k) * 2 ^ k := by rw [← Nat.pow_add]; congr 1; omega
        rw [e2, ← Nat.mul_assoc] at hle
        have := Nat.le_of_mul_le_mul_right hle (Nat.two_pow_pos _)
        rw [← Nat.mul_div_cancel N (Nat.two_pow_pos (1074 - k))]
        exact Nat.div_le_div_right this
      · rw [Nat.min_eq_right (by omega)]
        have hn : m < 2 ^ (m.log2 + 1) := Nat.lt_log2_self
        have hg : 2 ^ (m.log2 + 2) = 2 * 2 ^ (m.log2 + 1) := by rw [Nat.pow_succ, Nat.mul_comm]
        rw [Nat.div_eq_of_lt (by omega)]; omega
  refine ⟨_, ?_, hcut⟩
  unfold floatToIntVal
  have ed : FloatKind.f64.decode b = .number false m (-1074 + (k : Int)) := e
  rw [ed]
  unfold Datum.toInt Datum.integral
  simp only [signed, Bool.false_eq_true, if_false, Nat.shiftLeft_zero]
  exact hq _ hcut
set_option exponentiation.threshold 2000 in
theorem unit_mul {x N : Nat} (h1 : frung x ≤ 4607182418800017408) (h2 : fneg x = false ∨ frung x = 0) (hN : N ≤ 1000) : ∃ r t : Nat, floatBits .mul .f64 x (floatOfInt .f64 ((N : Nat) : Int)) = some r ∧ floatToIntVal .f64 r .i64 = some ((t : Nat) : Int) ∧ t ≤ N := by
  obtain ⟨m, k, e, hm, h0⟩ := read_fin (b := x) (by omega)
  have hfv : fval (frung x) ≤ 2 ^ 1074 := by
    have e1 : fval 4607182418800017408 = 2 ^ 1074 := by decide +kernel
    rw [← e1]
    rcases Nat.lt_or_eq_of_le h1 with hl | hl
    · exact Nat.le_of_lt (fval_lt hl)
    · rw [hl]; exact Nat.le_refl _
  have zero : ∀ s : Bool, ∃ t : Nat, floatToIntVal .f64 (D.word s 0) .i64 = some ((t : Nat) : Int) ∧ t ≤ N := by
    intro s
    refine ⟨0, ?_, Nat.zero_le _⟩
    cases s <;> decide +kernel
  by_cases hN0 : N = 0
  · subst hN0
    refine ⟨D.word (fneg x ^^ false) 0, ?_⟩
    obtain ⟨t, ht⟩ := zero (fneg x ^^ false)
    refine ⟨t, ?_, ht⟩
    show (Datum.product (D.read x) (D.read (floatOfInt .f64 ((0 : Nat) : Int)))).map D.write = _
    have e0 : D.read (floatOfInt .f64 ((0 : Nat) : Int)) = .number false 0 (-1074) := by decide +kernel
    rw [e, e0]
    rfl
  · obtain ⟨d1, d2, d3⟩ := ofInt_data ⟨N, by omega⟩ hN0
    simp only at d1 d2 d3
    have hmN : 4503599627370496 ≤ N <<< (52 - N.log2) ∧ N <<< (52 - N.log2) < 9007199254740992 ∧ N <<< (52 - N.log2) * 2 ^ N.log2 = N * 4503599627370496 := by
      have a1 := Nat.log2_self_le hN0
      have a2 : N < 2 ^ (N.log2 + 1) := Nat.lt_log2_self
      rw [Nat.shiftLeft_eq]
      have b1 : (2 : Nat) ^ N.log2 * 2 ^ (52 - N.log2) = 4503599627370496 := by
        rw [← Nat.pow_add, show N.log2 + (52 - N.log2) = 52 by omega]
      have b2 : (2 : Nat) ^ (N.log2 + 1) * 2 ^ (52 - N.log2) = 9007199254740992 := by
        rw [← Nat.pow_add, show N.log2 + 1 + (52 - N.log2) = 53 by omega]
      refine ⟨?_, ?_, ?_⟩
      · rw [← b1]; exact Nat.mul_le_mul_right _ a1
      · rw [← b2]; exact Nat.mul_lt_mul_of_pos_right a2 (Nat.two_pow_pos _)
      · rw [Nat.mul_assoc, Nat.mul_comm (2 ^ (52 - N.log2)), b1]
    generalize hmn : N <<< (52 - N.log2) = mN at *
    have hpr : floatBits .mul .f64 x (floatOfInt .f64 ((N : Nat) : Int)) = some (D.nearest (fneg x ^^ false) (m * mN) (-1126 + ((k + N.log2 : Nat) : Int))) := by
      show (Datum.product (D.read x) (D.read (floatOfInt .f64 ((N : Nat) : Int)))).map D.write = _
      rw [e, d1]
      show some (D.nearest (fneg x ^^ false) (m * mN) (-1074 + (k : Int) + ((N.log2 : Int) - 52))) = _
      rw [show (-1074 : Int) + (k : Int) + ((N.log2 : Int) - 52) = -1126 + ((k + N.log2 : Nat) : Int) by omega]
    rw [hpr]
    by_cases hz : m * mN = 0
    · rw [hz]
      obtain ⟨t, ht⟩ := zero (fneg x ^^ false)
      exact ⟨_, t, by unfold Format.nearest; rw [if_pos rfl], ht⟩
    · have hm0 : frung x ≠ 0 := fun h => hz (by rw [h0.2 h, Nat.zero_mul])
      have hs : fneg x = false := by rcases h2 with h | h; exact h; exact absurd h hm0
      obtain ⟨R, eR, hR⟩ := rung_le (neg := fneg x ^^ false) (mag := m * mN) (k := k) (f := N.log2) (mN := mN) hz hmN.1 hmN.2.1 (by
        have : m * 2 ^ k ≤ 2 ^ 1074 := by rw [hm]; exact hfv
        rw [Nat.pow_add 2 k, Nat.pow_add 2 N.log2 1074]
        clear hpr d1 d2 hfv e zero
        generalize (2 : Nat) ^ 1074 = G at *
        generalize (2 : Nat) ^ k = A at *
        generalize (2 : Nat) ^ N.log2 = B at *
        calc m * mN * (A * B) = (m * A) * (mN * B) := by ac_rfl
          _ ≤ G * (mN * B) := Nat.mul_le_mul_right _ this
          _ = mN * (B * G) := by ac_rfl) d3
      rw [eR, hs]
      have hw : D.word (false ^^ false) R = R := rfl
      rw [hw]
      have hRs : R < 9218868437227405312 := by omega
      have hfr : frung R = R := by unfold frung; omega
      have hfn : fneg R = false := by unfold fneg; rw [show R / 9223372036854775808 = 0 by omega]; rfl
      obtain ⟨t, ht⟩ := toInt_le (b := R) (N := N) hfn (by
        rw [hfr]
        have hle : fval R ≤ fval ((N.log2 + 1022) * 4503599627370496 + mN) := by
          rcases Nat.lt_or_eq_of_le hR with hl | hl
          · exact Nat.le_of_lt (fval_lt hl)
          · rw [hl]; exact Nat.le_refl _
        refine Nat.le_trans hle ?_
        have ev : fval ((N.log2 + 1022) * 4503599627370496 + mN) = mN * 2 ^ (N.log2 + 1022) := by
          unfold fval
          rw [if_neg (by omega)]
          rw [show ((N.log2 + 1022) * 4503599627370496 + mN) % 4503599627370496 = mN - 4503599627370496 by omega, show ((N.log2 + 1022) * 4503599627370496 + mN) / 4503599627370496 - 1 = N.log2 + 1022 by omega, show 4503599627370496 + (mN - 4503599627370496) = mN by omega]
        rw [ev, Nat.pow_add, ← Nat.mul_assoc, hmN.2.2]
        have : (4503599627370496 : Nat) * 2 ^ 1022 = 2 ^ 1074 := by decide +kernel
        rw [Nat.mul_assoc, this]
        exact Nat.le_refl _) (by omega) hN
      exact ⟨R, t, rfl, ht⟩
end Go.Proofs.Ytbllifhcfgjdlaa
