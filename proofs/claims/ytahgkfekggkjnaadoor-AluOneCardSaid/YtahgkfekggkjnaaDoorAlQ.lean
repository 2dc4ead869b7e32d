/- What is proved here: the operators of 32 bits, as plain functions, are the document's. -/
import Derived.Test.YtahgkfekggkjnaaDoorAlP
namespace Go.Proofs.YtahgkfekggkjnaaDoor
open Go.RowKit
set_option linter.unusedVariables false
set_option linter.unusedSimpArgs false

theorem bits_and32 (A B : Nat) (hA : A < 2 ^ 32) (hB : B < 2 ^ 32) : bits .and .u32 A B = ((A &&& B : Nat) : Int) := by
  have h : (BitVec.ofInt 32 (A : Int) &&& BitVec.ofInt 32 (B : Int)).toNat = A &&& B := by
    rw [BitVec.toNat_and, BitVec.ofInt_natCast, BitVec.ofInt_natCast, BitVec.toNat_ofNat, BitVec.toNat_ofNat, Nat.mod_eq_of_lt hA, Nat.mod_eq_of_lt hB]
  show IntKind.u32.wrap ((BitVec.ofInt 32 (A : Int) &&& BitVec.ofInt 32 (B : Int)).toNat : Int) = _
  rw [h, wrap_u32_def]
  have := Nat.and_lt_two_pow (n := 32) A hB
  omega
theorem i32_w (n : Int) : IntKind.i32.wrap n = wrap32 n := by rw [IntKind.wrap_i32]; unfold wrap32; first | done | rfl
theorem add_w (A B : Nat) : IntKind.u32.wrap (((A : Nat) : Int) + ((B : Nat) : Int)) = (((A + B + 0) % 4294967296 : Nat) : Int) := by rw [wrap_u32_def]; omega
theorem sub_w (A B : Nat) (hB : B < 4294967296) : IntKind.u32.wrap (((A : Nat) : Int) - ((B : Nat) : Int)) = (((A + (4294967295 - B) + 1) % 4294967296 : Nat) : Int) := by rw [wrap_u32_def]; omega
theorem mul_w (A B : Nat) : IntKind.u32.wrap (((A : Nat) : Int) * ((B : Nat) : Int)) = ((A * B % 4294967296 : Nat) : Int) := by rw [wrap_u32_def, ← Int.natCast_mul]; omega
theorem udiv_w (A B : Nat) (hA : A < 4294967296) : IntKind.u32.wrap (((A : Nat) : Int).tdiv ((B : Nat) : Int)) = ((A / B : Nat) : Int) := by
  rw [wrap_u32_def, show ((A : Nat) : Int).tdiv ((B : Nat) : Int) = ((A / B : Nat) : Int) from rfl]
  have := Nat.div_le_self A B
  generalize A / B = q at *
  omega
theorem umod_w (A B : Nat) : ((A : Nat) : Int).tmod ((B : Nat) : Int) = ((A % B : Nat) : Int) := rfl
theorem shl_w (A s : Nat) (hs : s < 32) : IntKind.u32.wrap (((A : Nat) : Int) * 2 ^ (min s IntKind.u32.bits)) = ((A * 2 ^ s % 4294967296 : Nat) : Int) := by
  rw [show min s IntKind.u32.bits = s from Nat.min_eq_left (by simp only [IntKind.bits]; omega), wrap_u32_def]
  have : ((A : Nat) : Int) * 2 ^ s = ((A * 2 ^ s : Nat) : Int) := by rw [Int.natCast_mul, Int.natCast_pow]; rfl
  rw [this]; omega
theorem pow_cast (s : Nat) : (2 : Int) ^ s = ((2 ^ s : Nat) : Int) := by rw [Int.natCast_pow]; rfl
theorem shr_w (A s : Nat) (hs : s < 32) : Int.fdiv ((A : Nat) : Int) (2 ^ (min s IntKind.u32.bits)) = ((sarN A s false : Nat) : Int) := by
  rw [show min s IntKind.u32.bits = s from Nat.min_eq_left (by simp only [IntKind.bits]; omega), sar_false, pow_cast, Int.fdiv_eq_ediv_of_nonneg _ (Int.natCast_nonneg _)]
  rfl
theorem min_w (s : Nat) (hs : s < 32) (x : Int) : Int.fdiv x (2 ^ (min s IntKind.i32.bits)) = Int.fdiv x (2 ^ s) := by
  rw [show min s IntKind.i32.bits = s from Nat.min_eq_left (by simp only [IntKind.bits]; omega)]
theorem sar_w (A s : Nat) (hA : A < 4294967296) (hs : s < 32) : IntKind.u32.wrap (Int.fdiv (wrap32 ((A : Nat) : Int)) (2 ^ s)) = ((sarN A s (A.testBit 31) : Nat) : Int) := by
  rw [wrap_u32_def, pow_cast, Int.fdiv_eq_ediv_of_nonneg _ (Int.natCast_nonneg _)]
  have hp := Nat.two_pow_pos s
  rw [bit31 hA]
  by_cases h : 2147483648 ≤ A
  · rw [decide_eq_true h]
    have hl := sarN_lt (A := A) (s := s) (fill := true) hA (by omega)
    unfold sarN at hl ⊢
    simp only [if_true] at hl ⊢
    have e1 : wrap32 ((A : Nat) : Int) = (A : Nat) - 4294967296 := by unfold wrap32; omega
    have e2 : (2 : Nat) ^ 32 * (2 ^ s - 1) + A = (2 ^ 32 * 2 ^ s - 4294967296) + A := by rw [Nat.mul_sub]
    have e3 : (4294967296 : Nat) * 1 ≤ 4294967296 * 2 ^ s := Nat.mul_le_mul_left _ hp
    have e4 : (((2 ^ 32 * (2 ^ s - 1) + A : Nat)) : Int) = ((A : Nat) - 4294967296 : Int) + ((2 ^ s : Nat) : Int) * 4294967296 := by rw [e2]; omega
    have e5 : ((((2 ^ 32 * (2 ^ s - 1) + A) / 2 ^ s : Nat)) : Int) = ((A : Nat) - 4294967296 : Int) / ((2 ^ s : Nat) : Int) + 4294967296 := by
      rw [Int.natCast_ediv, e4, Int.add_mul_ediv_left _ _ (by omega)]
    rw [e1]
    generalize ((A : Nat) - 4294967296 : Int) / ((2 ^ s : Nat) : Int) = q at *
    generalize (2 ^ 32 * (2 ^ s - 1) + A) / 2 ^ s = z at *
    omega
  · rw [decide_eq_false h, sar_false]
    have e1 : wrap32 ((A : Nat) : Int) = (A : Nat) := by unfold wrap32; omega
    rw [e1, ← Int.natCast_ediv]
    have := Nat.div_le_self A (2 ^ s)
    generalize A / 2 ^ s = z at *
    omega

/-- What the program's operators come to. -/
def cmpG (o : Int) (A B : Nat) : Int × Bool :=
  if o = 70 then (tz (decide (((A : Nat) : Int) = ((B : Nat) : Int))), true) else if o = 71 then (tz (decide (((A : Nat) : Int) ≠ ((B : Nat) : Int))), true)
  else if o = 72 then (tz (decide (wrap32 ((A : Nat) : Int) < wrap32 ((B : Nat) : Int))), true) else if o = 73 then (tz (decide (((A : Nat) : Int) < ((B : Nat) : Int))), true)
  else if o = 74 then (tz (decide (wrap32 ((B : Nat) : Int) < wrap32 ((A : Nat) : Int))), true) else if o = 75 then (tz (decide (((B : Nat) : Int) < ((A : Nat) : Int))), true)
  else if o = 76 then (tz (decide (wrap32 ((A : Nat) : Int) ≤ wrap32 ((B : Nat) : Int))), true) else if o = 77 then (tz (decide (((A : Nat) : Int) ≤ ((B : Nat) : Int))), true)
  else if o = 78 then (tz (decide (wrap32 ((B : Nat) : Int) ≤ wrap32 ((A : Nat) : Int))), true) else if o = 79 then (tz (decide (((B : Nat) : Int) ≤ ((A : Nat) : Int))), true)
  else (0, false)
def divG (o : Int) (A B : Nat) : Int × Int :=
  if ((B : Nat) : Int) = 0 then (0, 61) else if o = 109 ∧ ((A : Nat) : Int) = 2147483648 ∧ wrap32 ((B : Nat) : Int) = -1 then (0, 62)
  else if o = 109 then (wrap32 (Int.tdiv (wrap32 ((A : Nat) : Int)) (wrap32 ((B : Nat) : Int))) % 4294967296, 0) else if o = 110 then ((A / B : Nat), 0)
  else if o = 111 ∧ ((A : Nat) : Int) = 2147483648 ∧ wrap32 ((B : Nat) : Int) = -1 then (0, 0) else if o = 111 then (Int.tmod (wrap32 ((A : Nat) : Int)) (wrap32 ((B : Nat) : Int)) % 4294967296, 0) else ((A % B : Nat), 0)
def twoG (o : Int) (A B : Nat) : Int × Int :=
  if (cmpG o A B).2 = true then ((cmpG o A B).1, 0) else if o = 106 then (((A + B + 0) % 4294967296 : Nat), 0) else if o = 107 then (((A + (4294967295 - B) + 1) % 4294967296 : Nat), 0) else if o = 108 then ((A * B % 4294967296 : Nat), 0)
  else if o = 109 then divG o A B else if o = 110 then divG o A B else if o = 111 then divG o A B else if o = 112 then divG o A B
  else if o = 113 then ((A &&& B : Nat), 0) else if o = 114 then ((A ||| B : Nat), 0) else if o = 115 then ((A ^^^ B : Nat), 0) else if o = 116 then ((A * 2 ^ (B % 32) % 4294967296 : Nat), 0)
  else if o = 117 then ((sarN A (B % 32) (A.testBit 31) : Nat), 0) else if o = 118 then ((sarN A (B % 32) false : Nat), 0) else if o = 119 then ((rotN A (B % 32) : Nat), 0) else if o = 120 then ((rotN A ((32 - B % 32) % 32) : Nat), 0) else (0, 9)

theorem below_s {A B : Nat} (hA : A < 4294967296) (hB : B < 4294967296) : (if (A.testBit 31 == B.testBit 31) = false then A.testBit 31 else decide (A < B)) = decide (wrap32 ((A : Nat) : Int) < wrap32 ((B : Nat) : Int)) := by
  rw [bit31 hA, bit31 hB]
  unfold wrap32
  by_cases h1 : 2147483648 ≤ A <;> by_cases h2 : 2147483648 ≤ B <;> simp [h1, h2] <;> omega
theorem cmp_eq {o : Int} {A B : Nat} (ho : 0 ≤ o ∧ o < 256) (hA : A < 4294967296) (hB : B < 4294967296) : cmpG o A B = rcmpP (o - 69 - 1) A B := by
  have hs := below_s hA hB
  have hab : (((A : Nat) : Int) = ((B : Nat) : Int)) ↔ (wrap32 ((A : Nat) : Int) = wrap32 ((B : Nat) : Int)) := by unfold wrap32; omega
  by_cases hr : o < 70 ∨ 79 < o
  · unfold cmpG rcmpP
    rw [if_pos (by omega : o - 69 - 1 < 0 ∨ 9 < o - 69 - 1)]
    rw [if_neg (by omega), if_neg (by omega), if_neg (by omega), if_neg (by omega), if_neg (by omega), if_neg (by omega), if_neg (by omega), if_neg (by omega), if_neg (by omega), if_neg (by omega)]
  · have hc : o = 70 ∨ o = 71 ∨ o = 72 ∨ o = 73 ∨ o = 74 ∨ o = 75 ∨ o = 76 ∨ o = 77 ∨ o = 78 ∨ o = 79 := by omega
    rcases hc with rfl | rfl | rfl | rfl | rfl | rfl | rfl | rfl | rfl | rfl
    · show ((tz (decide (((A : Nat) : Int) = ((B : Nat) : Int))), true) : Int × Bool) = (tz (decide (((A : Nat) : Int) = ((B : Nat) : Int)) == decide ((0 : Int) = 0)), true)
      refine congrArg (fun b => ((tz b, true) : Int × Bool)) ?_
      simp
    · show ((tz (decide (((A : Nat) : Int) ≠ ((B : Nat) : Int))), true) : Int × Bool) = (tz (decide (((A : Nat) : Int) = ((B : Nat) : Int)) == decide ((1 : Int) = 0)), true)
      refine congrArg (fun b => ((tz b, true) : Int × Bool)) ?_
      simp
    · show ((tz (decide (wrap32 ((A : Nat) : Int) < wrap32 ((B : Nat) : Int))), true) : Int × Bool) = (tz (if ((2 : Int) % 2 = 0 ∧ (A.testBit 31 == B.testBit 31) = false) then A.testBit 31 else decide (A < B)), true)
      rw [show (if ((2 : Int) % 2 = 0 ∧ (A.testBit 31 == B.testBit 31) = false) then A.testBit 31 else decide (A < B)) = decide (wrap32 ((A : Nat) : Int) < wrap32 ((B : Nat) : Int)) from by rw [← hs]; simp]
    · show ((tz (decide (((A : Nat) : Int) < ((B : Nat) : Int))), true) : Int × Bool) = (tz (if ((3 : Int) % 2 = 0 ∧ (A.testBit 31 == B.testBit 31) = false) then A.testBit 31 else decide (A < B)), true)
      rw [show (if ((3 : Int) % 2 = 0 ∧ (A.testBit 31 == B.testBit 31) = false) then A.testBit 31 else decide (A < B)) = decide (A < B) from by simp]
      refine congrArg (fun b => ((tz b, true) : Int × Bool)) ?_
      congr 1; apply propext; omega
    · show ((tz (decide (wrap32 ((B : Nat) : Int) < wrap32 ((A : Nat) : Int))), true) : Int × Bool) = (tz (!(if ((4 : Int) % 2 = 0 ∧ (A.testBit 31 == B.testBit 31) = false) then A.testBit 31 else decide (A < B)) && !decide (((A : Nat) : Int) = ((B : Nat) : Int))), true)
      rw [show (if ((4 : Int) % 2 = 0 ∧ (A.testBit 31 == B.testBit 31) = false) then A.testBit 31 else decide (A < B)) = decide (wrap32 ((A : Nat) : Int) < wrap32 ((B : Nat) : Int)) from by rw [← hs]; simp]
      refine congrArg (fun b => ((tz b, true) : Int × Bool)) ?_
      rw [Bool.eq_iff_iff]; simp only [Bool.not_eq_true', Bool.and_eq_true, Bool.or_eq_true, decide_eq_true_eq, decide_eq_false_iff_not]; omega
    · show ((tz (decide (((B : Nat) : Int) < ((A : Nat) : Int))), true) : Int × Bool) = (tz (!(if ((5 : Int) % 2 = 0 ∧ (A.testBit 31 == B.testBit 31) = false) then A.testBit 31 else decide (A < B)) && !decide (((A : Nat) : Int) = ((B : Nat) : Int))), true)
      rw [show (if ((5 : Int) % 2 = 0 ∧ (A.testBit 31 == B.testBit 31) = false) then A.testBit 31 else decide (A < B)) = decide (A < B) from by simp]
      refine congrArg (fun b => ((tz b, true) : Int × Bool)) ?_
      rw [Bool.eq_iff_iff]; simp only [Bool.not_eq_true', Bool.and_eq_true, Bool.or_eq_true, decide_eq_true_eq, decide_eq_false_iff_not]; omega
    · show ((tz (decide (wrap32 ((A : Nat) : Int) ≤ wrap32 ((B : Nat) : Int))), true) : Int × Bool) = (tz ((if ((6 : Int) % 2 = 0 ∧ (A.testBit 31 == B.testBit 31) = false) then A.testBit 31 else decide (A < B)) || decide (((A : Nat) : Int) = ((B : Nat) : Int))), true)
      rw [show (if ((6 : Int) % 2 = 0 ∧ (A.testBit 31 == B.testBit 31) = false) then A.testBit 31 else decide (A < B)) = decide (wrap32 ((A : Nat) : Int) < wrap32 ((B : Nat) : Int)) from by rw [← hs]; simp]
      refine congrArg (fun b => ((tz b, true) : Int × Bool)) ?_
      rw [Bool.eq_iff_iff]; simp only [Bool.not_eq_true', Bool.and_eq_true, Bool.or_eq_true, decide_eq_true_eq, decide_eq_false_iff_not]; omega
    · show ((tz (decide (((A : Nat) : Int) ≤ ((B : Nat) : Int))), true) : Int × Bool) = (tz ((if ((7 : Int) % 2 = 0 ∧ (A.testBit 31 == B.testBit 31) = false) then A.testBit 31 else decide (A < B)) || decide (((A : Nat) : Int) = ((B : Nat) : Int))), true)
      rw [show (if ((7 : Int) % 2 = 0 ∧ (A.testBit 31 == B.testBit 31) = false) then A.testBit 31 else decide (A < B)) = decide (A < B) from by simp]
      refine congrArg (fun b => ((tz b, true) : Int × Bool)) ?_
      rw [Bool.eq_iff_iff]; simp only [Bool.not_eq_true', Bool.and_eq_true, Bool.or_eq_true, decide_eq_true_eq, decide_eq_false_iff_not]; omega
    · show ((tz (decide (wrap32 ((B : Nat) : Int) ≤ wrap32 ((A : Nat) : Int))), true) : Int × Bool) = (tz (!(if ((8 : Int) % 2 = 0 ∧ (A.testBit 31 == B.testBit 31) = false) then A.testBit 31 else decide (A < B))), true)
      rw [show (if ((8 : Int) % 2 = 0 ∧ (A.testBit 31 == B.testBit 31) = false) then A.testBit 31 else decide (A < B)) = decide (wrap32 ((A : Nat) : Int) < wrap32 ((B : Nat) : Int)) from by rw [← hs]; simp]
      refine congrArg (fun b => ((tz b, true) : Int × Bool)) ?_
      rw [Bool.eq_iff_iff]; simp only [Bool.not_eq_true', Bool.and_eq_true, Bool.or_eq_true, decide_eq_true_eq, decide_eq_false_iff_not]; omega
    · show ((tz (decide (((B : Nat) : Int) ≤ ((A : Nat) : Int))), true) : Int × Bool) = (tz (!(if ((9 : Int) % 2 = 0 ∧ (A.testBit 31 == B.testBit 31) = false) then A.testBit 31 else decide (A < B))), true)
      rw [show (if ((9 : Int) % 2 = 0 ∧ (A.testBit 31 == B.testBit 31) = false) then A.testBit 31 else decide (A < B)) = decide (A < B) from by simp]
      refine congrArg (fun b => ((tz b, true) : Int × Bool)) ?_
      rw [Bool.eq_iff_iff]; simp only [Bool.not_eq_true', Bool.and_eq_true, Bool.or_eq_true, decide_eq_true_eq, decide_eq_false_iff_not]; omega

/-- Numbers with signs: how great, and of which sign. -/
theorem sgn_cases {A : Nat} (hA : A < 4294967296) : (A.testBit 31 = false ∧ magN A = A ∧ wrap32 ((A : Nat) : Int) = ((magN A : Nat) : Int) ∧ magN A < 2147483648) ∨ (A.testBit 31 = true ∧ magN A = 4294967296 - A ∧ wrap32 ((A : Nat) : Int) = -((magN A : Nat) : Int) ∧ 0 < magN A ∧ magN A ≤ 2147483648) := by
  unfold magN negN wrap32
  rw [bit31 hA]
  by_cases h : 2147483648 ≤ A
  · right
    simp only [h, decide_true, if_true, true_and]
    omega
  · left
    simp only [h, decide_false, if_false, true_and, Bool.false_eq_true]
    omega
theorem back_pos (q : Nat) (h : q < 4294967296) : wrap32 ((q : Nat) : Int) % 4294967296 = ((q : Nat) : Int) := by unfold wrap32; omega
theorem back_neg (q : Nat) (h : q < 4294967296) : wrap32 (-((q : Nat) : Int)) % 4294967296 = ((negN q : Nat) : Int) := by unfold wrap32 negN; omega
theorem mod_pos (q : Nat) (h : q < 4294967296) : ((q : Nat) : Int) % 4294967296 = ((q : Nat) : Int) := by omega
theorem mod_neg (q : Nat) (h : q < 4294967296) : -((q : Nat) : Int) % 4294967296 = ((negN q : Nat) : Int) := by unfold negN; omega
theorem quo_s {A B : Nat} (hA : A < 4294967296) (hB : B < 4294967296) : wrap32 (Int.tdiv (wrap32 ((A : Nat) : Int)) (wrap32 ((B : Nat) : Int))) % 4294967296 = ((sgnQ A B : Nat) : Int) := by
  have hl := Nat.div_le_self (magN A) (magN B)
  have hm := magN_lt hA
  unfold sgnQ
  rcases sgn_cases hA with ⟨h1, -, e1, -⟩ | ⟨h1, -, e1, -⟩ <;> rcases sgn_cases hB with ⟨h2, -, e2, -⟩ | ⟨h2, -, e2, -⟩ <;> rw [h1, h2, e1, e2]
  · rw [if_pos (by rfl)]; exact back_pos _ (by omega)
  · rw [if_neg (by simp), Int.tdiv_neg]; exact back_neg _ (by omega)
  · rw [if_neg (by simp), Int.neg_tdiv]; exact back_neg _ (by omega)
  · rw [if_pos (by rfl), Int.neg_tdiv, Int.tdiv_neg, Int.neg_neg]; exact back_pos _ (by omega)
theorem rem_s {A B : Nat} (hA : A < 4294967296) (hB : B < 4294967296) : Int.tmod (wrap32 ((A : Nat) : Int)) (wrap32 ((B : Nat) : Int)) % 4294967296 = ((sgnR A B : Nat) : Int) := by
  have hl := Nat.mod_le (magN A) (magN B)
  have hm := magN_lt hA
  unfold sgnR
  rcases sgn_cases hA with ⟨h1, -, e1, -⟩ | ⟨h1, -, e1, -⟩ <;> rcases sgn_cases hB with ⟨h2, -, e2, -⟩ | ⟨h2, -, e2, -⟩ <;> rw [h1, e1, e2]
  · rw [if_neg (by simp)]; exact mod_pos _ (by omega)
  · rw [if_neg (by simp), Int.tmod_neg]; exact mod_pos _ (by omega)
  · rw [if_pos rfl, Int.neg_tmod]; exact mod_neg _ (by omega)
  · rw [if_pos rfl, Int.neg_tmod, Int.tmod_neg]; exact mod_neg _ (by omega)
theorem over_s {A B : Nat} (hA : A < 4294967296) (hB : B < 4294967296) (hB0 : 0 < B) : (((A : Nat) : Int) = 2147483648 ∧ wrap32 ((B : Nat) : Int) = -1) ↔ ((A.testBit 31 = true ∧ B.testBit 31 = true) ∧ (sgnQ A B).testBit 31 = true) := by
  have hq := sgnQ_lt (B := B) hA
  rw [bit31 hq]
  constructor
  · rintro ⟨h1, h2⟩
    have h3 : B = 4294967295 := by unfold wrap32 at h2; omega
    have h4 : A = 2147483648 := by omega
    subst h3; subst h4
    decide
  · rintro ⟨⟨h1, h2⟩, h3⟩
    rw [decide_eq_true_eq] at h3
    unfold sgnQ at h3
    rw [h1, h2, if_pos (by rfl)] at h3
    rcases sgn_cases hA with ⟨h4, -⟩ | ⟨-, e1, -, h5, h6⟩
    · rw [h4] at h1; cases h1
    rcases sgn_cases hB with ⟨h4, -⟩ | ⟨-, e2, e3, h7, h8⟩
    · rw [h4] at h2; cases h2
    have h9 : magN B = 1 := by
      by_cases h : magN B ≤ 1
      · omega
      · have h10 : magN A / magN B ≤ magN A / 2 := Nat.div_le_div_left (by omega) (by decide)
        omega
    rw [h9, Nat.div_one] at h3
    rw [e3, h9]
    exact ⟨by omega, rfl⟩
theorem rem_over {A B : Nat} (hA : A < 4294967296) (hB : B < 4294967296) (h : ((A : Nat) : Int) = 2147483648 ∧ wrap32 ((B : Nat) : Int) = -1) : sgnR A B = 0 := by
  have h3 : B = 4294967295 := by have h2 := h.2; unfold wrap32 at h2; omega
  have h4 : A = 2147483648 := by have := h.1; omega
  subst h3; subst h4
  decide
theorem quoZ_even {k : Int} {A B : Nat} (h0 : ¬ ((B : Nat) : Int) = 0) (hk : k % 2 = 0) : quoZ k A B = quoZ2 k A B (sgnQ A B) (sgnR A B) := by unfold quoZ; rw [if_neg h0, if_pos hk]
theorem quoZ_odd {k : Int} {A B : Nat} (h0 : ¬ ((B : Nat) : Int) = 0) (hk : ¬ k % 2 = 0) : quoZ k A B = quoZ2 k A B (A / B) (A % B) := by unfold quoZ; rw [if_neg h0, if_neg hk]
theorem quoZ2_q {k : Int} {A B q r : Nat} (h : ¬ (((k = 0 ∧ A.testBit 31 = true) ∧ B.testBit 31 = true) ∧ q.testBit 31 = true)) (hk : k < 2) : quoZ2 k A B q r = (q, 0) := by unfold quoZ2; rw [if_neg h, if_pos hk]
theorem quoZ2_o {k : Int} {A B q r : Nat} (h : ((k = 0 ∧ A.testBit 31 = true) ∧ B.testBit 31 = true) ∧ q.testBit 31 = true) : quoZ2 k A B q r = (0, 62) := by unfold quoZ2; rw [if_pos h]
theorem quoZ2_r {k : Int} {A B q r : Nat} (h : ¬ k = 0) (hk : ¬ k < 2) : quoZ2 k A B q r = (r, 0) := by unfold quoZ2; rw [if_neg (fun e => h e.1.1.1), if_neg hk]
theorem div_eq {o : Int} {A B : Nat} (ho : 109 ≤ o ∧ o ≤ 112) (hA : A < 4294967296) (hB : B < 4294967296) : divG o A B = ((((quoZ (o - 103 - 3 - 3) A B).1 : Nat) : Int), (quoZ (o - 103 - 3 - 3) A B).2) := by
  by_cases h0 : ((B : Nat) : Int) = 0
  · unfold divG quoZ
    rw [if_pos h0, if_pos h0]; rfl
  · have hB0 : 0 < B := by omega
    have hov := over_s hA hB hB0
    have hc : o = 109 ∨ o = 110 ∨ o = 111 ∨ o = 112 := by omega
    rcases hc with rfl | rfl | rfl | rfl
    · rw [quoZ_even h0 (by decide)]
      unfold divG
      by_cases hv : ((A : Nat) : Int) = 2147483648 ∧ wrap32 ((B : Nat) : Int) = -1
      · rw [if_neg h0, if_pos ⟨rfl, hv⟩, quoZ2_o ⟨⟨⟨by decide, (hov.1 hv).1.1⟩, (hov.1 hv).1.2⟩, (hov.1 hv).2⟩]; rfl
      · rw [if_neg h0, if_neg (fun h => hv h.2), if_pos rfl, quoZ2_q (fun h => hv (hov.2 ⟨⟨h.1.1.2, h.1.2⟩, h.2⟩)) (by decide), quo_s hA hB]
    · rw [quoZ_odd h0 (by decide), quoZ2_q (fun h => by have h1 := h.1.1.1; revert h1; decide) (by decide)]
      unfold divG
      rw [if_neg h0, if_neg (fun h => by have h1 := h.1; revert h1; decide), if_neg (by decide), if_pos rfl]
    · rw [quoZ_even h0 (by decide), quoZ2_r (by decide) (by decide)]
      unfold divG
      rw [if_neg h0, if_neg (fun h => by have h1 := h.1; revert h1; decide), if_neg (by decide), if_neg (by decide)]
      by_cases hv : ((A : Nat) : Int) = 2147483648 ∧ wrap32 ((B : Nat) : Int) = -1
      · rw [if_pos ⟨rfl, hv⟩, rem_over hA hB hv]; rfl
      · rw [if_neg (fun h => hv h.2), if_pos rfl, rem_s hA hB]
    · rw [quoZ_odd h0 (by decide), quoZ2_r (by decide) (by decide)]
      unfold divG
      rw [if_neg h0, if_neg (fun h => by have h1 := h.1; revert h1; decide), if_neg (by decide), if_neg (by decide), if_neg (fun h => by have h1 := h.1; revert h1; decide), if_neg (by decide)]
theorem two_arms {o : Int} (hr : ¬ (o < 106 ∨ 120 < o)) (v1 v2 v3 v4 v5 v6 v7 v8 v9 v10 v11 bt : Nat) (D : Int × Int) (Q : Nat × Int) (hD : 109 ≤ o ∧ o ≤ 112 → D = (((Q.1 : Nat) : Int), Q.2)) (h0 : o = 113 → bt = v4) (h1 : o = 114 → bt = v5) (h2 : o = 115 → bt = v6) :
    (if o = 106 then (((v1 : Nat) : Int), (0 : Int)) else if o = 107 then ((v2 : Nat), 0) else if o = 108 then ((v3 : Nat), 0)
  else if o = 109 then D else if o = 110 then D else if o = 111 then D else if o = 112 then D
  else if o = 113 then ((v4 : Nat), 0) else if o = 114 then ((v5 : Nat), 0) else if o = 115 then ((v6 : Nat), 0) else if o = 116 then ((v7 : Nat), 0)
  else if o = 117 then ((v8 : Nat), 0) else if o = 118 then ((v9 : Nat), 0) else if o = 119 then ((v10 : Nat), 0) else if o = 120 then ((v11 : Nat), 0) else (0, 9)) =
   ((((if o - 103 - 3 < 0 ∨ 14 < o - 103 - 3 then (0, 9) else if o - 103 - 3 = 0 then (v1, 0) else if o - 103 - 3 = 1 then (v2, 0) else if o - 103 - 3 = 2 then (v3, 0)
  else if o - 103 - 3 < 7 then Q else if o - 103 - 3 < 10 then (bt, 0) else if o - 103 - 3 = 10 then (v7, 0) else if o - 103 - 3 = 11 then (v8, 0)
  else if o - 103 - 3 = 12 then (v9, 0) else if o - 103 - 3 = 13 then (v10, 0) else (v11, 0) : Nat × Int)).1 : Int), ((if o - 103 - 3 < 0 ∨ 14 < o - 103 - 3 then (0, 9) else if o - 103 - 3 = 0 then (v1, 0) else if o - 103 - 3 = 1 then (v2, 0) else if o - 103 - 3 = 2 then (v3, 0)
  else if o - 103 - 3 < 7 then Q else if o - 103 - 3 < 10 then (bt, 0) else if o - 103 - 3 = 10 then (v7, 0) else if o - 103 - 3 = 11 then (v8, 0)
  else if o - 103 - 3 = 12 then (v9, 0) else if o - 103 - 3 = 13 then (v10, 0) else (v11, 0) : Nat × Int)).2) := by
  have hc : o = 106 ∨ o = 107 ∨ o = 108 ∨ o = 109 ∨ o = 110 ∨ o = 111 ∨ o = 112 ∨ o = 113 ∨ o = 114 ∨ o = 115 ∨ o = 116 ∨ o = 117 ∨ o = 118 ∨ o = 119 ∨ o = 120 := by omega
  rcases hc with rfl | rfl | rfl | rfl | rfl | rfl | rfl | rfl | rfl | rfl | rfl | rfl | rfl | rfl | rfl
  · rfl
  · rfl
  · rfl
  · exact hD (by decide)
  · exact hD (by decide)
  · exact hD (by decide)
  · exact hD (by decide)
  · rw [h0 rfl]; rfl
  · rw [h1 rfl]; rfl
  · rw [h2 rfl]; rfl
  · rfl
  · rfl
  · rfl
  · rfl
  · rfl
theorem two_eq {o : Int} {A B : Nat} (ho : 0 ≤ o ∧ o < 256) (hA : A < 4294967296) (hB : B < 4294967296) : twoG o A B = rtwoP o A B := by
  unfold twoG rtwoP
  rw [cmp_eq ho hA hB]
  by_cases hc : (rcmpP (o - 69 - 1) A B).2 = true
  · rw [if_pos hc, if_pos hc]
  · rw [if_neg hc, if_neg hc]
    by_cases hr : o < 106 ∨ 120 < o
    · unfold rtwoK
      rw [if_pos (by omega : o - 103 - 3 < 0 ∨ 14 < o - 103 - 3)]
      rw [if_neg (by omega), if_neg (by omega), if_neg (by omega), if_neg (by omega), if_neg (by omega), if_neg (by omega), if_neg (by omega), if_neg (by omega), if_neg (by omega), if_neg (by omega), if_neg (by omega), if_neg (by omega), if_neg (by omega), if_neg (by omega), if_neg (by omega)]; rfl
    · unfold rtwoK
      exact two_arms hr _ _ _ _ _ _ _ _ _ _ _ (bitN (o - 103 - 3 - 7) A B) _ _ (fun h => div_eq h hA hB) (by rintro rfl; unfold bitN; rw [if_pos (by decide)]) (by rintro rfl; unfold bitN; rw [if_neg (by decide), if_pos (by decide)]) (by rintro rfl; unfold bitN; rw [if_neg (by decide), if_neg (by decide)])
theorem tz_bd (b : Bool) : 0 ≤ tz b ∧ tz b < 4294967296 := by cases b <;> decide
theorem cmpG_bd (o : Int) (A B : Nat) : 0 ≤ (cmpG o A B).1 ∧ (cmpG o A B).1 < 4294967296 := by
  unfold cmpG
  repeat' split
  all_goals first | exact tz_bd _ | decide
theorem divG_bd (o : Int) {A B : Nat} (hA : A < 4294967296) (hB : B < 4294967296) : 0 ≤ (divG o A B).1 ∧ (divG o A B).1 < 4294967296 := by
  unfold divG
  have h1 := Nat.div_le_self A B
  have h2 := Nat.mod_le A B
  repeat' split
  all_goals first | decide | (simp only; generalize A / B = q at *; generalize A % B = r at *; omega)
def bdP (x : Int × Int) : Prop := 0 ≤ x.1 ∧ x.1 < 4294967296
theorem bd_ite {c : Prop} [Decidable c] {x y : Int × Int} (hx : bdP x) (hy : bdP y) : bdP (if c then x else y) := by split <;> assumption
theorem bd_nat {n : Nat} {z : Int} (h : n < 4294967296) : bdP ((n : Nat), z) := ⟨by simp, by simp; omega⟩
theorem twoG_bd (o : Int) {A B : Nat} (hA : A < 4294967296) (hB : B < 4294967296) : 0 ≤ (twoG o A B).1 ∧ (twoG o A B).1 < 4294967296 := by
  have h1 := cmpG_bd o A B
  have h2 := divG_bd o hA hB
  have h3 : A &&& B < 4294967296 := Nat.and_lt_two_pow (n := 32) A hB
  have h4 : A ||| B < 4294967296 := Nat.or_lt_two_pow (n := 32) hA hB
  have h5 : A ^^^ B < 4294967296 := Nat.xor_lt_two_pow (n := 32) hA hB
  have h6 := sarN_lt (A := A) (s := B % 32) (fill := A.testBit 31) hA (by omega)
  have h7 := sarN_lt (A := A) (s := B % 32) (fill := false) hA (by omega)
  have h8 := rotN_lt' (A := A) (s := B % 32) hA (by omega)
  have h9 := rotN_lt' (A := A) (s := (32 - B % 32) % 32) hA (by omega)
  unfold twoG
  generalize sarN A (B % 32) (A.testBit 31) = x1 at *
  generalize sarN A (B % 32) false = x2 at *
  generalize rotN A (B % 32) = x3 at *
  generalize rotN A ((32 - B % 32) % 32) = x4 at *
  generalize A &&& B = x5 at *
  generalize A ||| B = x6 at *
  generalize A ^^^ B = x7 at *
  generalize A * B = x8 at *
  generalize A * 2 ^ (B % 32) = x9 at *
  generalize divG o A B = D at *
  generalize cmpG o A B = E at *
  show bdP _
  repeat' apply bd_ite
  all_goals (first | exact h1 | exact h2 | exact bd_nat (by omega) | exact ⟨by decide, by decide⟩)
end Go.Proofs.YtahgkfekggkjnaaDoor
