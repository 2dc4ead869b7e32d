/- What is proved here: rows of bits: what the document's functions of bits make of them. -/
import Derived.Test.YtahgkfekggkjnaaDoorSxE
import Derived.Test.YtahgkfekggkjnaaDoorAlN
import Derived.Test.YtahgkfekggkjnaaDoorAlB
namespace Go.Proofs.YtahgkfekggkjnaaDoor
open Go.RowKit
set_option linter.unusedVariables false
set_option linter.unusedSimpArgs false

attribute [simp] bitsK_length
theorem Row.to {α : Type} {k e base : Nat} {V : α → List Value} {w : World} {v : Value} {l l' : List α} (h : Row k V e base w v l) (he : l = l') : Row k V e base w v l' := he ▸ h
theorem Row.tol {α : Type} {k e base n c : Nat} {V : α → List Value} {w : World} {a : Option Addr} {l l' : List α} (h : Row k V e base w (.slice a n c) l) (he : l = l') : Row k V e base w (.slice a l'.length c) l' := he ▸ h.relen
theorem RdS.cell {α : Type} {k : Nat} {V : α → List Value} {w : World} {b off : Nat} {l : List α} {j : Nat} {x : α} (h : RdS k V w (some ⟨b, off, none⟩) l) (hj : l[j]? = some x) : cellsAt w b (off + j * k) (V x) ∧ b < w.heap.size := by
  obtain ⟨_, _, ha, hl, hc⟩ := RdS.at h hj
  cases ha
  exact ⟨hc, hl⟩
theorem bits_snoc {n i : Nat} {x : Bool} (h : x = n.testBit i) : bitsK n i ++ [x] = bitsK n (i + 1) := by rw [bitsK_succ, h]
theorem bits_zeros {n k : Nat} (h : n = 0) : List.replicate k false = bitsK n k := by rw [h, bitsK_zeros]
theorem bits_set {n m k i : Nat} {b : Bool} (h : ∀ x, x < k → m.testBit x = if x = i then b else n.testBit x) : (bitsK n k).set i b = bitsK m k := by
  apply List.ext_getElem?
  intro j
  rw [List.getElem?_set]
  by_cases hj : j < k
  · rw [bitsK_get hj, bitsK_get hj, h j hj]
    by_cases he : i = j
    · subst he; simp [hj]
    · rw [if_neg he, if_neg (fun e => he e.symm)]
  · have h1 : (bitsK m k)[j]? = none := List.getElem?_eq_none (by simp; omega)
    have h2 : (bitsK n k)[j]? = none := List.getElem?_eq_none (by simp; omega)
    rw [h1, h2]
    by_cases he : i = j
    · subst he; simp [hj]
    · rw [if_neg he]

/-- Truth as a number. -/
def tz (b : Bool) : Int := if b = true then 1 else 0
theorem tz_le (b : Bool) : 0 ≤ tz b ∧ tz b ≤ 1 := by cases b <;> decide
def tn (b : Bool) : Nat := if b = true then 1 else 0
theorem bit_rem (A : Nat) : decide (((A : Nat) : Int) % 2 = 1) = A.testBit 0 := by
  rw [bit_def, Nat.pow_zero, Nat.div_one]; congr 1; apply propext; omega
theorem bit_at (A i : Nat) : decide (((A / 2 ^ i : Nat) : Int) % 2 = 1) = A.testBit i := by
  rw [bit_rem, Nat.testBit_div_two_pow, Nat.zero_add]
theorem add_bit {A B cb i : Nat} {cy : Bool} (h : tn cy = carryAt A B cb i) : decide ((tz (A.testBit i) + tz (B.testBit i) + tz cy) % 2 = 1) = (A + B + cb).testBit i := by
  rw [sum_bit, ← h]; unfold tn tz; cases A.testBit i <;> cases B.testBit i <;> cases cy <;> decide
theorem add_carry {A B cb i : Nat} {cy : Bool} (h : tn cy = carryAt A B cb i) (hc : cb ≤ 1) : tn (decide (1 < tz (A.testBit i) + tz (B.testBit i) + tz cy)) = carryAt A B cb (i + 1) := by
  rw [carry_succ _ _ _ _ hc, ← h]; unfold tn tz; cases A.testBit i <;> cases B.testBit i <;> cases cy <;> decide
theorem not_bit' {n i : Nat} (hn : n < 4294967296) (hi : i < 32) : (!n.testBit i) = (4294967295 - n).testBit i := (not_bit n i hn hi).symm

/-- Shifted up by s, cut. -/
theorem shl_at {A s : Nat} (hs : s ≤ 31) : ∀ i, i < 32 → ((A * 2 ^ s) % 4294967296).testBit i = ((decide (0 ≤ ((i : Nat) : Int) - (s : Nat)) && decide (((i : Nat) : Int) - (s : Nat) < 32) && A.testBit (((i : Nat) : Int) - (s : Nat)).toNat) || ((decide (((i : Nat) : Int) - (s : Nat) < 0) || decide (32 ≤ ((i : Nat) : Int) - (s : Nat))) && false)) := by
  intro i hi
  rw [show (4294967296 : Nat) = 2 ^ 32 from rfl, Nat.testBit_mod_two_pow, shl_bit, Bool.and_false, Bool.or_false]
  by_cases h : s ≤ i
  · rw [show (((i : Nat) : Int) - (s : Nat)).toNat = i - s by omega]
    have h1 : (0 : Int) ≤ (i : Nat) - (s : Nat) := by omega
    have h2 : ((i : Nat) : Int) - (s : Nat) < 32 := by omega
    simp [h, hi, h1, h2]
  · have h1 : ¬ (0 : Int) ≤ (i : Nat) - (s : Nat) := by omega
    simp [h, hi, h1]
theorem sar_at {A s : Nat} {fill : Bool} (hA : A < 4294967296) (hs : s ≤ 31) : ∀ i, i < 32 → (sarN A s fill).testBit i = ((decide (0 ≤ ((i : Nat) : Int) - -((s : Nat) : Int)) && decide (((i : Nat) : Int) - -((s : Nat) : Int) < 32) && A.testBit (((i : Nat) : Int) - -((s : Nat) : Int)).toNat) || ((decide (((i : Nat) : Int) - -((s : Nat) : Int) < 0) || decide (32 ≤ ((i : Nat) : Int) - -((s : Nat) : Int))) && fill)) := by
  intro i hi
  rw [sar_bit A s i fill hA hi, show (((i : Nat) : Int) - -((s : Nat) : Int)).toNat = i + s by omega]
  have h1 : (0 : Int) ≤ (i : Nat) - -((s : Nat) : Int) := by omega
  have h2 : ¬ ((i : Nat) : Int) - -((s : Nat) : Int) < 0 := by omega
  by_cases h : i + s < 32
  · have h3 : ((i : Nat) : Int) - -((s : Nat) : Int) < 32 := by omega
    have h4 : ¬ (32 : Int) ≤ (i : Nat) - -((s : Nat) : Int) := by omega
    have h5 : ¬ 32 ≤ i + s := by omega
    simp only [h, h1, h2, h3, h4, h5, decide_true, decide_false, Bool.true_and, Bool.false_and, Bool.or_false, Bool.false_or, Bool.true_or, Bool.or_true]
  · have h3 : ¬ ((i : Nat) : Int) - -((s : Nat) : Int) < 32 := by omega
    have h4 : (32 : Int) ≤ (i : Nat) - -((s : Nat) : Int) := by omega
    have h5 : 32 ≤ i + s := by omega
    simp only [h, h1, h2, h3, h4, h5, decide_true, decide_false, Bool.true_and, Bool.false_and, Bool.or_false, Bool.false_or, Bool.true_or, Bool.or_true]
theorem sarN_lt {A s : Nat} {fill : Bool} (hA : A < 4294967296) (hs : s ≤ 31) : sarN A s fill < 4294967296 := by
  unfold sarN
  rw [Nat.div_lt_iff_lt_mul (Nat.two_pow_pos s)]
  have h := Nat.two_pow_pos s
  cases fill
  · have : (4294967296 : Nat) * 1 ≤ 4294967296 * 2 ^ s := Nat.mul_le_mul_left _ h
    simp; omega
  · simp only [if_true]
    have e : (2 : Nat) ^ 32 * (2 ^ s - 1) = 4294967296 * 2 ^ s - 4294967296 := by rw [Nat.mul_sub]
    have : (4294967296 : Nat) * 1 ≤ 4294967296 * 2 ^ s := Nat.mul_le_mul_left _ h
    omega

theorem tmod_bd (x : Int) : -32 < x.tmod 32 ∧ x.tmod 32 < 32 := by
  constructor
  · have := Int.lt_tmod_of_pos x (show (0 : Int) < 32 by decide); omega
  · exact Int.tmod_lt_of_pos x (by decide)
theorem rot_mod (x : Int) : (x.tmod 32 + 32).tmod 32 = x % 32 := by
  have h := tmod_bd x
  rw [Int.tmod_eq_emod_of_nonneg (by omega)]
  have h2 := Int.mul_tdiv_add_tmod x 32
  omega

/-- A round of a division. -/
def divR (r t : Nat) : Nat := (2 * r + t) % 4294967296
theorem shl_set {r i A : Nat} : (bitsK (r * 2 ^ 1 % 4294967296) 32).set 0 (A.testBit i) = bitsK (divR r (tn (A.testBit i))) 32 := by
  apply bits_set
  intro x hx
  unfold divR
  rw [show (4294967296 : Nat) = 2 ^ 32 from rfl, Nat.testBit_mod_two_pow, Nat.testBit_mod_two_pow]
  simp only [hx, decide_true, Bool.true_and]
  have ht : tn (A.testBit i) < 2 ^ 1 := by unfold tn; split <;> decide
  rw [show 2 * r = 2 ^ 1 * r from rfl, Nat.testBit_two_pow_mul_add r ht, Nat.mul_comm, Nat.testBit_two_pow_mul]
  by_cases h0 : x = 0
  · subst h0; simp; cases A.testBit i <;> decide
  · have h1 : ¬ x < 1 := by omega
    have h2 : 1 ≤ x := by omega
    simp [h0, h1, h2]
theorem div_high {r B t : Nat} (hr : r < B) (hB : B < 4294967296) (ht : t ≤ 1) : (r.testBit 31 || !decide (divR r t < B)) = decide (B ≤ 2 * r + t) := by
  unfold divR
  have hbit : r.testBit 31 = decide (2147483648 ≤ r) := by
    rw [bit_def]; congr 1; apply propext
    rw [show (2 : Nat) ^ 31 = 2147483648 from rfl]
    omega
  rw [hbit]
  by_cases h : 2147483648 ≤ r
  · simp [h]; omega
  · rw [Nat.mod_eq_of_lt (by omega)]
    by_cases h2 : B ≤ 2 * r + t
    · simp [h, h2]
    · have : 2 * r + t < B := by omega
      simp [h, h2, this]
theorem div_sub {r B t : Nat} (hr : r < B) (hB : B < 4294967296) (ht : t ≤ 1) (h : B ≤ 2 * r + t) : (divR r t + (4294967295 - B) + 1) % 4294967296 = 2 * r + t - B := by
  unfold divR; omega
theorem div_keep {r B t : Nat} (hB : B < 4294967296) (h : ¬ B ≤ 2 * r + t) : divR r t = 2 * r + t := by
  unfold divR; omega
theorem rem_at {A B i : Nat} (hb : 0 < B) : A / 2 ^ i % B = if B ≤ 2 * (A / 2 ^ (i + 1) % B) + tn (A.testBit i) then 2 * (A / 2 ^ (i + 1) % B) + tn (A.testBit i) - B else 2 * (A / 2 ^ (i + 1) % B) + tn (A.testBit i) := rem_step hb
theorem quo_at {A B i : Nat} (hb : 0 < B) : (A / B).testBit i = decide (B ≤ 2 * (A / 2 ^ (i + 1) % B) + tn (A.testBit i)) := quo_bit hb
theorem high_bit (q i x : Nat) : (q / 2 ^ i * 2 ^ i).testBit x = (decide (i ≤ x) && q.testBit x) := by
  rw [Nat.mul_comm, Nat.testBit_two_pow_mul, Nat.testBit_div_two_pow]
  by_cases h : i ≤ x
  · rw [show x - i + i = x by omega]
  · simp [h]
theorem quo_set {q i : Nat} (h : q.testBit i = true) : (bitsK (q / 2 ^ (i + 1) * 2 ^ (i + 1)) 32).set i true = bitsK (q / 2 ^ i * 2 ^ i) 32 := by
  apply bits_set
  intro x hx
  rw [high_bit, high_bit]
  by_cases he : x = i
  · subst he; simp [h]
  · rw [if_neg he]
    by_cases h2 : i ≤ x
    · have : i + 1 ≤ x := by omega
      simp [h2, this]
    · have : ¬ i + 1 ≤ x := by omega
      simp [h2, this]
theorem quo_keep {q i : Nat} (h : q.testBit i = false) : bitsK (q / 2 ^ (i + 1) * 2 ^ (i + 1)) 32 = bitsK (q / 2 ^ i * 2 ^ i) 32 := by
  apply bitsK_congr
  intro x hx
  rw [high_bit, high_bit]
  by_cases he : x = i
  · subst he; simp [h]
  · by_cases h2 : i ≤ x
    · have : i + 1 ≤ x := by omega
      simp [h2, this]
    · have : ¬ i + 1 ≤ x := by omega
      simp [h2, this]
theorem shl_at1 {A : Nat} : ∀ i, i < 32 → ((A * 2 ^ 1) % 4294967296).testBit i = ((decide (0 ≤ ((i : Nat) : Int) - 1) && decide (((i : Nat) : Int) - 1 < 32) && A.testBit (((i : Nat) : Int) - 1).toNat) || ((decide (((i : Nat) : Int) - 1 < 0) || decide (32 ≤ ((i : Nat) : Int) - 1)) && false)) := fun i hi => shl_at (A := A) (s := 1) (by decide) i hi
theorem times_at (a b i : Nat) : (a * (b % 2 ^ (i + 1))) % 4294967296 = if b.testBit i = true then ((a * (b % 2 ^ i)) % 4294967296 + (a * 2 ^ i) % 4294967296 + 0) % 4294967296 else (a * (b % 2 ^ i)) % 4294967296 := times_step a b i
theorem times_yes {a b i : Nat} (h : b.testBit i = true) : bitsK (((a * (b % 2 ^ i)) % 4294967296 + (a * 2 ^ i) % 4294967296 + 0) % 4294967296) 32 = bitsK ((a * (b % 2 ^ (i + 1))) % 4294967296) 32 := by rw [times_at, if_pos h]
theorem times_no {a b i : Nat} (h : ¬ b.testBit i = true) : bitsK ((a * (b % 2 ^ i)) % 4294967296) 32 = bitsK ((a * (b % 2 ^ (i + 1))) % 4294967296) 32 := by rw [times_at, if_neg h]
theorem tn_le (b : Bool) : tn b ≤ 1 := by cases b <;> decide
theorem quo_yes {A B j : Nat} (hj : 0 < j) (hb : 0 < B) (hB : B < 4294967296) (h : ((A / 2 ^ j % B).testBit 31 || !decide (divR (A / 2 ^ j % B) (tn (A.testBit (j - 1))) < B)) = true) :
    (bitsK (A / B / 2 ^ j * 2 ^ j) 32).set (j - 1) true = bitsK (A / B / 2 ^ (j - 1) * 2 ^ (j - 1)) 32 ∧ bitsK ((divR (A / 2 ^ j % B) (tn (A.testBit (j - 1))) + (4294967295 - B) + 1) % 4294967296) 32 = bitsK (A / 2 ^ (j - 1) % B) 32 := by
  obtain ⟨i, rfl⟩ : ∃ i, j = i + 1 := ⟨j - 1, by omega⟩
  rw [show i + 1 - 1 = i from rfl] at *
  rw [div_high (Nat.mod_lt _ hb) hB (tn_le _), decide_eq_true_eq] at h
  refine ⟨quo_set (by rw [quo_at hb, decide_eq_true_eq]; exact h), ?_⟩
  rw [div_sub (Nat.mod_lt _ hb) hB (tn_le _) h, rem_at (i := i) hb, if_pos h]
theorem quo_no {A B j : Nat} (hj : 0 < j) (hb : 0 < B) (hB : B < 4294967296) (h : ((A / 2 ^ j % B).testBit 31 || !decide (divR (A / 2 ^ j % B) (tn (A.testBit (j - 1))) < B)) = false) :
    bitsK (A / B / 2 ^ j * 2 ^ j) 32 = bitsK (A / B / 2 ^ (j - 1) * 2 ^ (j - 1)) 32 ∧ bitsK (divR (A / 2 ^ j % B) (tn (A.testBit (j - 1)))) 32 = bitsK (A / 2 ^ (j - 1) % B) 32 := by
  obtain ⟨i, rfl⟩ : ∃ i, j = i + 1 := ⟨j - 1, by omega⟩
  rw [show i + 1 - 1 = i from rfl] at *
  rw [div_high (Nat.mod_lt _ hb) hB (tn_le _), decide_eq_false_iff_not] at h
  refine ⟨quo_keep (by rw [quo_at hb, decide_eq_false_iff_not]; exact h), ?_⟩
  rw [div_keep hB h, rem_at (i := i) hb, if_neg h]
theorem rot_at {A s : Nat} (hA : A < 4294967296) (hs : s ≤ 31) : ∀ i, i < 32 → (rotN A s).testBit i = A.testBit ((((i : Nat) : Int) - ((s : Nat) : Int)) % 32).toNat := by
  intro i hi
  unfold rotN
  rw [rot_bit A s i hA (by omega) hi]
  congr 1; omega
theorem rotr_at {A s : Nat} (hA : A < 4294967296) (hs : s ≤ 31) : ∀ i, i < 32 → (rotN A ((32 - s) % 32)).testBit i = A.testBit ((((i : Nat) : Int) - -((s : Nat) : Int)) % 32).toNat := by
  intro i hi
  unfold rotN
  rw [rot_bit A _ i hA (Nat.mod_lt _ (by decide)) hi]
  congr 1; omega

/-- The other sign. -/
def negN (A : Nat) : Nat := (4294967295 - A + 0 + 1) % 4294967296
theorem negN_lt (A : Nat) : negN A < 4294967296 := Nat.mod_lt _ (by decide)
def magN (A : Nat) : Nat := if A.testBit 31 = true then negN A else A
theorem magN_lt {A : Nat} (h : A < 4294967296) : magN A < 4294967296 := by unfold magN; split; exact negN_lt A; exact h
theorem bit31 {A : Nat} (h : A < 4294967296) : A.testBit 31 = decide (2147483648 ≤ A) := by
  rw [bit_def]; congr 1; apply propext
  rw [show (2 : Nat) ^ 31 = 2147483648 from rfl]
  omega
theorem negN_pos {A : Nat} (h0 : 0 < A) (h : A < 4294967296) : 0 < negN A := by unfold negN; omega
def sgnQ (A B : Nat) : Nat := if (A.testBit 31 == B.testBit 31) = true then magN A / magN B else negN (magN A / magN B)
def sgnR (A B : Nat) : Nat := if A.testBit 31 = true then negN (magN A % magN B) else magN A % magN B
def quoZ2 (k : Int) (A B q r : Nat) : Nat × Int := if ((k = 0 ∧ A.testBit 31 = true) ∧ B.testBit 31 = true) ∧ q.testBit 31 = true then (0, 62) else if k < 2 then (q, 0) else (r, 0)
def quoZ (k : Int) (A B : Nat) : Nat × Int := if ((B : Nat) : Int) = 0 then (0, 61) else if k % 2 = 0 then quoZ2 k A B (sgnQ A B) (sgnR A B) else quoZ2 k A B (A / B) (A % B)
def bitN (k : Int) (A B : Nat) : Nat := if k = 0 then A &&& B else if k = 1 then A ||| B else A ^^^ B
theorem bitN_lt {k : Int} {A B : Nat} (hA : A < 4294967296) (hB : B < 4294967296) : bitN k A B < 4294967296 := by
  unfold bitN
  split
  · exact Nat.and_lt_two_pow (n := 32) A hB
  · split
    · exact Nat.or_lt_two_pow (n := 32) hA hB
    · exact Nat.xor_lt_two_pow (n := 32) hA hB
def rcmpB (k : Int) (A B : Nat) (below : Bool) : Int := if (k - 2) / 2 = 0 then tz below else if (k - 2) / 2 = 1 then tz (!below && !decide (((A : Nat) : Int) = ((B : Nat) : Int))) else if (k - 2) / 2 = 2 then tz (below || decide (((A : Nat) : Int) = ((B : Nat) : Int))) else tz (!below)
def rcmpP (k : Int) (A B : Nat) : Int × Bool := if k < 0 ∨ 9 < k then (0, false) else if k < 2 then (tz (decide (((A : Nat) : Int) = ((B : Nat) : Int)) == decide (k = 0)), true) else (rcmpB k A B (if k % 2 = 0 ∧ (A.testBit 31 == B.testBit 31) = false then A.testBit 31 else decide (A < B)), true)
def rtwoK (k : Int) (A B : Nat) : Nat × Int :=
  if k < 0 ∨ 14 < k then (0, 9) else if k = 0 then ((A + B + 0) % 4294967296, 0) else if k = 1 then ((A + (4294967295 - B) + 1) % 4294967296, 0) else if k = 2 then (A * B % 4294967296, 0)
  else if k < 7 then quoZ (k - 3) A B else if k < 10 then (bitN (k - 7) A B, 0) else if k = 10 then (A * 2 ^ (B % 32) % 4294967296, 0) else if k = 11 then (sarN A (B % 32) (A.testBit 31), 0)
  else if k = 12 then (sarN A (B % 32) false, 0) else if k = 13 then (rotN A (B % 32), 0) else (rotN A ((32 - B % 32) % 32), 0)
def rtwoP (o : Int) (A B : Nat) : Int × Int := if (rcmpP (o - 69 - 1) A B).2 = true then ((rcmpP (o - 69 - 1) A B).1, 0) else (((rtwoK (o - 103 - 3) A B).1 : Nat), (rtwoK (o - 103 - 3) A B).2)
theorem rotN_lt' {A s : Nat} (hA : A < 4294967296) (hs : s < 32) : rotN A s < 4294967296 := rotN_lt A s hA hs
theorem sgnQ_lt {A B : Nat} (hA : A < 4294967296) : sgnQ A B < 4294967296 := by
  unfold sgnQ; split
  · exact Nat.lt_of_le_of_lt (Nat.div_le_self _ _) (magN_lt hA)
  · exact negN_lt _
theorem sgnR_lt {A B : Nat} (hA : A < 4294967296) : sgnR A B < 4294967296 := by
  unfold sgnR; split
  · exact negN_lt _
  · exact Nat.lt_of_le_of_lt (Nat.mod_le _ _) (magN_lt hA)
end Go.Proofs.YtahgkfekggkjnaaDoor
