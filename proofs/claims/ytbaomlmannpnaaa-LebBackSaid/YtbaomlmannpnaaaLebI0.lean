/- What is proved here: small facts on groups of seven bits. -/
import Derived.Test.YtbaomlmannpnaaaLebH
import Derived.Test.YtbaomlmannpnaaaLebD
namespace Go.Proofs.Ytbaomlmannpnaaa
open Go.RowKit
set_option linter.unusedVariables false
set_option linter.unusedSimpArgs false

/-- Bit i of the groups of seven. -/
def bitB (f : Nat → Int) (i : Nat) : Bool := (f (i / 7)).toNat / 2 ^ (i % 7) % 2 == 1
def lstB (f : Nat → Int) (m : Nat) : List Bool := (List.range m).map (bitB f)
theorem lstB_succ (f : Nat → Int) (m : Nat) : lstB f (m + 1) = lstB f m ++ [bitB f m] := by simp [lstB, List.range_succ]
theorem lstB_get (f : Nat → Int) {m j : Nat} (h : j < m) : ((lstB f m).map Value.bool)[j]? = some (.bool (bitB f j)) := by simp [lstB, h]
theorem bitB_at (f : Nat → Int) (n k : Nat) (hk : k < 7) (h0 : 0 ≤ f n) : bitB f (7 * n + k) = ((f n / 2 ^ k).tmod 2 == 1) := by
  unfold bitB
  rw [show (7 * n + k) / 7 = n from by omega, show (7 * n + k) % 7 = k from by omega]
  obtain ⟨c, hc⟩ := Int.eq_ofNat_of_zero_le h0
  rw [hc, Int.toNat_natCast]
  have : (c : Int) / 2 ^ k = ((c / 2 ^ k : Nat) : Int) := by simp
  rw [this]
  generalize c / 2 ^ k = q
  rw [Int.tmod_eq_emod_of_nonneg (by omega), Bool.eq_iff_iff]; simp; omega

def valB (g : Nat → Bool) : Nat → Nat
  | 0 => 0
  | j + 1 => valB g j + (g j).toNat * 2 ^ j
theorem valB_lt (g : Nat → Bool) : ∀ j, valB g j < 2 ^ j
  | 0 => by simp [valB]
  | j + 1 => by
    have h1 := valB_lt g j
    have h2 := Nat.mul_le_mul_right (2 ^ j) (Bool.toNat_le (g j))
    rw [valB, Nat.pow_succ]; omega

theorem anyFrom_true (f : Nat → Bool) (s : Nat) : ∀ m j, j < m → f (s + j) = true → anyFrom f s m = true
  | 0, j, h, _ => by omega
  | m + 1, j, h, hf => by
    rw [anyFrom]
    by_cases e : j = m
    · rw [e] at hf; simp [hf]
    · simp [anyFrom_true f s m j (by omega) hf]

def isB (f : Nat → Int) (n bits : Nat) (top : Bool) (j : Nat) : Bool := if bits ≤ j then top else if j < 7 * n then bitB f j else top
def topB (f : Nat → Int) (n bits : Nat) (sign : Bool) : Bool := sign && bitB f (min bits (7 * n) - 1)
def badB (f : Nat → Int) (n bits : Nat) (top : Bool) : Bool := anyFrom (fun i => bitB f i != top) bits (7 * n - bits)

def refRd (f : Nat → Int) (at' avail : Nat) (bits : Nat) (sign : Bool) : Int × Int × Int :=
  let r := scanG f avail 1 (mostN bits).toNat
  if r.2 ≠ 0 then (0, 0, r.2)
  else if badB f r.1 bits (topB f r.1 bits sign) then (0, 0, 3)
  else ((valB (isB f r.1 bits (topB f r.1 bits sign)) 64 : Nat), at' + r.1, 0)

def ReadPost (w : World) (U : Int × Int × Int) (e : Ending) (w' : World) : Prop :=
  e = .returned (.tuple #[.int .u64 U.1, .int .i64 U.2.1, .int .i64 U.2.2]) ∧ Below w.heap.size w w'

end Go.Proofs.Ytbaomlmannpnaaa
