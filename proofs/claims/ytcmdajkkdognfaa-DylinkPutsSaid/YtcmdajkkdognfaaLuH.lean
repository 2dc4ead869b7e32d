/- What is proved here: a number that fits is read again from its bytes, from any place on. -/
import Derived.Test.YtcmdajkkdognfaaLuG
import Derived.Test.YtcmdajkkdognfaaLuF
import Derived.Test.YtcmdajkkdognfaaSxQ
namespace Go.Proofs.Ytcmdajkkdognfaa
open Go.RowKit
set_option linter.unusedVariables false
set_option linter.unusedSimpArgs false

theorem uL_ps (x : Nat) : 1 ≤ (uL x).length := by
  by_cases h : x < 128
  · rw [uL_low h]; simp
  · rw [uL_high h]; simp
/-- What is read of a number's bytes from place i on. -/
theorem uL_read : ∀ (m x : Nat), x ≤ m → ∀ (F : Nat → Int) (i avail M : Nat), (∀ j, j < (uL x).length → F (i + j) = (uL x).getD j 0) → i + (uL x).length ≤ avail → (uL x).length ≤ M →
    scanG F avail (i + 1) M = (i + (uL x).length, 0) ∧ numX F (i + (uL x).length) = numX F i + x * 128 ^ i
  | m, x, hm, F, i, avail, M, hF, ha, hM => by
    by_cases h : x < 128
    · rw [uL_low h] at hF ha hM ⊢
      have h0 := hF 0 (by simp)
      simp at h0 ha hM
      obtain ⟨M', rfl⟩ : ∃ M', M = M' + 1 := ⟨M - 1, by omega⟩
      refine ⟨?_, ?_⟩
      · rw [scanG, if_neg (by omega), if_pos (by rw [show i + 1 - 1 = i from by omega, h0]; omega)]; simp
      · simp only [List.length_singleton, numX, h0]
        rw [show (((x : Int) % 128).toNat) = x from by omega]
    · rw [uL_high h] at hF ha hM ⊢
      have h0 := hF 0 (by simp)
      simp only [Nat.add_zero, List.getD_cons_zero] at h0
      simp only [List.length_cons] at ha hM ⊢
      obtain ⟨M', rfl⟩ : ∃ M', M = M' + 1 := ⟨M - 1, by omega⟩
      have hm' : 1 ≤ m := by omega
      obtain ⟨r1, r2⟩ := uL_read (m - 1) (x / 128) (by omega) F (i + 1) avail M' (fun j hj => by
        have := hF (j + 1) (by simpa using hj)
        rw [show i + 1 + j = i + (j + 1) from by omega, this]; simp) (by omega) (by omega)
      refine ⟨?_, ?_⟩
      · rw [scanG, if_neg (by omega), if_neg (by rw [show i + 1 - 1 = i from by omega, h0]; omega), r1]
        congr 1; omega
      · rw [show i + ((uL (x / 128)).length + 1) = i + 1 + (uL (x / 128)).length from by omega, r2, numX, h0]
        rw [show ((((x % 128 + 128 : Nat) : Int) % 128).toNat) = x % 128 from by omega, Nat.pow_succ]
        have := Nat.div_add_mod x 128
        generalize x / 128 = q at *
        generalize x % 128 = r at *
        subst this
        rw [Nat.add_mul, Nat.mul_comm (128 ^ i) 128, ← Nat.mul_assoc, Nat.mul_comm q 128]; omega
termination_by m => m

theorem uL_bd : ∀ (m x : Nat), x ≤ m → ((uL x).length = 1 ∨ 128 ^ ((uL x).length - 1) ≤ x) ∧ x < 128 ^ (uL x).length
  | m, x, hm => by
    by_cases h : x < 128
    · rw [uL_low h]; simp; exact h
    · rw [uL_high h]
      obtain ⟨h1, h2⟩ := uL_bd (m - 1) (x / 128) (by omega)
      have hp := uL_ps (x / 128)
      simp only [List.length_cons, Nat.add_sub_cancel]
      refine ⟨.inr ?_, ?_⟩
      · rcases h1 with h1 | h1
        · rw [h1]; omega
        · rw [show (uL (x / 128)).length = (uL (x / 128)).length - 1 + 1 from by omega, Nat.pow_succ]
          generalize 128 ^ ((uL (x / 128)).length - 1) = p at *
          omega
      · rw [Nat.pow_succ]
        generalize 128 ^ (uL (x / 128)).length = p at *
        omega
termination_by m => m
decreasing_by omega


section
variable (F : Nat → Int) (n : Nat) (hn1 : 1 ≤ n) (hn2 : n ≤ 64)
include hn1 hn2

theorem most_nat : (mostN n).toNat = (n + 6) / 7 := by unfold mostN rightB; rw [if_pos (by simp; omega)]; omega

theorem uL_most {x : Nat} (hx : x < 2 ^ n) : (uL x).length ≤ (n + 6) / 7 := by
  have h := (uL_bd x x (Nat.le_refl _)).1
  have hp := uL_ps x
  rcases h with h | h
  · omega
  · rw [pow128] at h
    have : 7 * ((uL x).length - 1) < n := (Nat.pow_lt_pow_iff_right (by decide)).1 (Nat.lt_of_le_of_lt h hx)
    omega

theorem readU_at {x avail p : Nat} (hx : x < 2 ^ n) (hF : ∀ j, j < (uL x).length → F j = (uL x).getD j 0) (ha : (uL x).length ≤ avail) : readU F p avail n = ((x : Int), ((p + (uL x).length : Nat) : Int), 0) := by
  have hM := uL_most n hn1 hn2 hx
  obtain ⟨r1, r2⟩ := uL_read x x (Nat.le_refl _) F 0 avail ((mostN n).toNat) (by simpa using hF) (by omega) (by rw [most_nat n hn1 hn2]; exact hM)
  simp only [Nat.zero_add, numX, Nat.pow_zero, Nat.mul_one] at r1 r2
  unfold readU
  rw [r1]
  simp only [ne_eq, not_true_eq_false, if_false, r2]
  rw [if_neg (fun h => by have := h.2; rw [Int.toNat_natCast] at this; omega)]
  simp
end

/-- At place p of l stand X's elements. -/
def At (l : List Int) (p : Nat) (X : List Int) : Prop := (l.drop p).take X.length = X ∧ p + X.length ≤ l.length
theorem At.le {l : List Int} {p : Nat} {X : List Int} (h : At l p X) : p + X.length ≤ l.length := h.2
theorem At.get {l : List Int} {p : Nat} {X : List Int} (h : At l p X) {j : Nat} (hj : j < X.length) : l[p + j]? = X[j]? := by
  have e : X[j]? = ((l.drop p).take X.length)[j]? := by rw [h.1]
  rw [e, List.getElem?_take_of_lt hj, List.getElem?_drop]
theorem At.head {l : List Int} {p : Nat} {b : Int} {X : List Int} (h : At l p (b :: X)) : l[p]? = some b := by
  have := h.get (j := 0) (by simp)
  simpa using this
theorem At.tail {l : List Int} {p : Nat} {b : Int} {X : List Int} (h : At l p (b :: X)) : At l (p + 1) X := by
  refine ⟨?_, by have := h.2; simp at this; omega⟩
  have := h.1
  rw [List.length_cons, List.take_add_one] at this
  have hd := congrArg (List.drop 1) h.1
  rw [List.drop_take, List.drop_drop] at hd
  simpa using hd
theorem At.fst {l : List Int} {p : Nat} {X Y : List Int} (h : At l p (X ++ Y)) : At l p X := by
  refine ⟨?_, by have := h.2; rw [List.length_append] at this; omega⟩
  have := congrArg (List.take X.length) h.1
  rw [List.take_take, List.length_append, Nat.min_eq_left (by omega), List.take_left'] at this
  · exact this
  · rfl
theorem At.snd {l : List Int} {p : Nat} {X Y : List Int} (h : At l p (X ++ Y)) : At l (p + X.length) Y := by
  refine ⟨?_, by have := h.2; rw [List.length_append] at this; omega⟩
  have := congrArg (List.drop X.length) h.1
  rw [List.drop_take, List.drop_drop, List.length_append, Nat.add_sub_cancel_left, List.drop_left'] at this
  · exact this
  · rfl
theorem readUint_at {base p c n x : Nat} {a : Option Addr} {l : List Int} {w : World} (hr : Row 1 (vInt .u8) 5 base w (.slice a l.length c) l) (hb : ∀ y ∈ l, 0 ≤ y ∧ y < 256) (hl : l.length ≤ 1000000) (hA : At l p (uL x)) (hn1 : 1 ≤ n) (hn2 : n ≤ 64) (hx : x < 2 ^ n) :
    Calls Try.prog 161 #[.slice a l.length c, .int .i64 ((p : Nat) : Int), .int .i64 ((n : Nat) : Int)] w fun e w' => e = .returned (.tuple #[.int .u64 ((x : Nat) : Int), .int .i64 ((p + (uL x).length : Nat) : Int), .int .i64 0]) ∧ w = w' := by
  have hle := hA.le
  have hcap := Row.caps hr
  have hrd : RdB w a l.length (fun j => l.getD j 0) := fun j hj => by
    obtain ⟨b, off, ha, hlt, hc⟩ := RdS.at (Row.rd (by intros; rfl) hr) (List.getElem?_eq_getElem hj)
    have hm := hb _ (List.getElem_mem hj)
    have e : l.getD j 0 = l[j] := by simp [hj]
    have h0 := hc 0 (.int .u8 (l[j])) rfl
    simp only [e]
    exact ⟨b, off, ha, by rwa [Nat.mul_one, Nat.add_zero] at h0, hm.1, hm.2, hlt⟩
  refine (readUint_any a l.length c p n (fun j => l.getD j 0) w hcap.2.1 hl hrd).mono fun e w' ⟨h1, h2⟩ => ⟨?_, h1⟩
  have hst : startB l.length p n = true := by unfold startB rightB; simp; omega
  rw [h2, hst]
  simp only [Int.toNat_natCast, if_true]
  have hF : ∀ j, j < (uL x).length → (fun j => l.getD (p + j) 0) j = (uL x).getD j 0 := fun j hj => by
    have := hA.get hj
    show l.getD (p + j) 0 = _
    rw [List.getD_eq_getElem?_getD, this, List.getD_eq_getElem?_getD]
  rw [readU_at (fun j => l.getD (p + j) 0) n hn1 hn2 hx hF (by omega)]
end Go.Proofs.Ytcmdajkkdognfaa
