/- What is proved here: what the functions of the package leb that write numbers come to. -/
import Derived.Test.YtcmdajkkdognfaaKit
namespace Go.Proofs.Ytcmdajkkdognfaa
open Go.RowKit
set_option linter.unusedVariables false
set_option linter.unusedSimpArgs false

/-- The bytes of a number without a sign. -/
def uL (v : Nat) : List Int := if h : v < 128 then [(v : Int)] else ((v % 128 + 128 : Nat) : Int) :: uL (v / 128)
termination_by v
decreasing_by omega

theorem uL_low {v : Nat} (h : v < 128) : uL v = [(v : Int)] := by rw [uL, dif_pos h]
theorem uL_high {v : Nat} (h : ¬ v < 128) : uL v = ((v % 128 + 128 : Nat) : Int) :: uL (v / 128) := by rw [uL, dif_neg h]

/-- The bytes of a number with a sign. -/
def sL (v : Int) : List Int := if h : -64 ≤ v ∧ v ≤ 63 then [v % 128] else (v % 128 + 128) :: sL (v / 128)
termination_by v.natAbs
decreasing_by omega

theorem sL_low {v : Int} (h : -64 ≤ v ∧ v ≤ 63) : sL v = [v % 128] := by rw [sL, dif_pos h]
theorem sL_high {v : Int} (h : ¬ (-64 ≤ v ∧ v ≤ 63)) : sL v = (v % 128 + 128) :: sL (v / 128) := by rw [sL, dif_neg h]

theorem Try.info5 : (Try.prog.info? 5).map (fun i => (i.zero, i.size, i.bytes)) = some (some (.int .u8 0), 1, 1) := by kernel_rfl

theorem or128_fin : ∀ n : Fin 256, bits BinOp.or .u8 ((n.val : Nat) : Int) 128 = ((n.val % 128 + 128 : Nat) : Int) := by decide +kernel
theorem or128 (u : Nat) : bits BinOp.or .u8 ((u : Int) % 256) 128 = ((u % 128 + 128 : Nat) : Int) := by
  have := or128_fin ⟨u % 256, by omega⟩
  rw [show ((u : Int) % 256) = ((u % 256 : Nat) : Int) from by omega]
  rw [this]; simp only; omega
theorem or128i (u : Int) : bits BinOp.or .u8 (u % 256) 128 = u % 128 + 128 := by
  have := or128_fin ⟨(u % 256).toNat, by omega⟩
  rw [show u % 256 = (((u % 256).toNat : Nat) : Int) from by omega]
  rw [this]; simp only; omega
theorem and127_fin : ∀ n : Fin 256, bits BinOp.and .u8 ((n.val : Nat) : Int) 127 = ((n.val % 128 : Nat) : Int) := by decide +kernel
theorem and127i (u : Int) : bits BinOp.and .u8 (u % 256) 127 = u % 128 := by
  have := and127_fin ⟨(u % 256).toNat, by omega⟩
  rw [show u % 256 = (((u % 256).toNat : Nat) : Int) from by omega]
  rw [this]; simp only; omega

theorem pow_len {u v k : Nat} (hv : v < 2 ^ 64) (h : u * 128 ^ k ≤ v) (hu : 1 ≤ u) : k ≤ 9 := by
  by_cases hk : k ≤ 9
  · exact hk
  exfalso
  have h1 : 128 ^ 10 ≤ 128 ^ k := Nat.pow_le_pow_right (by decide) (by omega)
  have h2 : 128 ^ k ≤ u * 128 ^ k := Nat.le_mul_of_pos_left _ hu
  have h3 : 2 ^ 64 < 128 ^ 10 := by decide
  omega

theorem pow_step {u v k : Nat} (h : u * 128 ^ k ≤ v) : u / 128 * 128 ^ (k + 1) ≤ v := by
  have : u / 128 * 128 ≤ u := Nat.div_mul_le_self u 128
  calc u / 128 * 128 ^ (k + 1) = (u / 128 * 128) * 128 ^ k := by rw [Nat.pow_succ, Nat.mul_comm (128 ^ k) 128, Nat.mul_assoc]
    _ ≤ u * 128 ^ k := Nat.mul_le_mul_right _ this
    _ ≤ v := h

/-- The rest of a number is smaller by the powers of 128. -/
theorem pow_lt {u v k : Nat} (hv : v < 2 ^ 64) (h : u * 128 ^ k ≤ v) (hk : k = 9) : u ≤ 1 := by
  subst hk
  have h3 : (128 : Nat) ^ 9 * 2 = 2 ^ 64 := by decide
  apply Nat.le_of_lt_succ
  apply Nat.lt_of_mul_lt_mul_right (a := 128 ^ 9)
  omega

set_option maxHeartbeats 400000 in
set_option maxRecDepth 100000 in
theorem uint_any (v : Nat) (hv : v < 2 ^ 64) (w : World) :
    Calls Try.prog 110 #[.int .u64 v] w fun e w' => ∃ s, e = .returned s ∧ w'.ownsRow w.heap.size 5 1 s (uL v).length ((uL v).map (Value.int .u8)) ∧ Below w.heap.size w w' := by
  have Hv := hid hv; clear hv
  go_enter Try.func110, Try.ntmps110
  go_wp2
  go_loopw [0, 3] (fun x s wr => ∃ (u : Nat) (l : List Int), x = .int .u64 u ∧ Hid (uL v = l ++ uL u) ∧ Hid (u * 128 ^ l.length ≤ v) ∧ l.length ≤ 9 ∧ wr.ownsRow w.heap.size 5 1 s l.length (l.map (Value.int .u8)) ∧ Below w.heap.size w wr) (fun x _ _ => (intOf x).toNat)
  case atStart => exact ⟨v, [], rfl, by simp [Hid], by simp [Hid], by simp, World.ownsRow_nil _ _ _ _, Below.refl _ _⟩
  case round =>
    obtain ⟨u, l, rfl, He, Hu, hlen, hown, hb⟩ := hrel
    have hsz := hb.size
    by_cases hlt : u < 128
    · go_wp2_with (at_builtin; refine wpList_push Try.underlying47 Try.info5 rfl (by decide) hown hsz (by omega) rfl rfl rfl rfl rfl ?_; intro v' w' hown' hb' hlt')
      go_ret
      have he := He.out
      rw [uL_low hlt] at he
      exact ⟨v', rfl, by rw [he]; simpa using hown', hb.trans hb'⟩
    · have hne : ¬ l.length = 9 := fun h => by have := pow_lt Hv.out Hu.out h; omega
      go_wp2_with (at_builtin; refine wpList_push Try.underlying47 Try.info5 rfl (by decide) hown hsz (by omega) rfl rfl rfl rfl rfl ?_; intro v' w' hown' hb' hlt')
      go_roundw
      case rel =>
        rw [or128] at hown'
        refine ⟨u / 128, l ++ [((u % 128 + 128 : Nat) : Int)], by simp, ?_, ?_, by simp; omega, by simpa using hown', hb.trans hb'⟩
        · show _ = _
          rw [He.out, uL_high hlt]; simp
        · show _ ≤ _
          simpa using pow_step Hu.out
      case measure => simp [intOf]; omega

theorem spow_step {u : Int} {k : Nat} {v : Nat} (h : u.natAbs * 128 ^ k ≤ v) (hu : ¬ (-64 ≤ u ∧ u ≤ 63)) : ((u / 128).natAbs) * 128 ^ (k + 1) ≤ v + 127 * 128 ^ k := by
  have h1 : (u / 128).natAbs * 128 ≤ u.natAbs + 127 := by omega
  have e : (u / 128).natAbs * 128 ^ (k + 1) = ((u / 128).natAbs * 128) * 128 ^ k := by rw [Nat.pow_succ, Nat.mul_comm (128 ^ k) 128, Nat.mul_assoc]
  rw [e]
  calc _ ≤ (u.natAbs + 127) * 128 ^ k := Nat.mul_le_mul_right _ h1
    _ = u.natAbs * 128 ^ k + 127 * 128 ^ k := by rw [Nat.add_mul]
    _ ≤ _ := by omega

/-- The rest is the number shifted. -/
theorem div_div (v : Int) (k : Nat) : v / 128 ^ k / 128 = v / 128 ^ (k + 1) := by
  rw [Int.ediv_ediv_of_nonneg (Int.pow_nonneg (by decide)), Int.pow_succ]

theorem sdiv_small {v : Int} (h1 : -(2 ^ 63) ≤ v) (h2 : v < 2 ^ 63) : -64 ≤ v / 128 ^ 9 ∧ v / 128 ^ 9 ≤ 63 := by
  have : (128 : Int) ^ 9 = 9223372036854775808 := by decide
  rw [this]
  have : (2 : Int) ^ 63 = 9223372036854775808 := by decide
  omega

def rightB (n : Int) : Bool := decide (1 ≤ n) && decide (n ≤ 64)

set_option maxRecDepth 100000 in
theorem right_any (n : Int) (w : World) : Calls Try.prog 170 #[.int .i64 n] w fun e w' => e = .returned (.bool (rightB n)) ∧ w = w' := by
  by_cases h1 : 1 ≤ n
  · by_cases h2 : n ≤ 64
    all_goals
      go_enter Try.func170, Try.ntmps170
      go_wp2
      go_ret
      exact ⟨by simp [rightB, *], rfl⟩
  · have h1' : n < 1 := by omega
    have h0 : n ≤ 0 := by omega
    go_enter Try.func170, Try.ntmps170
    go_wp2
    go_ret
    exact ⟨by simp [rightB]; omega, rfl⟩

def mostN (n : Int) : Int := if rightB n then (n + 6) / 7 else 0

set_option maxRecDepth 100000 in
theorem most_any (n : Int) (w : World) : Calls Try.prog 171 #[.int .i64 n] w fun e w' => e = .returned (.int .i64 (mostN n)) ∧ w = w' := by
  cases hr : rightB n with
  | true =>
    have hb : 1 ≤ n ∧ n ≤ 64 := by simpa [rightB] using hr
    obtain ⟨b1, b2⟩ := hb
    have hm : mostN n = (n + 6) / 7 := by simp [mostN, hr]
    have Hr := hid hr; clear hr
    have Hm := hid hm; clear hm
    go_enter Try.func171, Try.ntmps171
    go_wp2_with fail
    refine (right_any n _).mono ?_
    rintro e w' ⟨rfl, rfl⟩
    rw [Hr.out]
    go_wp2
    go_ret
    exact ⟨by rw [Hm.out]; rfl, rfl⟩
  | false =>
    have hm : mostN n = 0 := by simp [mostN, hr]
    have Hr := hid hr; clear hr
    have Hm := hid hm; clear hm
    go_enter Try.func171, Try.ntmps171
    go_wp2_with fail
    refine (right_any n _).mono ?_
    rintro e w' ⟨rfl, rfl⟩
    rw [Hr.out]
    go_wp2
    go_ret
    exact ⟨by rw [Hm.out]; rfl, rfl⟩
end Go.Proofs.Ytcmdajkkdognfaa
