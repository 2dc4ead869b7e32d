/- What is proved here: division and rotation, of the law AluLaws. -/
import Derived.Test.YtahgkfekggkjnaaDoorAlA
namespace Go.Proofs.YtahgkfekggkjnaaDoor
open Go.RowKit
set_option linter.unusedVariables false
set_option linter.unusedSimpArgs false

theorem wrap_u32_def (n : Int) : IntKind.u32.wrap n = n % 4294967296 := by
  unfold IntKind.wrap; simp [IntKind.bits, IntKind.signed]

theorem bits_or32 (A B : Nat) (hA : A < 2 ^ 32) (hB : B < 2 ^ 32) : bits .or .u32 A B = ((A ||| B : Nat) : Int) := by
  have h : (BitVec.ofInt 32 (A : Int) ||| BitVec.ofInt 32 (B : Int)).toNat = A ||| B := by
    rw [BitVec.toNat_or, BitVec.ofInt_natCast, BitVec.ofInt_natCast, BitVec.toNat_ofNat, BitVec.toNat_ofNat, Nat.mod_eq_of_lt hA, Nat.mod_eq_of_lt hB]
  show IntKind.u32.wrap ((BitVec.ofInt 32 (A : Int) ||| BitVec.ofInt 32 (B : Int)).toNat : Int) = _
  rw [h, wrap_u32_def]
  have := Nat.or_lt_two_pow hA hB
  omega

theorem bits_xor32 (A B : Nat) (hA : A < 2 ^ 32) (hB : B < 2 ^ 32) : bits .xor .u32 A B = ((A ^^^ B : Nat) : Int) := by
  have h : (BitVec.ofInt 32 (A : Int) ^^^ BitVec.ofInt 32 (B : Int)).toNat = A ^^^ B := by
    rw [BitVec.toNat_xor, BitVec.ofInt_natCast, BitVec.ofInt_natCast, BitVec.toNat_ofNat, BitVec.toNat_ofNat, Nat.mod_eq_of_lt hA, Nat.mod_eq_of_lt hB]
  show IntKind.u32.wrap ((BitVec.ofInt 32 (A : Int) ^^^ BitVec.ofInt 32 (B : Int)).toNat : Int) = _
  rw [h, wrap_u32_def]
  have := Nat.xor_lt_two_pow hA hB
  omega

theorem and31_32 (A : Nat) (hA : A < 2 ^ 32) : bits .and .u32 A 31 = ((A % 32 : Nat) : Int) := by
  have h : (BitVec.ofInt 32 (A : Int) &&& BitVec.ofInt 32 31).toNat = A % 32 := by
    rw [BitVec.toNat_and, BitVec.ofInt_natCast, BitVec.toNat_ofNat, Nat.mod_eq_of_lt hA]
    exact Nat.and_two_pow_sub_one_eq_mod A 5
  show IntKind.u32.wrap ((BitVec.ofInt 32 (A : Int) &&& BitVec.ofInt 32 31).toNat : Int) = _
  rw [h, wrap_u32_def]
  omega

theorem and31_64 (A : Nat) (hA : A < 2 ^ 64) : bits .and .u64 A 31 = ((A % 32 : Nat) : Int) := by
  have h : (BitVec.ofInt 64 (A : Int) &&& BitVec.ofInt 64 31).toNat = A % 32 := by
    rw [BitVec.toNat_and, BitVec.ofInt_natCast, BitVec.toNat_ofNat, Nat.mod_eq_of_lt hA]
    exact Nat.and_two_pow_sub_one_eq_mod A 5
  show IntKind.u64.wrap ((BitVec.ofInt 64 (A : Int) &&& BitVec.ofInt 64 31).toNat : Int) = _
  rw [h, wrap_u64_def]
  omega

/-- Rotated to the left. -/
def rotN (x s : Nat) : Nat := (x % 2 ^ (32 - s)) * 2 ^ s + x / 2 ^ (32 - s)

theorem rotN_lt (x s : Nat) (hx : x < 2 ^ 32) (hs : s < 32) : rotN x s < 2 ^ 32 := by
  unfold rotN
  have h1 : 2 ^ (32 - s) * 2 ^ s = 2 ^ 32 := by rw [← Nat.pow_add]; congr 1; omega
  have h2 : x / 2 ^ (32 - s) < 2 ^ s := by
    rw [Nat.div_lt_iff_lt_mul (Nat.two_pow_pos _), Nat.mul_comm, h1]; exact hx
  have h3 : x % 2 ^ (32 - s) + 1 ≤ 2 ^ (32 - s) := Nat.mod_lt _ (Nat.two_pow_pos _)
  have h4 := Nat.mul_le_mul_right (2 ^ s) h3
  rw [h1, Nat.add_mul, Nat.one_mul] at h4
  omega

theorem rotF_eq (x s : Nat) (hx : x < 2 ^ 32) (hs : s < 32) : bits .or .u32 ((x : Int) * 2 ^ s % 4294967296) ((x : Int) / 2 ^ (32 - s)) = (rotN x s : Nat) := by
  have h1 : 2 ^ (32 - s) * 2 ^ s = 2 ^ 32 := by rw [← Nat.pow_add]; congr 1; omega
  have h2 : x / 2 ^ (32 - s) < 2 ^ s := by
    rw [Nat.div_lt_iff_lt_mul (Nat.two_pow_pos _), Nat.mul_comm, h1]; exact hx
  have e1 : (x : Int) * 2 ^ s % 4294967296 = ((2 ^ s * (x % 2 ^ (32 - s)) : Nat) : Int) := by
    have : x * 2 ^ s % 2 ^ 32 = 2 ^ s * (x % 2 ^ (32 - s)) := by
      rw [← h1, Nat.mul_mod_mul_right, Nat.mul_comm]
    have hp : ((2 : Int) ^ s) = ((2 ^ s : Nat) : Int) := by push_cast; rfl
    rw [hp, ← this]
    generalize 2 ^ s = P
    rw [← Int.natCast_mul]
    omega
  have e2 : (x : Int) / 2 ^ (32 - s) = ((x / 2 ^ (32 - s) : Nat) : Int) := by push_cast; rfl
  have h3 : x % 2 ^ (32 - s) + 1 ≤ 2 ^ (32 - s) := Nat.mod_lt _ (Nat.two_pow_pos _)
  have h4 := Nat.mul_le_mul_left (2 ^ s) h3
  rw [Nat.mul_comm (2 ^ s) (2 ^ (32 - s)), h1, Nat.mul_add, Nat.mul_one] at h4
  have h5 := Nat.two_pow_pos s
  have h6 : x / 2 ^ (32 - s) ≤ x := Nat.div_le_self _ _
  rw [e1, e2, bits_or32 _ _ (by omega) (by omega), ← Nat.two_pow_add_eq_or_of_lt h2]
  unfold rotN
  rw [Nat.mul_comm]

theorem rotN_back (x s : Nat) (hx : x < 2 ^ 32) (hs : s < 32) : rotN (rotN x s) ((32 - s) % 32) = x := by
  by_cases h0 : s = 0
  · subst h0
    have e : rotN x 0 = x := by unfold rotN; rw [Nat.sub_zero, Nat.mod_eq_of_lt hx, Nat.div_eq_of_lt hx]; omega
    rw [show (32 - 0) % 32 = 0 from rfl, e, e]
  · have h1 : 2 ^ (32 - s) * 2 ^ s = 2 ^ 32 := by rw [← Nat.pow_add]; congr 1; omega
    have h2 : x / 2 ^ (32 - s) < 2 ^ s := by
      rw [Nat.div_lt_iff_lt_mul (Nat.two_pow_pos _), Nat.mul_comm, h1]; exact hx
    rw [Nat.mod_eq_of_lt (show 32 - s < 32 by omega)]
    have e : rotN x s = (x % 2 ^ (32 - s)) * 2 ^ s + x / 2 ^ (32 - s) := rfl
    unfold rotN
    rw [show 32 - (32 - s) = s by omega]
    rw [Nat.mul_comm _ (2 ^ s), Nat.mul_add_mod, Nat.mod_eq_of_lt h2, Nat.mul_add_div (Nat.two_pow_pos _), Nat.div_eq_of_lt h2]
    have := Nat.div_add_mod x (2 ^ (32 - s))
    rw [Nat.mul_comm] at this
    omega

set_option maxRecDepth 100000 in
theorem rotl_any (x s : Nat) (k : Int) (w : World) (hx : x < 2 ^ 32) (h1 : s < 32) (hk : bits .and .u64 (IntKind.u64.wrap k) 31 = (s : Int)) : Calls Tryd.prog 16 #[.int .u32 x, .int .i64 k] w fun e w' => e = .returned (.int .u32 (rotN x s : Nat)) ∧ w = w' := by
  have hw : IntKind.u64.wrap (32 - (s : Int)) = 32 - s := wrap_u64 (by omega) (by omega)
  have h0 : (0 : Int) ≤ s := by omega
  have h2 : (s : Int) < 32 := by omega
  have Hr := hid (rotF_eq x s hx h1)
  have Hx := hid hx; clear hx
  go_enter Tryd.func16, Tryd.ntmps16
  go_wp2
  go_ret
  refine ⟨?_, rfl⟩
  rw [← Hr.out]
  have e : (32 - (s : Int)).toNat = 32 - s := by omega
  simp [e]

/-- What the signed quotient and the signed rest come to. -/
def quoF (a b : Int) : Int × Int := if b = 0 then (0, 61) else if a = 2147483648 ∧ wrap32 b = -1 then (0, 62) else (wrap32 ((wrap32 a).tdiv (wrap32 b)) % 4294967296, 0)
def remF (a b : Int) : Int × Int := if b = 0 then (0, 61) else if a = 2147483648 ∧ wrap32 b = -1 then (0, 0) else ((wrap32 a).tmod (wrap32 b) % 4294967296, 0)

set_option maxRecDepth 100000 in
theorem div_109 (a b : Int) (w : World) (hb0 : 0 ≤ b) (hb1 : b < 4294967296) : Calls Tryd.prog 15 #[.int .u8 109, .int .u32 a, .int .u32 b] w fun e w' => e = .returned (.tuple #[.int .u32 (quoF a b).1, .int .i64 (quoF a b).2]) ∧ w = w' := by
  unfold quoF
  by_cases hb : b = 0
  · subst hb
    rw [if_pos rfl]
    go_enter Tryd.func15, Tryd.ntmps15
    go_wp2
    go_ret2
    exact ⟨rfl, rfl⟩
  · rw [if_neg hb]
    have t1 : (b == 0) = false := by simp [hb]
    have hwb : wrap32 b ≠ 0 := by unfold wrap32; omega
    clear hb0 hb1
    by_cases ho : a = 2147483648 ∧ wrap32 b = -1
    · rw [if_pos ho]
      obtain ⟨rfl, ho⟩ := ho
      have t2 : (wrap32 b == -1) = true := by simp [ho]
      have Ho := hid ho; clear ho hb hwb
      go_enter Tryd.func15, Tryd.ntmps15
      go_wp2
      go_ret2
      exact ⟨rfl, rfl⟩
    · rw [if_neg ho]
      have Hb := hid hb; clear hb
      have Ho := hid ho; clear ho
      go_enter Tryd.func15, Tryd.ntmps15
      go_wp2
      all_goals
        first
        | (go_ret2
           subst_vars
           exact ⟨rfl, rfl⟩)
        | (exfalso; have := Ho.out; simp_all; done)

set_option maxRecDepth 100000 in
theorem cmp_109 (a b : Int) (w : World) : Calls Tryd.prog 14 #[.int .u8 109, .int .u32 a, .int .u32 b] w fun e w' => e = .returned (.tuple #[.int .u32 0, .bool false]) ∧ w = w' := by
  go_enter Tryd.func14, Tryd.ntmps14
  go_wp2
  go_ret2
  exact ⟨rfl, rfl⟩

set_option maxRecDepth 100000 in
theorem two_109 (a b : Int) (w : World) (hb0 : 0 ≤ b) (hb1 : b < 4294967296) : Calls Tryd.prog 7 #[.int .u8 109, .int .u32 a, .int .u32 b] w fun e w' => e = .returned (.tuple #[.int .u32 (quoF a b).1, .int .i64 (quoF a b).2]) ∧ w = w' := by
  have Hd := hid (fun w => div_109 a b w hb0 hb1)
  clear hb0 hb1
  go_enter Tryd.func7, Tryd.ntmps7
  go_wp2_with fail
  refine (cmp_109 a b _).mono ?_
  rintro e w' ⟨rfl, rfl⟩
  go_wp2_with fail
  refine (Hd.out _).mono ?_
  rintro e w' ⟨rfl, rfl⟩
  go_wp2
  go_ret2
  exact ⟨rfl, rfl⟩

set_option maxRecDepth 100000 in
theorem div_111 (a b : Int) (w : World) (hb0 : 0 ≤ b) (hb1 : b < 4294967296) : Calls Tryd.prog 15 #[.int .u8 111, .int .u32 a, .int .u32 b] w fun e w' => e = .returned (.tuple #[.int .u32 (remF a b).1, .int .i64 (remF a b).2]) ∧ w = w' := by
  unfold remF
  by_cases hb : b = 0
  · subst hb
    rw [if_pos rfl]
    go_enter Tryd.func15, Tryd.ntmps15
    go_wp2
    go_ret2
    exact ⟨rfl, rfl⟩
  · rw [if_neg hb]
    have t1 : (b == 0) = false := by simp [hb]
    have hwb : wrap32 b ≠ 0 := by unfold wrap32; omega
    clear hb0 hb1
    by_cases ho : a = 2147483648 ∧ wrap32 b = -1
    · rw [if_pos ho]
      obtain ⟨rfl, ho⟩ := ho
      have t2 : (wrap32 b == -1) = true := by simp [ho]
      have Ho := hid ho; clear ho hb hwb
      go_enter Tryd.func15, Tryd.ntmps15
      go_wp2
      go_ret2
      exact ⟨rfl, rfl⟩
    · rw [if_neg ho]
      have Hb := hid hb; clear hb
      have Ho := hid ho; clear ho
      go_enter Tryd.func15, Tryd.ntmps15
      go_wp2
      all_goals
        first
        | (go_ret2
           subst_vars
           exact ⟨rfl, rfl⟩)
        | (exfalso; have := Ho.out; simp_all; done)

set_option maxRecDepth 100000 in
theorem cmp_111 (a b : Int) (w : World) : Calls Tryd.prog 14 #[.int .u8 111, .int .u32 a, .int .u32 b] w fun e w' => e = .returned (.tuple #[.int .u32 0, .bool false]) ∧ w = w' := by
  go_enter Tryd.func14, Tryd.ntmps14
  go_wp2
  go_ret2
  exact ⟨rfl, rfl⟩

set_option maxRecDepth 100000 in
theorem two_111 (a b : Int) (w : World) (hb0 : 0 ≤ b) (hb1 : b < 4294967296) : Calls Tryd.prog 7 #[.int .u8 111, .int .u32 a, .int .u32 b] w fun e w' => e = .returned (.tuple #[.int .u32 (remF a b).1, .int .i64 (remF a b).2]) ∧ w = w' := by
  have Hd := hid (fun w => div_111 a b w hb0 hb1)
  clear hb0 hb1
  go_enter Tryd.func7, Tryd.ntmps7
  go_wp2_with fail
  refine (cmp_111 a b _).mono ?_
  rintro e w' ⟨rfl, rfl⟩
  go_wp2_with fail
  refine (Hd.out _).mono ?_
  rintro e w' ⟨rfl, rfl⟩
  go_wp2
  go_ret2
  exact ⟨rfl, rfl⟩

set_option maxRecDepth 100000 in
theorem cmp_119 (a b : Int) (w : World) : Calls Tryd.prog 14 #[.int .u8 119, .int .u32 a, .int .u32 b] w fun e w' => e = .returned (.tuple #[.int .u32 0, .bool false]) ∧ w = w' := by
  go_enter Tryd.func14, Tryd.ntmps14
  go_wp2
  go_ret2
  exact ⟨rfl, rfl⟩

theorem rk_119 (b : Nat) : bits .and .u64 (IntKind.u64.wrap ((b % 32 : Nat) : Int)) 31 = ((b % 32 : Nat) : Int) := by
  have e : IntKind.u64.wrap ((b % 32 : Nat) : Int) = (((IntKind.u64.wrap ((b % 32 : Nat) : Int)).toNat : Nat) : Int) := by rw [wrap_u64_def]; omega
  rw [e, and31_64 _ (by rw [wrap_u64_def]; omega)]
  congr 1
  rw [wrap_u64_def]
  omega

set_option maxRecDepth 100000 in
theorem two_119 (a b : Nat) (w : World) (ha : a < 2 ^ 32) (hb : b < 2 ^ 32) : Calls Tryd.prog 7 #[.int .u8 119, .int .u32 a, .int .u32 b] w fun e w' => e = .returned (.tuple #[.int .u32 (rotN a (b % 32) : Nat), .int .i64 0]) ∧ w = w' := by
  have hm := and31_32 b hb
  have Hr := hid (fun w => rotl_any a (b % 32) ((b % 32 : Nat) : Int) w ha (by omega) (rk_119 b))
  have hw2 : IntKind.i64.wrap (-((b % 32 : Nat) : Int)) = -((b % 32 : Nat) : Int) := by rw [wrap_i64_def]; omega
  clear ha hb
  have h31 : b % 32 < 32 := by omega
  generalize b % 32 = m at *
  go_enter Tryd.func7, Tryd.ntmps7
  go_wp2_with fail
  refine (cmp_119 a b _).mono ?_
  rintro e w' ⟨rfl, rfl⟩
  go_wp2_with fail
  refine (Hr.out _).mono ?_
  rintro e w' ⟨rfl, rfl⟩
  go_wp2
  go_ret2
  exact ⟨rfl, rfl⟩

set_option maxRecDepth 100000 in
theorem cmp_120 (a b : Int) (w : World) : Calls Tryd.prog 14 #[.int .u8 120, .int .u32 a, .int .u32 b] w fun e w' => e = .returned (.tuple #[.int .u32 0, .bool false]) ∧ w = w' := by
  go_enter Tryd.func14, Tryd.ntmps14
  go_wp2
  go_ret2
  exact ⟨rfl, rfl⟩

theorem rk_120 (b : Nat) : bits .and .u64 (IntKind.u64.wrap (-((b % 32 : Nat) : Int))) 31 = (((32 - b % 32) % 32 : Nat) : Int) := by
  have e : IntKind.u64.wrap (-((b % 32 : Nat) : Int)) = (((IntKind.u64.wrap (-((b % 32 : Nat) : Int))).toNat : Nat) : Int) := by rw [wrap_u64_def]; omega
  rw [e, and31_64 _ (by rw [wrap_u64_def]; omega)]
  congr 1
  rw [wrap_u64_def]
  omega

set_option maxRecDepth 100000 in
theorem two_120 (a b : Nat) (w : World) (ha : a < 2 ^ 32) (hb : b < 2 ^ 32) : Calls Tryd.prog 7 #[.int .u8 120, .int .u32 a, .int .u32 b] w fun e w' => e = .returned (.tuple #[.int .u32 (rotN a ((32 - b % 32) % 32) : Nat), .int .i64 0]) ∧ w = w' := by
  have hm := and31_32 b hb
  have Hr := hid (fun w => rotl_any a ((32 - b % 32) % 32) (-((b % 32 : Nat) : Int)) w ha (by omega) (rk_120 b))
  have hw2 : IntKind.i64.wrap (-((b % 32 : Nat) : Int)) = -((b % 32 : Nat) : Int) := by rw [wrap_i64_def]; omega
  clear ha hb
  have h31 : b % 32 < 32 := by omega
  generalize b % 32 = m at *
  go_enter Tryd.func7, Tryd.ntmps7
  go_wp2_with fail
  refine (cmp_120 a b _).mono ?_
  rintro e w' ⟨rfl, rfl⟩
  go_wp2_with fail
  refine (Hr.out _).mono ?_
  rintro e w' ⟨rfl, rfl⟩
  go_wp2
  go_ret2
  exact ⟨rfl, rfl⟩
end Go.Proofs.YtahgkfekggkjnaaDoor
