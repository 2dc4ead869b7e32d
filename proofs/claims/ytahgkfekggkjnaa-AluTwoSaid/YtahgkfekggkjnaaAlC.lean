/- What is proved here: the law AluLaws, walked. -/
import Derived.Test.YtahgkfekggkjnaaAlB
namespace Go.Proofs.Ytahgkfekggkjnaa
open Go.RowKit
set_option linter.unusedVariables false
set_option linter.unusedSimpArgs false

theorem enter59 (args : Array Value) (w : World) : (callFunc 59 args).run Try.prog w = .ok (.enter 59 args) w := by
  have hne : Try.f59.name ≠ "runtime.NumGoroutine" := by
    have : (Try.f59.name == "runtime.NumGoroutine") = false := by kernel_rfl
    simpa using this
  have hb : Try.f59.body.isSome = true := by kernel_rfl
  obtain ⟨c, hc⟩ := Option.isSome_iff_exists.1 hb
  simp [callFunc, Try.func59, hne, hc]

set_option maxRecDepth 100000 in
theorem in59 (op : Int) (a b v c : Int) (w : World) (h : Calls Try.prog 57 #[.int .u8 op, .int .u32 a, .int .u32 b] w fun e w' => e = .returned (.tuple #[.int .u32 v, .int .i64 c]) ∧ w = w') :
    Calls Try.prog 59 #[.int .u8 op, .int .u32 a, .int .u32 b] w fun e w' => e = .returned (.int .u32 v) ∧ w = w' := by
  have H := hid h; clear h
  go_enter Try.func59, Try.ntmps59
  go_wp2_with fail
  refine H.out.mono ?_
  rintro e w' ⟨rfl, rfl⟩
  go_wp2
  go_ret
  exact ⟨rfl, rfl⟩

set_option maxRecDepth 100000 in
theorem awake18_any (w : World) : Calls Try.prog 56 #[] w fun e w' => e = .returned (.bool true) ∧ w = w' := by
  go_enter Try.func56, Try.ntmps56
  go_wp2_with fail
  refine (two_109 4294967289 2 _ (by decide) (by decide)).mono ?_
  rintro e w' ⟨rfl, rfl⟩
  rw [show quoF 4294967289 2 = (4294967293, 0) from by decide +kernel]
  go_wp2_with fail
  refine (two_111 4294967289 2 _ (by decide) (by decide)).mono ?_
  rintro e w' ⟨rfl, rfl⟩
  rw [show remF 4294967289 2 = (4294967295, 0) from by decide +kernel]
  go_wp2
  go_ret
  exact ⟨rfl, rfl⟩

theorem sub_back (a b : Int) (h0 : 0 ≤ a) (h1 : a < 4294967296) : IntKind.u32.wrap (IntKind.u32.wrap (a + b) - b) = a := by
  rw [wrap_u32_def, wrap_u32_def]; omega

theorem xor_back (a b : Nat) (ha : a < 2 ^ 32) (hb : b < 2 ^ 32) : bits .xor .u32 (bits .xor .u32 a b) b = a := by
  rw [bits_xor32 a b ha hb, bits_xor32 _ b (Nat.xor_lt_two_pow ha hb) hb, Nat.xor_assoc, Nat.xor_self, Nat.xor_zero]

theorem quo_back (a b : Int) (h0 : 0 ≤ a) (h1 : a < 4294967296) (hb0 : 0 ≤ b) (hb1 : b < 4294967296) (hb : b ≠ 0) (ho : ¬ (a = 2147483648 ∧ wrap32 b = -1)) :
    IntKind.u32.wrap (IntKind.u32.wrap ((quoF a b).1 * b) + (remF a b).1) = a := by
  have e1 : (quoF a b).1 = wrap32 ((wrap32 a).tdiv (wrap32 b)) % 4294967296 := by unfold quoF; rw [if_neg hb, if_neg ho]
  have e2 : (remF a b).1 = (wrap32 a).tmod (wrap32 b) % 4294967296 := by unfold remF; rw [if_neg hb, if_neg ho]
  rw [e1, e2, wrap_u32_def, wrap_u32_def]
  have hx : ∃ k, a = wrap32 a + 4294967296 * k := ⟨(a - wrap32 a) / 4294967296, by unfold wrap32; omega⟩
  have hy : ∃ k, b = wrap32 b + 4294967296 * k := ⟨(b - wrap32 b) / 4294967296, by unfold wrap32; omega⟩
  have hd := Int.mul_tdiv_add_tmod (wrap32 a) (wrap32 b)
  generalize (wrap32 a).tmod (wrap32 b) = r at *
  generalize hq : (wrap32 a).tdiv (wrap32 b) = q at *
  have hqk : ∃ k, wrap32 q % 4294967296 = q + 4294967296 * k := ⟨(wrap32 q % 4294967296 - q) / 4294967296, by unfold wrap32; omega⟩
  obtain ⟨k3, hk3⟩ := hqk
  obtain ⟨k1, hk1⟩ := hx
  obtain ⟨k2, hk2⟩ := hy
  rw [hk3]
  generalize wrap32 b = y at *
  generalize wrap32 a = x at *
  have hm : (q + 4294967296 * k3) * b = y * q + 4294967296 * (k2 * q + k3 * b) := by
    rw [hk2]; simp only [Int.add_mul, Int.mul_add, Int.mul_assoc, Int.mul_comm, Int.mul_left_comm]; omega
  rw [hm]
  generalize k2 * q + k3 * b = z
  omega

theorem quo_cases (a b : Int) : (b = 0 ∧ quoF a b = (0, 61) ∧ remF a b = (0, 61)) ∨ (b ≠ 0 ∧ (a = 2147483648 ∧ wrap32 b = -1) ∧ quoF a b = (0, 62) ∧ remF a b = (0, 0)) ∨ (b ≠ 0 ∧ ¬ (a = 2147483648 ∧ wrap32 b = -1) ∧ (quoF a b).2 = 0 ∧ (remF a b).2 = 0) := by
  unfold quoF remF
  by_cases hb : b = 0
  · simp [hb]
  · by_cases ho : a = 2147483648 ∧ wrap32 b = -1
    · simp [hb, ho]
    · simp [hb, ho]

set_option maxHeartbeats 1000000 in
set_option maxRecDepth 100000 in
theorem laws_core (a b : Nat) (w : World) (ha : a < 2 ^ 32) (hb : b < 2 ^ 32) (x72 x74 x70 x73 x79 : Int)
    (c72 : Hid (Calls Try.prog 57 #[.int .u8 72, .int .u32 a, .int .u32 b] w fun e w' => e = .returned (.tuple #[.int .u32 x72, .int .i64 0]) ∧ w = w')) (c74 : Hid (Calls Try.prog 57 #[.int .u8 74, .int .u32 a, .int .u32 b] w fun e w' => e = .returned (.tuple #[.int .u32 x74, .int .i64 0]) ∧ w = w')) (c70 : Hid (Calls Try.prog 57 #[.int .u8 70, .int .u32 a, .int .u32 b] w fun e w' => e = .returned (.tuple #[.int .u32 x70, .int .i64 0]) ∧ w = w')) (c73 : Hid (Calls Try.prog 57 #[.int .u8 73, .int .u32 a, .int .u32 b] w fun e w' => e = .returned (.tuple #[.int .u32 x73, .int .i64 0]) ∧ w = w')) (c79 : Hid (Calls Try.prog 57 #[.int .u8 79, .int .u32 a, .int .u32 b] w fun e w' => e = .returned (.tuple #[.int .u32 x79, .int .i64 0]) ∧ w = w'))
    (hs : (x72 + x74 + x70) % 4294967296 = 1) (hu : (x73 + x79) % 4294967296 = 1) :
    Calls Try.prog 15 #[.int .u32 a, .int .u32 b] w fun e w' => e = .returned (.bool true) ∧ w = w' := by
  have hs2 : IntKind.u32.wrap (IntKind.u32.wrap (x72 + x74) + x70) = 1 := by rw [wrap_u32_def, wrap_u32_def]; omega
  have hu2 : IntKind.u32.wrap (x73 + x79) = 1 := by rw [wrap_u32_def]; omega
  have hin := enter59
  have Ha := hid ha
  have Hb := hid hb
  have h1 := hid (sub_back a b (by omega) (by omega))
  have h2 := hid (xor_back a b ha hb)
  have h3 := hid (rotN_back a (b % 32) ha (by omega))
  have c120 := hid (two_120 (rotN a (b % 32)) b w (rotN_lt a (b % 32) ha (by omega)) hb)
  have c119 := hid (two_119 a b w ha hb)
  have c109 := hid (two_109 a b w (by omega) (by omega))
  have c111 := hid (two_111 a b w (by omega) (by omega))
  have hqb := hid (quo_back a b (by omega) (by omega) (by omega) (by omega))
  have hqc := hid (quo_cases a b)
  clear ha hb
  go_enter Try.func15, Try.ntmps15
  go_wp2_with fail
  refine (awake18_any _).mono ?_
  rintro e w' ⟨rfl, rfl⟩
  go_wp2_with fail
  refine (in59 106 a b _ _ w (two_106 a b w)).mono ?_
  rintro e w' ⟨rfl, rfl⟩
  go_wp2_with fail
  refine (in59 107 (IntKind.u32.wrap ((a : Int) + b)) b _ _ w (two_107 (IntKind.u32.wrap ((a : Int) + b)) b w)).mono ?_
  rintro e w' ⟨rfl, rfl⟩
  rw [h1.out]
  go_wp2_with fail
  refine (in59 119 a b _ _ w c119.out).mono ?_
  rintro e w' ⟨rfl, rfl⟩
  go_wp2_with fail
  refine (in59 120 _ b _ _ w c120.out).mono ?_
  rintro e w' ⟨rfl, rfl⟩
  rw [h3.out]
  go_wp2_with fail
  refine (in59 115 a b _ _ w (two_115 a b w)).mono ?_
  rintro e w' ⟨rfl, rfl⟩
  go_wp2_with fail
  refine (in59 115 (bits .xor .u32 a b) b _ _ w (two_115 (bits .xor .u32 a b) b w)).mono ?_
  rintro e w' ⟨rfl, rfl⟩
  rw [h2.out]
  go_wp2_with fail
  refine (in59 72 a b _ _ w c72.out).mono ?_
  rintro e w' ⟨rfl, rfl⟩
  go_wp2_with fail
  refine (in59 74 a b _ _ w c74.out).mono ?_
  rintro e w' ⟨rfl, rfl⟩
  go_wp2_with fail
  refine (in59 70 a b _ _ w c70.out).mono ?_
  rintro e w' ⟨rfl, rfl⟩
  go_wp2_with fail
  refine (in59 73 a b _ _ w c73.out).mono ?_
  rintro e w' ⟨rfl, rfl⟩
  go_wp2_with fail
  refine (in59 79 a b _ _ w c79.out).mono ?_
  rintro e w' ⟨rfl, rfl⟩
  go_wp2_with fail
  refine c109.out.mono ?_
  rintro e w' ⟨rfl, rfl⟩
  go_wp2_with fail
  refine c111.out.mono ?_
  rintro e w' ⟨rfl, rfl⟩
  rcases hqc.out with ⟨k1, k2, k3⟩ | ⟨k1, ⟨k2, k3⟩, k4, k5⟩ | ⟨k1, k2, k3, k4⟩
  · rw [k2, k3]
    have t1 : ((b : Int) == 0) = true := by simp [k1]
    clear k1 k2 k3
    go_wp2
    go_ret
    exact ⟨rfl, rfl⟩
  · rw [k4, k5]
    have t1 : ((b : Int) == 0) = false := by simpa using k1
    have t2 : ((a : Int) == 2147483648) = true := by simpa using k2
    have t3 : ((b : Int) + 1) % 4294967296 = 0 := by
      have := Hb.out
      unfold wrap32 at k3
      omega
    clear k1 k2 k3 k4 k5
    go_wp2
    go_ret
    exact ⟨rfl, rfl⟩
  · have hq := hqb.out k1 k2
    rw [k3, k4]
    have t1 : ((b : Int) == 0) = false := by simpa using k1
    generalize (quoF a b).1 = q at hq ⊢
    generalize (remF a b).1 = r at hq ⊢
    have Hq := hid hq
    clear k1 k2 k3 k4 hq
    go_wp2_with fail
    refine (in59 108 q b _ _ w (two_108 q b w)).mono ?_
    rintro e w' ⟨rfl, rfl⟩
    go_wp2_with fail
    refine (in59 106 _ r _ _ w (two_106 _ r w)).mono ?_
    rintro e w' ⟨rfl, rfl⟩
    rw [show IntKind.u32.wrap (q * (b : Int) % 4294967296 + r) = a from by have := Hq.out; simp only [wrap_u32_def] at this ⊢; exact this]
    go_wp2
    go_ret
    exact ⟨rfl, rfl⟩

theorem laws_any (a b : Nat) (w : World) (ha : a < 2 ^ 32) (hb : b < 2 ^ 32) :
    Calls Try.prog 15 #[.int .u32 a, .int .u32 b] w fun e w' => e = .returned (.bool true) ∧ w = w' := by
  have hab : ((a : Int) = b) ↔ (wrap32 a = wrap32 b) := by unfold wrap32; omega
  refine laws_core a b w ha hb _ _ _ _ _ (hid (two_72 a b w)) (hid (two_74 a b w)) (hid (two_70 a b w)) (hid (two_73 a b w)) (hid (two_79 a b w)) ?_ ?_
  · rcases Int.lt_trichotomy (wrap32 a) (wrap32 b) with h | h | h
    · rw [if_pos h, if_neg (by omega), if_neg (by rw [hab]; omega)]; decide
    · rw [if_neg (by omega), if_neg (by omega), if_pos (by rw [hab]; omega)]; decide
    · rw [if_neg (by omega), if_pos (by omega), if_neg (by rw [hab]; omega)]; decide
  · by_cases h : (a : Int) < b
    · rw [if_pos h, if_neg (by omega)]; decide
    · rw [if_neg h, if_pos (by omega)]; decide
end Go.Proofs.Ytahgkfekggkjnaa
