/- What is proved here: what the binary operators come to, one by one. -/
import Derived.Test.YtahgkfekggkjnaaDoorKit
namespace Go.Proofs.YtahgkfekggkjnaaDoor
open Go.RowKit
set_option linter.unusedVariables false
set_option linter.unusedSimpArgs false

set_option maxRecDepth 100000 in
theorem truth_t (w : World) : Calls Tryd.prog 8 #[.bool true] w fun e w' => e = .returned (.int .u32 1) ∧ w = w' := by
  go_enter Tryd.func8, Tryd.ntmps8
  go_wp2
  go_ret
  exact ⟨rfl, rfl⟩

set_option maxRecDepth 100000 in
theorem truth_f (w : World) : Calls Tryd.prog 8 #[.bool false] w fun e w' => e = .returned (.int .u32 0) ∧ w = w' := by
  go_enter Tryd.func8, Tryd.ntmps8
  go_wp2
  go_ret
  exact ⟨rfl, rfl⟩


set_option maxRecDepth 100000 in
theorem cmp_70 (a b : Int) (w : World) : Calls Tryd.prog 14 #[.int .u8 70, .int .u32 a, .int .u32 b] w fun e w' => e = .returned (.tuple #[.int .u32 (if a = b then 1 else 0), .bool true]) ∧ w = w' := by
  by_cases hc : a = b
  · rw [if_pos hc]
    subst hc
    go_enter Tryd.func14, Tryd.ntmps14
    go_wp2_with fail
    refine (truth_t _).mono ?_
    rintro e w' ⟨rfl, rfl⟩
    go_wp2
    go_ret2
    exact ⟨rfl, rfl⟩
  · rw [if_neg hc]
    have t : (a == b) = false := by simpa using hc
    go_enter Tryd.func14, Tryd.ntmps14
    go_wp2_with fail
    refine (truth_f _).mono ?_
    rintro e w' ⟨rfl, rfl⟩
    go_wp2
    go_ret2
    exact ⟨rfl, rfl⟩

set_option maxRecDepth 100000 in
theorem two_70 (a b : Int) (w : World) : Calls Tryd.prog 7 #[.int .u8 70, .int .u32 a, .int .u32 b] w fun e w' => e = .returned (.tuple #[.int .u32 (if a = b then 1 else 0), .int .i64 0]) ∧ w = w' := by
  generalize hc : (if a = b then 1 else 0 : Int) = c
  have Hc := hid hc; clear hc
  go_enter Tryd.func7, Tryd.ntmps7
  go_wp2_with fail
  refine (cmp_70 a b _).mono ?_
  rintro e w' ⟨rfl, rfl⟩
  rw [Hc.out]
  go_wp2
  go_ret2
  exact ⟨rfl, rfl⟩

set_option maxRecDepth 100000 in
theorem cmp_71 (a b : Int) (w : World) : Calls Tryd.prog 14 #[.int .u8 71, .int .u32 a, .int .u32 b] w fun e w' => e = .returned (.tuple #[.int .u32 (if a ≠ b then 1 else 0), .bool true]) ∧ w = w' := by
  by_cases hc : a ≠ b
  · rw [if_pos hc]
    have t : (a != b) = true := by simpa using hc
    go_enter Tryd.func14, Tryd.ntmps14
    go_wp2_with fail
    refine (truth_t _).mono ?_
    rintro e w' ⟨rfl, rfl⟩
    go_wp2
    go_ret2
    exact ⟨rfl, rfl⟩
  · rw [if_neg hc]
    obtain rfl : a = b := by simpa using hc
    go_enter Tryd.func14, Tryd.ntmps14
    go_wp2_with fail
    refine (truth_f _).mono ?_
    rintro e w' ⟨rfl, rfl⟩
    go_wp2
    go_ret2
    exact ⟨rfl, rfl⟩

set_option maxRecDepth 100000 in
theorem two_71 (a b : Int) (w : World) : Calls Tryd.prog 7 #[.int .u8 71, .int .u32 a, .int .u32 b] w fun e w' => e = .returned (.tuple #[.int .u32 (if a ≠ b then 1 else 0), .int .i64 0]) ∧ w = w' := by
  generalize hc : (if a ≠ b then 1 else 0 : Int) = c
  have Hc := hid hc; clear hc
  go_enter Tryd.func7, Tryd.ntmps7
  go_wp2_with fail
  refine (cmp_71 a b _).mono ?_
  rintro e w' ⟨rfl, rfl⟩
  rw [Hc.out]
  go_wp2
  go_ret2
  exact ⟨rfl, rfl⟩

set_option maxRecDepth 100000 in
theorem cmp_72 (a b : Int) (w : World) : Calls Tryd.prog 14 #[.int .u8 72, .int .u32 a, .int .u32 b] w fun e w' => e = .returned (.tuple #[.int .u32 (if wrap32 a < wrap32 b then 1 else 0), .bool true]) ∧ w = w' := by
  by_cases hc : wrap32 a < wrap32 b
  · rw [if_pos hc]
    have t : decide (wrap32 a < wrap32 b) = true := by simpa using hc
    clear hc
    go_enter Tryd.func14, Tryd.ntmps14
    go_wp2_with fail
    refine (truth_t _).mono ?_
    rintro e w' ⟨rfl, rfl⟩
    go_wp2
    go_ret2
    exact ⟨rfl, rfl⟩
  · rw [if_neg hc]
    have t : decide (wrap32 a < wrap32 b) = false := by simp only [decide_eq_false_iff_not]; exact hc
    clear hc
    go_enter Tryd.func14, Tryd.ntmps14
    go_wp2_with fail
    refine (truth_f _).mono ?_
    rintro e w' ⟨rfl, rfl⟩
    go_wp2
    go_ret2
    exact ⟨rfl, rfl⟩

set_option maxRecDepth 100000 in
theorem two_72 (a b : Int) (w : World) : Calls Tryd.prog 7 #[.int .u8 72, .int .u32 a, .int .u32 b] w fun e w' => e = .returned (.tuple #[.int .u32 (if wrap32 a < wrap32 b then 1 else 0), .int .i64 0]) ∧ w = w' := by
  generalize hc : (if wrap32 a < wrap32 b then 1 else 0 : Int) = c
  have Hc := hid hc; clear hc
  go_enter Tryd.func7, Tryd.ntmps7
  go_wp2_with fail
  refine (cmp_72 a b _).mono ?_
  rintro e w' ⟨rfl, rfl⟩
  rw [Hc.out]
  go_wp2
  go_ret2
  exact ⟨rfl, rfl⟩

set_option maxRecDepth 100000 in
theorem cmp_73 (a b : Int) (w : World) : Calls Tryd.prog 14 #[.int .u8 73, .int .u32 a, .int .u32 b] w fun e w' => e = .returned (.tuple #[.int .u32 (if a < b then 1 else 0), .bool true]) ∧ w = w' := by
  by_cases hc : a < b
  · rw [if_pos hc]
    have t : decide (a < b) = true := by simpa using hc
    clear hc
    go_enter Tryd.func14, Tryd.ntmps14
    go_wp2_with fail
    refine (truth_t _).mono ?_
    rintro e w' ⟨rfl, rfl⟩
    go_wp2
    go_ret2
    exact ⟨rfl, rfl⟩
  · rw [if_neg hc]
    have t : decide (a < b) = false := by simp only [decide_eq_false_iff_not]; exact hc
    clear hc
    go_enter Tryd.func14, Tryd.ntmps14
    go_wp2_with fail
    refine (truth_f _).mono ?_
    rintro e w' ⟨rfl, rfl⟩
    go_wp2
    go_ret2
    exact ⟨rfl, rfl⟩

set_option maxRecDepth 100000 in
theorem two_73 (a b : Int) (w : World) : Calls Tryd.prog 7 #[.int .u8 73, .int .u32 a, .int .u32 b] w fun e w' => e = .returned (.tuple #[.int .u32 (if a < b then 1 else 0), .int .i64 0]) ∧ w = w' := by
  generalize hc : (if a < b then 1 else 0 : Int) = c
  have Hc := hid hc; clear hc
  go_enter Tryd.func7, Tryd.ntmps7
  go_wp2_with fail
  refine (cmp_73 a b _).mono ?_
  rintro e w' ⟨rfl, rfl⟩
  rw [Hc.out]
  go_wp2
  go_ret2
  exact ⟨rfl, rfl⟩

set_option maxRecDepth 100000 in
theorem cmp_74 (a b : Int) (w : World) : Calls Tryd.prog 14 #[.int .u8 74, .int .u32 a, .int .u32 b] w fun e w' => e = .returned (.tuple #[.int .u32 (if wrap32 a > wrap32 b then 1 else 0), .bool true]) ∧ w = w' := by
  by_cases hc : wrap32 a > wrap32 b
  · rw [if_pos hc]
    have t : decide (wrap32 a > wrap32 b) = true := by simpa using hc
    clear hc
    go_enter Tryd.func14, Tryd.ntmps14
    go_wp2_with fail
    refine (truth_t _).mono ?_
    rintro e w' ⟨rfl, rfl⟩
    go_wp2
    go_ret2
    exact ⟨rfl, rfl⟩
  · rw [if_neg hc]
    have t : decide (wrap32 a > wrap32 b) = false := by simp only [decide_eq_false_iff_not]; exact hc
    clear hc
    go_enter Tryd.func14, Tryd.ntmps14
    go_wp2_with fail
    refine (truth_f _).mono ?_
    rintro e w' ⟨rfl, rfl⟩
    go_wp2
    go_ret2
    exact ⟨rfl, rfl⟩

set_option maxRecDepth 100000 in
theorem two_74 (a b : Int) (w : World) : Calls Tryd.prog 7 #[.int .u8 74, .int .u32 a, .int .u32 b] w fun e w' => e = .returned (.tuple #[.int .u32 (if wrap32 a > wrap32 b then 1 else 0), .int .i64 0]) ∧ w = w' := by
  generalize hc : (if wrap32 a > wrap32 b then 1 else 0 : Int) = c
  have Hc := hid hc; clear hc
  go_enter Tryd.func7, Tryd.ntmps7
  go_wp2_with fail
  refine (cmp_74 a b _).mono ?_
  rintro e w' ⟨rfl, rfl⟩
  rw [Hc.out]
  go_wp2
  go_ret2
  exact ⟨rfl, rfl⟩

set_option maxRecDepth 100000 in
theorem cmp_75 (a b : Int) (w : World) : Calls Tryd.prog 14 #[.int .u8 75, .int .u32 a, .int .u32 b] w fun e w' => e = .returned (.tuple #[.int .u32 (if a > b then 1 else 0), .bool true]) ∧ w = w' := by
  by_cases hc : a > b
  · rw [if_pos hc]
    have t : decide (a > b) = true := by simpa using hc
    clear hc
    go_enter Tryd.func14, Tryd.ntmps14
    go_wp2_with fail
    refine (truth_t _).mono ?_
    rintro e w' ⟨rfl, rfl⟩
    go_wp2
    go_ret2
    exact ⟨rfl, rfl⟩
  · rw [if_neg hc]
    have t : decide (a > b) = false := by simp only [decide_eq_false_iff_not]; exact hc
    clear hc
    go_enter Tryd.func14, Tryd.ntmps14
    go_wp2_with fail
    refine (truth_f _).mono ?_
    rintro e w' ⟨rfl, rfl⟩
    go_wp2
    go_ret2
    exact ⟨rfl, rfl⟩

set_option maxRecDepth 100000 in
theorem two_75 (a b : Int) (w : World) : Calls Tryd.prog 7 #[.int .u8 75, .int .u32 a, .int .u32 b] w fun e w' => e = .returned (.tuple #[.int .u32 (if a > b then 1 else 0), .int .i64 0]) ∧ w = w' := by
  generalize hc : (if a > b then 1 else 0 : Int) = c
  have Hc := hid hc; clear hc
  go_enter Tryd.func7, Tryd.ntmps7
  go_wp2_with fail
  refine (cmp_75 a b _).mono ?_
  rintro e w' ⟨rfl, rfl⟩
  rw [Hc.out]
  go_wp2
  go_ret2
  exact ⟨rfl, rfl⟩

set_option maxRecDepth 100000 in
theorem cmp_76 (a b : Int) (w : World) : Calls Tryd.prog 14 #[.int .u8 76, .int .u32 a, .int .u32 b] w fun e w' => e = .returned (.tuple #[.int .u32 (if wrap32 a ≤ wrap32 b then 1 else 0), .bool true]) ∧ w = w' := by
  by_cases hc : wrap32 a ≤ wrap32 b
  · rw [if_pos hc]
    have t : decide (wrap32 a ≤ wrap32 b) = true := by simpa using hc
    clear hc
    go_enter Tryd.func14, Tryd.ntmps14
    go_wp2_with fail
    refine (truth_t _).mono ?_
    rintro e w' ⟨rfl, rfl⟩
    go_wp2
    go_ret2
    exact ⟨rfl, rfl⟩
  · rw [if_neg hc]
    have t : decide (wrap32 a ≤ wrap32 b) = false := by simp only [decide_eq_false_iff_not]; exact hc
    clear hc
    go_enter Tryd.func14, Tryd.ntmps14
    go_wp2_with fail
    refine (truth_f _).mono ?_
    rintro e w' ⟨rfl, rfl⟩
    go_wp2
    go_ret2
    exact ⟨rfl, rfl⟩

set_option maxRecDepth 100000 in
theorem two_76 (a b : Int) (w : World) : Calls Tryd.prog 7 #[.int .u8 76, .int .u32 a, .int .u32 b] w fun e w' => e = .returned (.tuple #[.int .u32 (if wrap32 a ≤ wrap32 b then 1 else 0), .int .i64 0]) ∧ w = w' := by
  generalize hc : (if wrap32 a ≤ wrap32 b then 1 else 0 : Int) = c
  have Hc := hid hc; clear hc
  go_enter Tryd.func7, Tryd.ntmps7
  go_wp2_with fail
  refine (cmp_76 a b _).mono ?_
  rintro e w' ⟨rfl, rfl⟩
  rw [Hc.out]
  go_wp2
  go_ret2
  exact ⟨rfl, rfl⟩

set_option maxRecDepth 100000 in
theorem cmp_77 (a b : Int) (w : World) : Calls Tryd.prog 14 #[.int .u8 77, .int .u32 a, .int .u32 b] w fun e w' => e = .returned (.tuple #[.int .u32 (if a ≤ b then 1 else 0), .bool true]) ∧ w = w' := by
  by_cases hc : a ≤ b
  · rw [if_pos hc]
    have t : decide (a ≤ b) = true := by simpa using hc
    clear hc
    go_enter Tryd.func14, Tryd.ntmps14
    go_wp2_with fail
    refine (truth_t _).mono ?_
    rintro e w' ⟨rfl, rfl⟩
    go_wp2
    go_ret2
    exact ⟨rfl, rfl⟩
  · rw [if_neg hc]
    have t : decide (a ≤ b) = false := by simp only [decide_eq_false_iff_not]; exact hc
    clear hc
    go_enter Tryd.func14, Tryd.ntmps14
    go_wp2_with fail
    refine (truth_f _).mono ?_
    rintro e w' ⟨rfl, rfl⟩
    go_wp2
    go_ret2
    exact ⟨rfl, rfl⟩

set_option maxRecDepth 100000 in
theorem two_77 (a b : Int) (w : World) : Calls Tryd.prog 7 #[.int .u8 77, .int .u32 a, .int .u32 b] w fun e w' => e = .returned (.tuple #[.int .u32 (if a ≤ b then 1 else 0), .int .i64 0]) ∧ w = w' := by
  generalize hc : (if a ≤ b then 1 else 0 : Int) = c
  have Hc := hid hc; clear hc
  go_enter Tryd.func7, Tryd.ntmps7
  go_wp2_with fail
  refine (cmp_77 a b _).mono ?_
  rintro e w' ⟨rfl, rfl⟩
  rw [Hc.out]
  go_wp2
  go_ret2
  exact ⟨rfl, rfl⟩

set_option maxRecDepth 100000 in
theorem cmp_78 (a b : Int) (w : World) : Calls Tryd.prog 14 #[.int .u8 78, .int .u32 a, .int .u32 b] w fun e w' => e = .returned (.tuple #[.int .u32 (if wrap32 a ≥ wrap32 b then 1 else 0), .bool true]) ∧ w = w' := by
  by_cases hc : wrap32 a ≥ wrap32 b
  · rw [if_pos hc]
    have t : decide (wrap32 a ≥ wrap32 b) = true := by simpa using hc
    clear hc
    go_enter Tryd.func14, Tryd.ntmps14
    go_wp2_with fail
    refine (truth_t _).mono ?_
    rintro e w' ⟨rfl, rfl⟩
    go_wp2
    go_ret2
    exact ⟨rfl, rfl⟩
  · rw [if_neg hc]
    have t : decide (wrap32 a ≥ wrap32 b) = false := by simp only [decide_eq_false_iff_not]; exact hc
    clear hc
    go_enter Tryd.func14, Tryd.ntmps14
    go_wp2_with fail
    refine (truth_f _).mono ?_
    rintro e w' ⟨rfl, rfl⟩
    go_wp2
    go_ret2
    exact ⟨rfl, rfl⟩

set_option maxRecDepth 100000 in
theorem two_78 (a b : Int) (w : World) : Calls Tryd.prog 7 #[.int .u8 78, .int .u32 a, .int .u32 b] w fun e w' => e = .returned (.tuple #[.int .u32 (if wrap32 a ≥ wrap32 b then 1 else 0), .int .i64 0]) ∧ w = w' := by
  generalize hc : (if wrap32 a ≥ wrap32 b then 1 else 0 : Int) = c
  have Hc := hid hc; clear hc
  go_enter Tryd.func7, Tryd.ntmps7
  go_wp2_with fail
  refine (cmp_78 a b _).mono ?_
  rintro e w' ⟨rfl, rfl⟩
  rw [Hc.out]
  go_wp2
  go_ret2
  exact ⟨rfl, rfl⟩

set_option maxRecDepth 100000 in
theorem cmp_79 (a b : Int) (w : World) : Calls Tryd.prog 14 #[.int .u8 79, .int .u32 a, .int .u32 b] w fun e w' => e = .returned (.tuple #[.int .u32 (if a ≥ b then 1 else 0), .bool true]) ∧ w = w' := by
  by_cases hc : a ≥ b
  · rw [if_pos hc]
    have t : decide (a ≥ b) = true := by simpa using hc
    clear hc
    go_enter Tryd.func14, Tryd.ntmps14
    go_wp2_with fail
    refine (truth_t _).mono ?_
    rintro e w' ⟨rfl, rfl⟩
    go_wp2
    go_ret2
    exact ⟨rfl, rfl⟩
  · rw [if_neg hc]
    have t : decide (a ≥ b) = false := by simp only [decide_eq_false_iff_not]; exact hc
    clear hc
    go_enter Tryd.func14, Tryd.ntmps14
    go_wp2_with fail
    refine (truth_f _).mono ?_
    rintro e w' ⟨rfl, rfl⟩
    go_wp2
    go_ret2
    exact ⟨rfl, rfl⟩

set_option maxRecDepth 100000 in
theorem two_79 (a b : Int) (w : World) : Calls Tryd.prog 7 #[.int .u8 79, .int .u32 a, .int .u32 b] w fun e w' => e = .returned (.tuple #[.int .u32 (if a ≥ b then 1 else 0), .int .i64 0]) ∧ w = w' := by
  generalize hc : (if a ≥ b then 1 else 0 : Int) = c
  have Hc := hid hc; clear hc
  go_enter Tryd.func7, Tryd.ntmps7
  go_wp2_with fail
  refine (cmp_79 a b _).mono ?_
  rintro e w' ⟨rfl, rfl⟩
  rw [Hc.out]
  go_wp2
  go_ret2
  exact ⟨rfl, rfl⟩

set_option maxRecDepth 100000 in
theorem cmp_106 (a b : Int) (w : World) : Calls Tryd.prog 14 #[.int .u8 106, .int .u32 a, .int .u32 b] w fun e w' => e = .returned (.tuple #[.int .u32 0, .bool false]) ∧ w = w' := by
  go_enter Tryd.func14, Tryd.ntmps14
  go_wp2
  go_ret2
  exact ⟨rfl, rfl⟩

set_option maxRecDepth 100000 in
theorem two_106 (a b : Int) (w : World) : Calls Tryd.prog 7 #[.int .u8 106, .int .u32 a, .int .u32 b] w fun e w' => e = .returned (.tuple #[.int .u32 (IntKind.u32.wrap (a + b)), .int .i64 0]) ∧ w = w' := by
  go_enter Tryd.func7, Tryd.ntmps7
  go_wp2_with fail
  refine (cmp_106 a b _).mono ?_
  rintro e w' ⟨rfl, rfl⟩
  go_wp2
  go_ret2
  exact ⟨rfl, rfl⟩

set_option maxRecDepth 100000 in
theorem cmp_107 (a b : Int) (w : World) : Calls Tryd.prog 14 #[.int .u8 107, .int .u32 a, .int .u32 b] w fun e w' => e = .returned (.tuple #[.int .u32 0, .bool false]) ∧ w = w' := by
  go_enter Tryd.func14, Tryd.ntmps14
  go_wp2
  go_ret2
  exact ⟨rfl, rfl⟩

set_option maxRecDepth 100000 in
theorem two_107 (a b : Int) (w : World) : Calls Tryd.prog 7 #[.int .u8 107, .int .u32 a, .int .u32 b] w fun e w' => e = .returned (.tuple #[.int .u32 (IntKind.u32.wrap (a - b)), .int .i64 0]) ∧ w = w' := by
  go_enter Tryd.func7, Tryd.ntmps7
  go_wp2_with fail
  refine (cmp_107 a b _).mono ?_
  rintro e w' ⟨rfl, rfl⟩
  go_wp2
  go_ret2
  exact ⟨rfl, rfl⟩

set_option maxRecDepth 100000 in
theorem cmp_108 (a b : Int) (w : World) : Calls Tryd.prog 14 #[.int .u8 108, .int .u32 a, .int .u32 b] w fun e w' => e = .returned (.tuple #[.int .u32 0, .bool false]) ∧ w = w' := by
  go_enter Tryd.func14, Tryd.ntmps14
  go_wp2
  go_ret2
  exact ⟨rfl, rfl⟩

set_option maxRecDepth 100000 in
theorem two_108 (a b : Int) (w : World) : Calls Tryd.prog 7 #[.int .u8 108, .int .u32 a, .int .u32 b] w fun e w' => e = .returned (.tuple #[.int .u32 (IntKind.u32.wrap (a * b)), .int .i64 0]) ∧ w = w' := by
  go_enter Tryd.func7, Tryd.ntmps7
  go_wp2_with fail
  refine (cmp_108 a b _).mono ?_
  rintro e w' ⟨rfl, rfl⟩
  go_wp2
  go_ret2
  exact ⟨rfl, rfl⟩

set_option maxRecDepth 100000 in
theorem cmp_115 (a b : Int) (w : World) : Calls Tryd.prog 14 #[.int .u8 115, .int .u32 a, .int .u32 b] w fun e w' => e = .returned (.tuple #[.int .u32 0, .bool false]) ∧ w = w' := by
  go_enter Tryd.func14, Tryd.ntmps14
  go_wp2
  go_ret2
  exact ⟨rfl, rfl⟩

set_option maxRecDepth 100000 in
theorem two_115 (a b : Int) (w : World) : Calls Tryd.prog 7 #[.int .u8 115, .int .u32 a, .int .u32 b] w fun e w' => e = .returned (.tuple #[.int .u32 (bits .xor .u32 a b), .int .i64 0]) ∧ w = w' := by
  go_enter Tryd.func7, Tryd.ntmps7
  go_wp2_with fail
  refine (cmp_115 a b _).mono ?_
  rintro e w' ⟨rfl, rfl⟩
  go_wp2
  go_ret2
  exact ⟨rfl, rfl⟩
end Go.Proofs.YtahgkfekggkjnaaDoor
