/- What is proved here: the walk of the statement LebWrites. -/
import Derived.Test.YtbaomlmannpnaaaLebD
import Derived.Test.YtbaomlmannpnaaaLebE
namespace Go.Proofs.Ytbaomlmannpnaaa
open Go.RowKit
set_option linter.unusedVariables false
set_option linter.unusedSimpArgs false

theorem uL_ex : uL 624485 = [229, 142, 38] := by
  rw [uL_high (by decide), uL_high (by decide), uL_low (by decide)]; rfl
theorem sL_ex : sL (-123456) = [192, 187, 120] := by
  rw [sL_high (by decide), sL_high (by decide), sL_low (by decide)]; rfl
theorem str_ex1 : (strOfNums [229, 142, 38]).toList = [229, 142, 38] := by decide +kernel
theorem str_ex2 : (strOfNums [192, 187, 120]).toList = [192, 187, 120] := by decide +kernel

set_option maxHeartbeats 400000 in
set_option maxRecDepth 100000 in
theorem awake02_any (w : World) : Calls Try.prog 25 #[] w fun e w' => e = .returned (.bool true) ∧ Below w.heap.size w w' := by
  have e1 := str_ex1
  have e2 := str_ex2
  go_enter Try.func25, Try.ntmps25
  go_wp2_with fail
  refine (uint_any 624485 (by decide) _).mono ?_
  rintro e w1 ⟨s, rfl, hown, hb⟩
  rw [uL_ex] at hown
  have hc := conv_row (dst := 9) Try.underlying45 Try.underlying5 Try.underlying9 hown
  go_wp2_with fail
  refine (int_any (-123456) (by decide) (by decide) _).mono ?_
  rintro e w2 ⟨s, rfl, hown2, hb2⟩
  rw [sL_ex] at hown2
  have hc2 := conv_row (dst := 9) Try.underlying45 Try.underlying5 Try.underlying9 hown2
  go_wp2_with fail
  go_ret
  exact ⟨rfl, hb.trans (hb2.mono hb.size)⟩

def posts6 (v : Nat) (z bits : Int) (want : Value) : List (Value → World → Prop) := [
    fun x _ => x = .int .u64 (v : Int),
    fun s w => w.ownsRow 0 5 1 s (uL v).length ((uL v).map (Value.int .u8)),
    fun x _ => x = .string (strOfNums (uL v)),
    fun x _ => x = want,
    fun x _ => x = .string (strOfNums (uL v)),
    fun x _ => x = .bool true,
    fun x _ => x = .bool true,
    fun x _ => x = .int .u64 (v : Int),
    fun x _ => x = .int .i64 ((uL v).length : Int),
    fun x _ => x = want,
    fun x _ => x = .int .i64 ((uL v).length : Int),
    fun x _ => x = .bool true,
    fun x _ => x = .bool true,
    fun x _ => x = .bool true,
    fun x _ => x = .int .u64 (v : Int),
    fun x _ => x = .int .i64 z,
    fun s w => w.ownsRow 0 5 1 s (sL z).length ((sL z).map (Value.int .u8)),
    fun x _ => x = .string (strOfNums (sL z)),
    fun x _ => x = .int .u64 (v : Int),
    fun x _ => x = .int .i64 z,
    fun s w => w.ownsRow 0 5 1 s (sL z).length ((sL z).map (Value.int .u8)),
    fun x _ => x = .string (strOfNums (sL z)),
    fun x _ => x = .bool true,
    fun x _ => x = .bool true,
    fun x _ => x = .bool true,
    fun x _ => x = .int .i64 bits,
    fun x _ => x = .bool (rightB bits),
    fun x _ => x = .bool (rightB bits),
    fun x _ => x = .bool true,
    fun x _ => x = .bool true,
    fun x _ => x = .bool true,
    fun x _ => x = .int .i64 bits,
    fun x _ => x = .int .i64 (mostN bits),
    fun x _ => x = .int .i64 bits,
    fun x _ => x = .int .i64 (mostN bits),
    fun x _ => x = .bool true,
    fun x _ => x = .bool true,
    fun x _ => x = .bool true]

set_option maxHeartbeats 4000000 in
set_option maxRecDepth 100000 in
theorem lebWrites_walk (v : Nat) (hv : v < 2 ^ 64) (bits : Int) (w : World) :
    Calls Try.prog 6 #[.int .u64 v, .int .i64 bits] w fun e w' => e = .returned (.bool true) ∧ Below w.heap.size w w' := by
  obtain ⟨z, Hz1, Hz2, Hzm, Hzu, Hzc⟩ : ∃ z : Int, Hid (-(2 ^ 63) ≤ z) ∧ Hid (z < 2 ^ 63) ∧ Hid ((v : Int) = z % 2 ^ 64) ∧ Hid (IntKind.u64.wrap z = v) ∧ Hid (IntKind.i64.wrap v = z) := by
    refine ⟨IntKind.i64.wrap v, ?_⟩
    refine ⟨?_, ?_, ?_, ?_, rfl⟩ <;> simp only [Hid, wrap_i64_def, wrap_u64_def] <;> omega
  have Hv := hid hv; clear hv
  have hcase : (rightB bits = true ∧ 1 ≤ bits ∧ bits ≤ 64) ∨ (rightB bits = false ∧ 1 ≤ bits ∧ 64 < bits) ∨ (rightB bits = false ∧ bits < 1 ∧ bits ≤ 64) := by
    unfold rightB
    by_cases hr1 : 1 ≤ bits <;> by_cases hr2 : bits ≤ 64 <;> simp [hr1, hr2] <;> omega
  rcases hcase with ⟨hR, hr1, hr2⟩ | ⟨hR, hr1, hr2⟩ | ⟨hR, hr1, hr2⟩
  all_goals
    have HR := hid hR; clear hR
    go_enter Try.func6, Try.ntmps6
    go_wp2_with fail
    refine (awake02_any _).mono ?_
    rintro e w1 ⟨rfl, hb⟩
    go_wp2_with fail
    refine (refUint_any v Hv.out _).mono ?_
    rintro e w2 ⟨want, n, rfl, hres, hown0, hb2⟩
    have hown : w2.ownsRow 0 5 1 want (uL v).length ((uL v).map (Value.int .u8)) := by
      have e := refU v Hv.out n hres
      rw [e]; exact ownsRow_len (ownsRow_mono hown0 (Nat.zero_le _))
    clear hown0 hres
    go_wp2_with fail
    refine wp_region_rg (fun w' => Below w2.heap.size w2 w') (fun w w' => Below w.heap.size w w') (posts6 v z bits want)
        [[], [0], [1], [], [3], [2, 4], [1, 5], [6], [6, 7], [6], [6, 9], [6, 8, 10], [6, 11], [8, 12], [13], [13, 14], [13, 15], [13, 16], [13], [13, 18], [13, 16, 19], [13, 20], [13, 17, 21], [13, 22], [20, 23], [24], [24, 25], [24], [24, 26, 27], [24, 28], [26, 29], [30], [30, 31], [30], [30, 32, 33], [30, 32, 34], [30, 35], [0, 1, 2, 3, 4, 5, 6, 7, 8, 9, 10, 11, 12, 13, 14, 15, 16, 17, 18, 19, 20, 21, 22, 23, 24, 25, 26, 27, 28, 29, 30, 31, 32, 33, 34, 35, 36]]
        54 (by kernel_rfl) rfl (by kernel_rfl) rfl ?rg0 ?rgC ?rgP ?rgS ?rgQ
    case rgP => exact ⟨kept_eq, kept_row, kept_eq, kept_eq, kept_eq, kept_eq, kept_eq, kept_eq, kept_eq, kept_eq, kept_eq, kept_eq, kept_eq, kept_eq, kept_eq, kept_eq, kept_row, kept_eq, kept_eq, kept_eq, kept_row, kept_eq, kept_eq, kept_eq, kept_eq, kept_eq, kept_eq, kept_eq, kept_eq, kept_eq, kept_eq, kept_eq, kept_eq, kept_eq, kept_eq, kept_eq, kept_eq, kept_eq, trivial⟩
    case rgS =>
      intro V
      refine rgGoals_cons 1 (by intro v; simp only [Act.put, List.setIfInBounds_toArray, List.set_cons_zero, List.set_cons_succ]; exact rfl) rfl (fun w hC hd K hK => ?_) ?_
      · clear hd
        go_simp; exact hK _ _ (Below.refl _ _) rfl
      refine rgGoals_cons 2 (by intro v; simp only [Act.put, List.setIfInBounds_toArray, List.set_cons_zero, List.set_cons_succ]; exact rfl) rfl (fun w hC hd K hK => ?_) ?_
      · obtain ⟨h0, _⟩ := hd
        replace h0 : V 0 = .int .u64 (v : Int) := h0
        simp only [h0] at hK
        go_simp; refine (uint_any v Hv.out _).mono ?_; rintro e w' ⟨s, rfl, ho, hb⟩; exact hK _ _ hb (ownsRow_mono ho (Nat.zero_le _))
      refine rgGoals_cons 3 (by intro v; simp only [Act.put, List.setIfInBounds_toArray, List.set_cons_zero, List.set_cons_succ]; exact rfl) rfl (fun w hC hd K hK => ?_) ?_
      · obtain ⟨h1, _⟩ := hd
        replace h1 : (fun s w => w.ownsRow 0 5 1 s (uL v).length ((uL v).map (Value.int .u8))) (V 1) w := h1; dsimp only at h1
        have hc := conv_row (dst := 9) Try.underlying45 Try.underlying5 Try.underlying9 h1
        go_simp; exact hK _ _ (Below.refl _ _) rfl
      refine rgGoals_cons 4 (by intro v; simp only [Act.put, List.setIfInBounds_toArray, List.set_cons_zero, List.set_cons_succ]; exact rfl) rfl (fun w hC hd K hK => ?_) ?_
      · clear hd
        go_simp; exact hK _ _ (Below.refl _ _) rfl
      refine rgGoals_cons 5 (by intro v; simp only [Act.put, List.setIfInBounds_toArray, List.set_cons_zero, List.set_cons_succ]; exact rfl) rfl (fun w hC hd K hK => ?_) ?_
      · obtain ⟨h3, _⟩ := hd
        replace h3 : V 3 = want := h3
        simp only [h3] at hK
        have hc := conv_row (dst := 9) Try.underlying45 Try.underlying5 Try.underlying9 (ownsRow_ext hown hC)
        go_simp; exact hK _ _ (Below.refl _ _) rfl
      refine rgGoals_cons 6 (by intro v; simp only [Act.put, List.setIfInBounds_toArray, List.set_cons_zero, List.set_cons_succ]; exact rfl) rfl (fun w hC hd K hK => ?_) ?_
      · obtain ⟨h2, h4, _⟩ := hd
        replace h2 : V 2 = .string (strOfNums (uL v)) := h2
        replace h4 : V 4 = .string (strOfNums (uL v)) := h4
        simp only [h2, h4] at hK
        go_simp; exact hK _ _ (Below.refl _ _) rfl
      refine rgGoals_cons 7 (by intro v; simp only [Act.put, List.setIfInBounds_toArray, List.set_cons_zero, List.set_cons_succ]; exact rfl) rfl (fun w hC hd K hK => ?_) ?_
      · obtain ⟨h1, h5, _⟩ := hd
        replace h1 : (fun s w => w.ownsRow 0 5 1 s (uL v).length ((uL v).map (Value.int .u8))) (V 1) w := h1; dsimp only at h1
        replace h5 : V 5 = .bool true := h5
        simp only [h5] at hK
        go_simp; exact hK _ _ (Below.refl _ _) rfl
      refine rgGoals_cons 8 (by intro v; simp only [Act.put, List.setIfInBounds_toArray, List.set_cons_zero, List.set_cons_succ]; exact rfl) rfl (fun w hC hd K hK => ?_) ?_
      · obtain ⟨h6, _⟩ := hd
        replace h6 : V 6 = .bool true := h6
        simp only [h6] at hK
        go_simp; exact hK _ _ (Below.refl _ _) rfl
      refine rgGoals_cons 9 (by intro v; simp only [Act.put, List.setIfInBounds_toArray, List.set_cons_zero, List.set_cons_succ]; exact rfl) rfl (fun w hC hd K hK => ?_) ?_
      · obtain ⟨h6, h7, _⟩ := hd
        replace h6 : V 6 = .bool true := h6
        replace h7 : V 7 = .int .u64 (v : Int) := h7
        simp only [h6, h7] at hK
        go_simp; refine (size_any v Hv.out _).mono ?_; rintro e w' ⟨rfl, rfl⟩; exact hK _ _ (Below.refl _ _) rfl
      refine rgGoals_cons 10 (by intro v; simp only [Act.put, List.setIfInBounds_toArray, List.set_cons_zero, List.set_cons_succ]; exact rfl) rfl (fun w hC hd K hK => ?_) ?_
      · obtain ⟨h6, _⟩ := hd
        replace h6 : V 6 = .bool true := h6
        simp only [h6] at hK
        go_simp; exact hK _ _ (Below.refl _ _) rfl
      refine rgGoals_cons 11 (by intro v; simp only [Act.put, List.setIfInBounds_toArray, List.set_cons_zero, List.set_cons_succ]; exact rfl) rfl (fun w hC hd K hK => ?_) ?_
      · obtain ⟨h6, h9, _⟩ := hd
        replace h6 : V 6 = .bool true := h6
        replace h9 : V 9 = want := h9
        simp only [h6, h9] at hK
        have hl := len_row Try.underlying45 hown
        go_simp; exact hK _ _ (Below.refl _ _) rfl
      refine rgGoals_cons 12 (by intro v; simp only [Act.put, List.setIfInBounds_toArray, List.set_cons_zero, List.set_cons_succ]; exact rfl) rfl (fun w hC hd K hK => ?_) ?_
      · obtain ⟨h6, h8, h10, _⟩ := hd
        replace h6 : V 6 = .bool true := h6
        replace h8 : V 8 = .int .i64 ((uL v).length : Int) := h8
        replace h10 : V 10 = .int .i64 ((uL v).length : Int) := h10
        simp only [h6, h8, h10] at hK
        go_simp; exact hK _ _ (Below.refl _ _) rfl
      refine rgGoals_cons 13 (by intro v; simp only [Act.put, List.setIfInBounds_toArray, List.set_cons_zero, List.set_cons_succ]; exact rfl) rfl (fun w hC hd K hK => ?_) ?_
      · obtain ⟨h6, h11, _⟩ := hd
        replace h6 : V 6 = .bool true := h6
        replace h11 : V 11 = .bool true := h11
        simp only [h6, h11] at hK
        go_simp; exact hK _ _ (Below.refl _ _) rfl
      refine rgGoals_cons 14 (by intro v; simp only [Act.put, List.setIfInBounds_toArray, List.set_cons_zero, List.set_cons_succ]; exact rfl) rfl (fun w hC hd K hK => ?_) ?_
      · obtain ⟨h8, h12, _⟩ := hd
        replace h8 : V 8 = .int .i64 ((uL v).length : Int) := h8
        replace h12 : V 12 = .bool true := h12
        simp only [h8, h12] at hK
        go_simp; exact hK _ _ (Below.refl _ _) rfl
      refine rgGoals_cons 15 (by intro v; simp only [Act.put, List.setIfInBounds_toArray, List.set_cons_zero, List.set_cons_succ]; exact rfl) rfl (fun w hC hd K hK => ?_) ?_
      · obtain ⟨h13, _⟩ := hd
        replace h13 : V 13 = .bool true := h13
        simp only [h13] at hK
        go_simp; exact hK _ _ (Below.refl _ _) rfl
      refine rgGoals_cons 16 (by intro v; simp only [Act.put, List.setIfInBounds_toArray, List.set_cons_zero, List.set_cons_succ]; exact rfl) rfl (fun w hC hd K hK => ?_) ?_
      · obtain ⟨h13, h14, _⟩ := hd
        replace h13 : V 13 = .bool true := h13
        replace h14 : V 14 = .int .u64 (v : Int) := h14
        simp only [h13, h14] at hK
        go_simp; exact hK _ _ (Below.refl _ _) (by rw [Hzc.out])
      refine rgGoals_cons 17 (by intro v; simp only [Act.put, List.setIfInBounds_toArray, List.set_cons_zero, List.set_cons_succ]; exact rfl) rfl (fun w hC hd K hK => ?_) ?_
      · obtain ⟨h13, h15, _⟩ := hd
        replace h13 : V 13 = .bool true := h13
        replace h15 : V 15 = .int .i64 z := h15
        simp only [h13, h15] at hK
        go_simp; refine (int_any z Hz1.out Hz2.out _).mono ?_; rintro e w' ⟨s, rfl, ho, hb⟩; exact hK _ _ hb (ownsRow_mono ho (Nat.zero_le _))
      refine rgGoals_cons 18 (by intro v; simp only [Act.put, List.setIfInBounds_toArray, List.set_cons_zero, List.set_cons_succ]; exact rfl) rfl (fun w hC hd K hK => ?_) ?_
      · obtain ⟨h13, h16, _⟩ := hd
        replace h13 : V 13 = .bool true := h13
        replace h16 : (fun s w => w.ownsRow 0 5 1 s (sL z).length ((sL z).map (Value.int .u8))) (V 16) w := h16; dsimp only at h16
        simp only [h13] at hK
        have hc := conv_row (dst := 9) Try.underlying45 Try.underlying5 Try.underlying9 h16
        go_simp; exact hK _ _ (Below.refl _ _) rfl
      refine rgGoals_cons 19 (by intro v; simp only [Act.put, List.setIfInBounds_toArray, List.set_cons_zero, List.set_cons_succ]; exact rfl) rfl (fun w hC hd K hK => ?_) ?_
      · obtain ⟨h13, _⟩ := hd
        replace h13 : V 13 = .bool true := h13
        simp only [h13] at hK
        go_simp; exact hK _ _ (Below.refl _ _) rfl
      refine rgGoals_cons 20 (by intro v; simp only [Act.put, List.setIfInBounds_toArray, List.set_cons_zero, List.set_cons_succ]; exact rfl) rfl (fun w hC hd K hK => ?_) ?_
      · obtain ⟨h13, h18, _⟩ := hd
        replace h13 : V 13 = .bool true := h13
        replace h18 : V 18 = .int .u64 (v : Int) := h18
        simp only [h13, h18] at hK
        go_simp; exact hK _ _ (Below.refl _ _) (by rw [Hzc.out])
      refine rgGoals_cons 21 (by intro v; simp only [Act.put, List.setIfInBounds_toArray, List.set_cons_zero, List.set_cons_succ]; exact rfl) rfl (fun w hC hd K hK => ?_) ?_
      · obtain ⟨h13, h16, h19, _⟩ := hd
        replace h13 : V 13 = .bool true := h13
        replace h16 : (fun s w => w.ownsRow 0 5 1 s (sL z).length ((sL z).map (Value.int .u8))) (V 16) w := h16; dsimp only at h16
        replace h19 : V 19 = .int .i64 z := h19
        simp only [h13, h19] at hK
        go_simp; refine (refInt_any z v Hzu.out Hv.out _).mono ?_; rintro e w' ⟨s, n, rfl, hr, ho, hb⟩; refine hK _ _ hb ?_; have e := refS z Hz1.out Hz2.out v Hzm.out n hr; show World.ownsRow _ _ _ _ _ _ _; rw [e]; exact ownsRow_len (ownsRow_mono ho (Nat.zero_le _))
      refine rgGoals_cons 22 (by intro v; simp only [Act.put, List.setIfInBounds_toArray, List.set_cons_zero, List.set_cons_succ]; exact rfl) rfl (fun w hC hd K hK => ?_) ?_
      · obtain ⟨h13, h20, _⟩ := hd
        replace h13 : V 13 = .bool true := h13
        replace h20 : (fun s w => w.ownsRow 0 5 1 s (sL z).length ((sL z).map (Value.int .u8))) (V 20) w := h20; dsimp only at h20
        simp only [h13] at hK
        have hc := conv_row (dst := 9) Try.underlying45 Try.underlying5 Try.underlying9 h20
        go_simp; exact hK _ _ (Below.refl _ _) rfl
      refine rgGoals_cons 23 (by intro v; simp only [Act.put, List.setIfInBounds_toArray, List.set_cons_zero, List.set_cons_succ]; exact rfl) rfl (fun w hC hd K hK => ?_) ?_
      · obtain ⟨h13, h17, h21, _⟩ := hd
        replace h13 : V 13 = .bool true := h13
        replace h17 : V 17 = .string (strOfNums (sL z)) := h17
        replace h21 : V 21 = .string (strOfNums (sL z)) := h21
        simp only [h13, h17, h21] at hK
        go_simp; exact hK _ _ (Below.refl _ _) rfl
      refine rgGoals_cons 24 (by intro v; simp only [Act.put, List.setIfInBounds_toArray, List.set_cons_zero, List.set_cons_succ]; exact rfl) rfl (fun w hC hd K hK => ?_) ?_
      · obtain ⟨h13, h22, _⟩ := hd
        replace h13 : V 13 = .bool true := h13
        replace h22 : V 22 = .bool true := h22
        simp only [h13, h22] at hK
        go_simp; exact hK _ _ (Below.refl _ _) rfl
      refine rgGoals_cons 25 (by intro v; simp only [Act.put, List.setIfInBounds_toArray, List.set_cons_zero, List.set_cons_succ]; exact rfl) rfl (fun w hC hd K hK => ?_) ?_
      · obtain ⟨h20, h23, _⟩ := hd
        replace h20 : (fun s w => w.ownsRow 0 5 1 s (sL z).length ((sL z).map (Value.int .u8))) (V 20) w := h20; dsimp only at h20
        replace h23 : V 23 = .bool true := h23
        simp only [h23] at hK
        go_simp; exact hK _ _ (Below.refl _ _) rfl
      refine rgGoals_cons 26 (by intro v; simp only [Act.put, List.setIfInBounds_toArray, List.set_cons_zero, List.set_cons_succ]; exact rfl) rfl (fun w hC hd K hK => ?_) ?_
      · obtain ⟨h24, _⟩ := hd
        replace h24 : V 24 = .bool true := h24
        simp only [h24] at hK
        go_simp; exact hK _ _ (Below.refl _ _) rfl
      refine rgGoals_cons 27 (by intro v; simp only [Act.put, List.setIfInBounds_toArray, List.set_cons_zero, List.set_cons_succ]; exact rfl) rfl (fun w hC hd K hK => ?_) ?_
      · obtain ⟨h24, h25, _⟩ := hd
        replace h24 : V 24 = .bool true := h24
        replace h25 : V 25 = .int .i64 bits := h25
        simp only [h24, h25] at hK
        go_simp; refine (right_any bits _).mono ?_; rintro e w' ⟨rfl, rfl⟩; exact hK _ _ (Below.refl _ _) rfl
      refine rgGoals_cons 28 (by intro v; simp only [Act.put, List.setIfInBounds_toArray, List.set_cons_zero, List.set_cons_succ]; exact rfl) rfl (fun w hC hd K hK => ?_) ?_
      · obtain ⟨h24, _⟩ := hd
        replace h24 : V 24 = .bool true := h24
        simp only [h24] at hK
        go_simp; exact hK _ _ (Below.refl _ _) (by rw [HR.out]; try (first | (simp; done) | (simp; omega)))
      refine rgGoals_cons 29 (by intro v; simp only [Act.put, List.setIfInBounds_toArray, List.set_cons_zero, List.set_cons_succ]; exact rfl) rfl (fun w hC hd K hK => ?_) ?_
      · obtain ⟨h24, h26, h27, _⟩ := hd
        replace h24 : V 24 = .bool true := h24
        replace h26 : V 26 = .bool (rightB bits) := h26
        replace h27 : V 27 = .bool (rightB bits) := h27
        simp only [h24, h26, h27] at hK
        go_simp; exact hK _ _ (Below.refl _ _) rfl
      refine rgGoals_cons 30 (by intro v; simp only [Act.put, List.setIfInBounds_toArray, List.set_cons_zero, List.set_cons_succ]; exact rfl) rfl (fun w hC hd K hK => ?_) ?_
      · obtain ⟨h24, h28, _⟩ := hd
        replace h24 : V 24 = .bool true := h24
        replace h28 : V 28 = .bool true := h28
        simp only [h24, h28] at hK
        go_simp; exact hK _ _ (Below.refl _ _) rfl
      refine rgGoals_cons 31 (by intro v; simp only [Act.put, List.setIfInBounds_toArray, List.set_cons_zero, List.set_cons_succ]; exact rfl) rfl (fun w hC hd K hK => ?_) ?_
      · obtain ⟨h26, h29, _⟩ := hd
        replace h26 : V 26 = .bool (rightB bits) := h26
        replace h29 : V 29 = .bool true := h29
        simp only [h26, h29] at hK
        go_simp; exact hK _ _ (Below.refl _ _) rfl
      refine rgGoals_cons 32 (by intro v; simp only [Act.put, List.setIfInBounds_toArray, List.set_cons_zero, List.set_cons_succ]; exact rfl) rfl (fun w hC hd K hK => ?_) ?_
      · obtain ⟨h30, _⟩ := hd
        replace h30 : V 30 = .bool true := h30
        simp only [h30] at hK
        go_simp; exact hK _ _ (Below.refl _ _) rfl
      refine rgGoals_cons 33 (by intro v; simp only [Act.put, List.setIfInBounds_toArray, List.set_cons_zero, List.set_cons_succ]; exact rfl) rfl (fun w hC hd K hK => ?_) ?_
      · obtain ⟨h30, h31, _⟩ := hd
        replace h30 : V 30 = .bool true := h30
        replace h31 : V 31 = .int .i64 bits := h31
        simp only [h30, h31] at hK
        go_simp; refine (most_any bits _).mono ?_; rintro e w' ⟨rfl, rfl⟩; exact hK _ _ (Below.refl _ _) rfl
      refine rgGoals_cons 34 (by intro v; simp only [Act.put, List.setIfInBounds_toArray, List.set_cons_zero, List.set_cons_succ]; exact rfl) rfl (fun w hC hd K hK => ?_) ?_
      · obtain ⟨h30, _⟩ := hd
        replace h30 : V 30 = .bool true := h30
        simp only [h30] at hK
        go_simp; exact hK _ _ (Below.refl _ _) rfl
      refine rgGoals_cons 35 (by intro v; simp only [Act.put, List.setIfInBounds_toArray, List.set_cons_zero, List.set_cons_succ]; exact rfl) rfl (fun w hC hd K hK => ?_) ?_
      · obtain ⟨h30, h32, h33, _⟩ := hd
        replace h30 : V 30 = .bool true := h30
        replace h32 : V 32 = .int .i64 (mostN bits) := h32
        replace h33 : V 33 = .int .i64 bits := h33
        simp only [h30, h32, h33] at hK
        go_simp; refine (refMost_any bits _).mono ?_; rintro e w' ⟨rfl, rfl⟩; exact hK _ _ (Below.refl _ _) rfl
      refine rgGoals_cons 36 (by intro v; simp only [Act.put, List.setIfInBounds_toArray, List.set_cons_zero, List.set_cons_succ]; exact rfl) rfl (fun w hC hd K hK => ?_) ?_
      · obtain ⟨h30, h32, h34, _⟩ := hd
        replace h30 : V 30 = .bool true := h30
        replace h32 : V 32 = .int .i64 (mostN bits) := h32
        replace h34 : V 34 = .int .i64 (mostN bits) := h34
        simp only [h30, h32, h34] at hK
        go_simp; exact hK _ _ (Below.refl _ _) rfl
      refine rgGoals_cons 37 (by intro v; simp only [Act.put, List.setIfInBounds_toArray, List.set_cons_zero, List.set_cons_succ]; exact rfl) rfl (fun w hC hd K hK => ?_) ?_
      · obtain ⟨h30, h35, _⟩ := hd
        replace h30 : V 30 = .bool true := h30
        replace h35 : V 35 = .bool true := h35
        simp only [h30, h35] at hK
        go_simp; exact hK _ _ (Below.refl _ _) rfl
      refine rgGoals_cons 38 (by intro v; simp only [Act.put, List.setIfInBounds_toArray, List.set_cons_zero, List.set_cons_succ]; exact rfl) rfl (fun w hC hd K hK => ?_) ?_
      · obtain ⟨h0, h1, h2, h3, h4, h5, h6, h7, h8, h9, h10, h11, h12, h13, h14, h15, h16, h17, h18, h19, h20, h21, h22, h23, h24, h25, h26, h27, h28, h29, h30, h31, h32, h33, h34, h35, h36, _⟩ := hd
        replace h0 : V 0 = .int .u64 (v : Int) := h0
        replace h1 : (fun s w => w.ownsRow 0 5 1 s (uL v).length ((uL v).map (Value.int .u8))) (V 1) w := h1; dsimp only at h1
        replace h2 : V 2 = .string (strOfNums (uL v)) := h2
        replace h3 : V 3 = want := h3
        replace h4 : V 4 = .string (strOfNums (uL v)) := h4
        replace h5 : V 5 = .bool true := h5
        replace h6 : V 6 = .bool true := h6
        replace h7 : V 7 = .int .u64 (v : Int) := h7
        replace h8 : V 8 = .int .i64 ((uL v).length : Int) := h8
        replace h9 : V 9 = want := h9
        replace h10 : V 10 = .int .i64 ((uL v).length : Int) := h10
        replace h11 : V 11 = .bool true := h11
        replace h12 : V 12 = .bool true := h12
        replace h13 : V 13 = .bool true := h13
        replace h14 : V 14 = .int .u64 (v : Int) := h14
        replace h15 : V 15 = .int .i64 z := h15
        replace h16 : (fun s w => w.ownsRow 0 5 1 s (sL z).length ((sL z).map (Value.int .u8))) (V 16) w := h16; dsimp only at h16
        replace h17 : V 17 = .string (strOfNums (sL z)) := h17
        replace h18 : V 18 = .int .u64 (v : Int) := h18
        replace h19 : V 19 = .int .i64 z := h19
        replace h20 : (fun s w => w.ownsRow 0 5 1 s (sL z).length ((sL z).map (Value.int .u8))) (V 20) w := h20; dsimp only at h20
        replace h21 : V 21 = .string (strOfNums (sL z)) := h21
        replace h22 : V 22 = .bool true := h22
        replace h23 : V 23 = .bool true := h23
        replace h24 : V 24 = .bool true := h24
        replace h25 : V 25 = .int .i64 bits := h25
        replace h26 : V 26 = .bool (rightB bits) := h26
        replace h27 : V 27 = .bool (rightB bits) := h27
        replace h28 : V 28 = .bool true := h28
        replace h29 : V 29 = .bool true := h29
        replace h30 : V 30 = .bool true := h30
        replace h31 : V 31 = .int .i64 bits := h31
        replace h32 : V 32 = .int .i64 (mostN bits) := h32
        replace h33 : V 33 = .int .i64 bits := h33
        replace h34 : V 34 = .int .i64 (mostN bits) := h34
        replace h35 : V 35 = .bool true := h35
        replace h36 : V 36 = .bool true := h36
        simp only [h0, h2, h3, h4, h5, h6, h7, h8, h9, h10, h11, h12, h13, h14, h15, h17, h18, h19, h21, h22, h23, h24, h25, h26, h27, h28, h29, h30, h31, h32, h33, h34, h35, h36] at hK
        go_simp; exact hK _ _ (Below.refl _ _) rfl
      trivial
    case rgC => exact fun w w' h1 h2 => below_ext h1 (Nat.le_refl _) h2
    case rg0 => exact (Below.refl _ _).drew
    case rgQ =>
      intro V w hC hp
      have h37 : V 37 = .bool true := postsHold_at hp 37 rfl
      simp only [putAll, Act.put, List.setIfInBounds_toArray, List.set_cons_zero, List.set_cons_succ]
      simp only [Nat.reduceAdd, h37]
      go_wp2
      go_ret
      exact ⟨rfl, hb.trans ((hb2.trans (hC.mono hb2.size)).mono hb.size)⟩
end Go.Proofs.Ytbaomlmannpnaaa

