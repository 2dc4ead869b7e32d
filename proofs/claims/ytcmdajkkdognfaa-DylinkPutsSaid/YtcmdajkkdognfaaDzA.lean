/- What is proved here: dylink: Right of the document, Put. -/
import Derived.Test.YtcmdajkkdognfaaDyA
import Derived.Test.YtcmdajkkdognfaaUwE
import Derived.Test.YtcmdajkkdognfaaLsN
namespace Go.Proofs.Ytcmdajkkdognfaa
open Go.RowKit
set_option linter.unusedVariables false
set_option linter.unusedSimpArgs false
theorem orv_pos {a b : Int} (h1 : 0 ≤ a ∧ a < 4294967296) (h2 : 0 ≤ b ∧ b < 4294967296) : (orv a b = 0 ↔ a = 0 ∧ b = 0) ∧ 0 ≤ orv a b ∧ orv a b < 4294967296 := by
  obtain ⟨x, rfl⟩ := Int.eq_ofNat_of_zero_le h1.1
  obtain ⟨y, rfl⟩ := Int.eq_ofNat_of_zero_le h2.1
  unfold orv
  rw [Ut.ut_or32 x y (by omega) (by omega)]
  have l2 : x ||| y < 2 ^ 32 := Nat.or_lt_two_pow (by omega) (by omega)
  refine ⟨?_, by omega, by omega⟩
  have := @Nat.or_eq_zero_iff x y
  omega
theorem orv_ne {a1 a2 a3 a4 : Int} (h1 : 0 ≤ a1 ∧ a1 < 4294967296) (h2 : 0 ≤ a2 ∧ a2 < 4294967296) (h3 : 0 ≤ a3 ∧ a3 < 4294967296) (h4 : 0 ≤ a4 ∧ a4 < 4294967296) : decide (orv (orv (orv a1 a2) a3) a4 ≠ (0 : Int)) = (((decide (a1 ≠ (0 : Int)) || decide (a2 ≠ (0 : Int))) || decide (a3 ≠ (0 : Int))) || decide (a4 ≠ (0 : Int))) := by
  have k1 := orv_pos h1 h2
  have k2 := orv_pos k1.2 h3
  have k3 := orv_pos k2.2 h4
  by_cases e1 : a1 = 0 <;> by_cases e2 : a2 = 0 <;> by_cases e3 : a3 = 0 <;> by_cases e4 : a4 = 0 <;> simp [e1, e2, e3, e4] at k1 k2 k3 ⊢ <;> simp_all

set_option maxHeartbeats 1000000 in
set_option maxRecDepth 100000 in
theorem rdright_any (has : Bool) (a1 a2 a3 a4 : Int) (a : Option Addr) (L : List ByteArray) (c : Nat) (w : World) (hl : RdS 1 vStr w a L) (hc : L.length ≤ 9223372036854775807) (hcp : L.length ≤ c) (hL : ∀ s ∈ L, s.size ≤ 1000000) (h1 : 0 ≤ a1 ∧ a1 < 4294967296) (h2 : 0 ≤ a2 ∧ a2 < 4294967296) (h3 : 0 ≤ a3 ∧ a3 < 4294967296) (h4 : 0 ≤ a4 ∧ a4 < 4294967296) : Calls Try.prog 89 #[(.agg #[(.bool has), (.int .u32 a1), (.int .u32 a2), (.int .u32 a3), (.int .u32 a4), (.slice a L.length c)])] w fun e w' => e = .returned (.int .i64 (drightP has a1 a2 a3 a4 L)) ∧ Below w.heap.size w w' := by
  refine sx_enter (L := [(0, (.agg #[(.bool has), (.int .u32 a1), (.int .u32 a2), (.int .u32 a3), (.int .u32 a4), (.slice a L.length c)]))]) Try.func89 rfl rfl rfl rfl (fun fa hf => ?_)
  have hb : Below w.heap.size w w := Below.refl _ _
  refine wp_seq_k (fun K1 hK1 => ?_)
  refine wp_region_lit ?_
  refine sqdt hf (d_box (cs := #[(.bool has), (.int .u32 a1), (.int .u32 a2), (.int .u32 a3), (.int .u32 a4), (.slice a L.length c)]) rfl rfl) rfl rfl rfl ?_; clear hf fa; rintro fa _ w1 ⟨b1, rfl, hle1, hk1, he1⟩ hf
  have hBb1 : w.heap.size ≤ b1 := Nat.le_trans hb.size hle1
  replace hb := hb.trans (Below.mono he1 hb.size)
  refine sqv hf (r_assign rfl) rfl rfl rfl ?_; clear hf fa; intro fa hf
  apply wpList_nil
  (try simp only [Exit.then, Exit.inBlock, ↓reduceIte, Nat.reduceEqDiff])
  refine hK1 _ _ ?_
  refine wp_seq_k (fun K2 hK2 => ?_)
  refine wp_seq_k (fun K3 hK3 => ?_)
  refine wp_region_lit ?_
  refine sqv hf (r_fa rfl Try.underlying37 (f := 0) (q := 0) rfl (by kernel_rfl) rfl) rfl rfl rfl ?_; clear hf fa; intro fa hf
  refine sqv hf (r_load (v := (.bool has)) rfl Try.underlying4 rfl (cell_blk hk1 rfl)) rfl rfl rfl ?_; clear hf fa; intro fa hf
  refine sqv hf (r_not rfl) rfl rfl rfl ?_; clear hf fa; intro fa hf
  apply wpList_nil
  (try simp only [Exit.then, Exit.inBlock, ↓reduceIte, Nat.reduceEqDiff])
  refine hK3 _ _ ?_
  refine wp_cond_split (t := (!has)) (hf.ev rfl) (fun hqt7_1 => ?_) (fun hqt7_1 => ?_)
  · have hqt7_1b := hqt7_1
    try simp only [decide_eq_true_eq, Bool.and_eq_true, Bool.or_eq_true, Bool.not_eq_true', decide_eq_false_iff_not, ne_eq, Bool.not_eq_true] at hqt7_1
    refine wp_seq_k (fun K4 hK4 => ?_)
    refine wp_seq_k (fun K5 hK5 => ?_)
    refine wp_region_lit ?_
    refine sqv hf (r_fa rfl Try.underlying37 (f := 1) (q := 1) rfl (by kernel_rfl) rfl) rfl rfl rfl ?_; clear hf fa; intro fa hf
    refine sqv hf (r_load (v := (.int .u32 a1)) rfl Try.underlying24 rfl (cell_blk hk1 rfl)) rfl rfl rfl ?_; clear hf fa; intro fa hf
    refine sqv hf (r_ne rfl rfl) rfl rfl rfl ?_; clear hf fa; intro fa hf
    refine sqv hf (r_move rfl) rfl rfl rfl ?_; clear hf fa; intro fa hf
    refine sqgF (act := (!(decide (a1 ≠ (0 : Int))))) (ag := true) (c := (decide (a1 ≠ (0 : Int)))) (v := (.pointer (some ⟨b1, 2, none⟩))) hf rfl rfl rfl (fun hact => (r_fa rfl Try.underlying37 (f := 2) (q := 2) rfl (by kernel_rfl) rfl)) rfl rfl ?_; clear hf fa; intro fa hf
    refine sqgF (act := (!(decide (a1 ≠ (0 : Int))))) (ag := true) (c := (decide (a1 ≠ (0 : Int)))) (v := (.int .u32 a2)) hf rfl rfl rfl (fun hact => (r_load (v := (.int .u32 a2)) (gb_ev hact rfl) Try.underlying24 rfl (cell_blk hk1 rfl))) rfl rfl ?_; clear hf fa; intro fa hf
    refine sqgF (act := (!(decide (a1 ≠ (0 : Int))))) (ag := true) (c := (decide (a1 ≠ (0 : Int)))) (v := (.bool (decide (a2 ≠ (0 : Int))))) hf rfl rfl rfl (fun hact => (r_ne (gb_ev hact rfl) rfl)) rfl rfl ?_; clear hf fa; intro fa hf
    refine sqv hf (r_pickO (b := (decide (a1 ≠ (0 : Int)))) (e := (decide (a2 ≠ (0 : Int)))) rfl rfl rfl) rfl rfl rfl ?_; clear hf fa; intro fa hf
    refine sqv hf (r_move rfl) rfl rfl rfl ?_; clear hf fa; intro fa hf
    refine sqgF (act := (!((decide (a1 ≠ (0 : Int))) || (decide (a2 ≠ (0 : Int)))))) (ag := true) (c := ((decide (a1 ≠ (0 : Int))) || (decide (a2 ≠ (0 : Int))))) (v := (.pointer (some ⟨b1, 3, none⟩))) hf rfl rfl rfl (fun hact => (r_fa rfl Try.underlying37 (f := 3) (q := 3) rfl (by kernel_rfl) rfl)) rfl rfl ?_; clear hf fa; intro fa hf
    refine sqgF (act := (!((decide (a1 ≠ (0 : Int))) || (decide (a2 ≠ (0 : Int)))))) (ag := true) (c := ((decide (a1 ≠ (0 : Int))) || (decide (a2 ≠ (0 : Int))))) (v := (.int .u32 a3)) hf rfl rfl rfl (fun hact => (r_load (v := (.int .u32 a3)) (gb_ev hact rfl) Try.underlying24 rfl (cell_blk hk1 rfl))) rfl rfl ?_; clear hf fa; intro fa hf
    refine sqgF (act := (!((decide (a1 ≠ (0 : Int))) || (decide (a2 ≠ (0 : Int)))))) (ag := true) (c := ((decide (a1 ≠ (0 : Int))) || (decide (a2 ≠ (0 : Int))))) (v := (.bool (decide (a3 ≠ (0 : Int))))) hf rfl rfl rfl (fun hact => (r_ne (gb_ev hact rfl) rfl)) rfl rfl ?_; clear hf fa; intro fa hf
    refine sqv hf (r_pickO (b := ((decide (a1 ≠ (0 : Int))) || (decide (a2 ≠ (0 : Int))))) (e := (decide (a3 ≠ (0 : Int)))) rfl rfl rfl) rfl rfl rfl ?_; clear hf fa; intro fa hf
    refine sqv hf (r_move rfl) rfl rfl rfl ?_; clear hf fa; intro fa hf
    refine sqgF (act := (!(((decide (a1 ≠ (0 : Int))) || (decide (a2 ≠ (0 : Int)))) || (decide (a3 ≠ (0 : Int)))))) (ag := true) (c := (((decide (a1 ≠ (0 : Int))) || (decide (a2 ≠ (0 : Int)))) || (decide (a3 ≠ (0 : Int))))) (v := (.pointer (some ⟨b1, 4, none⟩))) hf rfl rfl rfl (fun hact => (r_fa rfl Try.underlying37 (f := 4) (q := 4) rfl (by kernel_rfl) rfl)) rfl rfl ?_; clear hf fa; intro fa hf
    refine sqgF (act := (!(((decide (a1 ≠ (0 : Int))) || (decide (a2 ≠ (0 : Int)))) || (decide (a3 ≠ (0 : Int)))))) (ag := true) (c := (((decide (a1 ≠ (0 : Int))) || (decide (a2 ≠ (0 : Int)))) || (decide (a3 ≠ (0 : Int))))) (v := (.int .u32 a4)) hf rfl rfl rfl (fun hact => (r_load (v := (.int .u32 a4)) (gb_ev hact rfl) Try.underlying24 rfl (cell_blk hk1 rfl))) rfl rfl ?_; clear hf fa; intro fa hf
    refine sqgF (act := (!(((decide (a1 ≠ (0 : Int))) || (decide (a2 ≠ (0 : Int)))) || (decide (a3 ≠ (0 : Int)))))) (ag := true) (c := (((decide (a1 ≠ (0 : Int))) || (decide (a2 ≠ (0 : Int)))) || (decide (a3 ≠ (0 : Int))))) (v := (.bool (decide (a4 ≠ (0 : Int))))) hf rfl rfl rfl (fun hact => (r_ne (gb_ev hact rfl) rfl)) rfl rfl ?_; clear hf fa; intro fa hf
    refine sqv hf (r_pickO (b := (((decide (a1 ≠ (0 : Int))) || (decide (a2 ≠ (0 : Int)))) || (decide (a3 ≠ (0 : Int))))) (e := (decide (a4 ≠ (0 : Int)))) rfl rfl rfl) rfl rfl rfl ?_; clear hf fa; intro fa hf
    refine sqv hf (r_move rfl) rfl rfl rfl ?_; clear hf fa; intro fa hf
    refine sqgF (act := (!((((decide (a1 ≠ (0 : Int))) || (decide (a2 ≠ (0 : Int)))) || (decide (a3 ≠ (0 : Int)))) || (decide (a4 ≠ (0 : Int)))))) (ag := true) (c := ((((decide (a1 ≠ (0 : Int))) || (decide (a2 ≠ (0 : Int)))) || (decide (a3 ≠ (0 : Int)))) || (decide (a4 ≠ (0 : Int))))) (v := (.pointer (some ⟨b1, 5, none⟩))) hf rfl rfl rfl (fun hact => (r_fa rfl Try.underlying37 (f := 5) (q := 5) rfl (by kernel_rfl) rfl)) rfl rfl ?_; clear hf fa; intro fa hf
    refine sqgF (act := (!((((decide (a1 ≠ (0 : Int))) || (decide (a2 ≠ (0 : Int)))) || (decide (a3 ≠ (0 : Int)))) || (decide (a4 ≠ (0 : Int)))))) (ag := true) (c := ((((decide (a1 ≠ (0 : Int))) || (decide (a2 ≠ (0 : Int)))) || (decide (a3 ≠ (0 : Int)))) || (decide (a4 ≠ (0 : Int))))) (v := (.slice a L.length c)) hf rfl rfl rfl (fun hact => (r_load (v := (.slice a L.length c)) (gb_ev hact rfl) Try.underlying33 rfl (cell_blk hk1 rfl))) rfl rfl ?_; clear hf fa; intro fa hf
    refine sqgF (act := (!((((decide (a1 ≠ (0 : Int))) || (decide (a2 ≠ (0 : Int)))) || (decide (a3 ≠ (0 : Int)))) || (decide (a4 ≠ (0 : Int)))))) (ag := true) (c := ((((decide (a1 ≠ (0 : Int))) || (decide (a2 ≠ (0 : Int)))) || (decide (a3 ≠ (0 : Int)))) || (decide (a4 ≠ (0 : Int))))) (v := (.int .i64 ((L.length : Nat) : Int))) hf rfl rfl rfl (fun hact => (r_lensl (gb_ev hact rfl) Try.underlying33)) rfl rfl ?_; clear hf fa; intro fa hf
    refine sqgF (act := (!((((decide (a1 ≠ (0 : Int))) || (decide (a2 ≠ (0 : Int)))) || (decide (a3 ≠ (0 : Int)))) || (decide (a4 ≠ (0 : Int)))))) (ag := true) (c := ((((decide (a1 ≠ (0 : Int))) || (decide (a2 ≠ (0 : Int)))) || (decide (a3 ≠ (0 : Int)))) || (decide (a4 ≠ (0 : Int))))) (v := (.bool (decide ((0 : Int) < ((L.length : Nat) : Int))))) hf rfl rfl rfl (fun hact => (r_gt (gb_ev hact rfl) rfl)) rfl rfl ?_; clear hf fa; intro fa hf
    refine sqv hf (r_pickO (b := ((((decide (a1 ≠ (0 : Int))) || (decide (a2 ≠ (0 : Int)))) || (decide (a3 ≠ (0 : Int)))) || (decide (a4 ≠ (0 : Int))))) (e := (decide ((0 : Int) < ((L.length : Nat) : Int)))) rfl rfl rfl) rfl rfl rfl ?_; clear hf fa; intro fa hf
    apply wpList_nil
    (try simp only [Exit.then, Exit.inBlock, ↓reduceIte, Nat.reduceEqDiff])
    refine hK5 _ _ ?_
    refine wp_cond_split (t := (((((decide (a1 ≠ (0 : Int))) || (decide (a2 ≠ (0 : Int)))) || (decide (a3 ≠ (0 : Int)))) || (decide (a4 ≠ (0 : Int)))) || (decide ((0 : Int) < ((L.length : Nat) : Int))))) (hf.ev rfl) (fun hqt31_1 => ?_) (fun hqt31_1 => ?_)
    · have hqt31_1b := hqt31_1
      try simp only [decide_eq_true_eq, Bool.and_eq_true, Bool.or_eq_true, Bool.not_eq_true', decide_eq_false_iff_not, ne_eq, Bool.not_eq_true] at hqt31_1
      refine wp_seq_k (fun K6 hK6 => ?_)
      refine wp_region_lit ?_
      refine sqv hf (r_assign rfl) rfl rfl rfl ?_; clear hf fa; intro fa hf
      apply wpList_nil
      (try simp only [Exit.then, Exit.inBlock, ↓reduceIte, Nat.reduceEqDiff])
      refine hK6 _ _ ?_
      refine wp_ret ?_
      (try simp only [Exit.then, Exit.inBlock])
      refine ret1 hf rfl rfl ?_
      refine ⟨congrArg (fun n => Ending.returned (.int .i64 n)) ?_, hb⟩; unfold drightP; rw [hqt7_1b, orv_ne h1 h2 h3 h4, hqt31_1b]; rfl
    · have hqt31_1b := hqt31_1
      replace hqt31_1 := Bool.eq_false_iff.1 hqt31_1
      try simp only [ne_eq, decide_eq_true_eq, Bool.and_eq_true, Bool.or_eq_true, Bool.not_eq_true', decide_eq_false_iff_not] at hqt31_1
      refine wp_skip ?_
      (try simp only [Exit.then, Exit.inBlock, ↓reduceIte, Nat.reduceEqDiff])
      refine hK4 _ _ ?_
      refine wp_seq_k (fun K7 hK7 => ?_)
      refine wp_region_lit ?_
      refine sqv hf (r_assign rfl) rfl rfl rfl ?_; clear hf fa; intro fa hf
      apply wpList_nil
      (try simp only [Exit.then, Exit.inBlock, ↓reduceIte, Nat.reduceEqDiff])
      refine hK7 _ _ ?_
      refine wp_ret ?_
      (try simp only [Exit.then, Exit.inBlock])
      refine ret1 hf rfl rfl ?_
      refine ⟨congrArg (fun n => Ending.returned (.int .i64 n)) ?_, hb⟩; unfold drightP; rw [hqt7_1b, orv_ne h1 h2 h3 h4, hqt31_1b]; rfl
  · have hqt7_1b := hqt7_1
    replace hqt7_1 := Bool.eq_false_iff.1 hqt7_1
    try simp only [ne_eq, decide_eq_true_eq, Bool.and_eq_true, Bool.or_eq_true, Bool.not_eq_true', decide_eq_false_iff_not] at hqt7_1
    refine wp_skip ?_
    (try simp only [Exit.then, Exit.inBlock, ↓reduceIte, Nat.reduceEqDiff])
    refine hK2 _ _ ?_
    refine wp_seq_k (fun K8 hK8 => ?_)
    refine wp_seq_k (fun K9 hK9 => ?_)
    refine wp_region_lit ?_
    refine sqv hf (r_fa rfl Try.underlying37 (f := 2) (q := 2) rfl (by kernel_rfl) rfl) rfl rfl rfl ?_; clear hf fa; intro fa hf
    refine sqv hf (r_load (v := (.int .u32 a2)) rfl Try.underlying24 rfl (cell_blk hk1 rfl)) rfl rfl rfl ?_; clear hf fa; intro fa hf
    refine sqv hf (r_gt rfl rfl) rfl rfl rfl ?_; clear hf fa; intro fa hf
    refine sqv hf (r_move rfl) rfl rfl rfl ?_; clear hf fa; intro fa hf
    refine sqgF (act := (!(decide ((20 : Int) < a2)))) (ag := true) (c := (decide ((20 : Int) < a2))) (v := (.pointer (some ⟨b1, 4, none⟩))) hf rfl rfl rfl (fun hact => (r_fa rfl Try.underlying37 (f := 4) (q := 4) rfl (by kernel_rfl) rfl)) rfl rfl ?_; clear hf fa; intro fa hf
    refine sqgF (act := (!(decide ((20 : Int) < a2)))) (ag := true) (c := (decide ((20 : Int) < a2))) (v := (.int .u32 a4)) hf rfl rfl rfl (fun hact => (r_load (v := (.int .u32 a4)) (gb_ev hact rfl) Try.underlying24 rfl (cell_blk hk1 rfl))) rfl rfl ?_; clear hf fa; intro fa hf
    refine sqgF (act := (!(decide ((20 : Int) < a2)))) (ag := true) (c := (decide ((20 : Int) < a2))) (v := (.bool (decide ((20 : Int) < a4)))) hf rfl rfl rfl (fun hact => (r_gt (gb_ev hact rfl) rfl)) rfl rfl ?_; clear hf fa; intro fa hf
    refine sqv hf (r_pickO (b := (decide ((20 : Int) < a2))) (e := (decide ((20 : Int) < a4))) rfl rfl rfl) rfl rfl rfl ?_; clear hf fa; intro fa hf
    apply wpList_nil
    (try simp only [Exit.then, Exit.inBlock, ↓reduceIte, Nat.reduceEqDiff])
    refine hK9 _ _ ?_
    refine wp_cond_split (t := ((decide ((20 : Int) < a2)) || (decide ((20 : Int) < a4)))) (hf.ev rfl) (fun hqt39_1 => ?_) (fun hqt39_1 => ?_)
    · have hqt39_1b := hqt39_1
      try simp only [decide_eq_true_eq, Bool.and_eq_true, Bool.or_eq_true, Bool.not_eq_true', decide_eq_false_iff_not, ne_eq, Bool.not_eq_true] at hqt39_1
      refine wp_seq_k (fun K10 hK10 => ?_)
      refine wp_region_lit ?_
      refine sqv hf (r_assign rfl) rfl rfl rfl ?_; clear hf fa; intro fa hf
      apply wpList_nil
      (try simp only [Exit.then, Exit.inBlock, ↓reduceIte, Nat.reduceEqDiff])
      refine hK10 _ _ ?_
      refine wp_ret ?_
      (try simp only [Exit.then, Exit.inBlock])
      refine ret1 hf rfl rfl ?_
      refine ⟨congrArg (fun n => Ending.returned (.int .i64 n)) ?_, hb⟩; unfold drightP; rw [hqt7_1b, hqt39_1b]; rfl
    · have hqt39_1b := hqt39_1
      replace hqt39_1 := Bool.eq_false_iff.1 hqt39_1
      try simp only [ne_eq, decide_eq_true_eq, Bool.and_eq_true, Bool.or_eq_true, Bool.not_eq_true', decide_eq_false_iff_not] at hqt39_1
      refine wp_skip ?_
      (try simp only [Exit.then, Exit.inBlock, ↓reduceIte, Nat.reduceEqDiff])
      refine hK8 _ _ ?_
      refine wp_seq_k (fun K11 hK11 => ?_)
      refine wp_seq_k (fun K12 hK12 => ?_)
      refine wp_region_lit ?_
      refine sqv hf (r_fa rfl Try.underlying37 (f := 5) (q := 5) rfl (by kernel_rfl) rfl) rfl rfl rfl ?_; clear hf fa; intro fa hf
      refine sqv hf (r_load (v := (.slice a L.length c)) rfl Try.underlying33 rfl (cell_blk hk1 rfl)) rfl rfl rfl ?_; clear hf fa; intro fa hf
      refine sqv hf (r_lensl rfl Try.underlying33) rfl rfl rfl ?_; clear hf fa; intro fa hf
      refine sqv hf (r_gt rfl rfl) rfl rfl rfl ?_; clear hf fa; intro fa hf
      apply wpList_nil
      (try simp only [Exit.then, Exit.inBlock, ↓reduceIte, Nat.reduceEqDiff])
      refine hK12 _ _ ?_
      refine wp_cond_split (t := (decide ((200 : Int) < ((L.length : Nat) : Int)))) (hf.ev rfl) (fun hqt43_1 => ?_) (fun hqt43_1 => ?_)
      · have hqt43_1b := hqt43_1
        try simp only [decide_eq_true_eq, Bool.and_eq_true, Bool.or_eq_true, Bool.not_eq_true', decide_eq_false_iff_not, ne_eq, Bool.not_eq_true] at hqt43_1
        refine wp_seq_k (fun K13 hK13 => ?_)
        refine wp_region_lit ?_
        refine sqv hf (r_assign rfl) rfl rfl rfl ?_; clear hf fa; intro fa hf
        apply wpList_nil
        (try simp only [Exit.then, Exit.inBlock, ↓reduceIte, Nat.reduceEqDiff])
        refine hK13 _ _ ?_
        refine wp_ret ?_
        (try simp only [Exit.then, Exit.inBlock])
        refine ret1 hf rfl rfl ?_
        refine ⟨congrArg (fun n => Ending.returned (.int .i64 n)) ?_, hb⟩; unfold drightP; rw [hqt7_1b, hqt39_1b, hqt43_1b]; rfl
      · have hqt43_1b := hqt43_1
        replace hqt43_1 := Bool.eq_false_iff.1 hqt43_1
        try simp only [ne_eq, decide_eq_true_eq, Bool.and_eq_true, Bool.or_eq_true, Bool.not_eq_true', decide_eq_false_iff_not] at hqt43_1
        refine wp_skip ?_
        (try simp only [Exit.then, Exit.inBlock, ↓reduceIte, Nat.reduceEqDiff])
        refine hK11 _ _ ?_
        refine wp_seq_k (fun K14 hK14 => ?_)
        refine wp_seq_k (fun K15 hK15 => ?_)
        refine wp_region_lit ?_
        refine sqv hf (r_assign rfl) rfl rfl rfl ?_; clear hf fa; intro fa hf
        apply wpList_nil
        (try simp only [Exit.then, Exit.inBlock, ↓reduceIte, Nat.reduceEqDiff])
        refine hK15 _ _ ?_
        refine wp_block ?_
        refine wp_loop_k (fun mq fa wr => ∃ (k : Nat), mq = L.length - k ∧ Fr 81 fa [(1, (.pointer (some ⟨b1, 0, none⟩))), (3, (.int .i64 ((k : Nat) : Int)))] ∧ Below w.heap.size w wr ∧ wr.heap[b1]? = some (.cells #[(.bool has), (.int .u32 a1), (.int .u32 a2), (.int .u32 a3), (.int .u32 a4), (.slice a L.length c)] 37 (0, 0)) ∧ (k ≤ L.length) ∧ (dupR [] L = dupR (L.take k) (L.drop k))) ?_ ?_
        · skip
          exact ⟨_, 0, rfl, hf.sub ⟨rfl, (some_int (by first | rfl | omega)), trivial⟩, hb, hk1, by omega, rfl⟩
        · skip
          clear hf fa; intro mq1 fa w2 hI KL1 hKL1
          clear hb
          clear hk1
          obtain ⟨k, hmq1, hf, hb, hkb1, hk, Hs⟩ := hI
          refine wp_seq_k (fun K16 hK16 => ?_)
          refine wp_seq_k (fun K17 hK17 => ?_)
          refine wp_region_lit ?_
          refine sqv hf (r_move rfl) rfl rfl rfl ?_; clear hf fa; intro fa hf
          refine sqv hf (r_fa rfl Try.underlying37 (f := 5) (q := 5) rfl (by kernel_rfl) rfl) rfl rfl rfl ?_; clear hf fa; intro fa hf
          refine sqv hf (r_load (v := (.slice a L.length c)) rfl Try.underlying33 rfl (cell_blk hkb1 rfl)) rfl rfl rfl ?_; clear hf fa; intro fa hf
          refine sqv hf (r_lensl rfl Try.underlying33) rfl rfl rfl ?_; clear hf fa; intro fa hf
          refine sqv hf (r_lt rfl rfl) rfl rfl rfl ?_; clear hf fa; intro fa hf
          apply wpList_nil
          (try simp only [Exit.then, Exit.inBlock, ↓reduceIte, Nat.reduceEqDiff])
          refine hK17 _ _ ?_
          refine wp_cond_split (t := (decide (((k : Nat) : Int) < ((L.length : Nat) : Int)))) (hf.ev rfl) (fun hqt48_1 => ?_) (fun hqt48_1 => ?_)
          · have hqt48_1b := hqt48_1
            try simp only [decide_eq_true_eq, Bool.and_eq_true, Bool.or_eq_true, Bool.not_eq_true', decide_eq_false_iff_not, ne_eq, Bool.not_eq_true] at hqt48_1
            refine wp_skip ?_
            (try simp only [Exit.then, Exit.inBlock, ↓reduceIte, Nat.reduceEqDiff])
            refine hK16 _ _ ?_
            refine wp_seq_k (fun K18 hK18 => ?_)
            refine wp_block ?_
            refine wp_seq_k (fun K19 hK19 => ?_)
            refine wp_seq_k (fun K20 hK20 => ?_)
            obtain ⟨y, hy⟩ : ∃ x, L[k]? = some x := ⟨_, List.getElem?_eq_getElem (by omega)⟩
            have hys := hL y (List.mem_of_getElem? hy)
            refine wp_region_lit ?_
            refine sqv hf (r_fa rfl Try.underlying37 (f := 5) (q := 5) rfl (by kernel_rfl) rfl) rfl rfl rfl ?_; clear hf fa; intro fa hf
            refine sqv hf (r_load (v := (.slice a L.length c)) rfl Try.underlying33 rfl (cell_blk hkb1 rfl)) rfl rfl rfl ?_; clear hf fa; intro fa hf
            refine sqv hf (r_move rfl) rfl rfl rfl ?_; clear hf fa; intro fa hf
            have hy1 : (L)[k]? = some y := hy
            obtain ⟨ab1, aoff1, hat1, hlb1, hel1⟩ := RdS.at hl hy1
            refine sqv hf (r_ixa (sz := 1) (j := k) (evAt rfl hat1) rfl Try.underlying33 (by kernel_rfl) rfl (by omega) rfl) rfl rfl rfl ?_; clear hf fa; intro fa hf
            refine sqv hf (r_load (v := (.string y)) rfl Try.underlying9 rfl (cellsAt_cell (cellsAt_below hel1 hb hlb1) (i := 0) rfl rfl)) rfl rfl rfl ?_; clear hf fa; intro fa hf
            refine sqv hf (r_lens rfl Try.underlying9) rfl rfl rfl ?_; clear hf fa; intro fa hf
            refine sqv hf (r_gt rfl rfl) rfl rfl rfl ?_; clear hf fa; intro fa hf
            apply wpList_nil
            (try simp only [Exit.then, Exit.inBlock, ↓reduceIte, Nat.reduceEqDiff])
            refine hK20 _ _ ?_
            refine wp_cond_split (t := (decide ((200 : Int) < ((y.size : Nat) : Int)))) (hf.ev rfl) (fun hqt57_1 => ?_) (fun hqt57_1 => ?_)
            · have hqt57_1b := hqt57_1
              try simp only [decide_eq_true_eq, Bool.and_eq_true, Bool.or_eq_true, Bool.not_eq_true', decide_eq_false_iff_not, ne_eq, Bool.not_eq_true] at hqt57_1
              refine wp_seq_k (fun K21 hK21 => ?_)
              refine wp_region_lit ?_
              refine sqv hf (r_assign rfl) rfl rfl rfl ?_; clear hf fa; intro fa hf
              apply wpList_nil
              (try simp only [Exit.then, Exit.inBlock, ↓reduceIte, Nat.reduceEqDiff])
              refine hK21 _ _ ?_
              refine wp_ret ?_
              (try simp only [Exit.then, Exit.inBlock])
              refine ret1 hf rfl rfl ?_
              have hcf : Ut.checkF y = 13 := by unfold Ut.checkF; rw [if_pos (by have h := hqt57_1; omega)]
              refine ⟨congrArg (fun n => Ending.returned (.int .i64 n)) ?_, hb⟩; unfold drightP; rw [hqt7_1b, hqt39_1b, hqt43_1b]; simp only [cond_false]; rw [Hs, drop_at hy, dupR, if_pos (by rw [hcf]; decide), hcf]
            · have hqt57_1b := hqt57_1
              replace hqt57_1 := Bool.eq_false_iff.1 hqt57_1
              try simp only [ne_eq, decide_eq_true_eq, Bool.and_eq_true, Bool.or_eq_true, Bool.not_eq_true', decide_eq_false_iff_not] at hqt57_1
              refine wp_skip ?_
              (try simp only [Exit.then, Exit.inBlock, ↓reduceIte, Nat.reduceEqDiff])
              refine hK19 _ _ ?_
              refine wp_seq_k (fun K22 hK22 => ?_)
              refine wp_seq_k (fun K23 hK23 => ?_)
              refine wp_region_lit ?_
              refine sqv hf (r_fa rfl Try.underlying37 (f := 5) (q := 5) rfl (by kernel_rfl) rfl) rfl rfl rfl ?_; clear hf fa; intro fa hf
              refine sqv hf (r_load (v := (.slice a L.length c)) rfl Try.underlying33 rfl (cell_blk hkb1 rfl)) rfl rfl rfl ?_; clear hf fa; intro fa hf
              refine sqv hf (r_move rfl) rfl rfl rfl ?_; clear hf fa; intro fa hf
              refine sqv hf (r_ixa (sz := 1) (j := k) (evAt rfl hat1) rfl Try.underlying33 (by kernel_rfl) rfl (by omega) rfl) rfl rfl rfl ?_; clear hf fa; intro fa hf
              refine sqv hf (r_load (v := (.string y)) rfl Try.underlying9 rfl (cellsAt_cell (cellsAt_below hel1 hb hlb1) (i := 0) rfl rfl)) rfl rfl rfl ?_; clear hf fa; intro fa hf
              refine sqdt hf (d_callB (vs := [(.string y)]) rfl Try.func84 (by kernel_rfl) (by kernel_rfl) (Ut.refCount_any y _ (by omega))) rfl rfl rfl ?_; clear hf fa; rintro fa _ w3 ⟨rfl, he2⟩ hf
              replace hkb1 := blk_ext hkb1 he2
              replace hb := hb.trans (Below.mono he2 hb.size)
              refine sqv hf (r_lt rfl rfl) rfl rfl rfl ?_; clear hf fa; intro fa hf
              apply wpList_nil
              (try simp only [Exit.then, Exit.inBlock, ↓reduceIte, Nat.reduceEqDiff])
              refine hK23 _ _ ?_
              refine wp_cond_split (t := (decide (((Ut.cnt (Ut.bl y))) < (0 : Int)))) (hf.ev rfl) (fun hqt64_1 => ?_) (fun hqt64_1 => ?_)
              · have hqt64_1b := hqt64_1
                try simp only [decide_eq_true_eq, Bool.and_eq_true, Bool.or_eq_true, Bool.not_eq_true', decide_eq_false_iff_not, ne_eq, Bool.not_eq_true] at hqt64_1
                refine wp_seq_k (fun K24 hK24 => ?_)
                refine wp_region_lit ?_
                refine sqv hf (r_assign rfl) rfl rfl rfl ?_; clear hf fa; intro fa hf
                apply wpList_nil
                (try simp only [Exit.then, Exit.inBlock, ↓reduceIte, Nat.reduceEqDiff])
                refine hK24 _ _ ?_
                refine wp_ret ?_
                (try simp only [Exit.then, Exit.inBlock])
                refine ret1 hf rfl rfl ?_
                have hcf : Ut.checkF y = 4 := by unfold Ut.checkF; rw [if_neg (by have h := hqt57_1; omega), if_neg (by have h := hqt64_1; omega)]
                refine ⟨congrArg (fun n => Ending.returned (.int .i64 n)) ?_, hb⟩; unfold drightP; rw [hqt7_1b, hqt39_1b, hqt43_1b]; simp only [cond_false]; rw [Hs, drop_at hy, dupR, if_pos (by rw [hcf]; decide), hcf]
              · have hqt64_1b := hqt64_1
                replace hqt64_1 := Bool.eq_false_iff.1 hqt64_1
                try simp only [ne_eq, decide_eq_true_eq, Bool.and_eq_true, Bool.or_eq_true, Bool.not_eq_true', decide_eq_false_iff_not] at hqt64_1
                refine wp_skip ?_
                (try simp only [Exit.then, Exit.inBlock, ↓reduceIte, Nat.reduceEqDiff])
                refine hK22 _ _ ?_
                refine wp_seq_k (fun K25 hK25 => ?_)
                have hkl := (List.getElem?_eq_some_iff.1 hy).1
                have hck : Ut.checkF y = 0 := by unfold Ut.checkF; rw [if_neg (by have h := hqt57_1; omega), if_pos (by have h := hqt64_1; omega)]
                refine wp_region_lit ?_
                refine sqv hf (r_assign rfl) rfl rfl rfl ?_; clear hf fa; intro fa hf
                apply wpList_nil
                (try simp only [Exit.then, Exit.inBlock, ↓reduceIte, Nat.reduceEqDiff])
                refine hK25 _ _ ?_
                refine wp_block ?_
                refine wp_loop_k (fun mq fa wr => ∃ (j : Nat), mq = k - j ∧ Fr 81 fa [(1, (.pointer (some ⟨b1, 0, none⟩))), (3, (.int .i64 ((k : Nat) : Int))), (4, (.int .i64 ((j : Nat) : Int)))] ∧ Below w.heap.size w wr ∧ wr.heap[b1]? = some (.cells #[(.bool has), (.int .u32 a1), (.int .u32 a2), (.int .u32 a3), (.int .u32 a4), (.slice a L.length c)] 37 (0, 0)) ∧ (j ≤ k) ∧ (y ∉ L.take j)) ?_ ?_
                · skip
                  exact ⟨_, 0, rfl, hf.sub ⟨rfl, rfl, (some_int (by first | rfl | omega)), trivial⟩, hb, hkb1, by omega, by simp⟩
                · skip
                  clear hf fa; intro mq2 fa w4 hI KL2 hKL2
                  clear hb
                  clear hkb1
                  obtain ⟨j, hmq2, hf, hb, hkb1, hj, Hj⟩ := hI
                  refine wp_seq_k (fun K26 hK26 => ?_)
                  refine wp_seq_k (fun K27 hK27 => ?_)
                  refine wp_region_lit ?_
                  refine sqv hf (r_move rfl) rfl rfl rfl ?_; clear hf fa; intro fa hf
                  refine sqv hf (r_move rfl) rfl rfl rfl ?_; clear hf fa; intro fa hf
                  refine sqv hf (r_lt rfl rfl) rfl rfl rfl ?_; clear hf fa; intro fa hf
                  apply wpList_nil
                  (try simp only [Exit.then, Exit.inBlock, ↓reduceIte, Nat.reduceEqDiff])
                  refine hK27 _ _ ?_
                  refine wp_cond_split (t := (decide (((j : Nat) : Int) < ((k : Nat) : Int)))) (hf.ev rfl) (fun hqt67_1 => ?_) (fun hqt67_1 => ?_)
                  · have hqt67_1b := hqt67_1
                    try simp only [decide_eq_true_eq, Bool.and_eq_true, Bool.or_eq_true, Bool.not_eq_true', decide_eq_false_iff_not, ne_eq, Bool.not_eq_true] at hqt67_1
                    refine wp_skip ?_
                    (try simp only [Exit.then, Exit.inBlock, ↓reduceIte, Nat.reduceEqDiff])
                    refine hK26 _ _ ?_
                    refine wp_seq_k (fun K28 hK28 => ?_)
                    refine wp_block ?_
                    refine wp_seq_k (fun K29 hK29 => ?_)
                    obtain ⟨z, hz⟩ : ∃ x, L[j]? = some x := ⟨_, List.getElem?_eq_getElem (by omega)⟩
                    have hy2 : (L)[j]? = some z := hz
                    obtain ⟨_, _, hab1, hlb2, hel2⟩ := RdS.at hl hy2
                    rw [hat1] at hab1; cases hab1
                    refine wp_region_un (fun wq => Below w4.heap.size w4 wq) (fun w w' => Below w.heap.size w w')
                      (fun V => [(fun x _ => x = (.pointer (some ⟨b1, 5, none⟩))), (fun x _ => x = (.slice a L.length c)), (fun x _ => x = (.int .i64 ((k : Nat) : Int))), (fun x _ => x = (.pointer (some ⟨ab1, (aoff1 + k * 1), none⟩))), (fun x _ => x = (.string y)), (fun x _ => x = (.pointer (some ⟨b1, 5, none⟩))), (fun x _ => x = (.slice a L.length c)), (fun x _ => x = (.int .i64 ((j : Nat) : Int))), (fun x _ => x = (.pointer (some ⟨ab1, (aoff1 + j * 1), none⟩))), (fun x _ => x = (.string z)), (fun x _ => x = (.bool (decide (y = z))))])
                      []
                      [[], [0], [], [1, 2], [3], [], [5], [], [6, 7], [8], [4, 9]]
                      hf (by kernel_rfl) (by kernel_rfl) (fun _ => rfl) ((Below.refl _ _).drew) (fun a b h1 h2 => h1.trans (h2.mono h1.size)) (fun _ _ h => h.size) (fun V => ⟨kept_eq, kept_eq, kept_eq, kept_eq, kept_eq, kept_eq, kept_eq, kept_eq, kept_eq, kept_eq, kept_eq, trivial⟩) (fun _ _ _ _ _ => rfl) ?_ ?_
                    · skip
                      intro V
                      refine ⟨fun wu0 hC hd => ?_, ?_⟩
                      · clear hd
                        replace hb := hb.trans (hC.mono hb.size)
                        replace hkb1 := blk_ext hkb1 hC
                        exact Runs.does (r_fa rfl Try.underlying37 (f := 5) (q := 5) rfl (by kernel_rfl) rfl) ⟨Below.refl _ _, rfl, nofr rfl⟩
                      refine ⟨fun wu1 hC hd => ?_, ?_⟩
                      · obtain ⟨h0, _⟩ := hd
                        skip
                        replace h0 : V 0 = (.pointer (some ⟨b1, 5, none⟩)) := h0
                        replace hb := hb.trans (hC.mono hb.size)
                        replace hkb1 := blk_ext hkb1 hC
                        exact Runs.does (r_load (v := (.slice a L.length c)) (congrArg some h0) Try.underlying33 rfl (cell_blk hkb1 rfl)) ⟨Below.refl _ _, rfl, nofr rfl⟩
                      refine ⟨fun wu2 hC hd => ?_, ?_⟩
                      · clear hd
                        replace hb := hb.trans (hC.mono hb.size)
                        replace hkb1 := blk_ext hkb1 hC
                        exact Runs.does (r_move rfl) ⟨Below.refl _ _, rfl, nofr rfl⟩
                      refine ⟨fun wu3 hC hd => ?_, ?_⟩
                      · obtain ⟨h1, h2, _⟩ := hd
                        skip
                        skip
                        replace h1 : V 1 = (.slice a L.length c) := h1
                        replace h2 : V 2 = (.int .i64 ((k : Nat) : Int)) := h2
                        replace hb := hb.trans (hC.mono hb.size)
                        replace hkb1 := blk_ext hkb1 hC
                        exact Runs.does (r_ixa (sz := 1) (j := k) (evAt (congrArg some h1) hat1) (congrArg some h2) Try.underlying33 (by kernel_rfl) rfl (by omega) rfl) ⟨Below.refl _ _, rfl, nofr rfl⟩
                      refine ⟨fun wu4 hC hd => ?_, ?_⟩
                      · obtain ⟨h3, _⟩ := hd
                        skip
                        replace h3 : V 3 = (.pointer (some ⟨ab1, (aoff1 + k * 1), none⟩)) := h3
                        replace hb := hb.trans (hC.mono hb.size)
                        replace hkb1 := blk_ext hkb1 hC
                        exact Runs.does (r_load (v := (.string y)) (congrArg some h3) Try.underlying9 rfl (cellsAt_cell (cellsAt_below hel1 hb hlb1) (i := 0) rfl rfl)) ⟨Below.refl _ _, rfl, nofr rfl⟩
                      refine ⟨fun wu5 hC hd => ?_, ?_⟩
                      · clear hd
                        replace hb := hb.trans (hC.mono hb.size)
                        replace hkb1 := blk_ext hkb1 hC
                        exact Runs.does (r_fa rfl Try.underlying37 (f := 5) (q := 5) rfl (by kernel_rfl) rfl) ⟨Below.refl _ _, rfl, nofr rfl⟩
                      refine ⟨fun wu6 hC hd => ?_, ?_⟩
                      · obtain ⟨h5, _⟩ := hd
                        skip
                        replace h5 : V 5 = (.pointer (some ⟨b1, 5, none⟩)) := h5
                        replace hb := hb.trans (hC.mono hb.size)
                        replace hkb1 := blk_ext hkb1 hC
                        exact Runs.does (r_load (v := (.slice a L.length c)) (congrArg some h5) Try.underlying33 rfl (cell_blk hkb1 rfl)) ⟨Below.refl _ _, rfl, nofr rfl⟩
                      refine ⟨fun wu7 hC hd => ?_, ?_⟩
                      · clear hd
                        replace hb := hb.trans (hC.mono hb.size)
                        replace hkb1 := blk_ext hkb1 hC
                        exact Runs.does (r_move rfl) ⟨Below.refl _ _, rfl, nofr rfl⟩
                      refine ⟨fun wu8 hC hd => ?_, ?_⟩
                      · obtain ⟨h6, h7, _⟩ := hd
                        skip
                        skip
                        replace h6 : V 6 = (.slice a L.length c) := h6
                        replace h7 : V 7 = (.int .i64 ((j : Nat) : Int)) := h7
                        replace hb := hb.trans (hC.mono hb.size)
                        replace hkb1 := blk_ext hkb1 hC
                        exact Runs.does (r_ixa (sz := 1) (j := j) (evAt (congrArg some h6) hat1) (congrArg some h7) Try.underlying33 (by kernel_rfl) rfl (by omega) rfl) ⟨Below.refl _ _, rfl, nofr rfl⟩
                      refine ⟨fun wu9 hC hd => ?_, ?_⟩
                      · obtain ⟨h8, _⟩ := hd
                        skip
                        replace h8 : V 8 = (.pointer (some ⟨ab1, (aoff1 + j * 1), none⟩)) := h8
                        replace hb := hb.trans (hC.mono hb.size)
                        replace hkb1 := blk_ext hkb1 hC
                        exact Runs.does (r_load (v := (.string z)) (congrArg some h8) Try.underlying9 rfl (cellsAt_cell (cellsAt_below hel2 hb hlb2) (i := 0) rfl rfl)) ⟨Below.refl _ _, rfl, nofr rfl⟩
                      refine ⟨fun wu10 hC hd => ?_, ?_⟩
                      · obtain ⟨h4, h9, _⟩ := hd
                        skip
                        skip
                        replace h4 : V 4 = (.string y) := h4
                        replace h9 : V 9 = (.string z) := h9
                        replace hb := hb.trans (hC.mono hb.size)
                        replace hkb1 := blk_ext hkb1 hC
                        exact Runs.does (r_seq (congrArg some h4) (congrArg some h9)) ⟨Below.refl _ _, rfl, nofr rfl⟩
                      trivial
                    · skip
                      clear hf fa; intro V w5 fa he3 hp hnb hf
                      have hv0 : V 0 = (.pointer (some ⟨b1, 5, none⟩)) := postsHold_at hp 0 rfl
                      have hv1 : V 1 = (.slice a L.length c) := postsHold_at hp 1 rfl
                      have hv2 : V 2 = (.int .i64 ((k : Nat) : Int)) := postsHold_at hp 2 rfl
                      have hv3 : V 3 = (.pointer (some ⟨ab1, (aoff1 + k * 1), none⟩)) := postsHold_at hp 3 rfl
                      have hv4 : V 4 = (.string y) := postsHold_at hp 4 rfl
                      have hv5 : V 5 = (.pointer (some ⟨b1, 5, none⟩)) := postsHold_at hp 5 rfl
                      have hv6 : V 6 = (.slice a L.length c) := postsHold_at hp 6 rfl
                      have hv7 : V 7 = (.int .i64 ((j : Nat) : Int)) := postsHold_at hp 7 rfl
                      have hv8 : V 8 = (.pointer (some ⟨ab1, (aoff1 + j * 1), none⟩)) := postsHold_at hp 8 rfl
                      have hv9 : V 9 = (.string z) := postsHold_at hp 9 rfl
                      have hv10 : V 10 = (.bool (decide (y = z))) := postsHold_at hp 10 rfl
                      simp only [List.take_succ_cons, List.take_zero, insAll, ins, hv0, hv1, hv2, hv3, hv4, hv5, hv6, hv7, hv8, hv9, hv10] at hf
                      clear hp hnb hv0 hv1 hv2 hv3 hv4 hv5 hv6 hv7 hv8 hv9 hv10
                      replace hkb1 := blk_ext hkb1 he3
                      replace hb := hb.trans (Below.mono he3 hb.size)
                      (try simp only [Exit.then, Exit.inBlock, ↓reduceIte, Nat.reduceEqDiff])
                      refine hK29 _ _ ?_
                      refine wp_cond_split (t := (decide (y = z))) (hf.ev rfl) (fun hqt80_1 => ?_) (fun hqt80_1 => ?_)
                      · have hqt80_1b := hqt80_1
                        try simp only [decide_eq_true_eq, Bool.and_eq_true, Bool.or_eq_true, Bool.not_eq_true', decide_eq_false_iff_not, ne_eq, Bool.not_eq_true] at hqt80_1
                        refine wp_seq_k (fun K30 hK30 => ?_)
                        refine wp_region_lit ?_
                        refine sqv hf (r_assign rfl) rfl rfl rfl ?_; clear hf fa; intro fa hf
                        apply wpList_nil
                        (try simp only [Exit.then, Exit.inBlock, ↓reduceIte, Nat.reduceEqDiff])
                        refine hK30 _ _ ?_
                        refine wp_ret ?_
                        (try simp only [Exit.then, Exit.inBlock])
                        refine ret1 hf rfl rfl ?_
                        refine ⟨congrArg (fun n => Ending.returned (.int .i64 n)) ?_, hb⟩; unfold drightP; rw [hqt7_1b, hqt39_1b, hqt43_1b]; simp only [cond_false]; rw [Hs, drop_at hy, dupR, if_neg (by simpa using hck), if_pos (hasS_iff.2 (List.mem_iff_getElem?.2 ⟨j, by rw [List.getElem?_take_of_lt (by omega), hz, hqt80_1]⟩))]
                      · have hqt80_1b := hqt80_1
                        replace hqt80_1 := Bool.eq_false_iff.1 hqt80_1
                        try simp only [ne_eq, decide_eq_true_eq, Bool.and_eq_true, Bool.or_eq_true, Bool.not_eq_true', decide_eq_false_iff_not] at hqt80_1
                        refine wp_skip ?_
                        (try simp only [Exit.then, Exit.inBlock, ↓reduceIte, Nat.reduceEqDiff])
                        refine hK28 _ _ ?_
                        refine wp_region_lit ?_
                        refine sqv hf (r_move rfl) rfl rfl rfl ?_; clear hf fa; intro fa hf
                        refine sqv hf (r_add (C := (((j : Nat) : Int) + (1 : Int))) rfl rfl (by rw [IntKind.wrap_i64]; omega)) rfl rfl rfl ?_; clear hf fa; intro fa hf
                        refine sqv hf (r_assign rfl) rfl rfl rfl ?_; clear hf fa; intro fa hf
                        apply wpList_nil
                        (try simp only [Exit.then, Exit.inBlock, ↓reduceIte, Nat.reduceEqDiff])
                        refine hKL2 _ _ _ (by omega) ⟨(j + 1), rfl, hf.sub ⟨rfl, rfl, (some_int (by first | rfl | omega)), trivial⟩, hb, hkb1, by omega, (by rw [take_at hz]; intro hm; rcases List.mem_append.1 hm with hm | hm; exact Hj hm; exact hqt80_1 (List.mem_singleton.1 hm))⟩
                  · have hqt67_1b := hqt67_1
                    replace hqt67_1 := Bool.eq_false_iff.1 hqt67_1
                    try simp only [ne_eq, decide_eq_true_eq, Bool.and_eq_true, Bool.or_eq_true, Bool.not_eq_true', decide_eq_false_iff_not] at hqt67_1
                    refine wp_exit ?_
                    (try simp only [Exit.then, Exit.inBlock, ↓reduceIte, Nat.reduceEqDiff])
                    refine hK18 _ _ ?_
                    refine wp_region_lit ?_
                    refine sqv hf (r_move rfl) rfl rfl rfl ?_; clear hf fa; intro fa hf
                    refine sqv hf (r_add (C := (((k : Nat) : Int) + (1 : Int))) rfl rfl (by rw [IntKind.wrap_i64]; omega)) rfl rfl rfl ?_; clear hf fa; intro fa hf
                    refine sqv hf (r_assign rfl) rfl rfl rfl ?_; clear hf fa; intro fa hf
                    apply wpList_nil
                    (try simp only [Exit.then, Exit.inBlock, ↓reduceIte, Nat.reduceEqDiff])
                    refine hKL1 _ _ _ (by omega) ⟨(k + 1), rfl, hf.sub ⟨rfl, (some_int (by first | rfl | omega)), trivial⟩, hb, hkb1, by omega, (by have h := Hs; rw [drop_at hy, dupR, if_neg (by simpa using hck), if_neg (fun e => Hj (by rw [show j = k by omega]; exact hasS_iff.1 e)), ← take_at hy] at h; exact h)⟩
          · have hqt48_1b := hqt48_1
            replace hqt48_1 := Bool.eq_false_iff.1 hqt48_1
            try simp only [ne_eq, decide_eq_true_eq, Bool.and_eq_true, Bool.or_eq_true, Bool.not_eq_true', decide_eq_false_iff_not] at hqt48_1
            refine wp_exit ?_
            (try simp only [Exit.then, Exit.inBlock, ↓reduceIte, Nat.reduceEqDiff])
            refine hK14 _ _ ?_
            refine wp_seq_k (fun K31 hK31 => ?_)
            refine wp_region_lit ?_
            refine sqv hf (r_assign rfl) rfl rfl rfl ?_; clear hf fa; intro fa hf
            apply wpList_nil
            (try simp only [Exit.then, Exit.inBlock, ↓reduceIte, Nat.reduceEqDiff])
            refine hK31 _ _ ?_
            refine wp_ret ?_
            (try simp only [Exit.then, Exit.inBlock])
            refine ret1 hf rfl rfl ?_
            refine ⟨congrArg (fun n => Ending.returned (.int .i64 n)) ?_, hb⟩; unfold drightP; rw [hqt7_1b, hqt39_1b, hqt43_1b]; simp only [cond_false]; rw [Hs, List.drop_eq_nil_of_le (by omega)]; cases L.take k <;> rfl

def partL (t : Int) (X : List Int) : List Int := [t] ++ uL X.length ++ X
theorem part2_any (t : Int) (a : Option Addr) (l : List Int) (c : Nat) (w : World) (X : List Int) (hX : l = X) (hl : RdS 1 (vInt .u8) w a l) (hll : l.length ≤ 100000) (hm : l.length ≤ c ∧ c ≤ 9223372036854775807) (hn : a = none → c = 0) : Calls Try.prog 134 #[.int .u8 t, .slice a l.length c] w fun e w' => ∃ v, e = .returned v ∧ Row 1 (vInt .u8) 5 w.heap.size w' v (partL t X) ∧ Below w.heap.size w w' := by
  subst hX
  exact part_any t a l c w hl hll hm hn
def infoL (a1 a2 a3 a4 : Int) : List Int := [a1, a2, a3, a4].flatMap fun a => uL a.toNat
def nameB (s : ByteArray) : List Int := uL s.size ++ nums s
def needL (L : List ByteArray) : List Int := uL L.length ++ L.flatMap nameB
def encD (a1 a2 a3 a4 : Int) (L : List ByteArray) : List Int := partL 1 (infoL a1 a2 a3 a4) ++ (if L.length = 0 then [] else partL 2 (needL L))
/-- What Put answers: the error. -/
def dputE (has : Bool) (a1 a2 a3 a4 : Int) (L : List ByteArray) : Int := if drightP has a1 a2 a3 a4 L ≠ 0 then drightP has a1 a2 a3 a4 L else bif !has then 15 else 0
def dputL (has : Bool) (a1 a2 a3 a4 : Int) (L : List ByteArray) : List Int := if dputE has a1 a2 a3 a4 L = 0 then encD a1 a2 a3 a4 L else []
theorem infoL_form (a1 a2 a3 a4 : Int) : infoL a1 a2 a3 a4 = uL a1.toNat ++ (uL a2.toNat ++ (uL a3.toNat ++ uL a4.toNat)) := by
  unfold infoL; simp
theorem u32len {a : Int} (h : 0 ≤ a ∧ a < 4294967296) : 1 ≤ (uL a.toNat).length ∧ (uL a.toNat).length ≤ 10 := uL_len _ (by omega)
theorem infoL_len {a1 a2 a3 a4 : Int} (h1 : 0 ≤ a1 ∧ a1 < 4294967296) (h2 : 0 ≤ a2 ∧ a2 < 4294967296) (h3 : 0 ≤ a3 ∧ a3 < 4294967296) (h4 : 0 ≤ a4 ∧ a4 < 4294967296) : (infoL a1 a2 a3 a4).length ≤ 40 := by
  have := u32len h1; have := u32len h2; have := u32len h3; have := u32len h4
  rw [infoL_form]; simp only [List.length_append]; omega
theorem nameB_len {s : ByteArray} (h : s.size ≤ 300) : (nameB s).length ≤ 310 := by
  have := uL_len s.size (by omega)
  unfold nameB; rw [List.length_append, nums_len]; omega
theorem needL_len {L : List ByteArray} (h : fewP L = true) : (needL L).length ≤ 10000 := by
  obtain ⟨h1, h2⟩ := few_iff.1 h
  have := uL_len L.length (by omega)
  have := fm_len (f := nameB) (B := 310) L (fun y hy => nameB_len (h2 y hy))
  unfold needL; rw [List.length_append]; omega
theorem four_at {a1 a2 a3 a4 : Int} {k : Nat} (h : k < 4) : ∃ x, [a1, a2, a3, a4][k]? = some x ∧ (x = a1 ∨ x = a2 ∨ x = a3 ∨ x = a4) := by
  have : k = 0 ∨ k = 1 ∨ k = 2 ∨ k = 3 := by omega
  rcases this with rfl | rfl | rfl | rfl
  · exact ⟨_, rfl, .inl rfl⟩
  · exact ⟨_, rfl, .inr (.inl rfl)⟩
  · exact ⟨_, rfl, .inr (.inr (.inl rfl))⟩
  · exact ⟨_, rfl, .inr (.inr (.inr rfl))⟩

set_option maxHeartbeats 1000000 in
set_option maxRecDepth 100000 in
theorem dput_any (has : Bool) (a1 a2 a3 a4 : Int) (a : Option Addr) (L : List ByteArray) (c : Nat) (w : World) (hl : RdS 1 vStr w a L) (hc : L.length ≤ 9223372036854775807) (hcp : L.length ≤ c) (h1 : 0 ≤ a1 ∧ a1 < 4294967296) (h2 : 0 ≤ a2 ∧ a2 < 4294967296) (h3 : 0 ≤ a3 ∧ a3 < 4294967296) (h4 : 0 ≤ a4 ∧ a4 < 4294967296) (hfw : L.length ≤ 30 ∧ ∀ s ∈ L, s.size ≤ 300) : Calls Try.prog 90 #[(.agg #[(.bool has), (.int .u32 a1), (.int .u32 a2), (.int .u32 a3), (.int .u32 a4), (.slice a L.length c)])] w fun e w' => ∃ u, e = .returned u ∧ ∃ a5 c5, u = .tuple #[.slice a5 (dputL has a1 a2 a3 a4 L).length c5, .int .i64 (dputE has a1 a2 a3 a4 L)] ∧ Row 1 (vInt .u8) 5 w.heap.size w' (.slice a5 (dputL has a1 a2 a3 a4 L).length c5) (dputL has a1 a2 a3 a4 L) ∧ Below w.heap.size w w' := by
  refine sx_enter (L := [(0, (.agg #[(.bool has), (.int .u32 a1), (.int .u32 a2), (.int .u32 a3), (.int .u32 a4), (.slice a L.length c)]))]) Try.func90 rfl rfl rfl rfl (fun fa hf => ?_)
  have hb : Below w.heap.size w w := Below.refl _ _
  refine wp_seq_k (fun K1 hK1 => ?_)
  refine wp_region_lit ?_
  refine sqdt hf (d_box (cs := #[(.bool has), (.int .u32 a1), (.int .u32 a2), (.int .u32 a3), (.int .u32 a4), (.slice a L.length c)]) rfl rfl) rfl rfl rfl ?_; clear hf fa; rintro fa _ w1 ⟨b1, rfl, hle1, hk1, he1⟩ hf
  have hBb1 : w.heap.size ≤ b1 := Nat.le_trans hb.size hle1
  replace hb := hb.trans (Below.mono he1 hb.size)
  refine sqv hf (r_assign rfl) rfl rfl rfl ?_; clear hf fa; intro fa hf
  refine sqv hf (r_assign rfl) rfl rfl rfl ?_; clear hf fa; intro fa hf
  apply wpList_nil
  (try simp only [Exit.then, Exit.inBlock, ↓reduceIte, Nat.reduceEqDiff])
  refine hK1 _ _ ?_
  refine wp_seq_k (fun K2 hK2 => ?_)
  refine wp_seq_k (fun K3 hK3 => ?_)
  refine wp_region_lit ?_
  refine sqv hf (r_loadA (cs := [(.bool has), (.int .u32 a1), (.int .u32 a2), (.int .u32 a3), (.int .u32 a4), (.slice a L.length c)]) rfl Try.underlying37 rfl (by kernel_rfl) (cellsAt_blk hk1)) rfl rfl rfl ?_; clear hf fa; intro fa hf
  refine sqdt hf (d_callB (vs := [(.agg #[(.bool has), (.int .u32 a1), (.int .u32 a2), (.int .u32 a3), (.int .u32 a4), (.slice a L.length c)])]) rfl Try.func25 (by kernel_rfl) (by kernel_rfl) (dright_any has a1 a2 a3 a4 a L c _ (RdS.ext hl hb) hc hcp (fun s hs => by have := hfw.2 s hs; omega))) rfl rfl rfl ?_; clear hf fa; rintro fa _ w2 ⟨rfl, he2⟩ hf
  replace hk1 := blk_ext hk1 he2
  replace hb := hb.trans (Below.mono he2 hb.size)
  refine sqv hf (r_assign rfl) rfl rfl rfl ?_; clear hf fa; intro fa hf
  apply wpList_nil
  (try simp only [Exit.then, Exit.inBlock, ↓reduceIte, Nat.reduceEqDiff])
  refine hK3 _ _ ?_
  refine wp_seq_k (fun K4 hK4 => ?_)
  refine wp_region_lit ?_
  refine sqv hf (r_move rfl) rfl rfl rfl ?_; clear hf fa; intro fa hf
  refine sqv hf (r_ne rfl rfl) rfl rfl rfl ?_; clear hf fa; intro fa hf
  apply wpList_nil
  (try simp only [Exit.then, Exit.inBlock, ↓reduceIte, Nat.reduceEqDiff])
  refine hK4 _ _ ?_
  refine wp_cond_split (t := (decide (((drightP has a1 a2 a3 a4 L)) ≠ (0 : Int)))) (hf.ev rfl) (fun hqt15_1 => ?_) (fun hqt15_1 => ?_)
  · have hqt15_1b := hqt15_1
    try simp only [decide_eq_true_eq, Bool.and_eq_true, Bool.or_eq_true, Bool.not_eq_true', decide_eq_false_iff_not, ne_eq, Bool.not_eq_true] at hqt15_1
    refine wp_seq_k (fun K5 hK5 => ?_)
    refine wp_region_lit ?_
    refine sqv hf (r_move rfl) rfl rfl rfl ?_; clear hf fa; intro fa hf
    refine sqv hf (r_assign rfl) rfl rfl rfl ?_; clear hf fa; intro fa hf
    refine sqv hf (r_assign rfl) rfl rfl rfl ?_; clear hf fa; intro fa hf
    apply wpList_nil
    (try simp only [Exit.then, Exit.inBlock, ↓reduceIte, Nat.reduceEqDiff])
    refine hK5 _ _ ?_
    refine wp_ret ?_
    (try simp only [Exit.then, Exit.inBlock])
    refine ret2 hf rfl rfl rfl ?_
    have hz : ¬ drightP has a1 a2 a3 a4 L = 0 := hqt15_1
    have hE : dputE has a1 a2 a3 a4 L = drightP has a1 a2 a3 a4 L := by unfold dputE; rw [if_pos hz]
    have hp : dputL has a1 a2 a3 a4 L = [] := by unfold dputL; rw [if_neg (by rw [hE]; exact hz)]
    rw [hE, hp]
    exact ⟨_, rfl, none, 0, rfl, Row.nil, hb⟩
  · have hqt15_1b := hqt15_1
    replace hqt15_1 := Bool.eq_false_iff.1 hqt15_1
    try simp only [ne_eq, decide_eq_true_eq, Bool.and_eq_true, Bool.or_eq_true, Bool.not_eq_true', decide_eq_false_iff_not] at hqt15_1
    refine wp_skip ?_
    (try simp only [Exit.then, Exit.inBlock, ↓reduceIte, Nat.reduceEqDiff])
    refine hK2 _ _ ?_
    refine wp_seq_k (fun K6 hK6 => ?_)
    refine wp_seq_k (fun K7 hK7 => ?_)
    refine wp_region_lit ?_
    refine sqv hf (r_fa rfl Try.underlying37 (f := 0) (q := 0) rfl (by kernel_rfl) rfl) rfl rfl rfl ?_; clear hf fa; intro fa hf
    refine sqv hf (r_load (v := (.bool has)) rfl Try.underlying4 rfl (cell_blk hk1 rfl)) rfl rfl rfl ?_; clear hf fa; intro fa hf
    refine sqv hf (r_not rfl) rfl rfl rfl ?_; clear hf fa; intro fa hf
    apply wpList_nil
    (try simp only [Exit.then, Exit.inBlock, ↓reduceIte, Nat.reduceEqDiff])
    refine hK7 _ _ ?_
    refine wp_cond_split (t := (!has)) (hf.ev rfl) (fun hqt19_1 => ?_) (fun hqt19_1 => ?_)
    · have hqt19_1b := hqt19_1
      try simp only [decide_eq_true_eq, Bool.and_eq_true, Bool.or_eq_true, Bool.not_eq_true', decide_eq_false_iff_not, ne_eq, Bool.not_eq_true] at hqt19_1
      refine wp_seq_k (fun K8 hK8 => ?_)
      refine wp_region_lit ?_
      refine sqv hf (r_assign rfl) rfl rfl rfl ?_; clear hf fa; intro fa hf
      refine sqv hf (r_assign rfl) rfl rfl rfl ?_; clear hf fa; intro fa hf
      apply wpList_nil
      (try simp only [Exit.then, Exit.inBlock, ↓reduceIte, Nat.reduceEqDiff])
      refine hK8 _ _ ?_
      refine wp_ret ?_
      (try simp only [Exit.then, Exit.inBlock])
      refine ret2 hf rfl rfl rfl ?_
      have hz : drightP has a1 a2 a3 a4 L = 0 := by have h := hqt15_1; omega
      have hE : dputE has a1 a2 a3 a4 L = 15 := by unfold dputE; rw [if_neg (by simpa using hz), hqt19_1b]; rfl
      have hp : dputL has a1 a2 a3 a4 L = [] := by unfold dputL; rw [if_neg (by rw [hE]; decide)]
      rw [hE, hp]
      exact ⟨_, rfl, none, 0, rfl, Row.nil, hb⟩
    · have hqt19_1b := hqt19_1
      replace hqt19_1 := Bool.eq_false_iff.1 hqt19_1
      try simp only [ne_eq, decide_eq_true_eq, Bool.and_eq_true, Bool.or_eq_true, Bool.not_eq_true', decide_eq_false_iff_not] at hqt19_1
      refine wp_skip ?_
      (try simp only [Exit.then, Exit.inBlock, ↓reduceIte, Nat.reduceEqDiff])
      refine hK6 _ _ ?_
      refine wp_seq_k (fun K9 hK9 => ?_)
      refine wp_region_lit ?_
      refine sqv hf (r_assign rfl) rfl rfl rfl ?_; clear hf fa; intro fa hf
      apply wpList_nil
      (try simp only [Exit.then, Exit.inBlock, ↓reduceIte, Nat.reduceEqDiff])
      refine hK9 _ _ ?_
      refine wp_seq_k (fun K10 hK10 => ?_)
      refine wp_seq_k (fun K11 hK11 => ?_)
      refine wp_region_lit ?_
      refine sqv hf (r_fa rfl Try.underlying37 (f := 1) (q := 1) rfl (by kernel_rfl) rfl) rfl rfl rfl ?_; clear hf fa; intro fa hf
      refine sqv hf (r_load (v := (.int .u32 a1)) rfl Try.underlying24 rfl (cell_blk hk1 rfl)) rfl rfl rfl ?_; clear hf fa; intro fa hf
      refine sqv hf (r_fa rfl Try.underlying37 (f := 2) (q := 2) rfl (by kernel_rfl) rfl) rfl rfl rfl ?_; clear hf fa; intro fa hf
      refine sqv hf (r_load (v := (.int .u32 a2)) rfl Try.underlying24 rfl (cell_blk hk1 rfl)) rfl rfl rfl ?_; clear hf fa; intro fa hf
      refine sqv hf (r_fa rfl Try.underlying37 (f := 3) (q := 3) rfl (by kernel_rfl) rfl) rfl rfl rfl ?_; clear hf fa; intro fa hf
      refine sqv hf (r_load (v := (.int .u32 a3)) rfl Try.underlying24 rfl (cell_blk hk1 rfl)) rfl rfl rfl ?_; clear hf fa; intro fa hf
      refine sqv hf (r_fa rfl Try.underlying37 (f := 4) (q := 4) rfl (by kernel_rfl) rfl) rfl rfl rfl ?_; clear hf fa; intro fa hf
      refine sqv hf (r_load (v := (.int .u32 a4)) rfl Try.underlying24 rfl (cell_blk hk1 rfl)) rfl rfl rfl ?_; clear hf fa; intro fa hf
      refine sqdt hf (d_bslice (z := (.int .u32 (0 : Int))) (sz := 1) (vs := [(0, (.int .u32 a1)), (1, (.int .u32 a2)), (2, (.int .u32 a3)), (3, (.int .u32 a4))]) (cs := #[(.int .u32 a1), (.int .u32 a2), (.int .u32 a3), (.int .u32 a4)]) rfl Try.underlying173 (by kernel_rfl) rfl (by kernel_rfl)) rfl rfl rfl ?_; clear hf fa; rintro fa _ w3 ⟨b2, rfl, hle2, hk2, he3⟩ hf
      have hBb2 : w.heap.size ≤ b2 := Nat.le_trans hb.size hle2
      have : b1 < b2 := Nat.lt_of_lt_of_le (blk_lt hk1) hle2
      replace hk1 := blk_ext hk1 he3
      replace hb := hb.trans (Below.mono he3 hb.size)
      have hr1 := Row.of_new (k := 1) (V := (vInt .u32)) (l := [a1, a2, a3, a4]) (base := w.heap.size) hk2 (by omega) rfl rfl (Nat.le_of_ble_eq_true rfl)
      refine sqv hf (r_lensl rfl Try.underlying173) rfl rfl rfl ?_; clear hf fa; intro fa hf
      refine sqv hf (r_move rfl) rfl rfl rfl ?_; clear hf fa; intro fa hf
      apply wpList_nil
      (try simp only [Exit.then, Exit.inBlock, ↓reduceIte, Nat.reduceEqDiff])
      refine hK11 _ _ ?_
      refine wp_block ?_
      refine wp_loop_k (fun mq fa wr => ∃ (k : Nat) (roa : Option Addr) (roc : Nat), mq = 4 - k ∧ Fr 72 fa [(1, (.pointer (some ⟨b1, 0, none⟩))), (29, (.int .i64 (4 : Int))), (30, (.int .i64 ((k : Nat) : Int))), (28, (.slice (some ⟨b2, 0, none⟩) 4 4)), (5, (.slice roa (((([a1, a2, a3, a4].take k).flatMap (fun (a : Int) => uL a.toNat))).length) roc))] ∧ Below w.heap.size w wr ∧ Row 1 (vInt .u8) 5 (w.heap.size) wr (.slice roa (((([a1, a2, a3, a4].take k).flatMap (fun (a : Int) => uL a.toNat))).length) roc) (([a1, a2, a3, a4].take k).flatMap (fun (a : Int) => uL a.toNat)) ∧ Row 1 (vInt .u32) 24 (w.heap.size) wr (.slice (some ⟨b2, 0, none⟩) (4) 4) [a1, a2, a3, a4] ∧ wr.heap[b1]? = some (.cells #[(.bool has), (.int .u32 a1), (.int .u32 a2), (.int .u32 a3), (.int .u32 a4), (.slice a L.length c)] 37 (0, 0)) ∧ (k ≤ 4)) ?_ ?_
      · skip
        exact ⟨_, 0, none, 0, rfl, hf.sub ⟨rfl, rfl, (some_int (by first | rfl | omega)), rfl, (some_sl (by first | omega | (simp only [List.length_append, List.length_cons, List.length_nil]; omega) | (simp <;> omega)) rfl), trivial⟩, hb, Row.nil, hr1, hk1, by omega⟩
      · skip
        clear hf fa; intro mq1 fa w4 hI KL1 hKL1
        clear hb
        clear hk1
        clear hr1
        obtain ⟨k, roa, roc, hmq1, hf, hb, hro, hrhr1, hkb1, hk⟩ := hI
        have hcro := Row.caps hro
        have hcrhr1 := Row.caps hrhr1
        have hI4 : (([a1, a2, a3, a4].take k).flatMap (fun (a : Int) => uL a.toNat)).length ≤ 40 := by have h := fm_len (f := fun (a : Int) => uL a.toNat) (B := 10) ([a1, a2, a3, a4].take k) (fun y hy => by have hm := List.mem_of_mem_take hy; simp only [List.mem_cons, List.not_mem_nil, or_false] at hm; rcases hm with rfl | rfl | rfl | rfl; exact (u32len h1).2; exact (u32len h2).2; exact (u32len h3).2; exact (u32len h4).2); rw [List.length_take] at h; omega
        refine wp_seq_k (fun K12 hK12 => ?_)
        refine wp_region_lit ?_
        refine sqv hf (r_lt rfl rfl) rfl rfl rfl ?_; clear hf fa; intro fa hf
        apply wpList_nil
        (try simp only [Exit.then, Exit.inBlock, ↓reduceIte, Nat.reduceEqDiff])
        refine hK12 _ _ ?_
        refine wp_seq_k (fun K13 hK13 => ?_)
        refine wp_cond_split (t := (decide (((k : Nat) : Int) < (4 : Int)))) (hf.ev rfl) (fun hqt31_1 => ?_) (fun hqt31_1 => ?_)
        · have hqt31_1b := hqt31_1
          try simp only [decide_eq_true_eq, Bool.and_eq_true, Bool.or_eq_true, Bool.not_eq_true', decide_eq_false_iff_not, ne_eq, Bool.not_eq_true] at hqt31_1
          refine wp_skip ?_
          (try simp only [Exit.then, Exit.inBlock, ↓reduceIte, Nat.reduceEqDiff])
          refine hK13 _ _ ?_
          refine wp_seq_k (fun K14 hK14 => ?_)
          refine wp_block ?_
          refine wp_seq_k (fun K15 hK15 => ?_)
          obtain ⟨x4, hx4, hx4c⟩ := four_at (a1 := a1) (a2 := a2) (a3 := a3) (a4 := a4) (k := k) (by omega)
          have hxr : 0 ≤ x4 ∧ x4 < 4294967296 := by rcases hx4c with rfl | rfl | rfl | rfl <;> assumption
          have hux := u32len hxr
          refine wp_region_lit ?_
          have hy1 : ([a1, a2, a3, a4])[k]? = some x4 := hx4
          have hel1 := RdS.at (Row.rd (by intros; rfl) hrhr1) hy1
          obtain ⟨_, _, hab, hlr1, hel1⟩ := hel1
          cases hab
          refine sqv hf (r_ixa (sz := 1) (j := k) rfl rfl Try.underlying173 (by kernel_rfl) rfl (by omega) rfl) rfl rfl rfl ?_; clear hf fa; intro fa hf
          refine sqv hf (r_load (v := (.int .u32 x4)) rfl Try.underlying24 rfl (cellsAt_cell hel1 (i := 0) rfl rfl)) rfl rfl rfl ?_; clear hf fa; intro fa hf
          refine sqv hf (r_assign rfl) rfl rfl rfl ?_; clear hf fa; intro fa hf
          apply wpList_nil
          (try simp only [Exit.then, Exit.inBlock, ↓reduceIte, Nat.reduceEqDiff])
          refine hK15 _ _ ?_
          refine wp_region_lit ?_
          refine sqv hf (r_move rfl) rfl rfl rfl ?_; clear hf fa; intro fa hf
          refine sqv hf (r_move rfl) rfl rfl rfl ?_; clear hf fa; intro fa hf
          refine sqv hf (r_conv (C := x4) rfl Try.underlying24 Try.underlying55 (by rw [IntKind.wrap_u64]; omega)) rfl rfl rfl ?_; clear hf fa; intro fa hf
          refine sqdt hf (d_callX (vs := [(.int .u64 x4)]) rfl Try.func110 (by kernel_rfl) (by kernel_rfl) (uint_rowI x4 (by omega) (by omega) _)) rfl rfl rfl ?_; clear hf fa; rintro fa v w5 ⟨hr2, he4⟩ hf; obtain ⟨ra1, rc1, rfl, hcrc1, hmrc1⟩ := Row.slice hr2
          replace hr2 := Row.rebase hr2 hb.size
          replace hkb1 := blk_ext hkb1 he4
          replace hro := Row.ext hro he4
          replace hrhr1 := Row.ext hrhr1 he4
          replace hb := hb.trans (Below.mono he4 hb.size)
          refine sqdt hf (d_append (V := (vInt .u8)) (k := 1) (e := 5) (bytes := 1) (z := (.int .u8 (0 : Int))) (news := (uL x4.toNat)) (base := w.heap.size) (by intros; rfl) (by intro x u hu; simp only [vInt, List.mem_singleton] at hu; subst hu; rfl) rfl rfl Try.underlying47 (by kernel_rfl) rfl rfl rfl hro (Row.rd (by intros; rfl) hr2) rfl (fun h => Row.nocap hr2 h) (by first | omega | (simp only [List.length_cons, List.length_nil, List.length_append, nums_len]; omega)) (by have := hb.size; omega)) rfl rfl rfl ?_; clear hf fa; rintro fa v w6 ⟨hr3, hg1⟩ hf; obtain ⟨ra2, rc2, rfl, hcrc2, hmrc2⟩ := Row.slice hr3
          replace hkb1 := blk_row' hkb1 hg1 (Row.ne_type hro hkb1 rfl)
          replace hrhr1 := Row.grown' hrhr1 hg1 (Row.ne_row hrhr1 hro rfl)
          replace hb := hb.trans (row_below hro hg1 hb.size (by have := hb.size; omega))
          refine sqv hf (r_assign rfl) rfl rfl rfl ?_; clear hf fa; intro fa hf
          apply wpList_nil
          (try simp only [Exit.then, Exit.inBlock, ↓reduceIte, Nat.reduceEqDiff])
          refine hK14 _ _ ?_
          refine wp_region_lit ?_
          refine sqv hf (r_add (C := (((k : Nat) : Int) + (1 : Int))) rfl rfl (by rw [IntKind.wrap_i64]; omega)) rfl rfl rfl ?_; clear hf fa; intro fa hf
          refine sqv hf (r_move rfl) rfl rfl rfl ?_; clear hf fa; intro fa hf
          apply wpList_nil
          (try simp only [Exit.then, Exit.inBlock, ↓reduceIte, Nat.reduceEqDiff])
          have hrl : (([a1, a2, a3, a4].take (k + 1)).flatMap (fun (a : Int) => uL a.toNat)) = (([a1, a2, a3, a4].take k).flatMap (fun (a : Int) => uL a.toNat)) ++ uL x4.toNat := fm_take hx4
          have hrl2 := congrArg List.length hrl
          refine hKL1 _ _ _ (by omega) ⟨(k + 1), ra2, rc2, rfl, hf.sub ⟨rfl, rfl, (some_int (by first | rfl | omega)), rfl, (some_sl (by first | omega | (simp only [List.length_append, List.length_cons, List.length_nil]; omega) | (simp <;> omega)) rfl), trivial⟩, hb, (lrowTo hr3 hrl.symm), hrhr1, hkb1, by omega⟩
        · have hqt31_1b := hqt31_1
          replace hqt31_1 := Bool.eq_false_iff.1 hqt31_1
          try simp only [ne_eq, decide_eq_true_eq, Bool.and_eq_true, Bool.or_eq_true, Bool.not_eq_true', decide_eq_false_iff_not] at hqt31_1
          refine wp_exit ?_
          (try simp only [Exit.then, Exit.inBlock, ↓reduceIte, Nat.reduceEqDiff])
          refine hK10 _ _ ?_
          refine wp_seq_k (fun K16 hK16 => ?_)
          have hi4 : (([a1, a2, a3, a4].take k).flatMap (fun (a : Int) => uL a.toNat)) = infoL a1 a2 a3 a4 := by rw [show k = 4 by omega]; rfl
          have hi4l := congrArg List.length hi4
          have hi4b := infoL_len h1 h2 h3 h4
          have hp1 : (partL 1 (infoL a1 a2 a3 a4)).length ≤ 60 := by have := uL_len (infoL a1 a2 a3 a4).length (by omega); unfold partL; simp only [List.length_append, List.length_cons, List.length_nil]; omega
          refine wp_region_lit ?_
          refine sqv hf (r_move rfl) rfl rfl rfl ?_; clear hf fa; intro fa hf
          refine sqdt hf (d_callX (vs := [(.int .u8 (1 : Int)), (.slice roa (((([a1, a2, a3, a4].take k).flatMap (fun (a : Int) => uL a.toNat))).length) roc)]) rfl Try.func134 (by kernel_rfl) (by kernel_rfl) (part2_any 1 roa (([a1, a2, a3, a4].take k).flatMap (fun (a : Int) => uL a.toNat)) roc _ (infoL a1 a2 a3 a4) hi4 (Row.rd (by intros; rfl) hro) (by omega) (by have := Row.caps hro; omega) (Row.nocap hro))) rfl rfl rfl ?_; clear hf fa; rintro fa v w7 ⟨hr4, he5⟩ hf; obtain ⟨ra3, rc3, rfl, hcrc3, hmrc3⟩ := Row.slice hr4
          replace hr4 := Row.rebase hr4 hb.size
          replace hkb1 := blk_ext hkb1 he5
          replace hro := Row.ext hro he5
          replace hrhr1 := Row.ext hrhr1 he5
          replace hb := hb.trans (Below.mono he5 hb.size)
          refine sqv hf (r_assign rfl) rfl rfl rfl ?_; clear hf fa; intro fa hf
          apply wpList_nil
          (try simp only [Exit.then, Exit.inBlock, ↓reduceIte, Nat.reduceEqDiff])
          refine hK16 _ _ ?_
          refine wp_seq_k (fun K17 hK17 => ?_)
          refine wp_seq_k (fun K18 hK18 => ?_)
          refine wp_region_lit ?_
          refine sqv hf (r_fa rfl Try.underlying37 (f := 5) (q := 5) rfl (by kernel_rfl) rfl) rfl rfl rfl ?_; clear hf fa; intro fa hf
          refine sqv hf (r_load (v := (.slice a L.length c)) rfl Try.underlying33 rfl (cell_blk hkb1 rfl)) rfl rfl rfl ?_; clear hf fa; intro fa hf
          refine sqv hf (r_lensl rfl Try.underlying33) rfl rfl rfl ?_; clear hf fa; intro fa hf
          refine sqv hf (r_eq rfl rfl) rfl rfl rfl ?_; clear hf fa; intro fa hf
          apply wpList_nil
          (try simp only [Exit.then, Exit.inBlock, ↓reduceIte, Nat.reduceEqDiff])
          refine hK18 _ _ ?_
          refine wp_cond_split (t := (decide (((L.length : Nat) : Int) = (0 : Int)))) (hf.ev rfl) (fun hqt45_1 => ?_) (fun hqt45_1 => ?_)
          · have hqt45_1b := hqt45_1
            try simp only [decide_eq_true_eq, Bool.and_eq_true, Bool.or_eq_true, Bool.not_eq_true', decide_eq_false_iff_not, ne_eq, Bool.not_eq_true] at hqt45_1
            refine wp_seq_k (fun K19 hK19 => ?_)
            refine wp_region_lit ?_
            refine sqv hf (r_move rfl) rfl rfl rfl ?_; clear hf fa; intro fa hf
            refine sqv hf (r_assign rfl) rfl rfl rfl ?_; clear hf fa; intro fa hf
            refine sqv hf (r_assign rfl) rfl rfl rfl ?_; clear hf fa; intro fa hf
            apply wpList_nil
            (try simp only [Exit.then, Exit.inBlock, ↓reduceIte, Nat.reduceEqDiff])
            refine hK19 _ _ ?_
            refine wp_ret ?_
            (try simp only [Exit.then, Exit.inBlock])
            refine ret2 hf rfl rfl rfl ?_
            have hz : drightP has a1 a2 a3 a4 L = 0 := by have h := hqt15_1; omega
            have hE : dputE has a1 a2 a3 a4 L = 0 := by unfold dputE; rw [if_neg (by simpa using hz), hqt19_1b]; rfl
            have hp : (partL 1 (infoL a1 a2 a3 a4)) = dputL has a1 a2 a3 a4 L := by unfold dputL encD; rw [if_pos hE, if_pos (by have h := hqt45_1; omega)]; simp
            have hpl := congrArg List.length hp
            exact ⟨_, rfl, _, _, (by rw [hpl, hE]), (hp ▸ hr4.relen), hb⟩
          · have hqt45_1b := hqt45_1
            replace hqt45_1 := Bool.eq_false_iff.1 hqt45_1
            try simp only [ne_eq, decide_eq_true_eq, Bool.and_eq_true, Bool.or_eq_true, Bool.not_eq_true', decide_eq_false_iff_not] at hqt45_1
            refine wp_skip ?_
            (try simp only [Exit.then, Exit.inBlock, ↓reduceIte, Nat.reduceEqDiff])
            refine hK17 _ _ ?_
            refine wp_seq_k (fun K20 hK20 => ?_)
            have hsep := fun q hq => (Row.lt hr4 q hq).2
            have hszB := hb.size
            skip
            refine wp_region_lit ?_
            refine sqv hf (r_fa rfl Try.underlying37 (f := 5) (q := 5) rfl (by kernel_rfl) rfl) rfl rfl rfl ?_; clear hf fa; intro fa hf
            refine sqv hf (r_load (v := (.slice a L.length c)) rfl Try.underlying33 rfl (cell_blk hkb1 rfl)) rfl rfl rfl ?_; clear hf fa; intro fa hf
            refine sqv hf (r_lensl rfl Try.underlying33) rfl rfl rfl ?_; clear hf fa; intro fa hf
            refine sqv hf (r_conv (C := ((L.length : Nat) : Int)) rfl Try.underlying3 Try.underlying55 (by rw [IntKind.wrap_u64]; omega)) rfl rfl rfl ?_; clear hf fa; intro fa hf
            refine sqdt hf (d_callX (vs := [(.int .u64 ((L.length : Nat) : Int))]) rfl Try.func110 (by kernel_rfl) (by kernel_rfl) (uint_row L.length (by omega) _)) rfl rfl rfl ?_; clear hf fa; rintro fa v w8 ⟨hr5, he6⟩ hf; obtain ⟨ra4, rc4, rfl, hcrc4, hmrc4⟩ := Row.slice hr5
            replace hkb1 := blk_ext hkb1 he6
            replace hro := Row.ext hro he6
            replace hrhr1 := Row.ext hrhr1 he6
            replace hr4 := Row.ext hr4 he6
            replace hb := hb.trans (Below.mono he6 hb.size)
            refine sqv hf (r_assign rfl) rfl rfl rfl ?_; clear hf fa; intro fa hf
            apply wpList_nil
            (try simp only [Exit.then, Exit.inBlock, ↓reduceIte, Nat.reduceEqDiff])
            refine hK20 _ _ ?_
            refine wp_seq_k (fun K21 hK21 => ?_)
            refine wp_seq_k (fun K22 hK22 => ?_)
            skip
            refine wp_region_lit ?_
            refine sqv hf (r_fa rfl Try.underlying37 (f := 5) (q := 5) rfl (by kernel_rfl) rfl) rfl rfl rfl ?_; clear hf fa; intro fa hf
            refine sqv hf (r_load (v := (.slice a L.length c)) rfl Try.underlying33 rfl (cell_blk hkb1 rfl)) rfl rfl rfl ?_; clear hf fa; intro fa hf
            refine sqv hf (r_lensl rfl Try.underlying33) rfl rfl rfl ?_; clear hf fa; intro fa hf
            refine sqv hf (r_move rfl) rfl rfl rfl ?_; clear hf fa; intro fa hf
            apply wpList_nil
            (try simp only [Exit.then, Exit.inBlock, ↓reduceIte, Nat.reduceEqDiff])
            refine hK22 _ _ ?_
            refine wp_block ?_
            refine wp_loop_k (fun mq fa wr => ∃ (k2 : Nat) (roa : Option Addr) (roc : Nat), mq = L.length - k2 ∧ Fr 72 fa [(1, (.pointer (some ⟨b1, 0, none⟩))), (53, (.slice a L.length c)), (54, (.int .i64 ((L.length : Nat) : Int))), (55, (.int .i64 ((k2 : Nat) : Int))), (8, (.slice ra3 (((partL 1 (infoL a1 a2 a3 a4))).length) rc3)), (9, (.slice roa (((uL L.length ++ (L.take k2).flatMap nameB)).length) roc))] ∧ Below w.heap.size w wr ∧ Row 1 (vInt .u8) 5 (w7.heap.size) wr (.slice roa (((uL L.length ++ (L.take k2).flatMap nameB)).length) roc) (uL L.length ++ (L.take k2).flatMap nameB) ∧ Row 1 (vInt .u8) 5 (w.heap.size) wr (.slice ra3 ((((partL 1 (infoL a1 a2 a3 a4))).length)) rc3) (partL 1 (infoL a1 a2 a3 a4)) ∧ wr.heap[b1]? = some (.cells #[(.bool has), (.int .u32 a1), (.int .u32 a2), (.int .u32 a3), (.int .u32 a4), (.slice a L.length c)] 37 (0, 0)) ∧ (k2 ≤ L.length)) ?_ ?_
            · skip
              exact ⟨_, 0, ra4, rc4, rfl, hf.sub ⟨rfl, rfl, rfl, (some_int (by first | rfl | omega)), rfl, (some_sl (by first | omega | (simp only [List.length_append, List.length_cons, List.length_nil]; omega) | (simp <;> omega)) rfl), trivial⟩, hb, (lrowTo hr5 (by simp)), hr4, hkb1, by omega⟩
            · skip
              clear hf fa; intro mq2 fa w9 hI KL2 hKL2
              clear hb
              clear hkb1
              clear hro
              clear hrhr1
              clear hr4
              clear hr5
              obtain ⟨k2, roa, roc, hmq2, hf, hb, hro, hra3, hkb1, hk2⟩ := hI
              have hcro := Row.caps hro
              have hcra3 := Row.caps hra3
              have huLn := uL_len L.length (by omega)
              have hfm := fm_len (f := nameB) (B := 310) (L.take k2) (fun y hy => nameB_len (hfw.2 y (List.mem_of_mem_take hy)))
              rw [List.length_take] at hfm
              have hNL : (uL L.length ++ (L.take k2).flatMap nameB).length ≤ 10000 := by rw [List.length_append]; omega
              refine wp_seq_k (fun K23 hK23 => ?_)
              refine wp_region_lit ?_
              refine sqv hf (r_lt rfl rfl) rfl rfl rfl ?_; clear hf fa; intro fa hf
              apply wpList_nil
              (try simp only [Exit.then, Exit.inBlock, ↓reduceIte, Nat.reduceEqDiff])
              refine hK23 _ _ ?_
              refine wp_seq_k (fun K24 hK24 => ?_)
              refine wp_cond_split (t := (decide (((k2 : Nat) : Int) < ((L.length : Nat) : Int)))) (hf.ev rfl) (fun hqt56_1 => ?_) (fun hqt56_1 => ?_)
              · have hqt56_1b := hqt56_1
                try simp only [decide_eq_true_eq, Bool.and_eq_true, Bool.or_eq_true, Bool.not_eq_true', decide_eq_false_iff_not, ne_eq, Bool.not_eq_true] at hqt56_1
                refine wp_skip ?_
                (try simp only [Exit.then, Exit.inBlock, ↓reduceIte, Nat.reduceEqDiff])
                refine hK24 _ _ ?_
                refine wp_seq_k (fun K25 hK25 => ?_)
                refine wp_block ?_
                refine wp_seq_k (fun K26 hK26 => ?_)
                obtain ⟨y, hy⟩ : ∃ x, L[k2]? = some x := ⟨_, List.getElem?_eq_getElem (by omega)⟩
                have hys := hfw.2 y (List.mem_of_getElem? hy)
                have huy := uL_len y.size (by omega)
                refine wp_region_lit ?_
                have hy2 : (L)[k2]? = some y := hy
                obtain ⟨ab1, aoff1, hat1, hlb1, hel2⟩ := RdS.at hl hy2
                refine sqv hf (r_ixa (sz := 1) (j := k2) (evAt rfl hat1) rfl Try.underlying33 (by kernel_rfl) rfl (by omega) rfl) rfl rfl rfl ?_; clear hf fa; intro fa hf
                refine sqv hf (r_load (v := (.string y)) rfl Try.underlying9 rfl (cellsAt_cell (cellsAt_below hel2 hb hlb1) (i := 0) rfl rfl)) rfl rfl rfl ?_; clear hf fa; intro fa hf
                refine sqv hf (r_assign rfl) rfl rfl rfl ?_; clear hf fa; intro fa hf
                apply wpList_nil
                (try simp only [Exit.then, Exit.inBlock, ↓reduceIte, Nat.reduceEqDiff])
                refine hK26 _ _ ?_
                refine wp_region_lit ?_
                refine sqv hf (r_move rfl) rfl rfl rfl ?_; clear hf fa; intro fa hf
                refine sqv hf (r_move rfl) rfl rfl rfl ?_; clear hf fa; intro fa hf
                refine sqv hf (r_lens rfl Try.underlying9) rfl rfl rfl ?_; clear hf fa; intro fa hf
                refine sqv hf (r_conv (C := ((y.size : Nat) : Int)) rfl Try.underlying3 Try.underlying55 (by rw [IntKind.wrap_u64]; omega)) rfl rfl rfl ?_; clear hf fa; intro fa hf
                refine sqdt hf (d_callX (vs := [(.int .u64 ((y.size : Nat) : Int))]) rfl Try.func110 (by kernel_rfl) (by kernel_rfl) (uint_row y.size (by omega) _)) rfl rfl rfl ?_; clear hf fa; rintro fa v w10 ⟨hr6, he7⟩ hf; obtain ⟨ra5, rc5, rfl, hcrc5, hmrc5⟩ := Row.slice hr6
                replace hr6 := Row.rebase hr6 hb.size
                replace hkb1 := blk_ext hkb1 he7
                replace hro := Row.ext hro he7
                replace hra3 := Row.ext hra3 he7
                replace hb := hb.trans (Below.mono he7 hb.size)
                refine sqdt hf (d_append (V := (vInt .u8)) (k := 1) (e := 5) (bytes := 1) (z := (.int .u8 (0 : Int))) (news := (uL y.size)) (base := w7.heap.size) (by intros; rfl) (by intro x u hu; simp only [vInt, List.mem_singleton] at hu; subst hu; rfl) rfl rfl Try.underlying47 (by kernel_rfl) rfl rfl rfl hro (Row.rd (by intros; rfl) hr6) rfl (fun h => Row.nocap hr6 h) (by first | omega | (simp only [List.length_cons, List.length_nil, List.length_append, nums_len]; omega)) (by first | (have := hb.size; omega) | (have := Row.base_le hro (by first | omega | (simp only [Sl.list_length, List.length_set, List.length_take, List.length_append, List.length_replicate, List.length_cons, List.length_nil, List.length_map, nums_len]; omega)); omega))) rfl rfl rfl ?_; clear hf fa; rintro fa v w11 ⟨hr7, hg2⟩ hf; obtain ⟨ra6, rc6, rfl, hcrc6, hmrc6⟩ := Row.slice hr7
                replace hkb1 := blk_row' hkb1 hg2 (Row.ne_type hro hkb1 rfl)
                replace hra3 := Row.grown' hra3 hg2 (fun q h1 h2 => Row.ne_base hro (hsep q h1) h2)
                replace hb := hb.trans (row_below hro hg2 hb.size (by have := hb.size; omega))
                refine sqv hf (r_move rfl) rfl rfl rfl ?_; clear hf fa; intro fa hf
                refine sqdt hf (d_appendS (base := w7.heap.size) (l := ((uL L.length ++ (L.take k2).flatMap nameB) ++ (uL y.size))) rfl rfl Try.underlying47 Try.underlying9 (by kernel_rfl) hr7 (by first | omega | (simp only [List.length_cons, List.length_nil, List.length_append, nums_len]; omega)) (by first | (have := hb.size; omega) | (have := Row.base_le hr7 (by first | omega | (simp only [Sl.list_length, List.length_set, List.length_take, List.length_append, List.length_replicate, List.length_cons, List.length_nil, List.length_map, nums_len]; omega)); omega))) rfl rfl rfl ?_; clear hf fa; rintro fa v w12 ⟨hr8, hg3⟩ hf; obtain ⟨ra7, rc7, rfl, hcrc7, hmrc7⟩ := Row.slice hr8
                replace hkb1 := blk_row' hkb1 hg3 (Row.ne_type hr7 hkb1 rfl)
                replace hra3 := Row.grown' hra3 hg3 (fun q h1 h2 => Row.ne_base hr7 (hsep q h1) h2)
                replace hb := hb.trans (row_below hr7 hg3 hb.size (by have := hb.size; omega))
                refine sqv hf (r_assign rfl) rfl rfl rfl ?_; clear hf fa; intro fa hf
                apply wpList_nil
                (try simp only [Exit.then, Exit.inBlock, ↓reduceIte, Nat.reduceEqDiff])
                refine hK25 _ _ ?_
                refine wp_region_lit ?_
                refine sqv hf (r_add (C := (((k2 : Nat) : Int) + (1 : Int))) rfl rfl (by rw [IntKind.wrap_i64]; omega)) rfl rfl rfl ?_; clear hf fa; intro fa hf
                refine sqv hf (r_move rfl) rfl rfl rfl ?_; clear hf fa; intro fa hf
                apply wpList_nil
                (try simp only [Exit.then, Exit.inBlock, ↓reduceIte, Nat.reduceEqDiff])
                have hrl : (uL L.length ++ (L.take (k2 + 1)).flatMap nameB) = ((uL L.length ++ (L.take k2).flatMap nameB) ++ uL y.size) ++ nums y := by rw [fm_take hy]; unfold nameB; simp only [List.append_assoc]
                have hrl2 := congrArg List.length hrl
                refine hKL2 _ _ _ (by omega) ⟨(k2 + 1), ra7, rc7, rfl, hf.sub ⟨rfl, rfl, rfl, (some_int (by first | rfl | omega)), (some_sl (by first | omega | (simp only [List.length_append, List.length_cons, List.length_nil]; omega) | (simp <;> omega)) rfl), (some_sl (by first | omega | (simp only [List.length_append, List.length_cons, List.length_nil]; omega) | (simp <;> omega)) rfl), trivial⟩, hb, (lrowTo hr8 hrl.symm), hra3, hkb1, by omega⟩
              · have hqt56_1b := hqt56_1
                replace hqt56_1 := Bool.eq_false_iff.1 hqt56_1
                try simp only [ne_eq, decide_eq_true_eq, Bool.and_eq_true, Bool.or_eq_true, Bool.not_eq_true', decide_eq_false_iff_not] at hqt56_1
                refine wp_exit ?_
                (try simp only [Exit.then, Exit.inBlock, ↓reduceIte, Nat.reduceEqDiff])
                refine hK21 _ _ ?_
                refine wp_seq_k (fun K27 hK27 => ?_)
                have hnL : (uL L.length ++ (L.take k2).flatMap nameB) = needL L := by unfold needL; rw [List.take_of_length_le (by omega)]
                have hnLl := congrArg List.length hnL
                have hp2 : (partL 2 (needL L)).length ≤ 10020 := by have := uL_len (needL L).length (by omega); unfold partL; simp only [List.length_append, List.length_cons, List.length_nil]; omega
                refine wp_region_lit ?_
                refine sqv hf (r_move rfl) rfl rfl rfl ?_; clear hf fa; intro fa hf
                refine sqv hf (r_move rfl) rfl rfl rfl ?_; clear hf fa; intro fa hf
                refine sqdt hf (d_callX (vs := [(.int .u8 (2 : Int)), (.slice roa (((uL L.length ++ (L.take k2).flatMap nameB)).length) roc)]) rfl Try.func134 (by kernel_rfl) (by kernel_rfl) (part2_any 2 roa (uL L.length ++ (L.take k2).flatMap nameB) roc _ (needL L) hnL (Row.rd (by intros; rfl) hro) (by omega) (by have := Row.caps hro; omega) (Row.nocap hro))) rfl rfl rfl ?_; clear hf fa; rintro fa v w13 ⟨hr9, he8⟩ hf; obtain ⟨ra8, rc8, rfl, hcrc8, hmrc8⟩ := Row.slice hr9
                replace hr9 := Row.rebase hr9 hb.size
                replace hkb1 := blk_ext hkb1 he8
                replace hro := Row.ext hro he8
                replace hra3 := Row.ext hra3 he8
                replace hb := hb.trans (Below.mono he8 hb.size)
                refine sqdt hf (d_append (V := (vInt .u8)) (k := 1) (e := 5) (bytes := 1) (z := (.int .u8 (0 : Int))) (news := (partL 2 (needL L))) (base := w.heap.size) (by intros; rfl) (by intro x u hu; simp only [vInt, List.mem_singleton] at hu; subst hu; rfl) rfl rfl Try.underlying47 (by kernel_rfl) rfl rfl rfl hra3 (Row.rd (by intros; rfl) hr9) rfl (fun h => Row.nocap hr9 h) (by first | omega | (simp only [List.length_cons, List.length_nil, List.length_append, nums_len]; omega)) (by have := hb.size; omega)) rfl rfl rfl ?_; clear hf fa; rintro fa v w14 ⟨hr10, hg4⟩ hf; obtain ⟨ra9, rc9, rfl, hcrc9, hmrc9⟩ := Row.slice hr10
                replace hkb1 := blk_row' hkb1 hg4 (Row.ne_type hra3 hkb1 rfl)
                replace hro := Row.grown' hro hg4 (fun q h1 h2 => absurd (Row.lt hro q h1).1 (by have := hsep q h2; omega))
                replace hb := hb.trans (row_below hra3 hg4 hb.size (by have := hb.size; omega))
                refine sqv hf (r_assign rfl) rfl rfl rfl ?_; clear hf fa; intro fa hf
                refine sqv hf (r_assign rfl) rfl rfl rfl ?_; clear hf fa; intro fa hf
                apply wpList_nil
                (try simp only [Exit.then, Exit.inBlock, ↓reduceIte, Nat.reduceEqDiff])
                refine hK27 _ _ ?_
                refine wp_ret ?_
                (try simp only [Exit.then, Exit.inBlock])
                refine ret2 hf rfl rfl rfl ?_
                have hz : drightP has a1 a2 a3 a4 L = 0 := by have h := hqt15_1; omega
                have hE : dputE has a1 a2 a3 a4 L = 0 := by unfold dputE; rw [if_neg (by simpa using hz), hqt19_1b]; rfl
                have hp : ((partL 1 (infoL a1 a2 a3 a4)) ++ (partL 2 (needL L))) = dputL has a1 a2 a3 a4 L := by unfold dputL encD; rw [if_pos hE, if_neg (by have h := hqt45_1; omega)]
                have hpl := congrArg List.length hp
                exact ⟨_, rfl, _, _, (by rw [hpl, hE]), (hp ▸ hr10.relen), hb⟩
end Go.Proofs.Ytcmdajkkdognfaa
