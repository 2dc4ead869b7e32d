/- What is proved here: what the document says a module wants. -/
import Derived.Test.YtahgkfekggkjnaaPlC
namespace Go.Proofs.Ytahgkfekggkjnaa
open Go.RowKit
set_option linter.unusedVariables false
set_option linter.unusedSimpArgs false
def otherP (m : MMd) (y : MImp) : Int × Int :=
  bif (decide (y.1 ≠ ⟨#[101, 110, 118]⟩)) then ((0 : Int), (42 : Int))
  else bif ((decide (y.2.2.1 = (2 : Int))) && (decide (y.2.1 = ⟨#[109, 101, 109, 111, 114, 121]⟩))) then ((6 : Int), (0 : Int))
  else bif ((decide (y.2.2.1 = (1 : Int))) && (decide (y.2.1 = ⟨#[95, 95, 105, 110, 100, 105, 114, 101, 99, 116, 95, 102, 117, 110, 99, 116, 105, 111, 110, 95, 116, 97, 98, 108, 101]⟩))) then ((7 : Int), (0 : Int))
  else bif (decide (y.2.2.1 ≠ (0 : Int))) then ((0 : Int), (42 : Int))
  else bif (decide (((m.1.len : Nat) : Int) ≤ y.2.2.2.1)) then ((0 : Int), (7 : Int))
  else ((1 : Int), (0 : Int))

set_option maxHeartbeats 1000000 in
set_option maxRecDepth 100000 in
theorem other_any (m : MMd) (y : MImp) (w : World) (hyt : 0 ≤ y.2.2.2.1 ∧ y.2.2.2.1 < 4294967296) (hml : m.1.len ≤ 4398046510976) : Calls Try.prog 92 #[(.agg #[(.slice m.1.at' m.1.len m.1.cap), (.slice m.2.1.at' m.2.1.len m.2.1.cap), (.slice m.2.2.1.at' m.2.2.1.len m.2.2.1.cap), (.slice m.2.2.2.1.at' m.2.2.2.1.len m.2.2.2.1.cap), (.slice m.2.2.2.2.1.at' m.2.2.2.2.1.len m.2.2.2.2.1.cap), (.slice m.2.2.2.2.2.1.at' m.2.2.2.2.2.1.len m.2.2.2.2.2.1.cap), (.slice m.2.2.2.2.2.2.1.at' m.2.2.2.2.2.2.1.len m.2.2.2.2.2.2.1.cap), (.int .i64 m.2.2.2.2.2.2.2.1), (.slice m.2.2.2.2.2.2.2.2.1.at' m.2.2.2.2.2.2.2.2.1.len m.2.2.2.2.2.2.2.2.1.cap), (.slice m.2.2.2.2.2.2.2.2.2.1.at' m.2.2.2.2.2.2.2.2.2.1.len m.2.2.2.2.2.2.2.2.2.1.cap), (.slice m.2.2.2.2.2.2.2.2.2.2.1.at' m.2.2.2.2.2.2.2.2.2.2.1.len m.2.2.2.2.2.2.2.2.2.2.1.cap), (.bool m.2.2.2.2.2.2.2.2.2.2.2.1.1), (.int .u32 m.2.2.2.2.2.2.2.2.2.2.2.1.2.1), (.int .u32 m.2.2.2.2.2.2.2.2.2.2.2.1.2.2.1), (.int .u32 m.2.2.2.2.2.2.2.2.2.2.2.1.2.2.2.1), (.int .u32 m.2.2.2.2.2.2.2.2.2.2.2.1.2.2.2.2.1), (.slice m.2.2.2.2.2.2.2.2.2.2.2.1.2.2.2.2.2.1.at' m.2.2.2.2.2.2.2.2.2.2.2.1.2.2.2.2.2.1.len m.2.2.2.2.2.2.2.2.2.2.2.1.2.2.2.2.2.1.cap)]), (.agg #[(.string y.1), (.string y.2.1), (.int .u8 y.2.2.1), (.int .u32 y.2.2.2.1), (.int .u32 y.2.2.2.2.1.1), (.int .u32 y.2.2.2.2.1.2.1), (.bool y.2.2.2.2.1.2.2.1), (.int .u8 y.2.2.2.2.2.1.1), (.bool y.2.2.2.2.2.1.2.1)])] w fun e w' => e = .returned (.tuple #[(.int .i64 ((otherP m y).1)), (.int .i64 ((otherP m y).2))]) ∧ Below w.heap.size w w' := by
  refine sx_enter (L := [(0, (.agg #[(.slice m.1.at' m.1.len m.1.cap), (.slice m.2.1.at' m.2.1.len m.2.1.cap), (.slice m.2.2.1.at' m.2.2.1.len m.2.2.1.cap), (.slice m.2.2.2.1.at' m.2.2.2.1.len m.2.2.2.1.cap), (.slice m.2.2.2.2.1.at' m.2.2.2.2.1.len m.2.2.2.2.1.cap), (.slice m.2.2.2.2.2.1.at' m.2.2.2.2.2.1.len m.2.2.2.2.2.1.cap), (.slice m.2.2.2.2.2.2.1.at' m.2.2.2.2.2.2.1.len m.2.2.2.2.2.2.1.cap), (.int .i64 m.2.2.2.2.2.2.2.1), (.slice m.2.2.2.2.2.2.2.2.1.at' m.2.2.2.2.2.2.2.2.1.len m.2.2.2.2.2.2.2.2.1.cap), (.slice m.2.2.2.2.2.2.2.2.2.1.at' m.2.2.2.2.2.2.2.2.2.1.len m.2.2.2.2.2.2.2.2.2.1.cap), (.slice m.2.2.2.2.2.2.2.2.2.2.1.at' m.2.2.2.2.2.2.2.2.2.2.1.len m.2.2.2.2.2.2.2.2.2.2.1.cap), (.bool m.2.2.2.2.2.2.2.2.2.2.2.1.1), (.int .u32 m.2.2.2.2.2.2.2.2.2.2.2.1.2.1), (.int .u32 m.2.2.2.2.2.2.2.2.2.2.2.1.2.2.1), (.int .u32 m.2.2.2.2.2.2.2.2.2.2.2.1.2.2.2.1), (.int .u32 m.2.2.2.2.2.2.2.2.2.2.2.1.2.2.2.2.1), (.slice m.2.2.2.2.2.2.2.2.2.2.2.1.2.2.2.2.2.1.at' m.2.2.2.2.2.2.2.2.2.2.2.1.2.2.2.2.2.1.len m.2.2.2.2.2.2.2.2.2.2.2.1.2.2.2.2.2.1.cap)])), (1, (.agg #[(.string y.1), (.string y.2.1), (.int .u8 y.2.2.1), (.int .u32 y.2.2.2.1), (.int .u32 y.2.2.2.2.1.1), (.int .u32 y.2.2.2.2.1.2.1), (.bool y.2.2.2.2.1.2.2.1), (.int .u8 y.2.2.2.2.2.1.1), (.bool y.2.2.2.2.2.1.2.1)]))]) Try.func92 rfl rfl rfl rfl (fun fa hf => ?_)
  have hb : Below w.heap.size w w := Below.refl _ _
  refine wp_seq_k (fun K1 hK1 => ?_)
  refine wp_region_lit ?_
  refine sqdt hf (d_box (cs := #[(.slice m.1.at' m.1.len m.1.cap), (.slice m.2.1.at' m.2.1.len m.2.1.cap), (.slice m.2.2.1.at' m.2.2.1.len m.2.2.1.cap), (.slice m.2.2.2.1.at' m.2.2.2.1.len m.2.2.2.1.cap), (.slice m.2.2.2.2.1.at' m.2.2.2.2.1.len m.2.2.2.2.1.cap), (.slice m.2.2.2.2.2.1.at' m.2.2.2.2.2.1.len m.2.2.2.2.2.1.cap), (.slice m.2.2.2.2.2.2.1.at' m.2.2.2.2.2.2.1.len m.2.2.2.2.2.2.1.cap), (.int .i64 m.2.2.2.2.2.2.2.1), (.slice m.2.2.2.2.2.2.2.2.1.at' m.2.2.2.2.2.2.2.2.1.len m.2.2.2.2.2.2.2.2.1.cap), (.slice m.2.2.2.2.2.2.2.2.2.1.at' m.2.2.2.2.2.2.2.2.2.1.len m.2.2.2.2.2.2.2.2.2.1.cap), (.slice m.2.2.2.2.2.2.2.2.2.2.1.at' m.2.2.2.2.2.2.2.2.2.2.1.len m.2.2.2.2.2.2.2.2.2.2.1.cap), (.bool m.2.2.2.2.2.2.2.2.2.2.2.1.1), (.int .u32 m.2.2.2.2.2.2.2.2.2.2.2.1.2.1), (.int .u32 m.2.2.2.2.2.2.2.2.2.2.2.1.2.2.1), (.int .u32 m.2.2.2.2.2.2.2.2.2.2.2.1.2.2.2.1), (.int .u32 m.2.2.2.2.2.2.2.2.2.2.2.1.2.2.2.2.1), (.slice m.2.2.2.2.2.2.2.2.2.2.2.1.2.2.2.2.2.1.at' m.2.2.2.2.2.2.2.2.2.2.2.1.2.2.2.2.2.1.len m.2.2.2.2.2.2.2.2.2.2.2.1.2.2.2.2.2.1.cap)]) rfl rfl) rfl rfl rfl ?_; clear hf fa; rintro fa _ w1 ⟨b1, rfl, hle1, hk1, he1⟩ hf
  have hBb1 : w.heap.size ≤ b1 := Nat.le_trans hb.size hle1
  replace hb := hb.trans (Below.mono he1 hb.size)
  refine sqdt hf (d_box (cs := #[(.string y.1), (.string y.2.1), (.int .u8 y.2.2.1), (.int .u32 y.2.2.2.1), (.int .u32 y.2.2.2.2.1.1), (.int .u32 y.2.2.2.2.1.2.1), (.bool y.2.2.2.2.1.2.2.1), (.int .u8 y.2.2.2.2.2.1.1), (.bool y.2.2.2.2.2.1.2.1)]) rfl rfl) rfl rfl rfl ?_; clear hf fa; rintro fa _ w2 ⟨b2, rfl, hle2, hk2, he2⟩ hf
  have hBb2 : w.heap.size ≤ b2 := Nat.le_trans hb.size hle2
  have : b1 < b2 := Nat.lt_of_lt_of_le (blk_lt hk1) hle2
  replace hk1 := blk_ext hk1 he2
  replace hb := hb.trans (Below.mono he2 hb.size)
  refine sqv hf (r_assign rfl) rfl rfl rfl ?_; clear hf fa; intro fa hf
  refine sqv hf (r_assign rfl) rfl rfl rfl ?_; clear hf fa; intro fa hf
  apply wpList_nil
  (try simp only [Exit.then, Exit.inBlock, ↓reduceIte, Nat.reduceEqDiff])
  refine hK1 _ _ ?_
  refine wp_seq_k (fun K2 hK2 => ?_)
  refine wp_block ?_
  refine wp_seq_k (fun K3 hK3 => ?_)
  refine wp_region_lit ?_
  refine sqv hf (r_fa rfl Try.underlying103 (f := 0) (q := 0) rfl (by kernel_rfl) rfl) rfl rfl rfl ?_; clear hf fa; intro fa hf
  refine sqv hf (r_load (v := (.string y.1)) rfl Try.underlying9 rfl (cell_blk hk2 rfl)) rfl rfl rfl ?_; clear hf fa; intro fa hf
  refine sqv hf (r_sne rfl rfl) rfl rfl rfl ?_; clear hf fa; intro fa hf
  refine sqv hf (r_assign rfl) rfl rfl rfl ?_; clear hf fa; intro fa hf
  apply wpList_nil
  (try simp only [Exit.then, Exit.inBlock, ↓reduceIte, Nat.reduceEqDiff])
  refine hK3 _ _ ?_
  refine wp_cond_split (t := (decide (y.1 ≠ ⟨#[101, 110, 118]⟩))) (hf.ev rfl) (fun hqt6_1 => ?_) (fun hqt6_1 => ?_)
  · have hqt6_1b := hqt6_1
    try simp only [decide_eq_true_eq, Bool.and_eq_true, Bool.or_eq_true, Bool.not_eq_true', decide_eq_false_iff_not, ne_eq, Bool.not_eq_true] at hqt6_1
    refine wp_seq_k (fun K4 hK4 => ?_)
    refine wp_region_lit ?_
    refine sqv hf (r_assign rfl) rfl rfl rfl ?_; clear hf fa; intro fa hf
    refine sqv hf (r_assign rfl) rfl rfl rfl ?_; clear hf fa; intro fa hf
    apply wpList_nil
    (try simp only [Exit.then, Exit.inBlock, ↓reduceIte, Nat.reduceEqDiff])
    refine hK4 _ _ ?_
    refine wp_ret ?_
    (try simp only [Exit.then, Exit.inBlock])
    refine ret2 hf rfl rfl rfl ?_
    refine ⟨?_, hb⟩; unfold otherP; rw [hqt6_1b]; (try rfl)
  · have hqt6_1b := hqt6_1
    replace hqt6_1 := Bool.eq_false_iff.1 hqt6_1
    try simp only [ne_eq, decide_eq_true_eq, Bool.and_eq_true, Bool.or_eq_true, Bool.not_eq_true', decide_eq_false_iff_not] at hqt6_1
    refine wp_seq_k (fun K5 hK5 => ?_)
    refine wp_region_lit ?_
    refine sqv hf (r_fa rfl Try.underlying103 (f := 2) (q := 2) rfl (by kernel_rfl) rfl) rfl rfl rfl ?_; clear hf fa; intro fa hf
    refine sqv hf (r_load (v := (.int .u8 y.2.2.1)) rfl Try.underlying5 rfl (cell_blk hk2 rfl)) rfl rfl rfl ?_; clear hf fa; intro fa hf
    refine sqv hf (r_eq rfl rfl) rfl rfl rfl ?_; clear hf fa; intro fa hf
    refine sqv hf (r_move rfl) rfl rfl rfl ?_; clear hf fa; intro fa hf
    refine sqgT (act := (decide (y.2.2.1 = (2 : Int)))) (ag := true) (c := (decide (y.2.2.1 = (2 : Int)))) (v := (.pointer (some ⟨b2, 1, none⟩))) hf rfl rfl rfl (fun hact => (r_fa rfl Try.underlying103 (f := 1) (q := 1) rfl (by kernel_rfl) rfl)) rfl rfl ?_; clear hf fa; intro fa hf
    refine sqgT (act := (decide (y.2.2.1 = (2 : Int)))) (ag := true) (c := (decide (y.2.2.1 = (2 : Int)))) (v := (.string y.2.1)) hf rfl rfl rfl (fun hact => (r_load (v := (.string y.2.1)) (gb_ev hact rfl) Try.underlying9 rfl (cell_blk hk2 rfl))) rfl rfl ?_; clear hf fa; intro fa hf
    refine sqgT (act := (decide (y.2.2.1 = (2 : Int)))) (ag := true) (c := (decide (y.2.2.1 = (2 : Int)))) (v := (.bool (decide (y.2.1 = ⟨#[109, 101, 109, 111, 114, 121]⟩)))) hf rfl rfl rfl (fun hact => (r_seq (gb_ev hact rfl) rfl)) rfl rfl ?_; clear hf fa; intro fa hf
    refine sqv hf (r_pickA (b := (decide (y.2.2.1 = (2 : Int)))) (e := (decide (y.2.1 = ⟨#[109, 101, 109, 111, 114, 121]⟩))) rfl rfl rfl) rfl rfl rfl ?_; clear hf fa; intro fa hf
    refine sqv hf (r_assign rfl) rfl rfl rfl ?_; clear hf fa; intro fa hf
    apply wpList_nil
    (try simp only [Exit.then, Exit.inBlock, ↓reduceIte, Nat.reduceEqDiff])
    refine hK5 _ _ ?_
    refine wp_cond_split (t := ((decide (y.2.2.1 = (2 : Int))) && (decide (y.2.1 = ⟨#[109, 101, 109, 111, 114, 121]⟩)))) (hf.ev rfl) (fun hqt10_1 => ?_) (fun hqt10_1 => ?_)
    · have hqt10_1b := hqt10_1
      try simp only [decide_eq_true_eq, Bool.and_eq_true, Bool.or_eq_true, Bool.not_eq_true', decide_eq_false_iff_not, ne_eq, Bool.not_eq_true] at hqt10_1
      refine wp_seq_k (fun K6 hK6 => ?_)
      refine wp_region_lit ?_
      refine sqv hf (r_assign rfl) rfl rfl rfl ?_; clear hf fa; intro fa hf
      refine sqv hf (r_assign rfl) rfl rfl rfl ?_; clear hf fa; intro fa hf
      apply wpList_nil
      (try simp only [Exit.then, Exit.inBlock, ↓reduceIte, Nat.reduceEqDiff])
      refine hK6 _ _ ?_
      refine wp_ret ?_
      (try simp only [Exit.then, Exit.inBlock])
      refine ret2 hf rfl rfl rfl ?_
      refine ⟨?_, hb⟩; unfold otherP; rw [hqt6_1b, hqt10_1b]; (try rfl)
    · have hqt10_1b := hqt10_1
      replace hqt10_1 := Bool.eq_false_iff.1 hqt10_1
      try simp only [ne_eq, decide_eq_true_eq, Bool.and_eq_true, Bool.or_eq_true, Bool.not_eq_true', decide_eq_false_iff_not] at hqt10_1
      refine wp_seq_k (fun K7 hK7 => ?_)
      refine wp_region_lit ?_
      refine sqv hf (r_fa rfl Try.underlying103 (f := 2) (q := 2) rfl (by kernel_rfl) rfl) rfl rfl rfl ?_; clear hf fa; intro fa hf
      refine sqv hf (r_load (v := (.int .u8 y.2.2.1)) rfl Try.underlying5 rfl (cell_blk hk2 rfl)) rfl rfl rfl ?_; clear hf fa; intro fa hf
      refine sqv hf (r_eq rfl rfl) rfl rfl rfl ?_; clear hf fa; intro fa hf
      refine sqv hf (r_move rfl) rfl rfl rfl ?_; clear hf fa; intro fa hf
      refine sqgT (act := (decide (y.2.2.1 = (1 : Int)))) (ag := true) (c := (decide (y.2.2.1 = (1 : Int)))) (v := (.pointer (some ⟨b2, 1, none⟩))) hf rfl rfl rfl (fun hact => (r_fa rfl Try.underlying103 (f := 1) (q := 1) rfl (by kernel_rfl) rfl)) rfl rfl ?_; clear hf fa; intro fa hf
      refine sqgT (act := (decide (y.2.2.1 = (1 : Int)))) (ag := true) (c := (decide (y.2.2.1 = (1 : Int)))) (v := (.string y.2.1)) hf rfl rfl rfl (fun hact => (r_load (v := (.string y.2.1)) (gb_ev hact rfl) Try.underlying9 rfl (cell_blk hk2 rfl))) rfl rfl ?_; clear hf fa; intro fa hf
      refine sqgT (act := (decide (y.2.2.1 = (1 : Int)))) (ag := true) (c := (decide (y.2.2.1 = (1 : Int)))) (v := (.bool (decide (y.2.1 = ⟨#[95, 95, 105, 110, 100, 105, 114, 101, 99, 116, 95, 102, 117, 110, 99, 116, 105, 111, 110, 95, 116, 97, 98, 108, 101]⟩)))) hf rfl rfl rfl (fun hact => (r_seq (gb_ev hact rfl) rfl)) rfl rfl ?_; clear hf fa; intro fa hf
      refine sqv hf (r_pickA (b := (decide (y.2.2.1 = (1 : Int)))) (e := (decide (y.2.1 = ⟨#[95, 95, 105, 110, 100, 105, 114, 101, 99, 116, 95, 102, 117, 110, 99, 116, 105, 111, 110, 95, 116, 97, 98, 108, 101]⟩))) rfl rfl rfl) rfl rfl rfl ?_; clear hf fa; intro fa hf
      refine sqv hf (r_assign rfl) rfl rfl rfl ?_; clear hf fa; intro fa hf
      apply wpList_nil
      (try simp only [Exit.then, Exit.inBlock, ↓reduceIte, Nat.reduceEqDiff])
      refine hK7 _ _ ?_
      refine wp_cond_split (t := ((decide (y.2.2.1 = (1 : Int))) && (decide (y.2.1 = ⟨#[95, 95, 105, 110, 100, 105, 114, 101, 99, 116, 95, 102, 117, 110, 99, 116, 105, 111, 110, 95, 116, 97, 98, 108, 101]⟩)))) (hf.ev rfl) (fun hqt19_1 => ?_) (fun hqt19_1 => ?_)
      · have hqt19_1b := hqt19_1
        try simp only [decide_eq_true_eq, Bool.and_eq_true, Bool.or_eq_true, Bool.not_eq_true', decide_eq_false_iff_not, ne_eq, Bool.not_eq_true] at hqt19_1
        refine wp_seq_k (fun K8 hK8 => ?_)
        refine wp_region_lit ?_
        refine sqv hf (r_assign rfl) rfl rfl rfl ?_; clear hf fa; intro fa hf
        refine sqv hf (r_assign rfl) rfl rfl rfl ?_; clear hf fa; intro fa hf
        apply wpList_nil
        (try simp only [Exit.then, Exit.inBlock, ↓reduceIte, Nat.reduceEqDiff])
        refine hK8 _ _ ?_
        refine wp_ret ?_
        (try simp only [Exit.then, Exit.inBlock])
        refine ret2 hf rfl rfl rfl ?_
        refine ⟨?_, hb⟩; unfold otherP; rw [hqt6_1b, hqt10_1b, hqt19_1b]; (try rfl)
      · have hqt19_1b := hqt19_1
        replace hqt19_1 := Bool.eq_false_iff.1 hqt19_1
        try simp only [ne_eq, decide_eq_true_eq, Bool.and_eq_true, Bool.or_eq_true, Bool.not_eq_true', decide_eq_false_iff_not] at hqt19_1
        refine wp_seq_k (fun K9 hK9 => ?_)
        refine wp_region_lit ?_
        refine sqv hf (r_fa rfl Try.underlying103 (f := 2) (q := 2) rfl (by kernel_rfl) rfl) rfl rfl rfl ?_; clear hf fa; intro fa hf
        refine sqv hf (r_load (v := (.int .u8 y.2.2.1)) rfl Try.underlying5 rfl (cell_blk hk2 rfl)) rfl rfl rfl ?_; clear hf fa; intro fa hf
        refine sqv hf (r_ne rfl rfl) rfl rfl rfl ?_; clear hf fa; intro fa hf
        refine sqv hf (r_assign rfl) rfl rfl rfl ?_; clear hf fa; intro fa hf
        apply wpList_nil
        (try simp only [Exit.then, Exit.inBlock, ↓reduceIte, Nat.reduceEqDiff])
        refine hK9 _ _ ?_
        refine wp_cond_split (t := (decide (y.2.2.1 ≠ (0 : Int)))) (hf.ev rfl) (fun hqt28_1 => ?_) (fun hqt28_1 => ?_)
        · have hqt28_1b := hqt28_1
          try simp only [decide_eq_true_eq, Bool.and_eq_true, Bool.or_eq_true, Bool.not_eq_true', decide_eq_false_iff_not, ne_eq, Bool.not_eq_true] at hqt28_1
          refine wp_seq_k (fun K10 hK10 => ?_)
          refine wp_region_lit ?_
          refine sqv hf (r_assign rfl) rfl rfl rfl ?_; clear hf fa; intro fa hf
          refine sqv hf (r_assign rfl) rfl rfl rfl ?_; clear hf fa; intro fa hf
          apply wpList_nil
          (try simp only [Exit.then, Exit.inBlock, ↓reduceIte, Nat.reduceEqDiff])
          refine hK10 _ _ ?_
          refine wp_ret ?_
          (try simp only [Exit.then, Exit.inBlock])
          refine ret2 hf rfl rfl rfl ?_
          refine ⟨?_, hb⟩; unfold otherP; rw [hqt6_1b, hqt10_1b, hqt19_1b, hqt28_1b]; (try rfl)
        · have hqt28_1b := hqt28_1
          replace hqt28_1 := Bool.eq_false_iff.1 hqt28_1
          try simp only [ne_eq, decide_eq_true_eq, Bool.and_eq_true, Bool.or_eq_true, Bool.not_eq_true', decide_eq_false_iff_not] at hqt28_1
          refine wp_seq_k (fun K11 hK11 => ?_)
          refine wp_region_lit ?_
          refine sqv hf (r_fa rfl Try.underlying103 (f := 3) (q := 3) rfl (by kernel_rfl) rfl) rfl rfl rfl ?_; clear hf fa; intro fa hf
          refine sqv hf (r_load (v := (.int .u32 y.2.2.2.1)) rfl Try.underlying44 rfl (cell_blk hk2 rfl)) rfl rfl rfl ?_; clear hf fa; intro fa hf
          refine sqv hf (r_conv (C := y.2.2.2.1) rfl Try.underlying44 Try.underlying3 (by rw [IntKind.wrap_i64]; omega)) rfl rfl rfl ?_; clear hf fa; intro fa hf
          refine sqv hf (r_fa rfl Try.underlying67 (f := 0) (q := 0) rfl (by kernel_rfl) rfl) rfl rfl rfl ?_; clear hf fa; intro fa hf
          refine sqv hf (r_load (v := (.slice m.1.at' m.1.len m.1.cap)) rfl Try.underlying56 rfl (cell_blk hk1 rfl)) rfl rfl rfl ?_; clear hf fa; intro fa hf
          refine sqv hf (r_lensl rfl Try.underlying56) rfl rfl rfl ?_; clear hf fa; intro fa hf
          refine sqv hf (r_ge rfl rfl) rfl rfl rfl ?_; clear hf fa; intro fa hf
          refine sqv hf (r_assign rfl) rfl rfl rfl ?_; clear hf fa; intro fa hf
          apply wpList_nil
          (try simp only [Exit.then, Exit.inBlock, ↓reduceIte, Nat.reduceEqDiff])
          refine hK11 _ _ ?_
          refine wp_cond_split (t := (decide (((m.1.len : Nat) : Int) ≤ y.2.2.2.1))) (hf.ev rfl) (fun hqt32_1 => ?_) (fun hqt32_1 => ?_)
          · have hqt32_1b := hqt32_1
            try simp only [decide_eq_true_eq, Bool.and_eq_true, Bool.or_eq_true, Bool.not_eq_true', decide_eq_false_iff_not, ne_eq, Bool.not_eq_true] at hqt32_1
            refine wp_seq_k (fun K12 hK12 => ?_)
            refine wp_region_lit ?_
            refine sqv hf (r_assign rfl) rfl rfl rfl ?_; clear hf fa; intro fa hf
            refine sqv hf (r_assign rfl) rfl rfl rfl ?_; clear hf fa; intro fa hf
            apply wpList_nil
            (try simp only [Exit.then, Exit.inBlock, ↓reduceIte, Nat.reduceEqDiff])
            refine hK12 _ _ ?_
            refine wp_ret ?_
            (try simp only [Exit.then, Exit.inBlock])
            refine ret2 hf rfl rfl rfl ?_
            refine ⟨?_, hb⟩; unfold otherP; rw [hqt6_1b, hqt10_1b, hqt19_1b, hqt28_1b, hqt32_1b]; (try rfl)
          · have hqt32_1b := hqt32_1
            replace hqt32_1 := Bool.eq_false_iff.1 hqt32_1
            try simp only [ne_eq, decide_eq_true_eq, Bool.and_eq_true, Bool.or_eq_true, Bool.not_eq_true', decide_eq_false_iff_not] at hqt32_1
            refine wp_skip ?_
            (try simp only [Exit.then, Exit.inBlock, ↓reduceIte, Nat.reduceEqDiff])
            refine hK2 _ _ ?_
            refine wp_seq_k (fun K13 hK13 => ?_)
            refine wp_region_lit ?_
            refine sqv hf (r_assign rfl) rfl rfl rfl ?_; clear hf fa; intro fa hf
            refine sqv hf (r_assign rfl) rfl rfl rfl ?_; clear hf fa; intro fa hf
            apply wpList_nil
            (try simp only [Exit.then, Exit.inBlock, ↓reduceIte, Nat.reduceEqDiff])
            refine hK13 _ _ ?_
            refine wp_ret ?_
            (try simp only [Exit.then, Exit.inBlock])
            refine ret2 hf rfl rfl rfl ?_
            refine ⟨?_, hb⟩; unfold otherP; rw [hqt6_1b, hqt10_1b, hqt19_1b, hqt28_1b, hqt32_1b]; (try rfl)

def kindP (m : MMd) (y : MImp) : Int × Int :=
  bif (decide (y.2.2.1 ≠ (3 : Int))) then ((otherP m y).1, (otherP m y).2)
  else bif ((decide (y.1 = ⟨#[101, 110, 118]⟩)) && (decide (y.2.1 = ⟨#[95, 95, 109, 101, 109, 111, 114, 121, 95, 98, 97, 115, 101]⟩))) then bif (!((decide (y.2.2.2.2.2.1.1 = (127 : Int))) && (y.2.2.2.2.2.1.2.1 == false))) then ((0 : Int), (7 : Int))
  else ((2 : Int), (0 : Int))
  else bif ((decide (y.1 = ⟨#[101, 110, 118]⟩)) && (decide (y.2.1 = ⟨#[95, 95, 116, 97, 98, 108, 101, 95, 98, 97, 115, 101]⟩))) then bif (!((decide (y.2.2.2.2.2.1.1 = (127 : Int))) && (y.2.2.2.2.2.1.2.1 == false))) then ((0 : Int), (7 : Int))
  else ((3 : Int), (0 : Int))
  else bif (decide (y.1 = ⟨#[71, 79, 84, 46, 109, 101, 109]⟩)) then bif (!((decide (y.2.2.2.2.2.1.1 = (127 : Int))) && (y.2.2.2.2.2.1.2.1 == true))) then ((0 : Int), (7 : Int))
  else ((4 : Int), (0 : Int))
  else bif (decide (y.1 = ⟨#[71, 79, 84, 46, 102, 117, 110, 99]⟩)) then bif (!((decide (y.2.2.2.2.2.1.1 = (127 : Int))) && (y.2.2.2.2.2.1.2.1 == true))) then ((0 : Int), (7 : Int))
  else ((5 : Int), (0 : Int))
  else ((0 : Int), (42 : Int))

set_option maxHeartbeats 1000000 in
set_option maxRecDepth 100000 in
theorem kind_any (m : MMd) (y : MImp) (w : World) (hyt : 0 ≤ y.2.2.2.1 ∧ y.2.2.2.1 < 4294967296) (hml : m.1.len ≤ 4398046510976) : Calls Try.prog 71 #[(.agg #[(.slice m.1.at' m.1.len m.1.cap), (.slice m.2.1.at' m.2.1.len m.2.1.cap), (.slice m.2.2.1.at' m.2.2.1.len m.2.2.1.cap), (.slice m.2.2.2.1.at' m.2.2.2.1.len m.2.2.2.1.cap), (.slice m.2.2.2.2.1.at' m.2.2.2.2.1.len m.2.2.2.2.1.cap), (.slice m.2.2.2.2.2.1.at' m.2.2.2.2.2.1.len m.2.2.2.2.2.1.cap), (.slice m.2.2.2.2.2.2.1.at' m.2.2.2.2.2.2.1.len m.2.2.2.2.2.2.1.cap), (.int .i64 m.2.2.2.2.2.2.2.1), (.slice m.2.2.2.2.2.2.2.2.1.at' m.2.2.2.2.2.2.2.2.1.len m.2.2.2.2.2.2.2.2.1.cap), (.slice m.2.2.2.2.2.2.2.2.2.1.at' m.2.2.2.2.2.2.2.2.2.1.len m.2.2.2.2.2.2.2.2.2.1.cap), (.slice m.2.2.2.2.2.2.2.2.2.2.1.at' m.2.2.2.2.2.2.2.2.2.2.1.len m.2.2.2.2.2.2.2.2.2.2.1.cap), (.bool m.2.2.2.2.2.2.2.2.2.2.2.1.1), (.int .u32 m.2.2.2.2.2.2.2.2.2.2.2.1.2.1), (.int .u32 m.2.2.2.2.2.2.2.2.2.2.2.1.2.2.1), (.int .u32 m.2.2.2.2.2.2.2.2.2.2.2.1.2.2.2.1), (.int .u32 m.2.2.2.2.2.2.2.2.2.2.2.1.2.2.2.2.1), (.slice m.2.2.2.2.2.2.2.2.2.2.2.1.2.2.2.2.2.1.at' m.2.2.2.2.2.2.2.2.2.2.2.1.2.2.2.2.2.1.len m.2.2.2.2.2.2.2.2.2.2.2.1.2.2.2.2.2.1.cap)]), (.agg #[(.string y.1), (.string y.2.1), (.int .u8 y.2.2.1), (.int .u32 y.2.2.2.1), (.int .u32 y.2.2.2.2.1.1), (.int .u32 y.2.2.2.2.1.2.1), (.bool y.2.2.2.2.1.2.2.1), (.int .u8 y.2.2.2.2.2.1.1), (.bool y.2.2.2.2.2.1.2.1)])] w fun e w' => e = .returned (.tuple #[(.int .i64 ((kindP m y).1)), (.int .i64 ((kindP m y).2))]) ∧ Below w.heap.size w w' := by
  refine sx_enter (L := [(0, (.agg #[(.slice m.1.at' m.1.len m.1.cap), (.slice m.2.1.at' m.2.1.len m.2.1.cap), (.slice m.2.2.1.at' m.2.2.1.len m.2.2.1.cap), (.slice m.2.2.2.1.at' m.2.2.2.1.len m.2.2.2.1.cap), (.slice m.2.2.2.2.1.at' m.2.2.2.2.1.len m.2.2.2.2.1.cap), (.slice m.2.2.2.2.2.1.at' m.2.2.2.2.2.1.len m.2.2.2.2.2.1.cap), (.slice m.2.2.2.2.2.2.1.at' m.2.2.2.2.2.2.1.len m.2.2.2.2.2.2.1.cap), (.int .i64 m.2.2.2.2.2.2.2.1), (.slice m.2.2.2.2.2.2.2.2.1.at' m.2.2.2.2.2.2.2.2.1.len m.2.2.2.2.2.2.2.2.1.cap), (.slice m.2.2.2.2.2.2.2.2.2.1.at' m.2.2.2.2.2.2.2.2.2.1.len m.2.2.2.2.2.2.2.2.2.1.cap), (.slice m.2.2.2.2.2.2.2.2.2.2.1.at' m.2.2.2.2.2.2.2.2.2.2.1.len m.2.2.2.2.2.2.2.2.2.2.1.cap), (.bool m.2.2.2.2.2.2.2.2.2.2.2.1.1), (.int .u32 m.2.2.2.2.2.2.2.2.2.2.2.1.2.1), (.int .u32 m.2.2.2.2.2.2.2.2.2.2.2.1.2.2.1), (.int .u32 m.2.2.2.2.2.2.2.2.2.2.2.1.2.2.2.1), (.int .u32 m.2.2.2.2.2.2.2.2.2.2.2.1.2.2.2.2.1), (.slice m.2.2.2.2.2.2.2.2.2.2.2.1.2.2.2.2.2.1.at' m.2.2.2.2.2.2.2.2.2.2.2.1.2.2.2.2.2.1.len m.2.2.2.2.2.2.2.2.2.2.2.1.2.2.2.2.2.1.cap)])), (1, (.agg #[(.string y.1), (.string y.2.1), (.int .u8 y.2.2.1), (.int .u32 y.2.2.2.1), (.int .u32 y.2.2.2.2.1.1), (.int .u32 y.2.2.2.2.1.2.1), (.bool y.2.2.2.2.1.2.2.1), (.int .u8 y.2.2.2.2.2.1.1), (.bool y.2.2.2.2.2.1.2.1)]))]) Try.func71 rfl rfl rfl rfl (fun fa hf => ?_)
  have hb : Below w.heap.size w w := Below.refl _ _
  refine wp_seq_k (fun K1 hK1 => ?_)
  refine wp_region_lit ?_
  refine sqdt hf (d_box (cs := #[(.slice m.1.at' m.1.len m.1.cap), (.slice m.2.1.at' m.2.1.len m.2.1.cap), (.slice m.2.2.1.at' m.2.2.1.len m.2.2.1.cap), (.slice m.2.2.2.1.at' m.2.2.2.1.len m.2.2.2.1.cap), (.slice m.2.2.2.2.1.at' m.2.2.2.2.1.len m.2.2.2.2.1.cap), (.slice m.2.2.2.2.2.1.at' m.2.2.2.2.2.1.len m.2.2.2.2.2.1.cap), (.slice m.2.2.2.2.2.2.1.at' m.2.2.2.2.2.2.1.len m.2.2.2.2.2.2.1.cap), (.int .i64 m.2.2.2.2.2.2.2.1), (.slice m.2.2.2.2.2.2.2.2.1.at' m.2.2.2.2.2.2.2.2.1.len m.2.2.2.2.2.2.2.2.1.cap), (.slice m.2.2.2.2.2.2.2.2.2.1.at' m.2.2.2.2.2.2.2.2.2.1.len m.2.2.2.2.2.2.2.2.2.1.cap), (.slice m.2.2.2.2.2.2.2.2.2.2.1.at' m.2.2.2.2.2.2.2.2.2.2.1.len m.2.2.2.2.2.2.2.2.2.2.1.cap), (.bool m.2.2.2.2.2.2.2.2.2.2.2.1.1), (.int .u32 m.2.2.2.2.2.2.2.2.2.2.2.1.2.1), (.int .u32 m.2.2.2.2.2.2.2.2.2.2.2.1.2.2.1), (.int .u32 m.2.2.2.2.2.2.2.2.2.2.2.1.2.2.2.1), (.int .u32 m.2.2.2.2.2.2.2.2.2.2.2.1.2.2.2.2.1), (.slice m.2.2.2.2.2.2.2.2.2.2.2.1.2.2.2.2.2.1.at' m.2.2.2.2.2.2.2.2.2.2.2.1.2.2.2.2.2.1.len m.2.2.2.2.2.2.2.2.2.2.2.1.2.2.2.2.2.1.cap)]) rfl rfl) rfl rfl rfl ?_; clear hf fa; rintro fa _ w1 ⟨b1, rfl, hle1, hk1, he1⟩ hf
  have hBb1 : w.heap.size ≤ b1 := Nat.le_trans hb.size hle1
  replace hb := hb.trans (Below.mono he1 hb.size)
  refine sqdt hf (d_box (cs := #[(.string y.1), (.string y.2.1), (.int .u8 y.2.2.1), (.int .u32 y.2.2.2.1), (.int .u32 y.2.2.2.2.1.1), (.int .u32 y.2.2.2.2.1.2.1), (.bool y.2.2.2.2.1.2.2.1), (.int .u8 y.2.2.2.2.2.1.1), (.bool y.2.2.2.2.2.1.2.1)]) rfl rfl) rfl rfl rfl ?_; clear hf fa; rintro fa _ w2 ⟨b2, rfl, hle2, hk2, he2⟩ hf
  have hBb2 : w.heap.size ≤ b2 := Nat.le_trans hb.size hle2
  have : b1 < b2 := Nat.lt_of_lt_of_le (blk_lt hk1) hle2
  replace hk1 := blk_ext hk1 he2
  replace hb := hb.trans (Below.mono he2 hb.size)
  refine sqv hf (r_assign rfl) rfl rfl rfl ?_; clear hf fa; intro fa hf
  refine sqv hf (r_assign rfl) rfl rfl rfl ?_; clear hf fa; intro fa hf
  apply wpList_nil
  (try simp only [Exit.then, Exit.inBlock, ↓reduceIte, Nat.reduceEqDiff])
  refine hK1 _ _ ?_
  refine wp_seq_k (fun K2 hK2 => ?_)
  refine wp_region_lit ?_
  refine sqv hf (r_build (vs := [(0, (.int .u8 (127 : Int)))]) (cs := #[(.int .u8 (127 : Int)), (.bool false)]) rfl (fun _ => by kernel_rfl)) rfl rfl rfl ?_; clear hf fa; intro fa hf
  refine sqv hf (r_build (vs := [(0, (.int .u8 (127 : Int))), (1, (.bool true))]) (cs := #[(.int .u8 (127 : Int)), (.bool true)]) rfl (fun _ => by kernel_rfl)) rfl rfl rfl ?_; clear hf fa; intro fa hf
  refine sqdt hf (d_alloc (z := (.agg #[(.int .u8 (0 : Int)), (.bool false)])) (cs := #[(.int .u8 (0 : Int)), (.bool false)]) (by kernel_rfl) rfl) rfl rfl rfl ?_; clear hf fa; rintro fa _ w3 ⟨b3, rfl, hle3, hk3, he3⟩ hf
  have hBb3 : w.heap.size ≤ b3 := Nat.le_trans hb.size hle3
  have : b1 < b3 := Nat.lt_of_lt_of_le (blk_lt hk1) hle3
  have : b2 < b3 := Nat.lt_of_lt_of_le (blk_lt hk2) hle3
  replace hk1 := blk_ext hk1 he3
  replace hk2 := blk_ext hk2 he3
  replace hb := hb.trans (Below.mono he3 hb.size)
  refine sqdt hf (d_alloc (z := (.agg #[(.int .u8 (0 : Int)), (.bool false)])) (cs := #[(.int .u8 (0 : Int)), (.bool false)]) (by kernel_rfl) rfl) rfl rfl rfl ?_; clear hf fa; rintro fa _ w4 ⟨b4, rfl, hle4, hk4, he4⟩ hf
  have hBb4 : w.heap.size ≤ b4 := Nat.le_trans hb.size hle4
  have : b1 < b4 := Nat.lt_of_lt_of_le (blk_lt hk1) hle4
  have : b2 < b4 := Nat.lt_of_lt_of_le (blk_lt hk2) hle4
  have : b3 < b4 := Nat.lt_of_lt_of_le (blk_lt hk3) hle4
  replace hk1 := blk_ext hk1 he4
  replace hk2 := blk_ext hk2 he4
  replace hk3 := blk_ext hk3 he4
  replace hb := hb.trans (Below.mono he4 hb.size)
  refine sqn hf (d_storeK (T := 101) (v := (.agg #[(.int .u8 (127 : Int)), (.bool false)])) (cs := #[(.int .u8 (0 : Int)), (.bool false)]) (cs' := #[(.int .u8 (127 : Int)), (.bool false)]) rfl rfl (by kernel_rfl) (by kernel_rfl) hk3 (by kernel_rfl) (by kernel_rfl)) rfl rfl ?_; clear hf fa; rintro fa _ w5 ⟨hk5, hg1⟩ hf
  replace hk1 := blk_grown hk1 hg1 (by omega)
  replace hk2 := blk_grown hk2 hg1 (by omega)
  replace hk4 := blk_grown hk4 hg1 (by omega)
  replace hb := hb.trans (grown_below hg1 hb.size hBb3)
  refine sqn hf (d_storeK (T := 101) (v := (.agg #[(.int .u8 (127 : Int)), (.bool true)])) (cs := #[(.int .u8 (0 : Int)), (.bool false)]) (cs' := #[(.int .u8 (127 : Int)), (.bool true)]) rfl rfl (by kernel_rfl) (by kernel_rfl) hk4 (by kernel_rfl) (by kernel_rfl)) rfl rfl ?_; clear hf fa; rintro fa _ w6 ⟨hk6, hg2⟩ hf
  replace hk1 := blk_grown hk1 hg2 (by omega)
  replace hk2 := blk_grown hk2 hg2 (by omega)
  replace hk5 := blk_grown hk5 hg2 (by omega)
  replace hb := hb.trans (grown_below hg2 hb.size hBb4)
  apply wpList_nil
  (try simp only [Exit.then, Exit.inBlock, ↓reduceIte, Nat.reduceEqDiff])
  refine hK2 _ _ ?_
  refine wp_seq_k (fun K3 hK3 => ?_)
  refine wp_region_un (fun wq => Below w6.heap.size w6 wq) (GA w6.heap.size (.cells #[(.int .u8 (0 : Int)), (.bool false)] 101 (0, 0)) (.cells #[(.int .u8 (127 : Int)), (.bool false)] 101 (0, 0)))
    (fun V => [(fun x _ => x = (.agg #[(.int .u8 (127 : Int)), (.bool false)])), (fun x wq => ∃ b, x = .pointer (some ⟨b, 0, none⟩) ∧ w6.heap.size ≤ b ∧ (wq.heap[b]? = some (.cells #[(.int .u8 (0 : Int)), (.bool false)] 101 (0, 0)) ∨ wq.heap[b]? = some (.cells #[(.int .u8 (127 : Int)), (.bool false)] 101 (0, 0)))), (fun x _ => x = (.int .i64 (0 : Int))), (fun _ wq => wq.heap[(bk (V 1))]? = some (.cells #[(.int .u8 (127 : Int)), (.bool false)] 101 (0, 0)))])
    [1]
    [[], [], [1], [0, 1, 2]]
    hf (by kernel_rfl) (by kernel_rfl) (fun _ => rfl) ((Below.refl _ _).drew) (fun a b h1 h2 => h1.trans h2.1) (fun _ _ h => h.1.size) (fun V => ⟨(fun _ _ _ h _ => h), keptA, (fun _ _ _ h _ => h), (fun _ _ _ h hG => GA_new hG h), trivial⟩) (by
       intro V i v j h
       match j with
       | 0 => rfl
       | 1 => rfl
       | 2 => rfl
       | 3 => have e1 : ¬ (1 = i) := fun e => h (by rw [← e]; decide); simp only [List.getD_cons_succ, List.getD_cons_zero, e1, if_false]
       | _ + 4 => rfl) ?_ ?_
  · skip
    intro V
    refine ⟨fun wu0 hC hd => ?_, ?_⟩
    · clear hd
      replace hb := hb.trans (hC.mono hb.size)
      replace hk1 := blk_ext hk1 hC
      replace hk2 := blk_ext hk2 hC
      replace hk5 := blk_ext hk5 hC
      replace hk6 := blk_ext hk6 hC
      exact Runs.does (r_loadA (cs := [(.int .u8 (127 : Int)), (.bool false)]) rfl Try.underlying101 rfl (by kernel_rfl) (cellsAt_blk hk5)) ⟨GA_refl, rfl, nofr rfl⟩
    refine ⟨fun wu1 hC hd => ?_, ?_⟩
    · clear hd
      replace hb := hb.trans (hC.mono hb.size)
      replace hk1 := blk_ext hk1 hC
      replace hk2 := blk_ext hk2 hC
      replace hk5 := blk_ext hk5 hC
      replace hk6 := blk_ext hk6 hC
      refine Does.mono (d_alloc (z := (.agg #[(.int .u8 (0 : Int)), (.bool false)])) (cs := #[(.int .u8 (0 : Int)), (.bool false)]) (by kernel_rfl) rfl) ?_
      rintro _ w' ⟨b, rfl, hF⟩
      exact ⟨GA_below hF.2.2 hC.size, ⟨b, rfl, Nat.le_trans hC.size hF.1, .inl hF.2.1⟩, isfr rfl hF.1 (blk_lt hF.2.1)⟩
    refine ⟨fun wu2 hC hd => ?_, ?_⟩
    · obtain ⟨h1, _⟩ := hd
      obtain ⟨b5, h1, hle5, hk7⟩ := h1
      replace hb := hb.trans (hC.mono hb.size)
      replace hk1 := blk_ext hk1 hC
      replace hk2 := blk_ext hk2 hC
      replace hk5 := blk_ext hk5 hC
      replace hk6 := blk_ext hk6 hC
      exact Runs.does (r_assign rfl) ⟨GA_refl, rfl, nofr rfl⟩
    refine ⟨fun wu3 hC hd => ?_, ?_⟩
    · obtain ⟨h0, h1, h2, _⟩ := hd
      replace h0 : V 0 = (.agg #[(.int .u8 (127 : Int)), (.bool false)]) := h0
      obtain ⟨b5, h1, hle5, hk7⟩ := h1
      replace h2 : V 2 = (.int .i64 (0 : Int)) := h2
      replace hb := hb.trans (hC.mono hb.size)
      replace hk1 := blk_ext hk1 hC
      replace hk2 := blk_ext hk2 hC
      replace hk5 := blk_ext hk5 hC
      replace hk6 := blk_ext hk6 hC
      refine Does.mono (R := fun _ wz => Wrote wu3 b5 #[(.int .u8 (127 : Int)), (.bool false)] 101 wz) ?_ ?_
      · rcases hk7 with hX | hX
        · exact (d_storeK (T := 101) (v := (.agg #[(.int .u8 (127 : Int)), (.bool false)])) (cs := #[(.int .u8 (0 : Int)), (.bool false)]) (cs' := #[(.int .u8 (127 : Int)), (.bool false)]) (congrArg some h1) (congrArg some h0) (by kernel_rfl) (by kernel_rfl) hX (by kernel_rfl) (by kernel_rfl))
        · exact (d_storeK (T := 101) (v := (.agg #[(.int .u8 (127 : Int)), (.bool false)])) (cs := #[(.int .u8 (127 : Int)), (.bool false)]) (cs' := #[(.int .u8 (127 : Int)), (.bool false)]) (congrArg some h1) (congrArg some h0) (by kernel_rfl) (by kernel_rfl) hX (by kernel_rfl) (by kernel_rfl))
      · rintro _ wz ⟨hY, hgY⟩
        exact ⟨GA_store hC.size hle5 hk7 hY hgY, (by rw [h1]; exact hY), nofr rfl⟩
    trivial
  · skip
    clear hf fa; intro V w7 fa he5 hp hnb hf
    have hv0 : V 0 = (.agg #[(.int .u8 (127 : Int)), (.bool false)]) := postsHold_at hp 0 rfl
    have hv1 := postsHold_at hp 1 rfl
    obtain ⟨b5, hv1, hle5, hk7⟩ := hv1
    have hBb5 : w.heap.size ≤ b5 := Nat.le_trans hb.size hle5
    have hv2 : V 2 = (.int .i64 (0 : Int)) := postsHold_at hp 2 rfl
    have hk8 := postsHold_at hp 3 rfl
    replace hk8 : w7.heap[(bk (V 1))]? = some (.cells #[(.int .u8 (127 : Int)), (.bool false)] 101 (0, 0)) := hk8
    rw [hv1] at hk8
    replace hk8 : w7.heap[b5]? = some (.cells #[(.int .u8 (127 : Int)), (.bool false)] 101 (0, 0)) := hk8
    simp only [List.take_succ_cons, List.take_zero, insAll, ins, hv0, hv1, hv2] at hf
    have : b1 < b5 := Nat.lt_of_lt_of_le (blk_lt hk1) hle5
    have : b2 < b5 := Nat.lt_of_lt_of_le (blk_lt hk2) hle5
    have : b3 < b5 := Nat.lt_of_lt_of_le (blk_lt hk5) hle5
    have : b4 < b5 := Nat.lt_of_lt_of_le (blk_lt hk6) hle5
    clear hp hnb hv0 hv1 hv2
    replace hk1 := blk_ext hk1 he5
    replace hk2 := blk_ext hk2 he5
    replace hk5 := blk_ext hk5 he5
    replace hk6 := blk_ext hk6 he5
    replace hb := hb.trans (Below.mono he5 hb.size)
    (try simp only [Exit.then, Exit.inBlock, ↓reduceIte, Nat.reduceEqDiff])
    refine hK3 _ _ ?_
    refine wp_seq_k (fun K4 hK4 => ?_)
    refine wp_block ?_
    refine wp_seq_k (fun K5 hK5 => ?_)
    refine wp_region_lit ?_
    refine sqv hf (r_fa rfl Try.underlying103 (f := 2) (q := 2) rfl (by kernel_rfl) rfl) rfl rfl rfl ?_; clear hf fa; intro fa hf
    refine sqv hf (r_load (v := (.int .u8 y.2.2.1)) rfl Try.underlying5 rfl (cell_blk hk2 rfl)) rfl rfl rfl ?_; clear hf fa; intro fa hf
    refine sqv hf (r_ne rfl rfl) rfl rfl rfl ?_; clear hf fa; intro fa hf
    refine sqv hf (r_assign rfl) rfl rfl rfl ?_; clear hf fa; intro fa hf
    apply wpList_nil
    (try simp only [Exit.then, Exit.inBlock, ↓reduceIte, Nat.reduceEqDiff])
    refine hK5 _ _ ?_
    refine wp_cond_split (t := (decide (y.2.2.1 ≠ (3 : Int)))) (hf.ev rfl) (fun hqt13_1 => ?_) (fun hqt13_1 => ?_)
    · have hqt13_1b := hqt13_1
      try simp only [decide_eq_true_eq, Bool.and_eq_true, Bool.or_eq_true, Bool.not_eq_true', decide_eq_false_iff_not, ne_eq, Bool.not_eq_true] at hqt13_1
      refine wp_seq_k (fun K6 hK6 => ?_)
      refine wp_region_lit ?_
      refine sqv hf (r_loadA (cs := [(.slice m.1.at' m.1.len m.1.cap), (.slice m.2.1.at' m.2.1.len m.2.1.cap), (.slice m.2.2.1.at' m.2.2.1.len m.2.2.1.cap), (.slice m.2.2.2.1.at' m.2.2.2.1.len m.2.2.2.1.cap), (.slice m.2.2.2.2.1.at' m.2.2.2.2.1.len m.2.2.2.2.1.cap), (.slice m.2.2.2.2.2.1.at' m.2.2.2.2.2.1.len m.2.2.2.2.2.1.cap), (.slice m.2.2.2.2.2.2.1.at' m.2.2.2.2.2.2.1.len m.2.2.2.2.2.2.1.cap), (.int .i64 m.2.2.2.2.2.2.2.1), (.slice m.2.2.2.2.2.2.2.2.1.at' m.2.2.2.2.2.2.2.2.1.len m.2.2.2.2.2.2.2.2.1.cap), (.slice m.2.2.2.2.2.2.2.2.2.1.at' m.2.2.2.2.2.2.2.2.2.1.len m.2.2.2.2.2.2.2.2.2.1.cap), (.slice m.2.2.2.2.2.2.2.2.2.2.1.at' m.2.2.2.2.2.2.2.2.2.2.1.len m.2.2.2.2.2.2.2.2.2.2.1.cap), (.bool m.2.2.2.2.2.2.2.2.2.2.2.1.1), (.int .u32 m.2.2.2.2.2.2.2.2.2.2.2.1.2.1), (.int .u32 m.2.2.2.2.2.2.2.2.2.2.2.1.2.2.1), (.int .u32 m.2.2.2.2.2.2.2.2.2.2.2.1.2.2.2.1), (.int .u32 m.2.2.2.2.2.2.2.2.2.2.2.1.2.2.2.2.1), (.slice m.2.2.2.2.2.2.2.2.2.2.2.1.2.2.2.2.2.1.at' m.2.2.2.2.2.2.2.2.2.2.2.1.2.2.2.2.2.1.len m.2.2.2.2.2.2.2.2.2.2.2.1.2.2.2.2.2.1.cap)]) rfl Try.underlying67 rfl (by kernel_rfl) (cellsAt_blk hk1)) rfl rfl rfl ?_; clear hf fa; intro fa hf
      refine sqv hf (r_loadA (cs := [(.string y.1), (.string y.2.1), (.int .u8 y.2.2.1), (.int .u32 y.2.2.2.1), (.int .u32 y.2.2.2.2.1.1), (.int .u32 y.2.2.2.2.1.2.1), (.bool y.2.2.2.2.1.2.2.1), (.int .u8 y.2.2.2.2.2.1.1), (.bool y.2.2.2.2.2.1.2.1)]) rfl Try.underlying103 rfl (by kernel_rfl) (cellsAt_blk hk2)) rfl rfl rfl ?_; clear hf fa; intro fa hf
      refine sqdt hf (d_callB (vs := [(.agg #[(.slice m.1.at' m.1.len m.1.cap), (.slice m.2.1.at' m.2.1.len m.2.1.cap), (.slice m.2.2.1.at' m.2.2.1.len m.2.2.1.cap), (.slice m.2.2.2.1.at' m.2.2.2.1.len m.2.2.2.1.cap), (.slice m.2.2.2.2.1.at' m.2.2.2.2.1.len m.2.2.2.2.1.cap), (.slice m.2.2.2.2.2.1.at' m.2.2.2.2.2.1.len m.2.2.2.2.2.1.cap), (.slice m.2.2.2.2.2.2.1.at' m.2.2.2.2.2.2.1.len m.2.2.2.2.2.2.1.cap), (.int .i64 m.2.2.2.2.2.2.2.1), (.slice m.2.2.2.2.2.2.2.2.1.at' m.2.2.2.2.2.2.2.2.1.len m.2.2.2.2.2.2.2.2.1.cap), (.slice m.2.2.2.2.2.2.2.2.2.1.at' m.2.2.2.2.2.2.2.2.2.1.len m.2.2.2.2.2.2.2.2.2.1.cap), (.slice m.2.2.2.2.2.2.2.2.2.2.1.at' m.2.2.2.2.2.2.2.2.2.2.1.len m.2.2.2.2.2.2.2.2.2.2.1.cap), (.bool m.2.2.2.2.2.2.2.2.2.2.2.1.1), (.int .u32 m.2.2.2.2.2.2.2.2.2.2.2.1.2.1), (.int .u32 m.2.2.2.2.2.2.2.2.2.2.2.1.2.2.1), (.int .u32 m.2.2.2.2.2.2.2.2.2.2.2.1.2.2.2.1), (.int .u32 m.2.2.2.2.2.2.2.2.2.2.2.1.2.2.2.2.1), (.slice m.2.2.2.2.2.2.2.2.2.2.2.1.2.2.2.2.2.1.at' m.2.2.2.2.2.2.2.2.2.2.2.1.2.2.2.2.2.1.len m.2.2.2.2.2.2.2.2.2.2.2.1.2.2.2.2.2.1.cap)]), (.agg #[(.string y.1), (.string y.2.1), (.int .u8 y.2.2.1), (.int .u32 y.2.2.2.1), (.int .u32 y.2.2.2.2.1.1), (.int .u32 y.2.2.2.2.1.2.1), (.bool y.2.2.2.2.1.2.2.1), (.int .u8 y.2.2.2.2.2.1.1), (.bool y.2.2.2.2.2.1.2.1)])]) rfl Try.func92 (by kernel_rfl) (by kernel_rfl) (other_any m y _ hyt hml)) rfl rfl rfl ?_; clear hf fa; rintro fa _ w8 ⟨rfl, he6⟩ hf
      replace hk1 := blk_ext hk1 he6
      replace hk2 := blk_ext hk2 he6
      replace hk5 := blk_ext hk5 he6
      replace hk6 := blk_ext hk6 he6
      replace hk8 := blk_ext hk8 he6
      replace hb := hb.trans (Below.mono he6 hb.size)
      refine sqv hf (r_extract rfl (i := 0) rfl) rfl rfl rfl ?_; clear hf fa; intro fa hf
      refine sqv hf (r_extract rfl (i := 1) rfl) rfl rfl rfl ?_; clear hf fa; intro fa hf
      refine sqv hf (r_assign rfl) rfl rfl rfl ?_; clear hf fa; intro fa hf
      refine sqv hf (r_assign rfl) rfl rfl rfl ?_; clear hf fa; intro fa hf
      apply wpList_nil
      (try simp only [Exit.then, Exit.inBlock, ↓reduceIte, Nat.reduceEqDiff])
      refine hK6 _ _ ?_
      refine wp_ret ?_
      (try simp only [Exit.then, Exit.inBlock])
      refine ret2 hf rfl rfl rfl ?_
      refine ⟨?_, hb⟩; unfold kindP; rw [hqt13_1b]; (try rfl)
    · have hqt13_1b := hqt13_1
      replace hqt13_1 := Bool.eq_false_iff.1 hqt13_1
      try simp only [ne_eq, decide_eq_true_eq, Bool.and_eq_true, Bool.or_eq_true, Bool.not_eq_true', decide_eq_false_iff_not] at hqt13_1
      refine wp_seq_k (fun K7 hK7 => ?_)
      refine wp_region_lit ?_
      refine sqv hf (r_fa rfl Try.underlying103 (f := 0) (q := 0) rfl (by kernel_rfl) rfl) rfl rfl rfl ?_; clear hf fa; intro fa hf
      refine sqv hf (r_load (v := (.string y.1)) rfl Try.underlying9 rfl (cell_blk hk2 rfl)) rfl rfl rfl ?_; clear hf fa; intro fa hf
      refine sqv hf (r_seq rfl rfl) rfl rfl rfl ?_; clear hf fa; intro fa hf
      refine sqv hf (r_move rfl) rfl rfl rfl ?_; clear hf fa; intro fa hf
      refine sqgT (act := (decide (y.1 = ⟨#[101, 110, 118]⟩))) (ag := true) (c := (decide (y.1 = ⟨#[101, 110, 118]⟩))) (v := (.pointer (some ⟨b2, 1, none⟩))) hf rfl rfl rfl (fun hact => (r_fa rfl Try.underlying103 (f := 1) (q := 1) rfl (by kernel_rfl) rfl)) rfl rfl ?_; clear hf fa; intro fa hf
      refine sqgT (act := (decide (y.1 = ⟨#[101, 110, 118]⟩))) (ag := true) (c := (decide (y.1 = ⟨#[101, 110, 118]⟩))) (v := (.string y.2.1)) hf rfl rfl rfl (fun hact => (r_load (v := (.string y.2.1)) (gb_ev hact rfl) Try.underlying9 rfl (cell_blk hk2 rfl))) rfl rfl ?_; clear hf fa; intro fa hf
      refine sqgT (act := (decide (y.1 = ⟨#[101, 110, 118]⟩))) (ag := true) (c := (decide (y.1 = ⟨#[101, 110, 118]⟩))) (v := (.bool (decide (y.2.1 = ⟨#[95, 95, 109, 101, 109, 111, 114, 121, 95, 98, 97, 115, 101]⟩)))) hf rfl rfl rfl (fun hact => (r_seq (gb_ev hact rfl) rfl)) rfl rfl ?_; clear hf fa; intro fa hf
      refine sqv hf (r_pickA (b := (decide (y.1 = ⟨#[101, 110, 118]⟩))) (e := (decide (y.2.1 = ⟨#[95, 95, 109, 101, 109, 111, 114, 121, 95, 98, 97, 115, 101]⟩))) rfl rfl rfl) rfl rfl rfl ?_; clear hf fa; intro fa hf
      refine sqv hf (r_assign rfl) rfl rfl rfl ?_; clear hf fa; intro fa hf
      apply wpList_nil
      (try simp only [Exit.then, Exit.inBlock, ↓reduceIte, Nat.reduceEqDiff])
      refine hK7 _ _ ?_
      refine wp_cond_split (t := ((decide (y.1 = ⟨#[101, 110, 118]⟩)) && (decide (y.2.1 = ⟨#[95, 95, 109, 101, 109, 111, 114, 121, 95, 98, 97, 115, 101]⟩)))) (hf.ev rfl) (fun hqt22_1 => ?_) (fun hqt22_1 => ?_)
      · have hqt22_1b := hqt22_1
        try simp only [decide_eq_true_eq, Bool.and_eq_true, Bool.or_eq_true, Bool.not_eq_true', decide_eq_false_iff_not, ne_eq, Bool.not_eq_true] at hqt22_1
        refine wp_region_lit ?_
        refine sqv hf (r_assign rfl) rfl rfl rfl ?_; clear hf fa; intro fa hf
        apply wpList_nil
        (try simp only [Exit.then, Exit.inBlock, ↓reduceIte, Nat.reduceEqDiff])
        refine hK4 _ _ ?_
        refine wp_seq_k (fun K8 hK8 => ?_)
        refine wp_seq_k (fun K9 hK9 => ?_)
        refine wp_region_lit ?_
        refine sqv hf (r_fa rfl Try.underlying103 (f := 5) (q := 7) rfl (by kernel_rfl) rfl) rfl rfl rfl ?_; clear hf fa; intro fa hf
        refine sqv hf (r_loadA (cs := [(.int .u8 y.2.2.2.2.2.1.1), (.bool y.2.2.2.2.2.1.2.1)]) rfl Try.underlying101 rfl (by kernel_rfl) (cellsAt_part (d := 7) (n := 2) (cellsAt_blk hk2) rfl rfl)) rfl rfl rfl ?_; clear hf fa; intro fa hf
        refine sqv hf (r_loadA (cs := [(.int .u8 (127 : Int)), (.bool false)]) rfl Try.underlying101 rfl (by kernel_rfl) (cellsAt_blk hk8)) rfl rfl rfl ?_; clear hf fa; intro fa hf
        refine sqv hf (r_ane (k := 5) rfl rfl (by kernel_rfl) (eqt_struct (xs := #[(.int .u8 y.2.2.2.2.2.1.1), (.bool y.2.2.2.2.2.1.2.1)]) (ys := #[(.int .u8 (127 : Int)), (.bool false)]) Try.underlying101 (by kernel_rfl) (eqf_cons (by kernel_rfl) (fun _ => by kernel_rfl) (fun _ => by kernel_rfl) (eqt_int (kk := .u8) (a := y.2.2.2.2.2.1.1) (b := (127 : Int)) Try.underlying5) (eqf_one (by kernel_rfl) (fun _ => by kernel_rfl) (fun _ => by kernel_rfl) (eqt_bool (a := y.2.2.2.2.2.1.2.1) (b := false) Try.underlying4)))) rfl) rfl rfl rfl ?_; clear hf fa; intro fa hf
        apply wpList_nil
        (try simp only [Exit.then, Exit.inBlock, ↓reduceIte, Nat.reduceEqDiff])
        refine hK9 _ _ ?_
        refine wp_cond_split (t := (!((decide (y.2.2.2.2.2.1.1 = (127 : Int))) && (y.2.2.2.2.2.1.2.1 == false)))) (hf.ev rfl) (fun hqt53_1 => ?_) (fun hqt53_1 => ?_)
        · have hqt53_1b := hqt53_1
          try simp only [decide_eq_true_eq, Bool.and_eq_true, Bool.or_eq_true, Bool.not_eq_true', decide_eq_false_iff_not, ne_eq, Bool.not_eq_true] at hqt53_1
          refine wp_seq_k (fun K10 hK10 => ?_)
          refine wp_region_lit ?_
          refine sqv hf (r_assign rfl) rfl rfl rfl ?_; clear hf fa; intro fa hf
          refine sqv hf (r_assign rfl) rfl rfl rfl ?_; clear hf fa; intro fa hf
          apply wpList_nil
          (try simp only [Exit.then, Exit.inBlock, ↓reduceIte, Nat.reduceEqDiff])
          refine hK10 _ _ ?_
          refine wp_ret ?_
          (try simp only [Exit.then, Exit.inBlock])
          refine ret2 hf rfl rfl rfl ?_
          refine ⟨?_, hb⟩; unfold kindP; rw [hqt13_1b, hqt22_1b, hqt53_1b]; (try rfl)
        · have hqt53_1b := hqt53_1
          replace hqt53_1 := Bool.eq_false_iff.1 hqt53_1
          try simp only [ne_eq, decide_eq_true_eq, Bool.and_eq_true, Bool.or_eq_true, Bool.not_eq_true', decide_eq_false_iff_not] at hqt53_1
          refine wp_skip ?_
          (try simp only [Exit.then, Exit.inBlock, ↓reduceIte, Nat.reduceEqDiff])
          refine hK8 _ _ ?_
          refine wp_seq_k (fun K11 hK11 => ?_)
          refine wp_region_lit ?_
          refine sqv hf (r_move rfl) rfl rfl rfl ?_; clear hf fa; intro fa hf
          refine sqv hf (r_assign rfl) rfl rfl rfl ?_; clear hf fa; intro fa hf
          refine sqv hf (r_assign rfl) rfl rfl rfl ?_; clear hf fa; intro fa hf
          apply wpList_nil
          (try simp only [Exit.then, Exit.inBlock, ↓reduceIte, Nat.reduceEqDiff])
          refine hK11 _ _ ?_
          refine wp_ret ?_
          (try simp only [Exit.then, Exit.inBlock])
          refine ret2 hf rfl rfl rfl ?_
          refine ⟨?_, hb⟩; unfold kindP; rw [hqt13_1b, hqt22_1b, hqt53_1b]; (try rfl)
      · have hqt22_1b := hqt22_1
        replace hqt22_1 := Bool.eq_false_iff.1 hqt22_1
        try simp only [ne_eq, decide_eq_true_eq, Bool.and_eq_true, Bool.or_eq_true, Bool.not_eq_true', decide_eq_false_iff_not] at hqt22_1
        refine wp_seq_k (fun K12 hK12 => ?_)
        refine wp_region_lit ?_
        refine sqv hf (r_fa rfl Try.underlying103 (f := 0) (q := 0) rfl (by kernel_rfl) rfl) rfl rfl rfl ?_; clear hf fa; intro fa hf
        refine sqv hf (r_load (v := (.string y.1)) rfl Try.underlying9 rfl (cell_blk hk2 rfl)) rfl rfl rfl ?_; clear hf fa; intro fa hf
        refine sqv hf (r_seq rfl rfl) rfl rfl rfl ?_; clear hf fa; intro fa hf
        refine sqv hf (r_move rfl) rfl rfl rfl ?_; clear hf fa; intro fa hf
        refine sqgT (act := (decide (y.1 = ⟨#[101, 110, 118]⟩))) (ag := true) (c := (decide (y.1 = ⟨#[101, 110, 118]⟩))) (v := (.pointer (some ⟨b2, 1, none⟩))) hf rfl rfl rfl (fun hact => (r_fa rfl Try.underlying103 (f := 1) (q := 1) rfl (by kernel_rfl) rfl)) rfl rfl ?_; clear hf fa; intro fa hf
        refine sqgT (act := (decide (y.1 = ⟨#[101, 110, 118]⟩))) (ag := true) (c := (decide (y.1 = ⟨#[101, 110, 118]⟩))) (v := (.string y.2.1)) hf rfl rfl rfl (fun hact => (r_load (v := (.string y.2.1)) (gb_ev hact rfl) Try.underlying9 rfl (cell_blk hk2 rfl))) rfl rfl ?_; clear hf fa; intro fa hf
        refine sqgT (act := (decide (y.1 = ⟨#[101, 110, 118]⟩))) (ag := true) (c := (decide (y.1 = ⟨#[101, 110, 118]⟩))) (v := (.bool (decide (y.2.1 = ⟨#[95, 95, 116, 97, 98, 108, 101, 95, 98, 97, 115, 101]⟩)))) hf rfl rfl rfl (fun hact => (r_seq (gb_ev hact rfl) rfl)) rfl rfl ?_; clear hf fa; intro fa hf
        refine sqv hf (r_pickA (b := (decide (y.1 = ⟨#[101, 110, 118]⟩))) (e := (decide (y.2.1 = ⟨#[95, 95, 116, 97, 98, 108, 101, 95, 98, 97, 115, 101]⟩))) rfl rfl rfl) rfl rfl rfl ?_; clear hf fa; intro fa hf
        refine sqv hf (r_assign rfl) rfl rfl rfl ?_; clear hf fa; intro fa hf
        apply wpList_nil
        (try simp only [Exit.then, Exit.inBlock, ↓reduceIte, Nat.reduceEqDiff])
        refine hK12 _ _ ?_
        refine wp_cond_split (t := ((decide (y.1 = ⟨#[101, 110, 118]⟩)) && (decide (y.2.1 = ⟨#[95, 95, 116, 97, 98, 108, 101, 95, 98, 97, 115, 101]⟩)))) (hf.ev rfl) (fun hqt31_1 => ?_) (fun hqt31_1 => ?_)
        · have hqt31_1b := hqt31_1
          try simp only [decide_eq_true_eq, Bool.and_eq_true, Bool.or_eq_true, Bool.not_eq_true', decide_eq_false_iff_not, ne_eq, Bool.not_eq_true] at hqt31_1
          refine wp_region_lit ?_
          refine sqv hf (r_assign rfl) rfl rfl rfl ?_; clear hf fa; intro fa hf
          apply wpList_nil
          (try simp only [Exit.then, Exit.inBlock, ↓reduceIte, Nat.reduceEqDiff])
          refine hK4 _ _ ?_
          refine wp_seq_k (fun K13 hK13 => ?_)
          refine wp_seq_k (fun K14 hK14 => ?_)
          refine wp_region_lit ?_
          refine sqv hf (r_fa rfl Try.underlying103 (f := 5) (q := 7) rfl (by kernel_rfl) rfl) rfl rfl rfl ?_; clear hf fa; intro fa hf
          refine sqv hf (r_loadA (cs := [(.int .u8 y.2.2.2.2.2.1.1), (.bool y.2.2.2.2.2.1.2.1)]) rfl Try.underlying101 rfl (by kernel_rfl) (cellsAt_part (d := 7) (n := 2) (cellsAt_blk hk2) rfl rfl)) rfl rfl rfl ?_; clear hf fa; intro fa hf
          refine sqv hf (r_loadA (cs := [(.int .u8 (127 : Int)), (.bool false)]) rfl Try.underlying101 rfl (by kernel_rfl) (cellsAt_blk hk8)) rfl rfl rfl ?_; clear hf fa; intro fa hf
          refine sqv hf (r_ane (k := 5) rfl rfl (by kernel_rfl) (eqt_struct (xs := #[(.int .u8 y.2.2.2.2.2.1.1), (.bool y.2.2.2.2.2.1.2.1)]) (ys := #[(.int .u8 (127 : Int)), (.bool false)]) Try.underlying101 (by kernel_rfl) (eqf_cons (by kernel_rfl) (fun _ => by kernel_rfl) (fun _ => by kernel_rfl) (eqt_int (kk := .u8) (a := y.2.2.2.2.2.1.1) (b := (127 : Int)) Try.underlying5) (eqf_one (by kernel_rfl) (fun _ => by kernel_rfl) (fun _ => by kernel_rfl) (eqt_bool (a := y.2.2.2.2.2.1.2.1) (b := false) Try.underlying4)))) rfl) rfl rfl rfl ?_; clear hf fa; intro fa hf
          apply wpList_nil
          (try simp only [Exit.then, Exit.inBlock, ↓reduceIte, Nat.reduceEqDiff])
          refine hK14 _ _ ?_
          refine wp_cond_split (t := (!((decide (y.2.2.2.2.2.1.1 = (127 : Int))) && (y.2.2.2.2.2.1.2.1 == false)))) (hf.ev rfl) (fun hqt53_2 => ?_) (fun hqt53_2 => ?_)
          · have hqt53_2b := hqt53_2
            try simp only [decide_eq_true_eq, Bool.and_eq_true, Bool.or_eq_true, Bool.not_eq_true', decide_eq_false_iff_not, ne_eq, Bool.not_eq_true] at hqt53_2
            refine wp_seq_k (fun K15 hK15 => ?_)
            refine wp_region_lit ?_
            refine sqv hf (r_assign rfl) rfl rfl rfl ?_; clear hf fa; intro fa hf
            refine sqv hf (r_assign rfl) rfl rfl rfl ?_; clear hf fa; intro fa hf
            apply wpList_nil
            (try simp only [Exit.then, Exit.inBlock, ↓reduceIte, Nat.reduceEqDiff])
            refine hK15 _ _ ?_
            refine wp_ret ?_
            (try simp only [Exit.then, Exit.inBlock])
            refine ret2 hf rfl rfl rfl ?_
            refine ⟨?_, hb⟩; unfold kindP; rw [hqt13_1b, hqt22_1b, hqt31_1b, hqt53_2b]; (try rfl)
          · have hqt53_2b := hqt53_2
            replace hqt53_2 := Bool.eq_false_iff.1 hqt53_2
            try simp only [ne_eq, decide_eq_true_eq, Bool.and_eq_true, Bool.or_eq_true, Bool.not_eq_true', decide_eq_false_iff_not] at hqt53_2
            refine wp_skip ?_
            (try simp only [Exit.then, Exit.inBlock, ↓reduceIte, Nat.reduceEqDiff])
            refine hK13 _ _ ?_
            refine wp_seq_k (fun K16 hK16 => ?_)
            refine wp_region_lit ?_
            refine sqv hf (r_move rfl) rfl rfl rfl ?_; clear hf fa; intro fa hf
            refine sqv hf (r_assign rfl) rfl rfl rfl ?_; clear hf fa; intro fa hf
            refine sqv hf (r_assign rfl) rfl rfl rfl ?_; clear hf fa; intro fa hf
            apply wpList_nil
            (try simp only [Exit.then, Exit.inBlock, ↓reduceIte, Nat.reduceEqDiff])
            refine hK16 _ _ ?_
            refine wp_ret ?_
            (try simp only [Exit.then, Exit.inBlock])
            refine ret2 hf rfl rfl rfl ?_
            refine ⟨?_, hb⟩; unfold kindP; rw [hqt13_1b, hqt22_1b, hqt31_1b, hqt53_2b]; (try rfl)
        · have hqt31_1b := hqt31_1
          replace hqt31_1 := Bool.eq_false_iff.1 hqt31_1
          try simp only [ne_eq, decide_eq_true_eq, Bool.and_eq_true, Bool.or_eq_true, Bool.not_eq_true', decide_eq_false_iff_not] at hqt31_1
          refine wp_seq_k (fun K17 hK17 => ?_)
          refine wp_region_lit ?_
          refine sqv hf (r_fa rfl Try.underlying103 (f := 0) (q := 0) rfl (by kernel_rfl) rfl) rfl rfl rfl ?_; clear hf fa; intro fa hf
          refine sqv hf (r_load (v := (.string y.1)) rfl Try.underlying9 rfl (cell_blk hk2 rfl)) rfl rfl rfl ?_; clear hf fa; intro fa hf
          refine sqv hf (r_seq rfl rfl) rfl rfl rfl ?_; clear hf fa; intro fa hf
          refine sqv hf (r_assign rfl) rfl rfl rfl ?_; clear hf fa; intro fa hf
          apply wpList_nil
          (try simp only [Exit.then, Exit.inBlock, ↓reduceIte, Nat.reduceEqDiff])
          refine hK17 _ _ ?_
          refine wp_cond_split (t := (decide (y.1 = ⟨#[71, 79, 84, 46, 109, 101, 109]⟩))) (hf.ev rfl) (fun hqt40_1 => ?_) (fun hqt40_1 => ?_)
          · have hqt40_1b := hqt40_1
            try simp only [decide_eq_true_eq, Bool.and_eq_true, Bool.or_eq_true, Bool.not_eq_true', decide_eq_false_iff_not, ne_eq, Bool.not_eq_true] at hqt40_1
            refine wp_region_un (fun wc => (w7.grownBy wc (some b5) ∧ (wc.heap[b5]? = some (.cells #[(.int .u8 (127 : Int)), (.bool false)] 101 (0, 0)) ∨ wc.heap[b5]? = some (.cells #[(.int .u8 (127 : Int)), (.bool true)] 101 (0, 0))))) (fun wa wc => ((w7.grownBy wa (some b5) ∧ (wa.heap[b5]? = some (.cells #[(.int .u8 (127 : Int)), (.bool false)] 101 (0, 0)) ∨ wa.heap[b5]? = some (.cells #[(.int .u8 (127 : Int)), (.bool true)] 101 (0, 0)))) → (w7.grownBy wc (some b5) ∧ (wc.heap[b5]? = some (.cells #[(.int .u8 (127 : Int)), (.bool false)] 101 (0, 0)) ∨ wc.heap[b5]? = some (.cells #[(.int .u8 (127 : Int)), (.bool true)] 101 (0, 0))))) ∧ wa.heap.size ≤ wc.heap.size ∧ (wa.heap[b5]? = some (.cells #[(.int .u8 (127 : Int)), (.bool true)] 101 (0, 0)) → wc.heap[b5]? = some (.cells #[(.int .u8 (127 : Int)), (.bool true)] 101 (0, 0))))
              (fun V => [(fun x _ => x = (.agg #[(.int .u8 (127 : Int)), (.bool true)])), (fun x _ => x = (.int .i64 (4 : Int))), (fun _ wq => wq.heap[b5]? = some (.cells #[(.int .u8 (127 : Int)), (.bool true)] 101 (0, 0)))])
              []
              [[], [], [0, 1]]
              hf (by kernel_rfl) (by kernel_rfl) (fun _ => rfl) ⟨below_grown (Below.refl _ _).drew, .inl (blk_ext hk8 (Below.refl _ _).drew)⟩ (fun a b h1 h2 => h2.1 h1) (fun _ _ h => h.2.1) (fun V => ⟨(fun _ _ _ h _ => h), (fun _ _ _ h _ => h), (fun _ _ _ h hG => hG.2.2 h), trivial⟩) (fun _ _ _ _ _ => rfl) ?_ ?_
            · skip
              intro V
              refine ⟨fun wu0 hC hd => ?_, ?_⟩
              · clear hd
                have hgC := hC.1
                replace hk1 := blk_grown hk1 hgC (by omega)
                replace hk2 := blk_grown hk2 hgC (by omega)
                replace hk5 := blk_grown hk5 hgC (by omega)
                replace hk6 := blk_grown hk6 hgC (by omega)
                replace hb := hb.trans (grown_below hgC hb.size hBb5)
                exact Runs.does (r_loadA (cs := [(.int .u8 (127 : Int)), (.bool true)]) rfl Try.underlying101 rfl (by kernel_rfl) (cellsAt_blk hk6)) ⟨⟨id, Nat.le_refl _, id⟩, rfl, nofr rfl⟩
              refine ⟨fun wu1 hC hd => ?_, ?_⟩
              · clear hd
                have hgC := hC.1
                replace hk1 := blk_grown hk1 hgC (by omega)
                replace hk2 := blk_grown hk2 hgC (by omega)
                replace hk5 := blk_grown hk5 hgC (by omega)
                replace hk6 := blk_grown hk6 hgC (by omega)
                replace hb := hb.trans (grown_below hgC hb.size hBb5)
                exact Runs.does (r_assign rfl) ⟨⟨id, Nat.le_refl _, id⟩, rfl, nofr rfl⟩
              refine ⟨fun wu2 hC hd => ?_, ?_⟩
              · obtain ⟨h0, h1, _⟩ := hd
                replace h0 : V 0 = (.agg #[(.int .u8 (127 : Int)), (.bool true)]) := h0
                replace h1 : V 1 = (.int .i64 (4 : Int)) := h1
                have hgC := hC.1
                replace hk1 := blk_grown hk1 hgC (by omega)
                replace hk2 := blk_grown hk2 hgC (by omega)
                replace hk5 := blk_grown hk5 hgC (by omega)
                replace hk6 := blk_grown hk6 hgC (by omega)
                replace hb := hb.trans (grown_below hgC hb.size hBb5)
                rcases hC.2 with hX | hX
                · refine Does.mono (d_storeK (T := 101) (v := (.agg #[(.int .u8 (127 : Int)), (.bool true)])) (cs := #[(.int .u8 (127 : Int)), (.bool false)]) (cs' := #[(.int .u8 (127 : Int)), (.bool true)]) rfl (congrArg some h0) (by kernel_rfl) (by kernel_rfl) hX (by kernel_rfl) (by kernel_rfl)) ?_
                  rintro _ wz ⟨hY, hgY⟩
                  exact ⟨⟨fun _ => ⟨grownBy_trans hgC hgY, .inr hY⟩, hgY.size, fun _ => hY⟩, hY, nofr rfl⟩
                · refine Does.mono (d_storeK (T := 101) (v := (.agg #[(.int .u8 (127 : Int)), (.bool true)])) (cs := #[(.int .u8 (127 : Int)), (.bool true)]) (cs' := #[(.int .u8 (127 : Int)), (.bool true)]) rfl (congrArg some h0) (by kernel_rfl) (by kernel_rfl) hX (by kernel_rfl) (by kernel_rfl)) ?_
                  rintro _ wz ⟨hY, hgY⟩
                  exact ⟨⟨fun _ => ⟨grownBy_trans hgC hgY, .inr hY⟩, hgY.size, fun _ => hY⟩, hY, nofr rfl⟩
              trivial
            · skip
              clear hf fa; intro V w9 fa he7 hp hnb hf
              have hg3 := he7.1
              have hv0 : V 0 = (.agg #[(.int .u8 (127 : Int)), (.bool true)]) := postsHold_at hp 0 rfl
              have hv1 : V 1 = (.int .i64 (4 : Int)) := postsHold_at hp 1 rfl
              have hk9 := postsHold_at hp 2 rfl
              simp only [List.take_succ_cons, List.take_zero, insAll, ins, hv0, hv1] at hf
              clear hp hnb hv0 hv1
              replace hk1 := blk_grown hk1 hg3 (by omega)
              replace hk2 := blk_grown hk2 hg3 (by omega)
              replace hk5 := blk_grown hk5 hg3 (by omega)
              replace hk6 := blk_grown hk6 hg3 (by omega)
              replace hb := hb.trans (grown_below hg3 hb.size hBb5)
              replace hk9 : w9.heap[b5]? = some (.cells #[(.int .u8 (127 : Int)), (.bool true)] 101 (0, 0)) := hk9
              (try simp only [Exit.then, Exit.inBlock, ↓reduceIte, Nat.reduceEqDiff])
              refine hK4 _ _ ?_
              refine wp_seq_k (fun K18 hK18 => ?_)
              refine wp_seq_k (fun K19 hK19 => ?_)
              refine wp_region_lit ?_
              refine sqv hf (r_fa rfl Try.underlying103 (f := 5) (q := 7) rfl (by kernel_rfl) rfl) rfl rfl rfl ?_; clear hf fa; intro fa hf
              refine sqv hf (r_loadA (cs := [(.int .u8 y.2.2.2.2.2.1.1), (.bool y.2.2.2.2.2.1.2.1)]) rfl Try.underlying101 rfl (by kernel_rfl) (cellsAt_part (d := 7) (n := 2) (cellsAt_blk hk2) rfl rfl)) rfl rfl rfl ?_; clear hf fa; intro fa hf
              refine sqv hf (r_loadA (cs := [(.int .u8 (127 : Int)), (.bool true)]) rfl Try.underlying101 rfl (by kernel_rfl) (cellsAt_blk hk9)) rfl rfl rfl ?_; clear hf fa; intro fa hf
              refine sqv hf (r_ane (k := 5) rfl rfl (by kernel_rfl) (eqt_struct (xs := #[(.int .u8 y.2.2.2.2.2.1.1), (.bool y.2.2.2.2.2.1.2.1)]) (ys := #[(.int .u8 (127 : Int)), (.bool true)]) Try.underlying101 (by kernel_rfl) (eqf_cons (by kernel_rfl) (fun _ => by kernel_rfl) (fun _ => by kernel_rfl) (eqt_int (kk := .u8) (a := y.2.2.2.2.2.1.1) (b := (127 : Int)) Try.underlying5) (eqf_one (by kernel_rfl) (fun _ => by kernel_rfl) (fun _ => by kernel_rfl) (eqt_bool (a := y.2.2.2.2.2.1.2.1) (b := true) Try.underlying4)))) rfl) rfl rfl rfl ?_; clear hf fa; intro fa hf
              apply wpList_nil
              (try simp only [Exit.then, Exit.inBlock, ↓reduceIte, Nat.reduceEqDiff])
              refine hK19 _ _ ?_
              refine wp_cond_split (t := (!((decide (y.2.2.2.2.2.1.1 = (127 : Int))) && (y.2.2.2.2.2.1.2.1 == true)))) (hf.ev rfl) (fun hqt53_3 => ?_) (fun hqt53_3 => ?_)
              · have hqt53_3b := hqt53_3
                try simp only [decide_eq_true_eq, Bool.and_eq_true, Bool.or_eq_true, Bool.not_eq_true', decide_eq_false_iff_not, ne_eq, Bool.not_eq_true] at hqt53_3
                refine wp_seq_k (fun K20 hK20 => ?_)
                refine wp_region_lit ?_
                refine sqv hf (r_assign rfl) rfl rfl rfl ?_; clear hf fa; intro fa hf
                refine sqv hf (r_assign rfl) rfl rfl rfl ?_; clear hf fa; intro fa hf
                apply wpList_nil
                (try simp only [Exit.then, Exit.inBlock, ↓reduceIte, Nat.reduceEqDiff])
                refine hK20 _ _ ?_
                refine wp_ret ?_
                (try simp only [Exit.then, Exit.inBlock])
                refine ret2 hf rfl rfl rfl ?_
                refine ⟨?_, hb⟩; unfold kindP; rw [hqt13_1b, hqt22_1b, hqt31_1b, hqt40_1b, hqt53_3b]; (try rfl)
              · have hqt53_3b := hqt53_3
                replace hqt53_3 := Bool.eq_false_iff.1 hqt53_3
                try simp only [ne_eq, decide_eq_true_eq, Bool.and_eq_true, Bool.or_eq_true, Bool.not_eq_true', decide_eq_false_iff_not] at hqt53_3
                refine wp_skip ?_
                (try simp only [Exit.then, Exit.inBlock, ↓reduceIte, Nat.reduceEqDiff])
                refine hK18 _ _ ?_
                refine wp_seq_k (fun K21 hK21 => ?_)
                refine wp_region_lit ?_
                refine sqv hf (r_move rfl) rfl rfl rfl ?_; clear hf fa; intro fa hf
                refine sqv hf (r_assign rfl) rfl rfl rfl ?_; clear hf fa; intro fa hf
                refine sqv hf (r_assign rfl) rfl rfl rfl ?_; clear hf fa; intro fa hf
                apply wpList_nil
                (try simp only [Exit.then, Exit.inBlock, ↓reduceIte, Nat.reduceEqDiff])
                refine hK21 _ _ ?_
                refine wp_ret ?_
                (try simp only [Exit.then, Exit.inBlock])
                refine ret2 hf rfl rfl rfl ?_
                refine ⟨?_, hb⟩; unfold kindP; rw [hqt13_1b, hqt22_1b, hqt31_1b, hqt40_1b, hqt53_3b]; (try rfl)
          · have hqt40_1b := hqt40_1
            replace hqt40_1 := Bool.eq_false_iff.1 hqt40_1
            try simp only [ne_eq, decide_eq_true_eq, Bool.and_eq_true, Bool.or_eq_true, Bool.not_eq_true', decide_eq_false_iff_not] at hqt40_1
            refine wp_seq_k (fun K22 hK22 => ?_)
            refine wp_region_lit ?_
            refine sqv hf (r_fa rfl Try.underlying103 (f := 0) (q := 0) rfl (by kernel_rfl) rfl) rfl rfl rfl ?_; clear hf fa; intro fa hf
            refine sqv hf (r_load (v := (.string y.1)) rfl Try.underlying9 rfl (cell_blk hk2 rfl)) rfl rfl rfl ?_; clear hf fa; intro fa hf
            refine sqv hf (r_seq rfl rfl) rfl rfl rfl ?_; clear hf fa; intro fa hf
            refine sqv hf (r_assign rfl) rfl rfl rfl ?_; clear hf fa; intro fa hf
            apply wpList_nil
            (try simp only [Exit.then, Exit.inBlock, ↓reduceIte, Nat.reduceEqDiff])
            refine hK22 _ _ ?_
            refine wp_cond_split (t := (decide (y.1 = ⟨#[71, 79, 84, 46, 102, 117, 110, 99]⟩))) (hf.ev rfl) (fun hqt45_1 => ?_) (fun hqt45_1 => ?_)
            · have hqt45_1b := hqt45_1
              try simp only [decide_eq_true_eq, Bool.and_eq_true, Bool.or_eq_true, Bool.not_eq_true', decide_eq_false_iff_not, ne_eq, Bool.not_eq_true] at hqt45_1
              refine wp_region_un (fun wc => (w7.grownBy wc (some b5) ∧ (wc.heap[b5]? = some (.cells #[(.int .u8 (127 : Int)), (.bool false)] 101 (0, 0)) ∨ wc.heap[b5]? = some (.cells #[(.int .u8 (127 : Int)), (.bool true)] 101 (0, 0))))) (fun wa wc => ((w7.grownBy wa (some b5) ∧ (wa.heap[b5]? = some (.cells #[(.int .u8 (127 : Int)), (.bool false)] 101 (0, 0)) ∨ wa.heap[b5]? = some (.cells #[(.int .u8 (127 : Int)), (.bool true)] 101 (0, 0)))) → (w7.grownBy wc (some b5) ∧ (wc.heap[b5]? = some (.cells #[(.int .u8 (127 : Int)), (.bool false)] 101 (0, 0)) ∨ wc.heap[b5]? = some (.cells #[(.int .u8 (127 : Int)), (.bool true)] 101 (0, 0))))) ∧ wa.heap.size ≤ wc.heap.size ∧ (wa.heap[b5]? = some (.cells #[(.int .u8 (127 : Int)), (.bool true)] 101 (0, 0)) → wc.heap[b5]? = some (.cells #[(.int .u8 (127 : Int)), (.bool true)] 101 (0, 0))))
                (fun V => [(fun x _ => x = (.agg #[(.int .u8 (127 : Int)), (.bool true)])), (fun x _ => x = (.int .i64 (5 : Int))), (fun _ wq => wq.heap[b5]? = some (.cells #[(.int .u8 (127 : Int)), (.bool true)] 101 (0, 0)))])
                []
                [[], [], [0, 1]]
                hf (by kernel_rfl) (by kernel_rfl) (fun _ => rfl) ⟨below_grown (Below.refl _ _).drew, .inl (blk_ext hk8 (Below.refl _ _).drew)⟩ (fun a b h1 h2 => h2.1 h1) (fun _ _ h => h.2.1) (fun V => ⟨(fun _ _ _ h _ => h), (fun _ _ _ h _ => h), (fun _ _ _ h hG => hG.2.2 h), trivial⟩) (fun _ _ _ _ _ => rfl) ?_ ?_
              · skip
                intro V
                refine ⟨fun wu0 hC hd => ?_, ?_⟩
                · clear hd
                  have hgC := hC.1
                  replace hk1 := blk_grown hk1 hgC (by omega)
                  replace hk2 := blk_grown hk2 hgC (by omega)
                  replace hk5 := blk_grown hk5 hgC (by omega)
                  replace hk6 := blk_grown hk6 hgC (by omega)
                  replace hb := hb.trans (grown_below hgC hb.size hBb5)
                  exact Runs.does (r_loadA (cs := [(.int .u8 (127 : Int)), (.bool true)]) rfl Try.underlying101 rfl (by kernel_rfl) (cellsAt_blk hk6)) ⟨⟨id, Nat.le_refl _, id⟩, rfl, nofr rfl⟩
                refine ⟨fun wu1 hC hd => ?_, ?_⟩
                · clear hd
                  have hgC := hC.1
                  replace hk1 := blk_grown hk1 hgC (by omega)
                  replace hk2 := blk_grown hk2 hgC (by omega)
                  replace hk5 := blk_grown hk5 hgC (by omega)
                  replace hk6 := blk_grown hk6 hgC (by omega)
                  replace hb := hb.trans (grown_below hgC hb.size hBb5)
                  exact Runs.does (r_assign rfl) ⟨⟨id, Nat.le_refl _, id⟩, rfl, nofr rfl⟩
                refine ⟨fun wu2 hC hd => ?_, ?_⟩
                · obtain ⟨h0, h1, _⟩ := hd
                  replace h0 : V 0 = (.agg #[(.int .u8 (127 : Int)), (.bool true)]) := h0
                  replace h1 : V 1 = (.int .i64 (5 : Int)) := h1
                  have hgC := hC.1
                  replace hk1 := blk_grown hk1 hgC (by omega)
                  replace hk2 := blk_grown hk2 hgC (by omega)
                  replace hk5 := blk_grown hk5 hgC (by omega)
                  replace hk6 := blk_grown hk6 hgC (by omega)
                  replace hb := hb.trans (grown_below hgC hb.size hBb5)
                  rcases hC.2 with hX | hX
                  · refine Does.mono (d_storeK (T := 101) (v := (.agg #[(.int .u8 (127 : Int)), (.bool true)])) (cs := #[(.int .u8 (127 : Int)), (.bool false)]) (cs' := #[(.int .u8 (127 : Int)), (.bool true)]) rfl (congrArg some h0) (by kernel_rfl) (by kernel_rfl) hX (by kernel_rfl) (by kernel_rfl)) ?_
                    rintro _ wz ⟨hY, hgY⟩
                    exact ⟨⟨fun _ => ⟨grownBy_trans hgC hgY, .inr hY⟩, hgY.size, fun _ => hY⟩, hY, nofr rfl⟩
                  · refine Does.mono (d_storeK (T := 101) (v := (.agg #[(.int .u8 (127 : Int)), (.bool true)])) (cs := #[(.int .u8 (127 : Int)), (.bool true)]) (cs' := #[(.int .u8 (127 : Int)), (.bool true)]) rfl (congrArg some h0) (by kernel_rfl) (by kernel_rfl) hX (by kernel_rfl) (by kernel_rfl)) ?_
                    rintro _ wz ⟨hY, hgY⟩
                    exact ⟨⟨fun _ => ⟨grownBy_trans hgC hgY, .inr hY⟩, hgY.size, fun _ => hY⟩, hY, nofr rfl⟩
                trivial
              · skip
                clear hf fa; intro V w10 fa he8 hp hnb hf
                have hg4 := he8.1
                have hv0 : V 0 = (.agg #[(.int .u8 (127 : Int)), (.bool true)]) := postsHold_at hp 0 rfl
                have hv1 : V 1 = (.int .i64 (5 : Int)) := postsHold_at hp 1 rfl
                have hk10 := postsHold_at hp 2 rfl
                simp only [List.take_succ_cons, List.take_zero, insAll, ins, hv0, hv1] at hf
                clear hp hnb hv0 hv1
                replace hk1 := blk_grown hk1 hg4 (by omega)
                replace hk2 := blk_grown hk2 hg4 (by omega)
                replace hk5 := blk_grown hk5 hg4 (by omega)
                replace hk6 := blk_grown hk6 hg4 (by omega)
                replace hb := hb.trans (grown_below hg4 hb.size hBb5)
                replace hk10 : w10.heap[b5]? = some (.cells #[(.int .u8 (127 : Int)), (.bool true)] 101 (0, 0)) := hk10
                (try simp only [Exit.then, Exit.inBlock, ↓reduceIte, Nat.reduceEqDiff])
                refine hK4 _ _ ?_
                refine wp_seq_k (fun K23 hK23 => ?_)
                refine wp_seq_k (fun K24 hK24 => ?_)
                refine wp_region_lit ?_
                refine sqv hf (r_fa rfl Try.underlying103 (f := 5) (q := 7) rfl (by kernel_rfl) rfl) rfl rfl rfl ?_; clear hf fa; intro fa hf
                refine sqv hf (r_loadA (cs := [(.int .u8 y.2.2.2.2.2.1.1), (.bool y.2.2.2.2.2.1.2.1)]) rfl Try.underlying101 rfl (by kernel_rfl) (cellsAt_part (d := 7) (n := 2) (cellsAt_blk hk2) rfl rfl)) rfl rfl rfl ?_; clear hf fa; intro fa hf
                refine sqv hf (r_loadA (cs := [(.int .u8 (127 : Int)), (.bool true)]) rfl Try.underlying101 rfl (by kernel_rfl) (cellsAt_blk hk10)) rfl rfl rfl ?_; clear hf fa; intro fa hf
                refine sqv hf (r_ane (k := 5) rfl rfl (by kernel_rfl) (eqt_struct (xs := #[(.int .u8 y.2.2.2.2.2.1.1), (.bool y.2.2.2.2.2.1.2.1)]) (ys := #[(.int .u8 (127 : Int)), (.bool true)]) Try.underlying101 (by kernel_rfl) (eqf_cons (by kernel_rfl) (fun _ => by kernel_rfl) (fun _ => by kernel_rfl) (eqt_int (kk := .u8) (a := y.2.2.2.2.2.1.1) (b := (127 : Int)) Try.underlying5) (eqf_one (by kernel_rfl) (fun _ => by kernel_rfl) (fun _ => by kernel_rfl) (eqt_bool (a := y.2.2.2.2.2.1.2.1) (b := true) Try.underlying4)))) rfl) rfl rfl rfl ?_; clear hf fa; intro fa hf
                apply wpList_nil
                (try simp only [Exit.then, Exit.inBlock, ↓reduceIte, Nat.reduceEqDiff])
                refine hK24 _ _ ?_
                refine wp_cond_split (t := (!((decide (y.2.2.2.2.2.1.1 = (127 : Int))) && (y.2.2.2.2.2.1.2.1 == true)))) (hf.ev rfl) (fun hqt53_4 => ?_) (fun hqt53_4 => ?_)
                · have hqt53_4b := hqt53_4
                  try simp only [decide_eq_true_eq, Bool.and_eq_true, Bool.or_eq_true, Bool.not_eq_true', decide_eq_false_iff_not, ne_eq, Bool.not_eq_true] at hqt53_4
                  refine wp_seq_k (fun K25 hK25 => ?_)
                  refine wp_region_lit ?_
                  refine sqv hf (r_assign rfl) rfl rfl rfl ?_; clear hf fa; intro fa hf
                  refine sqv hf (r_assign rfl) rfl rfl rfl ?_; clear hf fa; intro fa hf
                  apply wpList_nil
                  (try simp only [Exit.then, Exit.inBlock, ↓reduceIte, Nat.reduceEqDiff])
                  refine hK25 _ _ ?_
                  refine wp_ret ?_
                  (try simp only [Exit.then, Exit.inBlock])
                  refine ret2 hf rfl rfl rfl ?_
                  refine ⟨?_, hb⟩; unfold kindP; rw [hqt13_1b, hqt22_1b, hqt31_1b, hqt40_1b, hqt45_1b, hqt53_4b]; (try rfl)
                · have hqt53_4b := hqt53_4
                  replace hqt53_4 := Bool.eq_false_iff.1 hqt53_4
                  try simp only [ne_eq, decide_eq_true_eq, Bool.and_eq_true, Bool.or_eq_true, Bool.not_eq_true', decide_eq_false_iff_not] at hqt53_4
                  refine wp_skip ?_
                  (try simp only [Exit.then, Exit.inBlock, ↓reduceIte, Nat.reduceEqDiff])
                  refine hK23 _ _ ?_
                  refine wp_seq_k (fun K26 hK26 => ?_)
                  refine wp_region_lit ?_
                  refine sqv hf (r_move rfl) rfl rfl rfl ?_; clear hf fa; intro fa hf
                  refine sqv hf (r_assign rfl) rfl rfl rfl ?_; clear hf fa; intro fa hf
                  refine sqv hf (r_assign rfl) rfl rfl rfl ?_; clear hf fa; intro fa hf
                  apply wpList_nil
                  (try simp only [Exit.then, Exit.inBlock, ↓reduceIte, Nat.reduceEqDiff])
                  refine hK26 _ _ ?_
                  refine wp_ret ?_
                  (try simp only [Exit.then, Exit.inBlock])
                  refine ret2 hf rfl rfl rfl ?_
                  refine ⟨?_, hb⟩; unfold kindP; rw [hqt13_1b, hqt22_1b, hqt31_1b, hqt40_1b, hqt45_1b, hqt53_4b]; (try rfl)
            · have hqt45_1b := hqt45_1
              replace hqt45_1 := Bool.eq_false_iff.1 hqt45_1
              try simp only [ne_eq, decide_eq_true_eq, Bool.and_eq_true, Bool.or_eq_true, Bool.not_eq_true', decide_eq_false_iff_not] at hqt45_1
              refine wp_seq_k (fun K27 hK27 => ?_)
              refine wp_region_lit ?_
              refine sqv hf (r_assign rfl) rfl rfl rfl ?_; clear hf fa; intro fa hf
              refine sqv hf (r_assign rfl) rfl rfl rfl ?_; clear hf fa; intro fa hf
              apply wpList_nil
              (try simp only [Exit.then, Exit.inBlock, ↓reduceIte, Nat.reduceEqDiff])
              refine hK27 _ _ ?_
              refine wp_ret ?_
              (try simp only [Exit.then, Exit.inBlock])
              refine ret2 hf rfl rfl rfl ?_
              refine ⟨?_, hb⟩; unfold kindP; rw [hqt13_1b, hqt22_1b, hqt31_1b, hqt40_1b, hqt45_1b]; (try rfl)

def rplanR (m : MMd) : List MImp → Nat → Option (Nat × Int)
  | [], _ => none
  | y :: l, i => if (kindP m y).2 ≠ (0 : Int) then some (i, (kindP m y).2) else rplanR m l (i + 1)
def kindsT (m : MMd) (l : List MImp) : List Int := l.map fun y => (kindP m y).1
theorem kindsT_snoc {m : MMd} {l : List MImp} {k : Nat} {y : MImp} (hy : l[k]? = some y) : kindsT m (l.take k) ++ [(kindP m y).1] = kindsT m (l.take (k + 1)) := by
  unfold kindsT
  rw [List.take_add_one, hy, List.map_append]; rfl
theorem kindsT_len (m : MMd) (l : List MImp) (k : Nat) : (kindsT m (l.take k)).length ≤ k := by
  unfold kindsT
  rw [List.length_map, List.length_take]; omega
@[simp] theorem kindsT_nil (m : MMd) : kindsT m [] = [] := rfl
theorem rowToK {α : Type} {k e base n c : Nat} {V : α → List Value} {w : World} {a : Option Addr} {l l' : List α} (h : Row k V e base w (.slice a n c) l) (he : l = l') : Row k V e base w (.slice a l'.length c) l' := he ▸ h.relen

def rofP (m : MMd) : List Int × Int × Int :=
  bif (((decide ((0 : Int) < ((m.2.2.2.2.1.len : Nat) : Int))) || (decide ((0 : Int) < ((m.2.2.2.1.len : Nat) : Int)))) || (!m.2.2.2.2.2.2.2.2.2.2.2.1.1)) then ([], -1, 15)
  else bif ((decide ((16777216 : Int) < m.2.2.2.2.2.2.2.2.2.2.2.1.2.1)) || (decide ((1048576 : Int) < m.2.2.2.2.2.2.2.2.2.2.2.1.2.2.2.1))) then ([], -1, 44)
  else match rplanR m m.2.1.list 0 with
    | some p => ([], ((p.1 : Nat) : Int), p.2)
    | none => (kindsT m m.2.1.list, ((m.2.1.len : Nat) : Int), 0)

set_option maxHeartbeats 1000000 in
set_option maxRecDepth 100000 in
theorem rof_any (m : MMd) (w : World) (hT : RdS 2 vMFt w m.1.at' m.1.list) (hI : RdS 9 vMImp w m.2.1.at' m.2.1.list) (hF : ∀ y ∈ m.2.1.list, 0 ≤ y.2.2.2.1 ∧ y.2.2.2.1 < 4294967296) (hD : (0 ≤ m.2.2.2.2.2.2.2.2.2.2.2.1.2.1 ∧ m.2.2.2.2.2.2.2.2.2.2.2.1.2.1 < 4294967296) ∧ 0 ≤ m.2.2.2.2.2.2.2.2.2.2.2.1.2.2.2.1 ∧ m.2.2.2.2.2.2.2.2.2.2.2.1.2.2.2.1 < 4294967296) (hTl : m.1.len ≤ 4398046510976) (hIl : m.2.1.len ≤ 1000) : Calls Try.prog 46 #[(.agg #[(.slice m.1.at' m.1.len m.1.cap), (.slice m.2.1.at' m.2.1.len m.2.1.cap), (.slice m.2.2.1.at' m.2.2.1.len m.2.2.1.cap), (.slice m.2.2.2.1.at' m.2.2.2.1.len m.2.2.2.1.cap), (.slice m.2.2.2.2.1.at' m.2.2.2.2.1.len m.2.2.2.2.1.cap), (.slice m.2.2.2.2.2.1.at' m.2.2.2.2.2.1.len m.2.2.2.2.2.1.cap), (.slice m.2.2.2.2.2.2.1.at' m.2.2.2.2.2.2.1.len m.2.2.2.2.2.2.1.cap), (.int .i64 m.2.2.2.2.2.2.2.1), (.slice m.2.2.2.2.2.2.2.2.1.at' m.2.2.2.2.2.2.2.2.1.len m.2.2.2.2.2.2.2.2.1.cap), (.slice m.2.2.2.2.2.2.2.2.2.1.at' m.2.2.2.2.2.2.2.2.2.1.len m.2.2.2.2.2.2.2.2.2.1.cap), (.slice m.2.2.2.2.2.2.2.2.2.2.1.at' m.2.2.2.2.2.2.2.2.2.2.1.len m.2.2.2.2.2.2.2.2.2.2.1.cap), (.bool m.2.2.2.2.2.2.2.2.2.2.2.1.1), (.int .u32 m.2.2.2.2.2.2.2.2.2.2.2.1.2.1), (.int .u32 m.2.2.2.2.2.2.2.2.2.2.2.1.2.2.1), (.int .u32 m.2.2.2.2.2.2.2.2.2.2.2.1.2.2.2.1), (.int .u32 m.2.2.2.2.2.2.2.2.2.2.2.1.2.2.2.2.1), (.slice m.2.2.2.2.2.2.2.2.2.2.2.1.2.2.2.2.2.1.at' m.2.2.2.2.2.2.2.2.2.2.2.1.2.2.2.2.2.1.len m.2.2.2.2.2.2.2.2.2.2.2.1.2.2.2.2.2.1.cap)])] w fun e w' => ∃ v, e = .returned v ∧ (∃ a c, v = .tuple #[.slice a (rofP m).1.length c, .int .i64 (rofP m).2.1, .int .i64 (rofP m).2.2] ∧ Row 1 (vInt .i64) 3 w.heap.size w' (.slice a (rofP m).1.length c) (rofP m).1 ∧ Below w.heap.size w w') := by
  refine sx_enter (L := [(0, (.agg #[(.slice m.1.at' m.1.len m.1.cap), (.slice m.2.1.at' m.2.1.len m.2.1.cap), (.slice m.2.2.1.at' m.2.2.1.len m.2.2.1.cap), (.slice m.2.2.2.1.at' m.2.2.2.1.len m.2.2.2.1.cap), (.slice m.2.2.2.2.1.at' m.2.2.2.2.1.len m.2.2.2.2.1.cap), (.slice m.2.2.2.2.2.1.at' m.2.2.2.2.2.1.len m.2.2.2.2.2.1.cap), (.slice m.2.2.2.2.2.2.1.at' m.2.2.2.2.2.2.1.len m.2.2.2.2.2.2.1.cap), (.int .i64 m.2.2.2.2.2.2.2.1), (.slice m.2.2.2.2.2.2.2.2.1.at' m.2.2.2.2.2.2.2.2.1.len m.2.2.2.2.2.2.2.2.1.cap), (.slice m.2.2.2.2.2.2.2.2.2.1.at' m.2.2.2.2.2.2.2.2.2.1.len m.2.2.2.2.2.2.2.2.2.1.cap), (.slice m.2.2.2.2.2.2.2.2.2.2.1.at' m.2.2.2.2.2.2.2.2.2.2.1.len m.2.2.2.2.2.2.2.2.2.2.1.cap), (.bool m.2.2.2.2.2.2.2.2.2.2.2.1.1), (.int .u32 m.2.2.2.2.2.2.2.2.2.2.2.1.2.1), (.int .u32 m.2.2.2.2.2.2.2.2.2.2.2.1.2.2.1), (.int .u32 m.2.2.2.2.2.2.2.2.2.2.2.1.2.2.2.1), (.int .u32 m.2.2.2.2.2.2.2.2.2.2.2.1.2.2.2.2.1), (.slice m.2.2.2.2.2.2.2.2.2.2.2.1.2.2.2.2.2.1.at' m.2.2.2.2.2.2.2.2.2.2.2.1.2.2.2.2.2.1.len m.2.2.2.2.2.2.2.2.2.2.2.1.2.2.2.2.2.1.cap)]))]) Try.func46 rfl rfl rfl rfl (fun fa hf => ?_)
  have hb : Below w.heap.size w w := Below.refl _ _
  refine wp_seq_k (fun K1 hK1 => ?_)
  refine wp_region_lit ?_
  refine sqdt hf (d_box (cs := #[(.slice m.1.at' m.1.len m.1.cap), (.slice m.2.1.at' m.2.1.len m.2.1.cap), (.slice m.2.2.1.at' m.2.2.1.len m.2.2.1.cap), (.slice m.2.2.2.1.at' m.2.2.2.1.len m.2.2.2.1.cap), (.slice m.2.2.2.2.1.at' m.2.2.2.2.1.len m.2.2.2.2.1.cap), (.slice m.2.2.2.2.2.1.at' m.2.2.2.2.2.1.len m.2.2.2.2.2.1.cap), (.slice m.2.2.2.2.2.2.1.at' m.2.2.2.2.2.2.1.len m.2.2.2.2.2.2.1.cap), (.int .i64 m.2.2.2.2.2.2.2.1), (.slice m.2.2.2.2.2.2.2.2.1.at' m.2.2.2.2.2.2.2.2.1.len m.2.2.2.2.2.2.2.2.1.cap), (.slice m.2.2.2.2.2.2.2.2.2.1.at' m.2.2.2.2.2.2.2.2.2.1.len m.2.2.2.2.2.2.2.2.2.1.cap), (.slice m.2.2.2.2.2.2.2.2.2.2.1.at' m.2.2.2.2.2.2.2.2.2.2.1.len m.2.2.2.2.2.2.2.2.2.2.1.cap), (.bool m.2.2.2.2.2.2.2.2.2.2.2.1.1), (.int .u32 m.2.2.2.2.2.2.2.2.2.2.2.1.2.1), (.int .u32 m.2.2.2.2.2.2.2.2.2.2.2.1.2.2.1), (.int .u32 m.2.2.2.2.2.2.2.2.2.2.2.1.2.2.2.1), (.int .u32 m.2.2.2.2.2.2.2.2.2.2.2.1.2.2.2.2.1), (.slice m.2.2.2.2.2.2.2.2.2.2.2.1.2.2.2.2.2.1.at' m.2.2.2.2.2.2.2.2.2.2.2.1.2.2.2.2.2.1.len m.2.2.2.2.2.2.2.2.2.2.2.1.2.2.2.2.2.1.cap)]) rfl rfl) rfl rfl rfl ?_; clear hf fa; rintro fa _ w1 ⟨b1, rfl, hle1, hk1, he1⟩ hf
  have hBb1 : w.heap.size ≤ b1 := Nat.le_trans hb.size hle1
  replace hb := hb.trans (Below.mono he1 hb.size)
  refine sqv hf (r_assign rfl) rfl rfl rfl ?_; clear hf fa; intro fa hf
  refine sqv hf (r_assign rfl) rfl rfl rfl ?_; clear hf fa; intro fa hf
  refine sqv hf (r_assign rfl) rfl rfl rfl ?_; clear hf fa; intro fa hf
  apply wpList_nil
  (try simp only [Exit.then, Exit.inBlock, ↓reduceIte, Nat.reduceEqDiff])
  refine hK1 _ _ ?_
  refine wp_seq_k (fun K2 hK2 => ?_)
  refine wp_seq_k (fun K3 hK3 => ?_)
  refine wp_region_lit ?_
  refine sqv hf (r_fa rfl Try.underlying67 (f := 4) (q := 4) rfl (by kernel_rfl) rfl) rfl rfl rfl ?_; clear hf fa; intro fa hf
  refine sqv hf (r_load (v := (.slice m.2.2.2.2.1.at' m.2.2.2.2.1.len m.2.2.2.2.1.cap)) rfl Try.underlying58 rfl (cell_blk hk1 rfl)) rfl rfl rfl ?_; clear hf fa; intro fa hf
  refine sqv hf (r_lensl rfl Try.underlying58) rfl rfl rfl ?_; clear hf fa; intro fa hf
  refine sqv hf (r_gt rfl rfl) rfl rfl rfl ?_; clear hf fa; intro fa hf
  refine sqv hf (r_move rfl) rfl rfl rfl ?_; clear hf fa; intro fa hf
  refine sqgF (act := (!(decide ((0 : Int) < ((m.2.2.2.2.1.len : Nat) : Int))))) (ag := true) (c := (decide ((0 : Int) < ((m.2.2.2.2.1.len : Nat) : Int)))) (v := (.pointer (some ⟨b1, 3, none⟩))) hf rfl rfl rfl (fun hact => (r_fa rfl Try.underlying67 (f := 3) (q := 3) rfl (by kernel_rfl) rfl)) rfl rfl ?_; clear hf fa; intro fa hf
  refine sqgF (act := (!(decide ((0 : Int) < ((m.2.2.2.2.1.len : Nat) : Int))))) (ag := true) (c := (decide ((0 : Int) < ((m.2.2.2.2.1.len : Nat) : Int)))) (v := (.slice m.2.2.2.1.at' m.2.2.2.1.len m.2.2.2.1.cap)) hf rfl rfl rfl (fun hact => (r_load (v := (.slice m.2.2.2.1.at' m.2.2.2.1.len m.2.2.2.1.cap)) (gb_ev hact rfl) Try.underlying58 rfl (cell_blk hk1 rfl))) rfl rfl ?_; clear hf fa; intro fa hf
  refine sqgF (act := (!(decide ((0 : Int) < ((m.2.2.2.2.1.len : Nat) : Int))))) (ag := true) (c := (decide ((0 : Int) < ((m.2.2.2.2.1.len : Nat) : Int)))) (v := (.int .i64 ((m.2.2.2.1.len : Nat) : Int))) hf rfl rfl rfl (fun hact => (r_lensl (gb_ev hact rfl) Try.underlying58)) rfl rfl ?_; clear hf fa; intro fa hf
  refine sqgF (act := (!(decide ((0 : Int) < ((m.2.2.2.2.1.len : Nat) : Int))))) (ag := true) (c := (decide ((0 : Int) < ((m.2.2.2.2.1.len : Nat) : Int)))) (v := (.bool (decide ((0 : Int) < ((m.2.2.2.1.len : Nat) : Int))))) hf rfl rfl rfl (fun hact => (r_gt (gb_ev hact rfl) rfl)) rfl rfl ?_; clear hf fa; intro fa hf
  refine sqv hf (r_pickO (b := (decide ((0 : Int) < ((m.2.2.2.2.1.len : Nat) : Int)))) (e := (decide ((0 : Int) < ((m.2.2.2.1.len : Nat) : Int)))) rfl rfl rfl) rfl rfl rfl ?_; clear hf fa; intro fa hf
  refine sqv hf (r_move rfl) rfl rfl rfl ?_; clear hf fa; intro fa hf
  refine sqgF (act := (!((decide ((0 : Int) < ((m.2.2.2.2.1.len : Nat) : Int))) || (decide ((0 : Int) < ((m.2.2.2.1.len : Nat) : Int)))))) (ag := true) (c := ((decide ((0 : Int) < ((m.2.2.2.2.1.len : Nat) : Int))) || (decide ((0 : Int) < ((m.2.2.2.1.len : Nat) : Int))))) (v := (.pointer (some ⟨b1, 11, none⟩))) hf rfl rfl rfl (fun hact => (r_fa rfl Try.underlying67 (f := 11) (q := 11) rfl (by kernel_rfl) rfl)) rfl rfl ?_; clear hf fa; intro fa hf
  refine sqgF (act := (!((decide ((0 : Int) < ((m.2.2.2.2.1.len : Nat) : Int))) || (decide ((0 : Int) < ((m.2.2.2.1.len : Nat) : Int)))))) (ag := true) (c := ((decide ((0 : Int) < ((m.2.2.2.2.1.len : Nat) : Int))) || (decide ((0 : Int) < ((m.2.2.2.1.len : Nat) : Int))))) (v := (.pointer (some ⟨b1, 11, none⟩))) hf rfl rfl rfl (fun hact => (r_fa (gb_ev hact rfl) Try.underlying65 (f := 0) (q := 11) rfl (by kernel_rfl) rfl)) rfl rfl ?_; clear hf fa; intro fa hf
  refine sqgF (act := (!((decide ((0 : Int) < ((m.2.2.2.2.1.len : Nat) : Int))) || (decide ((0 : Int) < ((m.2.2.2.1.len : Nat) : Int)))))) (ag := true) (c := ((decide ((0 : Int) < ((m.2.2.2.2.1.len : Nat) : Int))) || (decide ((0 : Int) < ((m.2.2.2.1.len : Nat) : Int))))) (v := (.bool m.2.2.2.2.2.2.2.2.2.2.2.1.1)) hf rfl rfl rfl (fun hact => (r_load (v := (.bool m.2.2.2.2.2.2.2.2.2.2.2.1.1)) (gb_ev hact rfl) Try.underlying4 rfl (cell_blk hk1 rfl))) rfl rfl ?_; clear hf fa; intro fa hf
  refine sqgF (act := (!((decide ((0 : Int) < ((m.2.2.2.2.1.len : Nat) : Int))) || (decide ((0 : Int) < ((m.2.2.2.1.len : Nat) : Int)))))) (ag := true) (c := ((decide ((0 : Int) < ((m.2.2.2.2.1.len : Nat) : Int))) || (decide ((0 : Int) < ((m.2.2.2.1.len : Nat) : Int))))) (v := (.bool (!m.2.2.2.2.2.2.2.2.2.2.2.1.1))) hf rfl rfl rfl (fun hact => (r_not (gb_ev hact rfl))) rfl rfl ?_; clear hf fa; intro fa hf
  refine sqv hf (r_pickO (b := ((decide ((0 : Int) < ((m.2.2.2.2.1.len : Nat) : Int))) || (decide ((0 : Int) < ((m.2.2.2.1.len : Nat) : Int))))) (e := (!m.2.2.2.2.2.2.2.2.2.2.2.1.1)) rfl rfl rfl) rfl rfl rfl ?_; clear hf fa; intro fa hf
  apply wpList_nil
  (try simp only [Exit.then, Exit.inBlock, ↓reduceIte, Nat.reduceEqDiff])
  refine hK3 _ _ ?_
  refine wp_cond_split (t := (((decide ((0 : Int) < ((m.2.2.2.2.1.len : Nat) : Int))) || (decide ((0 : Int) < ((m.2.2.2.1.len : Nat) : Int)))) || (!m.2.2.2.2.2.2.2.2.2.2.2.1.1))) (hf.ev rfl) (fun hqt24_1 => ?_) (fun hqt24_1 => ?_)
  · have hqt24_1b := hqt24_1
    try simp only [decide_eq_true_eq, Bool.and_eq_true, Bool.or_eq_true, Bool.not_eq_true', decide_eq_false_iff_not, ne_eq, Bool.not_eq_true] at hqt24_1
    refine wp_seq_k (fun K4 hK4 => ?_)
    refine wp_region_lit ?_
    refine sqv hf (r_assign rfl) rfl rfl rfl ?_; clear hf fa; intro fa hf
    refine sqv hf (r_assign rfl) rfl rfl rfl ?_; clear hf fa; intro fa hf
    refine sqv hf (r_assign rfl) rfl rfl rfl ?_; clear hf fa; intro fa hf
    apply wpList_nil
    (try simp only [Exit.then, Exit.inBlock, ↓reduceIte, Nat.reduceEqDiff])
    refine hK4 _ _ ?_
    refine wp_ret ?_
    (try simp only [Exit.then, Exit.inBlock])
    refine ret3 hf rfl rfl rfl rfl ?_
    have hP : rofP m = ([], (-1 : Int), (15 : Int)) := by unfold rofP; rw [hqt24_1b]; rfl
    rw [hP]; exact ⟨_, rfl, none, 0, rfl, Row.nil, hb⟩
  · have hqt24_1b := hqt24_1
    replace hqt24_1 := Bool.eq_false_iff.1 hqt24_1
    try simp only [ne_eq, decide_eq_true_eq, Bool.and_eq_true, Bool.or_eq_true, Bool.not_eq_true', decide_eq_false_iff_not] at hqt24_1
    refine wp_skip ?_
    (try simp only [Exit.then, Exit.inBlock, ↓reduceIte, Nat.reduceEqDiff])
    refine hK2 _ _ ?_
    refine wp_seq_k (fun K5 hK5 => ?_)
    refine wp_seq_k (fun K6 hK6 => ?_)
    refine wp_region_lit ?_
    refine sqv hf (r_fa rfl Try.underlying67 (f := 11) (q := 11) rfl (by kernel_rfl) rfl) rfl rfl rfl ?_; clear hf fa; intro fa hf
    refine sqv hf (r_fa rfl Try.underlying65 (f := 1) (q := 12) rfl (by kernel_rfl) rfl) rfl rfl rfl ?_; clear hf fa; intro fa hf
    refine sqv hf (r_load (v := (.int .u32 m.2.2.2.2.2.2.2.2.2.2.2.1.2.1)) rfl Try.underlying44 rfl (cell_blk hk1 rfl)) rfl rfl rfl ?_; clear hf fa; intro fa hf
    refine sqv hf (r_gt rfl rfl) rfl rfl rfl ?_; clear hf fa; intro fa hf
    refine sqv hf (r_move rfl) rfl rfl rfl ?_; clear hf fa; intro fa hf
    refine sqgF (act := (!(decide ((16777216 : Int) < m.2.2.2.2.2.2.2.2.2.2.2.1.2.1)))) (ag := true) (c := (decide ((16777216 : Int) < m.2.2.2.2.2.2.2.2.2.2.2.1.2.1))) (v := (.pointer (some ⟨b1, 11, none⟩))) hf rfl rfl rfl (fun hact => (r_fa rfl Try.underlying67 (f := 11) (q := 11) rfl (by kernel_rfl) rfl)) rfl rfl ?_; clear hf fa; intro fa hf
    refine sqgF (act := (!(decide ((16777216 : Int) < m.2.2.2.2.2.2.2.2.2.2.2.1.2.1)))) (ag := true) (c := (decide ((16777216 : Int) < m.2.2.2.2.2.2.2.2.2.2.2.1.2.1))) (v := (.pointer (some ⟨b1, 14, none⟩))) hf rfl rfl rfl (fun hact => (r_fa (gb_ev hact rfl) Try.underlying65 (f := 3) (q := 14) rfl (by kernel_rfl) rfl)) rfl rfl ?_; clear hf fa; intro fa hf
    refine sqgF (act := (!(decide ((16777216 : Int) < m.2.2.2.2.2.2.2.2.2.2.2.1.2.1)))) (ag := true) (c := (decide ((16777216 : Int) < m.2.2.2.2.2.2.2.2.2.2.2.1.2.1))) (v := (.int .u32 m.2.2.2.2.2.2.2.2.2.2.2.1.2.2.2.1)) hf rfl rfl rfl (fun hact => (r_load (v := (.int .u32 m.2.2.2.2.2.2.2.2.2.2.2.1.2.2.2.1)) (gb_ev hact rfl) Try.underlying44 rfl (cell_blk hk1 rfl))) rfl rfl ?_; clear hf fa; intro fa hf
    refine sqgF (act := (!(decide ((16777216 : Int) < m.2.2.2.2.2.2.2.2.2.2.2.1.2.1)))) (ag := true) (c := (decide ((16777216 : Int) < m.2.2.2.2.2.2.2.2.2.2.2.1.2.1))) (v := (.bool (decide ((1048576 : Int) < m.2.2.2.2.2.2.2.2.2.2.2.1.2.2.2.1)))) hf rfl rfl rfl (fun hact => (r_gt (gb_ev hact rfl) rfl)) rfl rfl ?_; clear hf fa; intro fa hf
    refine sqv hf (r_pickO (b := (decide ((16777216 : Int) < m.2.2.2.2.2.2.2.2.2.2.2.1.2.1))) (e := (decide ((1048576 : Int) < m.2.2.2.2.2.2.2.2.2.2.2.1.2.2.2.1))) rfl rfl rfl) rfl rfl rfl ?_; clear hf fa; intro fa hf
    apply wpList_nil
    (try simp only [Exit.then, Exit.inBlock, ↓reduceIte, Nat.reduceEqDiff])
    refine hK6 _ _ ?_
    refine wp_cond_split (t := ((decide ((16777216 : Int) < m.2.2.2.2.2.2.2.2.2.2.2.1.2.1)) || (decide ((1048576 : Int) < m.2.2.2.2.2.2.2.2.2.2.2.1.2.2.2.1)))) (hf.ev rfl) (fun hqt34_1 => ?_) (fun hqt34_1 => ?_)
    · have hqt34_1b := hqt34_1
      try simp only [decide_eq_true_eq, Bool.and_eq_true, Bool.or_eq_true, Bool.not_eq_true', decide_eq_false_iff_not, ne_eq, Bool.not_eq_true] at hqt34_1
      refine wp_seq_k (fun K7 hK7 => ?_)
      refine wp_region_lit ?_
      refine sqv hf (r_assign rfl) rfl rfl rfl ?_; clear hf fa; intro fa hf
      refine sqv hf (r_assign rfl) rfl rfl rfl ?_; clear hf fa; intro fa hf
      refine sqv hf (r_assign rfl) rfl rfl rfl ?_; clear hf fa; intro fa hf
      apply wpList_nil
      (try simp only [Exit.then, Exit.inBlock, ↓reduceIte, Nat.reduceEqDiff])
      refine hK7 _ _ ?_
      refine wp_ret ?_
      (try simp only [Exit.then, Exit.inBlock])
      refine ret3 hf rfl rfl rfl rfl ?_
      have hP : rofP m = ([], (-1 : Int), (44 : Int)) := by unfold rofP; rw [hqt24_1b, hqt34_1b]; rfl
      rw [hP]; exact ⟨_, rfl, none, 0, rfl, Row.nil, hb⟩
    · have hqt34_1b := hqt34_1
      replace hqt34_1 := Bool.eq_false_iff.1 hqt34_1
      try simp only [ne_eq, decide_eq_true_eq, Bool.and_eq_true, Bool.or_eq_true, Bool.not_eq_true', decide_eq_false_iff_not] at hqt34_1
      refine wp_skip ?_
      (try simp only [Exit.then, Exit.inBlock, ↓reduceIte, Nat.reduceEqDiff])
      refine hK5 _ _ ?_
      refine wp_seq_k (fun K8 hK8 => ?_)
      refine wp_region_lit ?_
      refine sqv hf (r_assign rfl) rfl rfl rfl ?_; clear hf fa; intro fa hf
      apply wpList_nil
      (try simp only [Exit.then, Exit.inBlock, ↓reduceIte, Nat.reduceEqDiff])
      refine hK8 _ _ ?_
      refine wp_seq_k (fun K9 hK9 => ?_)
      refine wp_seq_k (fun K10 hK10 => ?_)
      refine wp_region_lit ?_
      refine sqv hf (r_assign rfl) rfl rfl rfl ?_; clear hf fa; intro fa hf
      apply wpList_nil
      (try simp only [Exit.then, Exit.inBlock, ↓reduceIte, Nat.reduceEqDiff])
      refine hK10 _ _ ?_
      refine wp_block ?_
      refine wp_loop_k (fun mq fa wr => ∃ (k : Nat) (roa : Option Addr) (roc : Nat), mq = m.2.1.len - k ∧ Fr 64 fa [(1, (.pointer (some ⟨b1, 0, none⟩))), (6, (.int .i64 ((k : Nat) : Int))), (5, (.slice roa (((kindsT m (m.2.1.list.take k))).length) roc))] ∧ Below w.heap.size w wr ∧ Row 1 (vInt .i64) 3 (w.heap.size) wr (.slice roa (((kindsT m (m.2.1.list.take k))).length) roc) (kindsT m (m.2.1.list.take k)) ∧ wr.heap[b1]? = some (.cells #[(.slice m.1.at' m.1.len m.1.cap), (.slice m.2.1.at' m.2.1.len m.2.1.cap), (.slice m.2.2.1.at' m.2.2.1.len m.2.2.1.cap), (.slice m.2.2.2.1.at' m.2.2.2.1.len m.2.2.2.1.cap), (.slice m.2.2.2.2.1.at' m.2.2.2.2.1.len m.2.2.2.2.1.cap), (.slice m.2.2.2.2.2.1.at' m.2.2.2.2.2.1.len m.2.2.2.2.2.1.cap), (.slice m.2.2.2.2.2.2.1.at' m.2.2.2.2.2.2.1.len m.2.2.2.2.2.2.1.cap), (.int .i64 m.2.2.2.2.2.2.2.1), (.slice m.2.2.2.2.2.2.2.2.1.at' m.2.2.2.2.2.2.2.2.1.len m.2.2.2.2.2.2.2.2.1.cap), (.slice m.2.2.2.2.2.2.2.2.2.1.at' m.2.2.2.2.2.2.2.2.2.1.len m.2.2.2.2.2.2.2.2.2.1.cap), (.slice m.2.2.2.2.2.2.2.2.2.2.1.at' m.2.2.2.2.2.2.2.2.2.2.1.len m.2.2.2.2.2.2.2.2.2.2.1.cap), (.bool m.2.2.2.2.2.2.2.2.2.2.2.1.1), (.int .u32 m.2.2.2.2.2.2.2.2.2.2.2.1.2.1), (.int .u32 m.2.2.2.2.2.2.2.2.2.2.2.1.2.2.1), (.int .u32 m.2.2.2.2.2.2.2.2.2.2.2.1.2.2.2.1), (.int .u32 m.2.2.2.2.2.2.2.2.2.2.2.1.2.2.2.2.1), (.slice m.2.2.2.2.2.2.2.2.2.2.2.1.2.2.2.2.2.1.at' m.2.2.2.2.2.2.2.2.2.2.2.1.2.2.2.2.2.1.len m.2.2.2.2.2.2.2.2.2.2.2.1.2.2.2.2.2.1.cap)] 67 (0, 0)) ∧ (k ≤ m.2.1.len) ∧ (rplanR m m.2.1.list 0 = rplanR m (m.2.1.list.drop k) k)) ?_ ?_
      · skip
        exact ⟨_, 0, none, 0, rfl, hf.sub ⟨rfl, (some_int (by first | rfl | omega)), (some_sl (by first | omega | (simp only [List.length_append, List.length_cons, List.length_nil]; omega) | (simp <;> omega)) rfl), trivial⟩, hb, Row.nil, hk1, by omega, rfl⟩
      · skip
        clear hf fa; intro mq1 fa w2 hI KL1 hKL1
        clear hb
        clear hk1
        obtain ⟨k, roa, roc, hmq1, hf, hb, hro, hkb1, hk, Hs⟩ := hI
        have hcro := Row.caps hro
        have hbl := kindsT_len m m.2.1.list k
        refine wp_seq_k (fun K11 hK11 => ?_)
        refine wp_seq_k (fun K12 hK12 => ?_)
        refine wp_region_lit ?_
        refine sqv hf (r_move rfl) rfl rfl rfl ?_; clear hf fa; intro fa hf
        refine sqv hf (r_fa rfl Try.underlying67 (f := 1) (q := 1) rfl (by kernel_rfl) rfl) rfl rfl rfl ?_; clear hf fa; intro fa hf
        refine sqv hf (r_load (v := (.slice m.2.1.at' m.2.1.len m.2.1.cap)) rfl Try.underlying57 rfl (cell_blk hkb1 rfl)) rfl rfl rfl ?_; clear hf fa; intro fa hf
        refine sqv hf (r_lensl rfl Try.underlying57) rfl rfl rfl ?_; clear hf fa; intro fa hf
        refine sqv hf (r_lt rfl rfl) rfl rfl rfl ?_; clear hf fa; intro fa hf
        apply wpList_nil
        (try simp only [Exit.then, Exit.inBlock, ↓reduceIte, Nat.reduceEqDiff])
        refine hK12 _ _ ?_
        refine wp_cond_split (t := (decide (((k : Nat) : Int) < ((m.2.1.len : Nat) : Int)))) (hf.ev rfl) (fun hqt39_1 => ?_) (fun hqt39_1 => ?_)
        · have hqt39_1b := hqt39_1
          try simp only [decide_eq_true_eq, Bool.and_eq_true, Bool.or_eq_true, Bool.not_eq_true', decide_eq_false_iff_not, ne_eq, Bool.not_eq_true] at hqt39_1
          refine wp_skip ?_
          (try simp only [Exit.then, Exit.inBlock, ↓reduceIte, Nat.reduceEqDiff])
          refine hK11 _ _ ?_
          refine wp_seq_k (fun K13 hK13 => ?_)
          refine wp_block ?_
          refine wp_seq_k (fun K14 hK14 => ?_)
          obtain ⟨y, hy⟩ : ∃ x, (m.2.1.list)[k]? = some x := ⟨_, List.getElem?_eq_getElem (by rw [Sl.list_length]; omega)⟩
          have hyt := hF y (List.mem_of_getElem? hy)
          have hy1 : (m.2.1.list)[k]? = some y := hy
          obtain ⟨ab1, aoff1, hat1, hlb1, hel1⟩ := RdS.at hI hy1
          refine wp_region_un (fun wq => Below w2.heap.size w2 wq) (fun w w' => Below w.heap.size w w')
            (fun V => [(fun x _ => x = (.agg #[(.slice m.1.at' m.1.len m.1.cap), (.slice m.2.1.at' m.2.1.len m.2.1.cap), (.slice m.2.2.1.at' m.2.2.1.len m.2.2.1.cap), (.slice m.2.2.2.1.at' m.2.2.2.1.len m.2.2.2.1.cap), (.slice m.2.2.2.2.1.at' m.2.2.2.2.1.len m.2.2.2.2.1.cap), (.slice m.2.2.2.2.2.1.at' m.2.2.2.2.2.1.len m.2.2.2.2.2.1.cap), (.slice m.2.2.2.2.2.2.1.at' m.2.2.2.2.2.2.1.len m.2.2.2.2.2.2.1.cap), (.int .i64 m.2.2.2.2.2.2.2.1), (.slice m.2.2.2.2.2.2.2.2.1.at' m.2.2.2.2.2.2.2.2.1.len m.2.2.2.2.2.2.2.2.1.cap), (.slice m.2.2.2.2.2.2.2.2.2.1.at' m.2.2.2.2.2.2.2.2.2.1.len m.2.2.2.2.2.2.2.2.2.1.cap), (.slice m.2.2.2.2.2.2.2.2.2.2.1.at' m.2.2.2.2.2.2.2.2.2.2.1.len m.2.2.2.2.2.2.2.2.2.2.1.cap), (.bool m.2.2.2.2.2.2.2.2.2.2.2.1.1), (.int .u32 m.2.2.2.2.2.2.2.2.2.2.2.1.2.1), (.int .u32 m.2.2.2.2.2.2.2.2.2.2.2.1.2.2.1), (.int .u32 m.2.2.2.2.2.2.2.2.2.2.2.1.2.2.2.1), (.int .u32 m.2.2.2.2.2.2.2.2.2.2.2.1.2.2.2.2.1), (.slice m.2.2.2.2.2.2.2.2.2.2.2.1.2.2.2.2.2.1.at' m.2.2.2.2.2.2.2.2.2.2.2.1.2.2.2.2.2.1.len m.2.2.2.2.2.2.2.2.2.2.2.1.2.2.2.2.2.1.cap)])), (fun x _ => x = (.pointer (some ⟨b1, 1, none⟩))), (fun x _ => x = (.slice m.2.1.at' m.2.1.len m.2.1.cap)), (fun x _ => x = (.int .i64 ((k : Nat) : Int))), (fun x _ => x = (.pointer (some ⟨ab1, (aoff1 + k * 9), none⟩))), (fun x _ => x = (.agg #[(.string y.1), (.string y.2.1), (.int .u8 y.2.2.1), (.int .u32 y.2.2.2.1), (.int .u32 y.2.2.2.2.1.1), (.int .u32 y.2.2.2.2.1.2.1), (.bool y.2.2.2.2.1.2.2.1), (.int .u8 y.2.2.2.2.2.1.1), (.bool y.2.2.2.2.2.1.2.1)])), (fun x _ => x = (.tuple #[(.int .i64 ((kindP m y).1)), (.int .i64 ((kindP m y).2))])), (fun x _ => x = (.tuple #[(.int .i64 ((kindP m y).1)), (.int .i64 ((kindP m y).2))])), (fun x _ => x = (.int .i64 ((kindP m y).1))), (fun x _ => x = (.int .i64 ((kindP m y).2))), (fun x _ => x = (.int .i64 ((kindP m y).1))), (fun x _ => x = (.int .i64 ((kindP m y).2)))])
            []
            [[], [], [1], [], [2, 3], [4], [0, 5], [6], [7], [7], [0, 1, 2, 3, 4, 5, 6, 7, 8], [0, 1, 2, 3, 4, 5, 6, 7, 8, 9, 10]]
            hf (by kernel_rfl) (by kernel_rfl) (fun _ => rfl) ((Below.refl _ _).drew) (fun a b h1 h2 => h1.trans (h2.mono h1.size)) (fun _ _ h => h.size) (fun V => ⟨kept_eq, kept_eq, kept_eq, kept_eq, kept_eq, kept_eq, kept_eq, kept_eq, kept_eq, kept_eq, kept_eq, kept_eq, trivial⟩) (fun _ _ _ _ _ => rfl) ?_ ?_
          · skip
            intro V
            refine ⟨fun wu0 hC hd => ?_, ?_⟩
            · clear hd
              replace hb := hb.trans (hC.mono hb.size)
              replace hkb1 := blk_ext hkb1 hC
              replace hro := Row.ext hro hC
              exact Runs.does (r_loadA (cs := [(.slice m.1.at' m.1.len m.1.cap), (.slice m.2.1.at' m.2.1.len m.2.1.cap), (.slice m.2.2.1.at' m.2.2.1.len m.2.2.1.cap), (.slice m.2.2.2.1.at' m.2.2.2.1.len m.2.2.2.1.cap), (.slice m.2.2.2.2.1.at' m.2.2.2.2.1.len m.2.2.2.2.1.cap), (.slice m.2.2.2.2.2.1.at' m.2.2.2.2.2.1.len m.2.2.2.2.2.1.cap), (.slice m.2.2.2.2.2.2.1.at' m.2.2.2.2.2.2.1.len m.2.2.2.2.2.2.1.cap), (.int .i64 m.2.2.2.2.2.2.2.1), (.slice m.2.2.2.2.2.2.2.2.1.at' m.2.2.2.2.2.2.2.2.1.len m.2.2.2.2.2.2.2.2.1.cap), (.slice m.2.2.2.2.2.2.2.2.2.1.at' m.2.2.2.2.2.2.2.2.2.1.len m.2.2.2.2.2.2.2.2.2.1.cap), (.slice m.2.2.2.2.2.2.2.2.2.2.1.at' m.2.2.2.2.2.2.2.2.2.2.1.len m.2.2.2.2.2.2.2.2.2.2.1.cap), (.bool m.2.2.2.2.2.2.2.2.2.2.2.1.1), (.int .u32 m.2.2.2.2.2.2.2.2.2.2.2.1.2.1), (.int .u32 m.2.2.2.2.2.2.2.2.2.2.2.1.2.2.1), (.int .u32 m.2.2.2.2.2.2.2.2.2.2.2.1.2.2.2.1), (.int .u32 m.2.2.2.2.2.2.2.2.2.2.2.1.2.2.2.2.1), (.slice m.2.2.2.2.2.2.2.2.2.2.2.1.2.2.2.2.2.1.at' m.2.2.2.2.2.2.2.2.2.2.2.1.2.2.2.2.2.1.len m.2.2.2.2.2.2.2.2.2.2.2.1.2.2.2.2.2.1.cap)]) rfl Try.underlying67 rfl (by kernel_rfl) (cellsAt_blk hkb1)) ⟨Below.refl _ _, rfl, nofr rfl⟩
            refine ⟨fun wu1 hC hd => ?_, ?_⟩
            · clear hd
              replace hb := hb.trans (hC.mono hb.size)
              replace hkb1 := blk_ext hkb1 hC
              replace hro := Row.ext hro hC
              exact Runs.does (r_fa rfl Try.underlying67 (f := 1) (q := 1) rfl (by kernel_rfl) rfl) ⟨Below.refl _ _, rfl, nofr rfl⟩
            refine ⟨fun wu2 hC hd => ?_, ?_⟩
            · obtain ⟨h1, _⟩ := hd
              skip
              replace h1 : V 1 = (.pointer (some ⟨b1, 1, none⟩)) := h1
              replace hb := hb.trans (hC.mono hb.size)
              replace hkb1 := blk_ext hkb1 hC
              replace hro := Row.ext hro hC
              exact Runs.does (r_load (v := (.slice m.2.1.at' m.2.1.len m.2.1.cap)) (congrArg some h1) Try.underlying57 rfl (cell_blk hkb1 rfl)) ⟨Below.refl _ _, rfl, nofr rfl⟩
            refine ⟨fun wu3 hC hd => ?_, ?_⟩
            · clear hd
              replace hb := hb.trans (hC.mono hb.size)
              replace hkb1 := blk_ext hkb1 hC
              replace hro := Row.ext hro hC
              exact Runs.does (r_move rfl) ⟨Below.refl _ _, rfl, nofr rfl⟩
            refine ⟨fun wu4 hC hd => ?_, ?_⟩
            · obtain ⟨h2, h3, _⟩ := hd
              skip
              skip
              replace h2 : V 2 = (.slice m.2.1.at' m.2.1.len m.2.1.cap) := h2
              replace h3 : V 3 = (.int .i64 ((k : Nat) : Int)) := h3
              replace hb := hb.trans (hC.mono hb.size)
              replace hkb1 := blk_ext hkb1 hC
              replace hro := Row.ext hro hC
              exact Runs.does (r_ixa (sz := 9) (j := k) (evAt (congrArg some h2) hat1) (congrArg some h3) Try.underlying57 (by kernel_rfl) rfl (by omega) rfl) ⟨Below.refl _ _, rfl, nofr rfl⟩
            refine ⟨fun wu5 hC hd => ?_, ?_⟩
            · obtain ⟨h4, _⟩ := hd
              skip
              replace h4 : V 4 = (.pointer (some ⟨ab1, (aoff1 + k * 9), none⟩)) := h4
              replace hb := hb.trans (hC.mono hb.size)
              replace hkb1 := blk_ext hkb1 hC
              replace hro := Row.ext hro hC
              exact Runs.does (r_loadA (cs := [(.string y.1), (.string y.2.1), (.int .u8 y.2.2.1), (.int .u32 y.2.2.2.1), (.int .u32 y.2.2.2.2.1.1), (.int .u32 y.2.2.2.2.1.2.1), (.bool y.2.2.2.2.1.2.2.1), (.int .u8 y.2.2.2.2.2.1.1), (.bool y.2.2.2.2.2.1.2.1)]) (congrArg some h4) Try.underlying103 rfl (by kernel_rfl) (cellsAt_below hel1 hb hlb1)) ⟨Below.refl _ _, rfl, nofr rfl⟩
            refine ⟨fun wu6 hC hd => ?_, ?_⟩
            · obtain ⟨h0, h5, _⟩ := hd
              skip
              skip
              replace h0 : V 0 = (.agg #[(.slice m.1.at' m.1.len m.1.cap), (.slice m.2.1.at' m.2.1.len m.2.1.cap), (.slice m.2.2.1.at' m.2.2.1.len m.2.2.1.cap), (.slice m.2.2.2.1.at' m.2.2.2.1.len m.2.2.2.1.cap), (.slice m.2.2.2.2.1.at' m.2.2.2.2.1.len m.2.2.2.2.1.cap), (.slice m.2.2.2.2.2.1.at' m.2.2.2.2.2.1.len m.2.2.2.2.2.1.cap), (.slice m.2.2.2.2.2.2.1.at' m.2.2.2.2.2.2.1.len m.2.2.2.2.2.2.1.cap), (.int .i64 m.2.2.2.2.2.2.2.1), (.slice m.2.2.2.2.2.2.2.2.1.at' m.2.2.2.2.2.2.2.2.1.len m.2.2.2.2.2.2.2.2.1.cap), (.slice m.2.2.2.2.2.2.2.2.2.1.at' m.2.2.2.2.2.2.2.2.2.1.len m.2.2.2.2.2.2.2.2.2.1.cap), (.slice m.2.2.2.2.2.2.2.2.2.2.1.at' m.2.2.2.2.2.2.2.2.2.2.1.len m.2.2.2.2.2.2.2.2.2.2.1.cap), (.bool m.2.2.2.2.2.2.2.2.2.2.2.1.1), (.int .u32 m.2.2.2.2.2.2.2.2.2.2.2.1.2.1), (.int .u32 m.2.2.2.2.2.2.2.2.2.2.2.1.2.2.1), (.int .u32 m.2.2.2.2.2.2.2.2.2.2.2.1.2.2.2.1), (.int .u32 m.2.2.2.2.2.2.2.2.2.2.2.1.2.2.2.2.1), (.slice m.2.2.2.2.2.2.2.2.2.2.2.1.2.2.2.2.2.1.at' m.2.2.2.2.2.2.2.2.2.2.2.1.2.2.2.2.2.1.len m.2.2.2.2.2.2.2.2.2.2.2.1.2.2.2.2.2.1.cap)]) := h0
              replace h5 : V 5 = (.agg #[(.string y.1), (.string y.2.1), (.int .u8 y.2.2.1), (.int .u32 y.2.2.2.1), (.int .u32 y.2.2.2.2.1.1), (.int .u32 y.2.2.2.2.1.2.1), (.bool y.2.2.2.2.1.2.2.1), (.int .u8 y.2.2.2.2.2.1.1), (.bool y.2.2.2.2.2.1.2.1)]) := h5
              replace hb := hb.trans (hC.mono hb.size)
              replace hkb1 := blk_ext hkb1 hC
              replace hro := Row.ext hro hC
              refine Does.mono (d_callB (vs := [(.agg #[(.slice m.1.at' m.1.len m.1.cap), (.slice m.2.1.at' m.2.1.len m.2.1.cap), (.slice m.2.2.1.at' m.2.2.1.len m.2.2.1.cap), (.slice m.2.2.2.1.at' m.2.2.2.1.len m.2.2.2.1.cap), (.slice m.2.2.2.2.1.at' m.2.2.2.2.1.len m.2.2.2.2.1.cap), (.slice m.2.2.2.2.2.1.at' m.2.2.2.2.2.1.len m.2.2.2.2.2.1.cap), (.slice m.2.2.2.2.2.2.1.at' m.2.2.2.2.2.2.1.len m.2.2.2.2.2.2.1.cap), (.int .i64 m.2.2.2.2.2.2.2.1), (.slice m.2.2.2.2.2.2.2.2.1.at' m.2.2.2.2.2.2.2.2.1.len m.2.2.2.2.2.2.2.2.1.cap), (.slice m.2.2.2.2.2.2.2.2.2.1.at' m.2.2.2.2.2.2.2.2.2.1.len m.2.2.2.2.2.2.2.2.2.1.cap), (.slice m.2.2.2.2.2.2.2.2.2.2.1.at' m.2.2.2.2.2.2.2.2.2.2.1.len m.2.2.2.2.2.2.2.2.2.2.1.cap), (.bool m.2.2.2.2.2.2.2.2.2.2.2.1.1), (.int .u32 m.2.2.2.2.2.2.2.2.2.2.2.1.2.1), (.int .u32 m.2.2.2.2.2.2.2.2.2.2.2.1.2.2.1), (.int .u32 m.2.2.2.2.2.2.2.2.2.2.2.1.2.2.2.1), (.int .u32 m.2.2.2.2.2.2.2.2.2.2.2.1.2.2.2.2.1), (.slice m.2.2.2.2.2.2.2.2.2.2.2.1.2.2.2.2.2.1.at' m.2.2.2.2.2.2.2.2.2.2.2.1.2.2.2.2.2.1.len m.2.2.2.2.2.2.2.2.2.2.2.1.2.2.2.2.2.1.cap)]), (.agg #[(.string y.1), (.string y.2.1), (.int .u8 y.2.2.1), (.int .u32 y.2.2.2.1), (.int .u32 y.2.2.2.2.1.1), (.int .u32 y.2.2.2.2.1.2.1), (.bool y.2.2.2.2.1.2.2.1), (.int .u8 y.2.2.2.2.2.1.1), (.bool y.2.2.2.2.2.1.2.1)])]) (show [some (V 0), some (V 5)] = [some (.agg #[(.slice m.1.at' m.1.len m.1.cap), (.slice m.2.1.at' m.2.1.len m.2.1.cap), (.slice m.2.2.1.at' m.2.2.1.len m.2.2.1.cap), (.slice m.2.2.2.1.at' m.2.2.2.1.len m.2.2.2.1.cap), (.slice m.2.2.2.2.1.at' m.2.2.2.2.1.len m.2.2.2.2.1.cap), (.slice m.2.2.2.2.2.1.at' m.2.2.2.2.2.1.len m.2.2.2.2.2.1.cap), (.slice m.2.2.2.2.2.2.1.at' m.2.2.2.2.2.2.1.len m.2.2.2.2.2.2.1.cap), (.int .i64 m.2.2.2.2.2.2.2.1), (.slice m.2.2.2.2.2.2.2.2.1.at' m.2.2.2.2.2.2.2.2.1.len m.2.2.2.2.2.2.2.2.1.cap), (.slice m.2.2.2.2.2.2.2.2.2.1.at' m.2.2.2.2.2.2.2.2.2.1.len m.2.2.2.2.2.2.2.2.2.1.cap), (.slice m.2.2.2.2.2.2.2.2.2.2.1.at' m.2.2.2.2.2.2.2.2.2.2.1.len m.2.2.2.2.2.2.2.2.2.2.1.cap), (.bool m.2.2.2.2.2.2.2.2.2.2.2.1.1), (.int .u32 m.2.2.2.2.2.2.2.2.2.2.2.1.2.1), (.int .u32 m.2.2.2.2.2.2.2.2.2.2.2.1.2.2.1), (.int .u32 m.2.2.2.2.2.2.2.2.2.2.2.1.2.2.2.1), (.int .u32 m.2.2.2.2.2.2.2.2.2.2.2.1.2.2.2.2.1), (.slice m.2.2.2.2.2.2.2.2.2.2.2.1.2.2.2.2.2.1.at' m.2.2.2.2.2.2.2.2.2.2.2.1.2.2.2.2.2.1.len m.2.2.2.2.2.2.2.2.2.2.2.1.2.2.2.2.2.1.cap)]), some (.agg #[(.string y.1), (.string y.2.1), (.int .u8 y.2.2.1), (.int .u32 y.2.2.2.1), (.int .u32 y.2.2.2.2.1.1), (.int .u32 y.2.2.2.2.1.2.1), (.bool y.2.2.2.2.1.2.2.1), (.int .u8 y.2.2.2.2.2.1.1), (.bool y.2.2.2.2.2.1.2.1)])] from by rw [h0, h5]) Try.func71 (by kernel_rfl) (by kernel_rfl) (kind_any m y _ hyt hTl)) (fun _ _ h => ⟨h.2, h.1, nofr rfl⟩)
            refine ⟨fun wu7 hC hd => ?_, ?_⟩
            · obtain ⟨h6, _⟩ := hd
              skip
              replace h6 : V 6 = (.tuple #[(.int .i64 ((kindP m y).1)), (.int .i64 ((kindP m y).2))]) := h6
              replace hb := hb.trans (hC.mono hb.size)
              replace hkb1 := blk_ext hkb1 hC
              replace hro := Row.ext hro hC
              exact Runs.does (r_move (congrArg some h6)) ⟨Below.refl _ _, rfl, nofr rfl⟩
            refine ⟨fun wu8 hC hd => ?_, ?_⟩
            · obtain ⟨h7, _⟩ := hd
              skip
              replace h7 : V 7 = (.tuple #[(.int .i64 ((kindP m y).1)), (.int .i64 ((kindP m y).2))]) := h7
              replace hb := hb.trans (hC.mono hb.size)
              replace hkb1 := blk_ext hkb1 hC
              replace hro := Row.ext hro hC
              exact Runs.does (r_extract (congrArg some h7) (i := 0) rfl) ⟨Below.refl _ _, rfl, nofr rfl⟩
            refine ⟨fun wu9 hC hd => ?_, ?_⟩
            · obtain ⟨h7, _⟩ := hd
              skip
              replace h7 : V 7 = (.tuple #[(.int .i64 ((kindP m y).1)), (.int .i64 ((kindP m y).2))]) := h7
              replace hb := hb.trans (hC.mono hb.size)
              replace hkb1 := blk_ext hkb1 hC
              replace hro := Row.ext hro hC
              exact Runs.does (r_extract (congrArg some h7) (i := 1) rfl) ⟨Below.refl _ _, rfl, nofr rfl⟩
            refine ⟨fun wu10 hC hd => ?_, ?_⟩
            · obtain ⟨h0, h1, h2, h3, h4, h5, h6, h7, h8, _⟩ := hd
              skip
              skip
              skip
              skip
              skip
              skip
              skip
              skip
              skip
              replace h0 : V 0 = (.agg #[(.slice m.1.at' m.1.len m.1.cap), (.slice m.2.1.at' m.2.1.len m.2.1.cap), (.slice m.2.2.1.at' m.2.2.1.len m.2.2.1.cap), (.slice m.2.2.2.1.at' m.2.2.2.1.len m.2.2.2.1.cap), (.slice m.2.2.2.2.1.at' m.2.2.2.2.1.len m.2.2.2.2.1.cap), (.slice m.2.2.2.2.2.1.at' m.2.2.2.2.2.1.len m.2.2.2.2.2.1.cap), (.slice m.2.2.2.2.2.2.1.at' m.2.2.2.2.2.2.1.len m.2.2.2.2.2.2.1.cap), (.int .i64 m.2.2.2.2.2.2.2.1), (.slice m.2.2.2.2.2.2.2.2.1.at' m.2.2.2.2.2.2.2.2.1.len m.2.2.2.2.2.2.2.2.1.cap), (.slice m.2.2.2.2.2.2.2.2.2.1.at' m.2.2.2.2.2.2.2.2.2.1.len m.2.2.2.2.2.2.2.2.2.1.cap), (.slice m.2.2.2.2.2.2.2.2.2.2.1.at' m.2.2.2.2.2.2.2.2.2.2.1.len m.2.2.2.2.2.2.2.2.2.2.1.cap), (.bool m.2.2.2.2.2.2.2.2.2.2.2.1.1), (.int .u32 m.2.2.2.2.2.2.2.2.2.2.2.1.2.1), (.int .u32 m.2.2.2.2.2.2.2.2.2.2.2.1.2.2.1), (.int .u32 m.2.2.2.2.2.2.2.2.2.2.2.1.2.2.2.1), (.int .u32 m.2.2.2.2.2.2.2.2.2.2.2.1.2.2.2.2.1), (.slice m.2.2.2.2.2.2.2.2.2.2.2.1.2.2.2.2.2.1.at' m.2.2.2.2.2.2.2.2.2.2.2.1.2.2.2.2.2.1.len m.2.2.2.2.2.2.2.2.2.2.2.1.2.2.2.2.2.1.cap)]) := h0
              replace h1 : V 1 = (.pointer (some ⟨b1, 1, none⟩)) := h1
              replace h2 : V 2 = (.slice m.2.1.at' m.2.1.len m.2.1.cap) := h2
              replace h3 : V 3 = (.int .i64 ((k : Nat) : Int)) := h3
              replace h4 : V 4 = (.pointer (some ⟨ab1, (aoff1 + k * 9), none⟩)) := h4
              replace h5 : V 5 = (.agg #[(.string y.1), (.string y.2.1), (.int .u8 y.2.2.1), (.int .u32 y.2.2.2.1), (.int .u32 y.2.2.2.2.1.1), (.int .u32 y.2.2.2.2.1.2.1), (.bool y.2.2.2.2.1.2.2.1), (.int .u8 y.2.2.2.2.2.1.1), (.bool y.2.2.2.2.2.1.2.1)]) := h5
              replace h6 : V 6 = (.tuple #[(.int .i64 ((kindP m y).1)), (.int .i64 ((kindP m y).2))]) := h6
              replace h7 : V 7 = (.tuple #[(.int .i64 ((kindP m y).1)), (.int .i64 ((kindP m y).2))]) := h7
              replace h8 : V 8 = (.int .i64 ((kindP m y).1)) := h8
              replace hb := hb.trans (hC.mono hb.size)
              replace hkb1 := blk_ext hkb1 hC
              replace hro := Row.ext hro hC
              exact Runs.does (r_assign (congrArg some h8)) ⟨Below.refl _ _, rfl, nofr rfl⟩
            refine ⟨fun wu11 hC hd => ?_, ?_⟩
            · obtain ⟨h0, h1, h2, h3, h4, h5, h6, h7, h8, h9, h10, _⟩ := hd
              skip
              skip
              skip
              skip
              skip
              skip
              skip
              skip
              skip
              skip
              skip
              replace h0 : V 0 = (.agg #[(.slice m.1.at' m.1.len m.1.cap), (.slice m.2.1.at' m.2.1.len m.2.1.cap), (.slice m.2.2.1.at' m.2.2.1.len m.2.2.1.cap), (.slice m.2.2.2.1.at' m.2.2.2.1.len m.2.2.2.1.cap), (.slice m.2.2.2.2.1.at' m.2.2.2.2.1.len m.2.2.2.2.1.cap), (.slice m.2.2.2.2.2.1.at' m.2.2.2.2.2.1.len m.2.2.2.2.2.1.cap), (.slice m.2.2.2.2.2.2.1.at' m.2.2.2.2.2.2.1.len m.2.2.2.2.2.2.1.cap), (.int .i64 m.2.2.2.2.2.2.2.1), (.slice m.2.2.2.2.2.2.2.2.1.at' m.2.2.2.2.2.2.2.2.1.len m.2.2.2.2.2.2.2.2.1.cap), (.slice m.2.2.2.2.2.2.2.2.2.1.at' m.2.2.2.2.2.2.2.2.2.1.len m.2.2.2.2.2.2.2.2.2.1.cap), (.slice m.2.2.2.2.2.2.2.2.2.2.1.at' m.2.2.2.2.2.2.2.2.2.2.1.len m.2.2.2.2.2.2.2.2.2.2.1.cap), (.bool m.2.2.2.2.2.2.2.2.2.2.2.1.1), (.int .u32 m.2.2.2.2.2.2.2.2.2.2.2.1.2.1), (.int .u32 m.2.2.2.2.2.2.2.2.2.2.2.1.2.2.1), (.int .u32 m.2.2.2.2.2.2.2.2.2.2.2.1.2.2.2.1), (.int .u32 m.2.2.2.2.2.2.2.2.2.2.2.1.2.2.2.2.1), (.slice m.2.2.2.2.2.2.2.2.2.2.2.1.2.2.2.2.2.1.at' m.2.2.2.2.2.2.2.2.2.2.2.1.2.2.2.2.2.1.len m.2.2.2.2.2.2.2.2.2.2.2.1.2.2.2.2.2.1.cap)]) := h0
              replace h1 : V 1 = (.pointer (some ⟨b1, 1, none⟩)) := h1
              replace h2 : V 2 = (.slice m.2.1.at' m.2.1.len m.2.1.cap) := h2
              replace h3 : V 3 = (.int .i64 ((k : Nat) : Int)) := h3
              replace h4 : V 4 = (.pointer (some ⟨ab1, (aoff1 + k * 9), none⟩)) := h4
              replace h5 : V 5 = (.agg #[(.string y.1), (.string y.2.1), (.int .u8 y.2.2.1), (.int .u32 y.2.2.2.1), (.int .u32 y.2.2.2.2.1.1), (.int .u32 y.2.2.2.2.1.2.1), (.bool y.2.2.2.2.1.2.2.1), (.int .u8 y.2.2.2.2.2.1.1), (.bool y.2.2.2.2.2.1.2.1)]) := h5
              replace h6 : V 6 = (.tuple #[(.int .i64 ((kindP m y).1)), (.int .i64 ((kindP m y).2))]) := h6
              replace h7 : V 7 = (.tuple #[(.int .i64 ((kindP m y).1)), (.int .i64 ((kindP m y).2))]) := h7
              replace h8 : V 8 = (.int .i64 ((kindP m y).1)) := h8
              replace h9 : V 9 = (.int .i64 ((kindP m y).2)) := h9
              replace h10 : V 10 = (.int .i64 ((kindP m y).1)) := h10
              replace hb := hb.trans (hC.mono hb.size)
              replace hkb1 := blk_ext hkb1 hC
              replace hro := Row.ext hro hC
              exact Runs.does (r_assign (congrArg some h9)) ⟨Below.refl _ _, rfl, nofr rfl⟩
            trivial
          · skip
            clear hf fa; intro V w3 fa he2 hp hnb hf
            have hv0 : V 0 = (.agg #[(.slice m.1.at' m.1.len m.1.cap), (.slice m.2.1.at' m.2.1.len m.2.1.cap), (.slice m.2.2.1.at' m.2.2.1.len m.2.2.1.cap), (.slice m.2.2.2.1.at' m.2.2.2.1.len m.2.2.2.1.cap), (.slice m.2.2.2.2.1.at' m.2.2.2.2.1.len m.2.2.2.2.1.cap), (.slice m.2.2.2.2.2.1.at' m.2.2.2.2.2.1.len m.2.2.2.2.2.1.cap), (.slice m.2.2.2.2.2.2.1.at' m.2.2.2.2.2.2.1.len m.2.2.2.2.2.2.1.cap), (.int .i64 m.2.2.2.2.2.2.2.1), (.slice m.2.2.2.2.2.2.2.2.1.at' m.2.2.2.2.2.2.2.2.1.len m.2.2.2.2.2.2.2.2.1.cap), (.slice m.2.2.2.2.2.2.2.2.2.1.at' m.2.2.2.2.2.2.2.2.2.1.len m.2.2.2.2.2.2.2.2.2.1.cap), (.slice m.2.2.2.2.2.2.2.2.2.2.1.at' m.2.2.2.2.2.2.2.2.2.2.1.len m.2.2.2.2.2.2.2.2.2.2.1.cap), (.bool m.2.2.2.2.2.2.2.2.2.2.2.1.1), (.int .u32 m.2.2.2.2.2.2.2.2.2.2.2.1.2.1), (.int .u32 m.2.2.2.2.2.2.2.2.2.2.2.1.2.2.1), (.int .u32 m.2.2.2.2.2.2.2.2.2.2.2.1.2.2.2.1), (.int .u32 m.2.2.2.2.2.2.2.2.2.2.2.1.2.2.2.2.1), (.slice m.2.2.2.2.2.2.2.2.2.2.2.1.2.2.2.2.2.1.at' m.2.2.2.2.2.2.2.2.2.2.2.1.2.2.2.2.2.1.len m.2.2.2.2.2.2.2.2.2.2.2.1.2.2.2.2.2.1.cap)]) := postsHold_at hp 0 rfl
            have hv1 : V 1 = (.pointer (some ⟨b1, 1, none⟩)) := postsHold_at hp 1 rfl
            have hv2 : V 2 = (.slice m.2.1.at' m.2.1.len m.2.1.cap) := postsHold_at hp 2 rfl
            have hv3 : V 3 = (.int .i64 ((k : Nat) : Int)) := postsHold_at hp 3 rfl
            have hv4 : V 4 = (.pointer (some ⟨ab1, (aoff1 + k * 9), none⟩)) := postsHold_at hp 4 rfl
            have hv5 : V 5 = (.agg #[(.string y.1), (.string y.2.1), (.int .u8 y.2.2.1), (.int .u32 y.2.2.2.1), (.int .u32 y.2.2.2.2.1.1), (.int .u32 y.2.2.2.2.1.2.1), (.bool y.2.2.2.2.1.2.2.1), (.int .u8 y.2.2.2.2.2.1.1), (.bool y.2.2.2.2.2.1.2.1)]) := postsHold_at hp 5 rfl
            have hv6 : V 6 = (.tuple #[(.int .i64 ((kindP m y).1)), (.int .i64 ((kindP m y).2))]) := postsHold_at hp 6 rfl
            have hv7 : V 7 = (.tuple #[(.int .i64 ((kindP m y).1)), (.int .i64 ((kindP m y).2))]) := postsHold_at hp 7 rfl
            have hv8 : V 8 = (.int .i64 ((kindP m y).1)) := postsHold_at hp 8 rfl
            have hv9 : V 9 = (.int .i64 ((kindP m y).2)) := postsHold_at hp 9 rfl
            have hv10 : V 10 = (.int .i64 ((kindP m y).1)) := postsHold_at hp 10 rfl
            have hv11 : V 11 = (.int .i64 ((kindP m y).2)) := postsHold_at hp 11 rfl
            simp only [List.take_succ_cons, List.take_zero, insAll, ins, hv0, hv1, hv2, hv3, hv4, hv5, hv6, hv7, hv8, hv9, hv10, hv11] at hf
            clear hp hnb hv0 hv1 hv2 hv3 hv4 hv5 hv6 hv7 hv8 hv9 hv10 hv11
            replace hkb1 := blk_ext hkb1 he2
            replace hro := Row.ext hro he2
            replace hb := hb.trans (Below.mono he2 hb.size)
            (try simp only [Exit.then, Exit.inBlock, ↓reduceIte, Nat.reduceEqDiff])
            refine hK14 _ _ ?_
            refine wp_seq_k (fun K15 hK15 => ?_)
            refine wp_seq_k (fun K16 hK16 => ?_)
            refine wp_region_lit ?_
            refine sqv hf (r_move rfl) rfl rfl rfl ?_; clear hf fa; intro fa hf
            refine sqv hf (r_ne rfl rfl) rfl rfl rfl ?_; clear hf fa; intro fa hf
            apply wpList_nil
            (try simp only [Exit.then, Exit.inBlock, ↓reduceIte, Nat.reduceEqDiff])
            refine hK16 _ _ ?_
            refine wp_cond_split (t := (decide (((kindP m y).2) ≠ (0 : Int)))) (hf.ev rfl) (fun hqt53_1 => ?_) (fun hqt53_1 => ?_)
            · have hqt53_1b := hqt53_1
              try simp only [decide_eq_true_eq, Bool.and_eq_true, Bool.or_eq_true, Bool.not_eq_true', decide_eq_false_iff_not, ne_eq, Bool.not_eq_true] at hqt53_1
              refine wp_seq_k (fun K17 hK17 => ?_)
              refine wp_region_lit ?_
              refine sqv hf (r_move rfl) rfl rfl rfl ?_; clear hf fa; intro fa hf
              refine sqv hf (r_move rfl) rfl rfl rfl ?_; clear hf fa; intro fa hf
              refine sqv hf (r_assign rfl) rfl rfl rfl ?_; clear hf fa; intro fa hf
              refine sqv hf (r_assign rfl) rfl rfl rfl ?_; clear hf fa; intro fa hf
              refine sqv hf (r_assign rfl) rfl rfl rfl ?_; clear hf fa; intro fa hf
              apply wpList_nil
              (try simp only [Exit.then, Exit.inBlock, ↓reduceIte, Nat.reduceEqDiff])
              refine hK17 _ _ ?_
              refine wp_ret ?_
              (try simp only [Exit.then, Exit.inBlock])
              refine ret3 hf rfl rfl rfl rfl ?_
              have hP : rofP m = ([], ((k : Nat) : Int), ((kindP m y).2)) := by unfold rofP; rw [hqt24_1b, hqt34_1b, Hs, drop_at hy, rplanR, if_pos hqt53_1]; rfl
              rw [hP]; exact ⟨_, rfl, none, 0, rfl, Row.nil, hb⟩
            · have hqt53_1b := hqt53_1
              replace hqt53_1 := Bool.eq_false_iff.1 hqt53_1
              try simp only [ne_eq, decide_eq_true_eq, Bool.and_eq_true, Bool.or_eq_true, Bool.not_eq_true', decide_eq_false_iff_not] at hqt53_1
              refine wp_skip ?_
              (try simp only [Exit.then, Exit.inBlock, ↓reduceIte, Nat.reduceEqDiff])
              refine hK15 _ _ ?_
              refine wp_region_lit ?_
              refine sqv hf (r_move rfl) rfl rfl rfl ?_; clear hf fa; intro fa hf
              refine sqv hf (r_move rfl) rfl rfl rfl ?_; clear hf fa; intro fa hf
              refine sqdt hf (d_bslice (z := (.int .i64 (0 : Int))) (sz := 1) (vs := [(0, (.int .i64 ((kindP m y).1)))]) (cs := #[(.int .i64 ((kindP m y).1))]) rfl Try.underlying28 (by kernel_rfl) rfl (by kernel_rfl)) rfl rfl rfl ?_; clear hf fa; rintro fa _ w4 ⟨b2, rfl, hle2, hk2, he3⟩ hf
              have hBb2 : w.heap.size ≤ b2 := Nat.le_trans hb.size hle2
              have : b1 < b2 := Nat.lt_of_lt_of_le (blk_lt hkb1) hle2
              have hnr1 : (Value.slice roa ((((kindsT m (m.2.1.list.take k))).length)) roc).ownBlock ≠ some b2 := fun hq => by have := (Row.lt hro _ hq).2; omega
              replace hkb1 := blk_ext hkb1 he3
              replace hro := Row.ext hro he3
              replace hb := hb.trans (Below.mono he3 hb.size)
              have hs1 := Row.rd (by intros; rfl) (Row.of_new (k := 1) (V := (vInt .i64)) (l := [((kindP m y).1)]) hk2 (Nat.le_refl _) rfl rfl (Nat.le_of_ble_eq_true rfl))
              refine sqdt hf (d_append (V := (vInt .i64)) (k := 1) (e := 3) (bytes := 8) (z := (.int .i64 (0 : Int))) (news := [((kindP m y).1)]) (base := w.heap.size) (by intros; rfl) (by intro x u hu; simp only [vInt, List.mem_singleton] at hu; subst hu; rfl) rfl rfl Try.underlying28 (by kernel_rfl) rfl rfl rfl hro hs1 rfl (fun h => by cases h) (by first | omega | (simp only [List.length_cons, List.length_nil, List.length_append]; omega)) (by have := hb.size; omega)) rfl rfl rfl ?_; clear hf fa; rintro fa v w5 ⟨hr1, hg1⟩ hf; obtain ⟨ra1, rc1, rfl, hcrc1, hmrc1⟩ := Row.slice hr1
              replace hkb1 := blk_row' hkb1 hg1 (Row.ne_type hro hkb1 rfl)
              replace hb := hb.trans (row_below hro hg1 hb.size (by have := hb.size; omega))
              refine sqv hf (r_assign rfl) rfl rfl rfl ?_; clear hf fa; intro fa hf
              apply wpList_nil
              (try simp only [Exit.then, Exit.inBlock, ↓reduceIte, Nat.reduceEqDiff])
              refine hK13 _ _ ?_
              refine wp_region_lit ?_
              refine sqv hf (r_move rfl) rfl rfl rfl ?_; clear hf fa; intro fa hf
              refine sqv hf (r_add (C := (((k : Nat) : Int) + (1 : Int))) rfl rfl (by rw [IntKind.wrap_i64]; omega)) rfl rfl rfl ?_; clear hf fa; intro fa hf
              refine sqv hf (r_assign rfl) rfl rfl rfl ?_; clear hf fa; intro fa hf
              apply wpList_nil
              (try simp only [Exit.then, Exit.inBlock, ↓reduceIte, Nat.reduceEqDiff])
              have hle := congrArg List.length (kindsT_snoc (m := m) hy); simp only [List.length_append, List.length_cons, List.length_nil] at hle
              refine hKL1 _ _ _ (by omega) ⟨(k + 1), ra1, rc1, rfl, hf.sub ⟨rfl, (some_int (by first | rfl | omega)), (some_sl (by first | omega | (simp only [List.length_append, List.length_cons, List.length_nil]; omega) | (simp <;> omega)) rfl), trivial⟩, hb, (rowToK hr1 (kindsT_snoc hy)), hkb1, by omega, (by have h := Hs; rw [drop_at hy, rplanR, if_neg hqt53_1] at h; exact h)⟩
        · have hqt39_1b := hqt39_1
          replace hqt39_1 := Bool.eq_false_iff.1 hqt39_1
          try simp only [ne_eq, decide_eq_true_eq, Bool.and_eq_true, Bool.or_eq_true, Bool.not_eq_true', decide_eq_false_iff_not] at hqt39_1
          refine wp_exit ?_
          (try simp only [Exit.then, Exit.inBlock, ↓reduceIte, Nat.reduceEqDiff])
          refine hK9 _ _ ?_
          refine wp_seq_k (fun K18 hK18 => ?_)
          refine wp_region_un (fun wq => Below w2.heap.size w2 wq) (fun w w' => Below w.heap.size w w')
            (fun V => [(fun x _ => x = (.slice roa (((kindsT m (m.2.1.list.take k))).length) roc)), (fun x _ => x = (.pointer (some ⟨b1, 1, none⟩))), (fun x _ => x = (.slice m.2.1.at' m.2.1.len m.2.1.cap)), (fun x _ => x = (.int .i64 ((m.2.1.len : Nat) : Int))), (fun x _ => x = (.slice roa (((kindsT m (m.2.1.list.take k))).length) roc)), (fun x _ => x = (.int .i64 ((m.2.1.len : Nat) : Int))), (fun x _ => x = (.int .i64 (0 : Int)))])
            []
            [[], [], [1], [2], [0], [0, 1, 2, 3, 4], [0, 1, 2, 3, 4, 5]]
            hf (by kernel_rfl) (by kernel_rfl) (fun _ => rfl) ((Below.refl _ _).drew) (fun a b h1 h2 => h1.trans (h2.mono h1.size)) (fun _ _ h => h.size) (fun V => ⟨kept_eq, kept_eq, kept_eq, kept_eq, kept_eq, kept_eq, kept_eq, trivial⟩) (fun _ _ _ _ _ => rfl) ?_ ?_
          · skip
            intro V
            refine ⟨fun wu0 hC hd => ?_, ?_⟩
            · clear hd
              replace hb := hb.trans (hC.mono hb.size)
              replace hkb1 := blk_ext hkb1 hC
              replace hro := Row.ext hro hC
              exact Runs.does (r_move rfl) ⟨Below.refl _ _, rfl, nofr rfl⟩
            refine ⟨fun wu1 hC hd => ?_, ?_⟩
            · clear hd
              replace hb := hb.trans (hC.mono hb.size)
              replace hkb1 := blk_ext hkb1 hC
              replace hro := Row.ext hro hC
              exact Runs.does (r_fa rfl Try.underlying67 (f := 1) (q := 1) rfl (by kernel_rfl) rfl) ⟨Below.refl _ _, rfl, nofr rfl⟩
            refine ⟨fun wu2 hC hd => ?_, ?_⟩
            · obtain ⟨h1, _⟩ := hd
              skip
              replace h1 : V 1 = (.pointer (some ⟨b1, 1, none⟩)) := h1
              replace hb := hb.trans (hC.mono hb.size)
              replace hkb1 := blk_ext hkb1 hC
              replace hro := Row.ext hro hC
              exact Runs.does (r_load (v := (.slice m.2.1.at' m.2.1.len m.2.1.cap)) (congrArg some h1) Try.underlying57 rfl (cell_blk hkb1 rfl)) ⟨Below.refl _ _, rfl, nofr rfl⟩
            refine ⟨fun wu3 hC hd => ?_, ?_⟩
            · obtain ⟨h2, _⟩ := hd
              skip
              replace h2 : V 2 = (.slice m.2.1.at' m.2.1.len m.2.1.cap) := h2
              replace hb := hb.trans (hC.mono hb.size)
              replace hkb1 := blk_ext hkb1 hC
              replace hro := Row.ext hro hC
              exact Runs.does (r_lensl (congrArg some h2) Try.underlying57) ⟨Below.refl _ _, rfl, nofr rfl⟩
            refine ⟨fun wu4 hC hd => ?_, ?_⟩
            · obtain ⟨h0, _⟩ := hd
              skip
              replace h0 : V 0 = (.slice roa (((kindsT m (m.2.1.list.take k))).length) roc) := h0
              replace hb := hb.trans (hC.mono hb.size)
              replace hkb1 := blk_ext hkb1 hC
              replace hro := Row.ext hro hC
              exact Runs.does (r_assign (congrArg some h0)) ⟨Below.refl _ _, rfl, nofr rfl⟩
            refine ⟨fun wu5 hC hd => ?_, ?_⟩
            · obtain ⟨h0, h1, h2, h3, h4, _⟩ := hd
              skip
              skip
              skip
              skip
              skip
              replace h0 : V 0 = (.slice roa (((kindsT m (m.2.1.list.take k))).length) roc) := h0
              replace h1 : V 1 = (.pointer (some ⟨b1, 1, none⟩)) := h1
              replace h2 : V 2 = (.slice m.2.1.at' m.2.1.len m.2.1.cap) := h2
              replace h3 : V 3 = (.int .i64 ((m.2.1.len : Nat) : Int)) := h3
              replace h4 : V 4 = (.slice roa (((kindsT m (m.2.1.list.take k))).length) roc) := h4
              replace hb := hb.trans (hC.mono hb.size)
              replace hkb1 := blk_ext hkb1 hC
              replace hro := Row.ext hro hC
              exact Runs.does (r_assign (congrArg some h3)) ⟨Below.refl _ _, rfl, nofr rfl⟩
            refine ⟨fun wu6 hC hd => ?_, ?_⟩
            · obtain ⟨h0, h1, h2, h3, h4, h5, _⟩ := hd
              skip
              skip
              skip
              skip
              skip
              skip
              replace h0 : V 0 = (.slice roa (((kindsT m (m.2.1.list.take k))).length) roc) := h0
              replace h1 : V 1 = (.pointer (some ⟨b1, 1, none⟩)) := h1
              replace h2 : V 2 = (.slice m.2.1.at' m.2.1.len m.2.1.cap) := h2
              replace h3 : V 3 = (.int .i64 ((m.2.1.len : Nat) : Int)) := h3
              replace h4 : V 4 = (.slice roa (((kindsT m (m.2.1.list.take k))).length) roc) := h4
              replace h5 : V 5 = (.int .i64 ((m.2.1.len : Nat) : Int)) := h5
              replace hb := hb.trans (hC.mono hb.size)
              replace hkb1 := blk_ext hkb1 hC
              replace hro := Row.ext hro hC
              exact Runs.does (r_assign rfl) ⟨Below.refl _ _, rfl, nofr rfl⟩
            trivial
          · skip
            clear hf fa; intro V w6 fa he4 hp hnb hf
            have hv0 : V 0 = (.slice roa (((kindsT m (m.2.1.list.take k))).length) roc) := postsHold_at hp 0 rfl
            have hv1 : V 1 = (.pointer (some ⟨b1, 1, none⟩)) := postsHold_at hp 1 rfl
            have hv2 : V 2 = (.slice m.2.1.at' m.2.1.len m.2.1.cap) := postsHold_at hp 2 rfl
            have hv3 : V 3 = (.int .i64 ((m.2.1.len : Nat) : Int)) := postsHold_at hp 3 rfl
            have hv4 : V 4 = (.slice roa (((kindsT m (m.2.1.list.take k))).length) roc) := postsHold_at hp 4 rfl
            have hv5 : V 5 = (.int .i64 ((m.2.1.len : Nat) : Int)) := postsHold_at hp 5 rfl
            have hv6 : V 6 = (.int .i64 (0 : Int)) := postsHold_at hp 6 rfl
            simp only [List.take_succ_cons, List.take_zero, insAll, ins, hv0, hv1, hv2, hv3, hv4, hv5, hv6] at hf
            clear hp hnb hv0 hv1 hv2 hv3 hv4 hv5 hv6
            replace hkb1 := blk_ext hkb1 he4
            replace hro := Row.ext hro he4
            replace hb := hb.trans (Below.mono he4 hb.size)
            (try simp only [Exit.then, Exit.inBlock, ↓reduceIte, Nat.reduceEqDiff])
            refine hK18 _ _ ?_
            refine wp_ret ?_
            (try simp only [Exit.then, Exit.inBlock])
            refine ret3 hf rfl rfl rfl rfl ?_
            obtain rfl : k = m.2.1.len := by omega
            have hdn : m.2.1.list.drop m.2.1.len = [] := List.drop_eq_nil_of_le (by rw [Sl.list_length]; exact Nat.le_refl _)
            have htn : m.2.1.list.take m.2.1.len = m.2.1.list := List.take_of_length_le (by rw [Sl.list_length]; exact Nat.le_refl _)
            rw [hdn] at Hs
            rw [htn] at hro
            have hP : rofP m = (kindsT m m.2.1.list, ((m.2.1.len : Nat) : Int), 0) := by unfold rofP; rw [hqt24_1b, hqt34_1b, Hs]; simp only [cond_false, rplanR]
            rw [hP]; exact ⟨_, rfl, roa, roc, by rw [htn], hro, hb⟩
end Go.Proofs.Ytahgkfekggkjnaa
