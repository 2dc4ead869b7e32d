/- What is proved here: what the plan of a module wants of each import. -/
import Derived.Test.YtahgkfekggkjnaaPlA
namespace Go.Proofs.Ytahgkfekggkjnaa
open Go.RowKit
set_option linter.unusedVariables false
set_option linter.unusedSimpArgs false
def gotP (x : ByteArray) : Int :=
  bif (decide (x = ⟨#[71, 79, 84, 46, 109, 101, 109]⟩)) then (4 : Int)
  else bif (decide (x = ⟨#[71, 79, 84, 46, 102, 117, 110, 99]⟩)) then (5 : Int)
  else (0 : Int)

set_option maxHeartbeats 1000000 in
set_option maxRecDepth 100000 in
theorem got_any (x : ByteArray) (w : World)  : Calls Try.prog 99 #[(.string x)] w fun e w' => e = .returned (.int .i64 ((gotP x))) ∧ w = w' := by
  refine sx_enter (L := [(0, (.string x))]) Try.func99 rfl rfl rfl rfl (fun fa hf => ?_)
  have hb : Below w.heap.size w w := Below.refl _ _
  refine wp_seq_k (fun K1 hK1 => ?_)
  refine wp_region_lit ?_
  refine sqv hf (r_assign rfl) rfl rfl rfl ?_; clear hf fa; intro fa hf
  apply wpList_nil
  (try simp only [Exit.then, Exit.inBlock, ↓reduceIte, Nat.reduceEqDiff])
  refine hK1 _ _ ?_
  refine wp_seq_k (fun K2 hK2 => ?_)
  refine wp_seq_k (fun K3 hK3 => ?_)
  refine wp_region_lit ?_
  refine sqv hf (r_move rfl) rfl rfl rfl ?_; clear hf fa; intro fa hf
  apply wpList_nil
  (try simp only [Exit.then, Exit.inBlock, ↓reduceIte, Nat.reduceEqDiff])
  refine hK3 _ _ ?_
  refine wp_block ?_
  refine wp_seq_k (fun K4 hK4 => ?_)
  refine wp_region_lit ?_
  refine sqv hf (r_seq rfl rfl) rfl rfl rfl ?_; clear hf fa; intro fa hf
  refine sqv hf (r_assign rfl) rfl rfl rfl ?_; clear hf fa; intro fa hf
  apply wpList_nil
  (try simp only [Exit.then, Exit.inBlock, ↓reduceIte, Nat.reduceEqDiff])
  refine hK4 _ _ ?_
  refine wp_cond_split (t := (decide (x = ⟨#[71, 79, 84, 46, 109, 101, 109]⟩))) (hf.ev rfl) (fun hqt4_1 => ?_) (fun hqt4_1 => ?_)
  · have hqt4_1b := hqt4_1
    try simp only [decide_eq_true_eq, Bool.and_eq_true, Bool.or_eq_true, Bool.not_eq_true', decide_eq_false_iff_not, ne_eq, Bool.not_eq_true] at hqt4_1
    refine wp_seq_k (fun K5 hK5 => ?_)
    refine wp_region_lit ?_
    refine sqv hf (r_assign rfl) rfl rfl rfl ?_; clear hf fa; intro fa hf
    apply wpList_nil
    (try simp only [Exit.then, Exit.inBlock, ↓reduceIte, Nat.reduceEqDiff])
    refine hK5 _ _ ?_
    refine wp_ret ?_
    (try simp only [Exit.then, Exit.inBlock])
    refine ret1 hf rfl rfl ?_
    refine ⟨?_, rfl⟩; unfold gotP; rw [hqt4_1b]; (try rfl)
  · have hqt4_1b := hqt4_1
    replace hqt4_1 := Bool.eq_false_iff.1 hqt4_1
    try simp only [ne_eq, decide_eq_true_eq, Bool.and_eq_true, Bool.or_eq_true, Bool.not_eq_true', decide_eq_false_iff_not] at hqt4_1
    refine wp_seq_k (fun K6 hK6 => ?_)
    refine wp_region_lit ?_
    refine sqv hf (r_seq rfl rfl) rfl rfl rfl ?_; clear hf fa; intro fa hf
    refine sqv hf (r_assign rfl) rfl rfl rfl ?_; clear hf fa; intro fa hf
    apply wpList_nil
    (try simp only [Exit.then, Exit.inBlock, ↓reduceIte, Nat.reduceEqDiff])
    refine hK6 _ _ ?_
    refine wp_cond_split (t := (decide (x = ⟨#[71, 79, 84, 46, 102, 117, 110, 99]⟩))) (hf.ev rfl) (fun hqt6_1 => ?_) (fun hqt6_1 => ?_)
    · have hqt6_1b := hqt6_1
      try simp only [decide_eq_true_eq, Bool.and_eq_true, Bool.or_eq_true, Bool.not_eq_true', decide_eq_false_iff_not, ne_eq, Bool.not_eq_true] at hqt6_1
      refine wp_seq_k (fun K7 hK7 => ?_)
      refine wp_region_lit ?_
      refine sqv hf (r_assign rfl) rfl rfl rfl ?_; clear hf fa; intro fa hf
      apply wpList_nil
      (try simp only [Exit.then, Exit.inBlock, ↓reduceIte, Nat.reduceEqDiff])
      refine hK7 _ _ ?_
      refine wp_ret ?_
      (try simp only [Exit.then, Exit.inBlock])
      refine ret1 hf rfl rfl ?_
      refine ⟨?_, rfl⟩; unfold gotP; rw [hqt4_1b, hqt6_1b]; (try rfl)
    · have hqt6_1b := hqt6_1
      replace hqt6_1 := Bool.eq_false_iff.1 hqt6_1
      try simp only [ne_eq, decide_eq_true_eq, Bool.and_eq_true, Bool.or_eq_true, Bool.not_eq_true', decide_eq_false_iff_not] at hqt6_1
      refine wp_skip ?_
      (try simp only [Exit.then, Exit.inBlock, ↓reduceIte, Nat.reduceEqDiff])
      refine hK2 _ _ ?_
      refine wp_seq_k (fun K8 hK8 => ?_)
      refine wp_region_lit ?_
      refine sqv hf (r_assign rfl) rfl rfl rfl ?_; clear hf fa; intro fa hf
      apply wpList_nil
      (try simp only [Exit.then, Exit.inBlock, ↓reduceIte, Nat.reduceEqDiff])
      refine hK8 _ _ ?_
      refine wp_ret ?_
      (try simp only [Exit.then, Exit.inBlock])
      refine ret1 hf rfl rfl ?_
      refine ⟨?_, rfl⟩; unfold gotP; rw [hqt4_1b, hqt6_1b]; (try rfl)

def globalP (x : MImp) : Int × Int :=
  bif (((decide (x.1 = ⟨#[101, 110, 118]⟩)) && (decide (x.2.1 = ⟨#[95, 95, 109, 101, 109, 111, 114, 121, 95, 98, 97, 115, 101]⟩))) && ((decide (x.2.2.2.2.2.1.1 = (127 : Int))) && (x.2.2.2.2.2.1.2.1 == false))) then ((2 : Int), (0 : Int))
  else bif (((decide (x.1 = ⟨#[101, 110, 118]⟩)) && (decide (x.2.1 = ⟨#[95, 95, 116, 97, 98, 108, 101, 95, 98, 97, 115, 101]⟩))) && ((decide (x.2.2.2.2.2.1.1 = (127 : Int))) && (x.2.2.2.2.2.1.2.1 == false))) then ((3 : Int), (0 : Int))
  else bif ((decide (x.1 = ⟨#[101, 110, 118]⟩)) && ((decide (x.2.1 = ⟨#[95, 95, 109, 101, 109, 111, 114, 121, 95, 98, 97, 115, 101]⟩)) || (decide (x.2.1 = ⟨#[95, 95, 116, 97, 98, 108, 101, 95, 98, 97, 115, 101]⟩)))) then ((0 : Int), (7 : Int))
  else bif (decide (((gotP x.1)) = (0 : Int))) then ((0 : Int), (42 : Int))
  else bif (!((decide (x.2.2.2.2.2.1.1 = (127 : Int))) && (x.2.2.2.2.2.1.2.1 == true))) then ((0 : Int), (7 : Int))
  else (((gotP x.1)), (0 : Int))

set_option maxHeartbeats 1000000 in
set_option maxRecDepth 100000 in
theorem global_any (x : MImp) (w : World)  : Calls Try.prog 91 #[(.agg #[(.string x.1), (.string x.2.1), (.int .u8 x.2.2.1), (.int .u32 x.2.2.2.1), (.int .u32 x.2.2.2.2.1.1), (.int .u32 x.2.2.2.2.1.2.1), (.bool x.2.2.2.2.1.2.2.1), (.int .u8 x.2.2.2.2.2.1.1), (.bool x.2.2.2.2.2.1.2.1)])] w fun e w' => e = .returned (.tuple #[(.int .i64 ((globalP x).1)), (.int .i64 ((globalP x).2))]) ∧ Below w.heap.size w w' := by
  refine sx_enter (L := [(0, (.agg #[(.string x.1), (.string x.2.1), (.int .u8 x.2.2.1), (.int .u32 x.2.2.2.1), (.int .u32 x.2.2.2.2.1.1), (.int .u32 x.2.2.2.2.1.2.1), (.bool x.2.2.2.2.1.2.2.1), (.int .u8 x.2.2.2.2.2.1.1), (.bool x.2.2.2.2.2.1.2.1)]))]) Try.func91 rfl rfl rfl rfl (fun fa hf => ?_)
  have hb : Below w.heap.size w w := Below.refl _ _
  refine wp_seq_k (fun K1 hK1 => ?_)
  refine wp_region_lit ?_
  refine sqdt hf (d_box (cs := #[(.string x.1), (.string x.2.1), (.int .u8 x.2.2.1), (.int .u32 x.2.2.2.1), (.int .u32 x.2.2.2.2.1.1), (.int .u32 x.2.2.2.2.1.2.1), (.bool x.2.2.2.2.1.2.2.1), (.int .u8 x.2.2.2.2.2.1.1), (.bool x.2.2.2.2.2.1.2.1)]) rfl rfl) rfl rfl rfl ?_; clear hf fa; rintro fa _ w1 ⟨b1, rfl, hle1, hk1, he1⟩ hf
  have hBb1 : w.heap.size ≤ b1 := Nat.le_trans hb.size hle1
  replace hb := hb.trans (Below.mono he1 hb.size)
  refine sqv hf (r_assign rfl) rfl rfl rfl ?_; clear hf fa; intro fa hf
  refine sqv hf (r_assign rfl) rfl rfl rfl ?_; clear hf fa; intro fa hf
  apply wpList_nil
  (try simp only [Exit.then, Exit.inBlock, ↓reduceIte, Nat.reduceEqDiff])
  refine hK1 _ _ ?_
  refine wp_seq_k (fun K2 hK2 => ?_)
  refine wp_region_lit ?_
  refine sqv hf (r_build (vs := [(0, (.int .u8 (127 : Int)))]) (cs := #[(.int .u8 (127 : Int)), (.bool false)]) rfl (fun _ => by kernel_rfl)) rfl rfl rfl ?_; clear hf fa; intro fa hf
  refine sqdt hf (d_alloc (z := (.agg #[(.int .u8 (0 : Int)), (.bool false)])) (cs := #[(.int .u8 (0 : Int)), (.bool false)]) (by kernel_rfl) rfl) rfl rfl rfl ?_; clear hf fa; rintro fa _ w2 ⟨b2, rfl, hle2, hk2, he2⟩ hf
  have hBb2 : w.heap.size ≤ b2 := Nat.le_trans hb.size hle2
  have : b1 < b2 := Nat.lt_of_lt_of_le (blk_lt hk1) hle2
  replace hk1 := blk_ext hk1 he2
  replace hb := hb.trans (Below.mono he2 hb.size)
  refine sqn hf (d_storeK (T := 101) (v := (.agg #[(.int .u8 (127 : Int)), (.bool false)])) (cs := #[(.int .u8 (0 : Int)), (.bool false)]) (cs' := #[(.int .u8 (127 : Int)), (.bool false)]) rfl rfl (by kernel_rfl) (by kernel_rfl) hk2 (by kernel_rfl) (by kernel_rfl)) rfl rfl ?_; clear hf fa; rintro fa _ w3 ⟨hk3, hg1⟩ hf
  replace hk1 := blk_grown hk1 hg1 (by omega)
  replace hb := hb.trans (grown_below hg1 hb.size hBb2)
  apply wpList_nil
  (try simp only [Exit.then, Exit.inBlock, ↓reduceIte, Nat.reduceEqDiff])
  refine hK2 _ _ ?_
  refine wp_seq_k (fun K3 hK3 => ?_)
  refine wp_block ?_
  refine wp_seq_k (fun K4 hK4 => ?_)
  refine wp_region_lit ?_
  refine sqv hf (r_fa rfl Try.underlying103 (f := 0) (q := 0) rfl (by kernel_rfl) rfl) rfl rfl rfl ?_; clear hf fa; intro fa hf
  refine sqv hf (r_load (v := (.string x.1)) rfl Try.underlying9 rfl (cell_blk hk1 rfl)) rfl rfl rfl ?_; clear hf fa; intro fa hf
  refine sqv hf (r_seq rfl rfl) rfl rfl rfl ?_; clear hf fa; intro fa hf
  refine sqv hf (r_move rfl) rfl rfl rfl ?_; clear hf fa; intro fa hf
  refine sqgT (act := (decide (x.1 = ⟨#[101, 110, 118]⟩))) (ag := true) (c := (decide (x.1 = ⟨#[101, 110, 118]⟩))) (v := (.pointer (some ⟨b1, 1, none⟩))) hf rfl rfl rfl (fun hact => (r_fa rfl Try.underlying103 (f := 1) (q := 1) rfl (by kernel_rfl) rfl)) rfl rfl ?_; clear hf fa; intro fa hf
  refine sqgT (act := (decide (x.1 = ⟨#[101, 110, 118]⟩))) (ag := true) (c := (decide (x.1 = ⟨#[101, 110, 118]⟩))) (v := (.string x.2.1)) hf rfl rfl rfl (fun hact => (r_load (v := (.string x.2.1)) (gb_ev hact rfl) Try.underlying9 rfl (cell_blk hk1 rfl))) rfl rfl ?_; clear hf fa; intro fa hf
  refine sqgT (act := (decide (x.1 = ⟨#[101, 110, 118]⟩))) (ag := true) (c := (decide (x.1 = ⟨#[101, 110, 118]⟩))) (v := (.bool (decide (x.2.1 = ⟨#[95, 95, 109, 101, 109, 111, 114, 121, 95, 98, 97, 115, 101]⟩)))) hf rfl rfl rfl (fun hact => (r_seq (gb_ev hact rfl) rfl)) rfl rfl ?_; clear hf fa; intro fa hf
  refine sqv hf (r_pickA (b := (decide (x.1 = ⟨#[101, 110, 118]⟩))) (e := (decide (x.2.1 = ⟨#[95, 95, 109, 101, 109, 111, 114, 121, 95, 98, 97, 115, 101]⟩))) rfl rfl rfl) rfl rfl rfl ?_; clear hf fa; intro fa hf
  refine sqv hf (r_move rfl) rfl rfl rfl ?_; clear hf fa; intro fa hf
  refine sqgT (act := ((decide (x.1 = ⟨#[101, 110, 118]⟩)) && (decide (x.2.1 = ⟨#[95, 95, 109, 101, 109, 111, 114, 121, 95, 98, 97, 115, 101]⟩)))) (ag := true) (c := ((decide (x.1 = ⟨#[101, 110, 118]⟩)) && (decide (x.2.1 = ⟨#[95, 95, 109, 101, 109, 111, 114, 121, 95, 98, 97, 115, 101]⟩)))) (v := (.pointer (some ⟨b1, 7, none⟩))) hf rfl rfl rfl (fun hact => (r_fa rfl Try.underlying103 (f := 5) (q := 7) rfl (by kernel_rfl) rfl)) rfl rfl ?_; clear hf fa; intro fa hf
  refine sqgT (act := ((decide (x.1 = ⟨#[101, 110, 118]⟩)) && (decide (x.2.1 = ⟨#[95, 95, 109, 101, 109, 111, 114, 121, 95, 98, 97, 115, 101]⟩)))) (ag := true) (c := ((decide (x.1 = ⟨#[101, 110, 118]⟩)) && (decide (x.2.1 = ⟨#[95, 95, 109, 101, 109, 111, 114, 121, 95, 98, 97, 115, 101]⟩)))) (v := (.agg #[(.int .u8 x.2.2.2.2.2.1.1), (.bool x.2.2.2.2.2.1.2.1)])) hf rfl rfl rfl (fun hact => (r_loadA (cs := [(.int .u8 x.2.2.2.2.2.1.1), (.bool x.2.2.2.2.2.1.2.1)]) (gb_ev hact rfl) Try.underlying101 rfl (by kernel_rfl) (cellsAt_part (d := 7) (n := 2) (cellsAt_blk hk1) rfl rfl))) rfl rfl ?_; clear hf fa; intro fa hf
  refine sqgT (act := ((decide (x.1 = ⟨#[101, 110, 118]⟩)) && (decide (x.2.1 = ⟨#[95, 95, 109, 101, 109, 111, 114, 121, 95, 98, 97, 115, 101]⟩)))) (ag := true) (c := ((decide (x.1 = ⟨#[101, 110, 118]⟩)) && (decide (x.2.1 = ⟨#[95, 95, 109, 101, 109, 111, 114, 121, 95, 98, 97, 115, 101]⟩)))) (v := (.agg #[(.int .u8 (127 : Int)), (.bool false)])) hf rfl rfl rfl (fun hact => (r_loadA (cs := [(.int .u8 (127 : Int)), (.bool false)]) rfl Try.underlying101 rfl (by kernel_rfl) (cellsAt_blk hk3))) rfl rfl ?_; clear hf fa; intro fa hf
  refine sqgT (act := ((decide (x.1 = ⟨#[101, 110, 118]⟩)) && (decide (x.2.1 = ⟨#[95, 95, 109, 101, 109, 111, 114, 121, 95, 98, 97, 115, 101]⟩)))) (ag := true) (c := ((decide (x.1 = ⟨#[101, 110, 118]⟩)) && (decide (x.2.1 = ⟨#[95, 95, 109, 101, 109, 111, 114, 121, 95, 98, 97, 115, 101]⟩)))) (v := (.bool ((decide (x.2.2.2.2.2.1.1 = (127 : Int))) && (x.2.2.2.2.2.1.2.1 == false)))) hf rfl rfl rfl (fun hact => (r_aeq (k := 5) (gb_ev hact rfl) (gb_ev hact rfl) (by kernel_rfl) (eqt_struct (xs := #[(.int .u8 x.2.2.2.2.2.1.1), (.bool x.2.2.2.2.2.1.2.1)]) (ys := #[(.int .u8 (127 : Int)), (.bool false)]) Try.underlying101 (by kernel_rfl) (eqf_cons (by kernel_rfl) (fun _ => by kernel_rfl) (fun _ => by kernel_rfl) (eqt_int (kk := .u8) (a := x.2.2.2.2.2.1.1) (b := (127 : Int)) Try.underlying5) (eqf_one (by kernel_rfl) (fun _ => by kernel_rfl) (fun _ => by kernel_rfl) (eqt_bool (a := x.2.2.2.2.2.1.2.1) (b := false) Try.underlying4)))) rfl)) rfl rfl ?_; clear hf fa; intro fa hf
  refine sqv hf (r_pickA (b := ((decide (x.1 = ⟨#[101, 110, 118]⟩)) && (decide (x.2.1 = ⟨#[95, 95, 109, 101, 109, 111, 114, 121, 95, 98, 97, 115, 101]⟩)))) (e := ((decide (x.2.2.2.2.2.1.1 = (127 : Int))) && (x.2.2.2.2.2.1.2.1 == false))) rfl rfl rfl) rfl rfl rfl ?_; clear hf fa; intro fa hf
  refine sqv hf (r_assign rfl) rfl rfl rfl ?_; clear hf fa; intro fa hf
  apply wpList_nil
  (try simp only [Exit.then, Exit.inBlock, ↓reduceIte, Nat.reduceEqDiff])
  refine hK4 _ _ ?_
  refine wp_cond_split (t := (((decide (x.1 = ⟨#[101, 110, 118]⟩)) && (decide (x.2.1 = ⟨#[95, 95, 109, 101, 109, 111, 114, 121, 95, 98, 97, 115, 101]⟩))) && ((decide (x.2.2.2.2.2.1.1 = (127 : Int))) && (x.2.2.2.2.2.1.2.1 == false)))) (hf.ev rfl) (fun hqt6_1 => ?_) (fun hqt6_1 => ?_)
  · have hqt6_1b := hqt6_1
    try simp only [decide_eq_true_eq, Bool.and_eq_true, Bool.or_eq_true, Bool.not_eq_true', decide_eq_false_iff_not, ne_eq, Bool.not_eq_true] at hqt6_1
    refine wp_seq_k (fun K5 hK5 => ?_)
    refine wp_region_lit ?_
    refine sqv hf (r_assign rfl) rfl rfl rfl ?_; clear hf fa; intro fa hf
    refine sqv hf (r_assign rfl) rfl rfl rfl ?_; clear hf fa; intro fa hf
    apply wpList_nil
    (try simp only [Exit.then, Exit.inBlock, ↓reduceIte, Nat.reduceEqDiff])
    refine hK5 _ _ ?_
    refine wp_ret ?_
    (try simp only [Exit.then, Exit.inBlock])
    refine ret2 hf rfl rfl rfl ?_
    refine ⟨?_, hb⟩; unfold globalP; rw [hqt6_1b]; (try rfl)
  · have hqt6_1b := hqt6_1
    replace hqt6_1 := Bool.eq_false_iff.1 hqt6_1
    try simp only [ne_eq, decide_eq_true_eq, Bool.and_eq_true, Bool.or_eq_true, Bool.not_eq_true', decide_eq_false_iff_not] at hqt6_1
    refine wp_seq_k (fun K6 hK6 => ?_)
    refine wp_region_lit ?_
    refine sqv hf (r_fa rfl Try.underlying103 (f := 0) (q := 0) rfl (by kernel_rfl) rfl) rfl rfl rfl ?_; clear hf fa; intro fa hf
    refine sqv hf (r_load (v := (.string x.1)) rfl Try.underlying9 rfl (cell_blk hk1 rfl)) rfl rfl rfl ?_; clear hf fa; intro fa hf
    refine sqv hf (r_seq rfl rfl) rfl rfl rfl ?_; clear hf fa; intro fa hf
    refine sqv hf (r_move rfl) rfl rfl rfl ?_; clear hf fa; intro fa hf
    refine sqgT (act := (decide (x.1 = ⟨#[101, 110, 118]⟩))) (ag := true) (c := (decide (x.1 = ⟨#[101, 110, 118]⟩))) (v := (.pointer (some ⟨b1, 1, none⟩))) hf rfl rfl rfl (fun hact => (r_fa rfl Try.underlying103 (f := 1) (q := 1) rfl (by kernel_rfl) rfl)) rfl rfl ?_; clear hf fa; intro fa hf
    refine sqgT (act := (decide (x.1 = ⟨#[101, 110, 118]⟩))) (ag := true) (c := (decide (x.1 = ⟨#[101, 110, 118]⟩))) (v := (.string x.2.1)) hf rfl rfl rfl (fun hact => (r_load (v := (.string x.2.1)) (gb_ev hact rfl) Try.underlying9 rfl (cell_blk hk1 rfl))) rfl rfl ?_; clear hf fa; intro fa hf
    refine sqgT (act := (decide (x.1 = ⟨#[101, 110, 118]⟩))) (ag := true) (c := (decide (x.1 = ⟨#[101, 110, 118]⟩))) (v := (.bool (decide (x.2.1 = ⟨#[95, 95, 116, 97, 98, 108, 101, 95, 98, 97, 115, 101]⟩)))) hf rfl rfl rfl (fun hact => (r_seq (gb_ev hact rfl) rfl)) rfl rfl ?_; clear hf fa; intro fa hf
    refine sqv hf (r_pickA (b := (decide (x.1 = ⟨#[101, 110, 118]⟩))) (e := (decide (x.2.1 = ⟨#[95, 95, 116, 97, 98, 108, 101, 95, 98, 97, 115, 101]⟩))) rfl rfl rfl) rfl rfl rfl ?_; clear hf fa; intro fa hf
    refine sqv hf (r_move rfl) rfl rfl rfl ?_; clear hf fa; intro fa hf
    refine sqgT (act := ((decide (x.1 = ⟨#[101, 110, 118]⟩)) && (decide (x.2.1 = ⟨#[95, 95, 116, 97, 98, 108, 101, 95, 98, 97, 115, 101]⟩)))) (ag := true) (c := ((decide (x.1 = ⟨#[101, 110, 118]⟩)) && (decide (x.2.1 = ⟨#[95, 95, 116, 97, 98, 108, 101, 95, 98, 97, 115, 101]⟩)))) (v := (.pointer (some ⟨b1, 7, none⟩))) hf rfl rfl rfl (fun hact => (r_fa rfl Try.underlying103 (f := 5) (q := 7) rfl (by kernel_rfl) rfl)) rfl rfl ?_; clear hf fa; intro fa hf
    refine sqgT (act := ((decide (x.1 = ⟨#[101, 110, 118]⟩)) && (decide (x.2.1 = ⟨#[95, 95, 116, 97, 98, 108, 101, 95, 98, 97, 115, 101]⟩)))) (ag := true) (c := ((decide (x.1 = ⟨#[101, 110, 118]⟩)) && (decide (x.2.1 = ⟨#[95, 95, 116, 97, 98, 108, 101, 95, 98, 97, 115, 101]⟩)))) (v := (.agg #[(.int .u8 x.2.2.2.2.2.1.1), (.bool x.2.2.2.2.2.1.2.1)])) hf rfl rfl rfl (fun hact => (r_loadA (cs := [(.int .u8 x.2.2.2.2.2.1.1), (.bool x.2.2.2.2.2.1.2.1)]) (gb_ev hact rfl) Try.underlying101 rfl (by kernel_rfl) (cellsAt_part (d := 7) (n := 2) (cellsAt_blk hk1) rfl rfl))) rfl rfl ?_; clear hf fa; intro fa hf
    refine sqgT (act := ((decide (x.1 = ⟨#[101, 110, 118]⟩)) && (decide (x.2.1 = ⟨#[95, 95, 116, 97, 98, 108, 101, 95, 98, 97, 115, 101]⟩)))) (ag := true) (c := ((decide (x.1 = ⟨#[101, 110, 118]⟩)) && (decide (x.2.1 = ⟨#[95, 95, 116, 97, 98, 108, 101, 95, 98, 97, 115, 101]⟩)))) (v := (.agg #[(.int .u8 (127 : Int)), (.bool false)])) hf rfl rfl rfl (fun hact => (r_loadA (cs := [(.int .u8 (127 : Int)), (.bool false)]) rfl Try.underlying101 rfl (by kernel_rfl) (cellsAt_blk hk3))) rfl rfl ?_; clear hf fa; intro fa hf
    refine sqgT (act := ((decide (x.1 = ⟨#[101, 110, 118]⟩)) && (decide (x.2.1 = ⟨#[95, 95, 116, 97, 98, 108, 101, 95, 98, 97, 115, 101]⟩)))) (ag := true) (c := ((decide (x.1 = ⟨#[101, 110, 118]⟩)) && (decide (x.2.1 = ⟨#[95, 95, 116, 97, 98, 108, 101, 95, 98, 97, 115, 101]⟩)))) (v := (.bool ((decide (x.2.2.2.2.2.1.1 = (127 : Int))) && (x.2.2.2.2.2.1.2.1 == false)))) hf rfl rfl rfl (fun hact => (r_aeq (k := 5) (gb_ev hact rfl) (gb_ev hact rfl) (by kernel_rfl) (eqt_struct (xs := #[(.int .u8 x.2.2.2.2.2.1.1), (.bool x.2.2.2.2.2.1.2.1)]) (ys := #[(.int .u8 (127 : Int)), (.bool false)]) Try.underlying101 (by kernel_rfl) (eqf_cons (by kernel_rfl) (fun _ => by kernel_rfl) (fun _ => by kernel_rfl) (eqt_int (kk := .u8) (a := x.2.2.2.2.2.1.1) (b := (127 : Int)) Try.underlying5) (eqf_one (by kernel_rfl) (fun _ => by kernel_rfl) (fun _ => by kernel_rfl) (eqt_bool (a := x.2.2.2.2.2.1.2.1) (b := false) Try.underlying4)))) rfl)) rfl rfl ?_; clear hf fa; intro fa hf
    refine sqv hf (r_pickA (b := ((decide (x.1 = ⟨#[101, 110, 118]⟩)) && (decide (x.2.1 = ⟨#[95, 95, 116, 97, 98, 108, 101, 95, 98, 97, 115, 101]⟩)))) (e := ((decide (x.2.2.2.2.2.1.1 = (127 : Int))) && (x.2.2.2.2.2.1.2.1 == false))) rfl rfl rfl) rfl rfl rfl ?_; clear hf fa; intro fa hf
    refine sqv hf (r_assign rfl) rfl rfl rfl ?_; clear hf fa; intro fa hf
    apply wpList_nil
    (try simp only [Exit.then, Exit.inBlock, ↓reduceIte, Nat.reduceEqDiff])
    refine hK6 _ _ ?_
    refine wp_cond_split (t := (((decide (x.1 = ⟨#[101, 110, 118]⟩)) && (decide (x.2.1 = ⟨#[95, 95, 116, 97, 98, 108, 101, 95, 98, 97, 115, 101]⟩))) && ((decide (x.2.2.2.2.2.1.1 = (127 : Int))) && (x.2.2.2.2.2.1.2.1 == false)))) (hf.ev rfl) (fun hqt21_1 => ?_) (fun hqt21_1 => ?_)
    · have hqt21_1b := hqt21_1
      try simp only [decide_eq_true_eq, Bool.and_eq_true, Bool.or_eq_true, Bool.not_eq_true', decide_eq_false_iff_not, ne_eq, Bool.not_eq_true] at hqt21_1
      refine wp_seq_k (fun K7 hK7 => ?_)
      refine wp_region_lit ?_
      refine sqv hf (r_assign rfl) rfl rfl rfl ?_; clear hf fa; intro fa hf
      refine sqv hf (r_assign rfl) rfl rfl rfl ?_; clear hf fa; intro fa hf
      apply wpList_nil
      (try simp only [Exit.then, Exit.inBlock, ↓reduceIte, Nat.reduceEqDiff])
      refine hK7 _ _ ?_
      refine wp_ret ?_
      (try simp only [Exit.then, Exit.inBlock])
      refine ret2 hf rfl rfl rfl ?_
      refine ⟨?_, hb⟩; unfold globalP; rw [hqt6_1b, hqt21_1b]; (try rfl)
    · have hqt21_1b := hqt21_1
      replace hqt21_1 := Bool.eq_false_iff.1 hqt21_1
      try simp only [ne_eq, decide_eq_true_eq, Bool.and_eq_true, Bool.or_eq_true, Bool.not_eq_true', decide_eq_false_iff_not] at hqt21_1
      refine wp_seq_k (fun K8 hK8 => ?_)
      refine wp_region_lit ?_
      refine sqv hf (r_fa rfl Try.underlying103 (f := 0) (q := 0) rfl (by kernel_rfl) rfl) rfl rfl rfl ?_; clear hf fa; intro fa hf
      refine sqv hf (r_load (v := (.string x.1)) rfl Try.underlying9 rfl (cell_blk hk1 rfl)) rfl rfl rfl ?_; clear hf fa; intro fa hf
      refine sqv hf (r_seq rfl rfl) rfl rfl rfl ?_; clear hf fa; intro fa hf
      refine sqv hf (r_move rfl) rfl rfl rfl ?_; clear hf fa; intro fa hf
      refine sqgT (act := (decide (x.1 = ⟨#[101, 110, 118]⟩))) (ag := true) (c := (decide (x.1 = ⟨#[101, 110, 118]⟩))) (v := (.pointer (some ⟨b1, 1, none⟩))) hf rfl rfl rfl (fun hact => (r_fa rfl Try.underlying103 (f := 1) (q := 1) rfl (by kernel_rfl) rfl)) rfl rfl ?_; clear hf fa; intro fa hf
      refine sqgT (act := (decide (x.1 = ⟨#[101, 110, 118]⟩))) (ag := true) (c := (decide (x.1 = ⟨#[101, 110, 118]⟩))) (v := (.string x.2.1)) hf rfl rfl rfl (fun hact => (r_load (v := (.string x.2.1)) (gb_ev hact rfl) Try.underlying9 rfl (cell_blk hk1 rfl))) rfl rfl ?_; clear hf fa; intro fa hf
      refine sqgT (act := (decide (x.1 = ⟨#[101, 110, 118]⟩))) (ag := true) (c := (decide (x.1 = ⟨#[101, 110, 118]⟩))) (v := (.bool (decide (x.2.1 = ⟨#[95, 95, 109, 101, 109, 111, 114, 121, 95, 98, 97, 115, 101]⟩)))) hf rfl rfl rfl (fun hact => (r_seq (gb_ev hact rfl) rfl)) rfl rfl ?_; clear hf fa; intro fa hf
      refine sqgT (act := (decide (x.1 = ⟨#[101, 110, 118]⟩))) (ag := true) (c := (decide (x.1 = ⟨#[101, 110, 118]⟩))) (v := (.bool (decide (x.2.1 = ⟨#[95, 95, 109, 101, 109, 111, 114, 121, 95, 98, 97, 115, 101]⟩)))) hf rfl rfl rfl (fun hact => (r_move (gb_ev hact rfl))) rfl rfl ?_; clear hf fa; intro fa hf
      refine sqgF (act := ((decide (x.1 = ⟨#[101, 110, 118]⟩)) && !(decide (x.2.1 = ⟨#[95, 95, 109, 101, 109, 111, 114, 121, 95, 98, 97, 115, 101]⟩)))) (ag := (decide (x.1 = ⟨#[101, 110, 118]⟩))) (c := (decide (x.2.1 = ⟨#[95, 95, 109, 101, 109, 111, 114, 121, 95, 98, 97, 115, 101]⟩))) (v := (.pointer (some ⟨b1, 1, none⟩))) hf rfl rfl rfl (fun hact => (r_fa rfl Try.underlying103 (f := 1) (q := 1) rfl (by kernel_rfl) rfl)) rfl rfl ?_; clear hf fa; intro fa hf
      refine sqgF (act := ((decide (x.1 = ⟨#[101, 110, 118]⟩)) && !(decide (x.2.1 = ⟨#[95, 95, 109, 101, 109, 111, 114, 121, 95, 98, 97, 115, 101]⟩)))) (ag := (decide (x.1 = ⟨#[101, 110, 118]⟩))) (c := (decide (x.2.1 = ⟨#[95, 95, 109, 101, 109, 111, 114, 121, 95, 98, 97, 115, 101]⟩))) (v := (.string x.2.1)) hf rfl rfl rfl (fun hact => (r_load (v := (.string x.2.1)) (gb_ev hact rfl) Try.underlying9 rfl (cell_blk hk1 rfl))) rfl rfl ?_; clear hf fa; intro fa hf
      refine sqgF (act := ((decide (x.1 = ⟨#[101, 110, 118]⟩)) && !(decide (x.2.1 = ⟨#[95, 95, 109, 101, 109, 111, 114, 121, 95, 98, 97, 115, 101]⟩)))) (ag := (decide (x.1 = ⟨#[101, 110, 118]⟩))) (c := (decide (x.2.1 = ⟨#[95, 95, 109, 101, 109, 111, 114, 121, 95, 98, 97, 115, 101]⟩))) (v := (.bool (decide (x.2.1 = ⟨#[95, 95, 116, 97, 98, 108, 101, 95, 98, 97, 115, 101]⟩)))) hf rfl rfl rfl (fun hact => (r_seq (gb_ev hact rfl) rfl)) rfl rfl ?_; clear hf fa; intro fa hf
      refine sqgT (act := (decide (x.1 = ⟨#[101, 110, 118]⟩))) (ag := true) (c := (decide (x.1 = ⟨#[101, 110, 118]⟩))) (v := (.bool ((decide (x.2.1 = ⟨#[95, 95, 109, 101, 109, 111, 114, 121, 95, 98, 97, 115, 101]⟩)) || (decide (x.2.1 = ⟨#[95, 95, 116, 97, 98, 108, 101, 95, 98, 97, 115, 101]⟩))))) hf rfl rfl rfl (fun hact => (r_pickO2 (q := (decide (x.1 = ⟨#[101, 110, 118]⟩))) (b := (decide (x.2.1 = ⟨#[95, 95, 109, 101, 109, 111, 114, 121, 95, 98, 97, 115, 101]⟩))) (e := (decide (x.2.1 = ⟨#[95, 95, 116, 97, 98, 108, 101, 95, 98, 97, 115, 101]⟩))) hact rfl rfl rfl)) rfl rfl ?_; clear hf fa; intro fa hf
      refine sqv hf (r_pickA (b := (decide (x.1 = ⟨#[101, 110, 118]⟩))) (e := ((decide (x.2.1 = ⟨#[95, 95, 109, 101, 109, 111, 114, 121, 95, 98, 97, 115, 101]⟩)) || (decide (x.2.1 = ⟨#[95, 95, 116, 97, 98, 108, 101, 95, 98, 97, 115, 101]⟩)))) rfl rfl rfl) rfl rfl rfl ?_; clear hf fa; intro fa hf
      refine sqv hf (r_assign rfl) rfl rfl rfl ?_; clear hf fa; intro fa hf
      apply wpList_nil
      (try simp only [Exit.then, Exit.inBlock, ↓reduceIte, Nat.reduceEqDiff])
      refine hK8 _ _ ?_
      refine wp_cond_split (t := ((decide (x.1 = ⟨#[101, 110, 118]⟩)) && ((decide (x.2.1 = ⟨#[95, 95, 109, 101, 109, 111, 114, 121, 95, 98, 97, 115, 101]⟩)) || (decide (x.2.1 = ⟨#[95, 95, 116, 97, 98, 108, 101, 95, 98, 97, 115, 101]⟩))))) (hf.ev rfl) (fun hqt36_1 => ?_) (fun hqt36_1 => ?_)
      · have hqt36_1b := hqt36_1
        try simp only [decide_eq_true_eq, Bool.and_eq_true, Bool.or_eq_true, Bool.not_eq_true', decide_eq_false_iff_not, ne_eq, Bool.not_eq_true] at hqt36_1
        refine wp_seq_k (fun K9 hK9 => ?_)
        refine wp_region_lit ?_
        refine sqv hf (r_assign rfl) rfl rfl rfl ?_; clear hf fa; intro fa hf
        refine sqv hf (r_assign rfl) rfl rfl rfl ?_; clear hf fa; intro fa hf
        apply wpList_nil
        (try simp only [Exit.then, Exit.inBlock, ↓reduceIte, Nat.reduceEqDiff])
        refine hK9 _ _ ?_
        refine wp_ret ?_
        (try simp only [Exit.then, Exit.inBlock])
        refine ret2 hf rfl rfl rfl ?_
        refine ⟨?_, hb⟩; unfold globalP; rw [hqt6_1b, hqt21_1b, hqt36_1b]; (try rfl)
      · have hqt36_1b := hqt36_1
        replace hqt36_1 := Bool.eq_false_iff.1 hqt36_1
        try simp only [ne_eq, decide_eq_true_eq, Bool.and_eq_true, Bool.or_eq_true, Bool.not_eq_true', decide_eq_false_iff_not] at hqt36_1
        refine wp_seq_k (fun K10 hK10 => ?_)
        refine wp_region_lit ?_
        refine sqv hf (r_fa rfl Try.underlying103 (f := 0) (q := 0) rfl (by kernel_rfl) rfl) rfl rfl rfl ?_; clear hf fa; intro fa hf
        refine sqv hf (r_load (v := (.string x.1)) rfl Try.underlying9 rfl (cell_blk hk1 rfl)) rfl rfl rfl ?_; clear hf fa; intro fa hf
        refine sqdt hf (d_callS (vs := [(.string x.1)]) rfl Try.func99 (by kernel_rfl) (by kernel_rfl) (got_any x.1 _)) rfl rfl rfl ?_; clear hf fa; rintro fa _ _ ⟨rfl, rfl⟩ hf
        refine sqv hf (r_eq rfl rfl) rfl rfl rfl ?_; clear hf fa; intro fa hf
        refine sqv hf (r_assign rfl) rfl rfl rfl ?_; clear hf fa; intro fa hf
        apply wpList_nil
        (try simp only [Exit.then, Exit.inBlock, ↓reduceIte, Nat.reduceEqDiff])
        refine hK10 _ _ ?_
        refine wp_cond_split (t := (decide (((gotP x.1)) = (0 : Int)))) (hf.ev rfl) (fun hqt50_1 => ?_) (fun hqt50_1 => ?_)
        · have hqt50_1b := hqt50_1
          try simp only [decide_eq_true_eq, Bool.and_eq_true, Bool.or_eq_true, Bool.not_eq_true', decide_eq_false_iff_not, ne_eq, Bool.not_eq_true] at hqt50_1
          refine wp_seq_k (fun K11 hK11 => ?_)
          refine wp_region_lit ?_
          refine sqv hf (r_assign rfl) rfl rfl rfl ?_; clear hf fa; intro fa hf
          refine sqv hf (r_assign rfl) rfl rfl rfl ?_; clear hf fa; intro fa hf
          apply wpList_nil
          (try simp only [Exit.then, Exit.inBlock, ↓reduceIte, Nat.reduceEqDiff])
          refine hK11 _ _ ?_
          refine wp_ret ?_
          (try simp only [Exit.then, Exit.inBlock])
          refine ret2 hf rfl rfl rfl ?_
          refine ⟨?_, hb⟩; unfold globalP; rw [hqt6_1b, hqt21_1b, hqt36_1b, hqt50_1b]; (try rfl)
        · have hqt50_1b := hqt50_1
          replace hqt50_1 := Bool.eq_false_iff.1 hqt50_1
          try simp only [ne_eq, decide_eq_true_eq, Bool.and_eq_true, Bool.or_eq_true, Bool.not_eq_true', decide_eq_false_iff_not] at hqt50_1
          refine wp_seq_k (fun K12 hK12 => ?_)
          refine wp_region_lit ?_
          refine sqv hf (r_fa rfl Try.underlying103 (f := 5) (q := 7) rfl (by kernel_rfl) rfl) rfl rfl rfl ?_; clear hf fa; intro fa hf
          refine sqv hf (r_loadA (cs := [(.int .u8 x.2.2.2.2.2.1.1), (.bool x.2.2.2.2.2.1.2.1)]) rfl Try.underlying101 rfl (by kernel_rfl) (cellsAt_part (d := 7) (n := 2) (cellsAt_blk hk1) rfl rfl)) rfl rfl rfl ?_; clear hf fa; intro fa hf
          refine sqv hf (r_build (vs := [(0, (.int .u8 (127 : Int))), (1, (.bool true))]) (cs := #[(.int .u8 (127 : Int)), (.bool true)]) rfl (fun _ => by kernel_rfl)) rfl rfl rfl ?_; clear hf fa; intro fa hf
          refine sqv hf (r_ane (k := 5) rfl rfl (by kernel_rfl) (eqt_struct (xs := #[(.int .u8 x.2.2.2.2.2.1.1), (.bool x.2.2.2.2.2.1.2.1)]) (ys := #[(.int .u8 (127 : Int)), (.bool true)]) Try.underlying101 (by kernel_rfl) (eqf_cons (by kernel_rfl) (fun _ => by kernel_rfl) (fun _ => by kernel_rfl) (eqt_int (kk := .u8) (a := x.2.2.2.2.2.1.1) (b := (127 : Int)) Try.underlying5) (eqf_one (by kernel_rfl) (fun _ => by kernel_rfl) (fun _ => by kernel_rfl) (eqt_bool (a := x.2.2.2.2.2.1.2.1) (b := true) Try.underlying4)))) rfl) rfl rfl rfl ?_; clear hf fa; intro fa hf
          refine sqv hf (r_assign rfl) rfl rfl rfl ?_; clear hf fa; intro fa hf
          apply wpList_nil
          (try simp only [Exit.then, Exit.inBlock, ↓reduceIte, Nat.reduceEqDiff])
          refine hK12 _ _ ?_
          refine wp_cond_split (t := (!((decide (x.2.2.2.2.2.1.1 = (127 : Int))) && (x.2.2.2.2.2.1.2.1 == true)))) (hf.ev rfl) (fun hqt55_1 => ?_) (fun hqt55_1 => ?_)
          · have hqt55_1b := hqt55_1
            try simp only [decide_eq_true_eq, Bool.and_eq_true, Bool.or_eq_true, Bool.not_eq_true', decide_eq_false_iff_not, ne_eq, Bool.not_eq_true] at hqt55_1
            refine wp_seq_k (fun K13 hK13 => ?_)
            refine wp_region_lit ?_
            refine sqv hf (r_assign rfl) rfl rfl rfl ?_; clear hf fa; intro fa hf
            refine sqv hf (r_assign rfl) rfl rfl rfl ?_; clear hf fa; intro fa hf
            apply wpList_nil
            (try simp only [Exit.then, Exit.inBlock, ↓reduceIte, Nat.reduceEqDiff])
            refine hK13 _ _ ?_
            refine wp_ret ?_
            (try simp only [Exit.then, Exit.inBlock])
            refine ret2 hf rfl rfl rfl ?_
            refine ⟨?_, hb⟩; unfold globalP; rw [hqt6_1b, hqt21_1b, hqt36_1b, hqt50_1b, hqt55_1b]; (try rfl)
          · have hqt55_1b := hqt55_1
            replace hqt55_1 := Bool.eq_false_iff.1 hqt55_1
            try simp only [ne_eq, decide_eq_true_eq, Bool.and_eq_true, Bool.or_eq_true, Bool.not_eq_true', decide_eq_false_iff_not] at hqt55_1
            refine wp_skip ?_
            (try simp only [Exit.then, Exit.inBlock, ↓reduceIte, Nat.reduceEqDiff])
            refine hK3 _ _ ?_
            refine wp_seq_k (fun K14 hK14 => ?_)
            refine wp_region_lit ?_
            refine sqv hf (r_fa rfl Try.underlying103 (f := 0) (q := 0) rfl (by kernel_rfl) rfl) rfl rfl rfl ?_; clear hf fa; intro fa hf
            refine sqv hf (r_load (v := (.string x.1)) rfl Try.underlying9 rfl (cell_blk hk1 rfl)) rfl rfl rfl ?_; clear hf fa; intro fa hf
            refine sqdt hf (d_callS (vs := [(.string x.1)]) rfl Try.func99 (by kernel_rfl) (by kernel_rfl) (got_any x.1 _)) rfl rfl rfl ?_; clear hf fa; rintro fa _ _ ⟨rfl, rfl⟩ hf
            refine sqv hf (r_assign rfl) rfl rfl rfl ?_; clear hf fa; intro fa hf
            refine sqv hf (r_assign rfl) rfl rfl rfl ?_; clear hf fa; intro fa hf
            apply wpList_nil
            (try simp only [Exit.then, Exit.inBlock, ↓reduceIte, Nat.reduceEqDiff])
            refine hK14 _ _ ?_
            refine wp_ret ?_
            (try simp only [Exit.then, Exit.inBlock])
            refine ret2 hf rfl rfl rfl ?_
            refine ⟨?_, hb⟩; unfold globalP; rw [hqt6_1b, hqt21_1b, hqt36_1b, hqt50_1b, hqt55_1b]; (try rfl)

def wantP (m : MMd) (y : MImp) (i : Nat) : MWt × Int :=
  bif (decide (y.2.2.1 = (3 : Int))) then ((((i : Nat) : Int), ((globalP y).1), y.2.1, (⟨#[]⟩, ⟨#[]⟩, ()), y.2.2.2.2.1, ()), ((globalP y).2))
  else bif (decide (y.1 ≠ ⟨#[101, 110, 118]⟩)) then ((((i : Nat) : Int), (0 : Int), y.2.1, (⟨#[]⟩, ⟨#[]⟩, ()), y.2.2.2.2.1, ()), (42 : Int))
  else bif ((decide (y.2.2.1 = (2 : Int))) && (decide (y.2.1 = ⟨#[109, 101, 109, 111, 114, 121]⟩))) then ((((i : Nat) : Int), (6 : Int), y.2.1, (⟨#[]⟩, ⟨#[]⟩, ()), y.2.2.2.2.1, ()), (0 : Int))
  else bif ((decide (y.2.2.1 = (1 : Int))) && (decide (y.2.1 = ⟨#[95, 95, 105, 110, 100, 105, 114, 101, 99, 116, 95, 102, 117, 110, 99, 116, 105, 111, 110, 95, 116, 97, 98, 108, 101]⟩))) then ((((i : Nat) : Int), (7 : Int), y.2.1, (⟨#[]⟩, ⟨#[]⟩, ()), y.2.2.2.2.1, ()), (0 : Int))
  else bif (decide (y.2.2.1 = (0 : Int))) then bif (decide (((m.1.len : Nat) : Int) ≤ y.2.2.2.1)) then ((((i : Nat) : Int), (0 : Int), y.2.1, (⟨#[]⟩, ⟨#[]⟩, ()), y.2.2.2.2.1, ()), (7 : Int))
  else ((((i : Nat) : Int), (1 : Int), y.2.1, (m.1.list.getD (y.2.2.2.1).toNat zMFt), y.2.2.2.2.1, ()), (0 : Int))
  else ((((i : Nat) : Int), (0 : Int), y.2.1, (⟨#[]⟩, ⟨#[]⟩, ()), y.2.2.2.2.1, ()), (42 : Int))

set_option maxHeartbeats 1000000 in
set_option maxRecDepth 100000 in
theorem want_any (m : MMd) (y : MImp) (i : Nat) (w : World) (hT : RdS 2 vMFt w m.1.at' m.1.list) (hI : RdS 9 vMImp w m.2.1.at' m.2.1.list) (hy : m.2.1.list[i]? = some y) (hyt : 0 ≤ y.2.2.2.1 ∧ y.2.2.2.1 < 4294967296) (hTl : m.1.len ≤ 4398046510976) (hIl : m.2.1.len ≤ 2513169434843) : Calls Try.prog 68 #[(.agg #[(.slice m.1.at' m.1.len m.1.cap), (.slice m.2.1.at' m.2.1.len m.2.1.cap), (.slice m.2.2.1.at' m.2.2.1.len m.2.2.1.cap), (.slice m.2.2.2.1.at' m.2.2.2.1.len m.2.2.2.1.cap), (.slice m.2.2.2.2.1.at' m.2.2.2.2.1.len m.2.2.2.2.1.cap), (.slice m.2.2.2.2.2.1.at' m.2.2.2.2.2.1.len m.2.2.2.2.2.1.cap), (.slice m.2.2.2.2.2.2.1.at' m.2.2.2.2.2.2.1.len m.2.2.2.2.2.2.1.cap), (.int .i64 m.2.2.2.2.2.2.2.1), (.slice m.2.2.2.2.2.2.2.2.1.at' m.2.2.2.2.2.2.2.2.1.len m.2.2.2.2.2.2.2.2.1.cap), (.slice m.2.2.2.2.2.2.2.2.2.1.at' m.2.2.2.2.2.2.2.2.2.1.len m.2.2.2.2.2.2.2.2.2.1.cap), (.slice m.2.2.2.2.2.2.2.2.2.2.1.at' m.2.2.2.2.2.2.2.2.2.2.1.len m.2.2.2.2.2.2.2.2.2.2.1.cap), (.bool m.2.2.2.2.2.2.2.2.2.2.2.1.1), (.int .u32 m.2.2.2.2.2.2.2.2.2.2.2.1.2.1), (.int .u32 m.2.2.2.2.2.2.2.2.2.2.2.1.2.2.1), (.int .u32 m.2.2.2.2.2.2.2.2.2.2.2.1.2.2.2.1), (.int .u32 m.2.2.2.2.2.2.2.2.2.2.2.1.2.2.2.2.1), (.slice m.2.2.2.2.2.2.2.2.2.2.2.1.2.2.2.2.2.1.at' m.2.2.2.2.2.2.2.2.2.2.2.1.2.2.2.2.2.1.len m.2.2.2.2.2.2.2.2.2.2.2.1.2.2.2.2.2.1.cap)]), (.int .i64 ((i : Nat) : Int))] w fun e w' => e = .returned (.tuple #[(.agg #[(.int .i64 ((wantP m y i).1.1)), (.int .i64 ((wantP m y i).1.2.1)), (.string (wantP m y i).1.2.2.1), (.string (wantP m y i).1.2.2.2.1.1), (.string (wantP m y i).1.2.2.2.1.2.1), (.int .u32 ((wantP m y i).1.2.2.2.2.1.1)), (.int .u32 ((wantP m y i).1.2.2.2.2.1.2.1)), (.bool (wantP m y i).1.2.2.2.2.1.2.2.1)]), (.int .i64 ((wantP m y i).2))]) ∧ Below w.heap.size w w' := by
  have hil : i < m.2.1.len := by have := (List.getElem?_eq_some_iff.1 hy).1; rwa [Sl.list_length] at this
  refine sx_enter (L := [(0, (.agg #[(.slice m.1.at' m.1.len m.1.cap), (.slice m.2.1.at' m.2.1.len m.2.1.cap), (.slice m.2.2.1.at' m.2.2.1.len m.2.2.1.cap), (.slice m.2.2.2.1.at' m.2.2.2.1.len m.2.2.2.1.cap), (.slice m.2.2.2.2.1.at' m.2.2.2.2.1.len m.2.2.2.2.1.cap), (.slice m.2.2.2.2.2.1.at' m.2.2.2.2.2.1.len m.2.2.2.2.2.1.cap), (.slice m.2.2.2.2.2.2.1.at' m.2.2.2.2.2.2.1.len m.2.2.2.2.2.2.1.cap), (.int .i64 m.2.2.2.2.2.2.2.1), (.slice m.2.2.2.2.2.2.2.2.1.at' m.2.2.2.2.2.2.2.2.1.len m.2.2.2.2.2.2.2.2.1.cap), (.slice m.2.2.2.2.2.2.2.2.2.1.at' m.2.2.2.2.2.2.2.2.2.1.len m.2.2.2.2.2.2.2.2.2.1.cap), (.slice m.2.2.2.2.2.2.2.2.2.2.1.at' m.2.2.2.2.2.2.2.2.2.2.1.len m.2.2.2.2.2.2.2.2.2.2.1.cap), (.bool m.2.2.2.2.2.2.2.2.2.2.2.1.1), (.int .u32 m.2.2.2.2.2.2.2.2.2.2.2.1.2.1), (.int .u32 m.2.2.2.2.2.2.2.2.2.2.2.1.2.2.1), (.int .u32 m.2.2.2.2.2.2.2.2.2.2.2.1.2.2.2.1), (.int .u32 m.2.2.2.2.2.2.2.2.2.2.2.1.2.2.2.2.1), (.slice m.2.2.2.2.2.2.2.2.2.2.2.1.2.2.2.2.2.1.at' m.2.2.2.2.2.2.2.2.2.2.2.1.2.2.2.2.2.1.len m.2.2.2.2.2.2.2.2.2.2.2.1.2.2.2.2.2.1.cap)])), (1, (.int .i64 ((i : Nat) : Int)))]) Try.func68 rfl rfl rfl rfl (fun fa hf => ?_)
  have hb : Below w.heap.size w w := Below.refl _ _
  refine wp_seq_k (fun K1 hK1 => ?_)
  refine wp_region_lit ?_
  refine sqdt hf (d_box (cs := #[(.slice m.1.at' m.1.len m.1.cap), (.slice m.2.1.at' m.2.1.len m.2.1.cap), (.slice m.2.2.1.at' m.2.2.1.len m.2.2.1.cap), (.slice m.2.2.2.1.at' m.2.2.2.1.len m.2.2.2.1.cap), (.slice m.2.2.2.2.1.at' m.2.2.2.2.1.len m.2.2.2.2.1.cap), (.slice m.2.2.2.2.2.1.at' m.2.2.2.2.2.1.len m.2.2.2.2.2.1.cap), (.slice m.2.2.2.2.2.2.1.at' m.2.2.2.2.2.2.1.len m.2.2.2.2.2.2.1.cap), (.int .i64 m.2.2.2.2.2.2.2.1), (.slice m.2.2.2.2.2.2.2.2.1.at' m.2.2.2.2.2.2.2.2.1.len m.2.2.2.2.2.2.2.2.1.cap), (.slice m.2.2.2.2.2.2.2.2.2.1.at' m.2.2.2.2.2.2.2.2.2.1.len m.2.2.2.2.2.2.2.2.2.1.cap), (.slice m.2.2.2.2.2.2.2.2.2.2.1.at' m.2.2.2.2.2.2.2.2.2.2.1.len m.2.2.2.2.2.2.2.2.2.2.1.cap), (.bool m.2.2.2.2.2.2.2.2.2.2.2.1.1), (.int .u32 m.2.2.2.2.2.2.2.2.2.2.2.1.2.1), (.int .u32 m.2.2.2.2.2.2.2.2.2.2.2.1.2.2.1), (.int .u32 m.2.2.2.2.2.2.2.2.2.2.2.1.2.2.2.1), (.int .u32 m.2.2.2.2.2.2.2.2.2.2.2.1.2.2.2.2.1), (.slice m.2.2.2.2.2.2.2.2.2.2.2.1.2.2.2.2.2.1.at' m.2.2.2.2.2.2.2.2.2.2.2.1.2.2.2.2.2.1.len m.2.2.2.2.2.2.2.2.2.2.2.1.2.2.2.2.2.1.cap)]) rfl rfl) rfl rfl rfl ?_; clear hf fa; rintro fa _ w1 ⟨b1, rfl, hle1, hk1, he1⟩ hf
  have hBb1 : w.heap.size ≤ b1 := Nat.le_trans hb.size hle1
  replace hb := hb.trans (Below.mono he1 hb.size)
  refine sqdt hf (d_alloc (z := (.agg #[(.int .i64 (0 : Int)), (.int .i64 (0 : Int)), (.string ⟨#[]⟩), (.string ⟨#[]⟩), (.string ⟨#[]⟩), (.int .u32 (0 : Int)), (.int .u32 (0 : Int)), (.bool false)])) (cs := #[(.int .i64 (0 : Int)), (.int .i64 (0 : Int)), (.string ⟨#[]⟩), (.string ⟨#[]⟩), (.string ⟨#[]⟩), (.int .u32 (0 : Int)), (.int .u32 (0 : Int)), (.bool false)]) (by kernel_rfl) rfl) rfl rfl rfl ?_; clear hf fa; rintro fa _ w2 ⟨b2, rfl, hle2, hk2, he2⟩ hf
  have hBb2 : w.heap.size ≤ b2 := Nat.le_trans hb.size hle2
  have : b1 < b2 := Nat.lt_of_lt_of_le (blk_lt hk1) hle2
  replace hk1 := blk_ext hk1 he2
  replace hb := hb.trans (Below.mono he2 hb.size)
  refine sqv hf (r_assign rfl) rfl rfl rfl ?_; clear hf fa; intro fa hf
  apply wpList_nil
  (try simp only [Exit.then, Exit.inBlock, ↓reduceIte, Nat.reduceEqDiff])
  refine hK1 _ _ ?_
  refine wp_seq_k (fun K2 hK2 => ?_)
  refine wp_region_lit ?_
  refine sqv hf (r_fa rfl Try.underlying67 (f := 1) (q := 1) rfl (by kernel_rfl) rfl) rfl rfl rfl ?_; clear hf fa; intro fa hf
  refine sqv hf (r_load (v := (.slice m.2.1.at' m.2.1.len m.2.1.cap)) rfl Try.underlying57 rfl (cell_blk hk1 rfl)) rfl rfl rfl ?_; clear hf fa; intro fa hf
  refine sqv hf (r_move rfl) rfl rfl rfl ?_; clear hf fa; intro fa hf
  have hy1 : (m.2.1.list)[i]? = some y := hy
  obtain ⟨ab1, aoff1, hat1, hlb1, hel1⟩ := RdS.at hI hy1
  refine sqv hf (r_ixa (sz := 9) (j := i) (evAt rfl hat1) rfl Try.underlying57 (by kernel_rfl) rfl (by omega) rfl) rfl rfl rfl ?_; clear hf fa; intro fa hf
  refine sqv hf (r_loadA (cs := [(.string y.1), (.string y.2.1), (.int .u8 y.2.2.1), (.int .u32 y.2.2.2.1), (.int .u32 y.2.2.2.2.1.1), (.int .u32 y.2.2.2.2.1.2.1), (.bool y.2.2.2.2.1.2.2.1), (.int .u8 y.2.2.2.2.2.1.1), (.bool y.2.2.2.2.2.1.2.1)]) rfl Try.underlying103 rfl (by kernel_rfl) (cellsAt_below hel1 hb hlb1)) rfl rfl rfl ?_; clear hf fa; intro fa hf
  refine sqdt hf (d_alloc (z := (.agg #[(.string ⟨#[]⟩), (.string ⟨#[]⟩), (.int .u8 (0 : Int)), (.int .u32 (0 : Int)), (.int .u32 (0 : Int)), (.int .u32 (0 : Int)), (.bool false), (.int .u8 (0 : Int)), (.bool false)])) (cs := #[(.string ⟨#[]⟩), (.string ⟨#[]⟩), (.int .u8 (0 : Int)), (.int .u32 (0 : Int)), (.int .u32 (0 : Int)), (.int .u32 (0 : Int)), (.bool false), (.int .u8 (0 : Int)), (.bool false)]) (by kernel_rfl) rfl) rfl rfl rfl ?_; clear hf fa; rintro fa _ w3 ⟨b3, rfl, hle3, hk3, he3⟩ hf
  have hBb3 : w.heap.size ≤ b3 := Nat.le_trans hb.size hle3
  have : b1 < b3 := Nat.lt_of_lt_of_le (blk_lt hk1) hle3
  have : b2 < b3 := Nat.lt_of_lt_of_le (blk_lt hk2) hle3
  replace hk1 := blk_ext hk1 he3
  replace hk2 := blk_ext hk2 he3
  replace hb := hb.trans (Below.mono he3 hb.size)
  refine sqn hf (d_storeK (T := 103) (v := (.agg #[(.string y.1), (.string y.2.1), (.int .u8 y.2.2.1), (.int .u32 y.2.2.2.1), (.int .u32 y.2.2.2.2.1.1), (.int .u32 y.2.2.2.2.1.2.1), (.bool y.2.2.2.2.1.2.2.1), (.int .u8 y.2.2.2.2.2.1.1), (.bool y.2.2.2.2.2.1.2.1)])) (cs := #[(.string ⟨#[]⟩), (.string ⟨#[]⟩), (.int .u8 (0 : Int)), (.int .u32 (0 : Int)), (.int .u32 (0 : Int)), (.int .u32 (0 : Int)), (.bool false), (.int .u8 (0 : Int)), (.bool false)]) (cs' := #[(.string y.1), (.string y.2.1), (.int .u8 y.2.2.1), (.int .u32 y.2.2.2.1), (.int .u32 y.2.2.2.2.1.1), (.int .u32 y.2.2.2.2.1.2.1), (.bool y.2.2.2.2.1.2.2.1), (.int .u8 y.2.2.2.2.2.1.1), (.bool y.2.2.2.2.2.1.2.1)]) rfl rfl (by kernel_rfl) (by kernel_rfl) hk3 (by kernel_rfl) (by kernel_rfl)) rfl rfl ?_; clear hf fa; rintro fa _ w4 ⟨hk4, hg1⟩ hf
  replace hk1 := blk_grown hk1 hg1 (by omega)
  replace hk2 := blk_grown hk2 hg1 (by omega)
  replace hb := hb.trans (grown_below hg1 hb.size hBb3)
  apply wpList_nil
  (try simp only [Exit.then, Exit.inBlock, ↓reduceIte, Nat.reduceEqDiff])
  refine hK2 _ _ ?_
  refine wp_seq_k (fun K3 hK3 => ?_)
  refine wp_region_lit ?_
  refine sqv hf (r_move rfl) rfl rfl rfl ?_; clear hf fa; intro fa hf
  refine sqv hf (r_fa rfl Try.underlying103 (f := 1) (q := 1) rfl (by kernel_rfl) rfl) rfl rfl rfl ?_; clear hf fa; intro fa hf
  refine sqv hf (r_load (v := (.string y.2.1)) rfl Try.underlying9 rfl (cell_blk hk4 rfl)) rfl rfl rfl ?_; clear hf fa; intro fa hf
  refine sqv hf (r_fa rfl Try.underlying103 (f := 4) (q := 4) rfl (by kernel_rfl) rfl) rfl rfl rfl ?_; clear hf fa; intro fa hf
  refine sqv hf (r_loadA (cs := [(.int .u32 y.2.2.2.2.1.1), (.int .u32 y.2.2.2.2.1.2.1), (.bool y.2.2.2.2.1.2.2.1)]) rfl Try.underlying76 rfl (by kernel_rfl) (cellsAt_part (d := 4) (n := 3) (cellsAt_blk hk4) rfl rfl)) rfl rfl rfl ?_; clear hf fa; intro fa hf
  refine sqv hf (r_build (vs := [(0, (.int .i64 ((i : Nat) : Int))), (2, (.string y.2.1)), (4, (.agg #[(.int .u32 y.2.2.2.2.1.1), (.int .u32 y.2.2.2.2.1.2.1), (.bool y.2.2.2.2.1.2.2.1)]))]) (cs := #[(.int .i64 ((i : Nat) : Int)), (.int .i64 (0 : Int)), (.string y.2.1), (.string ⟨#[]⟩), (.string ⟨#[]⟩), (.int .u32 y.2.2.2.2.1.1), (.int .u32 y.2.2.2.2.1.2.1), (.bool y.2.2.2.2.1.2.2.1)]) rfl (fun _ => by kernel_rfl)) rfl rfl rfl ?_; clear hf fa; intro fa hf
  refine sqdt hf (d_alloc (z := (.agg #[(.int .i64 (0 : Int)), (.int .i64 (0 : Int)), (.string ⟨#[]⟩), (.string ⟨#[]⟩), (.string ⟨#[]⟩), (.int .u32 (0 : Int)), (.int .u32 (0 : Int)), (.bool false)])) (cs := #[(.int .i64 (0 : Int)), (.int .i64 (0 : Int)), (.string ⟨#[]⟩), (.string ⟨#[]⟩), (.string ⟨#[]⟩), (.int .u32 (0 : Int)), (.int .u32 (0 : Int)), (.bool false)]) (by kernel_rfl) rfl) rfl rfl rfl ?_; clear hf fa; rintro fa _ w5 ⟨b4, rfl, hle4, hk5, he4⟩ hf
  have hBb4 : w.heap.size ≤ b4 := Nat.le_trans hb.size hle4
  have : b1 < b4 := Nat.lt_of_lt_of_le (blk_lt hk1) hle4
  have : b2 < b4 := Nat.lt_of_lt_of_le (blk_lt hk2) hle4
  have : b3 < b4 := Nat.lt_of_lt_of_le (blk_lt hk4) hle4
  replace hk1 := blk_ext hk1 he4
  replace hk2 := blk_ext hk2 he4
  replace hk4 := blk_ext hk4 he4
  replace hb := hb.trans (Below.mono he4 hb.size)
  refine sqn hf (d_storeK (T := 80) (v := (.agg #[(.int .i64 ((i : Nat) : Int)), (.int .i64 (0 : Int)), (.string y.2.1), (.string ⟨#[]⟩), (.string ⟨#[]⟩), (.int .u32 y.2.2.2.2.1.1), (.int .u32 y.2.2.2.2.1.2.1), (.bool y.2.2.2.2.1.2.2.1)])) (cs := #[(.int .i64 (0 : Int)), (.int .i64 (0 : Int)), (.string ⟨#[]⟩), (.string ⟨#[]⟩), (.string ⟨#[]⟩), (.int .u32 (0 : Int)), (.int .u32 (0 : Int)), (.bool false)]) (cs' := #[(.int .i64 ((i : Nat) : Int)), (.int .i64 (0 : Int)), (.string y.2.1), (.string ⟨#[]⟩), (.string ⟨#[]⟩), (.int .u32 y.2.2.2.2.1.1), (.int .u32 y.2.2.2.2.1.2.1), (.bool y.2.2.2.2.1.2.2.1)]) rfl rfl (by kernel_rfl) (by kernel_rfl) hk5 (by kernel_rfl) (by kernel_rfl)) rfl rfl ?_; clear hf fa; rintro fa _ w6 ⟨hk6, hg2⟩ hf
  replace hk1 := blk_grown hk1 hg2 (by omega)
  replace hk2 := blk_grown hk2 hg2 (by omega)
  replace hk4 := blk_grown hk4 hg2 (by omega)
  replace hb := hb.trans (grown_below hg2 hb.size hBb4)
  apply wpList_nil
  (try simp only [Exit.then, Exit.inBlock, ↓reduceIte, Nat.reduceEqDiff])
  refine hK3 _ _ ?_
  refine wp_seq_k (fun K4 hK4 => ?_)
  refine wp_block ?_
  refine wp_seq_k (fun K5 hK5 => ?_)
  refine wp_region_lit ?_
  refine sqv hf (r_fa rfl Try.underlying103 (f := 2) (q := 2) rfl (by kernel_rfl) rfl) rfl rfl rfl ?_; clear hf fa; intro fa hf
  refine sqv hf (r_load (v := (.int .u8 y.2.2.1)) rfl Try.underlying5 rfl (cell_blk hk4 rfl)) rfl rfl rfl ?_; clear hf fa; intro fa hf
  refine sqv hf (r_eq rfl rfl) rfl rfl rfl ?_; clear hf fa; intro fa hf
  refine sqv hf (r_assign rfl) rfl rfl rfl ?_; clear hf fa; intro fa hf
  apply wpList_nil
  (try simp only [Exit.then, Exit.inBlock, ↓reduceIte, Nat.reduceEqDiff])
  refine hK5 _ _ ?_
  refine wp_cond_split (t := (decide (y.2.2.1 = (3 : Int)))) (hf.ev rfl) (fun hqt22_1 => ?_) (fun hqt22_1 => ?_)
  · have hqt22_1b := hqt22_1
    try simp only [decide_eq_true_eq, Bool.and_eq_true, Bool.or_eq_true, Bool.not_eq_true', decide_eq_false_iff_not, ne_eq, Bool.not_eq_true] at hqt22_1
    refine wp_seq_k (fun K6 hK6 => ?_)
    refine wp_region_lit ?_
    refine sqv hf (r_loadA (cs := [(.string y.1), (.string y.2.1), (.int .u8 y.2.2.1), (.int .u32 y.2.2.2.1), (.int .u32 y.2.2.2.2.1.1), (.int .u32 y.2.2.2.2.1.2.1), (.bool y.2.2.2.2.1.2.2.1), (.int .u8 y.2.2.2.2.2.1.1), (.bool y.2.2.2.2.2.1.2.1)]) rfl Try.underlying103 rfl (by kernel_rfl) (cellsAt_blk hk4)) rfl rfl rfl ?_; clear hf fa; intro fa hf
    refine sqdt hf (d_callB (vs := [(.agg #[(.string y.1), (.string y.2.1), (.int .u8 y.2.2.1), (.int .u32 y.2.2.2.1), (.int .u32 y.2.2.2.2.1.1), (.int .u32 y.2.2.2.2.1.2.1), (.bool y.2.2.2.2.1.2.2.1), (.int .u8 y.2.2.2.2.2.1.1), (.bool y.2.2.2.2.2.1.2.1)])]) rfl Try.func91 (by kernel_rfl) (by kernel_rfl) (global_any y _)) rfl rfl rfl ?_; clear hf fa; rintro fa _ w7 ⟨rfl, he5⟩ hf
    replace hk1 := blk_ext hk1 he5
    replace hk2 := blk_ext hk2 he5
    replace hk4 := blk_ext hk4 he5
    replace hk6 := blk_ext hk6 he5
    replace hb := hb.trans (Below.mono he5 hb.size)
    refine sqv hf (r_move rfl) rfl rfl rfl ?_; clear hf fa; intro fa hf
    refine sqv hf (r_extract rfl (i := 0) rfl) rfl rfl rfl ?_; clear hf fa; intro fa hf
    refine sqv hf (r_extract rfl (i := 1) rfl) rfl rfl rfl ?_; clear hf fa; intro fa hf
    refine sqv hf (r_assign rfl) rfl rfl rfl ?_; clear hf fa; intro fa hf
    refine sqv hf (r_assign rfl) rfl rfl rfl ?_; clear hf fa; intro fa hf
    apply wpList_nil
    (try simp only [Exit.then, Exit.inBlock, ↓reduceIte, Nat.reduceEqDiff])
    refine hK6 _ _ ?_
    refine wp_seq_k (fun K7 hK7 => ?_)
    refine wp_region_lit ?_
    refine sqv hf (r_move rfl) rfl rfl rfl ?_; clear hf fa; intro fa hf
    refine sqv hf (r_fa rfl Try.underlying80 (f := 1) (q := 1) rfl (by kernel_rfl) rfl) rfl rfl rfl ?_; clear hf fa; intro fa hf
    refine sqn hf (d_storeK (T := 80) (v := (.int .i64 ((globalP y).1))) (cs := #[(.int .i64 ((i : Nat) : Int)), (.int .i64 (0 : Int)), (.string y.2.1), (.string ⟨#[]⟩), (.string ⟨#[]⟩), (.int .u32 y.2.2.2.2.1.1), (.int .u32 y.2.2.2.2.1.2.1), (.bool y.2.2.2.2.1.2.2.1)]) (cs' := #[(.int .i64 ((i : Nat) : Int)), (.int .i64 ((globalP y).1)), (.string y.2.1), (.string ⟨#[]⟩), (.string ⟨#[]⟩), (.int .u32 y.2.2.2.2.1.1), (.int .u32 y.2.2.2.2.1.2.1), (.bool y.2.2.2.2.1.2.2.1)]) rfl rfl (by kernel_rfl) (by kernel_rfl) hk6 (by kernel_rfl) (by kernel_rfl)) rfl rfl ?_; clear hf fa; rintro fa _ w8 ⟨hk7, hg3⟩ hf
    replace hk1 := blk_grown hk1 hg3 (by omega)
    replace hk2 := blk_grown hk2 hg3 (by omega)
    replace hk4 := blk_grown hk4 hg3 (by omega)
    replace hb := hb.trans (grown_below hg3 hb.size hBb4)
    apply wpList_nil
    (try simp only [Exit.then, Exit.inBlock, ↓reduceIte, Nat.reduceEqDiff])
    refine hK7 _ _ ?_
    refine wp_seq_k (fun K8 hK8 => ?_)
    refine wp_region_lit ?_
    refine sqv hf (r_loadA (cs := [(.int .i64 ((i : Nat) : Int)), (.int .i64 ((globalP y).1)), (.string y.2.1), (.string ⟨#[]⟩), (.string ⟨#[]⟩), (.int .u32 y.2.2.2.2.1.1), (.int .u32 y.2.2.2.2.1.2.1), (.bool y.2.2.2.2.1.2.2.1)]) rfl Try.underlying80 rfl (by kernel_rfl) (cellsAt_blk hk7)) rfl rfl rfl ?_; clear hf fa; intro fa hf
    refine sqv hf (r_move rfl) rfl rfl rfl ?_; clear hf fa; intro fa hf
    refine sqn hf (d_storeK (T := 80) (v := (.agg #[(.int .i64 ((i : Nat) : Int)), (.int .i64 ((globalP y).1)), (.string y.2.1), (.string ⟨#[]⟩), (.string ⟨#[]⟩), (.int .u32 y.2.2.2.2.1.1), (.int .u32 y.2.2.2.2.1.2.1), (.bool y.2.2.2.2.1.2.2.1)])) (cs := #[(.int .i64 (0 : Int)), (.int .i64 (0 : Int)), (.string ⟨#[]⟩), (.string ⟨#[]⟩), (.string ⟨#[]⟩), (.int .u32 (0 : Int)), (.int .u32 (0 : Int)), (.bool false)]) (cs' := #[(.int .i64 ((i : Nat) : Int)), (.int .i64 ((globalP y).1)), (.string y.2.1), (.string ⟨#[]⟩), (.string ⟨#[]⟩), (.int .u32 y.2.2.2.2.1.1), (.int .u32 y.2.2.2.2.1.2.1), (.bool y.2.2.2.2.1.2.2.1)]) rfl rfl (by kernel_rfl) (by kernel_rfl) hk2 (by kernel_rfl) (by kernel_rfl)) rfl rfl ?_; clear hf fa; rintro fa _ w9 ⟨hk8, hg4⟩ hf
    replace hk1 := blk_grown hk1 hg4 (by omega)
    replace hk4 := blk_grown hk4 hg4 (by omega)
    replace hk7 := blk_grown hk7 hg4 (by omega)
    replace hb := hb.trans (grown_below hg4 hb.size hBb2)
    refine sqv hf (r_assign rfl) rfl rfl rfl ?_; clear hf fa; intro fa hf
    apply wpList_nil
    (try simp only [Exit.then, Exit.inBlock, ↓reduceIte, Nat.reduceEqDiff])
    refine hK8 _ _ ?_
    refine wp_ret ?_
    (try simp only [Exit.then, Exit.inBlock])
    refine retCT hf rfl rfl hk8 Try.underlying80 rfl (by kernel_rfl) rfl ?_
    refine ⟨?_, hb⟩; unfold wantP; rw [hqt22_1b]; (try rfl)
  · have hqt22_1b := hqt22_1
    replace hqt22_1 := Bool.eq_false_iff.1 hqt22_1
    try simp only [ne_eq, decide_eq_true_eq, Bool.and_eq_true, Bool.or_eq_true, Bool.not_eq_true', decide_eq_false_iff_not] at hqt22_1
    refine wp_seq_k (fun K9 hK9 => ?_)
    refine wp_region_lit ?_
    refine sqv hf (r_fa rfl Try.underlying103 (f := 0) (q := 0) rfl (by kernel_rfl) rfl) rfl rfl rfl ?_; clear hf fa; intro fa hf
    refine sqv hf (r_load (v := (.string y.1)) rfl Try.underlying9 rfl (cell_blk hk4 rfl)) rfl rfl rfl ?_; clear hf fa; intro fa hf
    refine sqv hf (r_sne rfl rfl) rfl rfl rfl ?_; clear hf fa; intro fa hf
    refine sqv hf (r_assign rfl) rfl rfl rfl ?_; clear hf fa; intro fa hf
    apply wpList_nil
    (try simp only [Exit.then, Exit.inBlock, ↓reduceIte, Nat.reduceEqDiff])
    refine hK9 _ _ ?_
    refine wp_cond_split (t := (decide (y.1 ≠ ⟨#[101, 110, 118]⟩))) (hf.ev rfl) (fun hqt35_1 => ?_) (fun hqt35_1 => ?_)
    · have hqt35_1b := hqt35_1
      try simp only [decide_eq_true_eq, Bool.and_eq_true, Bool.or_eq_true, Bool.not_eq_true', decide_eq_false_iff_not, ne_eq, Bool.not_eq_true] at hqt35_1
      refine wp_seq_k (fun K10 hK10 => ?_)
      refine wp_region_lit ?_
      refine sqv hf (r_loadA (cs := [(.int .i64 ((i : Nat) : Int)), (.int .i64 (0 : Int)), (.string y.2.1), (.string ⟨#[]⟩), (.string ⟨#[]⟩), (.int .u32 y.2.2.2.2.1.1), (.int .u32 y.2.2.2.2.1.2.1), (.bool y.2.2.2.2.1.2.2.1)]) rfl Try.underlying80 rfl (by kernel_rfl) (cellsAt_blk hk6)) rfl rfl rfl ?_; clear hf fa; intro fa hf
      refine sqn hf (d_storeK (T := 80) (v := (.agg #[(.int .i64 ((i : Nat) : Int)), (.int .i64 (0 : Int)), (.string y.2.1), (.string ⟨#[]⟩), (.string ⟨#[]⟩), (.int .u32 y.2.2.2.2.1.1), (.int .u32 y.2.2.2.2.1.2.1), (.bool y.2.2.2.2.1.2.2.1)])) (cs := #[(.int .i64 (0 : Int)), (.int .i64 (0 : Int)), (.string ⟨#[]⟩), (.string ⟨#[]⟩), (.string ⟨#[]⟩), (.int .u32 (0 : Int)), (.int .u32 (0 : Int)), (.bool false)]) (cs' := #[(.int .i64 ((i : Nat) : Int)), (.int .i64 (0 : Int)), (.string y.2.1), (.string ⟨#[]⟩), (.string ⟨#[]⟩), (.int .u32 y.2.2.2.2.1.1), (.int .u32 y.2.2.2.2.1.2.1), (.bool y.2.2.2.2.1.2.2.1)]) rfl rfl (by kernel_rfl) (by kernel_rfl) hk2 (by kernel_rfl) (by kernel_rfl)) rfl rfl ?_; clear hf fa; rintro fa _ w10 ⟨hk9, hg5⟩ hf
      replace hk1 := blk_grown hk1 hg5 (by omega)
      replace hk4 := blk_grown hk4 hg5 (by omega)
      replace hk6 := blk_grown hk6 hg5 (by omega)
      replace hb := hb.trans (grown_below hg5 hb.size hBb2)
      refine sqv hf (r_assign rfl) rfl rfl rfl ?_; clear hf fa; intro fa hf
      apply wpList_nil
      (try simp only [Exit.then, Exit.inBlock, ↓reduceIte, Nat.reduceEqDiff])
      refine hK10 _ _ ?_
      refine wp_ret ?_
      (try simp only [Exit.then, Exit.inBlock])
      refine retCT hf rfl rfl hk9 Try.underlying80 rfl (by kernel_rfl) rfl ?_
      refine ⟨?_, hb⟩; unfold wantP; rw [hqt22_1b, hqt35_1b]; (try rfl)
    · have hqt35_1b := hqt35_1
      replace hqt35_1 := Bool.eq_false_iff.1 hqt35_1
      try simp only [ne_eq, decide_eq_true_eq, Bool.and_eq_true, Bool.or_eq_true, Bool.not_eq_true', decide_eq_false_iff_not] at hqt35_1
      refine wp_seq_k (fun K11 hK11 => ?_)
      refine wp_region_lit ?_
      refine sqv hf (r_fa rfl Try.underlying103 (f := 2) (q := 2) rfl (by kernel_rfl) rfl) rfl rfl rfl ?_; clear hf fa; intro fa hf
      refine sqv hf (r_load (v := (.int .u8 y.2.2.1)) rfl Try.underlying5 rfl (cell_blk hk4 rfl)) rfl rfl rfl ?_; clear hf fa; intro fa hf
      refine sqv hf (r_eq rfl rfl) rfl rfl rfl ?_; clear hf fa; intro fa hf
      refine sqv hf (r_move rfl) rfl rfl rfl ?_; clear hf fa; intro fa hf
      refine sqgT (act := (decide (y.2.2.1 = (2 : Int)))) (ag := true) (c := (decide (y.2.2.1 = (2 : Int)))) (v := (.pointer (some ⟨b3, 1, none⟩))) hf rfl rfl rfl (fun hact => (r_fa rfl Try.underlying103 (f := 1) (q := 1) rfl (by kernel_rfl) rfl)) rfl rfl ?_; clear hf fa; intro fa hf
      refine sqgT (act := (decide (y.2.2.1 = (2 : Int)))) (ag := true) (c := (decide (y.2.2.1 = (2 : Int)))) (v := (.string y.2.1)) hf rfl rfl rfl (fun hact => (r_load (v := (.string y.2.1)) (gb_ev hact rfl) Try.underlying9 rfl (cell_blk hk4 rfl))) rfl rfl ?_; clear hf fa; intro fa hf
      refine sqgT (act := (decide (y.2.2.1 = (2 : Int)))) (ag := true) (c := (decide (y.2.2.1 = (2 : Int)))) (v := (.bool (decide (y.2.1 = ⟨#[109, 101, 109, 111, 114, 121]⟩)))) hf rfl rfl rfl (fun hact => (r_seq (gb_ev hact rfl) rfl)) rfl rfl ?_; clear hf fa; intro fa hf
      refine sqv hf (r_pickA (b := (decide (y.2.2.1 = (2 : Int)))) (e := (decide (y.2.1 = ⟨#[109, 101, 109, 111, 114, 121]⟩))) rfl rfl rfl) rfl rfl rfl ?_; clear hf fa; intro fa hf
      refine sqv hf (r_assign rfl) rfl rfl rfl ?_; clear hf fa; intro fa hf
      apply wpList_nil
      (try simp only [Exit.then, Exit.inBlock, ↓reduceIte, Nat.reduceEqDiff])
      refine hK11 _ _ ?_
      refine wp_cond_split (t := ((decide (y.2.2.1 = (2 : Int))) && (decide (y.2.1 = ⟨#[109, 101, 109, 111, 114, 121]⟩)))) (hf.ev rfl) (fun hqt40_1 => ?_) (fun hqt40_1 => ?_)
      · have hqt40_1b := hqt40_1
        try simp only [decide_eq_true_eq, Bool.and_eq_true, Bool.or_eq_true, Bool.not_eq_true', decide_eq_false_iff_not, ne_eq, Bool.not_eq_true] at hqt40_1
        refine wp_region_lit ?_
        refine sqv hf (r_fa rfl Try.underlying80 (f := 1) (q := 1) rfl (by kernel_rfl) rfl) rfl rfl rfl ?_; clear hf fa; intro fa hf
        refine sqn hf (d_storeK (T := 80) (v := (.int .i64 (6 : Int))) (cs := #[(.int .i64 ((i : Nat) : Int)), (.int .i64 (0 : Int)), (.string y.2.1), (.string ⟨#[]⟩), (.string ⟨#[]⟩), (.int .u32 y.2.2.2.2.1.1), (.int .u32 y.2.2.2.2.1.2.1), (.bool y.2.2.2.2.1.2.2.1)]) (cs' := #[(.int .i64 ((i : Nat) : Int)), (.int .i64 (6 : Int)), (.string y.2.1), (.string ⟨#[]⟩), (.string ⟨#[]⟩), (.int .u32 y.2.2.2.2.1.1), (.int .u32 y.2.2.2.2.1.2.1), (.bool y.2.2.2.2.1.2.2.1)]) rfl rfl (by kernel_rfl) (by kernel_rfl) hk6 (by kernel_rfl) (by kernel_rfl)) rfl rfl ?_; clear hf fa; rintro fa _ w11 ⟨hk10, hg6⟩ hf
        replace hk1 := blk_grown hk1 hg6 (by omega)
        replace hk2 := blk_grown hk2 hg6 (by omega)
        replace hk4 := blk_grown hk4 hg6 (by omega)
        replace hb := hb.trans (grown_below hg6 hb.size hBb4)
        apply wpList_nil
        (try simp only [Exit.then, Exit.inBlock, ↓reduceIte, Nat.reduceEqDiff])
        refine hK4 _ _ ?_
        refine wp_seq_k (fun K12 hK12 => ?_)
        refine wp_region_lit ?_
        refine sqv hf (r_loadA (cs := [(.int .i64 ((i : Nat) : Int)), (.int .i64 (6 : Int)), (.string y.2.1), (.string ⟨#[]⟩), (.string ⟨#[]⟩), (.int .u32 y.2.2.2.2.1.1), (.int .u32 y.2.2.2.2.1.2.1), (.bool y.2.2.2.2.1.2.2.1)]) rfl Try.underlying80 rfl (by kernel_rfl) (cellsAt_blk hk10)) rfl rfl rfl ?_; clear hf fa; intro fa hf
        refine sqn hf (d_storeK (T := 80) (v := (.agg #[(.int .i64 ((i : Nat) : Int)), (.int .i64 (6 : Int)), (.string y.2.1), (.string ⟨#[]⟩), (.string ⟨#[]⟩), (.int .u32 y.2.2.2.2.1.1), (.int .u32 y.2.2.2.2.1.2.1), (.bool y.2.2.2.2.1.2.2.1)])) (cs := #[(.int .i64 (0 : Int)), (.int .i64 (0 : Int)), (.string ⟨#[]⟩), (.string ⟨#[]⟩), (.string ⟨#[]⟩), (.int .u32 (0 : Int)), (.int .u32 (0 : Int)), (.bool false)]) (cs' := #[(.int .i64 ((i : Nat) : Int)), (.int .i64 (6 : Int)), (.string y.2.1), (.string ⟨#[]⟩), (.string ⟨#[]⟩), (.int .u32 y.2.2.2.2.1.1), (.int .u32 y.2.2.2.2.1.2.1), (.bool y.2.2.2.2.1.2.2.1)]) rfl rfl (by kernel_rfl) (by kernel_rfl) hk2 (by kernel_rfl) (by kernel_rfl)) rfl rfl ?_; clear hf fa; rintro fa _ w12 ⟨hk11, hg7⟩ hf
        replace hk1 := blk_grown hk1 hg7 (by omega)
        replace hk4 := blk_grown hk4 hg7 (by omega)
        replace hk10 := blk_grown hk10 hg7 (by omega)
        replace hb := hb.trans (grown_below hg7 hb.size hBb2)
        refine sqv hf (r_assign rfl) rfl rfl rfl ?_; clear hf fa; intro fa hf
        apply wpList_nil
        (try simp only [Exit.then, Exit.inBlock, ↓reduceIte, Nat.reduceEqDiff])
        refine hK12 _ _ ?_
        refine wp_ret ?_
        (try simp only [Exit.then, Exit.inBlock])
        refine retCT hf rfl rfl hk11 Try.underlying80 rfl (by kernel_rfl) rfl ?_
        refine ⟨?_, hb⟩; unfold wantP; rw [hqt22_1b, hqt35_1b, hqt40_1b]; (try rfl)
      · have hqt40_1b := hqt40_1
        replace hqt40_1 := Bool.eq_false_iff.1 hqt40_1
        try simp only [ne_eq, decide_eq_true_eq, Bool.and_eq_true, Bool.or_eq_true, Bool.not_eq_true', decide_eq_false_iff_not] at hqt40_1
        refine wp_seq_k (fun K13 hK13 => ?_)
        refine wp_region_lit ?_
        refine sqv hf (r_fa rfl Try.underlying103 (f := 2) (q := 2) rfl (by kernel_rfl) rfl) rfl rfl rfl ?_; clear hf fa; intro fa hf
        refine sqv hf (r_load (v := (.int .u8 y.2.2.1)) rfl Try.underlying5 rfl (cell_blk hk4 rfl)) rfl rfl rfl ?_; clear hf fa; intro fa hf
        refine sqv hf (r_eq rfl rfl) rfl rfl rfl ?_; clear hf fa; intro fa hf
        refine sqv hf (r_move rfl) rfl rfl rfl ?_; clear hf fa; intro fa hf
        refine sqgT (act := (decide (y.2.2.1 = (1 : Int)))) (ag := true) (c := (decide (y.2.2.1 = (1 : Int)))) (v := (.pointer (some ⟨b3, 1, none⟩))) hf rfl rfl rfl (fun hact => (r_fa rfl Try.underlying103 (f := 1) (q := 1) rfl (by kernel_rfl) rfl)) rfl rfl ?_; clear hf fa; intro fa hf
        refine sqgT (act := (decide (y.2.2.1 = (1 : Int)))) (ag := true) (c := (decide (y.2.2.1 = (1 : Int)))) (v := (.string y.2.1)) hf rfl rfl rfl (fun hact => (r_load (v := (.string y.2.1)) (gb_ev hact rfl) Try.underlying9 rfl (cell_blk hk4 rfl))) rfl rfl ?_; clear hf fa; intro fa hf
        refine sqgT (act := (decide (y.2.2.1 = (1 : Int)))) (ag := true) (c := (decide (y.2.2.1 = (1 : Int)))) (v := (.bool (decide (y.2.1 = ⟨#[95, 95, 105, 110, 100, 105, 114, 101, 99, 116, 95, 102, 117, 110, 99, 116, 105, 111, 110, 95, 116, 97, 98, 108, 101]⟩)))) hf rfl rfl rfl (fun hact => (r_seq (gb_ev hact rfl) rfl)) rfl rfl ?_; clear hf fa; intro fa hf
        refine sqv hf (r_pickA (b := (decide (y.2.2.1 = (1 : Int)))) (e := (decide (y.2.1 = ⟨#[95, 95, 105, 110, 100, 105, 114, 101, 99, 116, 95, 102, 117, 110, 99, 116, 105, 111, 110, 95, 116, 97, 98, 108, 101]⟩))) rfl rfl rfl) rfl rfl rfl ?_; clear hf fa; intro fa hf
        refine sqv hf (r_assign rfl) rfl rfl rfl ?_; clear hf fa; intro fa hf
        apply wpList_nil
        (try simp only [Exit.then, Exit.inBlock, ↓reduceIte, Nat.reduceEqDiff])
        refine hK13 _ _ ?_
        refine wp_cond_split (t := ((decide (y.2.2.1 = (1 : Int))) && (decide (y.2.1 = ⟨#[95, 95, 105, 110, 100, 105, 114, 101, 99, 116, 95, 102, 117, 110, 99, 116, 105, 111, 110, 95, 116, 97, 98, 108, 101]⟩)))) (hf.ev rfl) (fun hqt50_1 => ?_) (fun hqt50_1 => ?_)
        · have hqt50_1b := hqt50_1
          try simp only [decide_eq_true_eq, Bool.and_eq_true, Bool.or_eq_true, Bool.not_eq_true', decide_eq_false_iff_not, ne_eq, Bool.not_eq_true] at hqt50_1
          refine wp_region_lit ?_
          refine sqv hf (r_fa rfl Try.underlying80 (f := 1) (q := 1) rfl (by kernel_rfl) rfl) rfl rfl rfl ?_; clear hf fa; intro fa hf
          refine sqn hf (d_storeK (T := 80) (v := (.int .i64 (7 : Int))) (cs := #[(.int .i64 ((i : Nat) : Int)), (.int .i64 (0 : Int)), (.string y.2.1), (.string ⟨#[]⟩), (.string ⟨#[]⟩), (.int .u32 y.2.2.2.2.1.1), (.int .u32 y.2.2.2.2.1.2.1), (.bool y.2.2.2.2.1.2.2.1)]) (cs' := #[(.int .i64 ((i : Nat) : Int)), (.int .i64 (7 : Int)), (.string y.2.1), (.string ⟨#[]⟩), (.string ⟨#[]⟩), (.int .u32 y.2.2.2.2.1.1), (.int .u32 y.2.2.2.2.1.2.1), (.bool y.2.2.2.2.1.2.2.1)]) rfl rfl (by kernel_rfl) (by kernel_rfl) hk6 (by kernel_rfl) (by kernel_rfl)) rfl rfl ?_; clear hf fa; rintro fa _ w13 ⟨hk12, hg8⟩ hf
          replace hk1 := blk_grown hk1 hg8 (by omega)
          replace hk2 := blk_grown hk2 hg8 (by omega)
          replace hk4 := blk_grown hk4 hg8 (by omega)
          replace hb := hb.trans (grown_below hg8 hb.size hBb4)
          apply wpList_nil
          (try simp only [Exit.then, Exit.inBlock, ↓reduceIte, Nat.reduceEqDiff])
          refine hK4 _ _ ?_
          refine wp_seq_k (fun K14 hK14 => ?_)
          refine wp_region_lit ?_
          refine sqv hf (r_loadA (cs := [(.int .i64 ((i : Nat) : Int)), (.int .i64 (7 : Int)), (.string y.2.1), (.string ⟨#[]⟩), (.string ⟨#[]⟩), (.int .u32 y.2.2.2.2.1.1), (.int .u32 y.2.2.2.2.1.2.1), (.bool y.2.2.2.2.1.2.2.1)]) rfl Try.underlying80 rfl (by kernel_rfl) (cellsAt_blk hk12)) rfl rfl rfl ?_; clear hf fa; intro fa hf
          refine sqn hf (d_storeK (T := 80) (v := (.agg #[(.int .i64 ((i : Nat) : Int)), (.int .i64 (7 : Int)), (.string y.2.1), (.string ⟨#[]⟩), (.string ⟨#[]⟩), (.int .u32 y.2.2.2.2.1.1), (.int .u32 y.2.2.2.2.1.2.1), (.bool y.2.2.2.2.1.2.2.1)])) (cs := #[(.int .i64 (0 : Int)), (.int .i64 (0 : Int)), (.string ⟨#[]⟩), (.string ⟨#[]⟩), (.string ⟨#[]⟩), (.int .u32 (0 : Int)), (.int .u32 (0 : Int)), (.bool false)]) (cs' := #[(.int .i64 ((i : Nat) : Int)), (.int .i64 (7 : Int)), (.string y.2.1), (.string ⟨#[]⟩), (.string ⟨#[]⟩), (.int .u32 y.2.2.2.2.1.1), (.int .u32 y.2.2.2.2.1.2.1), (.bool y.2.2.2.2.1.2.2.1)]) rfl rfl (by kernel_rfl) (by kernel_rfl) hk2 (by kernel_rfl) (by kernel_rfl)) rfl rfl ?_; clear hf fa; rintro fa _ w14 ⟨hk13, hg9⟩ hf
          replace hk1 := blk_grown hk1 hg9 (by omega)
          replace hk4 := blk_grown hk4 hg9 (by omega)
          replace hk12 := blk_grown hk12 hg9 (by omega)
          replace hb := hb.trans (grown_below hg9 hb.size hBb2)
          refine sqv hf (r_assign rfl) rfl rfl rfl ?_; clear hf fa; intro fa hf
          apply wpList_nil
          (try simp only [Exit.then, Exit.inBlock, ↓reduceIte, Nat.reduceEqDiff])
          refine hK14 _ _ ?_
          refine wp_ret ?_
          (try simp only [Exit.then, Exit.inBlock])
          refine retCT hf rfl rfl hk13 Try.underlying80 rfl (by kernel_rfl) rfl ?_
          refine ⟨?_, hb⟩; unfold wantP; rw [hqt22_1b, hqt35_1b, hqt40_1b, hqt50_1b]; (try rfl)
        · have hqt50_1b := hqt50_1
          replace hqt50_1 := Bool.eq_false_iff.1 hqt50_1
          try simp only [ne_eq, decide_eq_true_eq, Bool.and_eq_true, Bool.or_eq_true, Bool.not_eq_true', decide_eq_false_iff_not] at hqt50_1
          refine wp_seq_k (fun K15 hK15 => ?_)
          refine wp_region_lit ?_
          refine sqv hf (r_fa rfl Try.underlying103 (f := 2) (q := 2) rfl (by kernel_rfl) rfl) rfl rfl rfl ?_; clear hf fa; intro fa hf
          refine sqv hf (r_load (v := (.int .u8 y.2.2.1)) rfl Try.underlying5 rfl (cell_blk hk4 rfl)) rfl rfl rfl ?_; clear hf fa; intro fa hf
          refine sqv hf (r_eq rfl rfl) rfl rfl rfl ?_; clear hf fa; intro fa hf
          refine sqv hf (r_assign rfl) rfl rfl rfl ?_; clear hf fa; intro fa hf
          apply wpList_nil
          (try simp only [Exit.then, Exit.inBlock, ↓reduceIte, Nat.reduceEqDiff])
          refine hK15 _ _ ?_
          refine wp_cond_split (t := (decide (y.2.2.1 = (0 : Int)))) (hf.ev rfl) (fun hqt60_1 => ?_) (fun hqt60_1 => ?_)
          · have hqt60_1b := hqt60_1
            try simp only [decide_eq_true_eq, Bool.and_eq_true, Bool.or_eq_true, Bool.not_eq_true', decide_eq_false_iff_not, ne_eq, Bool.not_eq_true] at hqt60_1
            refine wp_seq_k (fun K16 hK16 => ?_)
            refine wp_seq_k (fun K17 hK17 => ?_)
            refine wp_region_lit ?_
            refine sqv hf (r_fa rfl Try.underlying103 (f := 3) (q := 3) rfl (by kernel_rfl) rfl) rfl rfl rfl ?_; clear hf fa; intro fa hf
            refine sqv hf (r_load (v := (.int .u32 y.2.2.2.1)) rfl Try.underlying44 rfl (cell_blk hk4 rfl)) rfl rfl rfl ?_; clear hf fa; intro fa hf
            refine sqv hf (r_conv (C := y.2.2.2.1) rfl Try.underlying44 Try.underlying36 (by rw [IntKind.wrap_u64]; omega)) rfl rfl rfl ?_; clear hf fa; intro fa hf
            refine sqv hf (r_fa rfl Try.underlying67 (f := 0) (q := 0) rfl (by kernel_rfl) rfl) rfl rfl rfl ?_; clear hf fa; intro fa hf
            refine sqv hf (r_load (v := (.slice m.1.at' m.1.len m.1.cap)) rfl Try.underlying56 rfl (cell_blk hk1 rfl)) rfl rfl rfl ?_; clear hf fa; intro fa hf
            refine sqv hf (r_lensl rfl Try.underlying56) rfl rfl rfl ?_; clear hf fa; intro fa hf
            refine sqv hf (r_conv (C := ((m.1.len : Nat) : Int)) rfl Try.underlying3 Try.underlying36 (by rw [IntKind.wrap_u64]; omega)) rfl rfl rfl ?_; clear hf fa; intro fa hf
            refine sqv hf (r_ge rfl rfl) rfl rfl rfl ?_; clear hf fa; intro fa hf
            apply wpList_nil
            (try simp only [Exit.then, Exit.inBlock, ↓reduceIte, Nat.reduceEqDiff])
            refine hK17 _ _ ?_
            refine wp_cond_split (t := (decide (((m.1.len : Nat) : Int) ≤ y.2.2.2.1))) (hf.ev rfl) (fun hqt71_1 => ?_) (fun hqt71_1 => ?_)
            · have hqt71_1b := hqt71_1
              try simp only [decide_eq_true_eq, Bool.and_eq_true, Bool.or_eq_true, Bool.not_eq_true', decide_eq_false_iff_not, ne_eq, Bool.not_eq_true] at hqt71_1
              refine wp_seq_k (fun K18 hK18 => ?_)
              refine wp_region_lit ?_
              refine sqv hf (r_loadA (cs := [(.int .i64 ((i : Nat) : Int)), (.int .i64 (0 : Int)), (.string y.2.1), (.string ⟨#[]⟩), (.string ⟨#[]⟩), (.int .u32 y.2.2.2.2.1.1), (.int .u32 y.2.2.2.2.1.2.1), (.bool y.2.2.2.2.1.2.2.1)]) rfl Try.underlying80 rfl (by kernel_rfl) (cellsAt_blk hk6)) rfl rfl rfl ?_; clear hf fa; intro fa hf
              refine sqn hf (d_storeK (T := 80) (v := (.agg #[(.int .i64 ((i : Nat) : Int)), (.int .i64 (0 : Int)), (.string y.2.1), (.string ⟨#[]⟩), (.string ⟨#[]⟩), (.int .u32 y.2.2.2.2.1.1), (.int .u32 y.2.2.2.2.1.2.1), (.bool y.2.2.2.2.1.2.2.1)])) (cs := #[(.int .i64 (0 : Int)), (.int .i64 (0 : Int)), (.string ⟨#[]⟩), (.string ⟨#[]⟩), (.string ⟨#[]⟩), (.int .u32 (0 : Int)), (.int .u32 (0 : Int)), (.bool false)]) (cs' := #[(.int .i64 ((i : Nat) : Int)), (.int .i64 (0 : Int)), (.string y.2.1), (.string ⟨#[]⟩), (.string ⟨#[]⟩), (.int .u32 y.2.2.2.2.1.1), (.int .u32 y.2.2.2.2.1.2.1), (.bool y.2.2.2.2.1.2.2.1)]) rfl rfl (by kernel_rfl) (by kernel_rfl) hk2 (by kernel_rfl) (by kernel_rfl)) rfl rfl ?_; clear hf fa; rintro fa _ w15 ⟨hk14, hg10⟩ hf
              replace hk1 := blk_grown hk1 hg10 (by omega)
              replace hk4 := blk_grown hk4 hg10 (by omega)
              replace hk6 := blk_grown hk6 hg10 (by omega)
              replace hb := hb.trans (grown_below hg10 hb.size hBb2)
              refine sqv hf (r_assign rfl) rfl rfl rfl ?_; clear hf fa; intro fa hf
              apply wpList_nil
              (try simp only [Exit.then, Exit.inBlock, ↓reduceIte, Nat.reduceEqDiff])
              refine hK18 _ _ ?_
              refine wp_ret ?_
              (try simp only [Exit.then, Exit.inBlock])
              refine retCT hf rfl rfl hk14 Try.underlying80 rfl (by kernel_rfl) rfl ?_
              refine ⟨?_, hb⟩; unfold wantP; rw [hqt22_1b, hqt35_1b, hqt40_1b, hqt50_1b, hqt60_1b, hqt71_1b]; (try rfl)
            · have hqt71_1b := hqt71_1
              replace hqt71_1 := Bool.eq_false_iff.1 hqt71_1
              try simp only [ne_eq, decide_eq_true_eq, Bool.and_eq_true, Bool.or_eq_true, Bool.not_eq_true', decide_eq_false_iff_not] at hqt71_1
              refine wp_skip ?_
              (try simp only [Exit.then, Exit.inBlock, ↓reduceIte, Nat.reduceEqDiff])
              refine hK16 _ _ ?_
              have hy2 : (m.1.list)[(y.2.2.2.1).toNat]? = some (m.1.list.getD (y.2.2.2.1).toNat zMFt) := (getD_at zMFt (by rw [Sl.list_length]; omega))
              obtain ⟨ab2, aoff2, hat2, hlb2, hel2⟩ := RdS.at hT hy2
              refine wp_region_unT 8 (fun wc => (w6.grownBy wc (some b4) ∧ (wc.heap[b4]? = some (.cells #[(.int .i64 ((i : Nat) : Int)), (.int .i64 (0 : Int)), (.string y.2.1), (.string ⟨#[]⟩), (.string ⟨#[]⟩), (.int .u32 y.2.2.2.2.1.1), (.int .u32 y.2.2.2.2.1.2.1), (.bool y.2.2.2.2.1.2.2.1)] 80 (0, 0)) ∨ wc.heap[b4]? = some (.cells #[(.int .i64 ((i : Nat) : Int)), (.int .i64 (1 : Int)), (.string y.2.1), (.string ⟨#[]⟩), (.string ⟨#[]⟩), (.int .u32 y.2.2.2.2.1.1), (.int .u32 y.2.2.2.2.1.2.1), (.bool y.2.2.2.2.1.2.2.1)] 80 (0, 0))))) (fun wa wc => ((w6.grownBy wa (some b4) ∧ (wa.heap[b4]? = some (.cells #[(.int .i64 ((i : Nat) : Int)), (.int .i64 (0 : Int)), (.string y.2.1), (.string ⟨#[]⟩), (.string ⟨#[]⟩), (.int .u32 y.2.2.2.2.1.1), (.int .u32 y.2.2.2.2.1.2.1), (.bool y.2.2.2.2.1.2.2.1)] 80 (0, 0)) ∨ wa.heap[b4]? = some (.cells #[(.int .i64 ((i : Nat) : Int)), (.int .i64 (1 : Int)), (.string y.2.1), (.string ⟨#[]⟩), (.string ⟨#[]⟩), (.int .u32 y.2.2.2.2.1.1), (.int .u32 y.2.2.2.2.1.2.1), (.bool y.2.2.2.2.1.2.2.1)] 80 (0, 0)))) → (w6.grownBy wc (some b4) ∧ (wc.heap[b4]? = some (.cells #[(.int .i64 ((i : Nat) : Int)), (.int .i64 (0 : Int)), (.string y.2.1), (.string ⟨#[]⟩), (.string ⟨#[]⟩), (.int .u32 y.2.2.2.2.1.1), (.int .u32 y.2.2.2.2.1.2.1), (.bool y.2.2.2.2.1.2.2.1)] 80 (0, 0)) ∨ wc.heap[b4]? = some (.cells #[(.int .i64 ((i : Nat) : Int)), (.int .i64 (1 : Int)), (.string y.2.1), (.string ⟨#[]⟩), (.string ⟨#[]⟩), (.int .u32 y.2.2.2.2.1.1), (.int .u32 y.2.2.2.2.1.2.1), (.bool y.2.2.2.2.1.2.2.1)] 80 (0, 0))))) ∧ wa.heap.size ≤ wc.heap.size ∧ (wa.heap[b4]? = some (.cells #[(.int .i64 ((i : Nat) : Int)), (.int .i64 (1 : Int)), (.string y.2.1), (.string ⟨#[]⟩), (.string ⟨#[]⟩), (.int .u32 y.2.2.2.2.1.1), (.int .u32 y.2.2.2.2.1.2.1), (.bool y.2.2.2.2.1.2.2.1)] 80 (0, 0)) → wc.heap[b4]? = some (.cells #[(.int .i64 ((i : Nat) : Int)), (.int .i64 (1 : Int)), (.string y.2.1), (.string ⟨#[]⟩), (.string ⟨#[]⟩), (.int .u32 y.2.2.2.2.1.1), (.int .u32 y.2.2.2.2.1.2.1), (.bool y.2.2.2.2.1.2.2.1)] 80 (0, 0))))
                (fun V => [(fun x _ => x = (.pointer (some ⟨b1, 0, none⟩))), (fun x _ => x = (.slice m.1.at' m.1.len m.1.cap)), (fun x _ => x = (.pointer (some ⟨b3, 3, none⟩))), (fun x _ => x = (.int .u32 y.2.2.2.1)), (fun x _ => x = (.pointer (some ⟨ab2, (aoff2 + (y.2.2.2.1).toNat * 2), none⟩))), (fun x _ => x = (.agg #[(.string (m.1.list.getD (y.2.2.2.1).toNat zMFt).1), (.string (m.1.list.getD (y.2.2.2.1).toNat zMFt).2.1)])), (fun x _ => x = (.pointer (some ⟨b4, 1, none⟩))), (fun _ wq => wq.heap[b4]? = some (.cells #[(.int .i64 ((i : Nat) : Int)), (.int .i64 (1 : Int)), (.string y.2.1), (.string ⟨#[]⟩), (.string ⟨#[]⟩), (.int .u32 y.2.2.2.2.1.1), (.int .u32 y.2.2.2.2.1.2.1), (.bool y.2.2.2.2.1.2.2.1)] 80 (0, 0)))])
                []
                [[], [0], [], [2], [1, 3], [4], [], [6], [], []]
                hf (by kernel_rfl) (by kernel_rfl) (by kernel_rfl) (fun _ => rfl) ⟨below_grown (Below.refl _ _).drew, .inl (blk_ext hk6 (Below.refl _ _).drew)⟩ (fun a b h1 h2 => h2.1 h1) (fun _ _ h => h.2.1) (fun V => ⟨(fun _ _ _ h _ => h), (fun _ _ _ h _ => h), (fun _ _ _ h _ => h), (fun _ _ _ h _ => h), (fun _ _ _ h _ => h), (fun _ _ _ h _ => h), (fun _ _ _ h _ => h), (fun _ _ _ h hG => hG.2.2 h), trivial⟩) (fun _ _ _ _ _ => rfl) ?_ ?_
              · skip
                intro V
                refine ⟨fun wu0 hC hd => ?_, ?_⟩
                · clear hd
                  have hgC := hC.1
                  replace hk1 := blk_grown hk1 hgC (by omega)
                  replace hk2 := blk_grown hk2 hgC (by omega)
                  replace hk4 := blk_grown hk4 hgC (by omega)
                  replace hb := hb.trans (grown_below hgC hb.size hBb4)
                  exact Runs.does (r_fa rfl Try.underlying67 (f := 0) (q := 0) rfl (by kernel_rfl) rfl) ⟨⟨id, Nat.le_refl _, id⟩, rfl, nofr rfl⟩
                refine ⟨fun wu1 hC hd => ?_, ?_⟩
                · obtain ⟨h0, _⟩ := hd
                  replace h0 : V 0 = (.pointer (some ⟨b1, 0, none⟩)) := h0
                  have hgC := hC.1
                  replace hk1 := blk_grown hk1 hgC (by omega)
                  replace hk2 := blk_grown hk2 hgC (by omega)
                  replace hk4 := blk_grown hk4 hgC (by omega)
                  replace hb := hb.trans (grown_below hgC hb.size hBb4)
                  exact Runs.does (r_load (v := (.slice m.1.at' m.1.len m.1.cap)) (congrArg some h0) Try.underlying56 rfl (cell_blk hk1 rfl)) ⟨⟨id, Nat.le_refl _, id⟩, rfl, nofr rfl⟩
                refine ⟨fun wu2 hC hd => ?_, ?_⟩
                · clear hd
                  have hgC := hC.1
                  replace hk1 := blk_grown hk1 hgC (by omega)
                  replace hk2 := blk_grown hk2 hgC (by omega)
                  replace hk4 := blk_grown hk4 hgC (by omega)
                  replace hb := hb.trans (grown_below hgC hb.size hBb4)
                  exact Runs.does (r_fa rfl Try.underlying103 (f := 3) (q := 3) rfl (by kernel_rfl) rfl) ⟨⟨id, Nat.le_refl _, id⟩, rfl, nofr rfl⟩
                refine ⟨fun wu3 hC hd => ?_, ?_⟩
                · obtain ⟨h2, _⟩ := hd
                  replace h2 : V 2 = (.pointer (some ⟨b3, 3, none⟩)) := h2
                  have hgC := hC.1
                  replace hk1 := blk_grown hk1 hgC (by omega)
                  replace hk2 := blk_grown hk2 hgC (by omega)
                  replace hk4 := blk_grown hk4 hgC (by omega)
                  replace hb := hb.trans (grown_below hgC hb.size hBb4)
                  exact Runs.does (r_load (v := (.int .u32 y.2.2.2.1)) (congrArg some h2) Try.underlying44 rfl (cell_blk hk4 rfl)) ⟨⟨id, Nat.le_refl _, id⟩, rfl, nofr rfl⟩
                refine ⟨fun wu4 hC hd => ?_, ?_⟩
                · obtain ⟨h1, h3, _⟩ := hd
                  replace h1 : V 1 = (.slice m.1.at' m.1.len m.1.cap) := h1
                  replace h3 : V 3 = (.int .u32 y.2.2.2.1) := h3
                  have hgC := hC.1
                  replace hk1 := blk_grown hk1 hgC (by omega)
                  replace hk2 := blk_grown hk2 hgC (by omega)
                  replace hk4 := blk_grown hk4 hgC (by omega)
                  replace hb := hb.trans (grown_below hgC hb.size hBb4)
                  exact Runs.does (r_ixa (sz := 2) (j := (y.2.2.2.1).toNat) (evAt (congrArg some h1) hat2) (congrArg some h3) Try.underlying56 (by kernel_rfl) (by omega) (by omega) rfl) ⟨⟨id, Nat.le_refl _, id⟩, rfl, nofr rfl⟩
                refine ⟨fun wu5 hC hd => ?_, ?_⟩
                · obtain ⟨h4, _⟩ := hd
                  replace h4 : V 4 = (.pointer (some ⟨ab2, (aoff2 + (y.2.2.2.1).toNat * 2), none⟩)) := h4
                  have hgC := hC.1
                  replace hk1 := blk_grown hk1 hgC (by omega)
                  replace hk2 := blk_grown hk2 hgC (by omega)
                  replace hk4 := blk_grown hk4 hgC (by omega)
                  replace hb := hb.trans (grown_below hgC hb.size hBb4)
                  exact Runs.does (r_loadA (cs := [(.string (m.1.list.getD (y.2.2.2.1).toNat zMFt).1), (.string (m.1.list.getD (y.2.2.2.1).toNat zMFt).2.1)]) (congrArg some h4) Try.underlying78 rfl (by kernel_rfl) (cellsAt_below hel2 hb hlb2)) ⟨⟨id, Nat.le_refl _, id⟩, rfl, nofr rfl⟩
                refine ⟨fun wu6 hC hd => ?_, ?_⟩
                · clear hd
                  have hgC := hC.1
                  replace hk1 := blk_grown hk1 hgC (by omega)
                  replace hk2 := blk_grown hk2 hgC (by omega)
                  replace hk4 := blk_grown hk4 hgC (by omega)
                  replace hb := hb.trans (grown_below hgC hb.size hBb4)
                  exact Runs.does (r_fa rfl Try.underlying80 (f := 1) (q := 1) rfl (by kernel_rfl) rfl) ⟨⟨id, Nat.le_refl _, id⟩, rfl, nofr rfl⟩
                refine ⟨fun wu7 hC hd => ?_, ?_⟩
                · obtain ⟨h6, _⟩ := hd
                  replace h6 : V 6 = (.pointer (some ⟨b4, 1, none⟩)) := h6
                  have hgC := hC.1
                  replace hk1 := blk_grown hk1 hgC (by omega)
                  replace hk2 := blk_grown hk2 hgC (by omega)
                  replace hk4 := blk_grown hk4 hgC (by omega)
                  replace hb := hb.trans (grown_below hgC hb.size hBb4)
                  rcases hC.2 with hX | hX
                  · refine Does.mono (d_storeK (T := 80) (v := (.int .i64 (1 : Int))) (cs := #[(.int .i64 ((i : Nat) : Int)), (.int .i64 (0 : Int)), (.string y.2.1), (.string ⟨#[]⟩), (.string ⟨#[]⟩), (.int .u32 y.2.2.2.2.1.1), (.int .u32 y.2.2.2.2.1.2.1), (.bool y.2.2.2.2.1.2.2.1)]) (cs' := #[(.int .i64 ((i : Nat) : Int)), (.int .i64 (1 : Int)), (.string y.2.1), (.string ⟨#[]⟩), (.string ⟨#[]⟩), (.int .u32 y.2.2.2.2.1.1), (.int .u32 y.2.2.2.2.1.2.1), (.bool y.2.2.2.2.1.2.2.1)]) (congrArg some h6) rfl (by kernel_rfl) (by kernel_rfl) hX (by kernel_rfl) (by kernel_rfl)) ?_
                    rintro _ wz ⟨hY, hgY⟩
                    exact ⟨⟨fun _ => ⟨grownBy_trans hgC hgY, .inr hY⟩, hgY.size, fun _ => hY⟩, hY, nofr rfl⟩
                  · refine Does.mono (d_storeK (T := 80) (v := (.int .i64 (1 : Int))) (cs := #[(.int .i64 ((i : Nat) : Int)), (.int .i64 (1 : Int)), (.string y.2.1), (.string ⟨#[]⟩), (.string ⟨#[]⟩), (.int .u32 y.2.2.2.2.1.1), (.int .u32 y.2.2.2.2.1.2.1), (.bool y.2.2.2.2.1.2.2.1)]) (cs' := #[(.int .i64 ((i : Nat) : Int)), (.int .i64 (1 : Int)), (.string y.2.1), (.string ⟨#[]⟩), (.string ⟨#[]⟩), (.int .u32 y.2.2.2.2.1.1), (.int .u32 y.2.2.2.2.1.2.1), (.bool y.2.2.2.2.1.2.2.1)]) (congrArg some h6) rfl (by kernel_rfl) (by kernel_rfl) hX (by kernel_rfl) (by kernel_rfl)) ?_
                    rintro _ wz ⟨hY, hgY⟩
                    exact ⟨⟨fun _ => ⟨grownBy_trans hgC hgY, .inr hY⟩, hgY.size, fun _ => hY⟩, hY, nofr rfl⟩
                trivial
              · skip
                clear hf fa; intro V w16 fa he6 hp hnb hf
                have hg11 := he6.1
                have hv0 : V 0 = (.pointer (some ⟨b1, 0, none⟩)) := postsHold_at hp 0 rfl
                have hv1 : V 1 = (.slice m.1.at' m.1.len m.1.cap) := postsHold_at hp 1 rfl
                have hv2 : V 2 = (.pointer (some ⟨b3, 3, none⟩)) := postsHold_at hp 2 rfl
                have hv3 : V 3 = (.int .u32 y.2.2.2.1) := postsHold_at hp 3 rfl
                have hv4 : V 4 = (.pointer (some ⟨ab2, (aoff2 + (y.2.2.2.1).toNat * 2), none⟩)) := postsHold_at hp 4 rfl
                have hv5 : V 5 = (.agg #[(.string (m.1.list.getD (y.2.2.2.1).toNat zMFt).1), (.string (m.1.list.getD (y.2.2.2.1).toNat zMFt).2.1)]) := postsHold_at hp 5 rfl
                have hv6 : V 6 = (.pointer (some ⟨b4, 1, none⟩)) := postsHold_at hp 6 rfl
                have hk15 := postsHold_at hp 7 rfl
                simp only [List.take_succ_cons, List.take_zero, insAll, ins, hv0, hv1, hv2, hv3, hv4, hv5, hv6] at hf
                clear hp hnb hv0 hv1 hv2 hv3 hv4 hv5 hv6
                replace hk1 := blk_grown hk1 hg11 (by omega)
                replace hk2 := blk_grown hk2 hg11 (by omega)
                replace hk4 := blk_grown hk4 hg11 (by omega)
                replace hb := hb.trans (grown_below hg11 hb.size hBb4)
                replace hk15 : w16.heap[b4]? = some (.cells #[(.int .i64 ((i : Nat) : Int)), (.int .i64 (1 : Int)), (.string y.2.1), (.string ⟨#[]⟩), (.string ⟨#[]⟩), (.int .u32 y.2.2.2.2.1.1), (.int .u32 y.2.2.2.2.1.2.1), (.bool y.2.2.2.2.1.2.2.1)] 80 (0, 0)) := hk15
                simp only [List.drop_succ_cons, List.drop_zero]
                refine sqv hf (r_fa rfl Try.underlying80 (f := 3) (q := 3) rfl (by kernel_rfl) rfl) rfl rfl rfl ?_; clear hf fa; intro fa hf
                refine sqn hf (d_storeK (T := 80) (v := (.agg #[(.string (m.1.list.getD (y.2.2.2.1).toNat zMFt).1), (.string (m.1.list.getD (y.2.2.2.1).toNat zMFt).2.1)])) (cs := #[(.int .i64 ((i : Nat) : Int)), (.int .i64 (1 : Int)), (.string y.2.1), (.string ⟨#[]⟩), (.string ⟨#[]⟩), (.int .u32 y.2.2.2.2.1.1), (.int .u32 y.2.2.2.2.1.2.1), (.bool y.2.2.2.2.1.2.2.1)]) (cs' := #[(.int .i64 ((i : Nat) : Int)), (.int .i64 (1 : Int)), (.string y.2.1), (.string (m.1.list.getD (y.2.2.2.1).toNat zMFt).1), (.string (m.1.list.getD (y.2.2.2.1).toNat zMFt).2.1), (.int .u32 y.2.2.2.2.1.1), (.int .u32 y.2.2.2.2.1.2.1), (.bool y.2.2.2.2.1.2.2.1)]) rfl rfl (by kernel_rfl) (by kernel_rfl) hk15 (by kernel_rfl) (by kernel_rfl)) rfl rfl ?_; clear hf fa; rintro fa _ w17 ⟨hk16, hg12⟩ hf
                replace hk1 := blk_grown hk1 hg12 (by omega)
                replace hk2 := blk_grown hk2 hg12 (by omega)
                replace hk4 := blk_grown hk4 hg12 (by omega)
                replace hb := hb.trans (grown_below hg12 hb.size hBb4)
                apply wpList_nil
                (try simp only [Exit.then, Exit.inBlock, ↓reduceIte, Nat.reduceEqDiff])
                refine hK4 _ _ ?_
                refine wp_seq_k (fun K19 hK19 => ?_)
                refine wp_region_lit ?_
                refine sqv hf (r_loadA (cs := [(.int .i64 ((i : Nat) : Int)), (.int .i64 (1 : Int)), (.string y.2.1), (.string (m.1.list.getD (y.2.2.2.1).toNat zMFt).1), (.string (m.1.list.getD (y.2.2.2.1).toNat zMFt).2.1), (.int .u32 y.2.2.2.2.1.1), (.int .u32 y.2.2.2.2.1.2.1), (.bool y.2.2.2.2.1.2.2.1)]) rfl Try.underlying80 rfl (by kernel_rfl) (cellsAt_blk hk16)) rfl rfl rfl ?_; clear hf fa; intro fa hf
                refine sqn hf (d_storeK (T := 80) (v := (.agg #[(.int .i64 ((i : Nat) : Int)), (.int .i64 (1 : Int)), (.string y.2.1), (.string (m.1.list.getD (y.2.2.2.1).toNat zMFt).1), (.string (m.1.list.getD (y.2.2.2.1).toNat zMFt).2.1), (.int .u32 y.2.2.2.2.1.1), (.int .u32 y.2.2.2.2.1.2.1), (.bool y.2.2.2.2.1.2.2.1)])) (cs := #[(.int .i64 (0 : Int)), (.int .i64 (0 : Int)), (.string ⟨#[]⟩), (.string ⟨#[]⟩), (.string ⟨#[]⟩), (.int .u32 (0 : Int)), (.int .u32 (0 : Int)), (.bool false)]) (cs' := #[(.int .i64 ((i : Nat) : Int)), (.int .i64 (1 : Int)), (.string y.2.1), (.string (m.1.list.getD (y.2.2.2.1).toNat zMFt).1), (.string (m.1.list.getD (y.2.2.2.1).toNat zMFt).2.1), (.int .u32 y.2.2.2.2.1.1), (.int .u32 y.2.2.2.2.1.2.1), (.bool y.2.2.2.2.1.2.2.1)]) rfl rfl (by kernel_rfl) (by kernel_rfl) hk2 (by kernel_rfl) (by kernel_rfl)) rfl rfl ?_; clear hf fa; rintro fa _ w18 ⟨hk17, hg13⟩ hf
                replace hk1 := blk_grown hk1 hg13 (by omega)
                replace hk4 := blk_grown hk4 hg13 (by omega)
                replace hk16 := blk_grown hk16 hg13 (by omega)
                replace hb := hb.trans (grown_below hg13 hb.size hBb2)
                refine sqv hf (r_assign rfl) rfl rfl rfl ?_; clear hf fa; intro fa hf
                apply wpList_nil
                (try simp only [Exit.then, Exit.inBlock, ↓reduceIte, Nat.reduceEqDiff])
                refine hK19 _ _ ?_
                refine wp_ret ?_
                (try simp only [Exit.then, Exit.inBlock])
                refine retCT hf rfl rfl hk17 Try.underlying80 rfl (by kernel_rfl) rfl ?_
                refine ⟨?_, hb⟩; unfold wantP; rw [hqt22_1b, hqt35_1b, hqt40_1b, hqt50_1b, hqt60_1b, hqt71_1b]; (try rfl)
          · have hqt60_1b := hqt60_1
            replace hqt60_1 := Bool.eq_false_iff.1 hqt60_1
            try simp only [ne_eq, decide_eq_true_eq, Bool.and_eq_true, Bool.or_eq_true, Bool.not_eq_true', decide_eq_false_iff_not] at hqt60_1
            refine wp_seq_k (fun K20 hK20 => ?_)
            refine wp_region_lit ?_
            refine sqv hf (r_loadA (cs := [(.int .i64 ((i : Nat) : Int)), (.int .i64 (0 : Int)), (.string y.2.1), (.string ⟨#[]⟩), (.string ⟨#[]⟩), (.int .u32 y.2.2.2.2.1.1), (.int .u32 y.2.2.2.2.1.2.1), (.bool y.2.2.2.2.1.2.2.1)]) rfl Try.underlying80 rfl (by kernel_rfl) (cellsAt_blk hk6)) rfl rfl rfl ?_; clear hf fa; intro fa hf
            refine sqn hf (d_storeK (T := 80) (v := (.agg #[(.int .i64 ((i : Nat) : Int)), (.int .i64 (0 : Int)), (.string y.2.1), (.string ⟨#[]⟩), (.string ⟨#[]⟩), (.int .u32 y.2.2.2.2.1.1), (.int .u32 y.2.2.2.2.1.2.1), (.bool y.2.2.2.2.1.2.2.1)])) (cs := #[(.int .i64 (0 : Int)), (.int .i64 (0 : Int)), (.string ⟨#[]⟩), (.string ⟨#[]⟩), (.string ⟨#[]⟩), (.int .u32 (0 : Int)), (.int .u32 (0 : Int)), (.bool false)]) (cs' := #[(.int .i64 ((i : Nat) : Int)), (.int .i64 (0 : Int)), (.string y.2.1), (.string ⟨#[]⟩), (.string ⟨#[]⟩), (.int .u32 y.2.2.2.2.1.1), (.int .u32 y.2.2.2.2.1.2.1), (.bool y.2.2.2.2.1.2.2.1)]) rfl rfl (by kernel_rfl) (by kernel_rfl) hk2 (by kernel_rfl) (by kernel_rfl)) rfl rfl ?_; clear hf fa; rintro fa _ w19 ⟨hk18, hg14⟩ hf
            replace hk1 := blk_grown hk1 hg14 (by omega)
            replace hk4 := blk_grown hk4 hg14 (by omega)
            replace hk6 := blk_grown hk6 hg14 (by omega)
            replace hb := hb.trans (grown_below hg14 hb.size hBb2)
            refine sqv hf (r_assign rfl) rfl rfl rfl ?_; clear hf fa; intro fa hf
            apply wpList_nil
            (try simp only [Exit.then, Exit.inBlock, ↓reduceIte, Nat.reduceEqDiff])
            refine hK20 _ _ ?_
            refine wp_ret ?_
            (try simp only [Exit.then, Exit.inBlock])
            refine retCT hf rfl rfl hk18 Try.underlying80 rfl (by kernel_rfl) rfl ?_
            refine ⟨?_, hb⟩; unfold wantP; rw [hqt22_1b, hqt35_1b, hqt40_1b, hqt50_1b, hqt60_1b]; (try rfl)
end Go.Proofs.Ytahgkfekggkjnaa
