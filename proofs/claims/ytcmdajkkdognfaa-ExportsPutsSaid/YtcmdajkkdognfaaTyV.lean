/- What is proved here: values of types, by the program and by the document. -/
import Derived.Test.YtcmdajkkdognfaaTyA
namespace Go.Proofs.Ytcmdajkkdognfaa
open Go.RowKit
set_option linter.unusedVariables false
set_option linter.unusedSimpArgs false
def tcutP (v : MVal) : MVal :=
  bif (decide (v.1 = (127 : Int))) then (v.1, (v.2.1 % 4294967296), ())
  else v

set_option maxHeartbeats 1000000 in
set_option maxRecDepth 100000 in
theorem tcut_any (v : MVal) (w : World) (hv1 : 0 ≤ v.1 ∧ v.1 < 256) (hv2 : 0 ≤ v.2.1 ∧ v.2.1 < 18446744073709551616) : Calls Try.prog 33 #[(.agg #[(.int .u8 v.1), (.int .u64 v.2.1)])] w fun e w' => e = .returned (.agg #[(.int .u8 ((tcutP v).1)), (.int .u64 ((tcutP v).2.1))]) ∧ Below w.heap.size w w' := by
  refine sx_enter (L := [(0, (.agg #[(.int .u8 v.1), (.int .u64 v.2.1)]))]) Try.func33 rfl rfl rfl rfl (fun fa hf => ?_)
  have hb : Below w.heap.size w w := Below.refl _ _
  refine wp_seq_k (fun K1 hK1 => ?_)
  refine wp_region_lit ?_
  refine sqdt hf (d_box (cs := #[(.int .u8 v.1), (.int .u64 v.2.1)]) rfl rfl) rfl rfl rfl ?_; clear hf fa; rintro fa _ w1 ⟨b1, rfl, hle1, hk1, he1⟩ hf
  have hBb1 : w.heap.size ≤ b1 := Nat.le_trans hb.size hle1
  replace hb := hb.trans (Below.mono he1 hb.size)
  refine sqdt hf (d_alloc (z := (.agg #[(.int .u8 (0 : Int)), (.int .u64 (0 : Int))])) (cs := #[(.int .u8 (0 : Int)), (.int .u64 (0 : Int))]) (by kernel_rfl) rfl) rfl rfl rfl ?_; clear hf fa; rintro fa _ w2 ⟨b2, rfl, hle2, hk2, he2⟩ hf
  have hBb2 : w.heap.size ≤ b2 := Nat.le_trans hb.size hle2
  have : b1 < b2 := Nat.lt_of_lt_of_le (blk_lt hk1) hle2
  replace hk1 := blk_ext hk1 he2
  replace hb := hb.trans (Below.mono he2 hb.size)
  apply wpList_nil
  (try simp only [Exit.then, Exit.inBlock, ↓reduceIte, Nat.reduceEqDiff])
  refine hK1 _ _ ?_
  refine wp_seq_k (fun K2 hK2 => ?_)
  refine wp_seq_k (fun K3 hK3 => ?_)
  refine wp_region_lit ?_
  refine sqv hf (r_fa rfl Try.underlying57 (f := 0) (q := 0) rfl (by kernel_rfl) rfl) rfl rfl rfl ?_; clear hf fa; intro fa hf
  refine sqv hf (r_load (v := (.int .u8 v.1)) rfl Try.underlying5 rfl (cell_blk hk1 rfl)) rfl rfl rfl ?_; clear hf fa; intro fa hf
  refine sqv hf (r_eq rfl rfl) rfl rfl rfl ?_; clear hf fa; intro fa hf
  apply wpList_nil
  (try simp only [Exit.then, Exit.inBlock, ↓reduceIte, Nat.reduceEqDiff])
  refine hK3 _ _ ?_
  refine wp_cond_split (t := (decide (v.1 = (127 : Int)))) (hf.ev rfl) (fun hqt5_1 => ?_) (fun hqt5_1 => ?_)
  · have hqt5_1b := hqt5_1
    try simp only [decide_eq_true_eq, Bool.and_eq_true, Bool.or_eq_true, Bool.not_eq_true', decide_eq_false_iff_not, ne_eq, Bool.not_eq_true] at hqt5_1
    refine wp_region_lit ?_
    refine sqv hf (r_fa rfl Try.underlying57 (f := 1) (q := 1) rfl (by kernel_rfl) rfl) rfl rfl rfl ?_; clear hf fa; intro fa hf
    refine sqv hf (r_load (v := (.int .u64 v.2.1)) rfl Try.underlying55 rfl (cell_blk hk1 rfl)) rfl rfl rfl ?_; clear hf fa; intro fa hf
    refine sqv hf (r_conv (C := ((v.2.1 % 4294967296))) rfl Try.underlying55 Try.underlying24 (by rw [IntKind.wrap_u32])) rfl rfl rfl ?_; clear hf fa; intro fa hf
    refine sqv hf (r_conv (C := ((v.2.1 % 4294967296))) rfl Try.underlying24 Try.underlying55 (by rw [IntKind.wrap_u64]; omega)) rfl rfl rfl ?_; clear hf fa; intro fa hf
    refine sqv hf (r_fa rfl Try.underlying57 (f := 1) (q := 1) rfl (by kernel_rfl) rfl) rfl rfl rfl ?_; clear hf fa; intro fa hf
    refine sqn hf (d_storeK (T := 57) (v := (.int .u64 ((v.2.1 % 4294967296)))) (cs := #[(.int .u8 v.1), (.int .u64 v.2.1)]) (cs' := #[(.int .u8 v.1), (.int .u64 ((v.2.1 % 4294967296)))]) rfl rfl (by kernel_rfl) (by kernel_rfl) hk1 (by kernel_rfl) (by kernel_rfl)) rfl rfl ?_; clear hf fa; rintro fa _ w3 ⟨hk3, hg1⟩ hf
    replace hk2 := blk_grown hk2 hg1 (by omega)
    replace hb := hb.trans (grown_below hg1 hb.size hBb1)
    apply wpList_nil
    (try simp only [Exit.then, Exit.inBlock, ↓reduceIte, Nat.reduceEqDiff])
    refine hK2 _ _ ?_
    refine wp_seq_k (fun K4 hK4 => ?_)
    refine wp_region_lit ?_
    refine sqv hf (r_loadA (cs := [(.int .u8 v.1), (.int .u64 ((v.2.1 % 4294967296)))]) rfl Try.underlying57 rfl (by kernel_rfl) (cellsAt_blk hk3)) rfl rfl rfl ?_; clear hf fa; intro fa hf
    refine sqn hf (d_storeK (T := 57) (v := (.agg #[(.int .u8 v.1), (.int .u64 ((v.2.1 % 4294967296)))])) (cs := #[(.int .u8 (0 : Int)), (.int .u64 (0 : Int))]) (cs' := #[(.int .u8 v.1), (.int .u64 ((v.2.1 % 4294967296)))]) rfl rfl (by kernel_rfl) (by kernel_rfl) hk2 (by kernel_rfl) (by kernel_rfl)) rfl rfl ?_; clear hf fa; rintro fa _ w4 ⟨hk4, hg2⟩ hf
    replace hk3 := blk_grown hk3 hg2 (by omega)
    replace hb := hb.trans (grown_below hg2 hb.size hBb2)
    apply wpList_nil
    (try simp only [Exit.then, Exit.inBlock, ↓reduceIte, Nat.reduceEqDiff])
    refine hK4 _ _ ?_
    refine wp_ret ?_
    (try simp only [Exit.then, Exit.inBlock])
    refine retC hf rfl rfl hk4 Try.underlying57 rfl (by kernel_rfl) ?_
    refine ⟨?_, hb⟩; unfold tcutP; rw [hqt5_1b]; (try rfl)
  · have hqt5_1b := hqt5_1
    replace hqt5_1 := Bool.eq_false_iff.1 hqt5_1
    try simp only [ne_eq, decide_eq_true_eq, Bool.and_eq_true, Bool.or_eq_true, Bool.not_eq_true', decide_eq_false_iff_not] at hqt5_1
    refine wp_skip ?_
    (try simp only [Exit.then, Exit.inBlock, ↓reduceIte, Nat.reduceEqDiff])
    refine hK2 _ _ ?_
    refine wp_seq_k (fun K5 hK5 => ?_)
    refine wp_region_lit ?_
    refine sqv hf (r_loadA (cs := [(.int .u8 v.1), (.int .u64 v.2.1)]) rfl Try.underlying57 rfl (by kernel_rfl) (cellsAt_blk hk1)) rfl rfl rfl ?_; clear hf fa; intro fa hf
    refine sqn hf (d_storeK (T := 57) (v := (.agg #[(.int .u8 v.1), (.int .u64 v.2.1)])) (cs := #[(.int .u8 (0 : Int)), (.int .u64 (0 : Int))]) (cs' := #[(.int .u8 v.1), (.int .u64 v.2.1)]) rfl rfl (by kernel_rfl) (by kernel_rfl) hk2 (by kernel_rfl) (by kernel_rfl)) rfl rfl ?_; clear hf fa; rintro fa _ w5 ⟨hk5, hg3⟩ hf
    replace hk1 := blk_grown hk1 hg3 (by omega)
    replace hb := hb.trans (grown_below hg3 hb.size hBb2)
    apply wpList_nil
    (try simp only [Exit.then, Exit.inBlock, ↓reduceIte, Nat.reduceEqDiff])
    refine hK5 _ _ ?_
    refine wp_ret ?_
    (try simp only [Exit.then, Exit.inBlock])
    refine retC hf rfl rfl hk5 Try.underlying57 rfl (by kernel_rfl) ?_
    refine ⟨?_, hb⟩; unfold tcutP; rw [hqt5_1b]; (try rfl)

def rcutP (v : MVal) : MVal :=
  bif (decide (v.1 = (127 : Int))) then (v.1, (v.2.1 % 4294967296), ())
  else v

set_option maxHeartbeats 1000000 in
set_option maxRecDepth 100000 in
theorem rcut_any (v : MVal) (w : World) (hv1 : 0 ≤ v.1 ∧ v.1 < 256) (hv2 : 0 ≤ v.2.1 ∧ v.2.1 < 18446744073709551616) : Calls Try.prog 32 #[(.agg #[(.int .u8 v.1), (.int .u64 v.2.1)])] w fun e w' => e = .returned (.agg #[(.int .u8 ((rcutP v).1)), (.int .u64 ((rcutP v).2.1))]) ∧ Below w.heap.size w w' := by
  refine sx_enter (L := [(0, (.agg #[(.int .u8 v.1), (.int .u64 v.2.1)]))]) Try.func32 rfl rfl rfl rfl (fun fa hf => ?_)
  have hb : Below w.heap.size w w := Below.refl _ _
  refine wp_seq_k (fun K1 hK1 => ?_)
  refine wp_region_lit ?_
  refine sqdt hf (d_box (cs := #[(.int .u8 v.1), (.int .u64 v.2.1)]) rfl rfl) rfl rfl rfl ?_; clear hf fa; rintro fa _ w1 ⟨b1, rfl, hle1, hk1, he1⟩ hf
  have hBb1 : w.heap.size ≤ b1 := Nat.le_trans hb.size hle1
  replace hb := hb.trans (Below.mono he1 hb.size)
  refine sqdt hf (d_alloc (z := (.agg #[(.int .u8 (0 : Int)), (.int .u64 (0 : Int))])) (cs := #[(.int .u8 (0 : Int)), (.int .u64 (0 : Int))]) (by kernel_rfl) rfl) rfl rfl rfl ?_; clear hf fa; rintro fa _ w2 ⟨b2, rfl, hle2, hk2, he2⟩ hf
  have hBb2 : w.heap.size ≤ b2 := Nat.le_trans hb.size hle2
  have : b1 < b2 := Nat.lt_of_lt_of_le (blk_lt hk1) hle2
  replace hk1 := blk_ext hk1 he2
  replace hb := hb.trans (Below.mono he2 hb.size)
  apply wpList_nil
  (try simp only [Exit.then, Exit.inBlock, ↓reduceIte, Nat.reduceEqDiff])
  refine hK1 _ _ ?_
  refine wp_seq_k (fun K2 hK2 => ?_)
  refine wp_seq_k (fun K3 hK3 => ?_)
  refine wp_region_lit ?_
  refine sqv hf (r_fa rfl Try.underlying57 (f := 0) (q := 0) rfl (by kernel_rfl) rfl) rfl rfl rfl ?_; clear hf fa; intro fa hf
  refine sqv hf (r_load (v := (.int .u8 v.1)) rfl Try.underlying5 rfl (cell_blk hk1 rfl)) rfl rfl rfl ?_; clear hf fa; intro fa hf
  refine sqv hf (r_eq rfl rfl) rfl rfl rfl ?_; clear hf fa; intro fa hf
  apply wpList_nil
  (try simp only [Exit.then, Exit.inBlock, ↓reduceIte, Nat.reduceEqDiff])
  refine hK3 _ _ ?_
  refine wp_cond_split (t := (decide (v.1 = (127 : Int)))) (hf.ev rfl) (fun hqt5_1 => ?_) (fun hqt5_1 => ?_)
  · have hqt5_1b := hqt5_1
    try simp only [decide_eq_true_eq, Bool.and_eq_true, Bool.or_eq_true, Bool.not_eq_true', decide_eq_false_iff_not, ne_eq, Bool.not_eq_true] at hqt5_1
    refine wp_region_lit ?_
    refine sqv hf (r_fa rfl Try.underlying57 (f := 1) (q := 1) rfl (by kernel_rfl) rfl) rfl rfl rfl ?_; clear hf fa; intro fa hf
    refine sqv hf (r_load (v := (.int .u64 v.2.1)) rfl Try.underlying55 rfl (cell_blk hk1 rfl)) rfl rfl rfl ?_; clear hf fa; intro fa hf
    refine sqv hf (r_rem (C := ((v.2.1 % 4294967296))) rfl rfl (by omega) (Int.tmod_eq_emod_of_nonneg (by omega))) rfl rfl rfl ?_; clear hf fa; intro fa hf
    refine sqv hf (r_fa rfl Try.underlying57 (f := 1) (q := 1) rfl (by kernel_rfl) rfl) rfl rfl rfl ?_; clear hf fa; intro fa hf
    refine sqn hf (d_storeK (T := 57) (v := (.int .u64 ((v.2.1 % 4294967296)))) (cs := #[(.int .u8 v.1), (.int .u64 v.2.1)]) (cs' := #[(.int .u8 v.1), (.int .u64 ((v.2.1 % 4294967296)))]) rfl rfl (by kernel_rfl) (by kernel_rfl) hk1 (by kernel_rfl) (by kernel_rfl)) rfl rfl ?_; clear hf fa; rintro fa _ w3 ⟨hk3, hg1⟩ hf
    replace hk2 := blk_grown hk2 hg1 (by omega)
    replace hb := hb.trans (grown_below hg1 hb.size hBb1)
    apply wpList_nil
    (try simp only [Exit.then, Exit.inBlock, ↓reduceIte, Nat.reduceEqDiff])
    refine hK2 _ _ ?_
    refine wp_seq_k (fun K4 hK4 => ?_)
    refine wp_region_lit ?_
    refine sqv hf (r_loadA (cs := [(.int .u8 v.1), (.int .u64 ((v.2.1 % 4294967296)))]) rfl Try.underlying57 rfl (by kernel_rfl) (cellsAt_blk hk3)) rfl rfl rfl ?_; clear hf fa; intro fa hf
    refine sqn hf (d_storeK (T := 57) (v := (.agg #[(.int .u8 v.1), (.int .u64 ((v.2.1 % 4294967296)))])) (cs := #[(.int .u8 (0 : Int)), (.int .u64 (0 : Int))]) (cs' := #[(.int .u8 v.1), (.int .u64 ((v.2.1 % 4294967296)))]) rfl rfl (by kernel_rfl) (by kernel_rfl) hk2 (by kernel_rfl) (by kernel_rfl)) rfl rfl ?_; clear hf fa; rintro fa _ w4 ⟨hk4, hg2⟩ hf
    replace hk3 := blk_grown hk3 hg2 (by omega)
    replace hb := hb.trans (grown_below hg2 hb.size hBb2)
    apply wpList_nil
    (try simp only [Exit.then, Exit.inBlock, ↓reduceIte, Nat.reduceEqDiff])
    refine hK4 _ _ ?_
    refine wp_ret ?_
    (try simp only [Exit.then, Exit.inBlock])
    refine retC hf rfl rfl hk4 Try.underlying57 rfl (by kernel_rfl) ?_
    refine ⟨?_, hb⟩; unfold rcutP; rw [hqt5_1b]; (try rfl)
  · have hqt5_1b := hqt5_1
    replace hqt5_1 := Bool.eq_false_iff.1 hqt5_1
    try simp only [ne_eq, decide_eq_true_eq, Bool.and_eq_true, Bool.or_eq_true, Bool.not_eq_true', decide_eq_false_iff_not] at hqt5_1
    refine wp_skip ?_
    (try simp only [Exit.then, Exit.inBlock, ↓reduceIte, Nat.reduceEqDiff])
    refine hK2 _ _ ?_
    refine wp_seq_k (fun K5 hK5 => ?_)
    refine wp_region_lit ?_
    refine sqv hf (r_loadA (cs := [(.int .u8 v.1), (.int .u64 v.2.1)]) rfl Try.underlying57 rfl (by kernel_rfl) (cellsAt_blk hk1)) rfl rfl rfl ?_; clear hf fa; intro fa hf
    refine sqn hf (d_storeK (T := 57) (v := (.agg #[(.int .u8 v.1), (.int .u64 v.2.1)])) (cs := #[(.int .u8 (0 : Int)), (.int .u64 (0 : Int))]) (cs' := #[(.int .u8 v.1), (.int .u64 v.2.1)]) rfl rfl (by kernel_rfl) (by kernel_rfl) hk2 (by kernel_rfl) (by kernel_rfl)) rfl rfl ?_; clear hf fa; rintro fa _ w5 ⟨hk5, hg3⟩ hf
    replace hk1 := blk_grown hk1 hg3 (by omega)
    replace hb := hb.trans (grown_below hg3 hb.size hBb2)
    apply wpList_nil
    (try simp only [Exit.then, Exit.inBlock, ↓reduceIte, Nat.reduceEqDiff])
    refine hK5 _ _ ?_
    refine wp_ret ?_
    (try simp only [Exit.then, Exit.inBlock])
    refine retC hf rfl rfl hk5 Try.underlying57 rfl (by kernel_rfl) ?_
    refine ⟨?_, hb⟩; unfold rcutP; rw [hqt5_1b]; (try rfl)

theorem rcut_eq (v : MVal) : rcutP v = tcutP v := rfl
theorem rcut2_any (v : MVal) (w : World) (hv1 : 0 ≤ v.1 ∧ v.1 < 256) (hv2 : 0 ≤ v.2.1 ∧ v.2.1 < 18446744073709551616) : Calls Try.prog 32 #[(.agg #[(.int .u8 v.1), (.int .u64 v.2.1)])] w fun e w' => e = .returned (.agg #[(.int .u8 ((tcutP v).1)), (.int .u64 ((tcutP v).2.1))]) ∧ Below w.heap.size w w' := by
  have h := rcut_any v w hv1 hv2
  rw [rcut_eq] at h
  exact h

def zeroP (b : Int) : MVal :=
  (b, (0 : Int), ())

set_option maxHeartbeats 1000000 in
set_option maxRecDepth 100000 in
theorem zero_any (b : Int) (w : World)  : Calls Try.prog 36 #[(.int .u8 b)] w fun e w' => e = .returned (.agg #[(.int .u8 ((zeroP b).1)), (.int .u64 ((zeroP b).2.1))]) ∧ Below w.heap.size w w' := by
  refine sx_enter (L := [(0, (.int .u8 b))]) Try.func36 rfl rfl rfl rfl (fun fa hf => ?_)
  have hb : Below w.heap.size w w := Below.refl _ _
  refine wp_seq_k (fun K1 hK1 => ?_)
  refine wp_region_lit ?_
  refine sqdt hf (d_alloc (z := (.agg #[(.int .u8 (0 : Int)), (.int .u64 (0 : Int))])) (cs := #[(.int .u8 (0 : Int)), (.int .u64 (0 : Int))]) (by kernel_rfl) rfl) rfl rfl rfl ?_; clear hf fa; rintro fa _ w1 ⟨b1, rfl, hle1, hk1, he1⟩ hf
  have hBb1 : w.heap.size ≤ b1 := Nat.le_trans hb.size hle1
  replace hb := hb.trans (Below.mono he1 hb.size)
  apply wpList_nil
  (try simp only [Exit.then, Exit.inBlock, ↓reduceIte, Nat.reduceEqDiff])
  refine hK1 _ _ ?_
  refine wp_seq_k (fun K2 hK2 => ?_)
  refine wp_region_lit ?_
  refine sqv hf (r_move rfl) rfl rfl rfl ?_; clear hf fa; intro fa hf
  refine sqv hf (r_build (vs := [(0, (.int .u8 b))]) (cs := #[(.int .u8 b), (.int .u64 (0 : Int))]) rfl (fun _ => by kernel_rfl)) rfl rfl rfl ?_; clear hf fa; intro fa hf
  refine sqn hf (d_storeK (T := 57) (v := (.agg #[(.int .u8 b), (.int .u64 (0 : Int))])) (cs := #[(.int .u8 (0 : Int)), (.int .u64 (0 : Int))]) (cs' := #[(.int .u8 b), (.int .u64 (0 : Int))]) rfl rfl (by kernel_rfl) (by kernel_rfl) hk1 (by kernel_rfl) (by kernel_rfl)) rfl rfl ?_; clear hf fa; rintro fa _ w2 ⟨hk2, hg1⟩ hf
  replace hb := hb.trans (grown_below hg1 hb.size hBb1)
  apply wpList_nil
  (try simp only [Exit.then, Exit.inBlock, ↓reduceIte, Nat.reduceEqDiff])
  refine hK2 _ _ ?_
  refine wp_ret ?_
  (try simp only [Exit.then, Exit.inBlock])
  refine retC hf rfl rfl hk2 Try.underlying57 rfl (by kernel_rfl) ?_
  refine ⟨?_, hb⟩; unfold zeroP; (try rfl)

def vrightP (v : MVal) : Bool :=
  bif (decide (tvalP v.1 = 0)) then ((decide (((tcutP v).1) = v.1)) && (decide (((tcutP v).2.1) = v.2.1)))
  else false

set_option maxHeartbeats 1000000 in
set_option maxRecDepth 100000 in
theorem vright_any (v : MVal) (w : World) (hv1 : 0 ≤ v.1 ∧ v.1 < 256) (hv2 : 0 ≤ v.2.1 ∧ v.2.1 < 18446744073709551616) : Calls Try.prog 34 #[(.agg #[(.int .u8 v.1), (.int .u64 v.2.1)])] w fun e w' => e = .returned (.bool (vrightP v)) ∧ Below w.heap.size w w' := by
  refine sx_enter (L := [(0, (.agg #[(.int .u8 v.1), (.int .u64 v.2.1)]))]) Try.func34 rfl rfl rfl rfl (fun fa hf => ?_)
  have hb : Below w.heap.size w w := Below.refl _ _
  refine wp_seq_k (fun K1 hK1 => ?_)
  refine wp_region_lit ?_
  refine sqdt hf (d_box (cs := #[(.int .u8 v.1), (.int .u64 v.2.1)]) rfl rfl) rfl rfl rfl ?_; clear hf fa; rintro fa _ w1 ⟨b1, rfl, hle1, hk1, he1⟩ hf
  have hBb1 : w.heap.size ≤ b1 := Nat.le_trans hb.size hle1
  replace hb := hb.trans (Below.mono he1 hb.size)
  refine sqv hf (r_assign rfl) rfl rfl rfl ?_; clear hf fa; intro fa hf
  apply wpList_nil
  (try simp only [Exit.then, Exit.inBlock, ↓reduceIte, Nat.reduceEqDiff])
  refine hK1 _ _ ?_
  refine wp_seq_k (fun K2 hK2 => ?_)
  by_cases hsp1 : tvalP v.1 = 0
  · have hsp1b : decide (tvalP v.1 = 0) = true := decide_eq_true hsp1
    refine wp_region_un (fun wq => Below w1.heap.size w1 wq) (fun w w' => Below w.heap.size w w')
      (fun V => [(fun x _ => x = (.pointer (some ⟨b1, 0, none⟩))), (fun x _ => x = (.int .u8 v.1)), (fun x _ => x = (.int .i64 ((tvalP v.1)))), (fun x _ => x = (.bool true)), (fun x _ => x = (.bool true)), (fun x _ => x = (.agg #[(.int .u8 v.1), (.int .u64 v.2.1)])), (fun x _ => x = (.agg #[(.int .u8 ((tcutP v).1)), (.int .u64 ((tcutP v).2.1))])), (fun x _ => x = (.agg #[(.int .u8 v.1), (.int .u64 v.2.1)])), (fun x _ => x = (.bool ((decide (((tcutP v).1) = v.1)) && (decide (((tcutP v).2.1) = v.2.1))))), (fun x _ => x = (.bool ((decide (((tcutP v).1) = v.1)) && (decide (((tcutP v).2.1) = v.2.1))))), (fun x _ => x = (.bool ((decide (((tcutP v).1) = v.1)) && (decide (((tcutP v).2.1) = v.2.1)))))])
      []
      [[], [0], [1], [2], [2, 3], [4], [4, 5], [4], [4, 6, 7], [4, 8], [0, 1, 2, 3, 4, 5, 6, 7, 8, 9]]
      hf (by kernel_rfl) (by kernel_rfl) (fun _ => rfl) ((Below.refl _ _).drew) (fun a b h1 h2 => h1.trans (h2.mono h1.size)) (fun _ _ h => h.size) (fun V => ⟨kept_eq, kept_eq, kept_eq, kept_eq, kept_eq, kept_eq, kept_eq, kept_eq, kept_eq, kept_eq, kept_eq, trivial⟩) (fun _ _ _ _ _ => rfl) ?_ ?_
    · skip
      intro V
      refine ⟨fun wu0 hC hd => ?_, ?_⟩
      · clear hd
        replace hb := hb.trans (hC.mono hb.size)
        replace hk1 := blk_ext hk1 hC
        exact Runs.does (r_fa rfl Try.underlying57 (f := 0) (q := 0) rfl (by kernel_rfl) rfl) ⟨Below.refl _ _, rfl, nofr rfl⟩
      refine ⟨fun wu1 hC hd => ?_, ?_⟩
      · obtain ⟨h0, _⟩ := hd
        skip
        replace h0 : V 0 = (.pointer (some ⟨b1, 0, none⟩)) := h0
        replace hb := hb.trans (hC.mono hb.size)
        replace hk1 := blk_ext hk1 hC
        exact Runs.does (r_load (v := (.int .u8 v.1)) (congrArg some h0) Try.underlying5 rfl (cell_blk hk1 rfl)) ⟨Below.refl _ _, rfl, nofr rfl⟩
      refine ⟨fun wu2 hC hd => ?_, ?_⟩
      · obtain ⟨h1, _⟩ := hd
        skip
        replace h1 : V 1 = (.int .u8 v.1) := h1
        replace hb := hb.trans (hC.mono hb.size)
        replace hk1 := blk_ext hk1 hC
        refine Does.mono (d_callS (vs := [(.int .u8 v.1)]) (show [some (V 1)] = [some (.int .u8 v.1)] from by rw [h1]) Try.func46 (by kernel_rfl) (by kernel_rfl) (tval_any v.1 _)) (fun _ _ h => ⟨h.2 ▸ Below.refl _ _, h.1, nofr rfl⟩)
      refine ⟨fun wu3 hC hd => ?_, ?_⟩
      · obtain ⟨h2, _⟩ := hd
        skip
        replace h2 : V 2 = (.int .i64 ((tvalP v.1))) := h2
        replace hb := hb.trans (hC.mono hb.size)
        replace hk1 := blk_ext hk1 hC
        exact Runs.does (Runs.veq (r_eq (congrArg some h2) rfl) (congrArg Value.bool (show _ = true from (by simpa using hsp1)))) ⟨Below.refl _ _, rfl, nofr rfl⟩
      refine ⟨fun wu4 hC hd => ?_, ?_⟩
      · obtain ⟨h2, h3, _⟩ := hd
        skip
        skip
        replace h2 : V 2 = (.int .i64 ((tvalP v.1))) := h2
        replace h3 : V 3 = (.bool true) := h3
        replace hb := hb.trans (hC.mono hb.size)
        replace hk1 := blk_ext hk1 hC
        exact Runs.does (r_move (congrArg some h3)) ⟨Below.refl _ _, rfl, nofr rfl⟩
      refine ⟨fun wu5 hC hd => ?_, ?_⟩
      · obtain ⟨h4, _⟩ := hd
        skip
        replace h4 : V 4 = (.bool true) := h4
        replace hb := hb.trans (hC.mono hb.size)
        replace hk1 := blk_ext hk1 hC
        refine ⟨true, true, congrArg some h4, fun hact => ?_, fun hact => ?_⟩
        · exact Runs.does (r_loadA (cs := [(.int .u8 v.1), (.int .u64 v.2.1)]) rfl Try.underlying57 rfl (by kernel_rfl) (cellsAt_blk hk1)) ⟨Below.refl _ _, rfl, nofr rfl⟩
        · exfalso; simp at hact
      refine ⟨fun wu6 hC hd => ?_, ?_⟩
      · obtain ⟨h4, h5, _⟩ := hd
        skip
        skip
        replace h4 : V 4 = (.bool true) := h4
        replace h5 : V 5 = (.agg #[(.int .u8 v.1), (.int .u64 v.2.1)]) := h5
        replace hb := hb.trans (hC.mono hb.size)
        replace hk1 := blk_ext hk1 hC
        refine ⟨true, true, congrArg some h4, fun hact => ?_, fun hact => ?_⟩
        · refine Does.mono (d_callB (vs := [(.agg #[(.int .u8 v.1), (.int .u64 v.2.1)])]) (show [some (V 5)] = [some (.agg #[(.int .u8 v.1), (.int .u64 v.2.1)])] from by rw [h5]) Try.func33 (by kernel_rfl) (by kernel_rfl) (tcut_any v _ hv1 hv2)) (fun _ _ h => ⟨h.2, h.1, nofr rfl⟩)
        · exfalso; simp at hact
      refine ⟨fun wu7 hC hd => ?_, ?_⟩
      · obtain ⟨h4, _⟩ := hd
        skip
        replace h4 : V 4 = (.bool true) := h4
        replace hb := hb.trans (hC.mono hb.size)
        replace hk1 := blk_ext hk1 hC
        refine ⟨true, true, congrArg some h4, fun hact => ?_, fun hact => ?_⟩
        · exact Runs.does (r_loadA (cs := [(.int .u8 v.1), (.int .u64 v.2.1)]) rfl Try.underlying57 rfl (by kernel_rfl) (cellsAt_blk hk1)) ⟨Below.refl _ _, rfl, nofr rfl⟩
        · exfalso; simp at hact
      refine ⟨fun wu8 hC hd => ?_, ?_⟩
      · obtain ⟨h4, h6, h7, _⟩ := hd
        skip
        skip
        skip
        replace h4 : V 4 = (.bool true) := h4
        replace h6 : V 6 = (.agg #[(.int .u8 ((tcutP v).1)), (.int .u64 ((tcutP v).2.1))]) := h6
        replace h7 : V 7 = (.agg #[(.int .u8 v.1), (.int .u64 v.2.1)]) := h7
        replace hb := hb.trans (hC.mono hb.size)
        replace hk1 := blk_ext hk1 hC
        refine ⟨true, true, congrArg some h4, fun hact => ?_, fun hact => ?_⟩
        · exact Runs.does (r_aeq (k := 5) (congrArg some h6) (congrArg some h7) (by kernel_rfl) (eqt_struct (xs := #[(.int .u8 ((tcutP v).1)), (.int .u64 ((tcutP v).2.1))]) (ys := #[(.int .u8 v.1), (.int .u64 v.2.1)]) Try.underlying57 (by kernel_rfl) (eqf_cons (by kernel_rfl) (fun _ => by kernel_rfl) (fun _ => by kernel_rfl) (eqt_int (kk := .u8) (a := ((tcutP v).1)) (b := v.1) Try.underlying5) (eqf_one (by kernel_rfl) (fun _ => by kernel_rfl) (fun _ => by kernel_rfl) (eqt_int (kk := .u64) (a := ((tcutP v).2.1)) (b := v.2.1) Try.underlying55)))) rfl) ⟨Below.refl _ _, rfl, nofr rfl⟩
        · exfalso; simp at hact
      refine ⟨fun wu9 hC hd => ?_, ?_⟩
      · obtain ⟨h4, h8, _⟩ := hd
        skip
        skip
        replace h4 : V 4 = (.bool true) := h4
        replace h8 : V 8 = (.bool ((decide (((tcutP v).1) = v.1)) && (decide (((tcutP v).2.1) = v.2.1)))) := h8
        replace hb := hb.trans (hC.mono hb.size)
        replace hk1 := blk_ext hk1 hC
        exact Runs.does (r_pick (b := true) (congrArg some h4) (congrArg some h8) rfl rfl) ⟨Below.refl _ _, rfl, nofr rfl⟩
      refine ⟨fun wu10 hC hd => ?_, ?_⟩
      · obtain ⟨h0, h1, h2, h3, h4, h5, h6, h7, h8, h9, _⟩ := hd
        skip
        skip
        skip
        skip
        skip
        skip
        skip
        skip
        skip
        skip
        replace h0 : V 0 = (.pointer (some ⟨b1, 0, none⟩)) := h0
        replace h1 : V 1 = (.int .u8 v.1) := h1
        replace h2 : V 2 = (.int .i64 ((tvalP v.1))) := h2
        replace h3 : V 3 = (.bool true) := h3
        replace h4 : V 4 = (.bool true) := h4
        replace h5 : V 5 = (.agg #[(.int .u8 v.1), (.int .u64 v.2.1)]) := h5
        replace h6 : V 6 = (.agg #[(.int .u8 ((tcutP v).1)), (.int .u64 ((tcutP v).2.1))]) := h6
        replace h7 : V 7 = (.agg #[(.int .u8 v.1), (.int .u64 v.2.1)]) := h7
        replace h8 : V 8 = (.bool ((decide (((tcutP v).1) = v.1)) && (decide (((tcutP v).2.1) = v.2.1)))) := h8
        replace h9 : V 9 = (.bool ((decide (((tcutP v).1) = v.1)) && (decide (((tcutP v).2.1) = v.2.1)))) := h9
        replace hb := hb.trans (hC.mono hb.size)
        replace hk1 := blk_ext hk1 hC
        exact Runs.does (r_assign (congrArg some h9)) ⟨Below.refl _ _, rfl, nofr rfl⟩
      trivial
    · skip
      clear hf fa; intro V w2 fa he2 hp hnb hf
      have hv0 : V 0 = (.pointer (some ⟨b1, 0, none⟩)) := postsHold_at hp 0 rfl
      have hv1 : V 1 = (.int .u8 v.1) := postsHold_at hp 1 rfl
      have hv2 : V 2 = (.int .i64 ((tvalP v.1))) := postsHold_at hp 2 rfl
      have hv3 : V 3 = (.bool true) := postsHold_at hp 3 rfl
      have hv4 : V 4 = (.bool true) := postsHold_at hp 4 rfl
      have hv5 : V 5 = (.agg #[(.int .u8 v.1), (.int .u64 v.2.1)]) := postsHold_at hp 5 rfl
      have hv6 : V 6 = (.agg #[(.int .u8 ((tcutP v).1)), (.int .u64 ((tcutP v).2.1))]) := postsHold_at hp 6 rfl
      have hv7 : V 7 = (.agg #[(.int .u8 v.1), (.int .u64 v.2.1)]) := postsHold_at hp 7 rfl
      have hv8 : V 8 = (.bool ((decide (((tcutP v).1) = v.1)) && (decide (((tcutP v).2.1) = v.2.1)))) := postsHold_at hp 8 rfl
      have hv9 : V 9 = (.bool ((decide (((tcutP v).1) = v.1)) && (decide (((tcutP v).2.1) = v.2.1)))) := postsHold_at hp 9 rfl
      have hv10 : V 10 = (.bool ((decide (((tcutP v).1) = v.1)) && (decide (((tcutP v).2.1) = v.2.1)))) := postsHold_at hp 10 rfl
      simp only [List.take_succ_cons, List.take_zero, insAll, ins, hv0, hv1, hv2, hv3, hv4, hv5, hv6, hv7, hv8, hv9, hv10] at hf
      clear hp hnb hv0 hv1 hv2 hv3 hv4 hv5 hv6 hv7 hv8 hv9 hv10
      replace hk1 := blk_ext hk1 he2
      replace hb := hb.trans (Below.mono he2 hb.size)
      (try simp only [Exit.then, Exit.inBlock, ↓reduceIte, Nat.reduceEqDiff])
      refine hK2 _ _ ?_
      refine wp_ret ?_
      (try simp only [Exit.then, Exit.inBlock])
      refine ret1 hf rfl rfl ?_
      refine ⟨?_, hb⟩; unfold vrightP; rw [hsp1b]; (try rfl)
  · have hsp1b : decide (tvalP v.1 = 0) = false := decide_eq_false hsp1
    refine wp_region_un (fun wq => Below w1.heap.size w1 wq) (fun w w' => Below w.heap.size w w')
      (fun V => [(fun x _ => x = (.pointer (some ⟨b1, 0, none⟩))), (fun x _ => x = (.int .u8 v.1)), (fun x _ => x = (.int .i64 ((tvalP v.1)))), (fun x _ => x = (.bool false)), (fun x _ => x = (.bool false)), (fun x _ => x = gb false (.bool false)), (fun x _ => x = gb false (.bool false)), (fun x _ => x = gb false (.bool false)), (fun x _ => x = gb false (.bool false)), (fun x _ => x = (.bool false)), (fun x _ => x = (.bool false))])
      []
      [[], [0], [1], [2], [2, 3], [4], [4, 5], [4], [4, 6, 7], [4, 8], [0, 1, 2, 3, 4, 5, 6, 7, 8, 9]]
      hf (by kernel_rfl) (by kernel_rfl) (fun _ => rfl) ((Below.refl _ _).drew) (fun a b h1 h2 => h1.trans (h2.mono h1.size)) (fun _ _ h => h.size) (fun V => ⟨kept_eq, kept_eq, kept_eq, kept_eq, kept_eq, kept_eq, kept_eq, kept_eq, kept_eq, kept_eq, kept_eq, trivial⟩) (fun _ _ _ _ _ => rfl) ?_ ?_
    · skip
      intro V
      refine ⟨fun wu0 hC hd => ?_, ?_⟩
      · clear hd
        replace hb := hb.trans (hC.mono hb.size)
        replace hk1 := blk_ext hk1 hC
        exact Runs.does (r_fa rfl Try.underlying57 (f := 0) (q := 0) rfl (by kernel_rfl) rfl) ⟨Below.refl _ _, rfl, nofr rfl⟩
      refine ⟨fun wu1 hC hd => ?_, ?_⟩
      · obtain ⟨h0, _⟩ := hd
        skip
        replace h0 : V 0 = (.pointer (some ⟨b1, 0, none⟩)) := h0
        replace hb := hb.trans (hC.mono hb.size)
        replace hk1 := blk_ext hk1 hC
        exact Runs.does (r_load (v := (.int .u8 v.1)) (congrArg some h0) Try.underlying5 rfl (cell_blk hk1 rfl)) ⟨Below.refl _ _, rfl, nofr rfl⟩
      refine ⟨fun wu2 hC hd => ?_, ?_⟩
      · obtain ⟨h1, _⟩ := hd
        skip
        replace h1 : V 1 = (.int .u8 v.1) := h1
        replace hb := hb.trans (hC.mono hb.size)
        replace hk1 := blk_ext hk1 hC
        refine Does.mono (d_callS (vs := [(.int .u8 v.1)]) (show [some (V 1)] = [some (.int .u8 v.1)] from by rw [h1]) Try.func46 (by kernel_rfl) (by kernel_rfl) (tval_any v.1 _)) (fun _ _ h => ⟨h.2 ▸ Below.refl _ _, h.1, nofr rfl⟩)
      refine ⟨fun wu3 hC hd => ?_, ?_⟩
      · obtain ⟨h2, _⟩ := hd
        skip
        replace h2 : V 2 = (.int .i64 ((tvalP v.1))) := h2
        replace hb := hb.trans (hC.mono hb.size)
        replace hk1 := blk_ext hk1 hC
        exact Runs.does (Runs.veq (r_eq (congrArg some h2) rfl) (congrArg Value.bool (show _ = false from (by simpa using hsp1)))) ⟨Below.refl _ _, rfl, nofr rfl⟩
      refine ⟨fun wu4 hC hd => ?_, ?_⟩
      · obtain ⟨h2, h3, _⟩ := hd
        skip
        skip
        replace h2 : V 2 = (.int .i64 ((tvalP v.1))) := h2
        replace h3 : V 3 = (.bool false) := h3
        replace hb := hb.trans (hC.mono hb.size)
        replace hk1 := blk_ext hk1 hC
        exact Runs.does (r_move (congrArg some h3)) ⟨Below.refl _ _, rfl, nofr rfl⟩
      refine ⟨fun wu5 hC hd => ?_, ?_⟩
      · obtain ⟨h4, _⟩ := hd
        skip
        replace h4 : V 4 = (.bool false) := h4
        replace hb := hb.trans (hC.mono hb.size)
        replace hk1 := blk_ext hk1 hC
        refine ⟨true, false, congrArg some h4, fun hact => ?_, fun hact => ?_⟩
        · exfalso; simp at hact
        · exact ⟨Below.refl _ _, rfl, nofr rfl⟩
      refine ⟨fun wu6 hC hd => ?_, ?_⟩
      · obtain ⟨h4, h5, _⟩ := hd
        skip
        skip
        replace h4 : V 4 = (.bool false) := h4
        replace h5 : V 5 = gb false (.bool false) := h5
        replace hb := hb.trans (hC.mono hb.size)
        replace hk1 := blk_ext hk1 hC
        refine ⟨true, false, congrArg some h4, fun hact => ?_, fun hact => ?_⟩
        · exfalso; simp at hact
        · exact ⟨Below.refl _ _, rfl, nofr rfl⟩
      refine ⟨fun wu7 hC hd => ?_, ?_⟩
      · obtain ⟨h4, _⟩ := hd
        skip
        replace h4 : V 4 = (.bool false) := h4
        replace hb := hb.trans (hC.mono hb.size)
        replace hk1 := blk_ext hk1 hC
        refine ⟨true, false, congrArg some h4, fun hact => ?_, fun hact => ?_⟩
        · exfalso; simp at hact
        · exact ⟨Below.refl _ _, rfl, nofr rfl⟩
      refine ⟨fun wu8 hC hd => ?_, ?_⟩
      · obtain ⟨h4, h6, h7, _⟩ := hd
        skip
        skip
        skip
        replace h4 : V 4 = (.bool false) := h4
        replace h6 : V 6 = gb false (.bool false) := h6
        replace h7 : V 7 = gb false (.bool false) := h7
        replace hb := hb.trans (hC.mono hb.size)
        replace hk1 := blk_ext hk1 hC
        refine ⟨true, false, congrArg some h4, fun hact => ?_, fun hact => ?_⟩
        · exfalso; simp at hact
        · exact ⟨Below.refl _ _, rfl, nofr rfl⟩
      refine ⟨fun wu9 hC hd => ?_, ?_⟩
      · obtain ⟨h4, h8, _⟩ := hd
        skip
        skip
        replace h4 : V 4 = (.bool false) := h4
        replace h8 : V 8 = gb false (.bool false) := h8
        replace hb := hb.trans (hC.mono hb.size)
        replace hk1 := blk_ext hk1 hC
        exact Runs.does (r_pick (b := false) (congrArg some h4) (congrArg some h8) rfl rfl) ⟨Below.refl _ _, rfl, nofr rfl⟩
      refine ⟨fun wu10 hC hd => ?_, ?_⟩
      · obtain ⟨h0, h1, h2, h3, h4, h5, h6, h7, h8, h9, _⟩ := hd
        skip
        skip
        skip
        skip
        skip
        skip
        skip
        skip
        skip
        skip
        replace h0 : V 0 = (.pointer (some ⟨b1, 0, none⟩)) := h0
        replace h1 : V 1 = (.int .u8 v.1) := h1
        replace h2 : V 2 = (.int .i64 ((tvalP v.1))) := h2
        replace h3 : V 3 = (.bool false) := h3
        replace h4 : V 4 = (.bool false) := h4
        replace h5 : V 5 = gb false (.bool false) := h5
        replace h6 : V 6 = gb false (.bool false) := h6
        replace h7 : V 7 = gb false (.bool false) := h7
        replace h8 : V 8 = gb false (.bool false) := h8
        replace h9 : V 9 = (.bool false) := h9
        replace hb := hb.trans (hC.mono hb.size)
        replace hk1 := blk_ext hk1 hC
        exact Runs.does (r_assign (congrArg some h9)) ⟨Below.refl _ _, rfl, nofr rfl⟩
      trivial
    · skip
      clear hf fa; intro V w3 fa he3 hp hnb hf
      have hv0 : V 0 = (.pointer (some ⟨b1, 0, none⟩)) := postsHold_at hp 0 rfl
      have hv1 : V 1 = (.int .u8 v.1) := postsHold_at hp 1 rfl
      have hv2 : V 2 = (.int .i64 ((tvalP v.1))) := postsHold_at hp 2 rfl
      have hv3 : V 3 = (.bool false) := postsHold_at hp 3 rfl
      have hv4 : V 4 = (.bool false) := postsHold_at hp 4 rfl
      have hv5 : V 5 = gb false (.bool false) := postsHold_at hp 5 rfl
      have hv6 : V 6 = gb false (.bool false) := postsHold_at hp 6 rfl
      have hv7 : V 7 = gb false (.bool false) := postsHold_at hp 7 rfl
      have hv8 : V 8 = gb false (.bool false) := postsHold_at hp 8 rfl
      have hv9 : V 9 = (.bool false) := postsHold_at hp 9 rfl
      have hv10 : V 10 = (.bool false) := postsHold_at hp 10 rfl
      simp only [List.take_succ_cons, List.take_zero, insAll, ins, hv0, hv1, hv2, hv3, hv4, hv5, hv6, hv7, hv8, hv9, hv10] at hf
      clear hp hnb hv0 hv1 hv2 hv3 hv4 hv5 hv6 hv7 hv8 hv9 hv10
      replace hk1 := blk_ext hk1 he3
      replace hb := hb.trans (Below.mono he3 hb.size)
      (try simp only [Exit.then, Exit.inBlock, ↓reduceIte, Nat.reduceEqDiff])
      refine hK2 _ _ ?_
      refine wp_ret ?_
      (try simp only [Exit.then, Exit.inBlock])
      refine ret1 hf rfl rfl ?_
      refine ⟨?_, hb⟩; unfold vrightP; rw [hsp1b]; (try rfl)

theorem nb_true {b : Bool} (h : (!b) = true) : b = false := by cases b <;> simp_all
theorem nb_false {b : Bool} (h : (!b) = false) : b = true := by cases b <;> simp_all
theorem vright_def (v : MVal) : vrightP v = (decide (tvalP v.1 = 0) && (decide ((tcutP v).1 = v.1) && decide ((tcutP v).2.1 = v.2.1))) := by
  unfold vrightP
  cases decide (tvalP v.1 = 0) <;> simp
def pairOk (v : MVal) (b : Int) : Bool := decide (v.1 = b) && vrightP v
def allR : List MVal → List Int → Bool
  | v :: l, b :: s => pairOk v b && allR l s
  | _, _ => true

def takeP (d : Sl MVal) (s : ByteArray) : Bool := bif (decide (((d.len : Nat) : Int) ≠ ((s.size : Nat) : Int))) then false else allR d.list (nums s)

set_option maxHeartbeats 1000000 in
set_option maxRecDepth 100000 in
theorem take_any (d : Sl MVal) (s : ByteArray) (w : World) (g : fSlW 2 16 vMVal fMVal w d) (hd : d.len ≤ 100) (hs : s.size ≤ 100) : Calls Try.prog 37 #[(.slice d.at' d.len d.cap), (.string s)] w fun e w' => e = .returned (.bool (takeP d s)) ∧ Below w.heap.size w w' := by
  have hdl := g.2.1; have hdc := g.2.2.1; unfold maxLen at hdc
  refine sx_enter (L := [(0, (.slice d.at' d.len d.cap)), (1, (.string s))]) Try.func37 rfl rfl rfl rfl (fun fa hf => ?_)
  have hb : Below w.heap.size w w := Below.refl _ _
  refine wp_seq_k (fun K1 hK1 => ?_)
  refine wp_region_lit ?_
  refine sqv hf (r_assign rfl) rfl rfl rfl ?_; clear hf fa; intro fa hf
  apply wpList_nil
  (try simp only [Exit.then, Exit.inBlock, ↓reduceIte, Nat.reduceEqDiff])
  refine hK1 _ _ ?_
  refine wp_seq_k (fun K2 hK2 => ?_)
  refine wp_seq_k (fun K3 hK3 => ?_)
  refine wp_region_lit ?_
  refine sqv hf (r_move rfl) rfl rfl rfl ?_; clear hf fa; intro fa hf
  refine sqv hf (r_lensl rfl Try.underlying52) rfl rfl rfl ?_; clear hf fa; intro fa hf
  refine sqv hf (r_move rfl) rfl rfl rfl ?_; clear hf fa; intro fa hf
  refine sqv hf (r_lens rfl Try.underlying9) rfl rfl rfl ?_; clear hf fa; intro fa hf
  refine sqv hf (r_ne rfl rfl) rfl rfl rfl ?_; clear hf fa; intro fa hf
  apply wpList_nil
  (try simp only [Exit.then, Exit.inBlock, ↓reduceIte, Nat.reduceEqDiff])
  refine hK3 _ _ ?_
  refine wp_cond_split (t := (decide (((d.len : Nat) : Int) ≠ ((s.size : Nat) : Int)))) (hf.ev rfl) (fun hqt11_1 => ?_) (fun hqt11_1 => ?_)
  · have hqt11_1b := hqt11_1
    try simp only [decide_eq_true_eq, Bool.and_eq_true, Bool.or_eq_true, Bool.not_eq_true', decide_eq_false_iff_not, ne_eq, Bool.not_eq_true] at hqt11_1
    refine wp_seq_k (fun K4 hK4 => ?_)
    refine wp_region_lit ?_
    refine sqv hf (r_assign rfl) rfl rfl rfl ?_; clear hf fa; intro fa hf
    apply wpList_nil
    (try simp only [Exit.then, Exit.inBlock, ↓reduceIte, Nat.reduceEqDiff])
    refine hK4 _ _ ?_
    refine wp_ret ?_
    (try simp only [Exit.then, Exit.inBlock])
    refine ret1 hf rfl rfl ?_
    refine ⟨?_, hb⟩; unfold takeP; rw [hqt11_1b]; rfl
  · have hqt11_1b := hqt11_1
    replace hqt11_1 := Bool.eq_false_iff.1 hqt11_1
    try simp only [ne_eq, decide_eq_true_eq, Bool.and_eq_true, Bool.or_eq_true, Bool.not_eq_true', decide_eq_false_iff_not] at hqt11_1
    refine wp_skip ?_
    (try simp only [Exit.then, Exit.inBlock, ↓reduceIte, Nat.reduceEqDiff])
    refine hK2 _ _ ?_
    refine wp_seq_k (fun K5 hK5 => ?_)
    refine wp_seq_k (fun K6 hK6 => ?_)
    refine wp_region_lit ?_
    refine sqv hf (r_move rfl) rfl rfl rfl ?_; clear hf fa; intro fa hf
    refine sqv hf (r_lensl rfl Try.underlying52) rfl rfl rfl ?_; clear hf fa; intro fa hf
    refine sqv hf (r_move rfl) rfl rfl rfl ?_; clear hf fa; intro fa hf
    apply wpList_nil
    (try simp only [Exit.then, Exit.inBlock, ↓reduceIte, Nat.reduceEqDiff])
    refine hK6 _ _ ?_
    refine wp_block ?_
    refine wp_loop_k (fun mq fa wr => ∃ (k : Nat), mq = d.len - k ∧ Fr 31 fa [(0, (.slice d.at' d.len d.cap)), (1, (.string s)), (12, (.slice d.at' d.len d.cap)), (13, (.int .i64 ((d.len : Nat) : Int))), (14, (.int .i64 ((k : Nat) : Int)))] ∧ Below w.heap.size w wr ∧ (k ≤ d.len) ∧ (allR d.list (nums s) = allR (d.list.drop k) ((nums s).drop k))) ?_ ?_
    · skip
      exact ⟨_, 0, rfl, hf.sub ⟨rfl, rfl, rfl, rfl, (some_int (by first | rfl | omega)), trivial⟩, hb, by omega, rfl⟩
    · skip
      clear hf fa; intro mq1 fa w1 hI KL1 hKL1
      clear hb
      obtain ⟨k, hmq1, hf, hb, hk, Hs⟩ := hI
      have hsb := sbt_lt s k
      refine wp_seq_k (fun K7 hK7 => ?_)
      refine wp_region_lit ?_
      refine sqv hf (r_lt rfl rfl) rfl rfl rfl ?_; clear hf fa; intro fa hf
      apply wpList_nil
      (try simp only [Exit.then, Exit.inBlock, ↓reduceIte, Nat.reduceEqDiff])
      refine hK7 _ _ ?_
      refine wp_seq_k (fun K8 hK8 => ?_)
      refine wp_cond_split (t := (decide (((k : Nat) : Int) < ((d.len : Nat) : Int)))) (hf.ev rfl) (fun hqt15_1 => ?_) (fun hqt15_1 => ?_)
      · have hqt15_1b := hqt15_1
        try simp only [decide_eq_true_eq, Bool.and_eq_true, Bool.or_eq_true, Bool.not_eq_true', decide_eq_false_iff_not, ne_eq, Bool.not_eq_true] at hqt15_1
        refine wp_skip ?_
        (try simp only [Exit.then, Exit.inBlock, ↓reduceIte, Nat.reduceEqDiff])
        refine hK8 _ _ ?_
        refine wp_seq_k (fun K9 hK9 => ?_)
        refine wp_block ?_
        refine wp_seq_k (fun K10 hK10 => ?_)
        obtain ⟨y, hy⟩ : ∃ x, d.list[k]? = some x := ⟨_, List.getElem?_eq_getElem (by rw [Sl.list_length]; omega)⟩
        have gy := fSl_el g.2 hy
        have hz1 := fInt_u8 (w := w) gy.1
        have hz2 := fInt_u64 (w := w) gy.2.1
        have hlen : d.len = s.size := by have h := hqt11_1; omega
        refine wp_region_lit ?_
        refine sqv hf (r_move rfl) rfl rfl rfl ?_; clear hf fa; intro fa hf
        have hy1 : (d.list)[k]? = some y := hy
        obtain ⟨ab1, aoff1, hat1, hlb1, hel1⟩ := RdS.at (RdS.of_arg g.2) hy1
        refine sqv hf (r_ixa (sz := 2) (j := k) (evAt rfl hat1) rfl Try.underlying52 (by kernel_rfl) rfl (by omega) rfl) rfl rfl rfl ?_; clear hf fa; intro fa hf
        refine sqv hf (r_loadA (cs := [(.int .u8 y.1), (.int .u64 y.2.1)]) rfl Try.underlying57 rfl (by kernel_rfl) (cellsAt_below hel1 hb hlb1)) rfl rfl rfl ?_; clear hf fa; intro fa hf
        refine sqdt hf (d_alloc (z := (.agg #[(.int .u8 (0 : Int)), (.int .u64 (0 : Int))])) (cs := #[(.int .u8 (0 : Int)), (.int .u64 (0 : Int))]) (by kernel_rfl) rfl) rfl rfl rfl ?_; clear hf fa; rintro fa _ w2 ⟨b1, rfl, hle1, hk1, he1⟩ hf
        have hBb1 : w.heap.size ≤ b1 := Nat.le_trans hb.size hle1
        replace hb := hb.trans (Below.mono he1 hb.size)
        refine sqv hf (r_assign rfl) rfl rfl rfl ?_; clear hf fa; intro fa hf
        refine sqn hf (d_storeK (T := 57) (v := (.agg #[(.int .u8 y.1), (.int .u64 y.2.1)])) (cs := #[(.int .u8 (0 : Int)), (.int .u64 (0 : Int))]) (cs' := #[(.int .u8 y.1), (.int .u64 y.2.1)]) rfl rfl (by kernel_rfl) (by kernel_rfl) hk1 (by kernel_rfl) (by kernel_rfl)) rfl rfl ?_; clear hf fa; rintro fa _ w3 ⟨hk2, hg1⟩ hf
        replace hb := hb.trans (grown_below hg1 hb.size hBb1)
        apply wpList_nil
        (try simp only [Exit.then, Exit.inBlock, ↓reduceIte, Nat.reduceEqDiff])
        refine hK10 _ _ ?_
        refine wp_seq_k (fun K11 hK11 => ?_)
        by_cases hsp1 : y.1 = ((sbt s k : Nat) : Int)
        · have hsp1b : decide (y.1 = ((sbt s k : Nat) : Int)) = true := decide_eq_true hsp1
          refine wp_region_un (fun wq => Below w3.heap.size w3 wq) (fun w w' => Below w.heap.size w w')
            (fun V => [(fun x _ => x = (.pointer (some ⟨b1, 0, none⟩))), (fun x _ => x = (.int .u8 y.1)), (fun x _ => x = (.string s)), (fun x _ => x = (.int .i64 ((k : Nat) : Int))), (fun x _ => x = (.int .u8 ((sbt s k : Nat) : Int))), (fun x _ => x = (.bool false)), (fun x _ => x = (.bool false)), (fun x _ => x = (.agg #[(.int .u8 y.1), (.int .u64 y.2.1)])), (fun x _ => x = (.bool (vrightP y))), (fun x _ => x = (.bool (!(vrightP y)))), (fun x _ => x = (.bool (!(vrightP y))))])
            []
            [[], [0], [], [], [2, 3], [1, 4], [5], [6], [6, 7], [6, 8], [6, 9]]
            hf (by kernel_rfl) (by kernel_rfl) (fun _ => rfl) ((Below.refl _ _).drew) (fun a b h1 h2 => h1.trans (h2.mono h1.size)) (fun _ _ h => h.size) (fun V => ⟨kept_eq, kept_eq, kept_eq, kept_eq, kept_eq, kept_eq, kept_eq, kept_eq, kept_eq, kept_eq, kept_eq, trivial⟩) (fun _ _ _ _ _ => rfl) ?_ ?_
          · skip
            intro V
            refine ⟨fun wu0 hC hd => ?_, ?_⟩
            · clear hd
              replace hb := hb.trans (hC.mono hb.size)
              replace hk2 := blk_ext hk2 hC
              exact Runs.does (r_fa rfl Try.underlying57 (f := 0) (q := 0) rfl (by kernel_rfl) rfl) ⟨Below.refl _ _, rfl, nofr rfl⟩
            refine ⟨fun wu1 hC hd => ?_, ?_⟩
            · obtain ⟨h0, _⟩ := hd
              skip
              replace h0 : V 0 = (.pointer (some ⟨b1, 0, none⟩)) := h0
              replace hb := hb.trans (hC.mono hb.size)
              replace hk2 := blk_ext hk2 hC
              exact Runs.does (r_load (v := (.int .u8 y.1)) (congrArg some h0) Try.underlying5 rfl (cell_blk hk2 rfl)) ⟨Below.refl _ _, rfl, nofr rfl⟩
            refine ⟨fun wu2 hC hd => ?_, ?_⟩
            · clear hd
              replace hb := hb.trans (hC.mono hb.size)
              replace hk2 := blk_ext hk2 hC
              exact Runs.does (r_move rfl) ⟨Below.refl _ _, rfl, nofr rfl⟩
            refine ⟨fun wu3 hC hd => ?_, ?_⟩
            · clear hd
              replace hb := hb.trans (hC.mono hb.size)
              replace hk2 := blk_ext hk2 hC
              exact Runs.does (r_move rfl) ⟨Below.refl _ _, rfl, nofr rfl⟩
            refine ⟨fun wu4 hC hd => ?_, ?_⟩
            · obtain ⟨h2, h3, _⟩ := hd
              skip
              skip
              replace h2 : V 2 = (.string s) := h2
              replace h3 : V 3 = (.int .i64 ((k : Nat) : Int)) := h3
              replace hb := hb.trans (hC.mono hb.size)
              replace hk2 := blk_ext hk2 hC
              exact Runs.does (r_sindexD (j := k) (congrArg some h2) (congrArg some h3) Try.underlying9 rfl (by omega)) ⟨Below.refl _ _, rfl, nofr rfl⟩
            refine ⟨fun wu5 hC hd => ?_, ?_⟩
            · obtain ⟨h1, h4, _⟩ := hd
              skip
              skip
              replace h1 : V 1 = (.int .u8 y.1) := h1
              replace h4 : V 4 = (.int .u8 ((sbt s k : Nat) : Int)) := h4
              replace hb := hb.trans (hC.mono hb.size)
              replace hk2 := blk_ext hk2 hC
              exact Runs.does (Runs.veq (r_ne (congrArg some h1) (congrArg some h4)) (congrArg Value.bool (show _ = false from (by simpa using hsp1)))) ⟨Below.refl _ _, rfl, nofr rfl⟩
            refine ⟨fun wu6 hC hd => ?_, ?_⟩
            · obtain ⟨h5, _⟩ := hd
              skip
              replace h5 : V 5 = (.bool false) := h5
              replace hb := hb.trans (hC.mono hb.size)
              replace hk2 := blk_ext hk2 hC
              exact Runs.does (r_move (congrArg some h5)) ⟨Below.refl _ _, rfl, nofr rfl⟩
            refine ⟨fun wu7 hC hd => ?_, ?_⟩
            · obtain ⟨h6, _⟩ := hd
              skip
              replace h6 : V 6 = (.bool false) := h6
              replace hb := hb.trans (hC.mono hb.size)
              replace hk2 := blk_ext hk2 hC
              refine ⟨true, false, congrArg some h6, fun hact => ?_, fun hact => ?_⟩
              · exact Runs.does (r_loadA (cs := [(.int .u8 y.1), (.int .u64 y.2.1)]) rfl Try.underlying57 rfl (by kernel_rfl) (cellsAt_blk hk2)) ⟨Below.refl _ _, rfl, nofr rfl⟩
              · exfalso; simp at hact
            refine ⟨fun wu8 hC hd => ?_, ?_⟩
            · obtain ⟨h6, h7, _⟩ := hd
              skip
              skip
              replace h6 : V 6 = (.bool false) := h6
              replace h7 : V 7 = (.agg #[(.int .u8 y.1), (.int .u64 y.2.1)]) := h7
              replace hb := hb.trans (hC.mono hb.size)
              replace hk2 := blk_ext hk2 hC
              refine ⟨true, false, congrArg some h6, fun hact => ?_, fun hact => ?_⟩
              · refine Does.mono (d_callB (vs := [(.agg #[(.int .u8 y.1), (.int .u64 y.2.1)])]) (show [some (V 7)] = [some (.agg #[(.int .u8 y.1), (.int .u64 y.2.1)])] from by rw [h7]) Try.func34 (by kernel_rfl) (by kernel_rfl) (vright_any y _ hz1 hz2)) (fun _ _ h => ⟨h.2, h.1, nofr rfl⟩)
              · exfalso; simp at hact
            refine ⟨fun wu9 hC hd => ?_, ?_⟩
            · obtain ⟨h6, h8, _⟩ := hd
              skip
              skip
              replace h6 : V 6 = (.bool false) := h6
              replace h8 : V 8 = (.bool (vrightP y)) := h8
              replace hb := hb.trans (hC.mono hb.size)
              replace hk2 := blk_ext hk2 hC
              refine ⟨true, false, congrArg some h6, fun hact => ?_, fun hact => ?_⟩
              · exact Runs.does (r_not (congrArg some h8)) ⟨Below.refl _ _, rfl, nofr rfl⟩
              · exfalso; simp at hact
            refine ⟨fun wu10 hC hd => ?_, ?_⟩
            · obtain ⟨h6, h9, _⟩ := hd
              skip
              skip
              replace h6 : V 6 = (.bool false) := h6
              replace h9 : V 9 = (.bool (!(vrightP y))) := h9
              replace hb := hb.trans (hC.mono hb.size)
              replace hk2 := blk_ext hk2 hC
              exact Runs.does (r_pick (b := false) (congrArg some h6) rfl (congrArg some h9) rfl) ⟨Below.refl _ _, rfl, nofr rfl⟩
            trivial
          · skip
            clear hf fa; intro V w4 fa he2 hp hnb hf
            have hv0 : V 0 = (.pointer (some ⟨b1, 0, none⟩)) := postsHold_at hp 0 rfl
            have hv1 : V 1 = (.int .u8 y.1) := postsHold_at hp 1 rfl
            have hv2 : V 2 = (.string s) := postsHold_at hp 2 rfl
            have hv3 : V 3 = (.int .i64 ((k : Nat) : Int)) := postsHold_at hp 3 rfl
            have hv4 : V 4 = (.int .u8 ((sbt s k : Nat) : Int)) := postsHold_at hp 4 rfl
            have hv5 : V 5 = (.bool false) := postsHold_at hp 5 rfl
            have hv6 : V 6 = (.bool false) := postsHold_at hp 6 rfl
            have hv7 : V 7 = (.agg #[(.int .u8 y.1), (.int .u64 y.2.1)]) := postsHold_at hp 7 rfl
            have hv8 : V 8 = (.bool (vrightP y)) := postsHold_at hp 8 rfl
            have hv9 : V 9 = (.bool (!(vrightP y))) := postsHold_at hp 9 rfl
            have hv10 : V 10 = (.bool (!(vrightP y))) := postsHold_at hp 10 rfl
            simp only [List.take_succ_cons, List.take_zero, insAll, ins, hv0, hv1, hv2, hv3, hv4, hv5, hv6, hv7, hv8, hv9, hv10] at hf
            clear hp hnb hv0 hv1 hv2 hv3 hv4 hv5 hv6 hv7 hv8 hv9 hv10
            replace hk2 := blk_ext hk2 he2
            replace hb := hb.trans (Below.mono he2 hb.size)
            (try simp only [Exit.then, Exit.inBlock, ↓reduceIte, Nat.reduceEqDiff])
            refine hK11 _ _ ?_
            refine wp_cond_split (t := (!(vrightP y))) (hf.ev rfl) (fun hqt29_1 => ?_) (fun hqt29_1 => ?_)
            · have hqt29_1b := hqt29_1
              try simp only [decide_eq_true_eq, Bool.and_eq_true, Bool.or_eq_true, Bool.not_eq_true', decide_eq_false_iff_not, ne_eq, Bool.not_eq_true] at hqt29_1
              refine wp_seq_k (fun K12 hK12 => ?_)
              refine wp_region_lit ?_
              refine sqv hf (r_assign rfl) rfl rfl rfl ?_; clear hf fa; intro fa hf
              apply wpList_nil
              (try simp only [Exit.then, Exit.inBlock, ↓reduceIte, Nat.reduceEqDiff])
              refine hK12 _ _ ?_
              refine wp_ret ?_
              (try simp only [Exit.then, Exit.inBlock])
              refine ret1 hf rfl rfl ?_
              refine ⟨?_, hb⟩; unfold takeP; rw [hqt11_1b, Hs, drop_at hy, drop_at (nums_get (s := s) (j := k) (by omega)), allR, show pairOk y ((sbt s k : Nat) : Int) = false from (by unfold pairOk; rw [hsp1b, nb_true hqt29_1b]; rfl)]; rfl
            · have hqt29_1b := hqt29_1
              replace hqt29_1 := Bool.eq_false_iff.1 hqt29_1
              try simp only [ne_eq, decide_eq_true_eq, Bool.and_eq_true, Bool.or_eq_true, Bool.not_eq_true', decide_eq_false_iff_not] at hqt29_1
              refine wp_skip ?_
              (try simp only [Exit.then, Exit.inBlock, ↓reduceIte, Nat.reduceEqDiff])
              refine hK9 _ _ ?_
              refine wp_region_lit ?_
              refine sqv hf (r_add (C := (((k : Nat) : Int) + (1 : Int))) rfl rfl (by rw [IntKind.wrap_i64]; omega)) rfl rfl rfl ?_; clear hf fa; intro fa hf
              refine sqv hf (r_move rfl) rfl rfl rfl ?_; clear hf fa; intro fa hf
              apply wpList_nil
              (try simp only [Exit.then, Exit.inBlock, ↓reduceIte, Nat.reduceEqDiff])
              refine hKL1 _ _ _ (by omega) ⟨(k + 1), rfl, hf.sub ⟨rfl, rfl, rfl, rfl, (some_int (by first | rfl | omega)), trivial⟩, hb, by omega, (by have h := Hs; rw [drop_at hy, drop_at (nums_get (s := s) (j := k) (by omega)), allR, show pairOk y ((sbt s k : Nat) : Int) = true from (by unfold pairOk; rw [hsp1b, nb_false hqt29_1b]; rfl)] at h; simpa using h)⟩
        · have hsp1b : decide (y.1 = ((sbt s k : Nat) : Int)) = false := decide_eq_false hsp1
          refine wp_region_un (fun wq => Below w3.heap.size w3 wq) (fun w w' => Below w.heap.size w w')
            (fun V => [(fun x _ => x = (.pointer (some ⟨b1, 0, none⟩))), (fun x _ => x = (.int .u8 y.1)), (fun x _ => x = (.string s)), (fun x _ => x = (.int .i64 ((k : Nat) : Int))), (fun x _ => x = (.int .u8 ((sbt s k : Nat) : Int))), (fun x _ => x = (.bool true)), (fun x _ => x = (.bool true)), (fun x _ => x = gb false (.bool false)), (fun x _ => x = gb false (.bool false)), (fun x _ => x = gb false (.bool false)), (fun x _ => x = (.bool true))])
            []
            [[], [0], [], [], [2, 3], [1, 4], [5], [6], [6, 7], [6, 8], [6, 9]]
            hf (by kernel_rfl) (by kernel_rfl) (fun _ => rfl) ((Below.refl _ _).drew) (fun a b h1 h2 => h1.trans (h2.mono h1.size)) (fun _ _ h => h.size) (fun V => ⟨kept_eq, kept_eq, kept_eq, kept_eq, kept_eq, kept_eq, kept_eq, kept_eq, kept_eq, kept_eq, kept_eq, trivial⟩) (fun _ _ _ _ _ => rfl) ?_ ?_
          · skip
            intro V
            refine ⟨fun wu0 hC hd => ?_, ?_⟩
            · clear hd
              replace hb := hb.trans (hC.mono hb.size)
              replace hk2 := blk_ext hk2 hC
              exact Runs.does (r_fa rfl Try.underlying57 (f := 0) (q := 0) rfl (by kernel_rfl) rfl) ⟨Below.refl _ _, rfl, nofr rfl⟩
            refine ⟨fun wu1 hC hd => ?_, ?_⟩
            · obtain ⟨h0, _⟩ := hd
              skip
              replace h0 : V 0 = (.pointer (some ⟨b1, 0, none⟩)) := h0
              replace hb := hb.trans (hC.mono hb.size)
              replace hk2 := blk_ext hk2 hC
              exact Runs.does (r_load (v := (.int .u8 y.1)) (congrArg some h0) Try.underlying5 rfl (cell_blk hk2 rfl)) ⟨Below.refl _ _, rfl, nofr rfl⟩
            refine ⟨fun wu2 hC hd => ?_, ?_⟩
            · clear hd
              replace hb := hb.trans (hC.mono hb.size)
              replace hk2 := blk_ext hk2 hC
              exact Runs.does (r_move rfl) ⟨Below.refl _ _, rfl, nofr rfl⟩
            refine ⟨fun wu3 hC hd => ?_, ?_⟩
            · clear hd
              replace hb := hb.trans (hC.mono hb.size)
              replace hk2 := blk_ext hk2 hC
              exact Runs.does (r_move rfl) ⟨Below.refl _ _, rfl, nofr rfl⟩
            refine ⟨fun wu4 hC hd => ?_, ?_⟩
            · obtain ⟨h2, h3, _⟩ := hd
              skip
              skip
              replace h2 : V 2 = (.string s) := h2
              replace h3 : V 3 = (.int .i64 ((k : Nat) : Int)) := h3
              replace hb := hb.trans (hC.mono hb.size)
              replace hk2 := blk_ext hk2 hC
              exact Runs.does (r_sindexD (j := k) (congrArg some h2) (congrArg some h3) Try.underlying9 rfl (by omega)) ⟨Below.refl _ _, rfl, nofr rfl⟩
            refine ⟨fun wu5 hC hd => ?_, ?_⟩
            · obtain ⟨h1, h4, _⟩ := hd
              skip
              skip
              replace h1 : V 1 = (.int .u8 y.1) := h1
              replace h4 : V 4 = (.int .u8 ((sbt s k : Nat) : Int)) := h4
              replace hb := hb.trans (hC.mono hb.size)
              replace hk2 := blk_ext hk2 hC
              exact Runs.does (Runs.veq (r_ne (congrArg some h1) (congrArg some h4)) (congrArg Value.bool (show _ = true from (by simpa using hsp1)))) ⟨Below.refl _ _, rfl, nofr rfl⟩
            refine ⟨fun wu6 hC hd => ?_, ?_⟩
            · obtain ⟨h5, _⟩ := hd
              skip
              replace h5 : V 5 = (.bool true) := h5
              replace hb := hb.trans (hC.mono hb.size)
              replace hk2 := blk_ext hk2 hC
              exact Runs.does (r_move (congrArg some h5)) ⟨Below.refl _ _, rfl, nofr rfl⟩
            refine ⟨fun wu7 hC hd => ?_, ?_⟩
            · obtain ⟨h6, _⟩ := hd
              skip
              replace h6 : V 6 = (.bool true) := h6
              replace hb := hb.trans (hC.mono hb.size)
              replace hk2 := blk_ext hk2 hC
              refine ⟨true, true, congrArg some h6, fun hact => ?_, fun hact => ?_⟩
              · exfalso; simp at hact
              · exact ⟨Below.refl _ _, rfl, nofr rfl⟩
            refine ⟨fun wu8 hC hd => ?_, ?_⟩
            · obtain ⟨h6, h7, _⟩ := hd
              skip
              skip
              replace h6 : V 6 = (.bool true) := h6
              replace h7 : V 7 = gb false (.bool false) := h7
              replace hb := hb.trans (hC.mono hb.size)
              replace hk2 := blk_ext hk2 hC
              refine ⟨true, true, congrArg some h6, fun hact => ?_, fun hact => ?_⟩
              · exfalso; simp at hact
              · exact ⟨Below.refl _ _, rfl, nofr rfl⟩
            refine ⟨fun wu9 hC hd => ?_, ?_⟩
            · obtain ⟨h6, h8, _⟩ := hd
              skip
              skip
              replace h6 : V 6 = (.bool true) := h6
              replace h8 : V 8 = gb false (.bool false) := h8
              replace hb := hb.trans (hC.mono hb.size)
              replace hk2 := blk_ext hk2 hC
              refine ⟨true, true, congrArg some h6, fun hact => ?_, fun hact => ?_⟩
              · exfalso; simp at hact
              · exact ⟨Below.refl _ _, rfl, nofr rfl⟩
            refine ⟨fun wu10 hC hd => ?_, ?_⟩
            · obtain ⟨h6, h9, _⟩ := hd
              skip
              skip
              replace h6 : V 6 = (.bool true) := h6
              replace h9 : V 9 = gb false (.bool false) := h9
              replace hb := hb.trans (hC.mono hb.size)
              replace hk2 := blk_ext hk2 hC
              exact Runs.does (r_pick (b := true) (congrArg some h6) rfl (congrArg some h9) rfl) ⟨Below.refl _ _, rfl, nofr rfl⟩
            trivial
          · skip
            clear hf fa; intro V w5 fa he3 hp hnb hf
            have hv0 : V 0 = (.pointer (some ⟨b1, 0, none⟩)) := postsHold_at hp 0 rfl
            have hv1 : V 1 = (.int .u8 y.1) := postsHold_at hp 1 rfl
            have hv2 : V 2 = (.string s) := postsHold_at hp 2 rfl
            have hv3 : V 3 = (.int .i64 ((k : Nat) : Int)) := postsHold_at hp 3 rfl
            have hv4 : V 4 = (.int .u8 ((sbt s k : Nat) : Int)) := postsHold_at hp 4 rfl
            have hv5 : V 5 = (.bool true) := postsHold_at hp 5 rfl
            have hv6 : V 6 = (.bool true) := postsHold_at hp 6 rfl
            have hv7 : V 7 = gb false (.bool false) := postsHold_at hp 7 rfl
            have hv8 : V 8 = gb false (.bool false) := postsHold_at hp 8 rfl
            have hv9 : V 9 = gb false (.bool false) := postsHold_at hp 9 rfl
            have hv10 : V 10 = (.bool true) := postsHold_at hp 10 rfl
            simp only [List.take_succ_cons, List.take_zero, insAll, ins, hv0, hv1, hv2, hv3, hv4, hv5, hv6, hv7, hv8, hv9, hv10] at hf
            clear hp hnb hv0 hv1 hv2 hv3 hv4 hv5 hv6 hv7 hv8 hv9 hv10
            replace hk2 := blk_ext hk2 he3
            replace hb := hb.trans (Below.mono he3 hb.size)
            (try simp only [Exit.then, Exit.inBlock, ↓reduceIte, Nat.reduceEqDiff])
            refine hK11 _ _ ?_
            refine wp_cond_true (hf.ev rfl) ?_
            refine wp_seq_k (fun K13 hK13 => ?_)
            refine wp_region_lit ?_
            refine sqv hf (r_assign rfl) rfl rfl rfl ?_; clear hf fa; intro fa hf
            apply wpList_nil
            (try simp only [Exit.then, Exit.inBlock, ↓reduceIte, Nat.reduceEqDiff])
            refine hK13 _ _ ?_
            refine wp_ret ?_
            (try simp only [Exit.then, Exit.inBlock])
            refine ret1 hf rfl rfl ?_
            refine ⟨?_, hb⟩; unfold takeP; rw [hqt11_1b, Hs, drop_at hy, drop_at (nums_get (s := s) (j := k) (by omega)), allR, show pairOk y ((sbt s k : Nat) : Int) = false from (by unfold pairOk; rw [hsp1b]; rfl)]; rfl
      · have hqt15_1b := hqt15_1
        replace hqt15_1 := Bool.eq_false_iff.1 hqt15_1
        try simp only [ne_eq, decide_eq_true_eq, Bool.and_eq_true, Bool.or_eq_true, Bool.not_eq_true', decide_eq_false_iff_not] at hqt15_1
        refine wp_exit ?_
        (try simp only [Exit.then, Exit.inBlock, ↓reduceIte, Nat.reduceEqDiff])
        refine hK5 _ _ ?_
        refine wp_seq_k (fun K14 hK14 => ?_)
        refine wp_region_lit ?_
        refine sqv hf (r_assign rfl) rfl rfl rfl ?_; clear hf fa; intro fa hf
        apply wpList_nil
        (try simp only [Exit.then, Exit.inBlock, ↓reduceIte, Nat.reduceEqDiff])
        refine hK14 _ _ ?_
        refine wp_ret ?_
        (try simp only [Exit.then, Exit.inBlock])
        refine ret1 hf rfl rfl ?_
        refine ⟨?_, hb⟩; unfold takeP; rw [hqt11_1b, Hs, List.drop_eq_nil_of_le (by rw [Sl.list_length]; omega)]; rfl

set_option maxHeartbeats 1000000 in
set_option maxRecDepth 100000 in
theorem rtake_any (d : Sl MVal) (s : ByteArray) (w : World) (g : fSlW 2 16 vMVal fMVal w d) (hd : d.len ≤ 100) (hs : s.size ≤ 100) : Calls Try.prog 38 #[(.slice d.at' d.len d.cap), (.string s)] w fun e w' => e = .returned (.bool (takeP d s)) ∧ Below w.heap.size w w' := by
  have hdl := g.2.1; have hdc := g.2.2.1; unfold maxLen at hdc
  refine sx_enter (L := [(0, (.slice d.at' d.len d.cap)), (1, (.string s))]) Try.func38 rfl rfl rfl rfl (fun fa hf => ?_)
  have hb : Below w.heap.size w w := Below.refl _ _
  refine wp_seq_k (fun K1 hK1 => ?_)
  refine wp_region_lit ?_
  refine sqv hf (r_assign rfl) rfl rfl rfl ?_; clear hf fa; intro fa hf
  apply wpList_nil
  (try simp only [Exit.then, Exit.inBlock, ↓reduceIte, Nat.reduceEqDiff])
  refine hK1 _ _ ?_
  refine wp_seq_k (fun K2 hK2 => ?_)
  refine wp_seq_k (fun K3 hK3 => ?_)
  refine wp_region_lit ?_
  refine sqv hf (r_assign rfl) rfl rfl rfl ?_; clear hf fa; intro fa hf
  apply wpList_nil
  (try simp only [Exit.then, Exit.inBlock, ↓reduceIte, Nat.reduceEqDiff])
  refine hK3 _ _ ?_
  refine wp_block ?_
  refine wp_loop_k (fun mq fa wr => ∃ (k : Nat), mq = d.len - k ∧ Fr 54 fa [(0, (.slice d.at' d.len d.cap)), (1, (.string s)), (5, (.int .i64 ((k : Nat) : Int)))] ∧ Below w.heap.size w wr ∧ (k ≤ d.len) ∧ (k ≤ s.size) ∧ (allR d.list (nums s) = allR (d.list.drop k) ((nums s).drop k))) ?_ ?_
  · skip
    exact ⟨_, 0, rfl, hf.sub ⟨rfl, rfl, (some_int (by first | rfl | omega)), trivial⟩, hb, by omega, by omega, rfl⟩
  · skip
    clear hf fa; intro mq1 fa w1 hI KL1 hKL1
    clear hb
    obtain ⟨k, hmq1, hf, hb, hk, hk2, Hs⟩ := hI
    have hsb := sbt_lt s k
    refine wp_seq_k (fun K4 hK4 => ?_)
    refine wp_seq_k (fun K5 hK5 => ?_)
    refine wp_region_lit ?_
    refine sqv hf (r_move rfl) rfl rfl rfl ?_; clear hf fa; intro fa hf
    refine sqv hf (r_move rfl) rfl rfl rfl ?_; clear hf fa; intro fa hf
    refine sqv hf (r_lensl rfl Try.underlying52) rfl rfl rfl ?_; clear hf fa; intro fa hf
    refine sqv hf (r_lt rfl rfl) rfl rfl rfl ?_; clear hf fa; intro fa hf
    refine sqv hf (r_move rfl) rfl rfl rfl ?_; clear hf fa; intro fa hf
    refine sqgT (act := (decide (((k : Nat) : Int) < ((d.len : Nat) : Int)))) (ag := true) (c := (decide (((k : Nat) : Int) < ((d.len : Nat) : Int)))) (v := (.int .i64 ((k : Nat) : Int))) hf rfl rfl rfl (fun hact => (r_move rfl)) rfl rfl ?_; clear hf fa; intro fa hf
    refine sqgT (act := (decide (((k : Nat) : Int) < ((d.len : Nat) : Int)))) (ag := true) (c := (decide (((k : Nat) : Int) < ((d.len : Nat) : Int)))) (v := (.string s)) hf rfl rfl rfl (fun hact => (r_move rfl)) rfl rfl ?_; clear hf fa; intro fa hf
    refine sqgT (act := (decide (((k : Nat) : Int) < ((d.len : Nat) : Int)))) (ag := true) (c := (decide (((k : Nat) : Int) < ((d.len : Nat) : Int)))) (v := (.int .i64 ((s.size : Nat) : Int))) hf rfl rfl rfl (fun hact => (r_lens (gb_ev hact rfl) Try.underlying9)) rfl rfl ?_; clear hf fa; intro fa hf
    refine sqgT (act := (decide (((k : Nat) : Int) < ((d.len : Nat) : Int)))) (ag := true) (c := (decide (((k : Nat) : Int) < ((d.len : Nat) : Int)))) (v := (.bool (decide (((k : Nat) : Int) < ((s.size : Nat) : Int))))) hf rfl rfl rfl (fun hact => (r_lt (gb_ev hact rfl) (gb_ev hact rfl))) rfl rfl ?_; clear hf fa; intro fa hf
    refine sqv hf (r_pickA (b := (decide (((k : Nat) : Int) < ((d.len : Nat) : Int)))) (e := (decide (((k : Nat) : Int) < ((s.size : Nat) : Int)))) rfl rfl rfl) rfl rfl rfl ?_; clear hf fa; intro fa hf
    apply wpList_nil
    (try simp only [Exit.then, Exit.inBlock, ↓reduceIte, Nat.reduceEqDiff])
    refine hK5 _ _ ?_
    refine wp_cond_split (t := ((decide (((k : Nat) : Int) < ((d.len : Nat) : Int))) && (decide (((k : Nat) : Int) < ((s.size : Nat) : Int))))) (hf.ev rfl) (fun hqt15_1 => ?_) (fun hqt15_1 => ?_)
    · have hqt15_1b := hqt15_1
      try simp only [decide_eq_true_eq, Bool.and_eq_true, Bool.or_eq_true, Bool.not_eq_true', decide_eq_false_iff_not, ne_eq, Bool.not_eq_true] at hqt15_1
      refine wp_skip ?_
      (try simp only [Exit.then, Exit.inBlock, ↓reduceIte, Nat.reduceEqDiff])
      refine hK4 _ _ ?_
      refine wp_seq_k (fun K6 hK6 => ?_)
      refine wp_block ?_
      refine wp_seq_k (fun K7 hK7 => ?_)
      obtain ⟨y, hy⟩ : ∃ x, d.list[k]? = some x := ⟨_, List.getElem?_eq_getElem (by rw [Sl.list_length]; omega)⟩
      have gy := fSl_el g.2 hy
      have hz1 := fInt_u8 (w := w) gy.1
      have hz2 := fInt_u64 (w := w) gy.2.1
      by_cases hsp1 : y.1 = ((sbt s k : Nat) : Int)
      · have hsp1b : decide (y.1 = ((sbt s k : Nat) : Int)) = true := decide_eq_true hsp1
        skip
        by_cases hsp2 : tvalP y.1 = 0
        · have hsp2b : decide (tvalP y.1 = 0) = true := decide_eq_true hsp2
          skip
          have hy1 : (d.list)[k]? = some y := hy
          obtain ⟨ab1, aoff1, hat1, hlb1, hel1⟩ := RdS.at (RdS.of_arg g.2) hy1
          refine wp_region_un (fun wq => Below w1.heap.size w1 wq) (fun w w' => Below w.heap.size w w')
            (fun V => [(fun x _ => x = (.slice d.at' d.len d.cap)), (fun x _ => x = (.int .i64 ((k : Nat) : Int))), (fun x _ => x = (.pointer (some ⟨ab1, (aoff1 + k * 2), none⟩))), (fun x _ => x = (.pointer (some ⟨ab1, (aoff1 + k * 2), none⟩))), (fun x _ => x = (.int .u8 y.1)), (fun x _ => x = (.string s)), (fun x _ => x = (.int .i64 ((k : Nat) : Int))), (fun x _ => x = (.int .u8 ((sbt s k : Nat) : Int))), (fun x _ => x = (.bool false)), (fun x _ => x = (.bool false)), (fun x _ => x = (.slice d.at' d.len d.cap)), (fun x _ => x = (.int .i64 ((k : Nat) : Int))), (fun x _ => x = (.pointer (some ⟨ab1, (aoff1 + k * 2), none⟩))), (fun x _ => x = (.pointer (some ⟨ab1, (aoff1 + k * 2), none⟩))), (fun x _ => x = (.int .u8 y.1)), (fun x _ => x = (.int .i64 y.1)), (fun x _ => x = (.int .i64 ((tvalP y.1)))), (fun x _ => x = (.bool false)), (fun x _ => x = (.bool false)), (fun x _ => x = (.bool false)), (fun x _ => x = (.slice d.at' d.len d.cap)), (fun x _ => x = (.int .i64 ((k : Nat) : Int))), (fun x _ => x = (.pointer (some ⟨ab1, (aoff1 + k * 2), none⟩))), (fun x _ => x = (.agg #[(.int .u8 y.1), (.int .u64 y.2.1)])), (fun x _ => x = (.agg #[(.int .u8 ((tcutP y).1)), (.int .u64 ((tcutP y).2.1))])), (fun x _ => x = (.slice d.at' d.len d.cap)), (fun x _ => x = (.int .i64 ((k : Nat) : Int))), (fun x _ => x = (.pointer (some ⟨ab1, (aoff1 + k * 2), none⟩))), (fun x _ => x = (.agg #[(.int .u8 y.1), (.int .u64 y.2.1)])), (fun x _ => x = (.bool (!((decide (((tcutP y).1) = y.1)) && (decide (((tcutP y).2.1) = y.2.1)))))), (fun x _ => x = (.bool (!((decide (((tcutP y).1) = y.1)) && (decide (((tcutP y).2.1) = y.2.1))))))])
            []
            [[], [], [0, 1], [2], [3], [], [], [5, 6], [4, 7], [8], [9], [9], [9, 10, 11], [9, 12], [9, 13], [9, 14], [9, 15], [9, 16], [9, 17], [16, 18], [19], [19], [19, 20, 21], [19, 22], [19, 23], [19], [19], [19, 25, 26], [19, 27], [19, 24, 28], [19, 29]]
            hf (by kernel_rfl) (by kernel_rfl) (fun _ => rfl) ((Below.refl _ _).drew) (fun a b h1 h2 => h1.trans (h2.mono h1.size)) (fun _ _ h => h.size) (fun V => ⟨kept_eq, kept_eq, kept_eq, kept_eq, kept_eq, kept_eq, kept_eq, kept_eq, kept_eq, kept_eq, kept_eq, kept_eq, kept_eq, kept_eq, kept_eq, kept_eq, kept_eq, kept_eq, kept_eq, kept_eq, kept_eq, kept_eq, kept_eq, kept_eq, kept_eq, kept_eq, kept_eq, kept_eq, kept_eq, kept_eq, kept_eq, trivial⟩) (fun _ _ _ _ _ => rfl) ?_ ?_
          · skip
            intro V
            refine ⟨fun wu0 hC hd => ?_, ?_⟩
            · clear hd
              replace hb := hb.trans (hC.mono hb.size)
              exact Runs.does (r_move rfl) ⟨Below.refl _ _, rfl, nofr rfl⟩
            refine ⟨fun wu1 hC hd => ?_, ?_⟩
            · clear hd
              replace hb := hb.trans (hC.mono hb.size)
              exact Runs.does (r_move rfl) ⟨Below.refl _ _, rfl, nofr rfl⟩
            refine ⟨fun wu2 hC hd => ?_, ?_⟩
            · obtain ⟨h0, h1, _⟩ := hd
              skip
              skip
              replace h0 : V 0 = (.slice d.at' d.len d.cap) := h0
              replace h1 : V 1 = (.int .i64 ((k : Nat) : Int)) := h1
              replace hb := hb.trans (hC.mono hb.size)
              exact Runs.does (r_ixa (sz := 2) (j := k) (evAt (congrArg some h0) hat1) (congrArg some h1) Try.underlying52 (by kernel_rfl) rfl (by omega) rfl) ⟨Below.refl _ _, rfl, nofr rfl⟩
            refine ⟨fun wu3 hC hd => ?_, ?_⟩
            · obtain ⟨h2, _⟩ := hd
              skip
              replace h2 : V 2 = (.pointer (some ⟨ab1, (aoff1 + k * 2), none⟩)) := h2
              replace hb := hb.trans (hC.mono hb.size)
              exact Runs.does (r_fa (congrArg some h2) Try.underlying57 (f := 0) (q := (aoff1 + k * 2)) rfl (by kernel_rfl) rfl) ⟨Below.refl _ _, rfl, nofr rfl⟩
            refine ⟨fun wu4 hC hd => ?_, ?_⟩
            · obtain ⟨h3, _⟩ := hd
              skip
              replace h3 : V 3 = (.pointer (some ⟨ab1, (aoff1 + k * 2), none⟩)) := h3
              replace hb := hb.trans (hC.mono hb.size)
              exact Runs.does (r_load (v := (.int .u8 y.1)) (congrArg some h3) Try.underlying5 rfl (cellsAt_cell (cellsAt_below hel1 hb hlb1) (i := 0) rfl rfl)) ⟨Below.refl _ _, rfl, nofr rfl⟩
            refine ⟨fun wu5 hC hd => ?_, ?_⟩
            · clear hd
              replace hb := hb.trans (hC.mono hb.size)
              exact Runs.does (r_move rfl) ⟨Below.refl _ _, rfl, nofr rfl⟩
            refine ⟨fun wu6 hC hd => ?_, ?_⟩
            · clear hd
              replace hb := hb.trans (hC.mono hb.size)
              exact Runs.does (r_move rfl) ⟨Below.refl _ _, rfl, nofr rfl⟩
            refine ⟨fun wu7 hC hd => ?_, ?_⟩
            · obtain ⟨h5, h6, _⟩ := hd
              skip
              skip
              replace h5 : V 5 = (.string s) := h5
              replace h6 : V 6 = (.int .i64 ((k : Nat) : Int)) := h6
              replace hb := hb.trans (hC.mono hb.size)
              exact Runs.does (r_sindexD (j := k) (congrArg some h5) (congrArg some h6) Try.underlying9 rfl (by omega)) ⟨Below.refl _ _, rfl, nofr rfl⟩
            refine ⟨fun wu8 hC hd => ?_, ?_⟩
            · obtain ⟨h4, h7, _⟩ := hd
              skip
              skip
              replace h4 : V 4 = (.int .u8 y.1) := h4
              replace h7 : V 7 = (.int .u8 ((sbt s k : Nat) : Int)) := h7
              replace hb := hb.trans (hC.mono hb.size)
              exact Runs.does (Runs.veq (r_ne (congrArg some h4) (congrArg some h7)) (congrArg Value.bool (show _ = false from (by simpa using hsp1)))) ⟨Below.refl _ _, rfl, nofr rfl⟩
            refine ⟨fun wu9 hC hd => ?_, ?_⟩
            · obtain ⟨h8, _⟩ := hd
              skip
              replace h8 : V 8 = (.bool false) := h8
              replace hb := hb.trans (hC.mono hb.size)
              exact Runs.does (r_move (congrArg some h8)) ⟨Below.refl _ _, rfl, nofr rfl⟩
            refine ⟨fun wu10 hC hd => ?_, ?_⟩
            · obtain ⟨h9, _⟩ := hd
              skip
              replace h9 : V 9 = (.bool false) := h9
              replace hb := hb.trans (hC.mono hb.size)
              refine ⟨true, false, congrArg some h9, fun hact => ?_, fun hact => ?_⟩
              · exact Runs.does (r_move rfl) ⟨Below.refl _ _, rfl, nofr rfl⟩
              · exfalso; simp at hact
            refine ⟨fun wu11 hC hd => ?_, ?_⟩
            · obtain ⟨h9, _⟩ := hd
              skip
              replace h9 : V 9 = (.bool false) := h9
              replace hb := hb.trans (hC.mono hb.size)
              refine ⟨true, false, congrArg some h9, fun hact => ?_, fun hact => ?_⟩
              · exact Runs.does (r_move rfl) ⟨Below.refl _ _, rfl, nofr rfl⟩
              · exfalso; simp at hact
            refine ⟨fun wu12 hC hd => ?_, ?_⟩
            · obtain ⟨h9, h10, h11, _⟩ := hd
              skip
              skip
              skip
              replace h9 : V 9 = (.bool false) := h9
              replace h10 : V 10 = (.slice d.at' d.len d.cap) := h10
              replace h11 : V 11 = (.int .i64 ((k : Nat) : Int)) := h11
              replace hb := hb.trans (hC.mono hb.size)
              refine ⟨true, false, congrArg some h9, fun hact => ?_, fun hact => ?_⟩
              · exact Runs.does (r_ixa (sz := 2) (j := k) (evAt (congrArg some h10) hat1) (congrArg some h11) Try.underlying52 (by kernel_rfl) rfl (by omega) rfl) ⟨Below.refl _ _, rfl, nofr rfl⟩
              · exfalso; simp at hact
            refine ⟨fun wu13 hC hd => ?_, ?_⟩
            · obtain ⟨h9, h12, _⟩ := hd
              skip
              skip
              replace h9 : V 9 = (.bool false) := h9
              replace h12 : V 12 = (.pointer (some ⟨ab1, (aoff1 + k * 2), none⟩)) := h12
              replace hb := hb.trans (hC.mono hb.size)
              refine ⟨true, false, congrArg some h9, fun hact => ?_, fun hact => ?_⟩
              · exact Runs.does (r_fa (congrArg some h12) Try.underlying57 (f := 0) (q := (aoff1 + k * 2)) rfl (by kernel_rfl) rfl) ⟨Below.refl _ _, rfl, nofr rfl⟩
              · exfalso; simp at hact
            refine ⟨fun wu14 hC hd => ?_, ?_⟩
            · obtain ⟨h9, h13, _⟩ := hd
              skip
              skip
              replace h9 : V 9 = (.bool false) := h9
              replace h13 : V 13 = (.pointer (some ⟨ab1, (aoff1 + k * 2), none⟩)) := h13
              replace hb := hb.trans (hC.mono hb.size)
              refine ⟨true, false, congrArg some h9, fun hact => ?_, fun hact => ?_⟩
              · exact Runs.does (r_load (v := (.int .u8 y.1)) (congrArg some h13) Try.underlying5 rfl (cellsAt_cell (cellsAt_below hel1 hb hlb1) (i := 0) rfl rfl)) ⟨Below.refl _ _, rfl, nofr rfl⟩
              · exfalso; simp at hact
            refine ⟨fun wu15 hC hd => ?_, ?_⟩
            · obtain ⟨h9, h14, _⟩ := hd
              skip
              skip
              replace h9 : V 9 = (.bool false) := h9
              replace h14 : V 14 = (.int .u8 y.1) := h14
              replace hb := hb.trans (hC.mono hb.size)
              refine ⟨true, false, congrArg some h9, fun hact => ?_, fun hact => ?_⟩
              · exact Runs.does (r_conv (C := y.1) (congrArg some h14) Try.underlying5 Try.underlying3 (by rw [IntKind.wrap_i64]; omega)) ⟨Below.refl _ _, rfl, nofr rfl⟩
              · exfalso; simp at hact
            refine ⟨fun wu16 hC hd => ?_, ?_⟩
            · obtain ⟨h9, h15, _⟩ := hd
              skip
              skip
              replace h9 : V 9 = (.bool false) := h9
              replace h15 : V 15 = (.int .i64 y.1) := h15
              replace hb := hb.trans (hC.mono hb.size)
              refine ⟨true, false, congrArg some h9, fun hact => ?_, fun hact => ?_⟩
              · refine Does.mono (d_callS (vs := [(.int .i64 y.1)]) (show [some (V 15)] = [some (.int .i64 y.1)] from by rw [h15]) Try.func35 (by kernel_rfl) (by kernel_rfl) (rval2_any y.1 _)) (fun _ _ h => ⟨h.2 ▸ Below.refl _ _, h.1, nofr rfl⟩)
              · exfalso; simp at hact
            refine ⟨fun wu17 hC hd => ?_, ?_⟩
            · obtain ⟨h9, h16, _⟩ := hd
              skip
              skip
              replace h9 : V 9 = (.bool false) := h9
              replace h16 : V 16 = (.int .i64 ((tvalP y.1))) := h16
              replace hb := hb.trans (hC.mono hb.size)
              refine ⟨true, false, congrArg some h9, fun hact => ?_, fun hact => ?_⟩
              · exact Runs.does (Runs.veq (r_ne (congrArg some h16) rfl) (congrArg Value.bool (show _ = false from (by simpa using hsp2)))) ⟨Below.refl _ _, rfl, nofr rfl⟩
              · exfalso; simp at hact
            refine ⟨fun wu18 hC hd => ?_, ?_⟩
            · obtain ⟨h9, h17, _⟩ := hd
              skip
              skip
              replace h9 : V 9 = (.bool false) := h9
              replace h17 : V 17 = (.bool false) := h17
              replace hb := hb.trans (hC.mono hb.size)
              exact Runs.does (r_pick (b := false) (congrArg some h9) rfl (congrArg some h17) rfl) ⟨Below.refl _ _, rfl, nofr rfl⟩
            refine ⟨fun wu19 hC hd => ?_, ?_⟩
            · obtain ⟨h16, h18, _⟩ := hd
              skip
              skip
              replace h16 : V 16 = (.int .i64 ((tvalP y.1))) := h16
              replace h18 : V 18 = (.bool false) := h18
              replace hb := hb.trans (hC.mono hb.size)
              exact Runs.does (r_move (congrArg some h18)) ⟨Below.refl _ _, rfl, nofr rfl⟩
            refine ⟨fun wu20 hC hd => ?_, ?_⟩
            · obtain ⟨h19, _⟩ := hd
              skip
              replace h19 : V 19 = (.bool false) := h19
              replace hb := hb.trans (hC.mono hb.size)
              refine ⟨true, false, congrArg some h19, fun hact => ?_, fun hact => ?_⟩
              · exact Runs.does (r_move rfl) ⟨Below.refl _ _, rfl, nofr rfl⟩
              · exfalso; simp at hact
            refine ⟨fun wu21 hC hd => ?_, ?_⟩
            · obtain ⟨h19, _⟩ := hd
              skip
              replace h19 : V 19 = (.bool false) := h19
              replace hb := hb.trans (hC.mono hb.size)
              refine ⟨true, false, congrArg some h19, fun hact => ?_, fun hact => ?_⟩
              · exact Runs.does (r_move rfl) ⟨Below.refl _ _, rfl, nofr rfl⟩
              · exfalso; simp at hact
            refine ⟨fun wu22 hC hd => ?_, ?_⟩
            · obtain ⟨h19, h20, h21, _⟩ := hd
              skip
              skip
              skip
              replace h19 : V 19 = (.bool false) := h19
              replace h20 : V 20 = (.slice d.at' d.len d.cap) := h20
              replace h21 : V 21 = (.int .i64 ((k : Nat) : Int)) := h21
              replace hb := hb.trans (hC.mono hb.size)
              refine ⟨true, false, congrArg some h19, fun hact => ?_, fun hact => ?_⟩
              · exact Runs.does (r_ixa (sz := 2) (j := k) (evAt (congrArg some h20) hat1) (congrArg some h21) Try.underlying52 (by kernel_rfl) rfl (by omega) rfl) ⟨Below.refl _ _, rfl, nofr rfl⟩
              · exfalso; simp at hact
            refine ⟨fun wu23 hC hd => ?_, ?_⟩
            · obtain ⟨h19, h22, _⟩ := hd
              skip
              skip
              replace h19 : V 19 = (.bool false) := h19
              replace h22 : V 22 = (.pointer (some ⟨ab1, (aoff1 + k * 2), none⟩)) := h22
              replace hb := hb.trans (hC.mono hb.size)
              refine ⟨true, false, congrArg some h19, fun hact => ?_, fun hact => ?_⟩
              · exact Runs.does (r_loadA (cs := [(.int .u8 y.1), (.int .u64 y.2.1)]) (congrArg some h22) Try.underlying57 rfl (by kernel_rfl) (cellsAt_below hel1 hb hlb1)) ⟨Below.refl _ _, rfl, nofr rfl⟩
              · exfalso; simp at hact
            refine ⟨fun wu24 hC hd => ?_, ?_⟩
            · obtain ⟨h19, h23, _⟩ := hd
              skip
              skip
              replace h19 : V 19 = (.bool false) := h19
              replace h23 : V 23 = (.agg #[(.int .u8 y.1), (.int .u64 y.2.1)]) := h23
              replace hb := hb.trans (hC.mono hb.size)
              refine ⟨true, false, congrArg some h19, fun hact => ?_, fun hact => ?_⟩
              · refine Does.mono (d_callB (vs := [(.agg #[(.int .u8 y.1), (.int .u64 y.2.1)])]) (show [some (V 23)] = [some (.agg #[(.int .u8 y.1), (.int .u64 y.2.1)])] from by rw [h23]) Try.func32 (by kernel_rfl) (by kernel_rfl) (rcut2_any y _ hz1 hz2)) (fun _ _ h => ⟨h.2, h.1, nofr rfl⟩)
              · exfalso; simp at hact
            refine ⟨fun wu25 hC hd => ?_, ?_⟩
            · obtain ⟨h19, _⟩ := hd
              skip
              replace h19 : V 19 = (.bool false) := h19
              replace hb := hb.trans (hC.mono hb.size)
              refine ⟨true, false, congrArg some h19, fun hact => ?_, fun hact => ?_⟩
              · exact Runs.does (r_move rfl) ⟨Below.refl _ _, rfl, nofr rfl⟩
              · exfalso; simp at hact
            refine ⟨fun wu26 hC hd => ?_, ?_⟩
            · obtain ⟨h19, _⟩ := hd
              skip
              replace h19 : V 19 = (.bool false) := h19
              replace hb := hb.trans (hC.mono hb.size)
              refine ⟨true, false, congrArg some h19, fun hact => ?_, fun hact => ?_⟩
              · exact Runs.does (r_move rfl) ⟨Below.refl _ _, rfl, nofr rfl⟩
              · exfalso; simp at hact
            refine ⟨fun wu27 hC hd => ?_, ?_⟩
            · obtain ⟨h19, h25, h26, _⟩ := hd
              skip
              skip
              skip
              replace h19 : V 19 = (.bool false) := h19
              replace h25 : V 25 = (.slice d.at' d.len d.cap) := h25
              replace h26 : V 26 = (.int .i64 ((k : Nat) : Int)) := h26
              replace hb := hb.trans (hC.mono hb.size)
              refine ⟨true, false, congrArg some h19, fun hact => ?_, fun hact => ?_⟩
              · exact Runs.does (r_ixa (sz := 2) (j := k) (evAt (congrArg some h25) hat1) (congrArg some h26) Try.underlying52 (by kernel_rfl) rfl (by omega) rfl) ⟨Below.refl _ _, rfl, nofr rfl⟩
              · exfalso; simp at hact
            refine ⟨fun wu28 hC hd => ?_, ?_⟩
            · obtain ⟨h19, h27, _⟩ := hd
              skip
              skip
              replace h19 : V 19 = (.bool false) := h19
              replace h27 : V 27 = (.pointer (some ⟨ab1, (aoff1 + k * 2), none⟩)) := h27
              replace hb := hb.trans (hC.mono hb.size)
              refine ⟨true, false, congrArg some h19, fun hact => ?_, fun hact => ?_⟩
              · exact Runs.does (r_loadA (cs := [(.int .u8 y.1), (.int .u64 y.2.1)]) (congrArg some h27) Try.underlying57 rfl (by kernel_rfl) (cellsAt_below hel1 hb hlb1)) ⟨Below.refl _ _, rfl, nofr rfl⟩
              · exfalso; simp at hact
            refine ⟨fun wu29 hC hd => ?_, ?_⟩
            · obtain ⟨h19, h24, h28, _⟩ := hd
              skip
              skip
              skip
              replace h19 : V 19 = (.bool false) := h19
              replace h24 : V 24 = (.agg #[(.int .u8 ((tcutP y).1)), (.int .u64 ((tcutP y).2.1))]) := h24
              replace h28 : V 28 = (.agg #[(.int .u8 y.1), (.int .u64 y.2.1)]) := h28
              replace hb := hb.trans (hC.mono hb.size)
              refine ⟨true, false, congrArg some h19, fun hact => ?_, fun hact => ?_⟩
              · exact Runs.does (r_ane (k := 5) (congrArg some h24) (congrArg some h28) (by kernel_rfl) (eqt_struct (xs := #[(.int .u8 ((tcutP y).1)), (.int .u64 ((tcutP y).2.1))]) (ys := #[(.int .u8 y.1), (.int .u64 y.2.1)]) Try.underlying57 (by kernel_rfl) (eqf_cons (by kernel_rfl) (fun _ => by kernel_rfl) (fun _ => by kernel_rfl) (eqt_int (kk := .u8) (a := ((tcutP y).1)) (b := y.1) Try.underlying5) (eqf_one (by kernel_rfl) (fun _ => by kernel_rfl) (fun _ => by kernel_rfl) (eqt_int (kk := .u64) (a := ((tcutP y).2.1)) (b := y.2.1) Try.underlying55)))) rfl) ⟨Below.refl _ _, rfl, nofr rfl⟩
              · exfalso; simp at hact
            refine ⟨fun wu30 hC hd => ?_, ?_⟩
            · obtain ⟨h19, h29, _⟩ := hd
              skip
              skip
              replace h19 : V 19 = (.bool false) := h19
              replace h29 : V 29 = (.bool (!((decide (((tcutP y).1) = y.1)) && (decide (((tcutP y).2.1) = y.2.1))))) := h29
              replace hb := hb.trans (hC.mono hb.size)
              exact Runs.does (r_pick (b := false) (congrArg some h19) rfl (congrArg some h29) rfl) ⟨Below.refl _ _, rfl, nofr rfl⟩
            trivial
          · skip
            clear hf fa; intro V w2 fa he1 hp hnb hf
            have hv0 : V 0 = (.slice d.at' d.len d.cap) := postsHold_at hp 0 rfl
            have hv1 : V 1 = (.int .i64 ((k : Nat) : Int)) := postsHold_at hp 1 rfl
            have hv2 : V 2 = (.pointer (some ⟨ab1, (aoff1 + k * 2), none⟩)) := postsHold_at hp 2 rfl
            have hv3 : V 3 = (.pointer (some ⟨ab1, (aoff1 + k * 2), none⟩)) := postsHold_at hp 3 rfl
            have hv4 : V 4 = (.int .u8 y.1) := postsHold_at hp 4 rfl
            have hv5 : V 5 = (.string s) := postsHold_at hp 5 rfl
            have hv6 : V 6 = (.int .i64 ((k : Nat) : Int)) := postsHold_at hp 6 rfl
            have hv7 : V 7 = (.int .u8 ((sbt s k : Nat) : Int)) := postsHold_at hp 7 rfl
            have hv8 : V 8 = (.bool false) := postsHold_at hp 8 rfl
            have hv9 : V 9 = (.bool false) := postsHold_at hp 9 rfl
            have hv10 : V 10 = (.slice d.at' d.len d.cap) := postsHold_at hp 10 rfl
            have hv11 : V 11 = (.int .i64 ((k : Nat) : Int)) := postsHold_at hp 11 rfl
            have hv12 : V 12 = (.pointer (some ⟨ab1, (aoff1 + k * 2), none⟩)) := postsHold_at hp 12 rfl
            have hv13 : V 13 = (.pointer (some ⟨ab1, (aoff1 + k * 2), none⟩)) := postsHold_at hp 13 rfl
            have hv14 : V 14 = (.int .u8 y.1) := postsHold_at hp 14 rfl
            have hv15 : V 15 = (.int .i64 y.1) := postsHold_at hp 15 rfl
            have hv16 : V 16 = (.int .i64 ((tvalP y.1))) := postsHold_at hp 16 rfl
            have hv17 : V 17 = (.bool false) := postsHold_at hp 17 rfl
            have hv18 : V 18 = (.bool false) := postsHold_at hp 18 rfl
            have hv19 : V 19 = (.bool false) := postsHold_at hp 19 rfl
            have hv20 : V 20 = (.slice d.at' d.len d.cap) := postsHold_at hp 20 rfl
            have hv21 : V 21 = (.int .i64 ((k : Nat) : Int)) := postsHold_at hp 21 rfl
            have hv22 : V 22 = (.pointer (some ⟨ab1, (aoff1 + k * 2), none⟩)) := postsHold_at hp 22 rfl
            have hv23 : V 23 = (.agg #[(.int .u8 y.1), (.int .u64 y.2.1)]) := postsHold_at hp 23 rfl
            have hv24 : V 24 = (.agg #[(.int .u8 ((tcutP y).1)), (.int .u64 ((tcutP y).2.1))]) := postsHold_at hp 24 rfl
            have hv25 : V 25 = (.slice d.at' d.len d.cap) := postsHold_at hp 25 rfl
            have hv26 : V 26 = (.int .i64 ((k : Nat) : Int)) := postsHold_at hp 26 rfl
            have hv27 : V 27 = (.pointer (some ⟨ab1, (aoff1 + k * 2), none⟩)) := postsHold_at hp 27 rfl
            have hv28 : V 28 = (.agg #[(.int .u8 y.1), (.int .u64 y.2.1)]) := postsHold_at hp 28 rfl
            have hv29 : V 29 = (.bool (!((decide (((tcutP y).1) = y.1)) && (decide (((tcutP y).2.1) = y.2.1))))) := postsHold_at hp 29 rfl
            have hv30 : V 30 = (.bool (!((decide (((tcutP y).1) = y.1)) && (decide (((tcutP y).2.1) = y.2.1))))) := postsHold_at hp 30 rfl
            simp only [List.take_succ_cons, List.take_zero, insAll, ins, hv0, hv1, hv2, hv3, hv4, hv5, hv6, hv7, hv8, hv9, hv10, hv11, hv12, hv13, hv14, hv15, hv16, hv17, hv18, hv19, hv20, hv21, hv22, hv23, hv24, hv25, hv26, hv27, hv28, hv29, hv30] at hf
            clear hp hnb hv0 hv1 hv2 hv3 hv4 hv5 hv6 hv7 hv8 hv9 hv10 hv11 hv12 hv13 hv14 hv15 hv16 hv17 hv18 hv19 hv20 hv21 hv22 hv23 hv24 hv25 hv26 hv27 hv28 hv29 hv30
            replace hb := hb.trans (Below.mono he1 hb.size)
            (try simp only [Exit.then, Exit.inBlock, ↓reduceIte, Nat.reduceEqDiff])
            refine hK7 _ _ ?_
            refine wp_cond_split (t := (!((decide (((tcutP y).1) = y.1)) && (decide (((tcutP y).2.1) = y.2.1))))) (hf.ev rfl) (fun hqt48_1 => ?_) (fun hqt48_1 => ?_)
            · have hqt48_1b := hqt48_1
              try simp only [decide_eq_true_eq, Bool.and_eq_true, Bool.or_eq_true, Bool.not_eq_true', decide_eq_false_iff_not, ne_eq, Bool.not_eq_true] at hqt48_1
              refine wp_seq_k (fun K8 hK8 => ?_)
              refine wp_region_lit ?_
              refine sqv hf (r_assign rfl) rfl rfl rfl ?_; clear hf fa; intro fa hf
              apply wpList_nil
              (try simp only [Exit.then, Exit.inBlock, ↓reduceIte, Nat.reduceEqDiff])
              refine hK8 _ _ ?_
              refine wp_ret ?_
              (try simp only [Exit.then, Exit.inBlock])
              refine ret1 hf rfl rfl ?_
              refine ⟨congrArg (fun b => Ending.returned (.bool b)) ?_, hb⟩; have hA : allR d.list (nums s) = false := by rw [Hs, drop_at hy, drop_at (nums_get (s := s) (j := k) (by omega)), allR, show pairOk y ((sbt s k : Nat) : Int) = false from (by unfold pairOk; rw [vright_def, hsp1b, hsp2b, nb_true hqt48_1b]; rfl)]; rfl
              unfold takeP; rw [hA]; simp
            · have hqt48_1b := hqt48_1
              replace hqt48_1 := Bool.eq_false_iff.1 hqt48_1
              try simp only [ne_eq, decide_eq_true_eq, Bool.and_eq_true, Bool.or_eq_true, Bool.not_eq_true', decide_eq_false_iff_not] at hqt48_1
              refine wp_skip ?_
              (try simp only [Exit.then, Exit.inBlock, ↓reduceIte, Nat.reduceEqDiff])
              refine hK6 _ _ ?_
              refine wp_region_lit ?_
              refine sqv hf (r_move rfl) rfl rfl rfl ?_; clear hf fa; intro fa hf
              refine sqv hf (r_add (C := (((k : Nat) : Int) + (1 : Int))) rfl rfl (by rw [IntKind.wrap_i64]; omega)) rfl rfl rfl ?_; clear hf fa; intro fa hf
              refine sqv hf (r_assign rfl) rfl rfl rfl ?_; clear hf fa; intro fa hf
              apply wpList_nil
              (try simp only [Exit.then, Exit.inBlock, ↓reduceIte, Nat.reduceEqDiff])
              refine hKL1 _ _ _ (by omega) ⟨(k + 1), rfl, hf.sub ⟨rfl, rfl, (some_int (by first | rfl | omega)), trivial⟩, hb, by omega, by omega, (by have h := Hs; rw [drop_at hy, drop_at (nums_get (s := s) (j := k) (by omega)), allR, show pairOk y ((sbt s k : Nat) : Int) = true from (by unfold pairOk; rw [vright_def, hsp1b, hsp2b, nb_false hqt48_1b]; rfl)] at h; simpa using h)⟩
        · have hsp2b : decide (tvalP y.1 = 0) = false := decide_eq_false hsp2
          skip
          have hy2 : (d.list)[k]? = some y := hy
          obtain ⟨ab2, aoff2, hat2, hlb2, hel2⟩ := RdS.at (RdS.of_arg g.2) hy2
          refine wp_region_un (fun wq => Below w1.heap.size w1 wq) (fun w w' => Below w.heap.size w w')
            (fun V => [(fun x _ => x = (.slice d.at' d.len d.cap)), (fun x _ => x = (.int .i64 ((k : Nat) : Int))), (fun x _ => x = (.pointer (some ⟨ab2, (aoff2 + k * 2), none⟩))), (fun x _ => x = (.pointer (some ⟨ab2, (aoff2 + k * 2), none⟩))), (fun x _ => x = (.int .u8 y.1)), (fun x _ => x = (.string s)), (fun x _ => x = (.int .i64 ((k : Nat) : Int))), (fun x _ => x = (.int .u8 ((sbt s k : Nat) : Int))), (fun x _ => x = (.bool false)), (fun x _ => x = (.bool false)), (fun x _ => x = (.slice d.at' d.len d.cap)), (fun x _ => x = (.int .i64 ((k : Nat) : Int))), (fun x _ => x = (.pointer (some ⟨ab2, (aoff2 + k * 2), none⟩))), (fun x _ => x = (.pointer (some ⟨ab2, (aoff2 + k * 2), none⟩))), (fun x _ => x = (.int .u8 y.1)), (fun x _ => x = (.int .i64 y.1)), (fun x _ => x = (.int .i64 ((tvalP y.1)))), (fun x _ => x = (.bool true)), (fun x _ => x = (.bool true)), (fun x _ => x = (.bool true)), (fun x _ => x = gb false (.bool false)), (fun x _ => x = gb false (.bool false)), (fun x _ => x = gb false (.bool false)), (fun x _ => x = gb false (.bool false)), (fun x _ => x = gb false (.bool false)), (fun x _ => x = gb false (.bool false)), (fun x _ => x = gb false (.bool false)), (fun x _ => x = gb false (.bool false)), (fun x _ => x = gb false (.bool false)), (fun x _ => x = gb false (.bool false)), (fun x _ => x = (.bool true))])
            []
            [[], [], [0, 1], [2], [3], [], [], [5, 6], [4, 7], [8], [9], [9], [9, 10, 11], [9, 12], [9, 13], [9, 14], [9, 15], [9, 16], [9, 17], [16, 18], [19], [19], [19, 20, 21], [19, 22], [19, 23], [19], [19], [19, 25, 26], [19, 27], [19, 24, 28], [19, 29]]
            hf (by kernel_rfl) (by kernel_rfl) (fun _ => rfl) ((Below.refl _ _).drew) (fun a b h1 h2 => h1.trans (h2.mono h1.size)) (fun _ _ h => h.size) (fun V => ⟨kept_eq, kept_eq, kept_eq, kept_eq, kept_eq, kept_eq, kept_eq, kept_eq, kept_eq, kept_eq, kept_eq, kept_eq, kept_eq, kept_eq, kept_eq, kept_eq, kept_eq, kept_eq, kept_eq, kept_eq, kept_eq, kept_eq, kept_eq, kept_eq, kept_eq, kept_eq, kept_eq, kept_eq, kept_eq, kept_eq, kept_eq, trivial⟩) (fun _ _ _ _ _ => rfl) ?_ ?_
          · skip
            intro V
            refine ⟨fun wu0 hC hd => ?_, ?_⟩
            · clear hd
              replace hb := hb.trans (hC.mono hb.size)
              exact Runs.does (r_move rfl) ⟨Below.refl _ _, rfl, nofr rfl⟩
            refine ⟨fun wu1 hC hd => ?_, ?_⟩
            · clear hd
              replace hb := hb.trans (hC.mono hb.size)
              exact Runs.does (r_move rfl) ⟨Below.refl _ _, rfl, nofr rfl⟩
            refine ⟨fun wu2 hC hd => ?_, ?_⟩
            · obtain ⟨h0, h1, _⟩ := hd
              skip
              skip
              replace h0 : V 0 = (.slice d.at' d.len d.cap) := h0
              replace h1 : V 1 = (.int .i64 ((k : Nat) : Int)) := h1
              replace hb := hb.trans (hC.mono hb.size)
              exact Runs.does (r_ixa (sz := 2) (j := k) (evAt (congrArg some h0) hat2) (congrArg some h1) Try.underlying52 (by kernel_rfl) rfl (by omega) rfl) ⟨Below.refl _ _, rfl, nofr rfl⟩
            refine ⟨fun wu3 hC hd => ?_, ?_⟩
            · obtain ⟨h2, _⟩ := hd
              skip
              replace h2 : V 2 = (.pointer (some ⟨ab2, (aoff2 + k * 2), none⟩)) := h2
              replace hb := hb.trans (hC.mono hb.size)
              exact Runs.does (r_fa (congrArg some h2) Try.underlying57 (f := 0) (q := (aoff2 + k * 2)) rfl (by kernel_rfl) rfl) ⟨Below.refl _ _, rfl, nofr rfl⟩
            refine ⟨fun wu4 hC hd => ?_, ?_⟩
            · obtain ⟨h3, _⟩ := hd
              skip
              replace h3 : V 3 = (.pointer (some ⟨ab2, (aoff2 + k * 2), none⟩)) := h3
              replace hb := hb.trans (hC.mono hb.size)
              exact Runs.does (r_load (v := (.int .u8 y.1)) (congrArg some h3) Try.underlying5 rfl (cellsAt_cell (cellsAt_below hel2 hb hlb2) (i := 0) rfl rfl)) ⟨Below.refl _ _, rfl, nofr rfl⟩
            refine ⟨fun wu5 hC hd => ?_, ?_⟩
            · clear hd
              replace hb := hb.trans (hC.mono hb.size)
              exact Runs.does (r_move rfl) ⟨Below.refl _ _, rfl, nofr rfl⟩
            refine ⟨fun wu6 hC hd => ?_, ?_⟩
            · clear hd
              replace hb := hb.trans (hC.mono hb.size)
              exact Runs.does (r_move rfl) ⟨Below.refl _ _, rfl, nofr rfl⟩
            refine ⟨fun wu7 hC hd => ?_, ?_⟩
            · obtain ⟨h5, h6, _⟩ := hd
              skip
              skip
              replace h5 : V 5 = (.string s) := h5
              replace h6 : V 6 = (.int .i64 ((k : Nat) : Int)) := h6
              replace hb := hb.trans (hC.mono hb.size)
              exact Runs.does (r_sindexD (j := k) (congrArg some h5) (congrArg some h6) Try.underlying9 rfl (by omega)) ⟨Below.refl _ _, rfl, nofr rfl⟩
            refine ⟨fun wu8 hC hd => ?_, ?_⟩
            · obtain ⟨h4, h7, _⟩ := hd
              skip
              skip
              replace h4 : V 4 = (.int .u8 y.1) := h4
              replace h7 : V 7 = (.int .u8 ((sbt s k : Nat) : Int)) := h7
              replace hb := hb.trans (hC.mono hb.size)
              exact Runs.does (Runs.veq (r_ne (congrArg some h4) (congrArg some h7)) (congrArg Value.bool (show _ = false from (by simpa using hsp1)))) ⟨Below.refl _ _, rfl, nofr rfl⟩
            refine ⟨fun wu9 hC hd => ?_, ?_⟩
            · obtain ⟨h8, _⟩ := hd
              skip
              replace h8 : V 8 = (.bool false) := h8
              replace hb := hb.trans (hC.mono hb.size)
              exact Runs.does (r_move (congrArg some h8)) ⟨Below.refl _ _, rfl, nofr rfl⟩
            refine ⟨fun wu10 hC hd => ?_, ?_⟩
            · obtain ⟨h9, _⟩ := hd
              skip
              replace h9 : V 9 = (.bool false) := h9
              replace hb := hb.trans (hC.mono hb.size)
              refine ⟨true, false, congrArg some h9, fun hact => ?_, fun hact => ?_⟩
              · exact Runs.does (r_move rfl) ⟨Below.refl _ _, rfl, nofr rfl⟩
              · exfalso; simp at hact
            refine ⟨fun wu11 hC hd => ?_, ?_⟩
            · obtain ⟨h9, _⟩ := hd
              skip
              replace h9 : V 9 = (.bool false) := h9
              replace hb := hb.trans (hC.mono hb.size)
              refine ⟨true, false, congrArg some h9, fun hact => ?_, fun hact => ?_⟩
              · exact Runs.does (r_move rfl) ⟨Below.refl _ _, rfl, nofr rfl⟩
              · exfalso; simp at hact
            refine ⟨fun wu12 hC hd => ?_, ?_⟩
            · obtain ⟨h9, h10, h11, _⟩ := hd
              skip
              skip
              skip
              replace h9 : V 9 = (.bool false) := h9
              replace h10 : V 10 = (.slice d.at' d.len d.cap) := h10
              replace h11 : V 11 = (.int .i64 ((k : Nat) : Int)) := h11
              replace hb := hb.trans (hC.mono hb.size)
              refine ⟨true, false, congrArg some h9, fun hact => ?_, fun hact => ?_⟩
              · exact Runs.does (r_ixa (sz := 2) (j := k) (evAt (congrArg some h10) hat2) (congrArg some h11) Try.underlying52 (by kernel_rfl) rfl (by omega) rfl) ⟨Below.refl _ _, rfl, nofr rfl⟩
              · exfalso; simp at hact
            refine ⟨fun wu13 hC hd => ?_, ?_⟩
            · obtain ⟨h9, h12, _⟩ := hd
              skip
              skip
              replace h9 : V 9 = (.bool false) := h9
              replace h12 : V 12 = (.pointer (some ⟨ab2, (aoff2 + k * 2), none⟩)) := h12
              replace hb := hb.trans (hC.mono hb.size)
              refine ⟨true, false, congrArg some h9, fun hact => ?_, fun hact => ?_⟩
              · exact Runs.does (r_fa (congrArg some h12) Try.underlying57 (f := 0) (q := (aoff2 + k * 2)) rfl (by kernel_rfl) rfl) ⟨Below.refl _ _, rfl, nofr rfl⟩
              · exfalso; simp at hact
            refine ⟨fun wu14 hC hd => ?_, ?_⟩
            · obtain ⟨h9, h13, _⟩ := hd
              skip
              skip
              replace h9 : V 9 = (.bool false) := h9
              replace h13 : V 13 = (.pointer (some ⟨ab2, (aoff2 + k * 2), none⟩)) := h13
              replace hb := hb.trans (hC.mono hb.size)
              refine ⟨true, false, congrArg some h9, fun hact => ?_, fun hact => ?_⟩
              · exact Runs.does (r_load (v := (.int .u8 y.1)) (congrArg some h13) Try.underlying5 rfl (cellsAt_cell (cellsAt_below hel2 hb hlb2) (i := 0) rfl rfl)) ⟨Below.refl _ _, rfl, nofr rfl⟩
              · exfalso; simp at hact
            refine ⟨fun wu15 hC hd => ?_, ?_⟩
            · obtain ⟨h9, h14, _⟩ := hd
              skip
              skip
              replace h9 : V 9 = (.bool false) := h9
              replace h14 : V 14 = (.int .u8 y.1) := h14
              replace hb := hb.trans (hC.mono hb.size)
              refine ⟨true, false, congrArg some h9, fun hact => ?_, fun hact => ?_⟩
              · exact Runs.does (r_conv (C := y.1) (congrArg some h14) Try.underlying5 Try.underlying3 (by rw [IntKind.wrap_i64]; omega)) ⟨Below.refl _ _, rfl, nofr rfl⟩
              · exfalso; simp at hact
            refine ⟨fun wu16 hC hd => ?_, ?_⟩
            · obtain ⟨h9, h15, _⟩ := hd
              skip
              skip
              replace h9 : V 9 = (.bool false) := h9
              replace h15 : V 15 = (.int .i64 y.1) := h15
              replace hb := hb.trans (hC.mono hb.size)
              refine ⟨true, false, congrArg some h9, fun hact => ?_, fun hact => ?_⟩
              · refine Does.mono (d_callS (vs := [(.int .i64 y.1)]) (show [some (V 15)] = [some (.int .i64 y.1)] from by rw [h15]) Try.func35 (by kernel_rfl) (by kernel_rfl) (rval2_any y.1 _)) (fun _ _ h => ⟨h.2 ▸ Below.refl _ _, h.1, nofr rfl⟩)
              · exfalso; simp at hact
            refine ⟨fun wu17 hC hd => ?_, ?_⟩
            · obtain ⟨h9, h16, _⟩ := hd
              skip
              skip
              replace h9 : V 9 = (.bool false) := h9
              replace h16 : V 16 = (.int .i64 ((tvalP y.1))) := h16
              replace hb := hb.trans (hC.mono hb.size)
              refine ⟨true, false, congrArg some h9, fun hact => ?_, fun hact => ?_⟩
              · exact Runs.does (Runs.veq (r_ne (congrArg some h16) rfl) (congrArg Value.bool (show _ = true from (by simpa using hsp2)))) ⟨Below.refl _ _, rfl, nofr rfl⟩
              · exfalso; simp at hact
            refine ⟨fun wu18 hC hd => ?_, ?_⟩
            · obtain ⟨h9, h17, _⟩ := hd
              skip
              skip
              replace h9 : V 9 = (.bool false) := h9
              replace h17 : V 17 = (.bool true) := h17
              replace hb := hb.trans (hC.mono hb.size)
              exact Runs.does (r_pick (b := false) (congrArg some h9) rfl (congrArg some h17) rfl) ⟨Below.refl _ _, rfl, nofr rfl⟩
            refine ⟨fun wu19 hC hd => ?_, ?_⟩
            · obtain ⟨h16, h18, _⟩ := hd
              skip
              skip
              replace h16 : V 16 = (.int .i64 ((tvalP y.1))) := h16
              replace h18 : V 18 = (.bool true) := h18
              replace hb := hb.trans (hC.mono hb.size)
              exact Runs.does (r_move (congrArg some h18)) ⟨Below.refl _ _, rfl, nofr rfl⟩
            refine ⟨fun wu20 hC hd => ?_, ?_⟩
            · obtain ⟨h19, _⟩ := hd
              skip
              replace h19 : V 19 = (.bool true) := h19
              replace hb := hb.trans (hC.mono hb.size)
              refine ⟨true, true, congrArg some h19, fun hact => ?_, fun hact => ?_⟩
              · exfalso; simp at hact
              · exact ⟨Below.refl _ _, rfl, nofr rfl⟩
            refine ⟨fun wu21 hC hd => ?_, ?_⟩
            · obtain ⟨h19, _⟩ := hd
              skip
              replace h19 : V 19 = (.bool true) := h19
              replace hb := hb.trans (hC.mono hb.size)
              refine ⟨true, true, congrArg some h19, fun hact => ?_, fun hact => ?_⟩
              · exfalso; simp at hact
              · exact ⟨Below.refl _ _, rfl, nofr rfl⟩
            refine ⟨fun wu22 hC hd => ?_, ?_⟩
            · obtain ⟨h19, h20, h21, _⟩ := hd
              skip
              skip
              skip
              replace h19 : V 19 = (.bool true) := h19
              replace h20 : V 20 = gb false (.bool false) := h20
              replace h21 : V 21 = gb false (.bool false) := h21
              replace hb := hb.trans (hC.mono hb.size)
              refine ⟨true, true, congrArg some h19, fun hact => ?_, fun hact => ?_⟩
              · exfalso; simp at hact
              · exact ⟨Below.refl _ _, rfl, nofr rfl⟩
            refine ⟨fun wu23 hC hd => ?_, ?_⟩
            · obtain ⟨h19, h22, _⟩ := hd
              skip
              skip
              replace h19 : V 19 = (.bool true) := h19
              replace h22 : V 22 = gb false (.bool false) := h22
              replace hb := hb.trans (hC.mono hb.size)
              refine ⟨true, true, congrArg some h19, fun hact => ?_, fun hact => ?_⟩
              · exfalso; simp at hact
              · exact ⟨Below.refl _ _, rfl, nofr rfl⟩
            refine ⟨fun wu24 hC hd => ?_, ?_⟩
            · obtain ⟨h19, h23, _⟩ := hd
              skip
              skip
              replace h19 : V 19 = (.bool true) := h19
              replace h23 : V 23 = gb false (.bool false) := h23
              replace hb := hb.trans (hC.mono hb.size)
              refine ⟨true, true, congrArg some h19, fun hact => ?_, fun hact => ?_⟩
              · exfalso; simp at hact
              · exact ⟨Below.refl _ _, rfl, nofr rfl⟩
            refine ⟨fun wu25 hC hd => ?_, ?_⟩
            · obtain ⟨h19, _⟩ := hd
              skip
              replace h19 : V 19 = (.bool true) := h19
              replace hb := hb.trans (hC.mono hb.size)
              refine ⟨true, true, congrArg some h19, fun hact => ?_, fun hact => ?_⟩
              · exfalso; simp at hact
              · exact ⟨Below.refl _ _, rfl, nofr rfl⟩
            refine ⟨fun wu26 hC hd => ?_, ?_⟩
            · obtain ⟨h19, _⟩ := hd
              skip
              replace h19 : V 19 = (.bool true) := h19
              replace hb := hb.trans (hC.mono hb.size)
              refine ⟨true, true, congrArg some h19, fun hact => ?_, fun hact => ?_⟩
              · exfalso; simp at hact
              · exact ⟨Below.refl _ _, rfl, nofr rfl⟩
            refine ⟨fun wu27 hC hd => ?_, ?_⟩
            · obtain ⟨h19, h25, h26, _⟩ := hd
              skip
              skip
              skip
              replace h19 : V 19 = (.bool true) := h19
              replace h25 : V 25 = gb false (.bool false) := h25
              replace h26 : V 26 = gb false (.bool false) := h26
              replace hb := hb.trans (hC.mono hb.size)
              refine ⟨true, true, congrArg some h19, fun hact => ?_, fun hact => ?_⟩
              · exfalso; simp at hact
              · exact ⟨Below.refl _ _, rfl, nofr rfl⟩
            refine ⟨fun wu28 hC hd => ?_, ?_⟩
            · obtain ⟨h19, h27, _⟩ := hd
              skip
              skip
              replace h19 : V 19 = (.bool true) := h19
              replace h27 : V 27 = gb false (.bool false) := h27
              replace hb := hb.trans (hC.mono hb.size)
              refine ⟨true, true, congrArg some h19, fun hact => ?_, fun hact => ?_⟩
              · exfalso; simp at hact
              · exact ⟨Below.refl _ _, rfl, nofr rfl⟩
            refine ⟨fun wu29 hC hd => ?_, ?_⟩
            · obtain ⟨h19, h24, h28, _⟩ := hd
              skip
              skip
              skip
              replace h19 : V 19 = (.bool true) := h19
              replace h24 : V 24 = gb false (.bool false) := h24
              replace h28 : V 28 = gb false (.bool false) := h28
              replace hb := hb.trans (hC.mono hb.size)
              refine ⟨true, true, congrArg some h19, fun hact => ?_, fun hact => ?_⟩
              · exfalso; simp at hact
              · exact ⟨Below.refl _ _, rfl, nofr rfl⟩
            refine ⟨fun wu30 hC hd => ?_, ?_⟩
            · obtain ⟨h19, h29, _⟩ := hd
              skip
              skip
              replace h19 : V 19 = (.bool true) := h19
              replace h29 : V 29 = gb false (.bool false) := h29
              replace hb := hb.trans (hC.mono hb.size)
              exact Runs.does (r_pick (b := true) (congrArg some h19) rfl (congrArg some h29) rfl) ⟨Below.refl _ _, rfl, nofr rfl⟩
            trivial
          · skip
            clear hf fa; intro V w3 fa he2 hp hnb hf
            have hv0 : V 0 = (.slice d.at' d.len d.cap) := postsHold_at hp 0 rfl
            have hv1 : V 1 = (.int .i64 ((k : Nat) : Int)) := postsHold_at hp 1 rfl
            have hv2 : V 2 = (.pointer (some ⟨ab2, (aoff2 + k * 2), none⟩)) := postsHold_at hp 2 rfl
            have hv3 : V 3 = (.pointer (some ⟨ab2, (aoff2 + k * 2), none⟩)) := postsHold_at hp 3 rfl
            have hv4 : V 4 = (.int .u8 y.1) := postsHold_at hp 4 rfl
            have hv5 : V 5 = (.string s) := postsHold_at hp 5 rfl
            have hv6 : V 6 = (.int .i64 ((k : Nat) : Int)) := postsHold_at hp 6 rfl
            have hv7 : V 7 = (.int .u8 ((sbt s k : Nat) : Int)) := postsHold_at hp 7 rfl
            have hv8 : V 8 = (.bool false) := postsHold_at hp 8 rfl
            have hv9 : V 9 = (.bool false) := postsHold_at hp 9 rfl
            have hv10 : V 10 = (.slice d.at' d.len d.cap) := postsHold_at hp 10 rfl
            have hv11 : V 11 = (.int .i64 ((k : Nat) : Int)) := postsHold_at hp 11 rfl
            have hv12 : V 12 = (.pointer (some ⟨ab2, (aoff2 + k * 2), none⟩)) := postsHold_at hp 12 rfl
            have hv13 : V 13 = (.pointer (some ⟨ab2, (aoff2 + k * 2), none⟩)) := postsHold_at hp 13 rfl
            have hv14 : V 14 = (.int .u8 y.1) := postsHold_at hp 14 rfl
            have hv15 : V 15 = (.int .i64 y.1) := postsHold_at hp 15 rfl
            have hv16 : V 16 = (.int .i64 ((tvalP y.1))) := postsHold_at hp 16 rfl
            have hv17 : V 17 = (.bool true) := postsHold_at hp 17 rfl
            have hv18 : V 18 = (.bool true) := postsHold_at hp 18 rfl
            have hv19 : V 19 = (.bool true) := postsHold_at hp 19 rfl
            have hv20 : V 20 = gb false (.bool false) := postsHold_at hp 20 rfl
            have hv21 : V 21 = gb false (.bool false) := postsHold_at hp 21 rfl
            have hv22 : V 22 = gb false (.bool false) := postsHold_at hp 22 rfl
            have hv23 : V 23 = gb false (.bool false) := postsHold_at hp 23 rfl
            have hv24 : V 24 = gb false (.bool false) := postsHold_at hp 24 rfl
            have hv25 : V 25 = gb false (.bool false) := postsHold_at hp 25 rfl
            have hv26 : V 26 = gb false (.bool false) := postsHold_at hp 26 rfl
            have hv27 : V 27 = gb false (.bool false) := postsHold_at hp 27 rfl
            have hv28 : V 28 = gb false (.bool false) := postsHold_at hp 28 rfl
            have hv29 : V 29 = gb false (.bool false) := postsHold_at hp 29 rfl
            have hv30 : V 30 = (.bool true) := postsHold_at hp 30 rfl
            simp only [List.take_succ_cons, List.take_zero, insAll, ins, hv0, hv1, hv2, hv3, hv4, hv5, hv6, hv7, hv8, hv9, hv10, hv11, hv12, hv13, hv14, hv15, hv16, hv17, hv18, hv19, hv20, hv21, hv22, hv23, hv24, hv25, hv26, hv27, hv28, hv29, hv30] at hf
            clear hp hnb hv0 hv1 hv2 hv3 hv4 hv5 hv6 hv7 hv8 hv9 hv10 hv11 hv12 hv13 hv14 hv15 hv16 hv17 hv18 hv19 hv20 hv21 hv22 hv23 hv24 hv25 hv26 hv27 hv28 hv29 hv30
            replace hb := hb.trans (Below.mono he2 hb.size)
            (try simp only [Exit.then, Exit.inBlock, ↓reduceIte, Nat.reduceEqDiff])
            refine hK7 _ _ ?_
            refine wp_cond_true (hf.ev rfl) ?_
            refine wp_seq_k (fun K9 hK9 => ?_)
            refine wp_region_lit ?_
            refine sqv hf (r_assign rfl) rfl rfl rfl ?_; clear hf fa; intro fa hf
            apply wpList_nil
            (try simp only [Exit.then, Exit.inBlock, ↓reduceIte, Nat.reduceEqDiff])
            refine hK9 _ _ ?_
            refine wp_ret ?_
            (try simp only [Exit.then, Exit.inBlock])
            refine ret1 hf rfl rfl ?_
            refine ⟨congrArg (fun b => Ending.returned (.bool b)) ?_, hb⟩; have hA : allR d.list (nums s) = false := by rw [Hs, drop_at hy, drop_at (nums_get (s := s) (j := k) (by omega)), allR, show pairOk y ((sbt s k : Nat) : Int) = false from (by unfold pairOk; rw [vright_def, hsp1b, hsp2b]; rfl)]; rfl
            unfold takeP; rw [hA]; simp
      · have hsp1b : decide (y.1 = ((sbt s k : Nat) : Int)) = false := decide_eq_false hsp1
        skip
        have hy3 : (d.list)[k]? = some y := hy
        obtain ⟨ab3, aoff3, hat3, hlb3, hel3⟩ := RdS.at (RdS.of_arg g.2) hy3
        refine wp_region_un (fun wq => Below w1.heap.size w1 wq) (fun w w' => Below w.heap.size w w')
          (fun V => [(fun x _ => x = (.slice d.at' d.len d.cap)), (fun x _ => x = (.int .i64 ((k : Nat) : Int))), (fun x _ => x = (.pointer (some ⟨ab3, (aoff3 + k * 2), none⟩))), (fun x _ => x = (.pointer (some ⟨ab3, (aoff3 + k * 2), none⟩))), (fun x _ => x = (.int .u8 y.1)), (fun x _ => x = (.string s)), (fun x _ => x = (.int .i64 ((k : Nat) : Int))), (fun x _ => x = (.int .u8 ((sbt s k : Nat) : Int))), (fun x _ => x = (.bool true)), (fun x _ => x = (.bool true)), (fun x _ => x = gb false (.bool false)), (fun x _ => x = gb false (.bool false)), (fun x _ => x = gb false (.bool false)), (fun x _ => x = gb false (.bool false)), (fun x _ => x = gb false (.bool false)), (fun x _ => x = gb false (.bool false)), (fun x _ => x = gb false (.bool false)), (fun x _ => x = gb false (.bool false)), (fun x _ => x = (.bool true)), (fun x _ => x = (.bool true)), (fun x _ => x = gb false (.bool false)), (fun x _ => x = gb false (.bool false)), (fun x _ => x = gb false (.bool false)), (fun x _ => x = gb false (.bool false)), (fun x _ => x = gb false (.bool false)), (fun x _ => x = gb false (.bool false)), (fun x _ => x = gb false (.bool false)), (fun x _ => x = gb false (.bool false)), (fun x _ => x = gb false (.bool false)), (fun x _ => x = gb false (.bool false)), (fun x _ => x = (.bool true))])
          []
          [[], [], [0, 1], [2], [3], [], [], [5, 6], [4, 7], [8], [9], [9], [9, 10, 11], [9, 12], [9, 13], [9, 14], [9, 15], [9, 16], [9, 17], [16, 18], [19], [19], [19, 20, 21], [19, 22], [19, 23], [19], [19], [19, 25, 26], [19, 27], [19, 24, 28], [19, 29]]
          hf (by kernel_rfl) (by kernel_rfl) (fun _ => rfl) ((Below.refl _ _).drew) (fun a b h1 h2 => h1.trans (h2.mono h1.size)) (fun _ _ h => h.size) (fun V => ⟨kept_eq, kept_eq, kept_eq, kept_eq, kept_eq, kept_eq, kept_eq, kept_eq, kept_eq, kept_eq, kept_eq, kept_eq, kept_eq, kept_eq, kept_eq, kept_eq, kept_eq, kept_eq, kept_eq, kept_eq, kept_eq, kept_eq, kept_eq, kept_eq, kept_eq, kept_eq, kept_eq, kept_eq, kept_eq, kept_eq, kept_eq, trivial⟩) (fun _ _ _ _ _ => rfl) ?_ ?_
        · skip
          intro V
          refine ⟨fun wu0 hC hd => ?_, ?_⟩
          · clear hd
            replace hb := hb.trans (hC.mono hb.size)
            exact Runs.does (r_move rfl) ⟨Below.refl _ _, rfl, nofr rfl⟩
          refine ⟨fun wu1 hC hd => ?_, ?_⟩
          · clear hd
            replace hb := hb.trans (hC.mono hb.size)
            exact Runs.does (r_move rfl) ⟨Below.refl _ _, rfl, nofr rfl⟩
          refine ⟨fun wu2 hC hd => ?_, ?_⟩
          · obtain ⟨h0, h1, _⟩ := hd
            skip
            skip
            replace h0 : V 0 = (.slice d.at' d.len d.cap) := h0
            replace h1 : V 1 = (.int .i64 ((k : Nat) : Int)) := h1
            replace hb := hb.trans (hC.mono hb.size)
            exact Runs.does (r_ixa (sz := 2) (j := k) (evAt (congrArg some h0) hat3) (congrArg some h1) Try.underlying52 (by kernel_rfl) rfl (by omega) rfl) ⟨Below.refl _ _, rfl, nofr rfl⟩
          refine ⟨fun wu3 hC hd => ?_, ?_⟩
          · obtain ⟨h2, _⟩ := hd
            skip
            replace h2 : V 2 = (.pointer (some ⟨ab3, (aoff3 + k * 2), none⟩)) := h2
            replace hb := hb.trans (hC.mono hb.size)
            exact Runs.does (r_fa (congrArg some h2) Try.underlying57 (f := 0) (q := (aoff3 + k * 2)) rfl (by kernel_rfl) rfl) ⟨Below.refl _ _, rfl, nofr rfl⟩
          refine ⟨fun wu4 hC hd => ?_, ?_⟩
          · obtain ⟨h3, _⟩ := hd
            skip
            replace h3 : V 3 = (.pointer (some ⟨ab3, (aoff3 + k * 2), none⟩)) := h3
            replace hb := hb.trans (hC.mono hb.size)
            exact Runs.does (r_load (v := (.int .u8 y.1)) (congrArg some h3) Try.underlying5 rfl (cellsAt_cell (cellsAt_below hel3 hb hlb3) (i := 0) rfl rfl)) ⟨Below.refl _ _, rfl, nofr rfl⟩
          refine ⟨fun wu5 hC hd => ?_, ?_⟩
          · clear hd
            replace hb := hb.trans (hC.mono hb.size)
            exact Runs.does (r_move rfl) ⟨Below.refl _ _, rfl, nofr rfl⟩
          refine ⟨fun wu6 hC hd => ?_, ?_⟩
          · clear hd
            replace hb := hb.trans (hC.mono hb.size)
            exact Runs.does (r_move rfl) ⟨Below.refl _ _, rfl, nofr rfl⟩
          refine ⟨fun wu7 hC hd => ?_, ?_⟩
          · obtain ⟨h5, h6, _⟩ := hd
            skip
            skip
            replace h5 : V 5 = (.string s) := h5
            replace h6 : V 6 = (.int .i64 ((k : Nat) : Int)) := h6
            replace hb := hb.trans (hC.mono hb.size)
            exact Runs.does (r_sindexD (j := k) (congrArg some h5) (congrArg some h6) Try.underlying9 rfl (by omega)) ⟨Below.refl _ _, rfl, nofr rfl⟩
          refine ⟨fun wu8 hC hd => ?_, ?_⟩
          · obtain ⟨h4, h7, _⟩ := hd
            skip
            skip
            replace h4 : V 4 = (.int .u8 y.1) := h4
            replace h7 : V 7 = (.int .u8 ((sbt s k : Nat) : Int)) := h7
            replace hb := hb.trans (hC.mono hb.size)
            exact Runs.does (Runs.veq (r_ne (congrArg some h4) (congrArg some h7)) (congrArg Value.bool (show _ = true from (by simpa using hsp1)))) ⟨Below.refl _ _, rfl, nofr rfl⟩
          refine ⟨fun wu9 hC hd => ?_, ?_⟩
          · obtain ⟨h8, _⟩ := hd
            skip
            replace h8 : V 8 = (.bool true) := h8
            replace hb := hb.trans (hC.mono hb.size)
            exact Runs.does (r_move (congrArg some h8)) ⟨Below.refl _ _, rfl, nofr rfl⟩
          refine ⟨fun wu10 hC hd => ?_, ?_⟩
          · obtain ⟨h9, _⟩ := hd
            skip
            replace h9 : V 9 = (.bool true) := h9
            replace hb := hb.trans (hC.mono hb.size)
            refine ⟨true, true, congrArg some h9, fun hact => ?_, fun hact => ?_⟩
            · exfalso; simp at hact
            · exact ⟨Below.refl _ _, rfl, nofr rfl⟩
          refine ⟨fun wu11 hC hd => ?_, ?_⟩
          · obtain ⟨h9, _⟩ := hd
            skip
            replace h9 : V 9 = (.bool true) := h9
            replace hb := hb.trans (hC.mono hb.size)
            refine ⟨true, true, congrArg some h9, fun hact => ?_, fun hact => ?_⟩
            · exfalso; simp at hact
            · exact ⟨Below.refl _ _, rfl, nofr rfl⟩
          refine ⟨fun wu12 hC hd => ?_, ?_⟩
          · obtain ⟨h9, h10, h11, _⟩ := hd
            skip
            skip
            skip
            replace h9 : V 9 = (.bool true) := h9
            replace h10 : V 10 = gb false (.bool false) := h10
            replace h11 : V 11 = gb false (.bool false) := h11
            replace hb := hb.trans (hC.mono hb.size)
            refine ⟨true, true, congrArg some h9, fun hact => ?_, fun hact => ?_⟩
            · exfalso; simp at hact
            · exact ⟨Below.refl _ _, rfl, nofr rfl⟩
          refine ⟨fun wu13 hC hd => ?_, ?_⟩
          · obtain ⟨h9, h12, _⟩ := hd
            skip
            skip
            replace h9 : V 9 = (.bool true) := h9
            replace h12 : V 12 = gb false (.bool false) := h12
            replace hb := hb.trans (hC.mono hb.size)
            refine ⟨true, true, congrArg some h9, fun hact => ?_, fun hact => ?_⟩
            · exfalso; simp at hact
            · exact ⟨Below.refl _ _, rfl, nofr rfl⟩
          refine ⟨fun wu14 hC hd => ?_, ?_⟩
          · obtain ⟨h9, h13, _⟩ := hd
            skip
            skip
            replace h9 : V 9 = (.bool true) := h9
            replace h13 : V 13 = gb false (.bool false) := h13
            replace hb := hb.trans (hC.mono hb.size)
            refine ⟨true, true, congrArg some h9, fun hact => ?_, fun hact => ?_⟩
            · exfalso; simp at hact
            · exact ⟨Below.refl _ _, rfl, nofr rfl⟩
          refine ⟨fun wu15 hC hd => ?_, ?_⟩
          · obtain ⟨h9, h14, _⟩ := hd
            skip
            skip
            replace h9 : V 9 = (.bool true) := h9
            replace h14 : V 14 = gb false (.bool false) := h14
            replace hb := hb.trans (hC.mono hb.size)
            refine ⟨true, true, congrArg some h9, fun hact => ?_, fun hact => ?_⟩
            · exfalso; simp at hact
            · exact ⟨Below.refl _ _, rfl, nofr rfl⟩
          refine ⟨fun wu16 hC hd => ?_, ?_⟩
          · obtain ⟨h9, h15, _⟩ := hd
            skip
            skip
            replace h9 : V 9 = (.bool true) := h9
            replace h15 : V 15 = gb false (.bool false) := h15
            replace hb := hb.trans (hC.mono hb.size)
            refine ⟨true, true, congrArg some h9, fun hact => ?_, fun hact => ?_⟩
            · exfalso; simp at hact
            · exact ⟨Below.refl _ _, rfl, nofr rfl⟩
          refine ⟨fun wu17 hC hd => ?_, ?_⟩
          · obtain ⟨h9, h16, _⟩ := hd
            skip
            skip
            replace h9 : V 9 = (.bool true) := h9
            replace h16 : V 16 = gb false (.bool false) := h16
            replace hb := hb.trans (hC.mono hb.size)
            refine ⟨true, true, congrArg some h9, fun hact => ?_, fun hact => ?_⟩
            · exfalso; simp at hact
            · exact ⟨Below.refl _ _, rfl, nofr rfl⟩
          refine ⟨fun wu18 hC hd => ?_, ?_⟩
          · obtain ⟨h9, h17, _⟩ := hd
            skip
            skip
            replace h9 : V 9 = (.bool true) := h9
            replace h17 : V 17 = gb false (.bool false) := h17
            replace hb := hb.trans (hC.mono hb.size)
            exact Runs.does (r_pick (b := true) (congrArg some h9) rfl (congrArg some h17) rfl) ⟨Below.refl _ _, rfl, nofr rfl⟩
          refine ⟨fun wu19 hC hd => ?_, ?_⟩
          · obtain ⟨h16, h18, _⟩ := hd
            skip
            skip
            replace h16 : V 16 = gb false (.bool false) := h16
            replace h18 : V 18 = (.bool true) := h18
            replace hb := hb.trans (hC.mono hb.size)
            exact Runs.does (r_move (congrArg some h18)) ⟨Below.refl _ _, rfl, nofr rfl⟩
          refine ⟨fun wu20 hC hd => ?_, ?_⟩
          · obtain ⟨h19, _⟩ := hd
            skip
            replace h19 : V 19 = (.bool true) := h19
            replace hb := hb.trans (hC.mono hb.size)
            refine ⟨true, true, congrArg some h19, fun hact => ?_, fun hact => ?_⟩
            · exfalso; simp at hact
            · exact ⟨Below.refl _ _, rfl, nofr rfl⟩
          refine ⟨fun wu21 hC hd => ?_, ?_⟩
          · obtain ⟨h19, _⟩ := hd
            skip
            replace h19 : V 19 = (.bool true) := h19
            replace hb := hb.trans (hC.mono hb.size)
            refine ⟨true, true, congrArg some h19, fun hact => ?_, fun hact => ?_⟩
            · exfalso; simp at hact
            · exact ⟨Below.refl _ _, rfl, nofr rfl⟩
          refine ⟨fun wu22 hC hd => ?_, ?_⟩
          · obtain ⟨h19, h20, h21, _⟩ := hd
            skip
            skip
            skip
            replace h19 : V 19 = (.bool true) := h19
            replace h20 : V 20 = gb false (.bool false) := h20
            replace h21 : V 21 = gb false (.bool false) := h21
            replace hb := hb.trans (hC.mono hb.size)
            refine ⟨true, true, congrArg some h19, fun hact => ?_, fun hact => ?_⟩
            · exfalso; simp at hact
            · exact ⟨Below.refl _ _, rfl, nofr rfl⟩
          refine ⟨fun wu23 hC hd => ?_, ?_⟩
          · obtain ⟨h19, h22, _⟩ := hd
            skip
            skip
            replace h19 : V 19 = (.bool true) := h19
            replace h22 : V 22 = gb false (.bool false) := h22
            replace hb := hb.trans (hC.mono hb.size)
            refine ⟨true, true, congrArg some h19, fun hact => ?_, fun hact => ?_⟩
            · exfalso; simp at hact
            · exact ⟨Below.refl _ _, rfl, nofr rfl⟩
          refine ⟨fun wu24 hC hd => ?_, ?_⟩
          · obtain ⟨h19, h23, _⟩ := hd
            skip
            skip
            replace h19 : V 19 = (.bool true) := h19
            replace h23 : V 23 = gb false (.bool false) := h23
            replace hb := hb.trans (hC.mono hb.size)
            refine ⟨true, true, congrArg some h19, fun hact => ?_, fun hact => ?_⟩
            · exfalso; simp at hact
            · exact ⟨Below.refl _ _, rfl, nofr rfl⟩
          refine ⟨fun wu25 hC hd => ?_, ?_⟩
          · obtain ⟨h19, _⟩ := hd
            skip
            replace h19 : V 19 = (.bool true) := h19
            replace hb := hb.trans (hC.mono hb.size)
            refine ⟨true, true, congrArg some h19, fun hact => ?_, fun hact => ?_⟩
            · exfalso; simp at hact
            · exact ⟨Below.refl _ _, rfl, nofr rfl⟩
          refine ⟨fun wu26 hC hd => ?_, ?_⟩
          · obtain ⟨h19, _⟩ := hd
            skip
            replace h19 : V 19 = (.bool true) := h19
            replace hb := hb.trans (hC.mono hb.size)
            refine ⟨true, true, congrArg some h19, fun hact => ?_, fun hact => ?_⟩
            · exfalso; simp at hact
            · exact ⟨Below.refl _ _, rfl, nofr rfl⟩
          refine ⟨fun wu27 hC hd => ?_, ?_⟩
          · obtain ⟨h19, h25, h26, _⟩ := hd
            skip
            skip
            skip
            replace h19 : V 19 = (.bool true) := h19
            replace h25 : V 25 = gb false (.bool false) := h25
            replace h26 : V 26 = gb false (.bool false) := h26
            replace hb := hb.trans (hC.mono hb.size)
            refine ⟨true, true, congrArg some h19, fun hact => ?_, fun hact => ?_⟩
            · exfalso; simp at hact
            · exact ⟨Below.refl _ _, rfl, nofr rfl⟩
          refine ⟨fun wu28 hC hd => ?_, ?_⟩
          · obtain ⟨h19, h27, _⟩ := hd
            skip
            skip
            replace h19 : V 19 = (.bool true) := h19
            replace h27 : V 27 = gb false (.bool false) := h27
            replace hb := hb.trans (hC.mono hb.size)
            refine ⟨true, true, congrArg some h19, fun hact => ?_, fun hact => ?_⟩
            · exfalso; simp at hact
            · exact ⟨Below.refl _ _, rfl, nofr rfl⟩
          refine ⟨fun wu29 hC hd => ?_, ?_⟩
          · obtain ⟨h19, h24, h28, _⟩ := hd
            skip
            skip
            skip
            replace h19 : V 19 = (.bool true) := h19
            replace h24 : V 24 = gb false (.bool false) := h24
            replace h28 : V 28 = gb false (.bool false) := h28
            replace hb := hb.trans (hC.mono hb.size)
            refine ⟨true, true, congrArg some h19, fun hact => ?_, fun hact => ?_⟩
            · exfalso; simp at hact
            · exact ⟨Below.refl _ _, rfl, nofr rfl⟩
          refine ⟨fun wu30 hC hd => ?_, ?_⟩
          · obtain ⟨h19, h29, _⟩ := hd
            skip
            skip
            replace h19 : V 19 = (.bool true) := h19
            replace h29 : V 29 = gb false (.bool false) := h29
            replace hb := hb.trans (hC.mono hb.size)
            exact Runs.does (r_pick (b := true) (congrArg some h19) rfl (congrArg some h29) rfl) ⟨Below.refl _ _, rfl, nofr rfl⟩
          trivial
        · skip
          clear hf fa; intro V w4 fa he3 hp hnb hf
          have hv0 : V 0 = (.slice d.at' d.len d.cap) := postsHold_at hp 0 rfl
          have hv1 : V 1 = (.int .i64 ((k : Nat) : Int)) := postsHold_at hp 1 rfl
          have hv2 : V 2 = (.pointer (some ⟨ab3, (aoff3 + k * 2), none⟩)) := postsHold_at hp 2 rfl
          have hv3 : V 3 = (.pointer (some ⟨ab3, (aoff3 + k * 2), none⟩)) := postsHold_at hp 3 rfl
          have hv4 : V 4 = (.int .u8 y.1) := postsHold_at hp 4 rfl
          have hv5 : V 5 = (.string s) := postsHold_at hp 5 rfl
          have hv6 : V 6 = (.int .i64 ((k : Nat) : Int)) := postsHold_at hp 6 rfl
          have hv7 : V 7 = (.int .u8 ((sbt s k : Nat) : Int)) := postsHold_at hp 7 rfl
          have hv8 : V 8 = (.bool true) := postsHold_at hp 8 rfl
          have hv9 : V 9 = (.bool true) := postsHold_at hp 9 rfl
          have hv10 : V 10 = gb false (.bool false) := postsHold_at hp 10 rfl
          have hv11 : V 11 = gb false (.bool false) := postsHold_at hp 11 rfl
          have hv12 : V 12 = gb false (.bool false) := postsHold_at hp 12 rfl
          have hv13 : V 13 = gb false (.bool false) := postsHold_at hp 13 rfl
          have hv14 : V 14 = gb false (.bool false) := postsHold_at hp 14 rfl
          have hv15 : V 15 = gb false (.bool false) := postsHold_at hp 15 rfl
          have hv16 : V 16 = gb false (.bool false) := postsHold_at hp 16 rfl
          have hv17 : V 17 = gb false (.bool false) := postsHold_at hp 17 rfl
          have hv18 : V 18 = (.bool true) := postsHold_at hp 18 rfl
          have hv19 : V 19 = (.bool true) := postsHold_at hp 19 rfl
          have hv20 : V 20 = gb false (.bool false) := postsHold_at hp 20 rfl
          have hv21 : V 21 = gb false (.bool false) := postsHold_at hp 21 rfl
          have hv22 : V 22 = gb false (.bool false) := postsHold_at hp 22 rfl
          have hv23 : V 23 = gb false (.bool false) := postsHold_at hp 23 rfl
          have hv24 : V 24 = gb false (.bool false) := postsHold_at hp 24 rfl
          have hv25 : V 25 = gb false (.bool false) := postsHold_at hp 25 rfl
          have hv26 : V 26 = gb false (.bool false) := postsHold_at hp 26 rfl
          have hv27 : V 27 = gb false (.bool false) := postsHold_at hp 27 rfl
          have hv28 : V 28 = gb false (.bool false) := postsHold_at hp 28 rfl
          have hv29 : V 29 = gb false (.bool false) := postsHold_at hp 29 rfl
          have hv30 : V 30 = (.bool true) := postsHold_at hp 30 rfl
          simp only [List.take_succ_cons, List.take_zero, insAll, ins, hv0, hv1, hv2, hv3, hv4, hv5, hv6, hv7, hv8, hv9, hv10, hv11, hv12, hv13, hv14, hv15, hv16, hv17, hv18, hv19, hv20, hv21, hv22, hv23, hv24, hv25, hv26, hv27, hv28, hv29, hv30] at hf
          clear hp hnb hv0 hv1 hv2 hv3 hv4 hv5 hv6 hv7 hv8 hv9 hv10 hv11 hv12 hv13 hv14 hv15 hv16 hv17 hv18 hv19 hv20 hv21 hv22 hv23 hv24 hv25 hv26 hv27 hv28 hv29 hv30
          replace hb := hb.trans (Below.mono he3 hb.size)
          (try simp only [Exit.then, Exit.inBlock, ↓reduceIte, Nat.reduceEqDiff])
          refine hK7 _ _ ?_
          refine wp_cond_true (hf.ev rfl) ?_
          refine wp_seq_k (fun K10 hK10 => ?_)
          refine wp_region_lit ?_
          refine sqv hf (r_assign rfl) rfl rfl rfl ?_; clear hf fa; intro fa hf
          apply wpList_nil
          (try simp only [Exit.then, Exit.inBlock, ↓reduceIte, Nat.reduceEqDiff])
          refine hK10 _ _ ?_
          refine wp_ret ?_
          (try simp only [Exit.then, Exit.inBlock])
          refine ret1 hf rfl rfl ?_
          refine ⟨congrArg (fun b => Ending.returned (.bool b)) ?_, hb⟩; have hA : allR d.list (nums s) = false := by rw [Hs, drop_at hy, drop_at (nums_get (s := s) (j := k) (by omega)), allR, show pairOk y ((sbt s k : Nat) : Int) = false from (by unfold pairOk; rw [vright_def, hsp1b]; rfl)]; rfl
          unfold takeP; rw [hA]; simp
    · have hqt15_1b := hqt15_1
      replace hqt15_1 := Bool.eq_false_iff.1 hqt15_1
      try simp only [ne_eq, decide_eq_true_eq, Bool.and_eq_true, Bool.or_eq_true, Bool.not_eq_true', decide_eq_false_iff_not] at hqt15_1
      refine wp_exit ?_
      (try simp only [Exit.then, Exit.inBlock, ↓reduceIte, Nat.reduceEqDiff])
      refine hK2 _ _ ?_
      refine wp_seq_k (fun K11 hK11 => ?_)
      refine wp_region_lit ?_
      refine sqv hf (r_move rfl) rfl rfl rfl ?_; clear hf fa; intro fa hf
      refine sqv hf (r_lensl rfl Try.underlying52) rfl rfl rfl ?_; clear hf fa; intro fa hf
      refine sqv hf (r_move rfl) rfl rfl rfl ?_; clear hf fa; intro fa hf
      refine sqv hf (r_lens rfl Try.underlying9) rfl rfl rfl ?_; clear hf fa; intro fa hf
      refine sqv hf (r_eq rfl rfl) rfl rfl rfl ?_; clear hf fa; intro fa hf
      refine sqv hf (r_assign rfl) rfl rfl rfl ?_; clear hf fa; intro fa hf
      apply wpList_nil
      (try simp only [Exit.then, Exit.inBlock, ↓reduceIte, Nat.reduceEqDiff])
      refine hK11 _ _ ?_
      refine wp_ret ?_
      (try simp only [Exit.then, Exit.inBlock])
      refine ret1 hf rfl rfl ?_
      refine ⟨congrArg (fun b => Ending.returned (.bool b)) ?_, hb⟩
      unfold takeP
      by_cases hl : ((d.len : Nat) : Int) = ((s.size : Nat) : Int)
      · rw [Hs, List.drop_eq_nil_of_le (by rw [Sl.list_length]; have h := hqt15_1; omega)]; simp [hl, allR]
      · simp [hl]

def encG (t : MGt) : List Int := [t.1, bif t.2.1 then 1 else 0]

set_option maxHeartbeats 1000000 in
set_option maxRecDepth 100000 in
theorem encg_any (t : MGt) (w : World) (hg : 0 ≤ t.1 ∧ t.1 < 256) : Calls Try.prog 39 #[(.agg #[(.int .u8 t.1), (.bool t.2.1)])] w fun e w' => ∃ v, e = .returned v ∧ Row 1 (vInt .u8) 5 w.heap.size w' v (encG t) ∧ Below w.heap.size w w' := by
  refine sx_enter (L := [(0, (.agg #[(.int .u8 t.1), (.bool t.2.1)]))]) Try.func39 rfl rfl rfl rfl (fun fa hf => ?_)
  have hb : Below w.heap.size w w := Below.refl _ _
  refine wp_seq_k (fun K1 hK1 => ?_)
  refine wp_region_lit ?_
  refine sqdt hf (d_box (cs := #[(.int .u8 t.1), (.bool t.2.1)]) rfl rfl) rfl rfl rfl ?_; clear hf fa; rintro fa _ w1 ⟨b1, rfl, hle1, hk1, he1⟩ hf
  have hBb1 : w.heap.size ≤ b1 := Nat.le_trans hb.size hle1
  replace hb := hb.trans (Below.mono he1 hb.size)
  refine sqv hf (r_assign rfl) rfl rfl rfl ?_; clear hf fa; intro fa hf
  apply wpList_nil
  (try simp only [Exit.then, Exit.inBlock, ↓reduceIte, Nat.reduceEqDiff])
  refine hK1 _ _ ?_
  refine wp_seq_k (fun K2 hK2 => ?_)
  refine wp_seq_k (fun K3 hK3 => ?_)
  refine wp_region_lit ?_
  refine sqv hf (r_fa rfl Try.underlying54 (f := 1) (q := 1) rfl (by kernel_rfl) rfl) rfl rfl rfl ?_; clear hf fa; intro fa hf
  refine sqv hf (r_load (v := (.bool t.2.1)) rfl Try.underlying4 rfl (cell_blk hk1 rfl)) rfl rfl rfl ?_; clear hf fa; intro fa hf
  apply wpList_nil
  (try simp only [Exit.then, Exit.inBlock, ↓reduceIte, Nat.reduceEqDiff])
  refine hK3 _ _ ?_
  refine wp_cond_split (t := t.2.1) (hf.ev rfl) (fun hqt4_1 => ?_) (fun hqt4_1 => ?_)
  · have hqt4_1b := hqt4_1
    try simp only [decide_eq_true_eq, Bool.and_eq_true, Bool.or_eq_true, Bool.not_eq_true', decide_eq_false_iff_not, ne_eq, Bool.not_eq_true] at hqt4_1
    refine wp_seq_k (fun K4 hK4 => ?_)
    refine wp_region_lit ?_
    refine sqv hf (r_fa rfl Try.underlying54 (f := 0) (q := 0) rfl (by kernel_rfl) rfl) rfl rfl rfl ?_; clear hf fa; intro fa hf
    refine sqv hf (r_load (v := (.int .u8 t.1)) rfl Try.underlying5 rfl (cell_blk hk1 rfl)) rfl rfl rfl ?_; clear hf fa; intro fa hf
    refine sqdt hf (d_bslice (z := (.int .u8 (0 : Int))) (sz := 1) (vs := [(0, (.int .u8 t.1)), (1, (.int .u8 (1 : Int)))]) (cs := #[(.int .u8 t.1), (.int .u8 (1 : Int))]) rfl Try.underlying47 (by kernel_rfl) rfl (by kernel_rfl)) rfl rfl rfl ?_; clear hf fa; rintro fa _ w2 ⟨b2, rfl, hle2, hk2, he2⟩ hf
    have hBb2 : w.heap.size ≤ b2 := Nat.le_trans hb.size hle2
    have : b1 < b2 := Nat.lt_of_lt_of_le (blk_lt hk1) hle2
    replace hk1 := blk_ext hk1 he2
    replace hb := hb.trans (Below.mono he2 hb.size)
    refine sqv hf (r_assign rfl) rfl rfl rfl ?_; clear hf fa; intro fa hf
    apply wpList_nil
    (try simp only [Exit.then, Exit.inBlock, ↓reduceIte, Nat.reduceEqDiff])
    refine hK4 _ _ ?_
    refine wp_ret ?_
    (try simp only [Exit.then, Exit.inBlock])
    refine ret1 hf rfl rfl ?_
    have hr1 := Row.of_new (k := 1) (V := (vInt .u8)) (l := [t.1, (1 : Int)]) (base := w.heap.size) hk2 (by omega) rfl rfl (Nat.le_of_ble_eq_true rfl)
    refine ⟨_, rfl, ?_, hb⟩; have hE : encG t = [t.1, (1 : Int)] := by unfold encG; rw [hqt4_1b]; rfl
    rw [hE]; exact hr1
  · have hqt4_1b := hqt4_1
    replace hqt4_1 := Bool.eq_false_iff.1 hqt4_1
    try simp only [ne_eq, decide_eq_true_eq, Bool.and_eq_true, Bool.or_eq_true, Bool.not_eq_true', decide_eq_false_iff_not] at hqt4_1
    refine wp_skip ?_
    (try simp only [Exit.then, Exit.inBlock, ↓reduceIte, Nat.reduceEqDiff])
    refine hK2 _ _ ?_
    refine wp_seq_k (fun K5 hK5 => ?_)
    refine wp_region_lit ?_
    refine sqv hf (r_fa rfl Try.underlying54 (f := 0) (q := 0) rfl (by kernel_rfl) rfl) rfl rfl rfl ?_; clear hf fa; intro fa hf
    refine sqv hf (r_load (v := (.int .u8 t.1)) rfl Try.underlying5 rfl (cell_blk hk1 rfl)) rfl rfl rfl ?_; clear hf fa; intro fa hf
    refine sqdt hf (d_bslice (z := (.int .u8 (0 : Int))) (sz := 1) (vs := [(0, (.int .u8 t.1)), (1, (.int .u8 (0 : Int)))]) (cs := #[(.int .u8 t.1), (.int .u8 (0 : Int))]) rfl Try.underlying47 (by kernel_rfl) rfl (by kernel_rfl)) rfl rfl rfl ?_; clear hf fa; rintro fa _ w3 ⟨b3, rfl, hle3, hk3, he3⟩ hf
    have hBb3 : w.heap.size ≤ b3 := Nat.le_trans hb.size hle3
    have : b1 < b3 := Nat.lt_of_lt_of_le (blk_lt hk1) hle3
    replace hk1 := blk_ext hk1 he3
    replace hb := hb.trans (Below.mono he3 hb.size)
    refine sqv hf (r_assign rfl) rfl rfl rfl ?_; clear hf fa; intro fa hf
    apply wpList_nil
    (try simp only [Exit.then, Exit.inBlock, ↓reduceIte, Nat.reduceEqDiff])
    refine hK5 _ _ ?_
    refine wp_ret ?_
    (try simp only [Exit.then, Exit.inBlock])
    refine ret1 hf rfl rfl ?_
    have hr2 := Row.of_new (k := 1) (V := (vInt .u8)) (l := [t.1, (0 : Int)]) (base := w.heap.size) hk3 (by omega) rfl rfl (Nat.le_of_ble_eq_true rfl)
    refine ⟨_, rfl, ?_, hb⟩; have hE : encG t = [t.1, (0 : Int)] := by unfold encG; rw [hqt4_1b]; rfl
    rw [hE]; exact hr2

set_option maxHeartbeats 1000000 in
set_option maxRecDepth 100000 in
theorem rencg_any (t : MGt) (w : World) (hg : 0 ≤ t.1 ∧ t.1 < 256) : Calls Try.prog 40 #[(.agg #[(.int .u8 t.1), (.bool t.2.1)])] w fun e w' => e = .returned (.string (strOfNums (encG t))) ∧ Below w.heap.size w w' := by
  refine sx_enter (L := [(0, (.agg #[(.int .u8 t.1), (.bool t.2.1)]))]) Try.func40 rfl rfl rfl rfl (fun fa hf => ?_)
  have hb : Below w.heap.size w w := Below.refl _ _
  refine wp_seq_k (fun K1 hK1 => ?_)
  refine wp_region_lit ?_
  refine sqdt hf (d_box (cs := #[(.int .u8 t.1), (.bool t.2.1)]) rfl rfl) rfl rfl rfl ?_; clear hf fa; rintro fa _ w1 ⟨b1, rfl, hle1, hk1, he1⟩ hf
  have hBb1 : w.heap.size ≤ b1 := Nat.le_trans hb.size hle1
  replace hb := hb.trans (Below.mono he1 hb.size)
  refine sqv hf (r_assign rfl) rfl rfl rfl ?_; clear hf fa; intro fa hf
  apply wpList_nil
  (try simp only [Exit.then, Exit.inBlock, ↓reduceIte, Nat.reduceEqDiff])
  refine hK1 _ _ ?_
  refine wp_seq_k (fun K2 hK2 => ?_)
  refine wp_seq_k (fun K3 hK3 => ?_)
  refine wp_region_lit ?_
  refine sqv hf (r_fa rfl Try.underlying54 (f := 1) (q := 1) rfl (by kernel_rfl) rfl) rfl rfl rfl ?_; clear hf fa; intro fa hf
  refine sqv hf (r_load (v := (.bool t.2.1)) rfl Try.underlying4 rfl (cell_blk hk1 rfl)) rfl rfl rfl ?_; clear hf fa; intro fa hf
  apply wpList_nil
  (try simp only [Exit.then, Exit.inBlock, ↓reduceIte, Nat.reduceEqDiff])
  refine hK3 _ _ ?_
  refine wp_cond_split (t := t.2.1) (hf.ev rfl) (fun hqt4_1 => ?_) (fun hqt4_1 => ?_)
  · have hqt4_1b := hqt4_1
    try simp only [decide_eq_true_eq, Bool.and_eq_true, Bool.or_eq_true, Bool.not_eq_true', decide_eq_false_iff_not, ne_eq, Bool.not_eq_true] at hqt4_1
    refine wp_seq_k (fun K4 hK4 => ?_)
    refine wp_region_lit ?_
    refine sqv hf (r_fa rfl Try.underlying54 (f := 0) (q := 0) rfl (by kernel_rfl) rfl) rfl rfl rfl ?_; clear hf fa; intro fa hf
    refine sqv hf (r_load (v := (.int .u8 t.1)) rfl Try.underlying5 rfl (cell_blk hk1 rfl)) rfl rfl rfl ?_; clear hf fa; intro fa hf
    refine sqdt hf (d_bslice (z := (.int .u8 (0 : Int))) (sz := 1) (vs := [(0, (.int .u8 t.1)), (1, (.int .u8 (1 : Int)))]) (cs := #[(.int .u8 t.1), (.int .u8 (1 : Int))]) rfl Try.underlying47 (by kernel_rfl) rfl (by kernel_rfl)) rfl rfl rfl ?_; clear hf fa; rintro fa _ w2 ⟨b2, rfl, hle2, hk2, he2⟩ hf
    have hBb2 : w.heap.size ≤ b2 := Nat.le_trans hb.size hle2
    have : b1 < b2 := Nat.lt_of_lt_of_le (blk_lt hk1) hle2
    replace hk1 := blk_ext hk1 he2
    replace hb := hb.trans (Below.mono he2 hb.size)
    refine sqv hf (r_rowstr rfl Try.underlying47 Try.underlying5 Try.underlying9 (Row.of_new (k := 1) (V := vInt .u8) (l := [t.1, (1 : Int)]) hk2 (Nat.le_refl _) rfl rfl (Nat.le_of_ble_eq_true rfl))) rfl rfl rfl ?_; clear hf fa; intro fa hf
    refine sqv hf (r_assign rfl) rfl rfl rfl ?_; clear hf fa; intro fa hf
    apply wpList_nil
    (try simp only [Exit.then, Exit.inBlock, ↓reduceIte, Nat.reduceEqDiff])
    refine hK4 _ _ ?_
    refine wp_ret ?_
    (try simp only [Exit.then, Exit.inBlock])
    refine ret1 hf rfl rfl ?_
    refine ⟨congrArg (fun b => Ending.returned (.string b)) ?_, hb⟩; unfold encG; rw [hqt4_1b]; rfl
  · have hqt4_1b := hqt4_1
    replace hqt4_1 := Bool.eq_false_iff.1 hqt4_1
    try simp only [ne_eq, decide_eq_true_eq, Bool.and_eq_true, Bool.or_eq_true, Bool.not_eq_true', decide_eq_false_iff_not] at hqt4_1
    refine wp_skip ?_
    (try simp only [Exit.then, Exit.inBlock, ↓reduceIte, Nat.reduceEqDiff])
    refine hK2 _ _ ?_
    refine wp_seq_k (fun K5 hK5 => ?_)
    refine wp_region_lit ?_
    refine sqv hf (r_fa rfl Try.underlying54 (f := 0) (q := 0) rfl (by kernel_rfl) rfl) rfl rfl rfl ?_; clear hf fa; intro fa hf
    refine sqv hf (r_load (v := (.int .u8 t.1)) rfl Try.underlying5 rfl (cell_blk hk1 rfl)) rfl rfl rfl ?_; clear hf fa; intro fa hf
    refine sqdt hf (d_bslice (z := (.int .u8 (0 : Int))) (sz := 1) (vs := [(0, (.int .u8 t.1)), (1, (.int .u8 (0 : Int)))]) (cs := #[(.int .u8 t.1), (.int .u8 (0 : Int))]) rfl Try.underlying47 (by kernel_rfl) rfl (by kernel_rfl)) rfl rfl rfl ?_; clear hf fa; rintro fa _ w3 ⟨b3, rfl, hle3, hk3, he3⟩ hf
    have hBb3 : w.heap.size ≤ b3 := Nat.le_trans hb.size hle3
    have : b1 < b3 := Nat.lt_of_lt_of_le (blk_lt hk1) hle3
    replace hk1 := blk_ext hk1 he3
    replace hb := hb.trans (Below.mono he3 hb.size)
    refine sqv hf (r_rowstr rfl Try.underlying47 Try.underlying5 Try.underlying9 (Row.of_new (k := 1) (V := vInt .u8) (l := [t.1, (0 : Int)]) hk3 (Nat.le_refl _) rfl rfl (Nat.le_of_ble_eq_true rfl))) rfl rfl rfl ?_; clear hf fa; intro fa hf
    refine sqv hf (r_assign rfl) rfl rfl rfl ?_; clear hf fa; intro fa hf
    apply wpList_nil
    (try simp only [Exit.then, Exit.inBlock, ↓reduceIte, Nat.reduceEqDiff])
    refine hK5 _ _ ?_
    refine wp_ret ?_
    (try simp only [Exit.then, Exit.inBlock])
    refine ret1 hf rfl rfl ?_
    refine ⟨congrArg (fun b => Ending.returned (.string b)) ?_, hb⟩; unfold encG; rw [hqt4_1b]; rfl
end Go.Proofs.Ytcmdajkkdognfaa
