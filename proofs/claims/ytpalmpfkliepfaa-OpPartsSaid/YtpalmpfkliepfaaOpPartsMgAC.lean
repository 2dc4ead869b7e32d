/- What is proved here: values: Cut and Right. What is proved here: Cut at one byte; Value, by the program and by the document. What is proved here: ReadValue, by the program and by the document. What is proved here: bytes as hex digits, by the program and by the document. What is proved here: bytes read from hex digits, by the program and by the document. What is proved here: the kinds of operations: words and forms, by the program and by the document. -/
import Derived.Test.YtpalmpfkliepfaaOpPartsMgAB
namespace Go.Proofs.Ytpalmpfkliepfaa
open Go.RowKit
set_option linter.unusedVariables false
set_option linter.unusedSimpArgs false
def tcutP (v : MVal) : MVal :=
  bif (decide (v.1 = (127 : Int))) then (v.1, (v.2.1 % 4294967296), ())
  else v

set_option maxHeartbeats 1000000 in
set_option maxRecDepth 100000 in
theorem tcut_any (v : MVal) (w : World) (hv1 : 0 ≤ v.1 ∧ v.1 < 256) (hv2 : 0 ≤ v.2.1 ∧ v.2.1 < 18446744073709551616) : Calls Try.prog 64 #[(.agg #[(.int .u8 v.1), (.int .u64 v.2.1)])] w fun e w' => e = .returned (.agg #[(.int .u8 ((tcutP v).1)), (.int .u64 ((tcutP v).2.1))]) ∧ Below w.heap.size w w' := by
  refine sx_enter (L := [(0, (.agg #[(.int .u8 v.1), (.int .u64 v.2.1)]))]) Try.func64 rfl rfl rfl rfl (fun fa hf => ?_)
  have hb : Below w.heap.size w w := Below.refl _ _
  refine wp_seq_k (fun K1 hK1 => ?_)
  refine wp_region_lit ?_
  refine sqdt hf (d_box (cs := #[(.int .u8 v.1), (.int .u64 v.2.1)]) rfl rfl) rfl rfl rfl ?_; clear hf fa; rintro fa _ w1 ⟨b1, rfl, hle1, hk1, he1⟩ hf
  have hBb1 : w.heap.size ≤ b1 := Nat.le_trans hb.size hle1
  replace hb := hb.trans (Below.mono he1 hb.size)
  refine sqdt hf (d_alloc (z := (.agg #[(.int .u8 (0 : Int)), (.int .u64 (0 : Int))])) (cs := #[(.int .u8 (0 : Int)), (.int .u64 (0 : Int))]) (by kernel_rfl) rfl) rfl rfl rfl ?_; clear hf fa; rintro fa _ w2 ⟨b2, rfl, hle2, hk2, he2⟩ hf
  have hBb2 : w.heap.size ≤ b2 := Nat.le_trans hb.size hle2
  have : b1 < b2 := Nat.lt_of_lt_of_le (blk_lt hk1) hle2
  replace hk1 := blk_ext hk1 he2
  replace hb := hb.trans (Below.mono he2 hb.size)
  apply wpList_nil
  (try simp only [Exit.then, Exit.inBlock, ↓reduceIte, Nat.reduceEqDiff])
  refine hK1 _ _ ?_
  refine wp_seq_k (fun K2 hK2 => ?_)
  refine wp_seq_k (fun K3 hK3 => ?_)
  refine wp_region_lit ?_
  refine sqv hf (r_fa rfl Try.underlying65 (f := 0) (q := 0) rfl (by kernel_rfl) rfl) rfl rfl rfl ?_; clear hf fa; intro fa hf
  refine sqv hf (r_load (v := (.int .u8 v.1)) rfl Try.underlying5 rfl (cell_blk hk1 rfl)) rfl rfl rfl ?_; clear hf fa; intro fa hf
  refine sqv hf (r_eq rfl rfl) rfl rfl rfl ?_; clear hf fa; intro fa hf
  apply wpList_nil
  (try simp only [Exit.then, Exit.inBlock, ↓reduceIte, Nat.reduceEqDiff])
  refine hK3 _ _ ?_
  refine wp_cond_split (t := (decide (v.1 = (127 : Int)))) (hf.ev rfl) (fun hqt5_1 => ?_) (fun hqt5_1 => ?_)
  · have hqt5_1b := hqt5_1
    try simp only [decide_eq_true_eq, Bool.and_eq_true, Bool.or_eq_true, Bool.not_eq_true', decide_eq_false_iff_not, ne_eq, Bool.not_eq_true] at hqt5_1
    refine wp_region_lit ?_
    refine sqv hf (r_fa rfl Try.underlying65 (f := 1) (q := 1) rfl (by kernel_rfl) rfl) rfl rfl rfl ?_; clear hf fa; intro fa hf
    refine sqv hf (r_load (v := (.int .u64 v.2.1)) rfl Try.underlying63 rfl (cell_blk hk1 rfl)) rfl rfl rfl ?_; clear hf fa; intro fa hf
    refine sqv hf (r_conv (C := ((v.2.1 % 4294967296))) rfl Try.underlying63 Try.underlying31 (by rw [IntKind.wrap_u32])) rfl rfl rfl ?_; clear hf fa; intro fa hf
    refine sqv hf (r_conv (C := ((v.2.1 % 4294967296))) rfl Try.underlying31 Try.underlying63 (by rw [IntKind.wrap_u64]; omega)) rfl rfl rfl ?_; clear hf fa; intro fa hf
    refine sqv hf (r_fa rfl Try.underlying65 (f := 1) (q := 1) rfl (by kernel_rfl) rfl) rfl rfl rfl ?_; clear hf fa; intro fa hf
    refine sqn hf (d_storeK (T := 65) (v := (.int .u64 ((v.2.1 % 4294967296)))) (cs := #[(.int .u8 v.1), (.int .u64 v.2.1)]) (cs' := #[(.int .u8 v.1), (.int .u64 ((v.2.1 % 4294967296)))]) rfl rfl (by kernel_rfl) (by kernel_rfl) hk1 (by kernel_rfl) (by kernel_rfl)) rfl rfl ?_; clear hf fa; rintro fa _ w3 ⟨hk3, hg1⟩ hf
    replace hk2 := blk_grown hk2 hg1 (by omega)
    replace hb := hb.trans (grown_below hg1 hb.size hBb1)
    apply wpList_nil
    (try simp only [Exit.then, Exit.inBlock, ↓reduceIte, Nat.reduceEqDiff])
    refine hK2 _ _ ?_
    refine wp_seq_k (fun K4 hK4 => ?_)
    refine wp_region_lit ?_
    refine sqv hf (r_loadA (cs := [(.int .u8 v.1), (.int .u64 ((v.2.1 % 4294967296)))]) rfl Try.underlying65 rfl (by kernel_rfl) (cellsAt_blk hk3)) rfl rfl rfl ?_; clear hf fa; intro fa hf
    refine sqn hf (d_storeK (T := 65) (v := (.agg #[(.int .u8 v.1), (.int .u64 ((v.2.1 % 4294967296)))])) (cs := #[(.int .u8 (0 : Int)), (.int .u64 (0 : Int))]) (cs' := #[(.int .u8 v.1), (.int .u64 ((v.2.1 % 4294967296)))]) rfl rfl (by kernel_rfl) (by kernel_rfl) hk2 (by kernel_rfl) (by kernel_rfl)) rfl rfl ?_; clear hf fa; rintro fa _ w4 ⟨hk4, hg2⟩ hf
    replace hk3 := blk_grown hk3 hg2 (by omega)
    replace hb := hb.trans (grown_below hg2 hb.size hBb2)
    apply wpList_nil
    (try simp only [Exit.then, Exit.inBlock, ↓reduceIte, Nat.reduceEqDiff])
    refine hK4 _ _ ?_
    refine wp_ret ?_
    (try simp only [Exit.then, Exit.inBlock])
    refine retC hf rfl rfl hk4 Try.underlying65 rfl (by kernel_rfl) ?_
    refine ⟨?_, hb⟩; unfold tcutP; rw [hqt5_1b]; (try rfl)
  · have hqt5_1b := hqt5_1
    replace hqt5_1 := Bool.eq_false_iff.1 hqt5_1
    try simp only [ne_eq, decide_eq_true_eq, Bool.and_eq_true, Bool.or_eq_true, Bool.not_eq_true', decide_eq_false_iff_not] at hqt5_1
    refine wp_skip ?_
    (try simp only [Exit.then, Exit.inBlock, ↓reduceIte, Nat.reduceEqDiff])
    refine hK2 _ _ ?_
    refine wp_seq_k (fun K5 hK5 => ?_)
    refine wp_region_lit ?_
    refine sqv hf (r_loadA (cs := [(.int .u8 v.1), (.int .u64 v.2.1)]) rfl Try.underlying65 rfl (by kernel_rfl) (cellsAt_blk hk1)) rfl rfl rfl ?_; clear hf fa; intro fa hf
    refine sqn hf (d_storeK (T := 65) (v := (.agg #[(.int .u8 v.1), (.int .u64 v.2.1)])) (cs := #[(.int .u8 (0 : Int)), (.int .u64 (0 : Int))]) (cs' := #[(.int .u8 v.1), (.int .u64 v.2.1)]) rfl rfl (by kernel_rfl) (by kernel_rfl) hk2 (by kernel_rfl) (by kernel_rfl)) rfl rfl ?_; clear hf fa; rintro fa _ w5 ⟨hk5, hg3⟩ hf
    replace hk1 := blk_grown hk1 hg3 (by omega)
    replace hb := hb.trans (grown_below hg3 hb.size hBb2)
    apply wpList_nil
    (try simp only [Exit.then, Exit.inBlock, ↓reduceIte, Nat.reduceEqDiff])
    refine hK5 _ _ ?_
    refine wp_ret ?_
    (try simp only [Exit.then, Exit.inBlock])
    refine retC hf rfl rfl hk5 Try.underlying65 rfl (by kernel_rfl) ?_
    refine ⟨?_, hb⟩; unfold tcutP; rw [hqt5_1b]; (try rfl)

def rcutP (v : MVal) : MVal :=
  bif (decide (v.1 = (127 : Int))) then (v.1, (v.2.1 % 4294967296), ())
  else v

set_option maxHeartbeats 1000000 in
set_option maxRecDepth 100000 in
theorem rcut_any (v : MVal) (w : World) (hv1 : 0 ≤ v.1 ∧ v.1 < 256) (hv2 : 0 ≤ v.2.1 ∧ v.2.1 < 18446744073709551616) : Calls Try.prog 53 #[(.agg #[(.int .u8 v.1), (.int .u64 v.2.1)])] w fun e w' => e = .returned (.agg #[(.int .u8 ((rcutP v).1)), (.int .u64 ((rcutP v).2.1))]) ∧ Below w.heap.size w w' := by
  refine sx_enter (L := [(0, (.agg #[(.int .u8 v.1), (.int .u64 v.2.1)]))]) Try.func53 rfl rfl rfl rfl (fun fa hf => ?_)
  have hb : Below w.heap.size w w := Below.refl _ _
  refine wp_seq_k (fun K1 hK1 => ?_)
  refine wp_region_lit ?_
  refine sqdt hf (d_box (cs := #[(.int .u8 v.1), (.int .u64 v.2.1)]) rfl rfl) rfl rfl rfl ?_; clear hf fa; rintro fa _ w1 ⟨b1, rfl, hle1, hk1, he1⟩ hf
  have hBb1 : w.heap.size ≤ b1 := Nat.le_trans hb.size hle1
  replace hb := hb.trans (Below.mono he1 hb.size)
  refine sqdt hf (d_alloc (z := (.agg #[(.int .u8 (0 : Int)), (.int .u64 (0 : Int))])) (cs := #[(.int .u8 (0 : Int)), (.int .u64 (0 : Int))]) (by kernel_rfl) rfl) rfl rfl rfl ?_; clear hf fa; rintro fa _ w2 ⟨b2, rfl, hle2, hk2, he2⟩ hf
  have hBb2 : w.heap.size ≤ b2 := Nat.le_trans hb.size hle2
  have : b1 < b2 := Nat.lt_of_lt_of_le (blk_lt hk1) hle2
  replace hk1 := blk_ext hk1 he2
  replace hb := hb.trans (Below.mono he2 hb.size)
  apply wpList_nil
  (try simp only [Exit.then, Exit.inBlock, ↓reduceIte, Nat.reduceEqDiff])
  refine hK1 _ _ ?_
  refine wp_seq_k (fun K2 hK2 => ?_)
  refine wp_seq_k (fun K3 hK3 => ?_)
  refine wp_region_lit ?_
  refine sqv hf (r_fa rfl Try.underlying65 (f := 0) (q := 0) rfl (by kernel_rfl) rfl) rfl rfl rfl ?_; clear hf fa; intro fa hf
  refine sqv hf (r_load (v := (.int .u8 v.1)) rfl Try.underlying5 rfl (cell_blk hk1 rfl)) rfl rfl rfl ?_; clear hf fa; intro fa hf
  refine sqv hf (r_eq rfl rfl) rfl rfl rfl ?_; clear hf fa; intro fa hf
  apply wpList_nil
  (try simp only [Exit.then, Exit.inBlock, ↓reduceIte, Nat.reduceEqDiff])
  refine hK3 _ _ ?_
  refine wp_cond_split (t := (decide (v.1 = (127 : Int)))) (hf.ev rfl) (fun hqt5_1 => ?_) (fun hqt5_1 => ?_)
  · have hqt5_1b := hqt5_1
    try simp only [decide_eq_true_eq, Bool.and_eq_true, Bool.or_eq_true, Bool.not_eq_true', decide_eq_false_iff_not, ne_eq, Bool.not_eq_true] at hqt5_1
    refine wp_region_lit ?_
    refine sqv hf (r_fa rfl Try.underlying65 (f := 1) (q := 1) rfl (by kernel_rfl) rfl) rfl rfl rfl ?_; clear hf fa; intro fa hf
    refine sqv hf (r_load (v := (.int .u64 v.2.1)) rfl Try.underlying63 rfl (cell_blk hk1 rfl)) rfl rfl rfl ?_; clear hf fa; intro fa hf
    refine sqv hf (r_rem (C := ((v.2.1 % 4294967296))) rfl rfl (by omega) (Int.tmod_eq_emod_of_nonneg (by omega))) rfl rfl rfl ?_; clear hf fa; intro fa hf
    refine sqv hf (r_fa rfl Try.underlying65 (f := 1) (q := 1) rfl (by kernel_rfl) rfl) rfl rfl rfl ?_; clear hf fa; intro fa hf
    refine sqn hf (d_storeK (T := 65) (v := (.int .u64 ((v.2.1 % 4294967296)))) (cs := #[(.int .u8 v.1), (.int .u64 v.2.1)]) (cs' := #[(.int .u8 v.1), (.int .u64 ((v.2.1 % 4294967296)))]) rfl rfl (by kernel_rfl) (by kernel_rfl) hk1 (by kernel_rfl) (by kernel_rfl)) rfl rfl ?_; clear hf fa; rintro fa _ w3 ⟨hk3, hg1⟩ hf
    replace hk2 := blk_grown hk2 hg1 (by omega)
    replace hb := hb.trans (grown_below hg1 hb.size hBb1)
    apply wpList_nil
    (try simp only [Exit.then, Exit.inBlock, ↓reduceIte, Nat.reduceEqDiff])
    refine hK2 _ _ ?_
    refine wp_seq_k (fun K4 hK4 => ?_)
    refine wp_region_lit ?_
    refine sqv hf (r_loadA (cs := [(.int .u8 v.1), (.int .u64 ((v.2.1 % 4294967296)))]) rfl Try.underlying65 rfl (by kernel_rfl) (cellsAt_blk hk3)) rfl rfl rfl ?_; clear hf fa; intro fa hf
    refine sqn hf (d_storeK (T := 65) (v := (.agg #[(.int .u8 v.1), (.int .u64 ((v.2.1 % 4294967296)))])) (cs := #[(.int .u8 (0 : Int)), (.int .u64 (0 : Int))]) (cs' := #[(.int .u8 v.1), (.int .u64 ((v.2.1 % 4294967296)))]) rfl rfl (by kernel_rfl) (by kernel_rfl) hk2 (by kernel_rfl) (by kernel_rfl)) rfl rfl ?_; clear hf fa; rintro fa _ w4 ⟨hk4, hg2⟩ hf
    replace hk3 := blk_grown hk3 hg2 (by omega)
    replace hb := hb.trans (grown_below hg2 hb.size hBb2)
    apply wpList_nil
    (try simp only [Exit.then, Exit.inBlock, ↓reduceIte, Nat.reduceEqDiff])
    refine hK4 _ _ ?_
    refine wp_ret ?_
    (try simp only [Exit.then, Exit.inBlock])
    refine retC hf rfl rfl hk4 Try.underlying65 rfl (by kernel_rfl) ?_
    refine ⟨?_, hb⟩; unfold rcutP; rw [hqt5_1b]; (try rfl)
  · have hqt5_1b := hqt5_1
    replace hqt5_1 := Bool.eq_false_iff.1 hqt5_1
    try simp only [ne_eq, decide_eq_true_eq, Bool.and_eq_true, Bool.or_eq_true, Bool.not_eq_true', decide_eq_false_iff_not] at hqt5_1
    refine wp_skip ?_
    (try simp only [Exit.then, Exit.inBlock, ↓reduceIte, Nat.reduceEqDiff])
    refine hK2 _ _ ?_
    refine wp_seq_k (fun K5 hK5 => ?_)
    refine wp_region_lit ?_
    refine sqv hf (r_loadA (cs := [(.int .u8 v.1), (.int .u64 v.2.1)]) rfl Try.underlying65 rfl (by kernel_rfl) (cellsAt_blk hk1)) rfl rfl rfl ?_; clear hf fa; intro fa hf
    refine sqn hf (d_storeK (T := 65) (v := (.agg #[(.int .u8 v.1), (.int .u64 v.2.1)])) (cs := #[(.int .u8 (0 : Int)), (.int .u64 (0 : Int))]) (cs' := #[(.int .u8 v.1), (.int .u64 v.2.1)]) rfl rfl (by kernel_rfl) (by kernel_rfl) hk2 (by kernel_rfl) (by kernel_rfl)) rfl rfl ?_; clear hf fa; rintro fa _ w5 ⟨hk5, hg3⟩ hf
    replace hk1 := blk_grown hk1 hg3 (by omega)
    replace hb := hb.trans (grown_below hg3 hb.size hBb2)
    apply wpList_nil
    (try simp only [Exit.then, Exit.inBlock, ↓reduceIte, Nat.reduceEqDiff])
    refine hK5 _ _ ?_
    refine wp_ret ?_
    (try simp only [Exit.then, Exit.inBlock])
    refine retC hf rfl rfl hk5 Try.underlying65 rfl (by kernel_rfl) ?_
    refine ⟨?_, hb⟩; unfold rcutP; rw [hqt5_1b]; (try rfl)

theorem rcut_eq (v : MVal) : rcutP v = tcutP v := rfl
theorem rcut2_any (v : MVal) (w : World) (hv1 : 0 ≤ v.1 ∧ v.1 < 256) (hv2 : 0 ≤ v.2.1 ∧ v.2.1 < 18446744073709551616) : Calls Try.prog 53 #[(.agg #[(.int .u8 v.1), (.int .u64 v.2.1)])] w fun e w' => e = .returned (.agg #[(.int .u8 ((tcutP v).1)), (.int .u64 ((tcutP v).2.1))]) ∧ Below w.heap.size w w' := by
  have h := rcut_any v w hv1 hv2
  rw [rcut_eq] at h
  exact h

def vrightP (v : MVal) : Bool :=
  bif (decide (tvalP v.1 = 0)) then ((decide (((tcutP v).1) = v.1)) && (decide (((tcutP v).2.1) = v.2.1)))
  else false

set_option maxHeartbeats 1000000 in
set_option maxRecDepth 100000 in
theorem vright_any (v : MVal) (w : World) (hv1 : 0 ≤ v.1 ∧ v.1 < 256) (hv2 : 0 ≤ v.2.1 ∧ v.2.1 < 18446744073709551616) : Calls Try.prog 57 #[(.agg #[(.int .u8 v.1), (.int .u64 v.2.1)])] w fun e w' => e = .returned (.bool (vrightP v)) ∧ Below w.heap.size w w' := by
  refine sx_enter (L := [(0, (.agg #[(.int .u8 v.1), (.int .u64 v.2.1)]))]) Try.func57 rfl rfl rfl rfl (fun fa hf => ?_)
  have hb : Below w.heap.size w w := Below.refl _ _
  refine wp_seq_k (fun K1 hK1 => ?_)
  refine wp_region_lit ?_
  refine sqdt hf (d_box (cs := #[(.int .u8 v.1), (.int .u64 v.2.1)]) rfl rfl) rfl rfl rfl ?_; clear hf fa; rintro fa _ w1 ⟨b1, rfl, hle1, hk1, he1⟩ hf
  have hBb1 : w.heap.size ≤ b1 := Nat.le_trans hb.size hle1
  replace hb := hb.trans (Below.mono he1 hb.size)
  refine sqv hf (r_assign rfl) rfl rfl rfl ?_; clear hf fa; intro fa hf
  apply wpList_nil
  (try simp only [Exit.then, Exit.inBlock, ↓reduceIte, Nat.reduceEqDiff])
  refine hK1 _ _ ?_
  refine wp_seq_k (fun K2 hK2 => ?_)
  by_cases hsp1 : tvalP v.1 = 0
  · have hsp1b : decide (tvalP v.1 = 0) = true := decide_eq_true hsp1
    refine wp_region_un (fun wq => Below w1.heap.size w1 wq) (fun w w' => Below w.heap.size w w')
      (fun V => [(fun x _ => x = (.pointer (some ⟨b1, 0, none⟩))), (fun x _ => x = (.int .u8 v.1)), (fun x _ => x = (.int .i64 ((tvalP v.1)))), (fun x _ => x = (.bool true)), (fun x _ => x = (.bool true)), (fun x _ => x = (.agg #[(.int .u8 v.1), (.int .u64 v.2.1)])), (fun x _ => x = (.agg #[(.int .u8 ((tcutP v).1)), (.int .u64 ((tcutP v).2.1))])), (fun x _ => x = (.agg #[(.int .u8 v.1), (.int .u64 v.2.1)])), (fun x _ => x = (.bool ((decide (((tcutP v).1) = v.1)) && (decide (((tcutP v).2.1) = v.2.1))))), (fun x _ => x = (.bool ((decide (((tcutP v).1) = v.1)) && (decide (((tcutP v).2.1) = v.2.1))))), (fun x _ => x = (.bool ((decide (((tcutP v).1) = v.1)) && (decide (((tcutP v).2.1) = v.2.1)))))])
      []
      [[], [0], [1], [2], [2, 3], [4], [4, 5], [4], [4, 6, 7], [4, 8], [0, 1, 2, 3, 4, 5, 6, 7, 8, 9]]
      hf (by kernel_rfl) (by kernel_rfl) (fun _ => rfl) ((Below.refl _ _).drew) (fun a b h1 h2 => h1.trans (h2.mono h1.size)) (fun _ _ h => h.size) (fun V => ⟨kept_eq, kept_eq, kept_eq, kept_eq, kept_eq, kept_eq, kept_eq, kept_eq, kept_eq, kept_eq, kept_eq, trivial⟩) (fun _ _ _ _ _ => rfl) ?_ ?_
    · skip
      intro V
      refine ⟨fun wu0 hC hd => ?_, ?_⟩
      · clear hd
        replace hb := hb.trans (hC.mono hb.size)
        replace hk1 := blk_ext hk1 hC
        exact Runs.does (r_fa rfl Try.underlying65 (f := 0) (q := 0) rfl (by kernel_rfl) rfl) ⟨Below.refl _ _, rfl, nofr rfl⟩
      refine ⟨fun wu1 hC hd => ?_, ?_⟩
      · obtain ⟨h0, _⟩ := hd
        skip
        replace h0 : V 0 = (.pointer (some ⟨b1, 0, none⟩)) := h0
        replace hb := hb.trans (hC.mono hb.size)
        replace hk1 := blk_ext hk1 hC
        exact Runs.does (r_load (v := (.int .u8 v.1)) (congrArg some h0) Try.underlying5 rfl (cell_blk hk1 rfl)) ⟨Below.refl _ _, rfl, nofr rfl⟩
      refine ⟨fun wu2 hC hd => ?_, ?_⟩
      · obtain ⟨h1, _⟩ := hd
        skip
        replace h1 : V 1 = (.int .u8 v.1) := h1
        replace hb := hb.trans (hC.mono hb.size)
        replace hk1 := blk_ext hk1 hC
        refine Does.mono (d_callS (vs := [(.int .u8 v.1)]) (show [some (V 1)] = [some (.int .u8 v.1)] from by rw [h1]) Try.func85 (by kernel_rfl) (by kernel_rfl) (tval_any v.1 _)) (fun _ _ h => ⟨h.2 ▸ Below.refl _ _, h.1, nofr rfl⟩)
      refine ⟨fun wu3 hC hd => ?_, ?_⟩
      · obtain ⟨h2, _⟩ := hd
        skip
        replace h2 : V 2 = (.int .i64 ((tvalP v.1))) := h2
        replace hb := hb.trans (hC.mono hb.size)
        replace hk1 := blk_ext hk1 hC
        exact Runs.does (Runs.veq (r_eq (congrArg some h2) rfl) (congrArg Value.bool (show _ = true from (by simpa using hsp1)))) ⟨Below.refl _ _, rfl, nofr rfl⟩
      refine ⟨fun wu4 hC hd => ?_, ?_⟩
      · obtain ⟨h2, h3, _⟩ := hd
        skip
        skip
        replace h2 : V 2 = (.int .i64 ((tvalP v.1))) := h2
        replace h3 : V 3 = (.bool true) := h3
        replace hb := hb.trans (hC.mono hb.size)
        replace hk1 := blk_ext hk1 hC
        exact Runs.does (r_move (congrArg some h3)) ⟨Below.refl _ _, rfl, nofr rfl⟩
      refine ⟨fun wu5 hC hd => ?_, ?_⟩
      · obtain ⟨h4, _⟩ := hd
        skip
        replace h4 : V 4 = (.bool true) := h4
        replace hb := hb.trans (hC.mono hb.size)
        replace hk1 := blk_ext hk1 hC
        refine ⟨true, true, congrArg some h4, fun hact => ?_, fun hact => ?_⟩
        · exact Runs.does (r_loadA (cs := [(.int .u8 v.1), (.int .u64 v.2.1)]) rfl Try.underlying65 rfl (by kernel_rfl) (cellsAt_blk hk1)) ⟨Below.refl _ _, rfl, nofr rfl⟩
        · exfalso; simp at hact
      refine ⟨fun wu6 hC hd => ?_, ?_⟩
      · obtain ⟨h4, h5, _⟩ := hd
        skip
        skip
        replace h4 : V 4 = (.bool true) := h4
        replace h5 : V 5 = (.agg #[(.int .u8 v.1), (.int .u64 v.2.1)]) := h5
        replace hb := hb.trans (hC.mono hb.size)
        replace hk1 := blk_ext hk1 hC
        refine ⟨true, true, congrArg some h4, fun hact => ?_, fun hact => ?_⟩
        · refine Does.mono (d_callB (vs := [(.agg #[(.int .u8 v.1), (.int .u64 v.2.1)])]) (show [some (V 5)] = [some (.agg #[(.int .u8 v.1), (.int .u64 v.2.1)])] from by rw [h5]) Try.func64 (by kernel_rfl) (by kernel_rfl) (tcut_any v _ hv1 hv2)) (fun _ _ h => ⟨h.2, h.1, nofr rfl⟩)
        · exfalso; simp at hact
      refine ⟨fun wu7 hC hd => ?_, ?_⟩
      · obtain ⟨h4, _⟩ := hd
        skip
        replace h4 : V 4 = (.bool true) := h4
        replace hb := hb.trans (hC.mono hb.size)
        replace hk1 := blk_ext hk1 hC
        refine ⟨true, true, congrArg some h4, fun hact => ?_, fun hact => ?_⟩
        · exact Runs.does (r_loadA (cs := [(.int .u8 v.1), (.int .u64 v.2.1)]) rfl Try.underlying65 rfl (by kernel_rfl) (cellsAt_blk hk1)) ⟨Below.refl _ _, rfl, nofr rfl⟩
        · exfalso; simp at hact
      refine ⟨fun wu8 hC hd => ?_, ?_⟩
      · obtain ⟨h4, h6, h7, _⟩ := hd
        skip
        skip
        skip
        replace h4 : V 4 = (.bool true) := h4
        replace h6 : V 6 = (.agg #[(.int .u8 ((tcutP v).1)), (.int .u64 ((tcutP v).2.1))]) := h6
        replace h7 : V 7 = (.agg #[(.int .u8 v.1), (.int .u64 v.2.1)]) := h7
        replace hb := hb.trans (hC.mono hb.size)
        replace hk1 := blk_ext hk1 hC
        refine ⟨true, true, congrArg some h4, fun hact => ?_, fun hact => ?_⟩
        · exact Runs.does (r_aeq (k := 5) (congrArg some h6) (congrArg some h7) (by kernel_rfl) (eqt_struct (xs := #[(.int .u8 ((tcutP v).1)), (.int .u64 ((tcutP v).2.1))]) (ys := #[(.int .u8 v.1), (.int .u64 v.2.1)]) Try.underlying65 (by kernel_rfl) (eqf_cons (by kernel_rfl) (fun _ => by kernel_rfl) (fun _ => by kernel_rfl) (eqt_int (kk := .u8) (a := ((tcutP v).1)) (b := v.1) Try.underlying5) (eqf_one (by kernel_rfl) (fun _ => by kernel_rfl) (fun _ => by kernel_rfl) (eqt_int (kk := .u64) (a := ((tcutP v).2.1)) (b := v.2.1) Try.underlying63)))) rfl) ⟨Below.refl _ _, rfl, nofr rfl⟩
        · exfalso; simp at hact
      refine ⟨fun wu9 hC hd => ?_, ?_⟩
      · obtain ⟨h4, h8, _⟩ := hd
        skip
        skip
        replace h4 : V 4 = (.bool true) := h4
        replace h8 : V 8 = (.bool ((decide (((tcutP v).1) = v.1)) && (decide (((tcutP v).2.1) = v.2.1)))) := h8
        replace hb := hb.trans (hC.mono hb.size)
        replace hk1 := blk_ext hk1 hC
        exact Runs.does (r_pick (b := true) (congrArg some h4) (congrArg some h8) rfl rfl) ⟨Below.refl _ _, rfl, nofr rfl⟩
      refine ⟨fun wu10 hC hd => ?_, ?_⟩
      · obtain ⟨h0, h1, h2, h3, h4, h5, h6, h7, h8, h9, _⟩ := hd
        skip
        skip
        skip
        skip
        skip
        skip
        skip
        skip
        skip
        skip
        replace h0 : V 0 = (.pointer (some ⟨b1, 0, none⟩)) := h0
        replace h1 : V 1 = (.int .u8 v.1) := h1
        replace h2 : V 2 = (.int .i64 ((tvalP v.1))) := h2
        replace h3 : V 3 = (.bool true) := h3
        replace h4 : V 4 = (.bool true) := h4
        replace h5 : V 5 = (.agg #[(.int .u8 v.1), (.int .u64 v.2.1)]) := h5
        replace h6 : V 6 = (.agg #[(.int .u8 ((tcutP v).1)), (.int .u64 ((tcutP v).2.1))]) := h6
        replace h7 : V 7 = (.agg #[(.int .u8 v.1), (.int .u64 v.2.1)]) := h7
        replace h8 : V 8 = (.bool ((decide (((tcutP v).1) = v.1)) && (decide (((tcutP v).2.1) = v.2.1)))) := h8
        replace h9 : V 9 = (.bool ((decide (((tcutP v).1) = v.1)) && (decide (((tcutP v).2.1) = v.2.1)))) := h9
        replace hb := hb.trans (hC.mono hb.size)
        replace hk1 := blk_ext hk1 hC
        exact Runs.does (r_assign (congrArg some h9)) ⟨Below.refl _ _, rfl, nofr rfl⟩
      trivial
    · skip
      clear hf fa; intro V w2 fa he2 hp hnb hf
      have hv0 : V 0 = (.pointer (some ⟨b1, 0, none⟩)) := postsHold_at hp 0 rfl
      have hv1 : V 1 = (.int .u8 v.1) := postsHold_at hp 1 rfl
      have hv2 : V 2 = (.int .i64 ((tvalP v.1))) := postsHold_at hp 2 rfl
      have hv3 : V 3 = (.bool true) := postsHold_at hp 3 rfl
      have hv4 : V 4 = (.bool true) := postsHold_at hp 4 rfl
      have hv5 : V 5 = (.agg #[(.int .u8 v.1), (.int .u64 v.2.1)]) := postsHold_at hp 5 rfl
      have hv6 : V 6 = (.agg #[(.int .u8 ((tcutP v).1)), (.int .u64 ((tcutP v).2.1))]) := postsHold_at hp 6 rfl
      have hv7 : V 7 = (.agg #[(.int .u8 v.1), (.int .u64 v.2.1)]) := postsHold_at hp 7 rfl
      have hv8 : V 8 = (.bool ((decide (((tcutP v).1) = v.1)) && (decide (((tcutP v).2.1) = v.2.1)))) := postsHold_at hp 8 rfl
      have hv9 : V 9 = (.bool ((decide (((tcutP v).1) = v.1)) && (decide (((tcutP v).2.1) = v.2.1)))) := postsHold_at hp 9 rfl
      have hv10 : V 10 = (.bool ((decide (((tcutP v).1) = v.1)) && (decide (((tcutP v).2.1) = v.2.1)))) := postsHold_at hp 10 rfl
      simp only [List.take_succ_cons, List.take_zero, insAll, ins, hv0, hv1, hv2, hv3, hv4, hv5, hv6, hv7, hv8, hv9, hv10] at hf
      clear hp hnb hv0 hv1 hv2 hv3 hv4 hv5 hv6 hv7 hv8 hv9 hv10
      replace hk1 := blk_ext hk1 he2
      replace hb := hb.trans (Below.mono he2 hb.size)
      (try simp only [Exit.then, Exit.inBlock, ↓reduceIte, Nat.reduceEqDiff])
      refine hK2 _ _ ?_
      refine wp_ret ?_
      (try simp only [Exit.then, Exit.inBlock])
      refine ret1 hf rfl rfl ?_
      refine ⟨?_, hb⟩; unfold vrightP; rw [hsp1b]; (try rfl)
  · have hsp1b : decide (tvalP v.1 = 0) = false := decide_eq_false hsp1
    refine wp_region_un (fun wq => Below w1.heap.size w1 wq) (fun w w' => Below w.heap.size w w')
      (fun V => [(fun x _ => x = (.pointer (some ⟨b1, 0, none⟩))), (fun x _ => x = (.int .u8 v.1)), (fun x _ => x = (.int .i64 ((tvalP v.1)))), (fun x _ => x = (.bool false)), (fun x _ => x = (.bool false)), (fun x _ => x = gb false (.bool false)), (fun x _ => x = gb false (.bool false)), (fun x _ => x = gb false (.bool false)), (fun x _ => x = gb false (.bool false)), (fun x _ => x = (.bool false)), (fun x _ => x = (.bool false))])
      []
      [[], [0], [1], [2], [2, 3], [4], [4, 5], [4], [4, 6, 7], [4, 8], [0, 1, 2, 3, 4, 5, 6, 7, 8, 9]]
      hf (by kernel_rfl) (by kernel_rfl) (fun _ => rfl) ((Below.refl _ _).drew) (fun a b h1 h2 => h1.trans (h2.mono h1.size)) (fun _ _ h => h.size) (fun V => ⟨kept_eq, kept_eq, kept_eq, kept_eq, kept_eq, kept_eq, kept_eq, kept_eq, kept_eq, kept_eq, kept_eq, trivial⟩) (fun _ _ _ _ _ => rfl) ?_ ?_
    · skip
      intro V
      refine ⟨fun wu0 hC hd => ?_, ?_⟩
      · clear hd
        replace hb := hb.trans (hC.mono hb.size)
        replace hk1 := blk_ext hk1 hC
        exact Runs.does (r_fa rfl Try.underlying65 (f := 0) (q := 0) rfl (by kernel_rfl) rfl) ⟨Below.refl _ _, rfl, nofr rfl⟩
      refine ⟨fun wu1 hC hd => ?_, ?_⟩
      · obtain ⟨h0, _⟩ := hd
        skip
        replace h0 : V 0 = (.pointer (some ⟨b1, 0, none⟩)) := h0
        replace hb := hb.trans (hC.mono hb.size)
        replace hk1 := blk_ext hk1 hC
        exact Runs.does (r_load (v := (.int .u8 v.1)) (congrArg some h0) Try.underlying5 rfl (cell_blk hk1 rfl)) ⟨Below.refl _ _, rfl, nofr rfl⟩
      refine ⟨fun wu2 hC hd => ?_, ?_⟩
      · obtain ⟨h1, _⟩ := hd
        skip
        replace h1 : V 1 = (.int .u8 v.1) := h1
        replace hb := hb.trans (hC.mono hb.size)
        replace hk1 := blk_ext hk1 hC
        refine Does.mono (d_callS (vs := [(.int .u8 v.1)]) (show [some (V 1)] = [some (.int .u8 v.1)] from by rw [h1]) Try.func85 (by kernel_rfl) (by kernel_rfl) (tval_any v.1 _)) (fun _ _ h => ⟨h.2 ▸ Below.refl _ _, h.1, nofr rfl⟩)
      refine ⟨fun wu3 hC hd => ?_, ?_⟩
      · obtain ⟨h2, _⟩ := hd
        skip
        replace h2 : V 2 = (.int .i64 ((tvalP v.1))) := h2
        replace hb := hb.trans (hC.mono hb.size)
        replace hk1 := blk_ext hk1 hC
        exact Runs.does (Runs.veq (r_eq (congrArg some h2) rfl) (congrArg Value.bool (show _ = false from (by simpa using hsp1)))) ⟨Below.refl _ _, rfl, nofr rfl⟩
      refine ⟨fun wu4 hC hd => ?_, ?_⟩
      · obtain ⟨h2, h3, _⟩ := hd
        skip
        skip
        replace h2 : V 2 = (.int .i64 ((tvalP v.1))) := h2
        replace h3 : V 3 = (.bool false) := h3
        replace hb := hb.trans (hC.mono hb.size)
        replace hk1 := blk_ext hk1 hC
        exact Runs.does (r_move (congrArg some h3)) ⟨Below.refl _ _, rfl, nofr rfl⟩
      refine ⟨fun wu5 hC hd => ?_, ?_⟩
      · obtain ⟨h4, _⟩ := hd
        skip
        replace h4 : V 4 = (.bool false) := h4
        replace hb := hb.trans (hC.mono hb.size)
        replace hk1 := blk_ext hk1 hC
        refine ⟨true, false, congrArg some h4, fun hact => ?_, fun hact => ?_⟩
        · exfalso; simp at hact
        · exact ⟨Below.refl _ _, rfl, nofr rfl⟩
      refine ⟨fun wu6 hC hd => ?_, ?_⟩
      · obtain ⟨h4, h5, _⟩ := hd
        skip
        skip
        replace h4 : V 4 = (.bool false) := h4
        replace h5 : V 5 = gb false (.bool false) := h5
        replace hb := hb.trans (hC.mono hb.size)
        replace hk1 := blk_ext hk1 hC
        refine ⟨true, false, congrArg some h4, fun hact => ?_, fun hact => ?_⟩
        · exfalso; simp at hact
        · exact ⟨Below.refl _ _, rfl, nofr rfl⟩
      refine ⟨fun wu7 hC hd => ?_, ?_⟩
      · obtain ⟨h4, _⟩ := hd
        skip
        replace h4 : V 4 = (.bool false) := h4
        replace hb := hb.trans (hC.mono hb.size)
        replace hk1 := blk_ext hk1 hC
        refine ⟨true, false, congrArg some h4, fun hact => ?_, fun hact => ?_⟩
        · exfalso; simp at hact
        · exact ⟨Below.refl _ _, rfl, nofr rfl⟩
      refine ⟨fun wu8 hC hd => ?_, ?_⟩
      · obtain ⟨h4, h6, h7, _⟩ := hd
        skip
        skip
        skip
        replace h4 : V 4 = (.bool false) := h4
        replace h6 : V 6 = gb false (.bool false) := h6
        replace h7 : V 7 = gb false (.bool false) := h7
        replace hb := hb.trans (hC.mono hb.size)
        replace hk1 := blk_ext hk1 hC
        refine ⟨true, false, congrArg some h4, fun hact => ?_, fun hact => ?_⟩
        · exfalso; simp at hact
        · exact ⟨Below.refl _ _, rfl, nofr rfl⟩
      refine ⟨fun wu9 hC hd => ?_, ?_⟩
      · obtain ⟨h4, h8, _⟩ := hd
        skip
        skip
        replace h4 : V 4 = (.bool false) := h4
        replace h8 : V 8 = gb false (.bool false) := h8
        replace hb := hb.trans (hC.mono hb.size)
        replace hk1 := blk_ext hk1 hC
        exact Runs.does (r_pick (b := false) (congrArg some h4) (congrArg some h8) rfl rfl) ⟨Below.refl _ _, rfl, nofr rfl⟩
      refine ⟨fun wu10 hC hd => ?_, ?_⟩
      · obtain ⟨h0, h1, h2, h3, h4, h5, h6, h7, h8, h9, _⟩ := hd
        skip
        skip
        skip
        skip
        skip
        skip
        skip
        skip
        skip
        skip
        replace h0 : V 0 = (.pointer (some ⟨b1, 0, none⟩)) := h0
        replace h1 : V 1 = (.int .u8 v.1) := h1
        replace h2 : V 2 = (.int .i64 ((tvalP v.1))) := h2
        replace h3 : V 3 = (.bool false) := h3
        replace h4 : V 4 = (.bool false) := h4
        replace h5 : V 5 = gb false (.bool false) := h5
        replace h6 : V 6 = gb false (.bool false) := h6
        replace h7 : V 7 = gb false (.bool false) := h7
        replace h8 : V 8 = gb false (.bool false) := h8
        replace h9 : V 9 = (.bool false) := h9
        replace hb := hb.trans (hC.mono hb.size)
        replace hk1 := blk_ext hk1 hC
        exact Runs.does (r_assign (congrArg some h9)) ⟨Below.refl _ _, rfl, nofr rfl⟩
      trivial
    · skip
      clear hf fa; intro V w3 fa he3 hp hnb hf
      have hv0 : V 0 = (.pointer (some ⟨b1, 0, none⟩)) := postsHold_at hp 0 rfl
      have hv1 : V 1 = (.int .u8 v.1) := postsHold_at hp 1 rfl
      have hv2 : V 2 = (.int .i64 ((tvalP v.1))) := postsHold_at hp 2 rfl
      have hv3 : V 3 = (.bool false) := postsHold_at hp 3 rfl
      have hv4 : V 4 = (.bool false) := postsHold_at hp 4 rfl
      have hv5 : V 5 = gb false (.bool false) := postsHold_at hp 5 rfl
      have hv6 : V 6 = gb false (.bool false) := postsHold_at hp 6 rfl
      have hv7 : V 7 = gb false (.bool false) := postsHold_at hp 7 rfl
      have hv8 : V 8 = gb false (.bool false) := postsHold_at hp 8 rfl
      have hv9 : V 9 = (.bool false) := postsHold_at hp 9 rfl
      have hv10 : V 10 = (.bool false) := postsHold_at hp 10 rfl
      simp only [List.take_succ_cons, List.take_zero, insAll, ins, hv0, hv1, hv2, hv3, hv4, hv5, hv6, hv7, hv8, hv9, hv10] at hf
      clear hp hnb hv0 hv1 hv2 hv3 hv4 hv5 hv6 hv7 hv8 hv9 hv10
      replace hk1 := blk_ext hk1 he3
      replace hb := hb.trans (Below.mono he3 hb.size)
      (try simp only [Exit.then, Exit.inBlock, ↓reduceIte, Nat.reduceEqDiff])
      refine hK2 _ _ ?_
      refine wp_ret ?_
      (try simp only [Exit.then, Exit.inBlock])
      refine ret1 hf rfl rfl ?_
      refine ⟨?_, hb⟩; unfold vrightP; rw [hsp1b]; (try rfl)

theorem vright_def (v : MVal) : vrightP v = (decide (tvalP v.1 = 0) && (decide ((tcutP v).1 = v.1) && decide ((tcutP v).2.1 = v.2.1))) := by
  unfold vrightP
  cases decide (tvalP v.1 = 0) <;> simp
end Go.Proofs.Ytpalmpfkliepfaa

namespace Go.Proofs.Ytpalmpfkliepfaa
open Go.RowKit Ut
set_option linter.unusedVariables false
set_option linter.unusedSimpArgs false
def cA (s : ByteArray) (c : Nat) : ByteArray := s.extract 0 (posB s c)
def cZ (s : ByteArray) (c : Nat) : ByteArray := s.extract (posB s c + 1) s.size
theorem cA_all {s : ByteArray} {c : Nat} (h : ¬ posB s c < s.size) : cA s c = s := by
  have := posB_le s c
  apply bl_inj
  unfold cA
  rw [bl_mid, show posB s c = s.size by omega, List.drop_zero, Nat.sub_zero, List.take_of_length_le (by rw [bl_length]; omega)]
theorem cZ_none {s : ByteArray} {c : Nat} (h : ¬ posB s c < s.size) : cZ s c = ⟨#[]⟩ := by
  have := posB_le s c
  apply bl_inj
  unfold cZ
  rw [bl_mid, show s.size - (posB s c + 1) = 0 by omega, List.take_zero]; rfl
theorem cZ_len (s : ByteArray) (c : Nat) : (cZ s c).size ≤ s.size := by
  rw [← bl_length, ← bl_length]; unfold cZ; rw [bl_mid, List.length_take, List.length_drop]; omega

set_option maxHeartbeats 1000000 in
set_option maxRecDepth 100000 in
theorem slcut_any (s sp : ByteArray) (c : UInt8) (w : World) (hsp : sp = ⟨#[c]⟩) (hs : s.size ≤ 100000) : Calls Try.prog 86 #[(.string s), (.string sp)] w fun e w' => e = .returned (.tuple #[.string (cA s c.toNat), .string (cZ s c.toNat), .bool (decide (posB s c.toNat < s.size))]) ∧ Below w.heap.size w w' := by
  have hz : sp.size = 1 := by rw [hsp]; rfl
  obtain ⟨p, hp⟩ : ∃ p, posB s c.toNat = p := ⟨_, rfl⟩
  refine sx_enter (L := [(0, (.string s)), (1, (.string sp))]) Try.func86 rfl rfl rfl rfl (fun fa hf => ?_)
  have hb : Below w.heap.size w w := Below.refl _ _
  refine wp_seq_k (fun K1 hK1 => ?_)
  refine wp_region_lit ?_
  refine sqv hf (r_assign rfl) rfl rfl rfl ?_; clear hf fa; intro fa hf
  refine sqv hf (r_assign rfl) rfl rfl rfl ?_; clear hf fa; intro fa hf
  refine sqv hf (r_assign rfl) rfl rfl rfl ?_; clear hf fa; intro fa hf
  apply wpList_nil
  (try simp only [Exit.then, Exit.inBlock, ↓reduceIte, Nat.reduceEqDiff])
  refine hK1 _ _ ?_
  refine wp_seq_k (fun K2 hK2 => ?_)
  refine wp_seq_k (fun K3 hK3 => ?_)
  by_cases hsp1 : p < s.size
  · have hsp1b : decide (p < s.size) = true := decide_eq_true hsp1
    refine wp_region_lit ?_
    refine sqv hf (r_move rfl) rfl rfl rfl ?_; clear hf fa; intro fa hf
    refine sqv hf (r_move rfl) rfl rfl rfl ?_; clear hf fa; intro fa hf
    refine sqdt hf (d_callS (vs := [(.string s), (.string sp)]) rfl Try.func100 (by kernel_rfl) (by kernel_rfl) (by have h := slindex_any s c w; rw [← hsp, hp, if_pos hsp1] at h; exact h)) rfl rfl rfl ?_; clear hf fa; rintro fa _ _ ⟨rfl, rfl⟩ hf
    refine sqv hf (r_assign rfl) rfl rfl rfl ?_; clear hf fa; intro fa hf
    apply wpList_nil
    (try simp only [Exit.then, Exit.inBlock, ↓reduceIte, Nat.reduceEqDiff])
    refine hK3 _ _ ?_
    refine wp_seq_k (fun K4 hK4 => ?_)
    refine wp_region_lit ?_
    refine sqv hf (r_move rfl) rfl rfl rfl ?_; clear hf fa; intro fa hf
    refine sqv hf (r_ge rfl rfl) rfl rfl rfl ?_; clear hf fa; intro fa hf
    apply wpList_nil
    (try simp only [Exit.then, Exit.inBlock, ↓reduceIte, Nat.reduceEqDiff])
    refine hK4 _ _ ?_
    refine wp_cond_true ((hf.ev rfl).trans (congrArg Value.bool (show (decide ((0 : Int) ≤ ((p : Nat) : Int))) = true from (by simp)))) ?_
    refine wp_seq_k (fun K5 hK5 => ?_)
    refine wp_region_un (fun wq => Below w.heap.size w wq) (fun w w' => Below w.heap.size w w')
      (fun V => [(fun x _ => x = (.string s)), (fun x _ => x = (.int .i64 ((p : Nat) : Int))), (fun x _ => x = (.string (s.extract 0 p))), (fun x _ => x = (.string s)), (fun x _ => x = (.int .i64 ((p : Nat) : Int))), (fun x _ => x = (.string sp)), (fun x _ => x = (.int .i64 ((sp.size : Nat) : Int))), (fun x _ => x = (.int .i64 (((p : Nat) : Int) + ((sp.size : Nat) : Int)))), (fun x _ => x = (.string (s.extract (p + sp.size) s.size))), (fun x _ => x = (.string (s.extract 0 p))), (fun x _ => x = (.string (s.extract (p + sp.size) s.size))), (fun x _ => x = (.bool true))])
      []
      [[], [], [0, 1], [], [], [], [5], [4, 6], [3, 7], [0, 1, 2], [0, 1, 2, 3, 4, 5, 6, 7, 8, 9], [0, 1, 2, 3, 4, 5, 6, 7, 8, 9, 10]]
      hf (by kernel_rfl) (by kernel_rfl) (fun _ => rfl) ((Below.refl _ _).drew) (fun a b h1 h2 => h1.trans (h2.mono h1.size)) (fun _ _ h => h.size) (fun V => ⟨kept_eq, kept_eq, kept_eq, kept_eq, kept_eq, kept_eq, kept_eq, kept_eq, kept_eq, kept_eq, kept_eq, kept_eq, trivial⟩) (fun _ _ _ _ _ => rfl) ?_ ?_
    · skip
      intro V
      refine ⟨fun wu0 hC hd => ?_, ?_⟩
      · clear hd
        replace hb := hb.trans (hC.mono hb.size)
        exact Runs.does (r_move rfl) ⟨Below.refl _ _, rfl, nofr rfl⟩
      refine ⟨fun wu1 hC hd => ?_, ?_⟩
      · clear hd
        replace hb := hb.trans (hC.mono hb.size)
        exact Runs.does (r_move rfl) ⟨Below.refl _ _, rfl, nofr rfl⟩
      refine ⟨fun wu2 hC hd => ?_, ?_⟩
      · obtain ⟨h0, h1, _⟩ := hd
        skip
        skip
        replace h0 : V 0 = (.string s) := h0
        replace h1 : V 1 = (.int .i64 ((p : Nat) : Int)) := h1
        replace hb := hb.trans (hC.mono hb.size)
        exact Runs.does (r_sslice (a := 0) (b := p) (k1 := .i64) (k2 := .i64) (A := 0) (B := ((p : Nat) : Int)) (congrArg some h0) Try.underlying9 (.inl ⟨rfl, rfl⟩) (.inr ⟨_, rfl, (congrArg some h1), rfl⟩) (by omega) (by omega)) ⟨Below.refl _ _, rfl, nofr rfl⟩
      refine ⟨fun wu3 hC hd => ?_, ?_⟩
      · clear hd
        replace hb := hb.trans (hC.mono hb.size)
        exact Runs.does (r_move rfl) ⟨Below.refl _ _, rfl, nofr rfl⟩
      refine ⟨fun wu4 hC hd => ?_, ?_⟩
      · clear hd
        replace hb := hb.trans (hC.mono hb.size)
        exact Runs.does (r_move rfl) ⟨Below.refl _ _, rfl, nofr rfl⟩
      refine ⟨fun wu5 hC hd => ?_, ?_⟩
      · clear hd
        replace hb := hb.trans (hC.mono hb.size)
        exact Runs.does (r_move rfl) ⟨Below.refl _ _, rfl, nofr rfl⟩
      refine ⟨fun wu6 hC hd => ?_, ?_⟩
      · obtain ⟨h5, _⟩ := hd
        skip
        replace h5 : V 5 = (.string sp) := h5
        replace hb := hb.trans (hC.mono hb.size)
        exact Runs.does (r_lens (congrArg some h5) Try.underlying9) ⟨Below.refl _ _, rfl, nofr rfl⟩
      refine ⟨fun wu7 hC hd => ?_, ?_⟩
      · obtain ⟨h4, h6, _⟩ := hd
        skip
        skip
        replace h4 : V 4 = (.int .i64 ((p : Nat) : Int)) := h4
        replace h6 : V 6 = (.int .i64 ((sp.size : Nat) : Int)) := h6
        replace hb := hb.trans (hC.mono hb.size)
        exact Runs.does (r_add (C := (((p : Nat) : Int) + ((sp.size : Nat) : Int))) (congrArg some h4) (congrArg some h6) (by rw [IntKind.wrap_i64]; omega)) ⟨Below.refl _ _, rfl, nofr rfl⟩
      refine ⟨fun wu8 hC hd => ?_, ?_⟩
      · obtain ⟨h3, h7, _⟩ := hd
        skip
        skip
        replace h3 : V 3 = (.string s) := h3
        replace h7 : V 7 = (.int .i64 (((p : Nat) : Int) + ((sp.size : Nat) : Int))) := h7
        replace hb := hb.trans (hC.mono hb.size)
        exact Runs.does (r_sslice (a := (p + sp.size)) (b := s.size) (k1 := .i64) (k2 := .i64) (A := (((p : Nat) : Int) + ((sp.size : Nat) : Int))) (B := 0) (congrArg some h3) Try.underlying9 (.inr ⟨_, rfl, (congrArg some h7), rfl⟩) (.inl ⟨rfl, rfl⟩) (by omega) (by omega)) ⟨Below.refl _ _, rfl, nofr rfl⟩
      refine ⟨fun wu9 hC hd => ?_, ?_⟩
      · obtain ⟨h0, h1, h2, _⟩ := hd
        skip
        skip
        skip
        replace h0 : V 0 = (.string s) := h0
        replace h1 : V 1 = (.int .i64 ((p : Nat) : Int)) := h1
        replace h2 : V 2 = (.string (s.extract 0 p)) := h2
        replace hb := hb.trans (hC.mono hb.size)
        exact Runs.does (r_assign (congrArg some h2)) ⟨Below.refl _ _, rfl, nofr rfl⟩
      refine ⟨fun wu10 hC hd => ?_, ?_⟩
      · obtain ⟨h0, h1, h2, h3, h4, h5, h6, h7, h8, h9, _⟩ := hd
        skip
        skip
        skip
        skip
        skip
        skip
        skip
        skip
        skip
        skip
        replace h0 : V 0 = (.string s) := h0
        replace h1 : V 1 = (.int .i64 ((p : Nat) : Int)) := h1
        replace h2 : V 2 = (.string (s.extract 0 p)) := h2
        replace h3 : V 3 = (.string s) := h3
        replace h4 : V 4 = (.int .i64 ((p : Nat) : Int)) := h4
        replace h5 : V 5 = (.string sp) := h5
        replace h6 : V 6 = (.int .i64 ((sp.size : Nat) : Int)) := h6
        replace h7 : V 7 = (.int .i64 (((p : Nat) : Int) + ((sp.size : Nat) : Int))) := h7
        replace h8 : V 8 = (.string (s.extract (p + sp.size) s.size)) := h8
        replace h9 : V 9 = (.string (s.extract 0 p)) := h9
        replace hb := hb.trans (hC.mono hb.size)
        exact Runs.does (r_assign (congrArg some h8)) ⟨Below.refl _ _, rfl, nofr rfl⟩
      refine ⟨fun wu11 hC hd => ?_, ?_⟩
      · obtain ⟨h0, h1, h2, h3, h4, h5, h6, h7, h8, h9, h10, _⟩ := hd
        skip
        skip
        skip
        skip
        skip
        skip
        skip
        skip
        skip
        skip
        skip
        replace h0 : V 0 = (.string s) := h0
        replace h1 : V 1 = (.int .i64 ((p : Nat) : Int)) := h1
        replace h2 : V 2 = (.string (s.extract 0 p)) := h2
        replace h3 : V 3 = (.string s) := h3
        replace h4 : V 4 = (.int .i64 ((p : Nat) : Int)) := h4
        replace h5 : V 5 = (.string sp) := h5
        replace h6 : V 6 = (.int .i64 ((sp.size : Nat) : Int)) := h6
        replace h7 : V 7 = (.int .i64 (((p : Nat) : Int) + ((sp.size : Nat) : Int))) := h7
        replace h8 : V 8 = (.string (s.extract (p + sp.size) s.size)) := h8
        replace h9 : V 9 = (.string (s.extract 0 p)) := h9
        replace h10 : V 10 = (.string (s.extract (p + sp.size) s.size)) := h10
        replace hb := hb.trans (hC.mono hb.size)
        exact Runs.does (r_assign rfl) ⟨Below.refl _ _, rfl, nofr rfl⟩
      trivial
    · skip
      clear hf fa; intro V w1 fa he1 hp hnb hf
      have hv0 : V 0 = (.string s) := postsHold_at hp 0 rfl
      have hv1 : V 1 = (.int .i64 ((p : Nat) : Int)) := postsHold_at hp 1 rfl
      have hv2 : V 2 = (.string (s.extract 0 p)) := postsHold_at hp 2 rfl
      have hv3 : V 3 = (.string s) := postsHold_at hp 3 rfl
      have hv4 : V 4 = (.int .i64 ((p : Nat) : Int)) := postsHold_at hp 4 rfl
      have hv5 : V 5 = (.string sp) := postsHold_at hp 5 rfl
      have hv6 : V 6 = (.int .i64 ((sp.size : Nat) : Int)) := postsHold_at hp 6 rfl
      have hv7 : V 7 = (.int .i64 (((p : Nat) : Int) + ((sp.size : Nat) : Int))) := postsHold_at hp 7 rfl
      have hv8 : V 8 = (.string (s.extract (p + sp.size) s.size)) := postsHold_at hp 8 rfl
      have hv9 : V 9 = (.string (s.extract 0 p)) := postsHold_at hp 9 rfl
      have hv10 : V 10 = (.string (s.extract (p + sp.size) s.size)) := postsHold_at hp 10 rfl
      have hv11 : V 11 = (.bool true) := postsHold_at hp 11 rfl
      simp only [List.take_succ_cons, List.take_zero, insAll, ins, hv0, hv1, hv2, hv3, hv4, hv5, hv6, hv7, hv8, hv9, hv10, hv11] at hf
      clear hp hnb hv0 hv1 hv2 hv3 hv4 hv5 hv6 hv7 hv8 hv9 hv10 hv11
      replace hb := hb.trans (Below.mono he1 hb.size)
      (try simp only [Exit.then, Exit.inBlock, ↓reduceIte, Nat.reduceEqDiff])
      refine hK5 _ _ ?_
      refine wp_ret ?_
      (try simp only [Exit.then, Exit.inBlock])
      refine ret3 hf rfl rfl rfl rfl ?_
      refine ⟨?_, hb⟩; rw [decide_eq_true (by rw [hp]; exact hsp1)]; unfold cA cZ; rw [hp, hz]
  · have hsp1b : decide (p < s.size) = false := decide_eq_false hsp1
    refine wp_region_lit ?_
    refine sqv hf (r_move rfl) rfl rfl rfl ?_; clear hf fa; intro fa hf
    refine sqv hf (r_move rfl) rfl rfl rfl ?_; clear hf fa; intro fa hf
    refine sqdt hf (d_callS (vs := [(.string s), (.string sp)]) rfl Try.func100 (by kernel_rfl) (by kernel_rfl) (by have h := slindex_any s c w; rw [← hsp, hp, if_neg hsp1] at h; exact h)) rfl rfl rfl ?_; clear hf fa; rintro fa _ _ ⟨rfl, rfl⟩ hf
    refine sqv hf (r_assign rfl) rfl rfl rfl ?_; clear hf fa; intro fa hf
    apply wpList_nil
    (try simp only [Exit.then, Exit.inBlock, ↓reduceIte, Nat.reduceEqDiff])
    refine hK3 _ _ ?_
    refine wp_seq_k (fun K6 hK6 => ?_)
    refine wp_region_lit ?_
    refine sqv hf (r_move rfl) rfl rfl rfl ?_; clear hf fa; intro fa hf
    refine sqv hf (r_ge rfl rfl) rfl rfl rfl ?_; clear hf fa; intro fa hf
    apply wpList_nil
    (try simp only [Exit.then, Exit.inBlock, ↓reduceIte, Nat.reduceEqDiff])
    refine hK6 _ _ ?_
    refine wp_cond_false ((hf.ev rfl).trans (congrArg Value.bool (show (decide ((0 : Int) ≤ (-1 : Int))) = false from (by decide)))) ?_
    refine wp_skip ?_
    (try simp only [Exit.then, Exit.inBlock, ↓reduceIte, Nat.reduceEqDiff])
    refine hK2 _ _ ?_
    refine wp_seq_k (fun K7 hK7 => ?_)
    refine wp_region_lit ?_
    refine sqv hf (r_move rfl) rfl rfl rfl ?_; clear hf fa; intro fa hf
    refine sqv hf (r_assign rfl) rfl rfl rfl ?_; clear hf fa; intro fa hf
    refine sqv hf (r_assign rfl) rfl rfl rfl ?_; clear hf fa; intro fa hf
    refine sqv hf (r_assign rfl) rfl rfl rfl ?_; clear hf fa; intro fa hf
    apply wpList_nil
    (try simp only [Exit.then, Exit.inBlock, ↓reduceIte, Nat.reduceEqDiff])
    refine hK7 _ _ ?_
    refine wp_ret ?_
    (try simp only [Exit.then, Exit.inBlock])
    refine ret3 hf rfl rfl rfl rfl ?_
    refine ⟨?_, hb⟩; rw [decide_eq_false (by rw [hp]; exact hsp1), cA_all (by rw [hp]; exact hsp1), cZ_none (by rw [hp]; exact hsp1)]

set_option maxHeartbeats 1000000 in
set_option maxRecDepth 100000 in
theorem cutg_any (s sp : ByteArray) (c : UInt8) (w : World) (hsp : sp = ⟨#[c]⟩) (hs : s.size ≤ 100000) : Calls Try.prog 58 #[(.string s), (.string sp)] w fun e w' => e = .returned (.tuple #[.string (cA s c.toNat), .string (cZ s c.toNat), .bool (decide (posB s c.toNat < s.size))]) ∧ Below w.heap.size w w' := by
  refine sx_enter (L := [(0, (.string s)), (1, (.string sp))]) Try.func58 rfl rfl rfl rfl (fun fa hf => ?_)
  have hb : Below w.heap.size w w := Below.refl _ _
  refine wp_seq_k (fun K1 hK1 => ?_)
  refine wp_region_lit ?_
  refine sqv hf (r_assign rfl) rfl rfl rfl ?_; clear hf fa; intro fa hf
  refine sqv hf (r_assign rfl) rfl rfl rfl ?_; clear hf fa; intro fa hf
  refine sqv hf (r_assign rfl) rfl rfl rfl ?_; clear hf fa; intro fa hf
  apply wpList_nil
  (try simp only [Exit.then, Exit.inBlock, ↓reduceIte, Nat.reduceEqDiff])
  refine hK1 _ _ ?_
  refine wp_seq_k (fun K2 hK2 => ?_)
  refine wp_region_lit ?_
  refine sqv hf (r_move rfl) rfl rfl rfl ?_; clear hf fa; intro fa hf
  refine sqv hf (r_move rfl) rfl rfl rfl ?_; clear hf fa; intro fa hf
  refine sqdt hf (d_callB (vs := [(.string s), (.string sp)]) rfl Try.func86 (by kernel_rfl) (by kernel_rfl) (slcut_any s sp c _ hsp hs)) rfl rfl rfl ?_; clear hf fa; rintro fa _ w1 ⟨rfl, he1⟩ hf
  replace hb := hb.trans (Below.mono he1 hb.size)
  refine sqv hf (r_extract rfl (i := 0) rfl) rfl rfl rfl ?_; clear hf fa; intro fa hf
  refine sqv hf (r_extract rfl (i := 1) rfl) rfl rfl rfl ?_; clear hf fa; intro fa hf
  refine sqv hf (r_extract rfl (i := 2) rfl) rfl rfl rfl ?_; clear hf fa; intro fa hf
  refine sqv hf (r_assign rfl) rfl rfl rfl ?_; clear hf fa; intro fa hf
  refine sqv hf (r_assign rfl) rfl rfl rfl ?_; clear hf fa; intro fa hf
  refine sqv hf (r_assign rfl) rfl rfl rfl ?_; clear hf fa; intro fa hf
  apply wpList_nil
  (try simp only [Exit.then, Exit.inBlock, ↓reduceIte, Nat.reduceEqDiff])
  refine hK2 _ _ ?_
  refine wp_ret ?_
  (try simp only [Exit.then, Exit.inBlock])
  refine ret3 hf rfl rfl rfl rfl ?_
  exact ⟨rfl, hb⟩

def s64 (n : Int) : Int := if n < 9223372036854775808 then n else n - 18446744073709551616
def s32 (n : Int) : Int := if n % 4294967296 < 2147483648 then n % 4294967296 else n % 4294967296 - 4294967296
theorem s32_rng (n : Int) : -2147483648 ≤ s32 n ∧ s32 n ≤ 2147483647 := by unfold s32; split <;> omega
theorem s64_rng {n : Int} (h : 0 ≤ n ∧ n < 18446744073709551616) : inI (s64 n) := by unfold inI s64; split <;> omega
def numV (v : MVal) : Int := if v.1 = 127 then s32 v.2.1 else s64 v.2.1
def valS (v : MVal) : ByteArray := (tnameP v.1 ++ (⟨#[58]⟩ : ByteArray)) ++ dS (numV v)
theorem numV_rng {v : MVal} (h : 0 ≤ v.2.1 ∧ v.2.1 < 18446744073709551616) : inI (numV v) := by
  unfold numV
  split
  · have := s32_rng v.2.1; unfold inI; omega
  · exact s64_rng h
theorem valS_len {v : MVal} (h : 0 ≤ v.2.1 ∧ v.2.1 < 18446744073709551616) : (valS v).size ≤ 28 := by
  have h1 := tname_le v.1
  have h2 := dS_len (numV_rng h)
  unfold valS
  rw [sz_app, sz_app, show (⟨#[58]⟩ : ByteArray).size = 1 from rfl]; omega

set_option maxHeartbeats 1000000 in
set_option maxRecDepth 100000 in
theorem opvalue_any (v : MVal) (w : World) (hv1 : 0 ≤ v.1 ∧ v.1 < 256) (hv2 : 0 ≤ v.2.1 ∧ v.2.1 < 18446744073709551616) : Calls Try.prog 34 #[(.agg #[(.int .u8 v.1), (.int .u64 v.2.1)])] w fun e w' => e = .returned (.string (valS v)) ∧ Below w.heap.size w w' := by
  have hr64 := s64_rng hv2
  have hr32 : inI (s32 v.2.1) := by have := s32_rng v.2.1; unfold inI; omega
  have htn := tname_le v.1
  refine sx_enter (L := [(0, (.agg #[(.int .u8 v.1), (.int .u64 v.2.1)]))]) Try.func34 rfl rfl rfl rfl (fun fa hf => ?_)
  have hb : Below w.heap.size w w := Below.refl _ _
  refine wp_seq_k (fun K1 hK1 => ?_)
  refine wp_region_lit ?_
  refine sqdt hf (d_box (cs := #[(.int .u8 v.1), (.int .u64 v.2.1)]) rfl rfl) rfl rfl rfl ?_; clear hf fa; rintro fa _ w1 ⟨b1, rfl, hle1, hk1, he1⟩ hf
  have hBb1 : w.heap.size ≤ b1 := Nat.le_trans hb.size hle1
  replace hb := hb.trans (Below.mono he1 hb.size)
  refine sqv hf (r_assign rfl) rfl rfl rfl ?_; clear hf fa; intro fa hf
  apply wpList_nil
  (try simp only [Exit.then, Exit.inBlock, ↓reduceIte, Nat.reduceEqDiff])
  refine hK1 _ _ ?_
  refine wp_seq_k (fun K2 hK2 => ?_)
  refine wp_region_lit ?_
  refine sqv hf (r_fa rfl Try.underlying65 (f := 1) (q := 1) rfl (by kernel_rfl) rfl) rfl rfl rfl ?_; clear hf fa; intro fa hf
  refine sqv hf (r_load (v := (.int .u64 v.2.1)) rfl Try.underlying63 rfl (cell_blk hk1 rfl)) rfl rfl rfl ?_; clear hf fa; intro fa hf
  refine sqv hf (r_conv (C := ((s64 v.2.1))) rfl Try.underlying63 Try.underlying3 (by unfold s64; rw [IntKind.wrap_i64]; split <;> omega)) rfl rfl rfl ?_; clear hf fa; intro fa hf
  refine sqv hf (r_assign rfl) rfl rfl rfl ?_; clear hf fa; intro fa hf
  apply wpList_nil
  (try simp only [Exit.then, Exit.inBlock, ↓reduceIte, Nat.reduceEqDiff])
  refine hK2 _ _ ?_
  refine wp_seq_k (fun K3 hK3 => ?_)
  refine wp_seq_k (fun K4 hK4 => ?_)
  refine wp_region_lit ?_
  refine sqv hf (r_fa rfl Try.underlying65 (f := 0) (q := 0) rfl (by kernel_rfl) rfl) rfl rfl rfl ?_; clear hf fa; intro fa hf
  refine sqv hf (r_load (v := (.int .u8 v.1)) rfl Try.underlying5 rfl (cell_blk hk1 rfl)) rfl rfl rfl ?_; clear hf fa; intro fa hf
  refine sqv hf (r_eq rfl rfl) rfl rfl rfl ?_; clear hf fa; intro fa hf
  apply wpList_nil
  (try simp only [Exit.then, Exit.inBlock, ↓reduceIte, Nat.reduceEqDiff])
  refine hK4 _ _ ?_
  refine wp_cond_split (t := (decide (v.1 = (127 : Int)))) (hf.ev rfl) (fun hqt9_1 => ?_) (fun hqt9_1 => ?_)
  · have hqt9_1b := hqt9_1
    try simp only [decide_eq_true_eq, Bool.and_eq_true, Bool.or_eq_true, Bool.not_eq_true', decide_eq_false_iff_not, ne_eq, Bool.not_eq_true] at hqt9_1
    refine wp_region_lit ?_
    refine sqv hf (r_fa rfl Try.underlying65 (f := 1) (q := 1) rfl (by kernel_rfl) rfl) rfl rfl rfl ?_; clear hf fa; intro fa hf
    refine sqv hf (r_load (v := (.int .u64 v.2.1)) rfl Try.underlying63 rfl (cell_blk hk1 rfl)) rfl rfl rfl ?_; clear hf fa; intro fa hf
    refine sqv hf (r_conv (C := ((v.2.1 % 4294967296))) rfl Try.underlying63 Try.underlying31 (by rw [IntKind.wrap_u32])) rfl rfl rfl ?_; clear hf fa; intro fa hf
    refine sqv hf (r_conv (C := ((s32 v.2.1))) rfl Try.underlying31 Try.underlying21 (by unfold s32; rw [IntKind.wrap_i32]; split <;> omega)) rfl rfl rfl ?_; clear hf fa; intro fa hf
    refine sqv hf (r_conv (C := ((s32 v.2.1))) rfl Try.underlying21 Try.underlying3 (by have := s32_rng v.2.1; rw [IntKind.wrap_i64]; omega)) rfl rfl rfl ?_; clear hf fa; intro fa hf
    refine sqv hf (r_assign rfl) rfl rfl rfl ?_; clear hf fa; intro fa hf
    apply wpList_nil
    (try simp only [Exit.then, Exit.inBlock, ↓reduceIte, Nat.reduceEqDiff])
    refine hK3 _ _ ?_
    refine wp_seq_k (fun K5 hK5 => ?_)
    refine wp_region_lit ?_
    refine sqv hf (r_fa rfl Try.underlying65 (f := 0) (q := 0) rfl (by kernel_rfl) rfl) rfl rfl rfl ?_; clear hf fa; intro fa hf
    refine sqv hf (r_load (v := (.int .u8 v.1)) rfl Try.underlying5 rfl (cell_blk hk1 rfl)) rfl rfl rfl ?_; clear hf fa; intro fa hf
    refine sqdt hf (d_callS (vs := [(.int .u8 v.1)]) rfl Try.func70 (by kernel_rfl) (by kernel_rfl) (tname_any v.1 _)) rfl rfl rfl ?_; clear hf fa; rintro fa _ _ ⟨rfl, rfl⟩ hf
    refine sqv hf (r_sadd rfl rfl (by have : ((⟨#[58]⟩) : ByteArray).size = 1 := rfl; omega)) rfl rfl rfl ?_; clear hf fa; intro fa hf
    refine sqv hf (r_move rfl) rfl rfl rfl ?_; clear hf fa; intro fa hf
    refine sqdt hf (d_callB (vs := [(.int .i64 ((s32 v.2.1)))]) rfl Try.func31 (by kernel_rfl) (by kernel_rfl) (digits_any (s32 v.2.1) _ hr32)) rfl rfl rfl ?_; clear hf fa; rintro fa _ w2 ⟨rfl, he2⟩ hf
    replace hk1 := blk_ext hk1 he2
    replace hb := hb.trans (Below.mono he2 hb.size)
    refine sqv hf (r_sadd rfl rfl (by have : ((⟨#[58]⟩) : ByteArray).size = 1 := rfl; have := sz_app (tnameP v.1) ⟨#[58]⟩; have := dS_len hr32; omega)) rfl rfl rfl ?_; clear hf fa; intro fa hf
    refine sqv hf (r_assign rfl) rfl rfl rfl ?_; clear hf fa; intro fa hf
    apply wpList_nil
    (try simp only [Exit.then, Exit.inBlock, ↓reduceIte, Nat.reduceEqDiff])
    refine hK5 _ _ ?_
    refine wp_ret ?_
    (try simp only [Exit.then, Exit.inBlock])
    refine ret1 hf rfl rfl ?_
    refine ⟨?_, hb⟩; unfold valS numV; rw [if_pos hqt9_1]
  · have hqt9_1b := hqt9_1
    replace hqt9_1 := Bool.eq_false_iff.1 hqt9_1
    try simp only [ne_eq, decide_eq_true_eq, Bool.and_eq_true, Bool.or_eq_true, Bool.not_eq_true', decide_eq_false_iff_not] at hqt9_1
    refine wp_skip ?_
    (try simp only [Exit.then, Exit.inBlock, ↓reduceIte, Nat.reduceEqDiff])
    refine hK3 _ _ ?_
    refine wp_seq_k (fun K6 hK6 => ?_)
    refine wp_region_lit ?_
    refine sqv hf (r_fa rfl Try.underlying65 (f := 0) (q := 0) rfl (by kernel_rfl) rfl) rfl rfl rfl ?_; clear hf fa; intro fa hf
    refine sqv hf (r_load (v := (.int .u8 v.1)) rfl Try.underlying5 rfl (cell_blk hk1 rfl)) rfl rfl rfl ?_; clear hf fa; intro fa hf
    refine sqdt hf (d_callS (vs := [(.int .u8 v.1)]) rfl Try.func70 (by kernel_rfl) (by kernel_rfl) (tname_any v.1 _)) rfl rfl rfl ?_; clear hf fa; rintro fa _ _ ⟨rfl, rfl⟩ hf
    refine sqv hf (r_sadd rfl rfl (by have : ((⟨#[58]⟩) : ByteArray).size = 1 := rfl; omega)) rfl rfl rfl ?_; clear hf fa; intro fa hf
    refine sqv hf (r_move rfl) rfl rfl rfl ?_; clear hf fa; intro fa hf
    refine sqdt hf (d_callB (vs := [(.int .i64 ((s64 v.2.1)))]) rfl Try.func31 (by kernel_rfl) (by kernel_rfl) (digits_any (s64 v.2.1) _ hr64)) rfl rfl rfl ?_; clear hf fa; rintro fa _ w3 ⟨rfl, he3⟩ hf
    replace hk1 := blk_ext hk1 he3
    replace hb := hb.trans (Below.mono he3 hb.size)
    refine sqv hf (r_sadd rfl rfl (by have : ((⟨#[58]⟩) : ByteArray).size = 1 := rfl; have := sz_app (tnameP v.1) ⟨#[58]⟩; have := dS_len hr64; omega)) rfl rfl rfl ?_; clear hf fa; intro fa hf
    refine sqv hf (r_assign rfl) rfl rfl rfl ?_; clear hf fa; intro fa hf
    apply wpList_nil
    (try simp only [Exit.then, Exit.inBlock, ↓reduceIte, Nat.reduceEqDiff])
    refine hK6 _ _ ?_
    refine wp_ret ?_
    (try simp only [Exit.then, Exit.inBlock])
    refine ret1 hf rfl rfl ?_
    refine ⟨?_, hb⟩; unfold valS numV; rw [if_neg hqt9_1]

set_option maxHeartbeats 1000000 in
set_option maxRecDepth 100000 in
theorem oprvalue_any (v : MVal) (w : World) (hv1 : 0 ≤ v.1 ∧ v.1 < 256) (hv2 : 0 ≤ v.2.1 ∧ v.2.1 < 18446744073709551616) : Calls Try.prog 35 #[(.agg #[(.int .u8 v.1), (.int .u64 v.2.1)])] w fun e w' => e = .returned (.string (valS v)) ∧ Below w.heap.size w w' := by
  have hr64 := s64_rng hv2
  have hr32 : inI (s32 v.2.1) := by have := s32_rng v.2.1; unfold inI; omega
  have htn := tname_le v.1
  refine sx_enter (L := [(0, (.agg #[(.int .u8 v.1), (.int .u64 v.2.1)]))]) Try.func35 rfl rfl rfl rfl (fun fa hf => ?_)
  have hb : Below w.heap.size w w := Below.refl _ _
  refine wp_seq_k (fun K1 hK1 => ?_)
  refine wp_region_lit ?_
  refine sqdt hf (d_box (cs := #[(.int .u8 v.1), (.int .u64 v.2.1)]) rfl rfl) rfl rfl rfl ?_; clear hf fa; rintro fa _ w1 ⟨b1, rfl, hle1, hk1, he1⟩ hf
  have hBb1 : w.heap.size ≤ b1 := Nat.le_trans hb.size hle1
  replace hb := hb.trans (Below.mono he1 hb.size)
  refine sqv hf (r_assign rfl) rfl rfl rfl ?_; clear hf fa; intro fa hf
  apply wpList_nil
  (try simp only [Exit.then, Exit.inBlock, ↓reduceIte, Nat.reduceEqDiff])
  refine hK1 _ _ ?_
  refine wp_seq_k (fun K2 hK2 => ?_)
  refine wp_region_lit ?_
  refine sqv hf (r_fa rfl Try.underlying65 (f := 1) (q := 1) rfl (by kernel_rfl) rfl) rfl rfl rfl ?_; clear hf fa; intro fa hf
  refine sqv hf (r_load (v := (.int .u64 v.2.1)) rfl Try.underlying63 rfl (cell_blk hk1 rfl)) rfl rfl rfl ?_; clear hf fa; intro fa hf
  refine sqv hf (r_conv (C := ((s64 v.2.1))) rfl Try.underlying63 Try.underlying3 (by unfold s64; rw [IntKind.wrap_i64]; split <;> omega)) rfl rfl rfl ?_; clear hf fa; intro fa hf
  refine sqv hf (r_assign rfl) rfl rfl rfl ?_; clear hf fa; intro fa hf
  apply wpList_nil
  (try simp only [Exit.then, Exit.inBlock, ↓reduceIte, Nat.reduceEqDiff])
  refine hK2 _ _ ?_
  refine wp_seq_k (fun K3 hK3 => ?_)
  refine wp_seq_k (fun K4 hK4 => ?_)
  refine wp_region_lit ?_
  refine sqv hf (r_fa rfl Try.underlying65 (f := 0) (q := 0) rfl (by kernel_rfl) rfl) rfl rfl rfl ?_; clear hf fa; intro fa hf
  refine sqv hf (r_load (v := (.int .u8 v.1)) rfl Try.underlying5 rfl (cell_blk hk1 rfl)) rfl rfl rfl ?_; clear hf fa; intro fa hf
  refine sqv hf (r_eq rfl rfl) rfl rfl rfl ?_; clear hf fa; intro fa hf
  apply wpList_nil
  (try simp only [Exit.then, Exit.inBlock, ↓reduceIte, Nat.reduceEqDiff])
  refine hK4 _ _ ?_
  refine wp_cond_split (t := (decide (v.1 = (127 : Int)))) (hf.ev rfl) (fun hqt9_1 => ?_) (fun hqt9_1 => ?_)
  · have hqt9_1b := hqt9_1
    try simp only [decide_eq_true_eq, Bool.and_eq_true, Bool.or_eq_true, Bool.not_eq_true', decide_eq_false_iff_not, ne_eq, Bool.not_eq_true] at hqt9_1
    refine wp_region_lit ?_
    refine sqv hf (r_fa rfl Try.underlying65 (f := 1) (q := 1) rfl (by kernel_rfl) rfl) rfl rfl rfl ?_; clear hf fa; intro fa hf
    refine sqv hf (r_load (v := (.int .u64 v.2.1)) rfl Try.underlying63 rfl (cell_blk hk1 rfl)) rfl rfl rfl ?_; clear hf fa; intro fa hf
    refine sqv hf (r_rem (C := ((v.2.1 % 4294967296))) rfl rfl (by omega) (Int.tmod_eq_emod_of_nonneg (by omega))) rfl rfl rfl ?_; clear hf fa; intro fa hf
    refine sqv hf (r_conv (C := ((v.2.1 % 4294967296))) rfl Try.underlying63 Try.underlying31 (by rw [IntKind.wrap_u32]; omega)) rfl rfl rfl ?_; clear hf fa; intro fa hf
    refine sqv hf (r_conv (C := ((s32 v.2.1))) rfl Try.underlying31 Try.underlying21 (by unfold s32; rw [IntKind.wrap_i32]; split <;> omega)) rfl rfl rfl ?_; clear hf fa; intro fa hf
    refine sqv hf (r_conv (C := ((s32 v.2.1))) rfl Try.underlying21 Try.underlying3 (by have := s32_rng v.2.1; rw [IntKind.wrap_i64]; omega)) rfl rfl rfl ?_; clear hf fa; intro fa hf
    refine sqv hf (r_assign rfl) rfl rfl rfl ?_; clear hf fa; intro fa hf
    apply wpList_nil
    (try simp only [Exit.then, Exit.inBlock, ↓reduceIte, Nat.reduceEqDiff])
    refine hK3 _ _ ?_
    refine wp_seq_k (fun K5 hK5 => ?_)
    refine wp_region_lit ?_
    refine sqv hf (r_fa rfl Try.underlying65 (f := 0) (q := 0) rfl (by kernel_rfl) rfl) rfl rfl rfl ?_; clear hf fa; intro fa hf
    refine sqv hf (r_load (v := (.int .u8 v.1)) rfl Try.underlying5 rfl (cell_blk hk1 rfl)) rfl rfl rfl ?_; clear hf fa; intro fa hf
    refine sqv hf (r_conv (C := v.1) rfl Try.underlying5 Try.underlying3 (by rw [IntKind.wrap_i64]; omega)) rfl rfl rfl ?_; clear hf fa; intro fa hf
    refine sqdt hf (d_callB (vs := [(.int .i64 v.1)]) rfl Try.func71 (by kernel_rfl) (by kernel_rfl) (rname2_any v.1 _ (by omega))) rfl rfl rfl ?_; clear hf fa; rintro fa _ w2 ⟨rfl, he2⟩ hf
    replace hk1 := blk_ext hk1 he2
    replace hb := hb.trans (Below.mono he2 hb.size)
    refine sqv hf (r_sadd rfl rfl (by have : ((⟨#[58]⟩) : ByteArray).size = 1 := rfl; omega)) rfl rfl rfl ?_; clear hf fa; intro fa hf
    refine sqv hf (r_move rfl) rfl rfl rfl ?_; clear hf fa; intro fa hf
    refine sqdt hf (d_callB (vs := [(.int .i64 ((s32 v.2.1)))]) rfl Try.func33 (by kernel_rfl) (by kernel_rfl) (rdigits_any (s32 v.2.1) _ hr32)) rfl rfl rfl ?_; clear hf fa; rintro fa _ w3 ⟨rfl, he3⟩ hf
    replace hk1 := blk_ext hk1 he3
    replace hb := hb.trans (Below.mono he3 hb.size)
    refine sqv hf (r_sadd rfl rfl (by have : ((⟨#[58]⟩) : ByteArray).size = 1 := rfl; have := sz_app (tnameP v.1) ⟨#[58]⟩; have := dS_len hr32; omega)) rfl rfl rfl ?_; clear hf fa; intro fa hf
    refine sqv hf (r_assign rfl) rfl rfl rfl ?_; clear hf fa; intro fa hf
    apply wpList_nil
    (try simp only [Exit.then, Exit.inBlock, ↓reduceIte, Nat.reduceEqDiff])
    refine hK5 _ _ ?_
    refine wp_ret ?_
    (try simp only [Exit.then, Exit.inBlock])
    refine ret1 hf rfl rfl ?_
    refine ⟨?_, hb⟩; unfold valS numV; rw [if_pos hqt9_1]
  · have hqt9_1b := hqt9_1
    replace hqt9_1 := Bool.eq_false_iff.1 hqt9_1
    try simp only [ne_eq, decide_eq_true_eq, Bool.and_eq_true, Bool.or_eq_true, Bool.not_eq_true', decide_eq_false_iff_not] at hqt9_1
    refine wp_skip ?_
    (try simp only [Exit.then, Exit.inBlock, ↓reduceIte, Nat.reduceEqDiff])
    refine hK3 _ _ ?_
    refine wp_seq_k (fun K6 hK6 => ?_)
    refine wp_region_lit ?_
    refine sqv hf (r_fa rfl Try.underlying65 (f := 0) (q := 0) rfl (by kernel_rfl) rfl) rfl rfl rfl ?_; clear hf fa; intro fa hf
    refine sqv hf (r_load (v := (.int .u8 v.1)) rfl Try.underlying5 rfl (cell_blk hk1 rfl)) rfl rfl rfl ?_; clear hf fa; intro fa hf
    refine sqv hf (r_conv (C := v.1) rfl Try.underlying5 Try.underlying3 (by rw [IntKind.wrap_i64]; omega)) rfl rfl rfl ?_; clear hf fa; intro fa hf
    refine sqdt hf (d_callB (vs := [(.int .i64 v.1)]) rfl Try.func71 (by kernel_rfl) (by kernel_rfl) (rname2_any v.1 _ (by omega))) rfl rfl rfl ?_; clear hf fa; rintro fa _ w4 ⟨rfl, he4⟩ hf
    replace hk1 := blk_ext hk1 he4
    replace hb := hb.trans (Below.mono he4 hb.size)
    refine sqv hf (r_sadd rfl rfl (by have : ((⟨#[58]⟩) : ByteArray).size = 1 := rfl; omega)) rfl rfl rfl ?_; clear hf fa; intro fa hf
    refine sqv hf (r_move rfl) rfl rfl rfl ?_; clear hf fa; intro fa hf
    refine sqdt hf (d_callB (vs := [(.int .i64 ((s64 v.2.1)))]) rfl Try.func33 (by kernel_rfl) (by kernel_rfl) (rdigits_any (s64 v.2.1) _ hr64)) rfl rfl rfl ?_; clear hf fa; rintro fa _ w5 ⟨rfl, he5⟩ hf
    replace hk1 := blk_ext hk1 he5
    replace hb := hb.trans (Below.mono he5 hb.size)
    refine sqv hf (r_sadd rfl rfl (by have : ((⟨#[58]⟩) : ByteArray).size = 1 := rfl; have := sz_app (tnameP v.1) ⟨#[58]⟩; have := dS_len hr64; omega)) rfl rfl rfl ?_; clear hf fa; intro fa hf
    refine sqv hf (r_assign rfl) rfl rfl rfl ?_; clear hf fa; intro fa hf
    apply wpList_nil
    (try simp only [Exit.then, Exit.inBlock, ↓reduceIte, Nat.reduceEqDiff])
    refine hK6 _ _ ?_
    refine wp_ret ?_
    (try simp only [Exit.then, Exit.inBlock])
    refine ret1 hf rfl rfl ?_
    refine ⟨?_, hb⟩; unfold valS numV; rw [if_neg hqt9_1]
end Go.Proofs.Ytpalmpfkliepfaa

namespace Go.Proofs.Ytpalmpfkliepfaa
open Go.RowKit Ut
set_option linter.unusedVariables false
set_option linter.unusedSimpArgs false
/-- A value that may be. -/
def RightV (v : MVal) : Prop := vrightP v = true ∧ (0 ≤ v.1 ∧ v.1 < 256) ∧ (0 ≤ v.2.1 ∧ v.2.1 < 18446744073709551616)
theorem tval0 {b : Int} (h : tvalP b = 0) : b = 127 ∨ b = 126 := by
  unfold tvalP at h
  by_cases h1 : b = 127
  · exact .inl h1
  · by_cases h2 : b = 126
    · exact .inr h2
    · exfalso
      rw [decide_eq_false h1, decide_eq_false h2] at h
      simp only [cond_false] at h
      cases h3 : decide (b = 125) <;> cases h4 : decide (b = 124) <;> rw [h3, h4] at h <;> simp at h
theorem vright_iff (v : MVal) : vrightP v = true ↔ (v.1 = 127 ∧ v.2.1 % 4294967296 = v.2.1) ∨ v.1 = 126 := by
  rw [vright_def]
  constructor
  · intro h
    simp only [Bool.and_eq_true, decide_eq_true_eq] at h
    rcases tval0 h.1 with h1 | h1
    · left
      refine ⟨h1, ?_⟩
      have := h.2.2
      unfold tcutP at this
      rw [decide_eq_true h1] at this
      exact this
    · exact .inr h1
  · rintro (⟨h1, h2⟩ | h1)
    · unfold tcutP
      rw [decide_eq_true h1]
      simp only [cond_true]
      rw [h1, h2]; simp [tvalP]
    · unfold tcutP
      rw [decide_eq_false (show ¬ v.1 = 127 by omega)]
      simp only [cond_false]
      rw [h1]; simp [tvalP]
theorem tcut_back {v : MVal} (h : RightV v) : tcutP (v.1, numV v % 18446744073709551616, ()) = v := by
  obtain ⟨h1, h2, h3⟩ := h
  rw [vright_iff] at h1
  obtain ⟨a, n, u⟩ := v
  simp only at h1 h2 h3
  unfold tcutP numV s32 s64
  rcases h1 with ⟨h1, h4⟩ | h1
  · rw [if_pos h1]
    simp only [decide_eq_true h1, cond_true]
    congr 2
    split <;> omega
  · subst h1
    rw [if_neg (show ¬ (126 : Int) = 127 by decide)]
    simp only [show decide ((126 : Int) = 127) = false from rfl, cond_false]
    congr 2
    split <;> omega
def rdY (s : ByteArray) : MVal := tcutP (byteP (cA s 58), (numP (bl (cZ s 58))).1 % 18446744073709551616, ())
def rdB (s : ByteArray) : Bool := (((!(decide (posB s 58 < s.size))) || (!(numP (bl (cZ s 58))).2)) || (!(vrightP (rdY s)))) || decide (valS (rdY s) ≠ s)
def rdV (s : ByteArray) : MVal × Bool := bif rdB s then (zMVal, false) else (rdY s, true)
theorem tcut_rng {v : MVal} (h : 0 ≤ v.1 ∧ v.1 < 256) (h2 : 0 ≤ v.2.1 ∧ v.2.1 < 18446744073709551616) : (0 ≤ (tcutP v).1 ∧ (tcutP v).1 < 256) ∧ (0 ≤ (tcutP v).2.1 ∧ (tcutP v).2.1 < 18446744073709551616) := by
  unfold tcutP
  cases decide (v.1 = 127) with
  | true => simp only [cond_true]; exact ⟨h, by omega⟩
  | false => exact ⟨h, h2⟩
theorem rdY_rng (s : ByteArray) : (0 ≤ (rdY s).1 ∧ (rdY s).1 < 256) ∧ (0 ≤ (rdY s).2.1 ∧ (rdY s).2.1 < 18446744073709551616) := tcut_rng (byte_rng _) (by simp only; omega)
theorem rdV_no {s : ByteArray} (h : (rdV s).2 = false) : rdV s = (zMVal, false) := by
  unfold rdV at h ⊢
  cases hb : rdB s with
  | true => rfl
  | false => rw [hb] at h; cases h
theorem rdV_ok {s : ByteArray} (h : (rdV s).2 = true) : RightV (rdV s).1 ∧ valS (rdV s).1 = s := by
  unfold rdV at h ⊢
  cases hb : rdB s with
  | true => rw [hb] at h; cases h
  | false =>
    have hb2 := hb
    unfold rdB at hb2
    simp only [Bool.or_eq_false_iff, Bool.not_eq_false', decide_eq_false_iff_not, ne_eq, Classical.not_not] at hb2
    exact ⟨⟨hb2.1.2, rdY_rng s⟩, hb2.2⟩
def headV (b : Int) : List Nat := if b = 127 then [105, 51, 50] else [105, 54, 52]
theorem tname_bl {b : Int} (h : b = 127 ∨ b = 126) : bl (tnameP b) = headV b := by rcases h with rfl | rfl <;> rfl
theorem valS_bl {v : MVal} (h : v.1 = 127 ∨ v.1 = 126) : bl (valS v) = headV v.1 ++ 58 :: digB (numV v) := by
  unfold valS
  rw [bl_app, bl_app, tname_bl h, bl_dS, List.append_assoc]; rfl
theorem right_T {v : MVal} (h : RightV v) : v.1 = 127 ∨ v.1 = 126 := by
  rcases (vright_iff v).1 h.1 with h | h
  · exact .inl h.1
  · exact .inr h
theorem val_pos {v : MVal} (h : RightV v) : posB (valS v) 58 = 3 := by
  unfold posB
  rw [valS_bl (right_T h)]
  unfold headV
  split <;> simp [List.idxOf_cons]
theorem val_size (v : MVal) (h : RightV v) : (valS v).size = 4 + (digB (numV v)).length := by
  rw [← bl_length, valS_bl (right_T h)]
  unfold headV
  split <;> simp <;> omega
theorem digB_pos (n : Int) : 0 < (digB n).length := by
  unfold digB
  have := List.length_pos_iff.2 (natB_ne n.natAbs)
  split
  · simp
  · exact this
theorem val_ext0 {v : MVal} (h : RightV v) : (valS v).extract 0 3 = tnameP v.1 := by
  apply bl_inj
  rw [bl_mid, valS_bl (right_T h), tname_bl (right_T h)]
  unfold headV
  split <;> simp
theorem val_ext4 {v : MVal} (h : RightV v) : bl ((valS v).extract 4 (valS v).size) = digB (numV v) := by
  rw [bl_mid, valS_bl (right_T h), val_size v h]
  unfold headV
  split <;> simp
theorem byte_name {b : Int} (h : b = 127 ∨ b = 126) : byteP (tnameP b) = b := by rcases h with rfl | rfl <;> decide
theorem rdV_val {v : MVal} (h : RightV v) : rdV (valS v) = (v, true) := by
  have hp := val_pos h
  have hs := val_size v h
  have hd := digB_pos (numV v)
  have hn := numP_dig (numV_rng h.2.2)
  have hA : cA (valS v) 58 = tnameP v.1 := by unfold cA; rw [hp]; exact val_ext0 h
  have hZ : bl (cZ (valS v) 58) = digB (numV v) := by unfold cZ; rw [hp]; exact val_ext4 h
  have hY : rdY (valS v) = v := by
    unfold rdY
    rw [hA, hZ, hn, byte_name (right_T h)]
    exact tcut_back h
  have hB : rdB (valS v) = false := by
    unfold rdB
    rw [hY, hZ, hn, hp, h.1]
    simp; omega
  unfold rdV
  rw [hB, hY]; rfl
theorem rd_hit {v : MVal} {s : ByteArray} (h : RightV v) (hs : valS v = s) : 5 ≤ s.size ∧ bl (s.extract 0 4) = headV v.1 ++ [58] ∧ numP (bl (s.extract 4 s.size)) = (numV v, true) ∧ tcutP (v.1, numV v % 18446744073709551616, ()) = v := by
  subst hs
  have h1 := val_size v h
  have h2 := digB_pos (numV v)
  refine ⟨by omega, ?_, ?_, tcut_back h⟩
  · rw [bl_mid, valS_bl (right_T h)]
    unfold headV
    split <;> simp
  · rw [val_ext4 h]; exact numP_dig (numV_rng h.2.2)

set_option maxHeartbeats 1000000 in
set_option maxRecDepth 100000 in
theorem readvalue_any (s : ByteArray) (w : World) (hs : s.size ≤ 100000) : Calls Try.prog 27 #[(.string s)] w fun e w' => e = .returned (.tuple #[(.agg #[(.int .u8 ((rdV s).1.1)), (.int .u64 ((rdV s).1.2.1))]), .bool (rdV s).2]) ∧ Below w.heap.size w w' := by
  obtain ⟨y, hy⟩ : ∃ y, rdY s = y := ⟨_, rfl⟩
  have hyr := rdY_rng s; rw [hy] at hyr
  refine sx_enter (L := [(0, (.string s))]) Try.func27 rfl rfl rfl rfl (fun fa hf => ?_)
  have hb : Below w.heap.size w w := Below.refl _ _
  refine wp_seq_k (fun K1 hK1 => ?_)
  refine wp_region_lit ?_
  refine sqdt hf (d_alloc (z := (.agg #[(.int .u8 (0 : Int)), (.int .u64 (0 : Int))])) (cs := #[(.int .u8 (0 : Int)), (.int .u64 (0 : Int))]) (by kernel_rfl) rfl) rfl rfl rfl ?_; clear hf fa; rintro fa _ w1 ⟨b1, rfl, hle1, hk1, he1⟩ hf
  have hBb1 : w.heap.size ≤ b1 := Nat.le_trans hb.size hle1
  replace hb := hb.trans (Below.mono he1 hb.size)
  refine sqv hf (r_assign rfl) rfl rfl rfl ?_; clear hf fa; intro fa hf
  apply wpList_nil
  (try simp only [Exit.then, Exit.inBlock, ↓reduceIte, Nat.reduceEqDiff])
  refine hK1 _ _ ?_
  refine wp_seq_k (fun K2 hK2 => ?_)
  refine wp_region_lit ?_
  refine sqv hf (r_move rfl) rfl rfl rfl ?_; clear hf fa; intro fa hf
  refine sqdt hf (d_callB (vs := [(.string s), (.string ⟨#[58]⟩)]) rfl Try.func58 (by kernel_rfl) (by kernel_rfl) (cutg_any s ⟨#[58]⟩ 58 _ rfl hs)) rfl rfl rfl ?_; clear hf fa; rintro fa _ w2 ⟨rfl, he2⟩ hf
  replace hk1 := blk_ext hk1 he2
  replace hb := hb.trans (Below.mono he2 hb.size)
  refine sqv hf (r_move rfl) rfl rfl rfl ?_; clear hf fa; intro fa hf
  refine sqv hf (r_extract rfl (i := 0) rfl) rfl rfl rfl ?_; clear hf fa; intro fa hf
  refine sqv hf (r_extract rfl (i := 1) rfl) rfl rfl rfl ?_; clear hf fa; intro fa hf
  refine sqv hf (r_extract rfl (i := 2) rfl) rfl rfl rfl ?_; clear hf fa; intro fa hf
  refine sqv hf (r_assign rfl) rfl rfl rfl ?_; clear hf fa; intro fa hf
  refine sqv hf (r_assign rfl) rfl rfl rfl ?_; clear hf fa; intro fa hf
  refine sqv hf (r_assign rfl) rfl rfl rfl ?_; clear hf fa; intro fa hf
  apply wpList_nil
  (try simp only [Exit.then, Exit.inBlock, ↓reduceIte, Nat.reduceEqDiff])
  refine hK2 _ _ ?_
  refine wp_seq_k (fun K3 hK3 => ?_)
  refine wp_region_lit ?_
  refine sqv hf (r_move rfl) rfl rfl rfl ?_; clear hf fa; intro fa hf
  refine sqdt hf (d_callB (vs := [(.string (cZ s 58))]) rfl Try.func25 (by kernel_rfl) (by kernel_rfl) (number_any (cZ s 58) _ (by have := cZ_len s 58; omega))) rfl rfl rfl ?_; clear hf fa; rintro fa _ w3 ⟨rfl, he3⟩ hf
  replace hk1 := blk_ext hk1 he3
  replace hb := hb.trans (Below.mono he3 hb.size)
  refine sqv hf (r_move rfl) rfl rfl rfl ?_; clear hf fa; intro fa hf
  refine sqv hf (r_extract rfl (i := 0) rfl) rfl rfl rfl ?_; clear hf fa; intro fa hf
  refine sqv hf (r_extract rfl (i := 1) rfl) rfl rfl rfl ?_; clear hf fa; intro fa hf
  refine sqv hf (r_assign rfl) rfl rfl rfl ?_; clear hf fa; intro fa hf
  refine sqv hf (r_assign rfl) rfl rfl rfl ?_; clear hf fa; intro fa hf
  apply wpList_nil
  (try simp only [Exit.then, Exit.inBlock, ↓reduceIte, Nat.reduceEqDiff])
  refine hK3 _ _ ?_
  refine wp_seq_k (fun K4 hK4 => ?_)
  refine wp_region_lit ?_
  refine sqv hf (r_move rfl) rfl rfl rfl ?_; clear hf fa; intro fa hf
  refine sqdt hf (d_callB (v := (.int .u8 ((byteP (cA s 58))))) (vs := [(.string (cA s 58))]) rfl Try.func65 (by kernel_rfl) (by kernel_rfl) (byte_any (cA s 58) _)) rfl rfl rfl ?_; clear hf fa; rintro fa _ w4 ⟨rfl, he4⟩ hf
  replace hk1 := blk_ext hk1 he4
  replace hb := hb.trans (Below.mono he4 hb.size)
  refine sqv hf (r_move rfl) rfl rfl rfl ?_; clear hf fa; intro fa hf
  refine sqv hf (r_conv (C := (((numP (bl (cZ s 58))).1 % 18446744073709551616))) rfl Try.underlying3 Try.underlying63 (by rw [IntKind.wrap_u64])) rfl rfl rfl ?_; clear hf fa; intro fa hf
  refine sqv hf (r_build (vs := [(0, (.int .u8 ((byteP (cA s 58))))), (1, (.int .u64 (((numP (bl (cZ s 58))).1 % 18446744073709551616))))]) (cs := #[(.int .u8 ((byteP (cA s 58)))), (.int .u64 (((numP (bl (cZ s 58))).1 % 18446744073709551616)))]) rfl (fun _ => by kernel_rfl)) rfl rfl rfl ?_; clear hf fa; intro fa hf
  refine sqdt hf (d_callB (v := (.agg #[(.int .u8 y.1), (.int .u64 y.2.1)])) (vs := [(.agg #[(.int .u8 ((byteP (cA s 58)))), (.int .u64 (((numP (bl (cZ s 58))).1 % 18446744073709551616)))])]) rfl Try.func64 (by kernel_rfl) (by kernel_rfl) (by have h := tcut_any (((byteP (cA s 58))), (((numP (bl (cZ s 58))).1 % 18446744073709551616)), ()) w4 (by first | exact byte_rng _ | (simp only; omega)) (by simp only; omega); rw [show tcutP (byteP (cA s 58), (numP (bl (cZ s 58))).1 % 18446744073709551616, ()) = y from hy] at h; exact h)) rfl rfl rfl ?_; clear hf fa; rintro fa _ w5 ⟨rfl, he5⟩ hf
  replace hk1 := blk_ext hk1 he5
  replace hb := hb.trans (Below.mono he5 hb.size)
  refine sqdt hf (d_alloc (z := (.agg #[(.int .u8 (0 : Int)), (.int .u64 (0 : Int))])) (cs := #[(.int .u8 (0 : Int)), (.int .u64 (0 : Int))]) (by kernel_rfl) rfl) rfl rfl rfl ?_; clear hf fa; rintro fa _ w6 ⟨b2, rfl, hle2, hk2, he6⟩ hf
  have hBb2 : w.heap.size ≤ b2 := Nat.le_trans hb.size hle2
  have : b1 < b2 := Nat.lt_of_lt_of_le (blk_lt hk1) hle2
  replace hk1 := blk_ext hk1 he6
  replace hb := hb.trans (Below.mono he6 hb.size)
  refine sqn hf (d_storeK (T := 65) (v := (.agg #[(.int .u8 y.1), (.int .u64 y.2.1)])) (cs := #[(.int .u8 (0 : Int)), (.int .u64 (0 : Int))]) (cs' := #[(.int .u8 y.1), (.int .u64 y.2.1)]) rfl rfl (by kernel_rfl) (by kernel_rfl) hk2 (by kernel_rfl) (by kernel_rfl)) rfl rfl ?_; clear hf fa; rintro fa _ w7 ⟨hk3, hg1⟩ hf
  replace hk1 := blk_grown hk1 hg1 (by omega)
  replace hb := hb.trans (grown_below hg1 hb.size hBb2)
  apply wpList_nil
  (try simp only [Exit.then, Exit.inBlock, ↓reduceIte, Nat.reduceEqDiff])
  refine hK4 _ _ ?_
  refine wp_seq_k (fun K5 hK5 => ?_)
  refine wp_seq_k (fun K6 hK6 => ?_)
  refine wp_region_lit ?_
  refine sqv hf (r_move rfl) rfl rfl rfl ?_; clear hf fa; intro fa hf
  refine sqv hf (r_not rfl) rfl rfl rfl ?_; clear hf fa; intro fa hf
  refine sqv hf (r_move rfl) rfl rfl rfl ?_; clear hf fa; intro fa hf
  refine sqgF (act := (!(!(decide (posB s 58 < s.size))))) (ag := true) (c := (!(decide (posB s 58 < s.size)))) (v := (.bool (numP (bl (cZ s 58))).2)) hf rfl rfl rfl (fun hact => (r_move rfl)) rfl rfl ?_; clear hf fa; intro fa hf
  refine sqgF (act := (!(!(decide (posB s 58 < s.size))))) (ag := true) (c := (!(decide (posB s 58 < s.size)))) (v := (.bool (!(numP (bl (cZ s 58))).2))) hf rfl rfl rfl (fun hact => (r_not (gb_ev hact rfl))) rfl rfl ?_; clear hf fa; intro fa hf
  refine sqv hf (r_pickO (b := (!(decide (posB s 58 < s.size)))) (e := (!(numP (bl (cZ s 58))).2)) rfl rfl rfl) rfl rfl rfl ?_; clear hf fa; intro fa hf
  refine sqv hf (r_move rfl) rfl rfl rfl ?_; clear hf fa; intro fa hf
  refine sqgF (act := (!((!(decide (posB s 58 < s.size))) || (!(numP (bl (cZ s 58))).2)))) (ag := true) (c := ((!(decide (posB s 58 < s.size))) || (!(numP (bl (cZ s 58))).2))) (v := (.agg #[(.int .u8 y.1), (.int .u64 y.2.1)])) hf rfl rfl rfl (fun hact => (r_loadA (cs := [(.int .u8 y.1), (.int .u64 y.2.1)]) rfl Try.underlying65 rfl (by kernel_rfl) (cellsAt_blk hk3))) rfl rfl ?_; clear hf fa; intro fa hf
  refine sqgd (R := fun vq wq => vq = gb (!((!(decide (posB s 58 < s.size))) || (!(numP (bl (cZ s 58))).2))) (.bool (vrightP y)) ∧ Below w7.heap.size w7 wq) (act := (!((!(decide (posB s 58 < s.size))) || (!(numP (bl (cZ s 58))).2)))) (g := 6) (want := false) (ag := true) (c := ((!(decide (posB s 58 < s.size))) || (!(numP (bl (cZ s 58))).2))) hf (by rfl) (by rfl) (act_F _ _) (fun hact => (d_callB (vs := [(.agg #[(.int .u8 y.1), (.int .u64 y.2.1)])]) (cons_ev (gb_ev hact rfl) rfl) Try.func57 (by kernel_rfl) (by kernel_rfl) (vright_any y _ hyr.1 hyr.2)).mono (fun _ _ h => ⟨by rw [h.1, hact]; rfl, h.2⟩)) (fun h => ⟨by rw [h]; rfl, Below.refl _ _⟩) rfl ?_; clear hf fa; rintro fa _ w8 ⟨rfl, he7⟩ hf
  replace hk1 := blk_ext hk1 he7
  replace hk3 := blk_ext hk3 he7
  replace hb := hb.trans (Below.mono he7 hb.size)
  change Fr _ _ ((35, (gb (!((!(decide (posB s 58 < s.size))) || (!(numP (bl (cZ s 58))).2))) (.bool (vrightP y)))) :: _) at hf
  refine sqgF (act := (!((!(decide (posB s 58 < s.size))) || (!(numP (bl (cZ s 58))).2)))) (ag := true) (c := ((!(decide (posB s 58 < s.size))) || (!(numP (bl (cZ s 58))).2))) (v := (.bool (!(vrightP y)))) hf rfl rfl rfl (fun hact => (r_not (gb_ev hact rfl))) rfl rfl ?_; clear hf fa; intro fa hf
  refine sqv hf (r_pickO (b := ((!(decide (posB s 58 < s.size))) || (!(numP (bl (cZ s 58))).2))) (e := (!(vrightP y))) rfl rfl rfl) rfl rfl rfl ?_; clear hf fa; intro fa hf
  refine sqv hf (r_move rfl) rfl rfl rfl ?_; clear hf fa; intro fa hf
  refine sqgF (act := (!(((!(decide (posB s 58 < s.size))) || (!(numP (bl (cZ s 58))).2)) || (!(vrightP y))))) (ag := true) (c := (((!(decide (posB s 58 < s.size))) || (!(numP (bl (cZ s 58))).2)) || (!(vrightP y)))) (v := (.agg #[(.int .u8 y.1), (.int .u64 y.2.1)])) hf rfl rfl rfl (fun hact => (r_loadA (cs := [(.int .u8 y.1), (.int .u64 y.2.1)]) rfl Try.underlying65 rfl (by kernel_rfl) (cellsAt_blk hk3))) rfl rfl ?_; clear hf fa; intro fa hf
  refine sqgd (R := fun vq wq => vq = gb (!(((!(decide (posB s 58 < s.size))) || (!(numP (bl (cZ s 58))).2)) || (!(vrightP y)))) (.string (valS y)) ∧ Below w8.heap.size w8 wq) (act := (!(((!(decide (posB s 58 < s.size))) || (!(numP (bl (cZ s 58))).2)) || (!(vrightP y))))) (g := 11) (want := false) (ag := true) (c := (((!(decide (posB s 58 < s.size))) || (!(numP (bl (cZ s 58))).2)) || (!(vrightP y)))) hf (by rfl) (by rfl) (act_F _ _) (fun hact => (d_callB (vs := [(.agg #[(.int .u8 y.1), (.int .u64 y.2.1)])]) (cons_ev (gb_ev hact rfl) rfl) Try.func34 (by kernel_rfl) (by kernel_rfl) (opvalue_any y _ hyr.1 hyr.2)).mono (fun _ _ h => ⟨by rw [h.1, hact]; rfl, h.2⟩)) (fun h => ⟨by rw [h]; rfl, Below.refl _ _⟩) rfl ?_; clear hf fa; rintro fa _ w9 ⟨rfl, he8⟩ hf
  replace hk1 := blk_ext hk1 he8
  replace hk3 := blk_ext hk3 he8
  replace hb := hb.trans (Below.mono he8 hb.size)
  change Fr _ _ ((40, (gb (!(((!(decide (posB s 58 < s.size))) || (!(numP (bl (cZ s 58))).2)) || (!(vrightP y)))) (.string (valS y)))) :: _) at hf
  refine sqgF (act := (!(((!(decide (posB s 58 < s.size))) || (!(numP (bl (cZ s 58))).2)) || (!(vrightP y))))) (ag := true) (c := (((!(decide (posB s 58 < s.size))) || (!(numP (bl (cZ s 58))).2)) || (!(vrightP y)))) (v := (.string s)) hf rfl rfl rfl (fun hact => (r_move rfl)) rfl rfl ?_; clear hf fa; intro fa hf
  refine sqgF (act := (!(((!(decide (posB s 58 < s.size))) || (!(numP (bl (cZ s 58))).2)) || (!(vrightP y))))) (ag := true) (c := (((!(decide (posB s 58 < s.size))) || (!(numP (bl (cZ s 58))).2)) || (!(vrightP y)))) (v := (.bool (decide ((valS y) ≠ s)))) hf rfl rfl rfl (fun hact => (r_sne (gb_ev hact rfl) (gb_ev hact rfl))) rfl rfl ?_; clear hf fa; intro fa hf
  refine sqv hf (r_pickO (b := (((!(decide (posB s 58 < s.size))) || (!(numP (bl (cZ s 58))).2)) || (!(vrightP y)))) (e := (decide ((valS y) ≠ s))) rfl rfl rfl) rfl rfl rfl ?_; clear hf fa; intro fa hf
  apply wpList_nil
  (try simp only [Exit.then, Exit.inBlock, ↓reduceIte, Nat.reduceEqDiff])
  refine hK6 _ _ ?_
  refine wp_cond_split (t := ((((!(decide (posB s 58 < s.size))) || (!(numP (bl (cZ s 58))).2)) || (!(vrightP y))) || (decide ((valS y) ≠ s)))) (hf.ev rfl) (fun hqt43_1 => ?_) (fun hqt43_1 => ?_)
  · have hqt43_1b := hqt43_1
    try simp only [decide_eq_true_eq, Bool.and_eq_true, Bool.or_eq_true, Bool.not_eq_true', decide_eq_false_iff_not, ne_eq, Bool.not_eq_true] at hqt43_1
    refine wp_seq_k (fun K7 hK7 => ?_)
    refine wp_region_lit ?_
    refine sqv hf (r_build (vs := []) (cs := #[(.int .u8 (0 : Int)), (.int .u64 (0 : Int))]) rfl (fun _ => by kernel_rfl)) rfl rfl rfl ?_; clear hf fa; intro fa hf
    refine sqn hf (d_storeK (T := 65) (v := (.agg #[(.int .u8 (0 : Int)), (.int .u64 (0 : Int))])) (cs := #[(.int .u8 (0 : Int)), (.int .u64 (0 : Int))]) (cs' := #[(.int .u8 (0 : Int)), (.int .u64 (0 : Int))]) rfl rfl (by kernel_rfl) (by kernel_rfl) hk1 (by kernel_rfl) (by kernel_rfl)) rfl rfl ?_; clear hf fa; rintro fa _ w10 ⟨hk4, hg2⟩ hf
    replace hk3 := blk_grown hk3 hg2 (by omega)
    replace hb := hb.trans (grown_below hg2 hb.size hBb1)
    refine sqv hf (r_assign rfl) rfl rfl rfl ?_; clear hf fa; intro fa hf
    apply wpList_nil
    (try simp only [Exit.then, Exit.inBlock, ↓reduceIte, Nat.reduceEqDiff])
    refine hK7 _ _ ?_
    refine wp_ret ?_
    (try simp only [Exit.then, Exit.inBlock])
    refine retCT hf rfl rfl hk4 Try.underlying65 rfl (by kernel_rfl) rfl ?_
    refine ⟨?_, hb⟩; unfold rdV; rw [show rdB s = true from by unfold rdB; rw [hy]; exact hqt43_1b]; rfl
  · have hqt43_1b := hqt43_1
    replace hqt43_1 := Bool.eq_false_iff.1 hqt43_1
    try simp only [ne_eq, decide_eq_true_eq, Bool.and_eq_true, Bool.or_eq_true, Bool.not_eq_true', decide_eq_false_iff_not] at hqt43_1
    refine wp_skip ?_
    (try simp only [Exit.then, Exit.inBlock, ↓reduceIte, Nat.reduceEqDiff])
    refine hK5 _ _ ?_
    refine wp_seq_k (fun K8 hK8 => ?_)
    refine wp_region_lit ?_
    refine sqv hf (r_loadA (cs := [(.int .u8 y.1), (.int .u64 y.2.1)]) rfl Try.underlying65 rfl (by kernel_rfl) (cellsAt_blk hk3)) rfl rfl rfl ?_; clear hf fa; intro fa hf
    refine sqn hf (d_storeK (T := 65) (v := (.agg #[(.int .u8 y.1), (.int .u64 y.2.1)])) (cs := #[(.int .u8 (0 : Int)), (.int .u64 (0 : Int))]) (cs' := #[(.int .u8 y.1), (.int .u64 y.2.1)]) rfl rfl (by kernel_rfl) (by kernel_rfl) hk1 (by kernel_rfl) (by kernel_rfl)) rfl rfl ?_; clear hf fa; rintro fa _ w11 ⟨hk5, hg3⟩ hf
    replace hk3 := blk_grown hk3 hg3 (by omega)
    replace hb := hb.trans (grown_below hg3 hb.size hBb1)
    refine sqv hf (r_assign rfl) rfl rfl rfl ?_; clear hf fa; intro fa hf
    apply wpList_nil
    (try simp only [Exit.then, Exit.inBlock, ↓reduceIte, Nat.reduceEqDiff])
    refine hK8 _ _ ?_
    refine wp_ret ?_
    (try simp only [Exit.then, Exit.inBlock])
    refine retCT hf rfl rfl hk5 Try.underlying65 rfl (by kernel_rfl) rfl ?_
    refine ⟨?_, hb⟩; unfold rdV; rw [show rdB s = false from by unfold rdB; rw [hy]; exact hqt43_1b]; rw [cond_false, hy]

set_option maxHeartbeats 1000000 in
set_option maxRecDepth 100000 in
theorem rreadvalue_any (s : ByteArray) (w : World) (hs : s.size ≤ 100000) : Calls Try.prog 28 #[(.string s)] w fun e w' => e = .returned (.tuple #[(.agg #[(.int .u8 ((rdV s).1.1)), (.int .u64 ((rdV s).1.2.1))]), .bool (rdV s).2]) ∧ Below w.heap.size w w' := by
  refine sx_enter (L := [(0, (.string s))]) Try.func28 rfl rfl rfl rfl (fun fa hf => ?_)
  have hb : Below w.heap.size w w := Below.refl _ _
  refine wp_seq_k (fun K1 hK1 => ?_)
  refine wp_region_lit ?_
  refine sqdt hf (d_alloc (z := (.agg #[(.int .u8 (0 : Int)), (.int .u64 (0 : Int))])) (cs := #[(.int .u8 (0 : Int)), (.int .u64 (0 : Int))]) (by kernel_rfl) rfl) rfl rfl rfl ?_; clear hf fa; rintro fa _ w1 ⟨b1, rfl, hle1, hk1, he1⟩ hf
  have hBb1 : w.heap.size ≤ b1 := Nat.le_trans hb.size hle1
  replace hb := hb.trans (Below.mono he1 hb.size)
  refine sqv hf (r_assign rfl) rfl rfl rfl ?_; clear hf fa; intro fa hf
  apply wpList_nil
  (try simp only [Exit.then, Exit.inBlock, ↓reduceIte, Nat.reduceEqDiff])
  refine hK1 _ _ ?_
  refine wp_seq_k (fun K2 hK2 => ?_)
  refine wp_seq_k (fun K3 hK3 => ?_)
  skip
  refine wp_region_lit ?_
  refine sqv hf (r_assign rfl) rfl rfl rfl ?_; clear hf fa; intro fa hf
  apply wpList_nil
  (try simp only [Exit.then, Exit.inBlock, ↓reduceIte, Nat.reduceEqDiff])
  refine hK3 _ _ ?_
  refine wp_block ?_
  refine wp_loop_k (fun mq fa wr => ∃ (i : Nat), mq = 2 - i ∧ Fr 48 fa [(0, (.string s)), (4, (.int .i64 ((i : Nat) : Int))), (2, (.pointer (some ⟨b1, 0, none⟩)))] ∧ Below w.heap.size w wr ∧ wr.heap[b1]? = some (.cells #[(.int .u8 (0 : Int)), (.int .u64 (0 : Int))] 65 (0, 0)) ∧ (i ≤ 2) ∧ (∀ v, RightV v → valS v = s → v.1 ≤ 127 - ((i : Nat) : Int))) ?_ ?_
  · skip
    exact ⟨_, 0, rfl, hf.sub ⟨rfl, (some_int (by first | rfl | omega)), rfl, trivial⟩, hb, hk1, by omega, (by intro v hv hvs; have := right_T hv; omega)⟩
  · skip
    clear hf fa; intro mq1 fa w2 hI KL1 hKL1
    clear hb
    clear hk1
    obtain ⟨i, hmq1, hf, hb, hkb1, hi, Hn⟩ := hI
    obtain ⟨y, hy⟩ : ∃ y, tcutP ((127 : Int) - ((i : Nat) : Int), (numP (bl (s.extract 4 s.size))).1 % 18446744073709551616, ()) = y := ⟨_, rfl⟩
    have hyr : (0 ≤ y.1 ∧ y.1 < 256) ∧ (0 ≤ y.2.1 ∧ y.2.1 < 18446744073709551616) := by rw [← hy]; exact tcut_rng (by simp only; omega) (by simp only; omega)
    refine wp_seq_k (fun K4 hK4 => ?_)
    refine wp_seq_k (fun K5 hK5 => ?_)
    refine wp_region_lit ?_
    refine sqv hf (r_move rfl) rfl rfl rfl ?_; clear hf fa; intro fa hf
    refine sqv hf (r_lt rfl rfl) rfl rfl rfl ?_; clear hf fa; intro fa hf
    apply wpList_nil
    (try simp only [Exit.then, Exit.inBlock, ↓reduceIte, Nat.reduceEqDiff])
    refine hK5 _ _ ?_
    refine wp_cond_split (t := (decide (((i : Nat) : Int) < (2 : Int)))) (hf.ev rfl) (fun hqt10_1 => ?_) (fun hqt10_1 => ?_)
    · have hqt10_1b := hqt10_1
      try simp only [decide_eq_true_eq, Bool.and_eq_true, Bool.or_eq_true, Bool.not_eq_true', decide_eq_false_iff_not, ne_eq, Bool.not_eq_true] at hqt10_1
      refine wp_skip ?_
      (try simp only [Exit.then, Exit.inBlock, ↓reduceIte, Nat.reduceEqDiff])
      refine hK4 _ _ ?_
      refine wp_seq_k (fun K6 hK6 => ?_)
      refine wp_block ?_
      refine wp_seq_k (fun K7 hK7 => ?_)
      have hi1 : i = 0 ∨ i = 1 := by omega
      by_cases hsp1 : i = 0
      · have hsp1b : decide (i = 0) = true := decide_eq_true hsp1
        skip
        refine wp_region_lit ?_
        refine sqdt hf (d_bslice (z := (.string ⟨#[]⟩)) (sz := 1) (vs := [(0, (.string ⟨#[105, 51, 50, 58]⟩)), (1, (.string ⟨#[105, 54, 52, 58]⟩))]) (cs := #[(.string ⟨#[105, 51, 50, 58]⟩), (.string ⟨#[105, 54, 52, 58]⟩)]) rfl Try.underlying32 (by kernel_rfl) rfl (by kernel_rfl)) rfl rfl rfl ?_; clear hf fa; rintro fa _ w3 ⟨b2, rfl, hle2, hk2, he2⟩ hf
        have hBb2 : w.heap.size ≤ b2 := Nat.le_trans hb.size hle2
        have : b1 < b2 := Nat.lt_of_lt_of_le (blk_lt hkb1) hle2
        replace hkb1 := blk_ext hkb1 he2
        replace hb := hb.trans (Below.mono he2 hb.size)
        refine sqv hf (r_move rfl) rfl rfl rfl ?_; clear hf fa; intro fa hf
        have hr1 := Row.of_new (k := 1) (V := vStr) (l := [(⟨#[105, 51, 50, 58]⟩ : ByteArray), (⟨#[105, 54, 52, 58]⟩ : ByteArray)]) (base := w.heap.size) hk2 (by omega) rfl rfl (Nat.le_of_ble_eq_true rfl)
        have hy1 : ([(⟨#[105, 51, 50, 58]⟩ : ByteArray), (⟨#[105, 54, 52, 58]⟩ : ByteArray)])[i]? = some (⟨#[105, 51, 50, 58]⟩ : ByteArray) := (by rw [hsp1]; rfl)
        have hel1 := RdS.at (Row.rd (by intros; rfl) hr1) hy1
        obtain ⟨_, _, hab, hlr1, hel1⟩ := hel1
        cases hab
        refine sqv hf (r_ixa (sz := 1) (j := i) rfl rfl Try.underlying32 (by kernel_rfl) rfl (by omega) rfl) rfl rfl rfl ?_; clear hf fa; intro fa hf
        refine sqv hf (r_load (v := (.string (⟨#[105, 51, 50, 58]⟩ : ByteArray))) rfl Try.underlying9 rfl (cellsAt_cell hel1 (i := 0) rfl rfl)) rfl rfl rfl ?_; clear hf fa; intro fa hf
        refine sqv hf (r_assign rfl) rfl rfl rfl ?_; clear hf fa; intro fa hf
        apply wpList_nil
        (try simp only [Exit.then, Exit.inBlock, ↓reduceIte, Nat.reduceEqDiff])
        refine hK7 _ _ ?_
        refine wp_seq_k (fun K8 hK8 => ?_)
        refine wp_seq_k (fun K9 hK9 => ?_)
        refine wp_region_lit ?_
        refine sqv hf (r_move rfl) rfl rfl rfl ?_; clear hf fa; intro fa hf
        refine sqv hf (r_lens rfl Try.underlying9) rfl rfl rfl ?_; clear hf fa; intro fa hf
        refine sqv hf (r_lt rfl rfl) rfl rfl rfl ?_; clear hf fa; intro fa hf
        refine sqv hf (r_move rfl) rfl rfl rfl ?_; clear hf fa; intro fa hf
        refine sqgF (act := (!(decide (((s.size : Nat) : Int) < (5 : Int))))) (ag := true) (c := (decide (((s.size : Nat) : Int) < (5 : Int)))) (v := (.string s)) hf rfl rfl rfl (fun hact => (r_move rfl)) rfl rfl ?_; clear hf fa; intro fa hf
        refine sqgF (act := (!(decide (((s.size : Nat) : Int) < (5 : Int))))) (ag := true) (c := (decide (((s.size : Nat) : Int) < (5 : Int)))) (v := (.string (s.extract 0 4))) hf rfl rfl rfl (fun hact => (by have hact0 := hact; (try simp only [Bool.and_eq_true, Bool.not_eq_true', Bool.or_eq_false_iff, Bool.or_eq_true, Bool.and_eq_false_iff, ne_eq, decide_eq_true_eq, decide_eq_false_iff_not] at hact0); exact (r_sslice (a := 0) (b := 4) (k1 := .i64) (k2 := .i64) (A := 0) (B := (4 : Int)) (gb_ev hact rfl) Try.underlying9 (.inl ⟨rfl, rfl⟩) (.inr ⟨_, rfl, rfl, rfl⟩) (by omega) (by omega)))) rfl rfl ?_; clear hf fa; intro fa hf
        refine sqgF (act := (!(decide (((s.size : Nat) : Int) < (5 : Int))))) (ag := true) (c := (decide (((s.size : Nat) : Int) < (5 : Int)))) (v := (.string (⟨#[105, 51, 50, 58]⟩ : ByteArray))) hf rfl rfl rfl (fun hact => (r_move rfl)) rfl rfl ?_; clear hf fa; intro fa hf
        refine sqgF (act := (!(decide (((s.size : Nat) : Int) < (5 : Int))))) (ag := true) (c := (decide (((s.size : Nat) : Int) < (5 : Int)))) (v := (.bool (decide ((s.extract 0 4) ≠ (⟨#[105, 51, 50, 58]⟩ : ByteArray))))) hf rfl rfl rfl (fun hact => (r_sne (gb_ev hact rfl) (gb_ev hact rfl))) rfl rfl ?_; clear hf fa; intro fa hf
        refine sqv hf (r_pickO (b := (decide (((s.size : Nat) : Int) < (5 : Int)))) (e := (decide ((s.extract 0 4) ≠ (⟨#[105, 51, 50, 58]⟩ : ByteArray)))) rfl rfl rfl) rfl rfl rfl ?_; clear hf fa; intro fa hf
        apply wpList_nil
        (try simp only [Exit.then, Exit.inBlock, ↓reduceIte, Nat.reduceEqDiff])
        refine hK9 _ _ ?_
        refine wp_cond_split (t := ((decide (((s.size : Nat) : Int) < (5 : Int))) || (decide ((s.extract 0 4) ≠ (⟨#[105, 51, 50, 58]⟩ : ByteArray))))) (hf.ev rfl) (fun hqt25_1 => ?_) (fun hqt25_1 => ?_)
        · have hqt25_1b := hqt25_1
          try simp only [decide_eq_true_eq, Bool.and_eq_true, Bool.or_eq_true, Bool.not_eq_true', decide_eq_false_iff_not, ne_eq, Bool.not_eq_true] at hqt25_1
          refine wp_exit ?_
          (try simp only [Exit.then, Exit.inBlock, ↓reduceIte, Nat.reduceEqDiff])
          refine hK6 _ _ ?_
          refine wp_region_lit ?_
          refine sqv hf (r_move rfl) rfl rfl rfl ?_; clear hf fa; intro fa hf
          refine sqv hf (r_add (C := (((i : Nat) : Int) + (1 : Int))) rfl rfl (by rw [IntKind.wrap_i64]; omega)) rfl rfl rfl ?_; clear hf fa; intro fa hf
          refine sqv hf (r_assign rfl) rfl rfl rfl ?_; clear hf fa; intro fa hf
          apply wpList_nil
          (try simp only [Exit.then, Exit.inBlock, ↓reduceIte, Nat.reduceEqDiff])
          have hlast : ∀ v, RightV v → valS v = s → ¬ v.1 = 127 := by
            intro v hv hvs hT
            obtain ⟨h1, h2, h3, h4⟩ := rd_hit hv hvs
            rcases hqt25_1 with h | h
            · omega
            · apply h; apply bl_inj; rw [h2, hT]; rfl
          refine hKL1 _ _ _ (by omega) ⟨(i + 1), rfl, hf.sub ⟨rfl, (some_int (by first | rfl | omega)), rfl, trivial⟩, hb, hkb1, by omega, (by intro v hv hvs; have h1 := Hn v hv hvs; have h2 := hlast v hv hvs; omega)⟩
        · have hqt25_1b := hqt25_1
          replace hqt25_1 := Bool.eq_false_iff.1 hqt25_1
          try simp only [ne_eq, decide_eq_true_eq, Bool.and_eq_true, Bool.or_eq_true, Bool.not_eq_true', decide_eq_false_iff_not] at hqt25_1
          refine wp_skip ?_
          (try simp only [Exit.then, Exit.inBlock, ↓reduceIte, Nat.reduceEqDiff])
          refine hK8 _ _ ?_
          refine wp_seq_k (fun K10 hK10 => ?_)
          refine wp_region_lit ?_
          refine sqv hf (r_move rfl) rfl rfl rfl ?_; clear hf fa; intro fa hf
          refine sqv hf (r_sslice (a := 4) (b := s.size) (k1 := .i64) (k2 := .i64) (A := (4 : Int)) (B := 0) rfl Try.underlying9 (.inr ⟨_, rfl, rfl, rfl⟩) (.inl ⟨rfl, rfl⟩) (by omega) (by omega)) rfl rfl rfl ?_; clear hf fa; intro fa hf
          refine sqdt hf (d_callB (vs := [(.string (s.extract 4 s.size))]) rfl Try.func26 (by kernel_rfl) (by kernel_rfl) (rnumber_any (s.extract 4 s.size) _ (by have := sz_ext s 4 s.size (by omega) (by omega); omega))) rfl rfl rfl ?_; clear hf fa; rintro fa _ w4 ⟨rfl, he3⟩ hf
          replace hkb1 := blk_ext hkb1 he3
          replace hr1 := Row.ext hr1 he3
          replace hb := hb.trans (Below.mono he3 hb.size)
          refine sqv hf (r_move rfl) rfl rfl rfl ?_; clear hf fa; intro fa hf
          refine sqv hf (r_extract rfl (i := 0) rfl) rfl rfl rfl ?_; clear hf fa; intro fa hf
          refine sqv hf (r_extract rfl (i := 1) rfl) rfl rfl rfl ?_; clear hf fa; intro fa hf
          refine sqv hf (r_assign rfl) rfl rfl rfl ?_; clear hf fa; intro fa hf
          refine sqv hf (r_assign rfl) rfl rfl rfl ?_; clear hf fa; intro fa hf
          apply wpList_nil
          (try simp only [Exit.then, Exit.inBlock, ↓reduceIte, Nat.reduceEqDiff])
          refine hK10 _ _ ?_
          refine wp_seq_k (fun K11 hK11 => ?_)
          refine wp_region_lit ?_
          refine sqv hf (r_move rfl) rfl rfl rfl ?_; clear hf fa; intro fa hf
          refine sqv hf (r_sub (C := ((127 : Int) - ((i : Nat) : Int))) rfl rfl (by rw [IntKind.wrap_i64]; omega)) rfl rfl rfl ?_; clear hf fa; intro fa hf
          refine sqv hf (r_conv (C := ((127 : Int) - ((i : Nat) : Int))) rfl Try.underlying3 Try.underlying5 (by rw [IntKind.wrap_u8]; omega)) rfl rfl rfl ?_; clear hf fa; intro fa hf
          refine sqv hf (r_move rfl) rfl rfl rfl ?_; clear hf fa; intro fa hf
          refine sqv hf (r_conv (C := (((numP (bl (s.extract 4 s.size))).1 % 18446744073709551616))) rfl Try.underlying3 Try.underlying63 (by rw [IntKind.wrap_u64])) rfl rfl rfl ?_; clear hf fa; intro fa hf
          refine sqv hf (r_build (vs := [(0, (.int .u8 ((127 : Int) - ((i : Nat) : Int)))), (1, (.int .u64 (((numP (bl (s.extract 4 s.size))).1 % 18446744073709551616))))]) (cs := #[(.int .u8 ((127 : Int) - ((i : Nat) : Int))), (.int .u64 (((numP (bl (s.extract 4 s.size))).1 % 18446744073709551616)))]) rfl (fun _ => by kernel_rfl)) rfl rfl rfl ?_; clear hf fa; intro fa hf
          refine sqdt hf (d_callB (v := (.agg #[(.int .u8 y.1), (.int .u64 y.2.1)])) (vs := [(.agg #[(.int .u8 ((127 : Int) - ((i : Nat) : Int))), (.int .u64 (((numP (bl (s.extract 4 s.size))).1 % 18446744073709551616)))])]) rfl Try.func53 (by kernel_rfl) (by kernel_rfl) (by have h := rcut2_any (((127 : Int) - ((i : Nat) : Int)), (((numP (bl (s.extract 4 s.size))).1 % 18446744073709551616)), ()) w4 (by first | exact byte_rng _ | (simp only; omega)) (by simp only; omega); rw [hy] at h; exact h)) rfl rfl rfl ?_; clear hf fa; rintro fa _ w5 ⟨rfl, he4⟩ hf
          replace hkb1 := blk_ext hkb1 he4
          replace hr1 := Row.ext hr1 he4
          replace hb := hb.trans (Below.mono he4 hb.size)
          refine sqdt hf (d_alloc (z := (.agg #[(.int .u8 (0 : Int)), (.int .u64 (0 : Int))])) (cs := #[(.int .u8 (0 : Int)), (.int .u64 (0 : Int))]) (by kernel_rfl) rfl) rfl rfl rfl ?_; clear hf fa; rintro fa _ w6 ⟨b3, rfl, hle3, hk3, he5⟩ hf
          have hBb3 : w.heap.size ≤ b3 := Nat.le_trans hb.size hle3
          have : b1 < b3 := Nat.lt_of_lt_of_le (blk_lt hkb1) hle3
          have : b2 < b3 := Nat.lt_of_lt_of_le (Row.lt hr1 _ rfl).2 hle3
          replace hkb1 := blk_ext hkb1 he5
          replace hr1 := Row.ext hr1 he5
          replace hb := hb.trans (Below.mono he5 hb.size)
          refine sqn hf (d_storeK (T := 65) (v := (.agg #[(.int .u8 y.1), (.int .u64 y.2.1)])) (cs := #[(.int .u8 (0 : Int)), (.int .u64 (0 : Int))]) (cs' := #[(.int .u8 y.1), (.int .u64 y.2.1)]) rfl rfl (by kernel_rfl) (by kernel_rfl) hk3 (by kernel_rfl) (by kernel_rfl)) rfl rfl ?_; clear hf fa; rintro fa _ w7 ⟨hk4, hg1⟩ hf
          replace hkb1 := blk_grown hkb1 hg1 (by omega)
          replace hr1 := Row.grown hr1 hg1 (Row.ne_type hr1 hk3 rfl)
          replace hb := hb.trans (grown_below hg1 hb.size hBb3)
          apply wpList_nil
          (try simp only [Exit.then, Exit.inBlock, ↓reduceIte, Nat.reduceEqDiff])
          refine hK11 _ _ ?_
          refine wp_seq_k (fun K12 hK12 => ?_)
          refine wp_region_lit ?_
          refine sqv hf (r_move rfl) rfl rfl rfl ?_; clear hf fa; intro fa hf
          refine sqv hf (r_move rfl) rfl rfl rfl ?_; clear hf fa; intro fa hf
          refine sqgT (act := (numP (bl (s.extract 4 s.size))).2) (ag := true) (c := (numP (bl (s.extract 4 s.size))).2) (v := (.agg #[(.int .u8 y.1), (.int .u64 y.2.1)])) hf rfl rfl rfl (fun hact => (r_loadA (cs := [(.int .u8 y.1), (.int .u64 y.2.1)]) rfl Try.underlying65 rfl (by kernel_rfl) (cellsAt_blk hk4))) rfl rfl ?_; clear hf fa; intro fa hf
          refine sqgd (R := fun vq wq => vq = gb (numP (bl (s.extract 4 s.size))).2 (.string (valS y)) ∧ Below w7.heap.size w7 wq) (act := (numP (bl (s.extract 4 s.size))).2) (g := 1) (want := true) (ag := true) (c := (numP (bl (s.extract 4 s.size))).2) hf (by rfl) (by rfl) (act_T _ _) (fun hact => (d_callB (vs := [(.agg #[(.int .u8 y.1), (.int .u64 y.2.1)])]) (cons_ev (gb_ev hact rfl) rfl) Try.func35 (by kernel_rfl) (by kernel_rfl) (oprvalue_any y _ hyr.1 hyr.2)).mono (fun _ _ h => ⟨by rw [h.1, hact]; rfl, h.2⟩)) (fun h => ⟨by rw [h]; rfl, Below.refl _ _⟩) rfl ?_; clear hf fa; rintro fa _ w8 ⟨rfl, he6⟩ hf
          replace hkb1 := blk_ext hkb1 he6
          replace hk4 := blk_ext hk4 he6
          replace hr1 := Row.ext hr1 he6
          replace hb := hb.trans (Below.mono he6 hb.size)
          change Fr _ _ ((42, (gb (numP (bl (s.extract 4 s.size))).2 (.string (valS y)))) :: _) at hf
          refine sqgT (act := (numP (bl (s.extract 4 s.size))).2) (ag := true) (c := (numP (bl (s.extract 4 s.size))).2) (v := (.string s)) hf rfl rfl rfl (fun hact => (r_move rfl)) rfl rfl ?_; clear hf fa; intro fa hf
          refine sqgT (act := (numP (bl (s.extract 4 s.size))).2) (ag := true) (c := (numP (bl (s.extract 4 s.size))).2) (v := (.bool (decide ((valS y) = s)))) hf rfl rfl rfl (fun hact => (r_seq (gb_ev hact rfl) (gb_ev hact rfl))) rfl rfl ?_; clear hf fa; intro fa hf
          refine sqv hf (r_pickA (b := (numP (bl (s.extract 4 s.size))).2) (e := (decide ((valS y) = s))) rfl rfl rfl) rfl rfl rfl ?_; clear hf fa; intro fa hf
          apply wpList_nil
          (try simp only [Exit.then, Exit.inBlock, ↓reduceIte, Nat.reduceEqDiff])
          refine hK12 _ _ ?_
          refine wp_cond_split (t := ((numP (bl (s.extract 4 s.size))).2 && (decide ((valS y) = s)))) (hf.ev rfl) (fun hqt45_1 => ?_) (fun hqt45_1 => ?_)
          · have hqt45_1b := hqt45_1
            try simp only [decide_eq_true_eq, Bool.and_eq_true, Bool.or_eq_true, Bool.not_eq_true', decide_eq_false_iff_not, ne_eq, Bool.not_eq_true] at hqt45_1
            refine wp_seq_k (fun K13 hK13 => ?_)
            refine wp_region_lit ?_
            refine sqv hf (r_loadA (cs := [(.int .u8 y.1), (.int .u64 y.2.1)]) rfl Try.underlying65 rfl (by kernel_rfl) (cellsAt_blk hk4)) rfl rfl rfl ?_; clear hf fa; intro fa hf
            refine sqn hf (d_storeK (T := 65) (v := (.agg #[(.int .u8 y.1), (.int .u64 y.2.1)])) (cs := #[(.int .u8 (0 : Int)), (.int .u64 (0 : Int))]) (cs' := #[(.int .u8 y.1), (.int .u64 y.2.1)]) rfl rfl (by kernel_rfl) (by kernel_rfl) hkb1 (by kernel_rfl) (by kernel_rfl)) rfl rfl ?_; clear hf fa; rintro fa _ w9 ⟨hk5, hg2⟩ hf
            replace hk4 := blk_grown hk4 hg2 (by omega)
            replace hr1 := Row.grown hr1 hg2 (Row.ne_type hr1 hkb1 rfl)
            replace hb := hb.trans (grown_below hg2 hb.size hBb1)
            refine sqv hf (r_assign rfl) rfl rfl rfl ?_; clear hf fa; intro fa hf
            apply wpList_nil
            (try simp only [Exit.then, Exit.inBlock, ↓reduceIte, Nat.reduceEqDiff])
            refine hK13 _ _ ?_
            refine wp_ret ?_
            (try simp only [Exit.then, Exit.inBlock])
            refine retCT hf rfl rfl hk5 Try.underlying65 rfl (by kernel_rfl) rfl ?_
            have hyT : y.1 = 127 ∧ (y.1 = 127 → y.2.1 < 4294967296) := by
              rw [← hy]; unfold tcutP
              rw [decide_eq_true (by simp only; omega)]; simp only [cond_true]; omega
            have hyR : RightV y := ⟨(vright_iff y).2 (by left; exact ⟨hyT.1, by have h := hyT.2 hyT.1; omega⟩), hyr⟩
            have hfin := rdV_val hyR
            rw [hqt45_1.2] at hfin
            rw [hfin]; exact ⟨rfl, hb⟩
          · have hqt45_1b := hqt45_1
            replace hqt45_1 := Bool.eq_false_iff.1 hqt45_1
            try simp only [ne_eq, decide_eq_true_eq, Bool.and_eq_true, Bool.or_eq_true, Bool.not_eq_true', decide_eq_false_iff_not] at hqt45_1
            refine wp_skip ?_
            (try simp only [Exit.then, Exit.inBlock, ↓reduceIte, Nat.reduceEqDiff])
            refine hK6 _ _ ?_
            refine wp_region_lit ?_
            refine sqv hf (r_move rfl) rfl rfl rfl ?_; clear hf fa; intro fa hf
            refine sqv hf (r_add (C := (((i : Nat) : Int) + (1 : Int))) rfl rfl (by rw [IntKind.wrap_i64]; omega)) rfl rfl rfl ?_; clear hf fa; intro fa hf
            refine sqv hf (r_assign rfl) rfl rfl rfl ?_; clear hf fa; intro fa hf
            apply wpList_nil
            (try simp only [Exit.then, Exit.inBlock, ↓reduceIte, Nat.reduceEqDiff])
            have hlast : ∀ v, RightV v → valS v = s → ¬ v.1 = 127 := by
              intro v hv hvs hT
              obtain ⟨h1, h2, h3, h4⟩ := rd_hit hv hvs
              rw [hT] at h4
              apply hqt45_1
              have hy2 := hy
              rw [h3, show (127 : Int) - ((i : Nat) : Int) = 127 by omega, h4] at hy2
              rw [← hy2, h3]
              exact ⟨rfl, hvs⟩
            refine hKL1 _ _ _ (by omega) ⟨(i + 1), rfl, hf.sub ⟨rfl, (some_int (by first | rfl | omega)), rfl, trivial⟩, hb, hkb1, by omega, (by intro v hv hvs; have h1 := Hn v hv hvs; have h2 := hlast v hv hvs; omega)⟩
      · have hsp1b : decide (i = 0) = false := decide_eq_false hsp1
        have hi1 : i = 1 := by omega
        refine wp_region_lit ?_
        refine sqdt hf (d_bslice (z := (.string ⟨#[]⟩)) (sz := 1) (vs := [(0, (.string ⟨#[105, 51, 50, 58]⟩)), (1, (.string ⟨#[105, 54, 52, 58]⟩))]) (cs := #[(.string ⟨#[105, 51, 50, 58]⟩), (.string ⟨#[105, 54, 52, 58]⟩)]) rfl Try.underlying32 (by kernel_rfl) rfl (by kernel_rfl)) rfl rfl rfl ?_; clear hf fa; rintro fa _ w10 ⟨b4, rfl, hle4, hk6, he7⟩ hf
        have hBb4 : w.heap.size ≤ b4 := Nat.le_trans hb.size hle4
        have : b1 < b4 := Nat.lt_of_lt_of_le (blk_lt hkb1) hle4
        replace hkb1 := blk_ext hkb1 he7
        replace hb := hb.trans (Below.mono he7 hb.size)
        refine sqv hf (r_move rfl) rfl rfl rfl ?_; clear hf fa; intro fa hf
        have hr2 := Row.of_new (k := 1) (V := vStr) (l := [(⟨#[105, 51, 50, 58]⟩ : ByteArray), (⟨#[105, 54, 52, 58]⟩ : ByteArray)]) (base := w.heap.size) hk6 (by omega) rfl rfl (Nat.le_of_ble_eq_true rfl)
        have hy2 : ([(⟨#[105, 51, 50, 58]⟩ : ByteArray), (⟨#[105, 54, 52, 58]⟩ : ByteArray)])[i]? = some (⟨#[105, 54, 52, 58]⟩ : ByteArray) := (by rw [hi1]; rfl)
        have hel2 := RdS.at (Row.rd (by intros; rfl) hr2) hy2
        obtain ⟨_, _, hab, hlr2, hel2⟩ := hel2
        cases hab
        refine sqv hf (r_ixa (sz := 1) (j := i) rfl rfl Try.underlying32 (by kernel_rfl) rfl (by omega) rfl) rfl rfl rfl ?_; clear hf fa; intro fa hf
        refine sqv hf (r_load (v := (.string (⟨#[105, 54, 52, 58]⟩ : ByteArray))) rfl Try.underlying9 rfl (cellsAt_cell hel2 (i := 0) rfl rfl)) rfl rfl rfl ?_; clear hf fa; intro fa hf
        refine sqv hf (r_assign rfl) rfl rfl rfl ?_; clear hf fa; intro fa hf
        apply wpList_nil
        (try simp only [Exit.then, Exit.inBlock, ↓reduceIte, Nat.reduceEqDiff])
        refine hK7 _ _ ?_
        refine wp_seq_k (fun K14 hK14 => ?_)
        refine wp_seq_k (fun K15 hK15 => ?_)
        refine wp_region_lit ?_
        refine sqv hf (r_move rfl) rfl rfl rfl ?_; clear hf fa; intro fa hf
        refine sqv hf (r_lens rfl Try.underlying9) rfl rfl rfl ?_; clear hf fa; intro fa hf
        refine sqv hf (r_lt rfl rfl) rfl rfl rfl ?_; clear hf fa; intro fa hf
        refine sqv hf (r_move rfl) rfl rfl rfl ?_; clear hf fa; intro fa hf
        refine sqgF (act := (!(decide (((s.size : Nat) : Int) < (5 : Int))))) (ag := true) (c := (decide (((s.size : Nat) : Int) < (5 : Int)))) (v := (.string s)) hf rfl rfl rfl (fun hact => (r_move rfl)) rfl rfl ?_; clear hf fa; intro fa hf
        refine sqgF (act := (!(decide (((s.size : Nat) : Int) < (5 : Int))))) (ag := true) (c := (decide (((s.size : Nat) : Int) < (5 : Int)))) (v := (.string (s.extract 0 4))) hf rfl rfl rfl (fun hact => (by have hact0 := hact; (try simp only [Bool.and_eq_true, Bool.not_eq_true', Bool.or_eq_false_iff, Bool.or_eq_true, Bool.and_eq_false_iff, ne_eq, decide_eq_true_eq, decide_eq_false_iff_not] at hact0); exact (r_sslice (a := 0) (b := 4) (k1 := .i64) (k2 := .i64) (A := 0) (B := (4 : Int)) (gb_ev hact rfl) Try.underlying9 (.inl ⟨rfl, rfl⟩) (.inr ⟨_, rfl, rfl, rfl⟩) (by omega) (by omega)))) rfl rfl ?_; clear hf fa; intro fa hf
        refine sqgF (act := (!(decide (((s.size : Nat) : Int) < (5 : Int))))) (ag := true) (c := (decide (((s.size : Nat) : Int) < (5 : Int)))) (v := (.string (⟨#[105, 54, 52, 58]⟩ : ByteArray))) hf rfl rfl rfl (fun hact => (r_move rfl)) rfl rfl ?_; clear hf fa; intro fa hf
        refine sqgF (act := (!(decide (((s.size : Nat) : Int) < (5 : Int))))) (ag := true) (c := (decide (((s.size : Nat) : Int) < (5 : Int)))) (v := (.bool (decide ((s.extract 0 4) ≠ (⟨#[105, 54, 52, 58]⟩ : ByteArray))))) hf rfl rfl rfl (fun hact => (r_sne (gb_ev hact rfl) (gb_ev hact rfl))) rfl rfl ?_; clear hf fa; intro fa hf
        refine sqv hf (r_pickO (b := (decide (((s.size : Nat) : Int) < (5 : Int)))) (e := (decide ((s.extract 0 4) ≠ (⟨#[105, 54, 52, 58]⟩ : ByteArray)))) rfl rfl rfl) rfl rfl rfl ?_; clear hf fa; intro fa hf
        apply wpList_nil
        (try simp only [Exit.then, Exit.inBlock, ↓reduceIte, Nat.reduceEqDiff])
        refine hK15 _ _ ?_
        refine wp_cond_split (t := ((decide (((s.size : Nat) : Int) < (5 : Int))) || (decide ((s.extract 0 4) ≠ (⟨#[105, 54, 52, 58]⟩ : ByteArray))))) (hf.ev rfl) (fun hqt25_2 => ?_) (fun hqt25_2 => ?_)
        · have hqt25_2b := hqt25_2
          try simp only [decide_eq_true_eq, Bool.and_eq_true, Bool.or_eq_true, Bool.not_eq_true', decide_eq_false_iff_not, ne_eq, Bool.not_eq_true] at hqt25_2
          refine wp_exit ?_
          (try simp only [Exit.then, Exit.inBlock, ↓reduceIte, Nat.reduceEqDiff])
          refine hK6 _ _ ?_
          refine wp_region_lit ?_
          refine sqv hf (r_move rfl) rfl rfl rfl ?_; clear hf fa; intro fa hf
          refine sqv hf (r_add (C := (((i : Nat) : Int) + (1 : Int))) rfl rfl (by rw [IntKind.wrap_i64]; omega)) rfl rfl rfl ?_; clear hf fa; intro fa hf
          refine sqv hf (r_assign rfl) rfl rfl rfl ?_; clear hf fa; intro fa hf
          apply wpList_nil
          (try simp only [Exit.then, Exit.inBlock, ↓reduceIte, Nat.reduceEqDiff])
          have hlast : ∀ v, RightV v → valS v = s → ¬ v.1 = 126 := by
            intro v hv hvs hT
            obtain ⟨h1, h2, h3, h4⟩ := rd_hit hv hvs
            rcases hqt25_2 with h | h
            · omega
            · apply h; apply bl_inj; rw [h2, hT]; rfl
          refine hKL1 _ _ _ (by omega) ⟨(i + 1), rfl, hf.sub ⟨rfl, (some_int (by first | rfl | omega)), rfl, trivial⟩, hb, hkb1, by omega, (by intro v hv hvs; have h1 := Hn v hv hvs; have h2 := hlast v hv hvs; omega)⟩
        · have hqt25_2b := hqt25_2
          replace hqt25_2 := Bool.eq_false_iff.1 hqt25_2
          try simp only [ne_eq, decide_eq_true_eq, Bool.and_eq_true, Bool.or_eq_true, Bool.not_eq_true', decide_eq_false_iff_not] at hqt25_2
          refine wp_skip ?_
          (try simp only [Exit.then, Exit.inBlock, ↓reduceIte, Nat.reduceEqDiff])
          refine hK14 _ _ ?_
          refine wp_seq_k (fun K16 hK16 => ?_)
          refine wp_region_lit ?_
          refine sqv hf (r_move rfl) rfl rfl rfl ?_; clear hf fa; intro fa hf
          refine sqv hf (r_sslice (a := 4) (b := s.size) (k1 := .i64) (k2 := .i64) (A := (4 : Int)) (B := 0) rfl Try.underlying9 (.inr ⟨_, rfl, rfl, rfl⟩) (.inl ⟨rfl, rfl⟩) (by omega) (by omega)) rfl rfl rfl ?_; clear hf fa; intro fa hf
          refine sqdt hf (d_callB (vs := [(.string (s.extract 4 s.size))]) rfl Try.func26 (by kernel_rfl) (by kernel_rfl) (rnumber_any (s.extract 4 s.size) _ (by have := sz_ext s 4 s.size (by omega) (by omega); omega))) rfl rfl rfl ?_; clear hf fa; rintro fa _ w11 ⟨rfl, he8⟩ hf
          replace hkb1 := blk_ext hkb1 he8
          replace hr2 := Row.ext hr2 he8
          replace hb := hb.trans (Below.mono he8 hb.size)
          refine sqv hf (r_move rfl) rfl rfl rfl ?_; clear hf fa; intro fa hf
          refine sqv hf (r_extract rfl (i := 0) rfl) rfl rfl rfl ?_; clear hf fa; intro fa hf
          refine sqv hf (r_extract rfl (i := 1) rfl) rfl rfl rfl ?_; clear hf fa; intro fa hf
          refine sqv hf (r_assign rfl) rfl rfl rfl ?_; clear hf fa; intro fa hf
          refine sqv hf (r_assign rfl) rfl rfl rfl ?_; clear hf fa; intro fa hf
          apply wpList_nil
          (try simp only [Exit.then, Exit.inBlock, ↓reduceIte, Nat.reduceEqDiff])
          refine hK16 _ _ ?_
          refine wp_seq_k (fun K17 hK17 => ?_)
          refine wp_region_lit ?_
          refine sqv hf (r_move rfl) rfl rfl rfl ?_; clear hf fa; intro fa hf
          refine sqv hf (r_sub (C := ((127 : Int) - ((i : Nat) : Int))) rfl rfl (by rw [IntKind.wrap_i64]; omega)) rfl rfl rfl ?_; clear hf fa; intro fa hf
          refine sqv hf (r_conv (C := ((127 : Int) - ((i : Nat) : Int))) rfl Try.underlying3 Try.underlying5 (by rw [IntKind.wrap_u8]; omega)) rfl rfl rfl ?_; clear hf fa; intro fa hf
          refine sqv hf (r_move rfl) rfl rfl rfl ?_; clear hf fa; intro fa hf
          refine sqv hf (r_conv (C := (((numP (bl (s.extract 4 s.size))).1 % 18446744073709551616))) rfl Try.underlying3 Try.underlying63 (by rw [IntKind.wrap_u64])) rfl rfl rfl ?_; clear hf fa; intro fa hf
          refine sqv hf (r_build (vs := [(0, (.int .u8 ((127 : Int) - ((i : Nat) : Int)))), (1, (.int .u64 (((numP (bl (s.extract 4 s.size))).1 % 18446744073709551616))))]) (cs := #[(.int .u8 ((127 : Int) - ((i : Nat) : Int))), (.int .u64 (((numP (bl (s.extract 4 s.size))).1 % 18446744073709551616)))]) rfl (fun _ => by kernel_rfl)) rfl rfl rfl ?_; clear hf fa; intro fa hf
          refine sqdt hf (d_callB (v := (.agg #[(.int .u8 y.1), (.int .u64 y.2.1)])) (vs := [(.agg #[(.int .u8 ((127 : Int) - ((i : Nat) : Int))), (.int .u64 (((numP (bl (s.extract 4 s.size))).1 % 18446744073709551616)))])]) rfl Try.func53 (by kernel_rfl) (by kernel_rfl) (by have h := rcut2_any (((127 : Int) - ((i : Nat) : Int)), (((numP (bl (s.extract 4 s.size))).1 % 18446744073709551616)), ()) w11 (by first | exact byte_rng _ | (simp only; omega)) (by simp only; omega); rw [hy] at h; exact h)) rfl rfl rfl ?_; clear hf fa; rintro fa _ w12 ⟨rfl, he9⟩ hf
          replace hkb1 := blk_ext hkb1 he9
          replace hr2 := Row.ext hr2 he9
          replace hb := hb.trans (Below.mono he9 hb.size)
          refine sqdt hf (d_alloc (z := (.agg #[(.int .u8 (0 : Int)), (.int .u64 (0 : Int))])) (cs := #[(.int .u8 (0 : Int)), (.int .u64 (0 : Int))]) (by kernel_rfl) rfl) rfl rfl rfl ?_; clear hf fa; rintro fa _ w13 ⟨b5, rfl, hle5, hk7, he10⟩ hf
          have hBb5 : w.heap.size ≤ b5 := Nat.le_trans hb.size hle5
          have : b1 < b5 := Nat.lt_of_lt_of_le (blk_lt hkb1) hle5
          have : b4 < b5 := Nat.lt_of_lt_of_le (Row.lt hr2 _ rfl).2 hle5
          replace hkb1 := blk_ext hkb1 he10
          replace hr2 := Row.ext hr2 he10
          replace hb := hb.trans (Below.mono he10 hb.size)
          refine sqn hf (d_storeK (T := 65) (v := (.agg #[(.int .u8 y.1), (.int .u64 y.2.1)])) (cs := #[(.int .u8 (0 : Int)), (.int .u64 (0 : Int))]) (cs' := #[(.int .u8 y.1), (.int .u64 y.2.1)]) rfl rfl (by kernel_rfl) (by kernel_rfl) hk7 (by kernel_rfl) (by kernel_rfl)) rfl rfl ?_; clear hf fa; rintro fa _ w14 ⟨hk8, hg3⟩ hf
          replace hkb1 := blk_grown hkb1 hg3 (by omega)
          replace hr2 := Row.grown hr2 hg3 (Row.ne_type hr2 hk7 rfl)
          replace hb := hb.trans (grown_below hg3 hb.size hBb5)
          apply wpList_nil
          (try simp only [Exit.then, Exit.inBlock, ↓reduceIte, Nat.reduceEqDiff])
          refine hK17 _ _ ?_
          refine wp_seq_k (fun K18 hK18 => ?_)
          refine wp_region_lit ?_
          refine sqv hf (r_move rfl) rfl rfl rfl ?_; clear hf fa; intro fa hf
          refine sqv hf (r_move rfl) rfl rfl rfl ?_; clear hf fa; intro fa hf
          refine sqgT (act := (numP (bl (s.extract 4 s.size))).2) (ag := true) (c := (numP (bl (s.extract 4 s.size))).2) (v := (.agg #[(.int .u8 y.1), (.int .u64 y.2.1)])) hf rfl rfl rfl (fun hact => (r_loadA (cs := [(.int .u8 y.1), (.int .u64 y.2.1)]) rfl Try.underlying65 rfl (by kernel_rfl) (cellsAt_blk hk8))) rfl rfl ?_; clear hf fa; intro fa hf
          refine sqgd (R := fun vq wq => vq = gb (numP (bl (s.extract 4 s.size))).2 (.string (valS y)) ∧ Below w14.heap.size w14 wq) (act := (numP (bl (s.extract 4 s.size))).2) (g := 1) (want := true) (ag := true) (c := (numP (bl (s.extract 4 s.size))).2) hf (by rfl) (by rfl) (act_T _ _) (fun hact => (d_callB (vs := [(.agg #[(.int .u8 y.1), (.int .u64 y.2.1)])]) (cons_ev (gb_ev hact rfl) rfl) Try.func35 (by kernel_rfl) (by kernel_rfl) (oprvalue_any y _ hyr.1 hyr.2)).mono (fun _ _ h => ⟨by rw [h.1, hact]; rfl, h.2⟩)) (fun h => ⟨by rw [h]; rfl, Below.refl _ _⟩) rfl ?_; clear hf fa; rintro fa _ w15 ⟨rfl, he11⟩ hf
          replace hkb1 := blk_ext hkb1 he11
          replace hk8 := blk_ext hk8 he11
          replace hr2 := Row.ext hr2 he11
          replace hb := hb.trans (Below.mono he11 hb.size)
          change Fr _ _ ((42, (gb (numP (bl (s.extract 4 s.size))).2 (.string (valS y)))) :: _) at hf
          refine sqgT (act := (numP (bl (s.extract 4 s.size))).2) (ag := true) (c := (numP (bl (s.extract 4 s.size))).2) (v := (.string s)) hf rfl rfl rfl (fun hact => (r_move rfl)) rfl rfl ?_; clear hf fa; intro fa hf
          refine sqgT (act := (numP (bl (s.extract 4 s.size))).2) (ag := true) (c := (numP (bl (s.extract 4 s.size))).2) (v := (.bool (decide ((valS y) = s)))) hf rfl rfl rfl (fun hact => (r_seq (gb_ev hact rfl) (gb_ev hact rfl))) rfl rfl ?_; clear hf fa; intro fa hf
          refine sqv hf (r_pickA (b := (numP (bl (s.extract 4 s.size))).2) (e := (decide ((valS y) = s))) rfl rfl rfl) rfl rfl rfl ?_; clear hf fa; intro fa hf
          apply wpList_nil
          (try simp only [Exit.then, Exit.inBlock, ↓reduceIte, Nat.reduceEqDiff])
          refine hK18 _ _ ?_
          refine wp_cond_split (t := ((numP (bl (s.extract 4 s.size))).2 && (decide ((valS y) = s)))) (hf.ev rfl) (fun hqt45_2 => ?_) (fun hqt45_2 => ?_)
          · have hqt45_2b := hqt45_2
            try simp only [decide_eq_true_eq, Bool.and_eq_true, Bool.or_eq_true, Bool.not_eq_true', decide_eq_false_iff_not, ne_eq, Bool.not_eq_true] at hqt45_2
            refine wp_seq_k (fun K19 hK19 => ?_)
            refine wp_region_lit ?_
            refine sqv hf (r_loadA (cs := [(.int .u8 y.1), (.int .u64 y.2.1)]) rfl Try.underlying65 rfl (by kernel_rfl) (cellsAt_blk hk8)) rfl rfl rfl ?_; clear hf fa; intro fa hf
            refine sqn hf (d_storeK (T := 65) (v := (.agg #[(.int .u8 y.1), (.int .u64 y.2.1)])) (cs := #[(.int .u8 (0 : Int)), (.int .u64 (0 : Int))]) (cs' := #[(.int .u8 y.1), (.int .u64 y.2.1)]) rfl rfl (by kernel_rfl) (by kernel_rfl) hkb1 (by kernel_rfl) (by kernel_rfl)) rfl rfl ?_; clear hf fa; rintro fa _ w16 ⟨hk9, hg4⟩ hf
            replace hk8 := blk_grown hk8 hg4 (by omega)
            replace hr2 := Row.grown hr2 hg4 (Row.ne_type hr2 hkb1 rfl)
            replace hb := hb.trans (grown_below hg4 hb.size hBb1)
            refine sqv hf (r_assign rfl) rfl rfl rfl ?_; clear hf fa; intro fa hf
            apply wpList_nil
            (try simp only [Exit.then, Exit.inBlock, ↓reduceIte, Nat.reduceEqDiff])
            refine hK19 _ _ ?_
            refine wp_ret ?_
            (try simp only [Exit.then, Exit.inBlock])
            refine retCT hf rfl rfl hk9 Try.underlying65 rfl (by kernel_rfl) rfl ?_
            have hyT : y.1 = 126 ∧ (y.1 = 127 → y.2.1 < 4294967296) := by
              rw [← hy]; unfold tcutP
              rw [decide_eq_false (by simp only; omega)]; simp only [cond_false]; omega
            have hyR : RightV y := ⟨(vright_iff y).2 (by right; exact hyT.1), hyr⟩
            have hfin := rdV_val hyR
            rw [hqt45_2.2] at hfin
            rw [hfin]; exact ⟨rfl, hb⟩
          · have hqt45_2b := hqt45_2
            replace hqt45_2 := Bool.eq_false_iff.1 hqt45_2
            try simp only [ne_eq, decide_eq_true_eq, Bool.and_eq_true, Bool.or_eq_true, Bool.not_eq_true', decide_eq_false_iff_not] at hqt45_2
            refine wp_skip ?_
            (try simp only [Exit.then, Exit.inBlock, ↓reduceIte, Nat.reduceEqDiff])
            refine hK6 _ _ ?_
            refine wp_region_lit ?_
            refine sqv hf (r_move rfl) rfl rfl rfl ?_; clear hf fa; intro fa hf
            refine sqv hf (r_add (C := (((i : Nat) : Int) + (1 : Int))) rfl rfl (by rw [IntKind.wrap_i64]; omega)) rfl rfl rfl ?_; clear hf fa; intro fa hf
            refine sqv hf (r_assign rfl) rfl rfl rfl ?_; clear hf fa; intro fa hf
            apply wpList_nil
            (try simp only [Exit.then, Exit.inBlock, ↓reduceIte, Nat.reduceEqDiff])
            have hlast : ∀ v, RightV v → valS v = s → ¬ v.1 = 126 := by
              intro v hv hvs hT
              obtain ⟨h1, h2, h3, h4⟩ := rd_hit hv hvs
              rw [hT] at h4
              apply hqt45_2
              have hy2 := hy
              rw [h3, show (127 : Int) - ((i : Nat) : Int) = 126 by omega, h4] at hy2
              rw [← hy2, h3]
              exact ⟨rfl, hvs⟩
            refine hKL1 _ _ _ (by omega) ⟨(i + 1), rfl, hf.sub ⟨rfl, (some_int (by first | rfl | omega)), rfl, trivial⟩, hb, hkb1, by omega, (by intro v hv hvs; have h1 := Hn v hv hvs; have h2 := hlast v hv hvs; omega)⟩
    · have hqt10_1b := hqt10_1
      replace hqt10_1 := Bool.eq_false_iff.1 hqt10_1
      try simp only [ne_eq, decide_eq_true_eq, Bool.and_eq_true, Bool.or_eq_true, Bool.not_eq_true', decide_eq_false_iff_not] at hqt10_1
      refine wp_exit ?_
      (try simp only [Exit.then, Exit.inBlock, ↓reduceIte, Nat.reduceEqDiff])
      refine hK2 _ _ ?_
      refine wp_seq_k (fun K20 hK20 => ?_)
      refine wp_region_lit ?_
      refine sqv hf (r_build (vs := []) (cs := #[(.int .u8 (0 : Int)), (.int .u64 (0 : Int))]) rfl (fun _ => by kernel_rfl)) rfl rfl rfl ?_; clear hf fa; intro fa hf
      refine sqn hf (d_storeK (T := 65) (v := (.agg #[(.int .u8 (0 : Int)), (.int .u64 (0 : Int))])) (cs := #[(.int .u8 (0 : Int)), (.int .u64 (0 : Int))]) (cs' := #[(.int .u8 (0 : Int)), (.int .u64 (0 : Int))]) rfl rfl (by kernel_rfl) (by kernel_rfl) hkb1 (by kernel_rfl) (by kernel_rfl)) rfl rfl ?_; clear hf fa; rintro fa _ w17 ⟨hk10, hg5⟩ hf
      replace hb := hb.trans (grown_below hg5 hb.size hBb1)
      refine sqv hf (r_assign rfl) rfl rfl rfl ?_; clear hf fa; intro fa hf
      apply wpList_nil
      (try simp only [Exit.then, Exit.inBlock, ↓reduceIte, Nat.reduceEqDiff])
      refine hK20 _ _ ?_
      refine wp_ret ?_
      (try simp only [Exit.then, Exit.inBlock])
      refine retCT hf rfl rfl hk10 Try.underlying65 rfl (by kernel_rfl) rfl ?_
      have hno : (rdV s).2 = false := by
        cases hb2 : (rdV s).2 with
        | false => rfl
        | true => obtain ⟨h1, h2⟩ := rdV_ok hb2; have h3 := Hn _ h1 h2; have h4 := right_T h1; omega
      rw [rdV_no hno]; exact ⟨rfl, hb⟩
end Go.Proofs.Ytpalmpfkliepfaa

namespace Go.Proofs.Ytpalmpfkliepfaa
open Go.RowKit Ut
set_option linter.unusedVariables false
set_option linter.unusedSimpArgs false
theorem nums_nI (s : ByteArray) : nums s = nI (bl s) := by unfold nums nI bl; rw [List.map_map]; rfl
theorem nI_get {L : List Nat} {k cb : Nat} (h : L[k]? = some cb) : (nI L)[k]? = some ((cb : Nat) : Int) := by unfold nI; rw [List.getElem?_map, h]; rfl
theorem nI_app (a b : List Nat) : nI (a ++ b) = nI a ++ nI b := by unfold nI; rw [List.map_append]
theorem nI_len (a : List Nat) : (nI a).length = a.length := nI_length a
theorem hexs_at {j : Nat} (h : j < 16) : sbt ⟨#[48, 49, 50, 51, 52, 53, 54, 55, 56, 57, 97, 98, 99, 100, 101, 102]⟩ j = hx j := by
  have : ∀ x : Fin 16, sbt ⟨#[48, 49, 50, 51, 52, 53, 54, 55, 56, 57, 97, 98, 99, 100, 101, 102]⟩ x.val = hx x.val := by decide +kernel
  exact this ⟨j, h⟩
theorem hxs_byte {L : List Nat} (h : ∀ x ∈ L, x < 256) : ∀ x ∈ hxs L, x < 256 := by
  intro x hx'
  unfold hxs at hx'
  obtain ⟨b, hb, hx'⟩ := List.mem_flatMap.1 hx'
  have h1 := h b hb
  have h2 := hx_lt (n := b / 16) (by omega)
  have h3 := hx_lt (n := b % 16) (by omega)
  simp only [List.mem_cons, List.not_mem_nil, or_false] at hx'
  omega
theorem hexB_byte {L : List Nat} (h : ∀ x ∈ L, x < 256) : ∀ x ∈ hexB L, x < 256 := by
  unfold hexB
  split
  · intro x hx; simp only [List.mem_singleton] at hx; omega
  · exact hxs_byte h
theorem hxs_take {L : List Nat} {k cb : Nat} (h : L[k]? = some cb) : hxs (L.take (k + 1)) = hxs (L.take k) ++ [hx (cb / 16), hx (cb % 16)] := by
  rw [List.take_add_one, h, hxs_app]; rfl
theorem bwrite_x {B b : Nat} {l : List Int} {c : Int} {w : World} (h : BlT B b l w) (hl : l.length < 100000000) (hB : B ≤ w.heap.size) : Calls Try.prog 68 #[.pointer (some ⟨b, 0, none⟩), .int .u8 c] w fun e w' => ∃ v, e = .returned v ∧ (v = .nilIface ∧ BlT B b (l ++ [c]) w' ∧ Below B w w') :=
  (bwrite_any B b l c w h hl hB).mono fun e w' h => ⟨_, h.1, rfl, h.2⟩
theorem bstring_x {B b : Nat} {l : List Nat} {w : World} (h : BlT B b (nI l) w) (hl : ∀ x ∈ l, x < 256) (hB : B ≤ w.heap.size) : Calls Try.prog 69 #[.pointer (some ⟨b, 0, none⟩)] w fun e w' => ∃ v, e = .returned v ∧ (v = .string (strN l) ∧ Below B w w') :=
  (bstring_any B b (nI l) w h (by intro x hx; obtain ⟨y, hy, rfl⟩ := List.mem_map.1 hx; have := hl y hy; omega) hB).mono fun e w' h => ⟨_, h.1, rfl, h.2⟩
theorem and15u {c : Nat} (h : c < 256) : bits BinOp.and .u8 ((c : Nat) : Int) 15 = ((c % 16 : Nat) : Int) := (and_fin ⟨c, h⟩).2.1

set_option maxHeartbeats 1000000 in
set_option maxRecDepth 100000 in
theorem hex_any (L : List Nat) (a : Option Addr) (c : Nat) (w : World) (hL : ∀ x ∈ L, x < 256) (hr : RdS 1 (vInt .u8) w a (nI L)) (hl : L.length ≤ 1000000) : Calls Try.prog 32 #[(.slice a L.length c)] w fun e w' => e = .returned (.string (strN (hexB L))) ∧ Below w.heap.size w w' := by
  refine sx_enter (L := [(0, (.slice a L.length c))]) Try.func32 rfl rfl rfl rfl (fun fa hf => ?_)
  have hb : Below w.heap.size w w := Below.refl _ _
  refine wp_seq_k (fun K1 hK1 => ?_)
  refine wp_region_lit ?_
  refine sqv hf (r_assign rfl) rfl rfl rfl ?_; clear hf fa; intro fa hf
  apply wpList_nil
  (try simp only [Exit.then, Exit.inBlock, ↓reduceIte, Nat.reduceEqDiff])
  refine hK1 _ _ ?_
  refine wp_seq_k (fun K2 hK2 => ?_)
  refine wp_seq_k (fun K3 hK3 => ?_)
  refine wp_region_lit ?_
  refine sqv hf (r_move rfl) rfl rfl rfl ?_; clear hf fa; intro fa hf
  refine sqv hf (r_lensl rfl Try.underlying43) rfl rfl rfl ?_; clear hf fa; intro fa hf
  refine sqv hf (r_eq rfl rfl) rfl rfl rfl ?_; clear hf fa; intro fa hf
  apply wpList_nil
  (try simp only [Exit.then, Exit.inBlock, ↓reduceIte, Nat.reduceEqDiff])
  refine hK3 _ _ ?_
  refine wp_cond_split (t := (decide (((L.length : Nat) : Int) = (0 : Int)))) (hf.ev rfl) (fun hqt8_1 => ?_) (fun hqt8_1 => ?_)
  · have hqt8_1b := hqt8_1
    try simp only [decide_eq_true_eq, Bool.and_eq_true, Bool.or_eq_true, Bool.not_eq_true', decide_eq_false_iff_not, ne_eq, Bool.not_eq_true] at hqt8_1
    refine wp_seq_k (fun K4 hK4 => ?_)
    refine wp_region_lit ?_
    refine sqv hf (r_assign rfl) rfl rfl rfl ?_; clear hf fa; intro fa hf
    apply wpList_nil
    (try simp only [Exit.then, Exit.inBlock, ↓reduceIte, Nat.reduceEqDiff])
    refine hK4 _ _ ?_
    refine wp_ret ?_
    (try simp only [Exit.then, Exit.inBlock])
    refine ret1 hf rfl rfl ?_
    refine ⟨?_, hb⟩; rw [show L = [] from List.length_eq_zero_iff.1 (by omega)]; rfl
  · have hqt8_1b := hqt8_1
    replace hqt8_1 := Bool.eq_false_iff.1 hqt8_1
    try simp only [ne_eq, decide_eq_true_eq, Bool.and_eq_true, Bool.or_eq_true, Bool.not_eq_true', decide_eq_false_iff_not] at hqt8_1
    refine wp_skip ?_
    (try simp only [Exit.then, Exit.inBlock, ↓reduceIte, Nat.reduceEqDiff])
    refine hK2 _ _ ?_
    refine wp_seq_k (fun K5 hK5 => ?_)
    refine wp_region_lit ?_
    refine sqdt hf (d_alloc (z := (.agg #[(.pointer none), (.slice none 0 0)])) (cs := #[(.pointer none), (.slice none 0 0)]) (by kernel_rfl) rfl) rfl rfl rfl ?_; clear hf fa; rintro fa _ w1 ⟨b1, rfl, hle1, hk1, he1⟩ hf
    have hBb1 : w.heap.size ≤ b1 := Nat.le_trans hb.size hle1
    replace hb := hb.trans (Below.mono he1 hb.size)
    apply wpList_nil
    (try simp only [Exit.then, Exit.inBlock, ↓reduceIte, Nat.reduceEqDiff])
    refine hK5 _ _ ?_
    refine wp_seq_k (fun K6 hK6 => ?_)
    refine wp_seq_k (fun K7 hK7 => ?_)
    have hBl0 : BlT w.heap.size b1 [] w1 := BlT.new hBb1 hk1
    refine wp_region_lit ?_
    refine sqv hf (r_move rfl) rfl rfl rfl ?_; clear hf fa; intro fa hf
    refine sqv hf (r_lensl rfl Try.underlying43) rfl rfl rfl ?_; clear hf fa; intro fa hf
    refine sqv hf (r_move rfl) rfl rfl rfl ?_; clear hf fa; intro fa hf
    apply wpList_nil
    (try simp only [Exit.then, Exit.inBlock, ↓reduceIte, Nat.reduceEqDiff])
    refine hK7 _ _ ?_
    refine wp_block ?_
    refine wp_loop_k (fun mq fa wr => ∃ (k : Nat), mq = L.length - k ∧ Fr 25 fa [(3, (.pointer (some ⟨b1, 0, none⟩))), (9, (.slice a L.length c)), (10, (.int .i64 ((L.length : Nat) : Int))), (11, (.int .i64 ((k : Nat) : Int)))] ∧ Below w.heap.size w wr ∧ (k ≤ L.length) ∧ (BlT w.heap.size b1 (nI (hxs (L.take k))) wr)) ?_ ?_
    · skip
      exact ⟨_, 0, rfl, hf.sub ⟨rfl, rfl, rfl, (some_int (by first | rfl | omega)), trivial⟩, hb, by omega, hBl0⟩
    · skip
      clear hf fa; intro mq1 fa w2 hI KL1 hKL1
      clear hb
      obtain ⟨k, hmq1, hf, hb, hk, hBl⟩ := hI
      have hnl := nI_len (hxs (L.take k))
      refine wp_seq_k (fun K8 hK8 => ?_)
      refine wp_region_lit ?_
      refine sqv hf (r_lt rfl rfl) rfl rfl rfl ?_; clear hf fa; intro fa hf
      apply wpList_nil
      (try simp only [Exit.then, Exit.inBlock, ↓reduceIte, Nat.reduceEqDiff])
      refine hK8 _ _ ?_
      refine wp_seq_k (fun K9 hK9 => ?_)
      refine wp_cond_split (t := (decide (((k : Nat) : Int) < ((L.length : Nat) : Int)))) (hf.ev rfl) (fun hqt12_1 => ?_) (fun hqt12_1 => ?_)
      · have hqt12_1b := hqt12_1
        try simp only [decide_eq_true_eq, Bool.and_eq_true, Bool.or_eq_true, Bool.not_eq_true', decide_eq_false_iff_not, ne_eq, Bool.not_eq_true] at hqt12_1
        refine wp_skip ?_
        (try simp only [Exit.then, Exit.inBlock, ↓reduceIte, Nat.reduceEqDiff])
        refine hK9 _ _ ?_
        refine wp_seq_k (fun K10 hK10 => ?_)
        refine wp_block ?_
        refine wp_seq_k (fun K11 hK11 => ?_)
        obtain ⟨cb, hcb⟩ : ∃ x, L[k]? = some x := ⟨_, List.getElem?_eq_getElem (by omega)⟩
        have hcb2 := nI_get hcb
        have hcl : cb < 256 := hL cb (List.mem_of_getElem? hcb)
        refine wp_region_lit ?_
        have hy1 : ((nI L))[k]? = some ((cb : Nat) : Int) := hcb2
        obtain ⟨ab1, aoff1, rfl, hlb1, hel1⟩ := RdS.at hr hy1
        refine sqv hf (r_ixa (sz := 1) (j := k) rfl rfl Try.underlying43 (by kernel_rfl) rfl (by omega) rfl) rfl rfl rfl ?_; clear hf fa; intro fa hf
        refine sqv hf (r_load (v := (.int .u8 ((cb : Nat) : Int))) rfl Try.underlying5 rfl (cellsAt_cell (cellsAt_below hel1 hb hlb1) (i := 0) rfl rfl)) rfl rfl rfl ?_; clear hf fa; intro fa hf
        refine sqv hf (r_assign rfl) rfl rfl rfl ?_; clear hf fa; intro fa hf
        apply wpList_nil
        (try simp only [Exit.then, Exit.inBlock, ↓reduceIte, Nat.reduceEqDiff])
        refine hK11 _ _ ?_
        refine wp_seq_k (fun K12 hK12 => ?_)
        refine wp_region_lit ?_
        refine sqv hf (r_move rfl) rfl rfl rfl ?_; clear hf fa; intro fa hf
        refine sqv hf (r_shr (n := 4) (C := (((cb / 16) : Nat) : Int)) rfl rfl rfl (by rw [show min 4 IntKind.u8.bits = 4 by decide]; rw [Int.fdiv_eq_ediv_of_nonneg _ (by decide)]; omega)) rfl rfl rfl ?_; clear hf fa; intro fa hf
        refine sqv hf (Runs.veq (v' := (.int .u8 (((hx (cb / 16)) : Nat) : Int))) (r_sindexD (j := ((cb / 16))) rfl rfl Try.underlying9 rfl (by have : ((⟨#[48, 49, 50, 51, 52, 53, 54, 55, 56, 57, 97, 98, 99, 100, 101, 102]⟩) : ByteArray).size = 16 := rfl; omega)) (congrArg (fun x : Nat => Value.int .u8 ((x : Nat) : Int)) (hexs_at (by omega)))) rfl rfl rfl ?_; clear hf fa; intro fa hf
        refine sqdt hf (d_callX (vs := [(.pointer (some ⟨b1, 0, none⟩)), (.int .u8 (((hx (cb / 16)) : Nat) : Int))]) rfl Try.func68 (by kernel_rfl) (by kernel_rfl) (bwrite_x hBl (by simp only [List.length_append, List.length_cons, List.length_nil, nI_len, hxs_len, List.length_take]; omega) hb.size)) rfl rfl rfl ?_; clear hf fa; rintro fa _ w3 ⟨rfl, hBl1, he2⟩ hf
        replace hb := hb.trans he2
        apply wpList_nil
        (try simp only [Exit.then, Exit.inBlock, ↓reduceIte, Nat.reduceEqDiff])
        refine hK12 _ _ ?_
        refine wp_region_lit ?_
        refine sqv hf (r_move rfl) rfl rfl rfl ?_; clear hf fa; intro fa hf
        refine sqv hf (r_and (C := (((cb % 16) : Nat) : Int)) rfl rfl (and15u hcl)) rfl rfl rfl ?_; clear hf fa; intro fa hf
        refine sqv hf (Runs.veq (v' := (.int .u8 (((hx (cb % 16)) : Nat) : Int))) (r_sindexD (j := ((cb % 16))) rfl rfl Try.underlying9 rfl (by have : ((⟨#[48, 49, 50, 51, 52, 53, 54, 55, 56, 57, 97, 98, 99, 100, 101, 102]⟩) : ByteArray).size = 16 := rfl; omega)) (congrArg (fun x : Nat => Value.int .u8 ((x : Nat) : Int)) (hexs_at (by omega)))) rfl rfl rfl ?_; clear hf fa; intro fa hf
        refine sqdt hf (d_callX (vs := [(.pointer (some ⟨b1, 0, none⟩)), (.int .u8 (((hx (cb % 16)) : Nat) : Int))]) rfl Try.func68 (by kernel_rfl) (by kernel_rfl) (bwrite_x hBl1 (by simp only [List.length_append, List.length_cons, List.length_nil, nI_len, hxs_len, List.length_take]; omega) hb.size)) rfl rfl rfl ?_; clear hf fa; rintro fa _ w4 ⟨rfl, hBl2, he3⟩ hf
        replace hb := hb.trans he3
        apply wpList_nil
        (try simp only [Exit.then, Exit.inBlock, ↓reduceIte, Nat.reduceEqDiff])
        refine hK10 _ _ ?_
        refine wp_region_lit ?_
        refine sqv hf (r_add (C := (((k : Nat) : Int) + (1 : Int))) rfl rfl (by rw [IntKind.wrap_i64]; omega)) rfl rfl rfl ?_; clear hf fa; intro fa hf
        refine sqv hf (r_move rfl) rfl rfl rfl ?_; clear hf fa; intro fa hf
        apply wpList_nil
        (try simp only [Exit.then, Exit.inBlock, ↓reduceIte, Nat.reduceEqDiff])
        refine hKL1 _ _ _ (by omega) ⟨(k + 1), rfl, hf.sub ⟨rfl, rfl, rfl, (some_int (by first | rfl | omega)), trivial⟩, hb, by omega, (by rw [hxs_take hcb, nI_app]; have h := hBl2; rw [List.append_assoc] at h; exact h)⟩
      · have hqt12_1b := hqt12_1
        replace hqt12_1 := Bool.eq_false_iff.1 hqt12_1
        try simp only [ne_eq, decide_eq_true_eq, Bool.and_eq_true, Bool.or_eq_true, Bool.not_eq_true', decide_eq_false_iff_not] at hqt12_1
        refine wp_exit ?_
        (try simp only [Exit.then, Exit.inBlock, ↓reduceIte, Nat.reduceEqDiff])
        refine hK6 _ _ ?_
        refine wp_seq_k (fun K13 hK13 => ?_)
        have hfb := hxs_byte (L := L.take k) (fun x hx => hL x (List.mem_of_mem_take hx))
        refine wp_region_lit ?_
        refine sqdt hf (d_callX (vs := [(.pointer (some ⟨b1, 0, none⟩))]) rfl Try.func69 (by kernel_rfl) (by kernel_rfl) (bstring_x hBl hfb hb.size)) rfl rfl rfl ?_; clear hf fa; rintro fa _ w5 ⟨rfl, he4⟩ hf
        replace hb := hb.trans he4
        refine sqv hf (r_assign rfl) rfl rfl rfl ?_; clear hf fa; intro fa hf
        apply wpList_nil
        (try simp only [Exit.then, Exit.inBlock, ↓reduceIte, Nat.reduceEqDiff])
        refine hK13 _ _ ?_
        refine wp_ret ?_
        (try simp only [Exit.then, Exit.inBlock])
        refine ret1 hf rfl rfl ?_
        refine ⟨?_, hb⟩; unfold hexB; rw [if_neg (by rintro rfl; simp at *), List.take_of_length_le (by omega)]

set_option maxHeartbeats 1000000 in
set_option maxRecDepth 100000 in
theorem rhex_any (L : List Nat) (a : Option Addr) (c : Nat) (w : World) (hL : ∀ x ∈ L, x < 256) (hr : RdS 1 (vInt .u8) w a (nI L)) (hl : L.length ≤ 1000000) : Calls Try.prog 36 #[(.slice a L.length c)] w fun e w' => e = .returned (.string (strN (hexB L))) ∧ Below w.heap.size w w' := by
  refine sx_enter (L := [(0, (.slice a L.length c))]) Try.func36 rfl rfl rfl rfl (fun fa hf => ?_)
  have hb : Below w.heap.size w w := Below.refl _ _
  refine wp_seq_k (fun K1 hK1 => ?_)
  refine wp_region_lit ?_
  refine sqv hf (r_assign rfl) rfl rfl rfl ?_; clear hf fa; intro fa hf
  apply wpList_nil
  (try simp only [Exit.then, Exit.inBlock, ↓reduceIte, Nat.reduceEqDiff])
  refine hK1 _ _ ?_
  refine wp_seq_k (fun K2 hK2 => ?_)
  refine wp_seq_k (fun K3 hK3 => ?_)
  refine wp_region_lit ?_
  refine sqv hf (r_move rfl) rfl rfl rfl ?_; clear hf fa; intro fa hf
  refine sqv hf (r_lensl rfl Try.underlying43) rfl rfl rfl ?_; clear hf fa; intro fa hf
  refine sqv hf (r_eq rfl rfl) rfl rfl rfl ?_; clear hf fa; intro fa hf
  apply wpList_nil
  (try simp only [Exit.then, Exit.inBlock, ↓reduceIte, Nat.reduceEqDiff])
  refine hK3 _ _ ?_
  refine wp_cond_split (t := (decide (((L.length : Nat) : Int) = (0 : Int)))) (hf.ev rfl) (fun hqt8_1 => ?_) (fun hqt8_1 => ?_)
  · have hqt8_1b := hqt8_1
    try simp only [decide_eq_true_eq, Bool.and_eq_true, Bool.or_eq_true, Bool.not_eq_true', decide_eq_false_iff_not, ne_eq, Bool.not_eq_true] at hqt8_1
    refine wp_seq_k (fun K4 hK4 => ?_)
    refine wp_region_lit ?_
    refine sqv hf (r_assign rfl) rfl rfl rfl ?_; clear hf fa; intro fa hf
    apply wpList_nil
    (try simp only [Exit.then, Exit.inBlock, ↓reduceIte, Nat.reduceEqDiff])
    refine hK4 _ _ ?_
    refine wp_ret ?_
    (try simp only [Exit.then, Exit.inBlock])
    refine ret1 hf rfl rfl ?_
    refine ⟨?_, hb⟩; rw [show L = [] from List.length_eq_zero_iff.1 (by omega)]; rfl
  · have hqt8_1b := hqt8_1
    replace hqt8_1 := Bool.eq_false_iff.1 hqt8_1
    try simp only [ne_eq, decide_eq_true_eq, Bool.and_eq_true, Bool.or_eq_true, Bool.not_eq_true', decide_eq_false_iff_not] at hqt8_1
    refine wp_skip ?_
    (try simp only [Exit.then, Exit.inBlock, ↓reduceIte, Nat.reduceEqDiff])
    refine hK2 _ _ ?_
    refine wp_seq_k (fun K5 hK5 => ?_)
    refine wp_region_lit ?_
    refine sqv hf (r_assign rfl) rfl rfl rfl ?_; clear hf fa; intro fa hf
    apply wpList_nil
    (try simp only [Exit.then, Exit.inBlock, ↓reduceIte, Nat.reduceEqDiff])
    refine hK5 _ _ ?_
    refine wp_seq_k (fun K6 hK6 => ?_)
    refine wp_region_lit ?_
    refine sqv hf (r_assign rfl) rfl rfl rfl ?_; clear hf fa; intro fa hf
    apply wpList_nil
    (try simp only [Exit.then, Exit.inBlock, ↓reduceIte, Nat.reduceEqDiff])
    refine hK6 _ _ ?_
    refine wp_seq_k (fun K7 hK7 => ?_)
    refine wp_seq_k (fun K8 hK8 => ?_)
    refine wp_region_lit ?_
    refine sqv hf (r_assign rfl) rfl rfl rfl ?_; clear hf fa; intro fa hf
    apply wpList_nil
    (try simp only [Exit.then, Exit.inBlock, ↓reduceIte, Nat.reduceEqDiff])
    refine hK8 _ _ ?_
    refine wp_block ?_
    refine wp_loop_k (fun mq fa wr => ∃ (k : Nat) (roa : Option Addr) (roc : Nat), mq = L.length - k ∧ Fr 34 fa [(0, (.slice a L.length c)), (3, (.string ⟨#[48, 49, 50, 51, 52, 53, 54, 55, 56, 57, 97, 98, 99, 100, 101, 102]⟩)), (5, (.int .i64 ((k : Nat) : Int))), (4, (.slice roa (((nI (hxs (L.take k)))).length) roc))] ∧ Below w.heap.size w wr ∧ Row 1 (vInt .u8) 5 (w.heap.size) wr (.slice roa (((nI (hxs (L.take k)))).length) roc) (nI (hxs (L.take k))) ∧ (k ≤ L.length)) ?_ ?_
    · skip
      exact ⟨_, 0, none, 0, rfl, hf.sub ⟨rfl, rfl, (some_int (by first | rfl | omega)), (some_sl (by first | omega | rfl | (simp only [List.length_append, List.length_cons, List.length_nil]; omega) | (simp <;> omega)) rfl), trivial⟩, hb, Row.nil, by omega⟩
    · skip
      clear hf fa; intro mq1 fa w1 hI KL1 hKL1
      clear hb
      obtain ⟨k, roa, roc, hmq1, hf, hb, hro, hk⟩ := hI
      have hcro := Row.caps hro
      have hnl := nI_len (hxs (L.take k)); have hnl2 := hxs_len (L.take k); rw [List.length_take] at hnl2
      refine wp_seq_k (fun K9 hK9 => ?_)
      refine wp_seq_k (fun K10 hK10 => ?_)
      refine wp_region_lit ?_
      refine sqv hf (r_move rfl) rfl rfl rfl ?_; clear hf fa; intro fa hf
      refine sqv hf (r_move rfl) rfl rfl rfl ?_; clear hf fa; intro fa hf
      refine sqv hf (r_lensl rfl Try.underlying43) rfl rfl rfl ?_; clear hf fa; intro fa hf
      refine sqv hf (r_lt rfl rfl) rfl rfl rfl ?_; clear hf fa; intro fa hf
      apply wpList_nil
      (try simp only [Exit.then, Exit.inBlock, ↓reduceIte, Nat.reduceEqDiff])
      refine hK10 _ _ ?_
      refine wp_cond_split (t := (decide (((k : Nat) : Int) < ((L.length : Nat) : Int)))) (hf.ev rfl) (fun hqt12_1 => ?_) (fun hqt12_1 => ?_)
      · have hqt12_1b := hqt12_1
        try simp only [decide_eq_true_eq, Bool.and_eq_true, Bool.or_eq_true, Bool.not_eq_true', decide_eq_false_iff_not, ne_eq, Bool.not_eq_true] at hqt12_1
        refine wp_skip ?_
        (try simp only [Exit.then, Exit.inBlock, ↓reduceIte, Nat.reduceEqDiff])
        refine hK9 _ _ ?_
        refine wp_seq_k (fun K11 hK11 => ?_)
        refine wp_block ?_
        obtain ⟨cb, hcb⟩ : ∃ x, L[k]? = some x := ⟨_, List.getElem?_eq_getElem (by omega)⟩
        have hcb2 := nI_get hcb
        have hcl : cb < 256 := hL cb (List.mem_of_getElem? hcb)
        have hy1 : ((nI L))[k]? = some ((cb : Nat) : Int) := hcb2
        obtain ⟨ab1, aoff1, rfl, hlb1, hel1⟩ := RdS.at hr hy1
        refine wp_region_unT 16 (fun wq => Below w1.heap.size w1 wq) (fun w w' => Below w.heap.size w w')
          (fun V => [(fun x _ => x = (.slice roa (((nI (hxs (L.take k)))).length) roc)), (fun x _ => x = (.string ⟨#[48, 49, 50, 51, 52, 53, 54, 55, 56, 57, 97, 98, 99, 100, 101, 102]⟩)), (fun x _ => x = (.slice (some ⟨ab1, aoff1, none⟩) L.length c)), (fun x _ => x = (.int .i64 ((k : Nat) : Int))), (fun x _ => x = (.pointer (some ⟨ab1, (aoff1 + k * 1), none⟩))), (fun x _ => x = (.int .u8 ((cb : Nat) : Int))), (fun x _ => x = (.int .u8 (((cb / 16) : Nat) : Int))), (fun x _ => x = (.int .u8 (((hx (cb / 16)) : Nat) : Int))), (fun x _ => x = (.string ⟨#[48, 49, 50, 51, 52, 53, 54, 55, 56, 57, 97, 98, 99, 100, 101, 102]⟩)), (fun x _ => x = (.slice (some ⟨ab1, aoff1, none⟩) L.length c)), (fun x _ => x = (.int .i64 ((k : Nat) : Int))), (fun x _ => x = (.pointer (some ⟨ab1, (aoff1 + k * 1), none⟩))), (fun x _ => x = (.int .u8 ((cb : Nat) : Int))), (fun x _ => x = (.int .u8 (((cb % 16) : Nat) : Int))), (fun x _ => x = (.int .u8 (((hx (cb % 16)) : Nat) : Int))), (fun x wq => ∃ b, x = .slice (some ⟨b, 0, none⟩) 2 2 ∧ w1.heap.size ≤ b ∧ wq.heap[b]? = some (.cells #[(.int .u8 (((hx (cb / 16)) : Nat) : Int)), (.int .u8 (((hx (cb % 16)) : Nat) : Int))] 5 (0, 0)))])
          [15]
          [[], [], [], [], [2, 3], [4], [5], [1, 6], [], [], [], [9, 10], [11], [12], [8, 13], [7, 14], [], []]
          hf (by kernel_rfl) (by kernel_rfl) (by kernel_rfl) (fun _ => rfl) ((Below.refl _ _).drew) (fun a b h1 h2 => h1.trans (h2.mono h1.size)) (fun _ _ h => h.size) (fun V => ⟨kept_eq, kept_eq, kept_eq, kept_eq, kept_eq, kept_eq, kept_eq, kept_eq, kept_eq, kept_eq, kept_eq, kept_eq, kept_eq, kept_eq, kept_eq, keptB, trivial⟩) (fun _ _ _ _ _ => rfl) ?_ ?_
        · skip
          intro V
          refine ⟨fun wu0 hC hd => ?_, ?_⟩
          · clear hd
            replace hb := hb.trans (hC.mono hb.size)
            replace hro := Row.ext hro hC
            exact Runs.does (r_move rfl) ⟨Below.refl _ _, rfl, nofr rfl⟩
          refine ⟨fun wu1 hC hd => ?_, ?_⟩
          · clear hd
            replace hb := hb.trans (hC.mono hb.size)
            replace hro := Row.ext hro hC
            exact Runs.does (r_move rfl) ⟨Below.refl _ _, rfl, nofr rfl⟩
          refine ⟨fun wu2 hC hd => ?_, ?_⟩
          · clear hd
            replace hb := hb.trans (hC.mono hb.size)
            replace hro := Row.ext hro hC
            exact Runs.does (r_move rfl) ⟨Below.refl _ _, rfl, nofr rfl⟩
          refine ⟨fun wu3 hC hd => ?_, ?_⟩
          · clear hd
            replace hb := hb.trans (hC.mono hb.size)
            replace hro := Row.ext hro hC
            exact Runs.does (r_move rfl) ⟨Below.refl _ _, rfl, nofr rfl⟩
          refine ⟨fun wu4 hC hd => ?_, ?_⟩
          · obtain ⟨h2, h3, _⟩ := hd
            skip
            skip
            replace h2 : V 2 = (.slice (some ⟨ab1, aoff1, none⟩) L.length c) := h2
            replace h3 : V 3 = (.int .i64 ((k : Nat) : Int)) := h3
            replace hb := hb.trans (hC.mono hb.size)
            replace hro := Row.ext hro hC
            exact Runs.does (r_ixa (sz := 1) (j := k) (congrArg some h2) (congrArg some h3) Try.underlying43 (by kernel_rfl) rfl (by omega) rfl) ⟨Below.refl _ _, rfl, nofr rfl⟩
          refine ⟨fun wu5 hC hd => ?_, ?_⟩
          · obtain ⟨h4, _⟩ := hd
            skip
            replace h4 : V 4 = (.pointer (some ⟨ab1, (aoff1 + k * 1), none⟩)) := h4
            replace hb := hb.trans (hC.mono hb.size)
            replace hro := Row.ext hro hC
            exact Runs.does (r_load (v := (.int .u8 ((cb : Nat) : Int))) (congrArg some h4) Try.underlying5 rfl (cellsAt_cell (cellsAt_below hel1 hb hlb1) (i := 0) rfl rfl)) ⟨Below.refl _ _, rfl, nofr rfl⟩
          refine ⟨fun wu6 hC hd => ?_, ?_⟩
          · obtain ⟨h5, _⟩ := hd
            skip
            replace h5 : V 5 = (.int .u8 ((cb : Nat) : Int)) := h5
            replace hb := hb.trans (hC.mono hb.size)
            replace hro := Row.ext hro hC
            exact Runs.does (r_quo (C := (((cb / 16) : Nat) : Int)) (congrArg some h5) rfl (by omega) (by rw [Int.tdiv_eq_ediv_of_nonneg (by omega), IntKind.wrap_u8]; omega)) ⟨Below.refl _ _, rfl, nofr rfl⟩
          refine ⟨fun wu7 hC hd => ?_, ?_⟩
          · obtain ⟨h1, h6, _⟩ := hd
            skip
            skip
            replace h1 : V 1 = (.string ⟨#[48, 49, 50, 51, 52, 53, 54, 55, 56, 57, 97, 98, 99, 100, 101, 102]⟩) := h1
            replace h6 : V 6 = (.int .u8 (((cb / 16) : Nat) : Int)) := h6
            replace hb := hb.trans (hC.mono hb.size)
            replace hro := Row.ext hro hC
            exact Runs.does (Runs.veq (v' := (.int .u8 (((hx (cb / 16)) : Nat) : Int))) (r_sindexD (j := ((cb / 16))) (congrArg some h1) (congrArg some h6) Try.underlying9 rfl (by have : ((⟨#[48, 49, 50, 51, 52, 53, 54, 55, 56, 57, 97, 98, 99, 100, 101, 102]⟩) : ByteArray).size = 16 := rfl; omega)) (congrArg (fun x : Nat => Value.int .u8 ((x : Nat) : Int)) (hexs_at (by omega)))) ⟨Below.refl _ _, rfl, nofr rfl⟩
          refine ⟨fun wu8 hC hd => ?_, ?_⟩
          · clear hd
            replace hb := hb.trans (hC.mono hb.size)
            replace hro := Row.ext hro hC
            exact Runs.does (r_move rfl) ⟨Below.refl _ _, rfl, nofr rfl⟩
          refine ⟨fun wu9 hC hd => ?_, ?_⟩
          · clear hd
            replace hb := hb.trans (hC.mono hb.size)
            replace hro := Row.ext hro hC
            exact Runs.does (r_move rfl) ⟨Below.refl _ _, rfl, nofr rfl⟩
          refine ⟨fun wu10 hC hd => ?_, ?_⟩
          · clear hd
            replace hb := hb.trans (hC.mono hb.size)
            replace hro := Row.ext hro hC
            exact Runs.does (r_move rfl) ⟨Below.refl _ _, rfl, nofr rfl⟩
          refine ⟨fun wu11 hC hd => ?_, ?_⟩
          · obtain ⟨h9, h10, _⟩ := hd
            skip
            skip
            replace h9 : V 9 = (.slice (some ⟨ab1, aoff1, none⟩) L.length c) := h9
            replace h10 : V 10 = (.int .i64 ((k : Nat) : Int)) := h10
            replace hb := hb.trans (hC.mono hb.size)
            replace hro := Row.ext hro hC
            exact Runs.does (r_ixa (sz := 1) (j := k) (congrArg some h9) (congrArg some h10) Try.underlying43 (by kernel_rfl) rfl (by omega) rfl) ⟨Below.refl _ _, rfl, nofr rfl⟩
          refine ⟨fun wu12 hC hd => ?_, ?_⟩
          · obtain ⟨h11, _⟩ := hd
            skip
            replace h11 : V 11 = (.pointer (some ⟨ab1, (aoff1 + k * 1), none⟩)) := h11
            replace hb := hb.trans (hC.mono hb.size)
            replace hro := Row.ext hro hC
            exact Runs.does (r_load (v := (.int .u8 ((cb : Nat) : Int))) (congrArg some h11) Try.underlying5 rfl (cellsAt_cell (cellsAt_below hel1 hb hlb1) (i := 0) rfl rfl)) ⟨Below.refl _ _, rfl, nofr rfl⟩
          refine ⟨fun wu13 hC hd => ?_, ?_⟩
          · obtain ⟨h12, _⟩ := hd
            skip
            replace h12 : V 12 = (.int .u8 ((cb : Nat) : Int)) := h12
            replace hb := hb.trans (hC.mono hb.size)
            replace hro := Row.ext hro hC
            exact Runs.does (r_rem (C := (((cb % 16) : Nat) : Int)) (congrArg some h12) rfl (by omega) (Int.tmod_eq_emod_of_nonneg (by omega))) ⟨Below.refl _ _, rfl, nofr rfl⟩
          refine ⟨fun wu14 hC hd => ?_, ?_⟩
          · obtain ⟨h8, h13, _⟩ := hd
            skip
            skip
            replace h8 : V 8 = (.string ⟨#[48, 49, 50, 51, 52, 53, 54, 55, 56, 57, 97, 98, 99, 100, 101, 102]⟩) := h8
            replace h13 : V 13 = (.int .u8 (((cb % 16) : Nat) : Int)) := h13
            replace hb := hb.trans (hC.mono hb.size)
            replace hro := Row.ext hro hC
            exact Runs.does (Runs.veq (v' := (.int .u8 (((hx (cb % 16)) : Nat) : Int))) (r_sindexD (j := ((cb % 16))) (congrArg some h8) (congrArg some h13) Try.underlying9 rfl (by have : ((⟨#[48, 49, 50, 51, 52, 53, 54, 55, 56, 57, 97, 98, 99, 100, 101, 102]⟩) : ByteArray).size = 16 := rfl; omega)) (congrArg (fun x : Nat => Value.int .u8 ((x : Nat) : Int)) (hexs_at (by omega)))) ⟨Below.refl _ _, rfl, nofr rfl⟩
          refine ⟨fun wu15 hC hd => ?_, ?_⟩
          · obtain ⟨h7, h14, _⟩ := hd
            skip
            skip
            replace h7 : V 7 = (.int .u8 (((hx (cb / 16)) : Nat) : Int)) := h7
            replace h14 : V 14 = (.int .u8 (((hx (cb % 16)) : Nat) : Int)) := h14
            replace hb := hb.trans (hC.mono hb.size)
            replace hro := Row.ext hro hC
            refine Does.mono (d_bslice (z := (.int .u8 (0 : Int))) (sz := 1) (vs := [(0, (.int .u8 (((hx (cb / 16)) : Nat) : Int))), (1, (.int .u8 (((hx (cb % 16)) : Nat) : Int)))]) (cs := #[(.int .u8 (((hx (cb / 16)) : Nat) : Int)), (.int .u8 (((hx (cb % 16)) : Nat) : Int))]) (show [(0, some (V 7)), (1, some (V 14))] = [(0, some (.int .u8 (((hx (cb / 16)) : Nat) : Int))), (1, some (.int .u8 (((hx (cb % 16)) : Nat) : Int)))] from by rw [h7, h14]) Try.underlying43 (by kernel_rfl) rfl (by kernel_rfl)) ?_
            rintro _ w' ⟨b, rfl, hF⟩
            exact ⟨hF.2.2, ⟨b, rfl, Nat.le_trans hC.size hF.1, hF.2.1⟩, isfr rfl hF.1 (blk_lt hF.2.1)⟩
          trivial
        · skip
          clear hf fa; intro V w2 fa he1 hp hnb hf
          have hv0 : V 0 = (.slice roa (((nI (hxs (L.take k)))).length) roc) := postsHold_at hp 0 rfl
          have hv1 : V 1 = (.string ⟨#[48, 49, 50, 51, 52, 53, 54, 55, 56, 57, 97, 98, 99, 100, 101, 102]⟩) := postsHold_at hp 1 rfl
          have hv2 : V 2 = (.slice (some ⟨ab1, aoff1, none⟩) L.length c) := postsHold_at hp 2 rfl
          have hv3 : V 3 = (.int .i64 ((k : Nat) : Int)) := postsHold_at hp 3 rfl
          have hv4 : V 4 = (.pointer (some ⟨ab1, (aoff1 + k * 1), none⟩)) := postsHold_at hp 4 rfl
          have hv5 : V 5 = (.int .u8 ((cb : Nat) : Int)) := postsHold_at hp 5 rfl
          have hv6 : V 6 = (.int .u8 (((cb / 16) : Nat) : Int)) := postsHold_at hp 6 rfl
          have hv7 : V 7 = (.int .u8 (((hx (cb / 16)) : Nat) : Int)) := postsHold_at hp 7 rfl
          have hv8 : V 8 = (.string ⟨#[48, 49, 50, 51, 52, 53, 54, 55, 56, 57, 97, 98, 99, 100, 101, 102]⟩) := postsHold_at hp 8 rfl
          have hv9 : V 9 = (.slice (some ⟨ab1, aoff1, none⟩) L.length c) := postsHold_at hp 9 rfl
          have hv10 : V 10 = (.int .i64 ((k : Nat) : Int)) := postsHold_at hp 10 rfl
          have hv11 : V 11 = (.pointer (some ⟨ab1, (aoff1 + k * 1), none⟩)) := postsHold_at hp 11 rfl
          have hv12 : V 12 = (.int .u8 ((cb : Nat) : Int)) := postsHold_at hp 12 rfl
          have hv13 : V 13 = (.int .u8 (((cb % 16) : Nat) : Int)) := postsHold_at hp 13 rfl
          have hv14 : V 14 = (.int .u8 (((hx (cb % 16)) : Nat) : Int)) := postsHold_at hp 14 rfl
          have hv15 := postsHold_at hp 15 rfl
          obtain ⟨b1, hv15, hle1, hk1⟩ := hv15
          have hBb1 : w.heap.size ≤ b1 := Nat.le_trans hb.size hle1
          simp only [List.take_succ_cons, List.take_zero, insAll, ins, hv0, hv1, hv2, hv3, hv4, hv5, hv6, hv7, hv8, hv9, hv10, hv11, hv12, hv13, hv14, hv15] at hf
          have hnr1 : (Value.slice roa ((((nI (hxs (L.take k)))).length)) roc).ownBlock ≠ some b1 := fun hq => by have := (Row.lt hro _ hq).2; have := hle1; omega
          clear hp hnb hv0 hv1 hv2 hv3 hv4 hv5 hv6 hv7 hv8 hv9 hv10 hv11 hv12 hv13 hv14 hv15
          replace hro := Row.ext hro he1
          replace hb := hb.trans (Below.mono he1 hb.size)
          simp only [List.drop_succ_cons, List.drop_zero]
          have hs1 := Row.rd (by intros; rfl) (Row.of_new (k := 1) (V := (vInt .u8)) (l := [(((hx (cb / 16)) : Nat) : Int), (((hx (cb % 16)) : Nat) : Int)]) hk1 (Nat.le_refl _) rfl rfl (Nat.le_of_ble_eq_true rfl))
          refine sqdt hf (d_append (V := (vInt .u8)) (k := 1) (e := 5) (bytes := 1) (z := (.int .u8 (0 : Int))) (news := [(((hx (cb / 16)) : Nat) : Int), (((hx (cb % 16)) : Nat) : Int)]) (base := w.heap.size) (by intros; rfl) (by intro x u hu; simp only [vInt, List.mem_singleton] at hu; subst hu; rfl) rfl rfl Try.underlying43 (by kernel_rfl) rfl rfl rfl hro hs1 rfl (fun h => by cases h) (by first | omega | (simp only [List.length_cons, List.length_nil, List.length_append, nums_len]; omega)) (by have := hb.size; omega)) rfl rfl rfl ?_; clear hf fa; rintro fa v w3 ⟨hr1, hg1⟩ hf; obtain ⟨ra1, rc1, rfl, hcrc1, hmrc1⟩ := Row.slice hr1
          replace hb := hb.trans (row_below hro hg1 hb.size (by have := hb.size; omega))
          refine sqv hf (r_assign rfl) rfl rfl rfl ?_; clear hf fa; intro fa hf
          apply wpList_nil
          (try simp only [Exit.then, Exit.inBlock, ↓reduceIte, Nat.reduceEqDiff])
          refine hK11 _ _ ?_
          refine wp_region_lit ?_
          refine sqv hf (r_move rfl) rfl rfl rfl ?_; clear hf fa; intro fa hf
          refine sqv hf (r_add (C := (((k : Nat) : Int) + (1 : Int))) rfl rfl (by rw [IntKind.wrap_i64]; omega)) rfl rfl rfl ?_; clear hf fa; intro fa hf
          refine sqv hf (r_assign rfl) rfl rfl rfl ?_; clear hf fa; intro fa hf
          apply wpList_nil
          (try simp only [Exit.then, Exit.inBlock, ↓reduceIte, Nat.reduceEqDiff])
          have hln9 : (nI (hxs (L.take (k + 1)))).length = (nI (hxs (L.take k)) ++ [((hx (cb / 16) : Nat) : Int), ((hx (cb % 16) : Nat) : Int)]).length := by rw [hxs_take hcb, nI_app]; rfl
          refine hKL1 _ _ _ (by omega) ⟨(k + 1), ra1, rc1, rfl, hf.sub ⟨rfl, rfl, (some_int (by first | rfl | omega)), (some_sl (by first | omega | rfl | (simp only [List.length_append, List.length_cons, List.length_nil]; omega) | (simp <;> omega)) rfl), trivial⟩, hb, (Row.relen (Row.eqL hr1 (by rw [hxs_take hcb, nI_app]; rfl))), by omega⟩
      · have hqt12_1b := hqt12_1
        replace hqt12_1 := Bool.eq_false_iff.1 hqt12_1
        try simp only [ne_eq, decide_eq_true_eq, Bool.and_eq_true, Bool.or_eq_true, Bool.not_eq_true', decide_eq_false_iff_not] at hqt12_1
        refine wp_exit ?_
        (try simp only [Exit.then, Exit.inBlock, ↓reduceIte, Nat.reduceEqDiff])
        refine hK7 _ _ ?_
        refine wp_seq_k (fun K12 hK12 => ?_)
        refine wp_region_lit ?_
        refine sqv hf (r_move rfl) rfl rfl rfl ?_; clear hf fa; intro fa hf
        refine sqv hf (r_rowstr rfl Try.underlying43 Try.underlying5 Try.underlying9 hro) rfl rfl rfl ?_; clear hf fa; intro fa hf
        refine sqv hf (r_assign rfl) rfl rfl rfl ?_; clear hf fa; intro fa hf
        apply wpList_nil
        (try simp only [Exit.then, Exit.inBlock, ↓reduceIte, Nat.reduceEqDiff])
        refine hK12 _ _ ?_
        refine wp_ret ?_
        (try simp only [Exit.then, Exit.inBlock])
        refine ret1 hf rfl rfl ?_
        refine ⟨?_, hb⟩; unfold hexB; rw [if_neg (by rintro rfl; simp at *), List.take_of_length_le (by omega)]; rfl
end Go.Proofs.Ytpalmpfkliepfaa

namespace Go.Proofs.Ytpalmpfkliepfaa
open Go.RowKit Ut
set_option linter.unusedVariables false
set_option linter.unusedSimpArgs false
theorem nib_ge {c : Nat} (h : ¬ nib c < 0) : ∃ x : Nat, nib c = x ∧ x < 16 := by
  have := hx_nib h
  exact ⟨(nib c).toNat, by omega, this.2⟩
theorem dot_iff {s : ByteArray} : s = ⟨#[46]⟩ ↔ bl s = [46] := ⟨fun h => by rw [h]; rfl, fun h => bl_inj h⟩
theorem hexP_dot {s : ByteArray} (h : s = ⟨#[46]⟩) : hexP (bl s) = ([], true) := by rw [h]; rfl
theorem hexR_dot {s : ByteArray} (h : s = ⟨#[46]⟩) : hexR (bl s) = ([], true) := by rw [h]; rfl
theorem hexP_none {s : ByteArray} (h : ¬ s = ⟨#[46]⟩) (h2 : hexL (bl s) = none) : hexP (bl s) = ([], false) := by
  unfold hexP
  rw [if_neg (fun e => h (dot_iff.2 e)), h2]
theorem hexP_out {s : ByteArray} {o : List Nat} (h : ¬ s = ⟨#[46]⟩) (h2 : hexL (bl s) = some o) : hexP (bl s) = (o, (decide ((0 : Int) < ((s.size : Nat) : Int)) && decide ((((s.size : Nat) : Int) % (2 : Int)) = (0 : Int)))) := by
  unfold hexP
  rw [if_neg (fun e => h (dot_iff.2 e)), h2]
  simp only [bl_length]
  congr 2
  · by_cases h3 : 0 < s.size
    · rw [decide_eq_true h3, decide_eq_true (by omega)]
    · rw [decide_eq_false h3, decide_eq_false (by omega)]
  · by_cases h3 : s.size % 2 = 0
    · rw [decide_eq_true h3, decide_eq_true (by omega)]
    · rw [decide_eq_false h3, decide_eq_false (by omega)]
theorem hexL_no {l o : List Nat} {a b : Nat} {r : List Nat} (h : hexL l = (hexL (a :: b :: r)).map (o ++ ·)) (hn : nib a < 0 ∨ nib b < 0) : hexL l = none := by
  rw [h, hexL, if_pos hn]; rfl
theorem hexL_go {l o : List Nat} {a b x1 x2 : Nat} {r : List Nat} (h : hexL l = (hexL (a :: b :: r)).map (o ++ ·)) (h1 : nib a = x1) (h2 : nib b = x2) : hexL l = (hexL r).map ((o ++ [x1 * 16 + x2]) ++ ·) := by
  rw [h, hexL, if_neg (by omega), h1, h2]
  cases hexL r <;> simp
theorem hexL_end {l o r : List Nat} (h : hexL l = (hexL r).map (o ++ ·)) (hr : r.length < 2) : hexL l = some o := by
  rw [h]
  match r, hr with
  | [], _ => simp [hexL]
  | [a], _ => simp [hexL]
theorem hexRL_go {l o : List Nat} {a b : Nat} {r : List Nat} (h : hexRL l = o ++ hexRL (a :: b :: r)) : hexRL l = (o ++ [((rnib a * 16 + rnib b) % 256).toNat]) ++ hexRL r := by rw [h, hexRL]; simp
theorem hexRL_end {l o r : List Nat} (h : hexRL l = o ++ hexRL r) (hr : r.length < 2) : hexRL l = o := by
  rw [h]
  match r, hr with
  | [], _ => simp [hexRL]
  | [a], _ => simp [hexRL]
theorem hexR_out {s : ByteArray} {o : List Nat} (h : ¬ s = ⟨#[46]⟩) (h2 : hexRL (bl s) = o) : hexR (bl s) = if o.length = 0 ∨ strN (hexB o) ≠ s then ([], false) else (o, true) := by
  have ho : ∀ x ∈ o, x < 256 := by rw [← h2]; exact hexRL_lt _ _ (Nat.le_refl _)
  unfold hexR
  rw [if_neg (fun e => h (dot_iff.2 e)), h2]
  have e : (strN (hexB o) ≠ s) = (hexB o ≠ bl s) := by
    apply propext
    constructor
    · intro h3 h4; exact h3 (by rw [h4, strN_bl])
    · intro h3 h4; exact h3 (by rw [← h4, bl_strN _ (hexB_byte ho)])
  have e2 : (o = [] ∨ hexB o ≠ bl s) ↔ (o.length = 0 ∨ strN (hexB o) ≠ s) := by rw [e, List.length_eq_zero_iff]
  by_cases h3 : o = [] ∨ hexB o ≠ bl s
  · rw [if_pos h3, if_pos (e2.1 h3)]
  · rw [if_neg h3, if_neg (fun h4 => h3 (e2.2 h4))]
theorem drop2 {s : ByteArray} {k : Nat} (h : k + 1 < s.size) : (bl s).drop k = sbt s k :: sbt s (k + 1) :: (bl s).drop (k + 2) := by
  rw [bl_dropc s k (by omega), bl_dropc s (k + 1) (by omega)]
theorem rnib_rng {c : Nat} (h : c < 256) : -48 ≤ rnib c ∧ rnib c ≤ 168 := by unfold rnib; split <;> omega
def rhv (j : Nat) (A B : Int) : Int := if j = 0 then 0 else if j = 1 then A else A * 16 + B
theorem rhv_rng {j : Nat} {A B : Int} (hA : -48 ≤ A ∧ A ≤ 168) (hB : -48 ≤ B ∧ B ≤ 168) : -100000 ≤ rhv j A B ∧ rhv j A B ≤ 100000 := by unfold rhv; split; omega; split <;> omega

set_option maxHeartbeats 1000000 in
set_option maxRecDepth 100000 in
theorem readhex_any (s : ByteArray) (w : World) (hs : s.size ≤ 1000000) : Calls Try.prog 29 #[(.string s)] w fun e w' => ∃ v, e = .returned (.tuple #[v, .bool (hexP (bl s)).2]) ∧ Row 1 (vInt .u8) 5 w.heap.size w' v (nI (hexP (bl s)).1) ∧ Below w.heap.size w w' := by
  refine sx_enter (L := [(0, (.string s))]) Try.func29 rfl rfl rfl rfl (fun fa hf => ?_)
  have hb : Below w.heap.size w w := Below.refl _ _
  refine wp_seq_k (fun K1 hK1 => ?_)
  refine wp_region_lit ?_
  refine sqv hf (r_assign rfl) rfl rfl rfl ?_; clear hf fa; intro fa hf
  refine sqv hf (r_assign rfl) rfl rfl rfl ?_; clear hf fa; intro fa hf
  apply wpList_nil
  (try simp only [Exit.then, Exit.inBlock, ↓reduceIte, Nat.reduceEqDiff])
  refine hK1 _ _ ?_
  refine wp_seq_k (fun K2 hK2 => ?_)
  refine wp_seq_k (fun K3 hK3 => ?_)
  refine wp_region_lit ?_
  refine sqv hf (r_move rfl) rfl rfl rfl ?_; clear hf fa; intro fa hf
  refine sqv hf (r_seq rfl rfl) rfl rfl rfl ?_; clear hf fa; intro fa hf
  apply wpList_nil
  (try simp only [Exit.then, Exit.inBlock, ↓reduceIte, Nat.reduceEqDiff])
  refine hK3 _ _ ?_
  refine wp_cond_split (t := (decide (s = ⟨#[46]⟩))) (hf.ev rfl) (fun hqt9_1 => ?_) (fun hqt9_1 => ?_)
  · have hqt9_1b := hqt9_1
    try simp only [decide_eq_true_eq, Bool.and_eq_true, Bool.or_eq_true, Bool.not_eq_true', decide_eq_false_iff_not, ne_eq, Bool.not_eq_true] at hqt9_1
    refine wp_seq_k (fun K4 hK4 => ?_)
    refine wp_region_lit ?_
    refine sqv hf (r_assign rfl) rfl rfl rfl ?_; clear hf fa; intro fa hf
    refine sqv hf (r_assign rfl) rfl rfl rfl ?_; clear hf fa; intro fa hf
    apply wpList_nil
    (try simp only [Exit.then, Exit.inBlock, ↓reduceIte, Nat.reduceEqDiff])
    refine hK4 _ _ ?_
    refine wp_ret ?_
    (try simp only [Exit.then, Exit.inBlock])
    refine ret2 hf rfl rfl rfl ?_
    rw [hexP_dot hqt9_1]; exact ⟨_, rfl, Row.nil, hb⟩
  · have hqt9_1b := hqt9_1
    replace hqt9_1 := Bool.eq_false_iff.1 hqt9_1
    try simp only [ne_eq, decide_eq_true_eq, Bool.and_eq_true, Bool.or_eq_true, Bool.not_eq_true', decide_eq_false_iff_not] at hqt9_1
    refine wp_skip ?_
    (try simp only [Exit.then, Exit.inBlock, ↓reduceIte, Nat.reduceEqDiff])
    refine hK2 _ _ ?_
    refine wp_seq_k (fun K5 hK5 => ?_)
    refine wp_region_lit ?_
    refine sqv hf (r_assign rfl) rfl rfl rfl ?_; clear hf fa; intro fa hf
    apply wpList_nil
    (try simp only [Exit.then, Exit.inBlock, ↓reduceIte, Nat.reduceEqDiff])
    refine hK5 _ _ ?_
    refine wp_seq_k (fun K6 hK6 => ?_)
    refine wp_seq_k (fun K7 hK7 => ?_)
    refine wp_region_lit ?_
    refine sqv hf (r_assign rfl) rfl rfl rfl ?_; clear hf fa; intro fa hf
    apply wpList_nil
    (try simp only [Exit.then, Exit.inBlock, ↓reduceIte, Nat.reduceEqDiff])
    refine hK7 _ _ ?_
    refine wp_block ?_
    refine wp_loop_k (fun mq fa wr => ∃ (k : Nat) (o : List Nat) (roa : Option Addr) (roc : Nat), mq = s.size - k ∧ Fr 50 fa [(0, (.string s)), (5, (.int .i64 ((k : Nat) : Int))), (4, (.slice roa (((nI o)).length) roc))] ∧ Below w.heap.size w wr ∧ Row 1 (vInt .u8) 5 (w.heap.size) wr (.slice roa (((nI o)).length) roc) (nI o) ∧ (k ≤ s.size) ∧ (hexL (bl s) = (hexL ((bl s).drop k)).map (o ++ ·)) ∧ (2 * o.length = k)) ?_ ?_
    · skip
      exact ⟨_, 0, [], none, 0, rfl, hf.sub ⟨rfl, (some_int (by first | rfl | omega)), (some_sl (by first | omega | rfl | (simp only [List.length_append, List.length_cons, List.length_nil]; omega) | (simp <;> omega)) rfl), trivial⟩, hb, Row.nil, by omega, (by simp), rfl⟩
    · skip
      clear hf fa; intro mq1 fa w1 hI KL1 hKL1
      clear hb
      obtain ⟨k, o, roa, roc, hmq1, hf, hb, hro, hk, Hs, hol⟩ := hI
      have hcro := Row.caps hro
      have hno := nI_length o
      refine wp_seq_k (fun K8 hK8 => ?_)
      refine wp_seq_k (fun K9 hK9 => ?_)
      refine wp_region_lit ?_
      refine sqv hf (r_move rfl) rfl rfl rfl ?_; clear hf fa; intro fa hf
      refine sqv hf (r_add (C := (((k : Nat) : Int) + (1 : Int))) rfl rfl (by rw [IntKind.wrap_i64]; omega)) rfl rfl rfl ?_; clear hf fa; intro fa hf
      refine sqv hf (r_move rfl) rfl rfl rfl ?_; clear hf fa; intro fa hf
      refine sqv hf (r_lens rfl Try.underlying9) rfl rfl rfl ?_; clear hf fa; intro fa hf
      refine sqv hf (r_lt rfl rfl) rfl rfl rfl ?_; clear hf fa; intro fa hf
      apply wpList_nil
      (try simp only [Exit.then, Exit.inBlock, ↓reduceIte, Nat.reduceEqDiff])
      refine hK9 _ _ ?_
      refine wp_cond_split (t := (decide ((((k : Nat) : Int) + (1 : Int)) < ((s.size : Nat) : Int)))) (hf.ev rfl) (fun hqt14_1 => ?_) (fun hqt14_1 => ?_)
      · have hqt14_1b := hqt14_1
        try simp only [decide_eq_true_eq, Bool.and_eq_true, Bool.or_eq_true, Bool.not_eq_true', decide_eq_false_iff_not, ne_eq, Bool.not_eq_true] at hqt14_1
        refine wp_skip ?_
        (try simp only [Exit.then, Exit.inBlock, ↓reduceIte, Nat.reduceEqDiff])
        refine hK8 _ _ ?_
        refine wp_seq_k (fun K10 hK10 => ?_)
        refine wp_block ?_
        refine wp_seq_k (fun K11 hK11 => ?_)
        refine wp_region_un (fun wq => Below w1.heap.size w1 wq) (fun w w' => Below w.heap.size w w')
          (fun V => [(fun x _ => x = (.string s)), (fun x _ => x = (.int .i64 ((k : Nat) : Int))), (fun x _ => x = (.int .u8 ((sbt s k : Nat) : Int))), (fun x _ => x = (.int .i64 ((nib (sbt s k))))), (fun x _ => x = (.string s)), (fun x _ => x = (.int .i64 ((k : Nat) : Int))), (fun x _ => x = (.int .i64 (((k : Nat) : Int) + (1 : Int)))), (fun x _ => x = (.int .u8 ((sbt s (k + 1) : Nat) : Int))), (fun x _ => x = (.int .i64 ((nib (sbt s (k + 1)))))), (fun x _ => x = (.int .i64 ((nib (sbt s k))))), (fun x _ => x = (.int .i64 ((nib (sbt s (k + 1))))))])
          []
          [[], [], [0, 1], [2], [], [], [5], [4, 6], [3, 7], [0, 1, 2, 3, 8], [0, 1, 2, 3, 4, 5, 6, 7, 8, 9]]
          hf (by kernel_rfl) (by kernel_rfl) (fun _ => rfl) ((Below.refl _ _).drew) (fun a b h1 h2 => h1.trans (h2.mono h1.size)) (fun _ _ h => h.size) (fun V => ⟨kept_eq, kept_eq, kept_eq, kept_eq, kept_eq, kept_eq, kept_eq, kept_eq, kept_eq, kept_eq, kept_eq, trivial⟩) (fun _ _ _ _ _ => rfl) ?_ ?_
        · skip
          intro V
          refine ⟨fun wu0 hC hd => ?_, ?_⟩
          · clear hd
            replace hb := hb.trans (hC.mono hb.size)
            replace hro := Row.ext hro hC
            exact Runs.does (r_move rfl) ⟨Below.refl _ _, rfl, nofr rfl⟩
          refine ⟨fun wu1 hC hd => ?_, ?_⟩
          · clear hd
            replace hb := hb.trans (hC.mono hb.size)
            replace hro := Row.ext hro hC
            exact Runs.does (r_move rfl) ⟨Below.refl _ _, rfl, nofr rfl⟩
          refine ⟨fun wu2 hC hd => ?_, ?_⟩
          · obtain ⟨h0, h1, _⟩ := hd
            skip
            skip
            replace h0 : V 0 = (.string s) := h0
            replace h1 : V 1 = (.int .i64 ((k : Nat) : Int)) := h1
            replace hb := hb.trans (hC.mono hb.size)
            replace hro := Row.ext hro hC
            exact Runs.does (r_sindexD (j := k) (congrArg some h0) (congrArg some h1) Try.underlying9 rfl (by omega)) ⟨Below.refl _ _, rfl, nofr rfl⟩
          refine ⟨fun wu3 hC hd => ?_, ?_⟩
          · obtain ⟨h2, _⟩ := hd
            skip
            replace h2 : V 2 = (.int .u8 ((sbt s k : Nat) : Int)) := h2
            replace hb := hb.trans (hC.mono hb.size)
            replace hro := Row.ext hro hC
            refine Does.mono (d_callS (vs := [(.int .u8 ((sbt s k : Nat) : Int))]) (show [some (V 2)] = [some (.int .u8 ((sbt s k : Nat) : Int))] from by rw [h2]) Try.func66 (by kernel_rfl) (by kernel_rfl) (nibble_any (sbt s k) (sbt_lt _ _) _)) (fun _ _ h => ⟨h.2 ▸ Below.refl _ _, h.1, nofr rfl⟩)
          refine ⟨fun wu4 hC hd => ?_, ?_⟩
          · clear hd
            replace hb := hb.trans (hC.mono hb.size)
            replace hro := Row.ext hro hC
            exact Runs.does (r_move rfl) ⟨Below.refl _ _, rfl, nofr rfl⟩
          refine ⟨fun wu5 hC hd => ?_, ?_⟩
          · clear hd
            replace hb := hb.trans (hC.mono hb.size)
            replace hro := Row.ext hro hC
            exact Runs.does (r_move rfl) ⟨Below.refl _ _, rfl, nofr rfl⟩
          refine ⟨fun wu6 hC hd => ?_, ?_⟩
          · obtain ⟨h5, _⟩ := hd
            skip
            replace h5 : V 5 = (.int .i64 ((k : Nat) : Int)) := h5
            replace hb := hb.trans (hC.mono hb.size)
            replace hro := Row.ext hro hC
            exact Runs.does (r_add (C := (((k : Nat) : Int) + (1 : Int))) (congrArg some h5) rfl (by rw [IntKind.wrap_i64]; omega)) ⟨Below.refl _ _, rfl, nofr rfl⟩
          refine ⟨fun wu7 hC hd => ?_, ?_⟩
          · obtain ⟨h4, h6, _⟩ := hd
            skip
            skip
            replace h4 : V 4 = (.string s) := h4
            replace h6 : V 6 = (.int .i64 (((k : Nat) : Int) + (1 : Int))) := h6
            replace hb := hb.trans (hC.mono hb.size)
            replace hro := Row.ext hro hC
            exact Runs.does (r_sindexD (j := (k + 1)) (congrArg some h4) (congrArg some h6) Try.underlying9 rfl (by omega)) ⟨Below.refl _ _, rfl, nofr rfl⟩
          refine ⟨fun wu8 hC hd => ?_, ?_⟩
          · obtain ⟨h3, h7, _⟩ := hd
            skip
            skip
            replace h3 : V 3 = (.int .i64 ((nib (sbt s k)))) := h3
            replace h7 : V 7 = (.int .u8 ((sbt s (k + 1) : Nat) : Int)) := h7
            replace hb := hb.trans (hC.mono hb.size)
            replace hro := Row.ext hro hC
            refine Does.mono (d_callS (vs := [(.int .u8 ((sbt s (k + 1) : Nat) : Int))]) (show [some (V 7)] = [some (.int .u8 ((sbt s (k + 1) : Nat) : Int))] from by rw [h7]) Try.func66 (by kernel_rfl) (by kernel_rfl) (nibble_any (sbt s (k + 1)) (sbt_lt _ _) _)) (fun _ _ h => ⟨h.2 ▸ Below.refl _ _, h.1, nofr rfl⟩)
          refine ⟨fun wu9 hC hd => ?_, ?_⟩
          · obtain ⟨h0, h1, h2, h3, h8, _⟩ := hd
            skip
            skip
            skip
            skip
            skip
            replace h0 : V 0 = (.string s) := h0
            replace h1 : V 1 = (.int .i64 ((k : Nat) : Int)) := h1
            replace h2 : V 2 = (.int .u8 ((sbt s k : Nat) : Int)) := h2
            replace h3 : V 3 = (.int .i64 ((nib (sbt s k)))) := h3
            replace h8 : V 8 = (.int .i64 ((nib (sbt s (k + 1))))) := h8
            replace hb := hb.trans (hC.mono hb.size)
            replace hro := Row.ext hro hC
            exact Runs.does (r_assign (congrArg some h3)) ⟨Below.refl _ _, rfl, nofr rfl⟩
          refine ⟨fun wu10 hC hd => ?_, ?_⟩
          · obtain ⟨h0, h1, h2, h3, h4, h5, h6, h7, h8, h9, _⟩ := hd
            skip
            skip
            skip
            skip
            skip
            skip
            skip
            skip
            skip
            skip
            replace h0 : V 0 = (.string s) := h0
            replace h1 : V 1 = (.int .i64 ((k : Nat) : Int)) := h1
            replace h2 : V 2 = (.int .u8 ((sbt s k : Nat) : Int)) := h2
            replace h3 : V 3 = (.int .i64 ((nib (sbt s k)))) := h3
            replace h4 : V 4 = (.string s) := h4
            replace h5 : V 5 = (.int .i64 ((k : Nat) : Int)) := h5
            replace h6 : V 6 = (.int .i64 (((k : Nat) : Int) + (1 : Int))) := h6
            replace h7 : V 7 = (.int .u8 ((sbt s (k + 1) : Nat) : Int)) := h7
            replace h8 : V 8 = (.int .i64 ((nib (sbt s (k + 1))))) := h8
            replace h9 : V 9 = (.int .i64 ((nib (sbt s k)))) := h9
            replace hb := hb.trans (hC.mono hb.size)
            replace hro := Row.ext hro hC
            exact Runs.does (r_assign (congrArg some h8)) ⟨Below.refl _ _, rfl, nofr rfl⟩
          trivial
        · skip
          clear hf fa; intro V w2 fa he1 hp hnb hf
          have hv0 : V 0 = (.string s) := postsHold_at hp 0 rfl
          have hv1 : V 1 = (.int .i64 ((k : Nat) : Int)) := postsHold_at hp 1 rfl
          have hv2 : V 2 = (.int .u8 ((sbt s k : Nat) : Int)) := postsHold_at hp 2 rfl
          have hv3 : V 3 = (.int .i64 ((nib (sbt s k)))) := postsHold_at hp 3 rfl
          have hv4 : V 4 = (.string s) := postsHold_at hp 4 rfl
          have hv5 : V 5 = (.int .i64 ((k : Nat) : Int)) := postsHold_at hp 5 rfl
          have hv6 : V 6 = (.int .i64 (((k : Nat) : Int) + (1 : Int))) := postsHold_at hp 6 rfl
          have hv7 : V 7 = (.int .u8 ((sbt s (k + 1) : Nat) : Int)) := postsHold_at hp 7 rfl
          have hv8 : V 8 = (.int .i64 ((nib (sbt s (k + 1))))) := postsHold_at hp 8 rfl
          have hv9 : V 9 = (.int .i64 ((nib (sbt s k)))) := postsHold_at hp 9 rfl
          have hv10 : V 10 = (.int .i64 ((nib (sbt s (k + 1))))) := postsHold_at hp 10 rfl
          simp only [List.take_succ_cons, List.take_zero, insAll, ins, hv0, hv1, hv2, hv3, hv4, hv5, hv6, hv7, hv8, hv9, hv10] at hf
          clear hp hnb hv0 hv1 hv2 hv3 hv4 hv5 hv6 hv7 hv8 hv9 hv10
          replace hro := Row.ext hro he1
          replace hb := hb.trans (Below.mono he1 hb.size)
          (try simp only [Exit.then, Exit.inBlock, ↓reduceIte, Nat.reduceEqDiff])
          refine hK11 _ _ ?_
          refine wp_seq_k (fun K12 hK12 => ?_)
          refine wp_seq_k (fun K13 hK13 => ?_)
          refine wp_region_lit ?_
          refine sqv hf (r_move rfl) rfl rfl rfl ?_; clear hf fa; intro fa hf
          refine sqv hf (r_lt rfl rfl) rfl rfl rfl ?_; clear hf fa; intro fa hf
          refine sqv hf (r_move rfl) rfl rfl rfl ?_; clear hf fa; intro fa hf
          refine sqgF (act := (!(decide (((nib (sbt s k))) < (0 : Int))))) (ag := true) (c := (decide (((nib (sbt s k))) < (0 : Int)))) (v := (.int .i64 ((nib (sbt s (k + 1)))))) hf rfl rfl rfl (fun hact => (r_move rfl)) rfl rfl ?_; clear hf fa; intro fa hf
          refine sqgF (act := (!(decide (((nib (sbt s k))) < (0 : Int))))) (ag := true) (c := (decide (((nib (sbt s k))) < (0 : Int)))) (v := (.bool (decide (((nib (sbt s (k + 1)))) < (0 : Int))))) hf rfl rfl rfl (fun hact => (r_lt (gb_ev hact rfl) rfl)) rfl rfl ?_; clear hf fa; intro fa hf
          refine sqv hf (r_pickO (b := (decide (((nib (sbt s k))) < (0 : Int)))) (e := (decide (((nib (sbt s (k + 1)))) < (0 : Int)))) rfl rfl rfl) rfl rfl rfl ?_; clear hf fa; intro fa hf
          apply wpList_nil
          (try simp only [Exit.then, Exit.inBlock, ↓reduceIte, Nat.reduceEqDiff])
          refine hK13 _ _ ?_
          refine wp_cond_split (t := ((decide (((nib (sbt s k))) < (0 : Int))) || (decide (((nib (sbt s (k + 1)))) < (0 : Int))))) (hf.ev rfl) (fun hqt31_1 => ?_) (fun hqt31_1 => ?_)
          · have hqt31_1b := hqt31_1
            try simp only [decide_eq_true_eq, Bool.and_eq_true, Bool.or_eq_true, Bool.not_eq_true', decide_eq_false_iff_not, ne_eq, Bool.not_eq_true] at hqt31_1
            refine wp_seq_k (fun K14 hK14 => ?_)
            refine wp_region_lit ?_
            refine sqv hf (r_assign rfl) rfl rfl rfl ?_; clear hf fa; intro fa hf
            refine sqv hf (r_assign rfl) rfl rfl rfl ?_; clear hf fa; intro fa hf
            apply wpList_nil
            (try simp only [Exit.then, Exit.inBlock, ↓reduceIte, Nat.reduceEqDiff])
            refine hK14 _ _ ?_
            refine wp_ret ?_
            (try simp only [Exit.then, Exit.inBlock])
            refine ret2 hf rfl rfl rfl ?_
            rw [hexP_none hqt9_1 (hexL_no (by have h := Hs; rw [drop2 (by omega)] at h; exact h) (by have h := hqt31_1; omega))]; exact ⟨_, rfl, Row.nil, hb⟩
          · have hqt31_1b := hqt31_1
            replace hqt31_1 := Bool.eq_false_iff.1 hqt31_1
            try simp only [ne_eq, decide_eq_true_eq, Bool.and_eq_true, Bool.or_eq_true, Bool.not_eq_true', decide_eq_false_iff_not] at hqt31_1
            refine wp_skip ?_
            (try simp only [Exit.then, Exit.inBlock, ↓reduceIte, Nat.reduceEqDiff])
            refine hK12 _ _ ?_
            obtain ⟨x1, hx1, hx1l⟩ := nib_ge (c := sbt s k) (by have h := hqt31_1; omega)
            obtain ⟨x2, hx2, hx2l⟩ := nib_ge (c := sbt s (k + 1)) (by have h := hqt31_1; omega)
            refine wp_region_lit ?_
            refine sqv hf (r_move rfl) rfl rfl rfl ?_; clear hf fa; intro fa hf
            refine sqv hf (r_move rfl) rfl rfl rfl ?_; clear hf fa; intro fa hf
            refine sqv hf (r_shl (n := 4) (C := (((x1 * 16) : Nat) : Int)) rfl rfl rfl (by rw [hx1, show min 4 IntKind.i64.bits = 4 by decide, IntKind.wrap_i64]; omega)) rfl rfl rfl ?_; clear hf fa; intro fa hf
            refine sqv hf (r_move rfl) rfl rfl rfl ?_; clear hf fa; intro fa hf
            refine sqv hf (r_or (C := (((x1 * 16 + x2) : Nat) : Int)) rfl rfl (by rw [hx2]; exact or_i64 x1 x2 hx1l hx2l)) rfl rfl rfl ?_; clear hf fa; intro fa hf
            refine sqv hf (r_conv (C := (((x1 * 16 + x2) : Nat) : Int)) rfl Try.underlying3 Try.underlying5 (by rw [IntKind.wrap_u8]; omega)) rfl rfl rfl ?_; clear hf fa; intro fa hf
            refine sqdt hf (d_bslice (z := (.int .u8 (0 : Int))) (sz := 1) (vs := [(0, (.int .u8 (((x1 * 16 + x2) : Nat) : Int)))]) (cs := #[(.int .u8 (((x1 * 16 + x2) : Nat) : Int))]) rfl Try.underlying43 (by kernel_rfl) rfl (by kernel_rfl)) rfl rfl rfl ?_; clear hf fa; rintro fa _ w3 ⟨b1, rfl, hle1, hk1, he2⟩ hf
            have hBb1 : w.heap.size ≤ b1 := Nat.le_trans hb.size hle1
            have hnr1 : (Value.slice roa ((((nI o)).length)) roc).ownBlock ≠ some b1 := fun hq => by have := (Row.lt hro _ hq).2; omega
            have hnl1 : ∀ q, (Value.slice roa ((((nI o)).length)) roc).ownBlock = some q → q < b1 := fun q hq => Nat.lt_of_lt_of_le (Row.lt hro q hq).2 hle1
            replace hro := Row.ext hro he2
            replace hb := hb.trans (Below.mono he2 hb.size)
            have hs1 := Row.rd (by intros; rfl) (Row.of_new (k := 1) (V := (vInt .u8)) (l := [(((x1 * 16 + x2) : Nat) : Int)]) hk1 (Nat.le_refl _) rfl rfl (Nat.le_of_ble_eq_true rfl))
            refine sqdt hf (d_append (V := (vInt .u8)) (k := 1) (e := 5) (bytes := 1) (z := (.int .u8 (0 : Int))) (news := [(((x1 * 16 + x2) : Nat) : Int)]) (base := w.heap.size) (by intros; rfl) (by intro x u hu; simp only [vInt, List.mem_singleton] at hu; subst hu; rfl) rfl rfl Try.underlying43 (by kernel_rfl) rfl rfl rfl hro hs1 rfl (fun h => by cases h) (by first | omega | (simp only [List.length_cons, List.length_nil, List.length_append, nums_len]; omega)) (by have := hb.size; omega)) rfl rfl rfl ?_; clear hf fa; rintro fa v w4 ⟨hr1, hg1⟩ hf; obtain ⟨ra1, rc1, rfl, hcrc1, hmrc1⟩ := Row.slice hr1
            replace hb := hb.trans (row_below hro hg1 hb.size (by have := hb.size; omega))
            refine sqv hf (r_assign rfl) rfl rfl rfl ?_; clear hf fa; intro fa hf
            apply wpList_nil
            (try simp only [Exit.then, Exit.inBlock, ↓reduceIte, Nat.reduceEqDiff])
            refine hK10 _ _ ?_
            refine wp_region_lit ?_
            refine sqv hf (r_move rfl) rfl rfl rfl ?_; clear hf fa; intro fa hf
            refine sqv hf (r_add (C := (((k : Nat) : Int) + (2 : Int))) rfl rfl (by rw [IntKind.wrap_i64]; omega)) rfl rfl rfl ?_; clear hf fa; intro fa hf
            refine sqv hf (r_assign rfl) rfl rfl rfl ?_; clear hf fa; intro fa hf
            apply wpList_nil
            (try simp only [Exit.then, Exit.inBlock, ↓reduceIte, Nat.reduceEqDiff])
            refine hKL1 _ _ _ (by omega) ⟨(k + 2), (o ++ [x1 * 16 + x2]), ra1, rc1, rfl, hf.sub ⟨rfl, (some_int (by first | rfl | omega)), (some_sl (by first | omega | rfl | (simp only [List.length_append, List.length_cons, List.length_nil]; omega) | (simp <;> omega)) rfl), trivial⟩, hb, (Row.relen (Row.eqL hr1 (by rw [nI_app]; rfl))), by omega, (by have h := Hs; rw [drop2 (by omega)] at h; exact hexL_go h hx1 hx2), by simp only [List.length_append, List.length_cons, List.length_nil]; omega⟩
      · have hqt14_1b := hqt14_1
        replace hqt14_1 := Bool.eq_false_iff.1 hqt14_1
        try simp only [ne_eq, decide_eq_true_eq, Bool.and_eq_true, Bool.or_eq_true, Bool.not_eq_true', decide_eq_false_iff_not] at hqt14_1
        refine wp_exit ?_
        (try simp only [Exit.then, Exit.inBlock, ↓reduceIte, Nat.reduceEqDiff])
        refine hK6 _ _ ?_
        refine wp_seq_k (fun K15 hK15 => ?_)
        refine wp_region_lit ?_
        refine sqv hf (r_move rfl) rfl rfl rfl ?_; clear hf fa; intro fa hf
        refine sqv hf (r_move rfl) rfl rfl rfl ?_; clear hf fa; intro fa hf
        refine sqv hf (r_lens rfl Try.underlying9) rfl rfl rfl ?_; clear hf fa; intro fa hf
        refine sqv hf (r_gt rfl rfl) rfl rfl rfl ?_; clear hf fa; intro fa hf
        refine sqv hf (r_move rfl) rfl rfl rfl ?_; clear hf fa; intro fa hf
        refine sqgT (act := (decide ((0 : Int) < ((s.size : Nat) : Int)))) (ag := true) (c := (decide ((0 : Int) < ((s.size : Nat) : Int)))) (v := (.string s)) hf rfl rfl rfl (fun hact => (r_move rfl)) rfl rfl ?_; clear hf fa; intro fa hf
        refine sqgT (act := (decide ((0 : Int) < ((s.size : Nat) : Int)))) (ag := true) (c := (decide ((0 : Int) < ((s.size : Nat) : Int)))) (v := (.int .i64 ((s.size : Nat) : Int))) hf rfl rfl rfl (fun hact => (r_lens (gb_ev hact rfl) Try.underlying9)) rfl rfl ?_; clear hf fa; intro fa hf
        refine sqgT (act := (decide ((0 : Int) < ((s.size : Nat) : Int)))) (ag := true) (c := (decide ((0 : Int) < ((s.size : Nat) : Int)))) (v := (.int .i64 (((s.size : Nat) : Int) % (2 : Int)))) hf rfl rfl rfl (fun hact => (by have hact0 := hact; (try simp only [Bool.and_eq_true, Bool.not_eq_true', Bool.or_eq_false_iff, Bool.or_eq_true, Bool.and_eq_false_iff, ne_eq, decide_eq_true_eq, decide_eq_false_iff_not] at hact0); exact (r_rem (C := (((s.size : Nat) : Int) % (2 : Int))) (gb_ev hact rfl) rfl (by omega) (Int.tmod_eq_emod_of_nonneg (by omega))))) rfl rfl ?_; clear hf fa; intro fa hf
        refine sqgT (act := (decide ((0 : Int) < ((s.size : Nat) : Int)))) (ag := true) (c := (decide ((0 : Int) < ((s.size : Nat) : Int)))) (v := (.bool (decide ((((s.size : Nat) : Int) % (2 : Int)) = (0 : Int))))) hf rfl rfl rfl (fun hact => (r_eq (gb_ev hact rfl) rfl)) rfl rfl ?_; clear hf fa; intro fa hf
        refine sqv hf (r_pickA (b := (decide ((0 : Int) < ((s.size : Nat) : Int)))) (e := (decide ((((s.size : Nat) : Int) % (2 : Int)) = (0 : Int)))) rfl rfl rfl) rfl rfl rfl ?_; clear hf fa; intro fa hf
        refine sqv hf (r_assign rfl) rfl rfl rfl ?_; clear hf fa; intro fa hf
        refine sqv hf (r_assign rfl) rfl rfl rfl ?_; clear hf fa; intro fa hf
        apply wpList_nil
        (try simp only [Exit.then, Exit.inBlock, ↓reduceIte, Nat.reduceEqDiff])
        refine hK15 _ _ ?_
        refine wp_ret ?_
        (try simp only [Exit.then, Exit.inBlock])
        refine ret2 hf rfl rfl rfl ?_
        rw [hexP_out hqt9_1 (hexL_end Hs (by rw [List.length_drop, bl_length]; omega))]; exact ⟨_, rfl, hro, hb⟩

set_option maxHeartbeats 1000000 in
set_option maxRecDepth 100000 in
theorem rreadhex_any (s : ByteArray) (w : World) (hs : s.size ≤ 1000000) : Calls Try.prog 30 #[(.string s)] w fun e w' => ∃ v, e = .returned (.tuple #[v, .bool (hexR (bl s)).2]) ∧ Row 1 (vInt .u8) 5 w.heap.size w' v (nI (hexR (bl s)).1) ∧ Below w.heap.size w w' := by
  refine sx_enter (L := [(0, (.string s))]) Try.func30 rfl rfl rfl rfl (fun fa hf => ?_)
  have hb : Below w.heap.size w w := Below.refl _ _
  refine wp_seq_k (fun K1 hK1 => ?_)
  refine wp_region_lit ?_
  refine sqv hf (r_assign rfl) rfl rfl rfl ?_; clear hf fa; intro fa hf
  refine sqv hf (r_assign rfl) rfl rfl rfl ?_; clear hf fa; intro fa hf
  apply wpList_nil
  (try simp only [Exit.then, Exit.inBlock, ↓reduceIte, Nat.reduceEqDiff])
  refine hK1 _ _ ?_
  refine wp_seq_k (fun K2 hK2 => ?_)
  refine wp_seq_k (fun K3 hK3 => ?_)
  refine wp_region_lit ?_
  refine sqv hf (r_move rfl) rfl rfl rfl ?_; clear hf fa; intro fa hf
  refine sqv hf (r_seq rfl rfl) rfl rfl rfl ?_; clear hf fa; intro fa hf
  apply wpList_nil
  (try simp only [Exit.then, Exit.inBlock, ↓reduceIte, Nat.reduceEqDiff])
  refine hK3 _ _ ?_
  refine wp_cond_split (t := (decide (s = ⟨#[46]⟩))) (hf.ev rfl) (fun hqt10_1 => ?_) (fun hqt10_1 => ?_)
  · have hqt10_1b := hqt10_1
    try simp only [decide_eq_true_eq, Bool.and_eq_true, Bool.or_eq_true, Bool.not_eq_true', decide_eq_false_iff_not, ne_eq, Bool.not_eq_true] at hqt10_1
    refine wp_seq_k (fun K4 hK4 => ?_)
    refine wp_region_lit ?_
    refine sqv hf (r_assign rfl) rfl rfl rfl ?_; clear hf fa; intro fa hf
    refine sqv hf (r_assign rfl) rfl rfl rfl ?_; clear hf fa; intro fa hf
    apply wpList_nil
    (try simp only [Exit.then, Exit.inBlock, ↓reduceIte, Nat.reduceEqDiff])
    refine hK4 _ _ ?_
    refine wp_ret ?_
    (try simp only [Exit.then, Exit.inBlock])
    refine ret2 hf rfl rfl rfl ?_
    rw [hexR_dot hqt10_1]; exact ⟨_, rfl, Row.nil, hb⟩
  · have hqt10_1b := hqt10_1
    replace hqt10_1 := Bool.eq_false_iff.1 hqt10_1
    try simp only [ne_eq, decide_eq_true_eq, Bool.and_eq_true, Bool.or_eq_true, Bool.not_eq_true', decide_eq_false_iff_not] at hqt10_1
    refine wp_skip ?_
    (try simp only [Exit.then, Exit.inBlock, ↓reduceIte, Nat.reduceEqDiff])
    refine hK2 _ _ ?_
    refine wp_seq_k (fun K5 hK5 => ?_)
    refine wp_region_lit ?_
    refine sqv hf (r_assign rfl) rfl rfl rfl ?_; clear hf fa; intro fa hf
    apply wpList_nil
    (try simp only [Exit.then, Exit.inBlock, ↓reduceIte, Nat.reduceEqDiff])
    refine hK5 _ _ ?_
    refine wp_seq_k (fun K6 hK6 => ?_)
    refine wp_seq_k (fun K7 hK7 => ?_)
    refine wp_region_lit ?_
    refine sqv hf (r_assign rfl) rfl rfl rfl ?_; clear hf fa; intro fa hf
    apply wpList_nil
    (try simp only [Exit.then, Exit.inBlock, ↓reduceIte, Nat.reduceEqDiff])
    refine hK7 _ _ ?_
    refine wp_block ?_
    refine wp_loop_k (fun mq fa wr => ∃ (k : Nat) (o : List Nat) (roa : Option Addr) (roc : Nat), mq = s.size - k ∧ Fr 56 fa [(0, (.string s)), (5, (.int .i64 ((k : Nat) : Int))), (4, (.slice roa (((nI o)).length) roc))] ∧ Below w.heap.size w wr ∧ Row 1 (vInt .u8) 5 (w.heap.size) wr (.slice roa (((nI o)).length) roc) (nI o) ∧ (k ≤ s.size) ∧ (hexRL (bl s) = o ++ hexRL ((bl s).drop k)) ∧ (2 * o.length = k)) ?_ ?_
    · skip
      exact ⟨_, 0, [], none, 0, rfl, hf.sub ⟨rfl, (some_int (by first | rfl | omega)), (some_sl (by first | omega | rfl | (simp only [List.length_append, List.length_cons, List.length_nil]; omega) | (simp <;> omega)) rfl), trivial⟩, hb, Row.nil, by omega, rfl, rfl⟩
    · skip
      clear hf fa; intro mq1 fa w1 hI KL1 hKL1
      clear hb
      obtain ⟨k, o, roa, roc, hmq1, hf, hb, hro, hk, Hs, hol⟩ := hI
      have hcro := Row.caps hro
      have hno := nI_length o
      refine wp_seq_k (fun K8 hK8 => ?_)
      refine wp_seq_k (fun K9 hK9 => ?_)
      refine wp_region_lit ?_
      refine sqv hf (r_move rfl) rfl rfl rfl ?_; clear hf fa; intro fa hf
      refine sqv hf (r_add (C := (((k : Nat) : Int) + (1 : Int))) rfl rfl (by rw [IntKind.wrap_i64]; omega)) rfl rfl rfl ?_; clear hf fa; intro fa hf
      refine sqv hf (r_move rfl) rfl rfl rfl ?_; clear hf fa; intro fa hf
      refine sqv hf (r_lens rfl Try.underlying9) rfl rfl rfl ?_; clear hf fa; intro fa hf
      refine sqv hf (r_lt rfl rfl) rfl rfl rfl ?_; clear hf fa; intro fa hf
      apply wpList_nil
      (try simp only [Exit.then, Exit.inBlock, ↓reduceIte, Nat.reduceEqDiff])
      refine hK9 _ _ ?_
      refine wp_cond_split (t := (decide ((((k : Nat) : Int) + (1 : Int)) < ((s.size : Nat) : Int)))) (hf.ev rfl) (fun hqt15_1 => ?_) (fun hqt15_1 => ?_)
      · have hqt15_1b := hqt15_1
        try simp only [decide_eq_true_eq, Bool.and_eq_true, Bool.or_eq_true, Bool.not_eq_true', decide_eq_false_iff_not, ne_eq, Bool.not_eq_true] at hqt15_1
        refine wp_skip ?_
        (try simp only [Exit.then, Exit.inBlock, ↓reduceIte, Nat.reduceEqDiff])
        refine hK8 _ _ ?_
        refine wp_seq_k (fun K10 hK10 => ?_)
        refine wp_block ?_
        refine wp_seq_k (fun K11 hK11 => ?_)
        refine wp_region_lit ?_
        refine sqv hf (r_assign rfl) rfl rfl rfl ?_; clear hf fa; intro fa hf
        apply wpList_nil
        (try simp only [Exit.then, Exit.inBlock, ↓reduceIte, Nat.reduceEqDiff])
        refine hK11 _ _ ?_
        refine wp_seq_k (fun K12 hK12 => ?_)
        refine wp_seq_k (fun K13 hK13 => ?_)
        refine wp_region_lit ?_
        refine sqv hf (r_move rfl) rfl rfl rfl ?_; clear hf fa; intro fa hf
        refine sqv hf (r_assign rfl) rfl rfl rfl ?_; clear hf fa; intro fa hf
        apply wpList_nil
        (try simp only [Exit.then, Exit.inBlock, ↓reduceIte, Nat.reduceEqDiff])
        refine hK13 _ _ ?_
        refine wp_block ?_
        refine wp_loop_k (fun mq fa wr => ∃ (j : Nat) (v : Int) (roa : Option Addr) (roc : Nat), mq = 2 - j ∧ Fr 56 fa [(0, (.string s)), (5, (.int .i64 ((k : Nat) : Int))), (6, (.int .i64 v)), (7, (.int .i64 (((k + j) : Nat) : Int))), (4, (.slice roa (((nI o)).length) roc))] ∧ Below w.heap.size w wr ∧ Row 1 (vInt .u8) 5 (w.heap.size) wr (.slice roa (((nI o)).length) roc) (nI o) ∧ (j ≤ 2) ∧ (v = rhv j (rnib (sbt s k)) (rnib (sbt s (k + 1))))) ?_ ?_
        · skip
          exact ⟨_, 0, 0, roa, roc, rfl, hf.sub ⟨rfl, rfl, (some_int (by first | rfl | omega)), (some_int (by first | rfl | omega)), rfl, trivial⟩, hb, (Row.relen hro), by omega, rfl⟩
        · skip
          clear hf fa; intro mq2 fa w2 hI KL2 hKL2
          clear hb
          clear hro
          obtain ⟨j, v, roa, roc, hmq2, hf, hb, hro, hj, hv⟩ := hI
          have hcro := Row.caps hro
          have hvr := rhv_rng (j := j) (rnib_rng (sbt_lt s k)) (rnib_rng (sbt_lt s (k + 1))); rw [← hv] at hvr
          have hsb := sbt_lt s (k + j)
          refine wp_seq_k (fun K14 hK14 => ?_)
          refine wp_seq_k (fun K15 hK15 => ?_)
          refine wp_region_lit ?_
          refine sqv hf (r_move rfl) rfl rfl rfl ?_; clear hf fa; intro fa hf
          refine sqv hf (r_move rfl) rfl rfl rfl ?_; clear hf fa; intro fa hf
          refine sqv hf (r_add (C := (((k : Nat) : Int) + (2 : Int))) rfl rfl (by rw [IntKind.wrap_i64]; omega)) rfl rfl rfl ?_; clear hf fa; intro fa hf
          refine sqv hf (r_lt rfl rfl) rfl rfl rfl ?_; clear hf fa; intro fa hf
          apply wpList_nil
          (try simp only [Exit.then, Exit.inBlock, ↓reduceIte, Nat.reduceEqDiff])
          refine hK15 _ _ ?_
          refine wp_cond_split (t := (decide ((((k + j) : Nat) : Int) < (((k : Nat) : Int) + (2 : Int))))) (hf.ev rfl) (fun hqt22_1 => ?_) (fun hqt22_1 => ?_)
          · have hqt22_1b := hqt22_1
            try simp only [decide_eq_true_eq, Bool.and_eq_true, Bool.or_eq_true, Bool.not_eq_true', decide_eq_false_iff_not, ne_eq, Bool.not_eq_true] at hqt22_1
            refine wp_skip ?_
            (try simp only [Exit.then, Exit.inBlock, ↓reduceIte, Nat.reduceEqDiff])
            refine hK14 _ _ ?_
            refine wp_seq_k (fun K16 hK16 => ?_)
            refine wp_block ?_
            refine wp_seq_k (fun K17 hK17 => ?_)
            refine wp_region_lit ?_
            refine sqv hf (r_move rfl) rfl rfl rfl ?_; clear hf fa; intro fa hf
            refine sqv hf (r_move rfl) rfl rfl rfl ?_; clear hf fa; intro fa hf
            refine sqv hf (r_sindexD (j := ((k + j))) rfl rfl Try.underlying9 rfl (by omega)) rfl rfl rfl ?_; clear hf fa; intro fa hf
            refine sqv hf (r_conv (C := ((sbt s ((k + j)) : Nat) : Int)) rfl Try.underlying5 Try.underlying3 (by rw [IntKind.wrap_i64]; omega)) rfl rfl rfl ?_; clear hf fa; intro fa hf
            refine sqv hf (r_sub (C := (((sbt s ((k + j)) : Nat) : Int) - (48 : Int))) rfl rfl (by rw [IntKind.wrap_i64]; omega)) rfl rfl rfl ?_; clear hf fa; intro fa hf
            refine sqv hf (r_assign rfl) rfl rfl rfl ?_; clear hf fa; intro fa hf
            apply wpList_nil
            (try simp only [Exit.then, Exit.inBlock, ↓reduceIte, Nat.reduceEqDiff])
            refine hK17 _ _ ?_
            refine wp_seq_k (fun K18 hK18 => ?_)
            refine wp_seq_k (fun K19 hK19 => ?_)
            refine wp_region_lit ?_
            refine sqv hf (r_move rfl) rfl rfl rfl ?_; clear hf fa; intro fa hf
            refine sqv hf (r_gt rfl rfl) rfl rfl rfl ?_; clear hf fa; intro fa hf
            apply wpList_nil
            (try simp only [Exit.then, Exit.inBlock, ↓reduceIte, Nat.reduceEqDiff])
            refine hK19 _ _ ?_
            refine wp_cond_split (t := (decide ((9 : Int) < (((sbt s ((k + j)) : Nat) : Int) - (48 : Int))))) (hf.ev rfl) (fun hqt31_1 => ?_) (fun hqt31_1 => ?_)
            · have hqt31_1b := hqt31_1
              try simp only [decide_eq_true_eq, Bool.and_eq_true, Bool.or_eq_true, Bool.not_eq_true', decide_eq_false_iff_not, ne_eq, Bool.not_eq_true] at hqt31_1
              refine wp_region_lit ?_
              refine sqv hf (r_move rfl) rfl rfl rfl ?_; clear hf fa; intro fa hf
              refine sqv hf (r_move rfl) rfl rfl rfl ?_; clear hf fa; intro fa hf
              refine sqv hf (r_sindexD (j := ((k + j))) rfl rfl Try.underlying9 rfl (by omega)) rfl rfl rfl ?_; clear hf fa; intro fa hf
              refine sqv hf (r_conv (C := ((sbt s ((k + j)) : Nat) : Int)) rfl Try.underlying5 Try.underlying3 (by rw [IntKind.wrap_i64]; omega)) rfl rfl rfl ?_; clear hf fa; intro fa hf
              refine sqv hf (r_sub (C := (((sbt s ((k + j)) : Nat) : Int) - (87 : Int))) rfl rfl (by rw [IntKind.wrap_i64]; omega)) rfl rfl rfl ?_; clear hf fa; intro fa hf
              refine sqv hf (r_assign rfl) rfl rfl rfl ?_; clear hf fa; intro fa hf
              apply wpList_nil
              (try simp only [Exit.then, Exit.inBlock, ↓reduceIte, Nat.reduceEqDiff])
              refine hK18 _ _ ?_
              refine wp_region_lit ?_
              refine sqv hf (r_move rfl) rfl rfl rfl ?_; clear hf fa; intro fa hf
              refine sqv hf (r_mul (C := (v * (16 : Int))) rfl rfl (by rw [IntKind.wrap_i64]; omega)) rfl rfl rfl ?_; clear hf fa; intro fa hf
              refine sqv hf (r_move rfl) rfl rfl rfl ?_; clear hf fa; intro fa hf
              refine sqv hf (r_add (C := ((v * (16 : Int)) + (((sbt s ((k + j)) : Nat) : Int) - (87 : Int)))) rfl rfl (by rw [IntKind.wrap_i64]; omega)) rfl rfl rfl ?_; clear hf fa; intro fa hf
              refine sqv hf (r_assign rfl) rfl rfl rfl ?_; clear hf fa; intro fa hf
              apply wpList_nil
              (try simp only [Exit.then, Exit.inBlock, ↓reduceIte, Nat.reduceEqDiff])
              refine hK16 _ _ ?_
              refine wp_region_lit ?_
              refine sqv hf (r_move rfl) rfl rfl rfl ?_; clear hf fa; intro fa hf
              refine sqv hf (r_add (C := ((((k + j) : Nat) : Int) + (1 : Int))) rfl rfl (by rw [IntKind.wrap_i64]; omega)) rfl rfl rfl ?_; clear hf fa; intro fa hf
              refine sqv hf (r_assign rfl) rfl rfl rfl ?_; clear hf fa; intro fa hf
              apply wpList_nil
              (try simp only [Exit.then, Exit.inBlock, ↓reduceIte, Nat.reduceEqDiff])
              have hrn : rnib (sbt s (k + j)) = ((sbt s (k + j) : Nat) : Int) - 87 := by unfold rnib; rw [if_pos (by omega)]
              refine hKL2 _ _ _ (by omega) ⟨(j + 1), ((v * (16 : Int)) + (((sbt s ((k + j)) : Nat) : Int) - (87 : Int))), roa, roc, rfl, hf.sub ⟨rfl, rfl, rfl, (some_int (by first | rfl | omega)), rfl, trivial⟩, hb, (Row.relen hro), by omega, (by rcases (show j = 0 ∨ j = 1 by omega) with rfl | rfl; rw [← hrn, hv]; simp [rhv]; rw [← hrn, hv]; simp [rhv])⟩
            · have hqt31_1b := hqt31_1
              replace hqt31_1 := Bool.eq_false_iff.1 hqt31_1
              try simp only [ne_eq, decide_eq_true_eq, Bool.and_eq_true, Bool.or_eq_true, Bool.not_eq_true', decide_eq_false_iff_not] at hqt31_1
              refine wp_skip ?_
              (try simp only [Exit.then, Exit.inBlock, ↓reduceIte, Nat.reduceEqDiff])
              refine hK18 _ _ ?_
              refine wp_region_lit ?_
              refine sqv hf (r_move rfl) rfl rfl rfl ?_; clear hf fa; intro fa hf
              refine sqv hf (r_mul (C := (v * (16 : Int))) rfl rfl (by rw [IntKind.wrap_i64]; omega)) rfl rfl rfl ?_; clear hf fa; intro fa hf
              refine sqv hf (r_move rfl) rfl rfl rfl ?_; clear hf fa; intro fa hf
              refine sqv hf (r_add (C := ((v * (16 : Int)) + (((sbt s ((k + j)) : Nat) : Int) - (48 : Int)))) rfl rfl (by rw [IntKind.wrap_i64]; omega)) rfl rfl rfl ?_; clear hf fa; intro fa hf
              refine sqv hf (r_assign rfl) rfl rfl rfl ?_; clear hf fa; intro fa hf
              apply wpList_nil
              (try simp only [Exit.then, Exit.inBlock, ↓reduceIte, Nat.reduceEqDiff])
              refine hK16 _ _ ?_
              refine wp_region_lit ?_
              refine sqv hf (r_move rfl) rfl rfl rfl ?_; clear hf fa; intro fa hf
              refine sqv hf (r_add (C := ((((k + j) : Nat) : Int) + (1 : Int))) rfl rfl (by rw [IntKind.wrap_i64]; omega)) rfl rfl rfl ?_; clear hf fa; intro fa hf
              refine sqv hf (r_assign rfl) rfl rfl rfl ?_; clear hf fa; intro fa hf
              apply wpList_nil
              (try simp only [Exit.then, Exit.inBlock, ↓reduceIte, Nat.reduceEqDiff])
              have hrn : rnib (sbt s (k + j)) = ((sbt s (k + j) : Nat) : Int) - 48 := by unfold rnib; rw [if_neg (by omega)]
              refine hKL2 _ _ _ (by omega) ⟨(j + 1), ((v * (16 : Int)) + (((sbt s ((k + j)) : Nat) : Int) - (48 : Int))), roa, roc, rfl, hf.sub ⟨rfl, rfl, rfl, (some_int (by first | rfl | omega)), rfl, trivial⟩, hb, (Row.relen hro), by omega, (by rcases (show j = 0 ∨ j = 1 by omega) with rfl | rfl; rw [← hrn, hv]; simp [rhv]; rw [← hrn, hv]; simp [rhv])⟩
          · have hqt22_1b := hqt22_1
            replace hqt22_1 := Bool.eq_false_iff.1 hqt22_1
            try simp only [ne_eq, decide_eq_true_eq, Bool.and_eq_true, Bool.or_eq_true, Bool.not_eq_true', decide_eq_false_iff_not] at hqt22_1
            refine wp_exit ?_
            (try simp only [Exit.then, Exit.inBlock, ↓reduceIte, Nat.reduceEqDiff])
            refine hK12 _ _ ?_
            have hv2 : v = (rnib (sbt s k)) * 16 + (rnib (sbt s (k + 1))) := by rw [hv, show j = 2 by omega]; rfl
            refine wp_region_lit ?_
            refine sqv hf (r_move rfl) rfl rfl rfl ?_; clear hf fa; intro fa hf
            refine sqv hf (r_move rfl) rfl rfl rfl ?_; clear hf fa; intro fa hf
            refine sqv hf (r_conv (C := ((((((rnib (sbt s k)) * 16 + (rnib (sbt s (k + 1)))) % 256).toNat) : Nat) : Int)) rfl Try.underlying3 Try.underlying5 (by rw [hv2, IntKind.wrap_u8]; omega)) rfl rfl rfl ?_; clear hf fa; intro fa hf
            refine sqdt hf (d_bslice (z := (.int .u8 (0 : Int))) (sz := 1) (vs := [(0, (.int .u8 ((((((rnib (sbt s k)) * 16 + (rnib (sbt s (k + 1)))) % 256).toNat) : Nat) : Int)))]) (cs := #[(.int .u8 ((((((rnib (sbt s k)) * 16 + (rnib (sbt s (k + 1)))) % 256).toNat) : Nat) : Int))]) rfl Try.underlying43 (by kernel_rfl) rfl (by kernel_rfl)) rfl rfl rfl ?_; clear hf fa; rintro fa _ w3 ⟨b1, rfl, hle1, hk1, he1⟩ hf
            have hBb1 : w.heap.size ≤ b1 := Nat.le_trans hb.size hle1
            have hnr1 : (Value.slice roa ((((nI o)).length)) roc).ownBlock ≠ some b1 := fun hq => by have := (Row.lt hro _ hq).2; omega
            have hnl1 : ∀ q, (Value.slice roa ((((nI o)).length)) roc).ownBlock = some q → q < b1 := fun q hq => Nat.lt_of_lt_of_le (Row.lt hro q hq).2 hle1
            replace hro := Row.ext hro he1
            replace hb := hb.trans (Below.mono he1 hb.size)
            have hs1 := Row.rd (by intros; rfl) (Row.of_new (k := 1) (V := (vInt .u8)) (l := [((((((rnib (sbt s k)) * 16 + (rnib (sbt s (k + 1)))) % 256).toNat) : Nat) : Int)]) hk1 (Nat.le_refl _) rfl rfl (Nat.le_of_ble_eq_true rfl))
            refine sqdt hf (d_append (V := (vInt .u8)) (k := 1) (e := 5) (bytes := 1) (z := (.int .u8 (0 : Int))) (news := [((((((rnib (sbt s k)) * 16 + (rnib (sbt s (k + 1)))) % 256).toNat) : Nat) : Int)]) (base := w.heap.size) (by intros; rfl) (by intro x u hu; simp only [vInt, List.mem_singleton] at hu; subst hu; rfl) rfl rfl Try.underlying43 (by kernel_rfl) rfl rfl rfl hro hs1 rfl (fun h => by cases h) (by first | omega | (simp only [List.length_cons, List.length_nil, List.length_append, nums_len]; omega)) (by have := hb.size; omega)) rfl rfl rfl ?_; clear hf fa; rintro fa v w4 ⟨hr1, hg1⟩ hf; obtain ⟨ra1, rc1, rfl, hcrc1, hmrc1⟩ := Row.slice hr1
            replace hb := hb.trans (row_below hro hg1 hb.size (by have := hb.size; omega))
            refine sqv hf (r_assign rfl) rfl rfl rfl ?_; clear hf fa; intro fa hf
            apply wpList_nil
            (try simp only [Exit.then, Exit.inBlock, ↓reduceIte, Nat.reduceEqDiff])
            refine hK10 _ _ ?_
            refine wp_region_lit ?_
            refine sqv hf (r_move rfl) rfl rfl rfl ?_; clear hf fa; intro fa hf
            refine sqv hf (r_add (C := (((k : Nat) : Int) + (2 : Int))) rfl rfl (by rw [IntKind.wrap_i64]; omega)) rfl rfl rfl ?_; clear hf fa; intro fa hf
            refine sqv hf (r_assign rfl) rfl rfl rfl ?_; clear hf fa; intro fa hf
            apply wpList_nil
            (try simp only [Exit.then, Exit.inBlock, ↓reduceIte, Nat.reduceEqDiff])
            refine hKL1 _ _ _ (by omega) ⟨(k + 2), (o ++ [(((rnib (sbt s k)) * 16 + (rnib (sbt s (k + 1)))) % 256).toNat]), ra1, rc1, rfl, hf.sub ⟨rfl, (some_int (by first | rfl | omega)), (some_sl (by first | omega | rfl | (simp only [List.length_append, List.length_cons, List.length_nil]; omega) | (simp <;> omega)) rfl), trivial⟩, hb, (Row.relen (Row.eqL hr1 (by rw [nI_app]; rfl))), by omega, (by have h := Hs; rw [drop2 (by omega)] at h; exact hexRL_go h), by simp only [List.length_append, List.length_cons, List.length_nil]; omega⟩
      · have hqt15_1b := hqt15_1
        replace hqt15_1 := Bool.eq_false_iff.1 hqt15_1
        try simp only [ne_eq, decide_eq_true_eq, Bool.and_eq_true, Bool.or_eq_true, Bool.not_eq_true', decide_eq_false_iff_not] at hqt15_1
        refine wp_exit ?_
        (try simp only [Exit.then, Exit.inBlock, ↓reduceIte, Nat.reduceEqDiff])
        refine hK6 _ _ ?_
        refine wp_seq_k (fun K20 hK20 => ?_)
        refine wp_seq_k (fun K21 hK21 => ?_)
        have hend := hexRL_end Hs (by rw [List.length_drop, bl_length]; omega)
        have hob : ∀ x ∈ o, x < 256 := by rw [← hend]; exact hexRL_lt _ _ (Nat.le_refl _)
        refine wp_region_lit ?_
        refine sqv hf (r_move rfl) rfl rfl rfl ?_; clear hf fa; intro fa hf
        refine sqv hf (r_lensl rfl Try.underlying43) rfl rfl rfl ?_; clear hf fa; intro fa hf
        refine sqv hf (r_eq rfl rfl) rfl rfl rfl ?_; clear hf fa; intro fa hf
        refine sqv hf (r_move rfl) rfl rfl rfl ?_; clear hf fa; intro fa hf
        refine sqgF (act := (!(decide (((((nI o)).length : Nat) : Int) = (0 : Int))))) (ag := true) (c := (decide (((((nI o)).length : Nat) : Int) = (0 : Int)))) (v := (.slice roa (((nI o)).length) roc)) hf rfl rfl rfl (fun hact => (r_move rfl)) rfl rfl ?_; clear hf fa; intro fa hf
        refine sqgd (R := fun vq wq => vq = gb (!(decide (((((nI o)).length : Nat) : Int) = (0 : Int)))) (.string (strN (hexB o))) ∧ Below w1.heap.size w1 wq) (act := (!(decide (((((nI o)).length : Nat) : Int) = (0 : Int))))) (g := 3) (want := false) (ag := true) (c := (decide (((((nI o)).length : Nat) : Int) = (0 : Int)))) hf (by rfl) (by rfl) (act_F _ _) (fun hact => (d_callB (vs := [(.slice roa (((nI o)).length) roc)]) (cons_ev (gb_ev hact rfl) rfl) Try.func36 (by kernel_rfl) (by kernel_rfl) (by have h := rhex_any o roa roc w1 hob (Row.rd (by intros; rfl) hro) (by omega); rw [← nI_length o] at h; exact h)).mono (fun _ _ h => ⟨by rw [h.1, hact]; rfl, h.2⟩)) (fun h => ⟨by rw [h]; rfl, Below.refl _ _⟩) rfl ?_; clear hf fa; rintro fa _ w5 ⟨rfl, he2⟩ hf
        replace hro := Row.ext hro he2
        replace hb := hb.trans (Below.mono he2 hb.size)
        change Fr _ _ ((51, (gb (!(decide (((((nI o)).length : Nat) : Int) = (0 : Int)))) (.string (strN (hexB o))))) :: _) at hf
        refine sqgF (act := (!(decide (((((nI o)).length : Nat) : Int) = (0 : Int))))) (ag := true) (c := (decide (((((nI o)).length : Nat) : Int) = (0 : Int)))) (v := (.string s)) hf rfl rfl rfl (fun hact => (r_move rfl)) rfl rfl ?_; clear hf fa; intro fa hf
        refine sqgF (act := (!(decide (((((nI o)).length : Nat) : Int) = (0 : Int))))) (ag := true) (c := (decide (((((nI o)).length : Nat) : Int) = (0 : Int)))) (v := (.bool (decide ((strN (hexB o)) ≠ s)))) hf rfl rfl rfl (fun hact => (r_sne (gb_ev hact rfl) (gb_ev hact rfl))) rfl rfl ?_; clear hf fa; intro fa hf
        refine sqv hf (r_pickO (b := (decide (((((nI o)).length : Nat) : Int) = (0 : Int)))) (e := (decide ((strN (hexB o)) ≠ s))) rfl rfl rfl) rfl rfl rfl ?_; clear hf fa; intro fa hf
        apply wpList_nil
        (try simp only [Exit.then, Exit.inBlock, ↓reduceIte, Nat.reduceEqDiff])
        refine hK21 _ _ ?_
        refine wp_cond_split (t := ((decide (((((nI o)).length : Nat) : Int) = (0 : Int))) || (decide ((strN (hexB o)) ≠ s)))) (hf.ev rfl) (fun hqt54_1 => ?_) (fun hqt54_1 => ?_)
        · have hqt54_1b := hqt54_1
          try simp only [decide_eq_true_eq, Bool.and_eq_true, Bool.or_eq_true, Bool.not_eq_true', decide_eq_false_iff_not, ne_eq, Bool.not_eq_true] at hqt54_1
          refine wp_seq_k (fun K22 hK22 => ?_)
          refine wp_region_lit ?_
          refine sqv hf (r_assign rfl) rfl rfl rfl ?_; clear hf fa; intro fa hf
          refine sqv hf (r_assign rfl) rfl rfl rfl ?_; clear hf fa; intro fa hf
          apply wpList_nil
          (try simp only [Exit.then, Exit.inBlock, ↓reduceIte, Nat.reduceEqDiff])
          refine hK22 _ _ ?_
          refine wp_ret ?_
          (try simp only [Exit.then, Exit.inBlock])
          refine ret2 hf rfl rfl rfl ?_
          rw [hexR_out hqt10_1 hend]
          rw [if_pos (by rcases hqt54_1 with h | h; exact .inl (by omega); exact .inr h)]; exact ⟨_, rfl, Row.nil, hb⟩
        · have hqt54_1b := hqt54_1
          replace hqt54_1 := Bool.eq_false_iff.1 hqt54_1
          try simp only [ne_eq, decide_eq_true_eq, Bool.and_eq_true, Bool.or_eq_true, Bool.not_eq_true', decide_eq_false_iff_not] at hqt54_1
          refine wp_skip ?_
          (try simp only [Exit.then, Exit.inBlock, ↓reduceIte, Nat.reduceEqDiff])
          refine hK20 _ _ ?_
          refine wp_seq_k (fun K23 hK23 => ?_)
          refine wp_region_lit ?_
          refine sqv hf (r_move rfl) rfl rfl rfl ?_; clear hf fa; intro fa hf
          refine sqv hf (r_assign rfl) rfl rfl rfl ?_; clear hf fa; intro fa hf
          refine sqv hf (r_assign rfl) rfl rfl rfl ?_; clear hf fa; intro fa hf
          apply wpList_nil
          (try simp only [Exit.then, Exit.inBlock, ↓reduceIte, Nat.reduceEqDiff])
          refine hK23 _ _ ?_
          refine wp_ret ?_
          (try simp only [Exit.then, Exit.inBlock])
          refine ret2 hf rfl rfl rfl ?_
          rw [hexR_out hqt10_1 hend]
          rw [if_neg (by rintro (h | h); exact hqt54_1 (.inl (by omega)); exact hqt54_1 (.inr h))]; exact ⟨_, rfl, hro, hb⟩
end Go.Proofs.Ytpalmpfkliepfaa

namespace Go.Proofs.Ytpalmpfkliepfaa
open Go.RowKit Ut
set_option linter.unusedVariables false
set_option linter.unusedSimpArgs false
def wordS (k : Int) : ByteArray := if k = 1 then ⟨#[97, 100, 100]⟩ else if k = 2 then ⟨#[108, 111, 97, 100]⟩ else if k = 3 then ⟨#[117, 110, 108, 111, 97, 100]⟩ else if k = 4 then ⟨#[115, 119, 97, 112]⟩ else if k = 5 then ⟨#[99, 97, 108, 108]⟩ else if k = 6 then ⟨#[108, 111, 111, 107, 117, 112]⟩ else if k = 7 then ⟨#[99, 111, 117, 110, 116]⟩ else if k = 8 then ⟨#[112, 101, 101, 107]⟩ else if k = 9 then ⟨#[108, 105, 115, 116]⟩ else ⟨#[]⟩
def formS (k : Int) : ByteArray := if k = 1 then ⟨#[115, 100]⟩ else if k = 2 then ⟨#[115]⟩ else if k = 3 then ⟨#[110]⟩ else if k = 4 then ⟨#[110, 115, 110, 115]⟩ else if k = 5 then ⟨#[110, 115, 97]⟩ else if k = 6 then ⟨#[110, 115]⟩ else if k = 7 then ⟨#[110]⟩ else if k = 8 then ⟨#[110, 110]⟩ else if k = 9 then ⟨#[]⟩ else ⟨#[]⟩
theorem form_cases (k : Int) : ((k < 1 ∨ 9 < k) ∧ wordS k = ⟨#[]⟩ ∧ formS k = ⟨#[]⟩) ∨ k = 1 ∨ k = 2 ∨ k = 3 ∨ k = 4 ∨ k = 5 ∨ k = 6 ∨ k = 7 ∨ k = 8 ∨ k = 9 := by
  by_cases h : k < 1 ∨ 9 < k
  · left
    refine ⟨h, ?_, ?_⟩
    · unfold wordS; rw [if_neg (by omega), if_neg (by omega), if_neg (by omega), if_neg (by omega), if_neg (by omega), if_neg (by omega), if_neg (by omega), if_neg (by omega), if_neg (by omega)]
    · unfold formS; rw [if_neg (by omega), if_neg (by omega), if_neg (by omega), if_neg (by omega), if_neg (by omega), if_neg (by omega), if_neg (by omega), if_neg (by omega), if_neg (by omega)]
  · right; omega
theorem word_len (k : Int) : (wordS k).size ≤ 6 ∧ (formS k).size ≤ 4 := by
  rcases form_cases k with ⟨_, h1, h2⟩ | rfl | rfl | rfl | rfl | rfl | rfl | rfl | rfl | rfl
  · rw [h1, h2]; decide
  all_goals decide

theorem form_no (k : Int) (h : k < 1 ∨ 9 < k) : wordS k = ⟨#[]⟩ := by rcases form_cases k with ⟨_, h1, _⟩ | h2; exact h1; omega
theorem formf_no (k : Int) (h : k < 1 ∨ 9 < k) : formS k = ⟨#[]⟩ := by rcases form_cases k with ⟨_, _, h1⟩ | h2; exact h1; omega

def vPair (x : ByteArray × ByteArray) : List Value := [.string x.1, .string x.2]
theorem form_row (k : Int) (h : 1 ≤ k ∧ k ≤ 9) : ([((⟨#[]⟩ : ByteArray), (⟨#[]⟩ : ByteArray)), ((⟨#[97, 100, 100]⟩ : ByteArray), (⟨#[115, 100]⟩ : ByteArray)), ((⟨#[108, 111, 97, 100]⟩ : ByteArray), (⟨#[115]⟩ : ByteArray)), ((⟨#[117, 110, 108, 111, 97, 100]⟩ : ByteArray), (⟨#[110]⟩ : ByteArray)), ((⟨#[115, 119, 97, 112]⟩ : ByteArray), (⟨#[110, 115, 110, 115]⟩ : ByteArray)), ((⟨#[99, 97, 108, 108]⟩ : ByteArray), (⟨#[110, 115, 97]⟩ : ByteArray)), ((⟨#[108, 111, 111, 107, 117, 112]⟩ : ByteArray), (⟨#[110, 115]⟩ : ByteArray)), ((⟨#[99, 111, 117, 110, 116]⟩ : ByteArray), (⟨#[110]⟩ : ByteArray)), ((⟨#[112, 101, 101, 107]⟩ : ByteArray), (⟨#[110, 110]⟩ : ByteArray)), ((⟨#[108, 105, 115, 116]⟩ : ByteArray), (⟨#[]⟩ : ByteArray))] : List (ByteArray × ByteArray))[(k).toNat]? = some (wordS k, formS k) ∧ ([(⟨#[]⟩ : ByteArray), (⟨#[97, 100, 100]⟩ : ByteArray), (⟨#[108, 111, 97, 100]⟩ : ByteArray), (⟨#[117, 110, 108, 111, 97, 100]⟩ : ByteArray), (⟨#[115, 119, 97, 112]⟩ : ByteArray), (⟨#[99, 97, 108, 108]⟩ : ByteArray), (⟨#[108, 111, 111, 107, 117, 112]⟩ : ByteArray), (⟨#[99, 111, 117, 110, 116]⟩ : ByteArray), (⟨#[112, 101, 101, 107]⟩ : ByteArray), (⟨#[108, 105, 115, 116]⟩ : ByteArray)] : List ByteArray)[(k).toNat]? = some (wordS k) ∧ ([(⟨#[]⟩ : ByteArray), (⟨#[115, 100]⟩ : ByteArray), (⟨#[115]⟩ : ByteArray), (⟨#[110]⟩ : ByteArray), (⟨#[110, 115, 110, 115]⟩ : ByteArray), (⟨#[110, 115, 97]⟩ : ByteArray), (⟨#[110, 115]⟩ : ByteArray), (⟨#[110]⟩ : ByteArray), (⟨#[110, 110]⟩ : ByteArray), (⟨#[]⟩ : ByteArray)] : List ByteArray)[(k).toNat]? = some (formS k) := by
  rcases form_cases k with ⟨h0, _, _⟩ | rfl | rfl | rfl | rfl | rfl | rfl | rfl | rfl | rfl
  · omega
  all_goals exact ⟨rfl, rfl, rfl⟩

set_option maxHeartbeats 1000000 in
set_option maxRecDepth 100000 in
theorem form_any (k : Int) (w : World) : Calls Try.prog 17 #[(.int .i64 k)] w fun e w' => e = .returned (.tuple #[.string (wordS k), .string (formS k)]) ∧ Below w.heap.size w w' := by
  refine sx_enter (L := [(0, (.int .i64 k))]) Try.func17 rfl rfl rfl rfl (fun fa hf => ?_)
  have hb : Below w.heap.size w w := Below.refl _ _
  refine wp_seq_k (fun K1 hK1 => ?_)
  refine wp_region_lit ?_
  refine sqv hf (r_assign rfl) rfl rfl rfl ?_; clear hf fa; intro fa hf
  refine sqv hf (r_assign rfl) rfl rfl rfl ?_; clear hf fa; intro fa hf
  apply wpList_nil
  (try simp only [Exit.then, Exit.inBlock, ↓reduceIte, Nat.reduceEqDiff])
  refine hK1 _ _ ?_
  refine wp_seq_k (fun K2 hK2 => ?_)
  refine wp_region_lit ?_
  refine sqv hf (r_build (vs := [(0, (.string ⟨#[97, 100, 100]⟩)), (1, (.string ⟨#[115, 100]⟩))]) (cs := #[(.string ⟨#[97, 100, 100]⟩), (.string ⟨#[115, 100]⟩)]) rfl (fun _ => by kernel_rfl)) rfl rfl rfl ?_; clear hf fa; intro fa hf
  refine sqv hf (r_build (vs := [(0, (.string ⟨#[108, 111, 97, 100]⟩)), (1, (.string ⟨#[115]⟩))]) (cs := #[(.string ⟨#[108, 111, 97, 100]⟩), (.string ⟨#[115]⟩)]) rfl (fun _ => by kernel_rfl)) rfl rfl rfl ?_; clear hf fa; intro fa hf
  refine sqv hf (r_build (vs := [(0, (.string ⟨#[117, 110, 108, 111, 97, 100]⟩)), (1, (.string ⟨#[110]⟩))]) (cs := #[(.string ⟨#[117, 110, 108, 111, 97, 100]⟩), (.string ⟨#[110]⟩)]) rfl (fun _ => by kernel_rfl)) rfl rfl rfl ?_; clear hf fa; intro fa hf
  refine sqv hf (r_build (vs := [(0, (.string ⟨#[115, 119, 97, 112]⟩)), (1, (.string ⟨#[110, 115, 110, 115]⟩))]) (cs := #[(.string ⟨#[115, 119, 97, 112]⟩), (.string ⟨#[110, 115, 110, 115]⟩)]) rfl (fun _ => by kernel_rfl)) rfl rfl rfl ?_; clear hf fa; intro fa hf
  refine sqv hf (r_build (vs := [(0, (.string ⟨#[99, 97, 108, 108]⟩)), (1, (.string ⟨#[110, 115, 97]⟩))]) (cs := #[(.string ⟨#[99, 97, 108, 108]⟩), (.string ⟨#[110, 115, 97]⟩)]) rfl (fun _ => by kernel_rfl)) rfl rfl rfl ?_; clear hf fa; intro fa hf
  refine sqv hf (r_build (vs := [(0, (.string ⟨#[108, 111, 111, 107, 117, 112]⟩)), (1, (.string ⟨#[110, 115]⟩))]) (cs := #[(.string ⟨#[108, 111, 111, 107, 117, 112]⟩), (.string ⟨#[110, 115]⟩)]) rfl (fun _ => by kernel_rfl)) rfl rfl rfl ?_; clear hf fa; intro fa hf
  refine sqv hf (r_build (vs := [(0, (.string ⟨#[99, 111, 117, 110, 116]⟩)), (1, (.string ⟨#[110]⟩))]) (cs := #[(.string ⟨#[99, 111, 117, 110, 116]⟩), (.string ⟨#[110]⟩)]) rfl (fun _ => by kernel_rfl)) rfl rfl rfl ?_; clear hf fa; intro fa hf
  refine sqv hf (r_build (vs := [(0, (.string ⟨#[112, 101, 101, 107]⟩)), (1, (.string ⟨#[110, 110]⟩))]) (cs := #[(.string ⟨#[112, 101, 101, 107]⟩), (.string ⟨#[110, 110]⟩)]) rfl (fun _ => by kernel_rfl)) rfl rfl rfl ?_; clear hf fa; intro fa hf
  refine sqv hf (r_build (vs := [(0, (.string ⟨#[108, 105, 115, 116]⟩)), (1, (.string ⟨#[]⟩))]) (cs := #[(.string ⟨#[108, 105, 115, 116]⟩), (.string ⟨#[]⟩)]) rfl (fun _ => by kernel_rfl)) rfl rfl rfl ?_; clear hf fa; intro fa hf
  refine sqv hf (r_build (vs := [(1, (.agg #[(.string ⟨#[97, 100, 100]⟩), (.string ⟨#[115, 100]⟩)])), (2, (.agg #[(.string ⟨#[108, 111, 97, 100]⟩), (.string ⟨#[115]⟩)])), (3, (.agg #[(.string ⟨#[117, 110, 108, 111, 97, 100]⟩), (.string ⟨#[110]⟩)])), (4, (.agg #[(.string ⟨#[115, 119, 97, 112]⟩), (.string ⟨#[110, 115, 110, 115]⟩)])), (5, (.agg #[(.string ⟨#[99, 97, 108, 108]⟩), (.string ⟨#[110, 115, 97]⟩)])), (6, (.agg #[(.string ⟨#[108, 111, 111, 107, 117, 112]⟩), (.string ⟨#[110, 115]⟩)])), (7, (.agg #[(.string ⟨#[99, 111, 117, 110, 116]⟩), (.string ⟨#[110]⟩)])), (8, (.agg #[(.string ⟨#[112, 101, 101, 107]⟩), (.string ⟨#[110, 110]⟩)])), (9, (.agg #[(.string ⟨#[108, 105, 115, 116]⟩), (.string ⟨#[]⟩)]))]) (cs := #[(.string ⟨#[]⟩), (.string ⟨#[]⟩), (.string ⟨#[97, 100, 100]⟩), (.string ⟨#[115, 100]⟩), (.string ⟨#[108, 111, 97, 100]⟩), (.string ⟨#[115]⟩), (.string ⟨#[117, 110, 108, 111, 97, 100]⟩), (.string ⟨#[110]⟩), (.string ⟨#[115, 119, 97, 112]⟩), (.string ⟨#[110, 115, 110, 115]⟩), (.string ⟨#[99, 97, 108, 108]⟩), (.string ⟨#[110, 115, 97]⟩), (.string ⟨#[108, 111, 111, 107, 117, 112]⟩), (.string ⟨#[110, 115]⟩), (.string ⟨#[99, 111, 117, 110, 116]⟩), (.string ⟨#[110]⟩), (.string ⟨#[112, 101, 101, 107]⟩), (.string ⟨#[110, 110]⟩), (.string ⟨#[108, 105, 115, 116]⟩), (.string ⟨#[]⟩)]) rfl (fun _ => by kernel_rfl)) rfl rfl rfl ?_; clear hf fa; intro fa hf
  refine sqdt hf (d_alloc (z := (.agg #[(.string ⟨#[]⟩), (.string ⟨#[]⟩), (.string ⟨#[]⟩), (.string ⟨#[]⟩), (.string ⟨#[]⟩), (.string ⟨#[]⟩), (.string ⟨#[]⟩), (.string ⟨#[]⟩), (.string ⟨#[]⟩), (.string ⟨#[]⟩), (.string ⟨#[]⟩), (.string ⟨#[]⟩), (.string ⟨#[]⟩), (.string ⟨#[]⟩), (.string ⟨#[]⟩), (.string ⟨#[]⟩), (.string ⟨#[]⟩), (.string ⟨#[]⟩), (.string ⟨#[]⟩), (.string ⟨#[]⟩)])) (cs := #[(.string ⟨#[]⟩), (.string ⟨#[]⟩), (.string ⟨#[]⟩), (.string ⟨#[]⟩), (.string ⟨#[]⟩), (.string ⟨#[]⟩), (.string ⟨#[]⟩), (.string ⟨#[]⟩), (.string ⟨#[]⟩), (.string ⟨#[]⟩), (.string ⟨#[]⟩), (.string ⟨#[]⟩), (.string ⟨#[]⟩), (.string ⟨#[]⟩), (.string ⟨#[]⟩), (.string ⟨#[]⟩), (.string ⟨#[]⟩), (.string ⟨#[]⟩), (.string ⟨#[]⟩), (.string ⟨#[]⟩)]) (by kernel_rfl) rfl) rfl rfl rfl ?_; clear hf fa; rintro fa _ w1 ⟨b1, rfl, hle1, hk1, he1⟩ hf
  have hBb1 : w.heap.size ≤ b1 := Nat.le_trans hb.size hle1
  replace hb := hb.trans (Below.mono he1 hb.size)
  refine sqn hf (d_storeK (T := 109) (v := (.agg #[(.string ⟨#[]⟩), (.string ⟨#[]⟩), (.string ⟨#[97, 100, 100]⟩), (.string ⟨#[115, 100]⟩), (.string ⟨#[108, 111, 97, 100]⟩), (.string ⟨#[115]⟩), (.string ⟨#[117, 110, 108, 111, 97, 100]⟩), (.string ⟨#[110]⟩), (.string ⟨#[115, 119, 97, 112]⟩), (.string ⟨#[110, 115, 110, 115]⟩), (.string ⟨#[99, 97, 108, 108]⟩), (.string ⟨#[110, 115, 97]⟩), (.string ⟨#[108, 111, 111, 107, 117, 112]⟩), (.string ⟨#[110, 115]⟩), (.string ⟨#[99, 111, 117, 110, 116]⟩), (.string ⟨#[110]⟩), (.string ⟨#[112, 101, 101, 107]⟩), (.string ⟨#[110, 110]⟩), (.string ⟨#[108, 105, 115, 116]⟩), (.string ⟨#[]⟩)])) (cs := #[(.string ⟨#[]⟩), (.string ⟨#[]⟩), (.string ⟨#[]⟩), (.string ⟨#[]⟩), (.string ⟨#[]⟩), (.string ⟨#[]⟩), (.string ⟨#[]⟩), (.string ⟨#[]⟩), (.string ⟨#[]⟩), (.string ⟨#[]⟩), (.string ⟨#[]⟩), (.string ⟨#[]⟩), (.string ⟨#[]⟩), (.string ⟨#[]⟩), (.string ⟨#[]⟩), (.string ⟨#[]⟩), (.string ⟨#[]⟩), (.string ⟨#[]⟩), (.string ⟨#[]⟩), (.string ⟨#[]⟩)]) (cs' := #[(.string ⟨#[]⟩), (.string ⟨#[]⟩), (.string ⟨#[97, 100, 100]⟩), (.string ⟨#[115, 100]⟩), (.string ⟨#[108, 111, 97, 100]⟩), (.string ⟨#[115]⟩), (.string ⟨#[117, 110, 108, 111, 97, 100]⟩), (.string ⟨#[110]⟩), (.string ⟨#[115, 119, 97, 112]⟩), (.string ⟨#[110, 115, 110, 115]⟩), (.string ⟨#[99, 97, 108, 108]⟩), (.string ⟨#[110, 115, 97]⟩), (.string ⟨#[108, 111, 111, 107, 117, 112]⟩), (.string ⟨#[110, 115]⟩), (.string ⟨#[99, 111, 117, 110, 116]⟩), (.string ⟨#[110]⟩), (.string ⟨#[112, 101, 101, 107]⟩), (.string ⟨#[110, 110]⟩), (.string ⟨#[108, 105, 115, 116]⟩), (.string ⟨#[]⟩)]) rfl rfl (by kernel_rfl) (by kernel_rfl) hk1 (by kernel_rfl) (by kernel_rfl)) rfl rfl ?_; clear hf fa; rintro fa _ w2 ⟨hk2, hg1⟩ hf
  replace hb := hb.trans (grown_below hg1 hb.size hBb1)
  apply wpList_nil
  (try simp only [Exit.then, Exit.inBlock, ↓reduceIte, Nat.reduceEqDiff])
  refine hK2 _ _ ?_
  refine wp_seq_k (fun K3 hK3 => ?_)
  refine wp_seq_k (fun K4 hK4 => ?_)
  refine wp_region_lit ?_
  refine sqv hf (r_move rfl) rfl rfl rfl ?_; clear hf fa; intro fa hf
  refine sqv hf (r_lt rfl rfl) rfl rfl rfl ?_; clear hf fa; intro fa hf
  refine sqv hf (r_move rfl) rfl rfl rfl ?_; clear hf fa; intro fa hf
  refine sqgF (act := (!(decide (k < (1 : Int))))) (ag := true) (c := (decide (k < (1 : Int)))) (v := (.int .i64 k)) hf rfl rfl rfl (fun hact => (r_move rfl)) rfl rfl ?_; clear hf fa; intro fa hf
  refine sqgF (act := (!(decide (k < (1 : Int))))) (ag := true) (c := (decide (k < (1 : Int)))) (v := (.bool (decide ((10 : Int) ≤ k)))) hf rfl rfl rfl (fun hact => (r_ge (gb_ev hact rfl) rfl)) rfl rfl ?_; clear hf fa; intro fa hf
  refine sqv hf (r_pickO (b := (decide (k < (1 : Int)))) (e := (decide ((10 : Int) ≤ k))) rfl rfl rfl) rfl rfl rfl ?_; clear hf fa; intro fa hf
  apply wpList_nil
  (try simp only [Exit.then, Exit.inBlock, ↓reduceIte, Nat.reduceEqDiff])
  refine hK4 _ _ ?_
  refine wp_cond_split (t := ((decide (k < (1 : Int))) || (decide ((10 : Int) ≤ k)))) (hf.ev rfl) (fun hqt20_1 => ?_) (fun hqt20_1 => ?_)
  · have hqt20_1b := hqt20_1
    try simp only [decide_eq_true_eq, Bool.and_eq_true, Bool.or_eq_true, Bool.not_eq_true', decide_eq_false_iff_not, ne_eq, Bool.not_eq_true] at hqt20_1
    refine wp_seq_k (fun K5 hK5 => ?_)
    refine wp_region_lit ?_
    refine sqv hf (r_assign rfl) rfl rfl rfl ?_; clear hf fa; intro fa hf
    refine sqv hf (r_assign rfl) rfl rfl rfl ?_; clear hf fa; intro fa hf
    apply wpList_nil
    (try simp only [Exit.then, Exit.inBlock, ↓reduceIte, Nat.reduceEqDiff])
    refine hK5 _ _ ?_
    refine wp_ret ?_
    (try simp only [Exit.then, Exit.inBlock])
    refine ret2 hf rfl rfl rfl ?_
    rw [form_no k (by have h := hqt20_1; omega), formf_no k (by have h := hqt20_1; omega)]; exact ⟨rfl, hb⟩
  · have hqt20_1b := hqt20_1
    replace hqt20_1 := Bool.eq_false_iff.1 hqt20_1
    try simp only [ne_eq, decide_eq_true_eq, Bool.and_eq_true, Bool.or_eq_true, Bool.not_eq_true', decide_eq_false_iff_not] at hqt20_1
    refine wp_skip ?_
    (try simp only [Exit.then, Exit.inBlock, ↓reduceIte, Nat.reduceEqDiff])
    refine hK3 _ _ ?_
    refine wp_seq_k (fun K6 hK6 => ?_)
    have hkk : 1 ≤ k ∧ k ≤ 9 := by have h := hqt20_1; omega
    have hr1 := Row.of_new (k := 2) (V := vPair) (l := [((⟨#[]⟩ : ByteArray), (⟨#[]⟩ : ByteArray)), ((⟨#[97, 100, 100]⟩ : ByteArray), (⟨#[115, 100]⟩ : ByteArray)), ((⟨#[108, 111, 97, 100]⟩ : ByteArray), (⟨#[115]⟩ : ByteArray)), ((⟨#[117, 110, 108, 111, 97, 100]⟩ : ByteArray), (⟨#[110]⟩ : ByteArray)), ((⟨#[115, 119, 97, 112]⟩ : ByteArray), (⟨#[110, 115, 110, 115]⟩ : ByteArray)), ((⟨#[99, 97, 108, 108]⟩ : ByteArray), (⟨#[110, 115, 97]⟩ : ByteArray)), ((⟨#[108, 111, 111, 107, 117, 112]⟩ : ByteArray), (⟨#[110, 115]⟩ : ByteArray)), ((⟨#[99, 111, 117, 110, 116]⟩ : ByteArray), (⟨#[110]⟩ : ByteArray)), ((⟨#[112, 101, 101, 107]⟩ : ByteArray), (⟨#[110, 110]⟩ : ByteArray)), ((⟨#[108, 105, 115, 116]⟩ : ByteArray), (⟨#[]⟩ : ByteArray))]) (base := w.heap.size) hk2 (by omega) rfl rfl (Nat.le_of_ble_eq_true rfl)
    skip
    have hy1 : ([((⟨#[]⟩ : ByteArray), (⟨#[]⟩ : ByteArray)), ((⟨#[97, 100, 100]⟩ : ByteArray), (⟨#[115, 100]⟩ : ByteArray)), ((⟨#[108, 111, 97, 100]⟩ : ByteArray), (⟨#[115]⟩ : ByteArray)), ((⟨#[117, 110, 108, 111, 97, 100]⟩ : ByteArray), (⟨#[110]⟩ : ByteArray)), ((⟨#[115, 119, 97, 112]⟩ : ByteArray), (⟨#[110, 115, 110, 115]⟩ : ByteArray)), ((⟨#[99, 97, 108, 108]⟩ : ByteArray), (⟨#[110, 115, 97]⟩ : ByteArray)), ((⟨#[108, 111, 111, 107, 117, 112]⟩ : ByteArray), (⟨#[110, 115]⟩ : ByteArray)), ((⟨#[99, 111, 117, 110, 116]⟩ : ByteArray), (⟨#[110]⟩ : ByteArray)), ((⟨#[112, 101, 101, 107]⟩ : ByteArray), (⟨#[110, 110]⟩ : ByteArray)), ((⟨#[108, 105, 115, 116]⟩ : ByteArray), (⟨#[]⟩ : ByteArray))])[(k).toNat]? = some (wordS k, formS k) := (form_row k hkk).1
    have hel1 := RdS.at (Row.rd (by intros; rfl) hr1) hy1
    obtain ⟨_, _, hab, hlr1, hel1⟩ := hel1
    cases hab
    have hy2 : ([((⟨#[]⟩ : ByteArray), (⟨#[]⟩ : ByteArray)), ((⟨#[97, 100, 100]⟩ : ByteArray), (⟨#[115, 100]⟩ : ByteArray)), ((⟨#[108, 111, 97, 100]⟩ : ByteArray), (⟨#[115]⟩ : ByteArray)), ((⟨#[117, 110, 108, 111, 97, 100]⟩ : ByteArray), (⟨#[110]⟩ : ByteArray)), ((⟨#[115, 119, 97, 112]⟩ : ByteArray), (⟨#[110, 115, 110, 115]⟩ : ByteArray)), ((⟨#[99, 97, 108, 108]⟩ : ByteArray), (⟨#[110, 115, 97]⟩ : ByteArray)), ((⟨#[108, 111, 111, 107, 117, 112]⟩ : ByteArray), (⟨#[110, 115]⟩ : ByteArray)), ((⟨#[99, 111, 117, 110, 116]⟩ : ByteArray), (⟨#[110]⟩ : ByteArray)), ((⟨#[112, 101, 101, 107]⟩ : ByteArray), (⟨#[110, 110]⟩ : ByteArray)), ((⟨#[108, 105, 115, 116]⟩ : ByteArray), (⟨#[]⟩ : ByteArray))])[(k).toNat]? = some (wordS k, formS k) := (form_row k hkk).1
    have hel2 := RdS.at (Row.rd (by intros; rfl) hr1) hy2
    obtain ⟨_, _, hab, hlr2, hel2⟩ := hel2
    cases hab
    refine wp_region_un (fun wq => Below w2.heap.size w2 wq) (fun w w' => Below w.heap.size w w')
      (fun V => [(fun x _ => x = (.int .i64 k)), (fun x _ => x = (.pointer (some ⟨b1, (0 + (k).toNat * 2), none⟩))), (fun x _ => x = (.pointer (some ⟨b1, (0 + (k).toNat * 2), none⟩))), (fun x _ => x = (.string (wordS k))), (fun x _ => x = (.int .i64 k)), (fun x _ => x = (.pointer (some ⟨b1, (0 + (k).toNat * 2), none⟩))), (fun x _ => x = (.pointer (some ⟨b1, ((0 + (k).toNat * 2) + 1), none⟩))), (fun x _ => x = (.string (formS k))), (fun x _ => x = (.string (wordS k))), (fun x _ => x = (.string (formS k)))])
      []
      [[], [0], [1], [2], [], [4], [5], [6], [0, 1, 2, 3], [0, 1, 2, 3, 4, 5, 6, 7, 8]]
      hf (by kernel_rfl) (by kernel_rfl) (fun _ => rfl) ((Below.refl _ _).drew) (fun a b h1 h2 => h1.trans (h2.mono h1.size)) (fun _ _ h => h.size) (fun V => ⟨kept_eq, kept_eq, kept_eq, kept_eq, kept_eq, kept_eq, kept_eq, kept_eq, kept_eq, kept_eq, trivial⟩) (fun _ _ _ _ _ => rfl) ?_ ?_
    · skip
      intro V
      refine ⟨fun wu0 hC hd => ?_, ?_⟩
      · clear hd
        replace hb := hb.trans (hC.mono hb.size)
        replace hr1 := Row.ext hr1 hC
        exact Runs.does (r_move rfl) ⟨Below.refl _ _, rfl, nofr rfl⟩
      refine ⟨fun wu1 hC hd => ?_, ?_⟩
      · obtain ⟨h0, _⟩ := hd
        skip
        replace h0 : V 0 = (.int .i64 k) := h0
        replace hb := hb.trans (hC.mono hb.size)
        replace hr1 := Row.ext hr1 hC
        exact Runs.does (r_ixp (sz := 2) (j := (k).toNat) (nn := 10) rfl (congrArg some h0) Try.underlying109 (by kernel_rfl) (by omega) (by omega) rfl) ⟨Below.refl _ _, rfl, nofr rfl⟩
      refine ⟨fun wu2 hC hd => ?_, ?_⟩
      · obtain ⟨h1, _⟩ := hd
        skip
        replace h1 : V 1 = (.pointer (some ⟨b1, (0 + (k).toNat * 2), none⟩)) := h1
        replace hb := hb.trans (hC.mono hb.size)
        replace hr1 := Row.ext hr1 hC
        exact Runs.does (r_ixp (sz := 1) (j := 0) (nn := 2) (q := (0 + (k).toNat * 2)) (congrArg some h1) rfl Try.underlying108 (by kernel_rfl) rfl (by decide) rfl) ⟨Below.refl _ _, rfl, nofr rfl⟩
      refine ⟨fun wu3 hC hd => ?_, ?_⟩
      · obtain ⟨h2, _⟩ := hd
        skip
        replace h2 : V 2 = (.pointer (some ⟨b1, (0 + (k).toNat * 2), none⟩)) := h2
        replace hb := hb.trans (hC.mono hb.size)
        replace hr1 := Row.ext hr1 hC
        exact Runs.does (r_load (v := (.string (wordS k))) (congrArg some h2) Try.underlying9 rfl (cellsAt_cell (cellsAt_below hel1 hC hlr1) (i := 0) rfl rfl)) ⟨Below.refl _ _, rfl, nofr rfl⟩
      refine ⟨fun wu4 hC hd => ?_, ?_⟩
      · clear hd
        replace hb := hb.trans (hC.mono hb.size)
        replace hr1 := Row.ext hr1 hC
        exact Runs.does (r_move rfl) ⟨Below.refl _ _, rfl, nofr rfl⟩
      refine ⟨fun wu5 hC hd => ?_, ?_⟩
      · obtain ⟨h4, _⟩ := hd
        skip
        replace h4 : V 4 = (.int .i64 k) := h4
        replace hb := hb.trans (hC.mono hb.size)
        replace hr1 := Row.ext hr1 hC
        exact Runs.does (r_ixp (sz := 2) (j := (k).toNat) (nn := 10) rfl (congrArg some h4) Try.underlying109 (by kernel_rfl) (by omega) (by omega) rfl) ⟨Below.refl _ _, rfl, nofr rfl⟩
      refine ⟨fun wu6 hC hd => ?_, ?_⟩
      · obtain ⟨h5, _⟩ := hd
        skip
        replace h5 : V 5 = (.pointer (some ⟨b1, (0 + (k).toNat * 2), none⟩)) := h5
        replace hb := hb.trans (hC.mono hb.size)
        replace hr1 := Row.ext hr1 hC
        exact Runs.does (r_ixp (sz := 1) (j := 1) (nn := 2) (q := ((0 + (k).toNat * 2) + 1)) (congrArg some h5) rfl Try.underlying108 (by kernel_rfl) rfl (by decide) rfl) ⟨Below.refl _ _, rfl, nofr rfl⟩
      refine ⟨fun wu7 hC hd => ?_, ?_⟩
      · obtain ⟨h6, _⟩ := hd
        skip
        replace h6 : V 6 = (.pointer (some ⟨b1, ((0 + (k).toNat * 2) + 1), none⟩)) := h6
        replace hb := hb.trans (hC.mono hb.size)
        replace hr1 := Row.ext hr1 hC
        exact Runs.does (r_load (v := (.string (formS k))) (congrArg some h6) Try.underlying9 rfl (cellsAt_cell (cellsAt_below hel2 hC hlr2) (i := 1) rfl rfl)) ⟨Below.refl _ _, rfl, nofr rfl⟩
      refine ⟨fun wu8 hC hd => ?_, ?_⟩
      · obtain ⟨h0, h1, h2, h3, _⟩ := hd
        skip
        skip
        skip
        skip
        replace h0 : V 0 = (.int .i64 k) := h0
        replace h1 : V 1 = (.pointer (some ⟨b1, (0 + (k).toNat * 2), none⟩)) := h1
        replace h2 : V 2 = (.pointer (some ⟨b1, (0 + (k).toNat * 2), none⟩)) := h2
        replace h3 : V 3 = (.string (wordS k)) := h3
        replace hb := hb.trans (hC.mono hb.size)
        replace hr1 := Row.ext hr1 hC
        exact Runs.does (r_assign (congrArg some h3)) ⟨Below.refl _ _, rfl, nofr rfl⟩
      refine ⟨fun wu9 hC hd => ?_, ?_⟩
      · obtain ⟨h0, h1, h2, h3, h4, h5, h6, h7, h8, _⟩ := hd
        skip
        skip
        skip
        skip
        skip
        skip
        skip
        skip
        skip
        replace h0 : V 0 = (.int .i64 k) := h0
        replace h1 : V 1 = (.pointer (some ⟨b1, (0 + (k).toNat * 2), none⟩)) := h1
        replace h2 : V 2 = (.pointer (some ⟨b1, (0 + (k).toNat * 2), none⟩)) := h2
        replace h3 : V 3 = (.string (wordS k)) := h3
        replace h4 : V 4 = (.int .i64 k) := h4
        replace h5 : V 5 = (.pointer (some ⟨b1, (0 + (k).toNat * 2), none⟩)) := h5
        replace h6 : V 6 = (.pointer (some ⟨b1, ((0 + (k).toNat * 2) + 1), none⟩)) := h6
        replace h7 : V 7 = (.string (formS k)) := h7
        replace h8 : V 8 = (.string (wordS k)) := h8
        replace hb := hb.trans (hC.mono hb.size)
        replace hr1 := Row.ext hr1 hC
        exact Runs.does (r_assign (congrArg some h7)) ⟨Below.refl _ _, rfl, nofr rfl⟩
      trivial
    · skip
      clear hf fa; intro V w3 fa he2 hp hnb hf
      have hv0 : V 0 = (.int .i64 k) := postsHold_at hp 0 rfl
      have hv1 : V 1 = (.pointer (some ⟨b1, (0 + (k).toNat * 2), none⟩)) := postsHold_at hp 1 rfl
      have hv2 : V 2 = (.pointer (some ⟨b1, (0 + (k).toNat * 2), none⟩)) := postsHold_at hp 2 rfl
      have hv3 : V 3 = (.string (wordS k)) := postsHold_at hp 3 rfl
      have hv4 : V 4 = (.int .i64 k) := postsHold_at hp 4 rfl
      have hv5 : V 5 = (.pointer (some ⟨b1, (0 + (k).toNat * 2), none⟩)) := postsHold_at hp 5 rfl
      have hv6 : V 6 = (.pointer (some ⟨b1, ((0 + (k).toNat * 2) + 1), none⟩)) := postsHold_at hp 6 rfl
      have hv7 : V 7 = (.string (formS k)) := postsHold_at hp 7 rfl
      have hv8 : V 8 = (.string (wordS k)) := postsHold_at hp 8 rfl
      have hv9 : V 9 = (.string (formS k)) := postsHold_at hp 9 rfl
      simp only [List.take_succ_cons, List.take_zero, insAll, ins, hv0, hv1, hv2, hv3, hv4, hv5, hv6, hv7, hv8, hv9] at hf
      clear hp hnb hv0 hv1 hv2 hv3 hv4 hv5 hv6 hv7 hv8 hv9
      replace hr1 := Row.ext hr1 he2
      replace hb := hb.trans (Below.mono he2 hb.size)
      (try simp only [Exit.then, Exit.inBlock, ↓reduceIte, Nat.reduceEqDiff])
      refine hK6 _ _ ?_
      refine wp_ret ?_
      (try simp only [Exit.then, Exit.inBlock])
      refine ret2 hf rfl rfl rfl ?_
      exact ⟨rfl, hb⟩

def kindR (s : ByteArray) : Nat → Nat → Int
  | 0, _ => 0
  | f + 1, k => if wordS k = s then k else kindR s f (k + 1)
def kindP (s : ByteArray) : Int := kindR s 9 1

set_option maxHeartbeats 1000000 in
set_option maxRecDepth 100000 in
theorem kind_any (s : ByteArray) (w : World) : Calls Try.prog 20 #[(.string s)] w fun e w' => e = .returned (.int .i64 (kindP s)) ∧ Below w.heap.size w w' := by
  refine sx_enter (L := [(0, (.string s))]) Try.func20 rfl rfl rfl rfl (fun fa hf => ?_)
  have hb : Below w.heap.size w w := Below.refl _ _
  refine wp_seq_k (fun K1 hK1 => ?_)
  refine wp_region_lit ?_
  refine sqv hf (r_assign rfl) rfl rfl rfl ?_; clear hf fa; intro fa hf
  apply wpList_nil
  (try simp only [Exit.then, Exit.inBlock, ↓reduceIte, Nat.reduceEqDiff])
  refine hK1 _ _ ?_
  refine wp_seq_k (fun K2 hK2 => ?_)
  refine wp_seq_k (fun K3 hK3 => ?_)
  refine wp_region_lit ?_
  refine sqv hf (r_assign rfl) rfl rfl rfl ?_; clear hf fa; intro fa hf
  apply wpList_nil
  (try simp only [Exit.then, Exit.inBlock, ↓reduceIte, Nat.reduceEqDiff])
  refine hK3 _ _ ?_
  refine wp_block ?_
  refine wp_loop_k (fun mq fa wr => ∃ (k : Nat), mq = 10 - k ∧ Fr 19 fa [(0, (.string s)), (3, (.int .i64 ((k : Nat) : Int)))] ∧ Below w.heap.size w wr ∧ (k ≤ 10) ∧ (1 ≤ k) ∧ (kindP s = kindR s (10 - k) k)) ?_ ?_
  · skip
    exact ⟨_, 1, rfl, hf.sub ⟨rfl, (some_int (by first | rfl | omega)), trivial⟩, hb, by omega, by omega, rfl⟩
  · skip
    clear hf fa; intro mq1 fa w1 hI KL1 hKL1
    clear hb
    obtain ⟨k, hmq1, hf, hb, hk, hk1, Hs⟩ := hI
    refine wp_seq_k (fun K4 hK4 => ?_)
    refine wp_seq_k (fun K5 hK5 => ?_)
    refine wp_region_lit ?_
    refine sqv hf (r_move rfl) rfl rfl rfl ?_; clear hf fa; intro fa hf
    refine sqv hf (r_lt rfl rfl) rfl rfl rfl ?_; clear hf fa; intro fa hf
    apply wpList_nil
    (try simp only [Exit.then, Exit.inBlock, ↓reduceIte, Nat.reduceEqDiff])
    refine hK5 _ _ ?_
    refine wp_cond_split (t := (decide (((k : Nat) : Int) < (10 : Int)))) (hf.ev rfl) (fun hqt7_1 => ?_) (fun hqt7_1 => ?_)
    · have hqt7_1b := hqt7_1
      try simp only [decide_eq_true_eq, Bool.and_eq_true, Bool.or_eq_true, Bool.not_eq_true', decide_eq_false_iff_not, ne_eq, Bool.not_eq_true] at hqt7_1
      refine wp_skip ?_
      (try simp only [Exit.then, Exit.inBlock, ↓reduceIte, Nat.reduceEqDiff])
      refine hK4 _ _ ?_
      refine wp_seq_k (fun K6 hK6 => ?_)
      refine wp_block ?_
      refine wp_seq_k (fun K7 hK7 => ?_)
      refine wp_region_lit ?_
      refine sqv hf (r_move rfl) rfl rfl rfl ?_; clear hf fa; intro fa hf
      refine sqdt hf (d_callB (vs := [(.int .i64 ((k : Nat) : Int))]) rfl Try.func17 (by kernel_rfl) (by kernel_rfl) (form_any ((k : Nat) : Int) _)) rfl rfl rfl ?_; clear hf fa; rintro fa _ w2 ⟨rfl, he1⟩ hf
      replace hb := hb.trans (Below.mono he1 hb.size)
      refine sqv hf (r_move rfl) rfl rfl rfl ?_; clear hf fa; intro fa hf
      refine sqv hf (r_extract rfl (i := 0) rfl) rfl rfl rfl ?_; clear hf fa; intro fa hf
      refine sqv hf (r_extract rfl (i := 1) rfl) rfl rfl rfl ?_; clear hf fa; intro fa hf
      refine sqv hf (r_assign rfl) rfl rfl rfl ?_; clear hf fa; intro fa hf
      refine sqv hf (r_assign rfl) rfl rfl rfl ?_; clear hf fa; intro fa hf
      apply wpList_nil
      (try simp only [Exit.then, Exit.inBlock, ↓reduceIte, Nat.reduceEqDiff])
      refine hK7 _ _ ?_
      refine wp_seq_k (fun K8 hK8 => ?_)
      refine wp_region_lit ?_
      refine sqv hf (r_move rfl) rfl rfl rfl ?_; clear hf fa; intro fa hf
      refine sqv hf (r_move rfl) rfl rfl rfl ?_; clear hf fa; intro fa hf
      refine sqv hf (r_seq rfl rfl) rfl rfl rfl ?_; clear hf fa; intro fa hf
      apply wpList_nil
      (try simp only [Exit.then, Exit.inBlock, ↓reduceIte, Nat.reduceEqDiff])
      refine hK8 _ _ ?_
      refine wp_cond_split (t := (decide ((wordS ((k : Nat) : Int)) = s))) (hf.ev rfl) (fun hqt17_1 => ?_) (fun hqt17_1 => ?_)
      · have hqt17_1b := hqt17_1
        try simp only [decide_eq_true_eq, Bool.and_eq_true, Bool.or_eq_true, Bool.not_eq_true', decide_eq_false_iff_not, ne_eq, Bool.not_eq_true] at hqt17_1
        refine wp_seq_k (fun K9 hK9 => ?_)
        refine wp_region_lit ?_
        refine sqv hf (r_move rfl) rfl rfl rfl ?_; clear hf fa; intro fa hf
        refine sqv hf (r_assign rfl) rfl rfl rfl ?_; clear hf fa; intro fa hf
        apply wpList_nil
        (try simp only [Exit.then, Exit.inBlock, ↓reduceIte, Nat.reduceEqDiff])
        refine hK9 _ _ ?_
        refine wp_ret ?_
        (try simp only [Exit.then, Exit.inBlock])
        refine ret1 hf rfl rfl ?_
        refine ⟨?_, hb⟩; rw [Hs, show 10 - k = (10 - (k + 1)) + 1 by omega, kindR, if_pos hqt17_1]
      · have hqt17_1b := hqt17_1
        replace hqt17_1 := Bool.eq_false_iff.1 hqt17_1
        try simp only [ne_eq, decide_eq_true_eq, Bool.and_eq_true, Bool.or_eq_true, Bool.not_eq_true', decide_eq_false_iff_not] at hqt17_1
        refine wp_skip ?_
        (try simp only [Exit.then, Exit.inBlock, ↓reduceIte, Nat.reduceEqDiff])
        refine hK6 _ _ ?_
        refine wp_region_lit ?_
        refine sqv hf (r_move rfl) rfl rfl rfl ?_; clear hf fa; intro fa hf
        refine sqv hf (r_add (C := (((k : Nat) : Int) + (1 : Int))) rfl rfl (by rw [IntKind.wrap_i64]; omega)) rfl rfl rfl ?_; clear hf fa; intro fa hf
        refine sqv hf (r_assign rfl) rfl rfl rfl ?_; clear hf fa; intro fa hf
        apply wpList_nil
        (try simp only [Exit.then, Exit.inBlock, ↓reduceIte, Nat.reduceEqDiff])
        refine hKL1 _ _ _ (by omega) ⟨(k + 1), rfl, hf.sub ⟨rfl, (some_int (by first | rfl | omega)), trivial⟩, hb, by omega, by omega, (by rw [Hs, show 10 - k = (10 - (k + 1)) + 1 by omega, kindR, if_neg hqt17_1])⟩
    · have hqt7_1b := hqt7_1
      replace hqt7_1 := Bool.eq_false_iff.1 hqt7_1
      try simp only [ne_eq, decide_eq_true_eq, Bool.and_eq_true, Bool.or_eq_true, Bool.not_eq_true', decide_eq_false_iff_not] at hqt7_1
      refine wp_exit ?_
      (try simp only [Exit.then, Exit.inBlock, ↓reduceIte, Nat.reduceEqDiff])
      refine hK2 _ _ ?_
      refine wp_seq_k (fun K10 hK10 => ?_)
      refine wp_region_lit ?_
      refine sqv hf (r_assign rfl) rfl rfl rfl ?_; clear hf fa; intro fa hf
      apply wpList_nil
      (try simp only [Exit.then, Exit.inBlock, ↓reduceIte, Nat.reduceEqDiff])
      refine hK10 _ _ ?_
      refine wp_ret ?_
      (try simp only [Exit.then, Exit.inBlock])
      refine ret1 hf rfl rfl ?_
      refine ⟨?_, hb⟩; rw [Hs, show 10 - k = 0 by omega, kindR]

end Go.Proofs.Ytpalmpfkliepfaa
