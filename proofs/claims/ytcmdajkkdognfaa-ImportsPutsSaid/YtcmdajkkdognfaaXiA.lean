/- What is proved here: imports: Right, by the program and by the document. -/
import Derived.Test.YtcmdajkkdognfaaUwE
import Derived.Test.YtcmdajkkdognfaaSnE
import Derived.Test.YtcmdajkkdognfaaImB
namespace Go.Proofs.Ytcmdajkkdognfaa
open Go.RowKit
set_option linter.unusedVariables false
set_option linter.unusedSimpArgs false
theorem bif_of {α : Type} {b : Bool} {x y : α} (h : b = true) : (bif b then x else y) = x := by rw [h]; rfl
theorem bif_no {α : Type} {b : Bool} {x y : α} (h : b = false) : (bif b then x else y) = y := by rw [h]; rfl

def irightP (ip : MImp) : Int :=
  bif (decide (((Ut.checkF ip.1)) ≠ (0 : Int))) then (Ut.checkF ip.1)
  else bif (decide (((Ut.checkF ip.2.1)) ≠ (0 : Int))) then (Ut.checkF ip.2.1)
  else bif (decide ((3 : Int) < ip.2.2.1)) then (43 : Int)
  else bif (decide (ip.2.2.1 = (0 : Int))) then bif ((!((decide (ip.1 = ip.1)) && ((decide (ip.2.1 = ip.2.1)) && ((decide (ip.2.2.1 = ip.2.2.1)) && ((decide (ip.2.2.2.1 = ip.2.2.2.1)) && (((decide ((0 : Int) = ip.2.2.2.2.1.1)) && ((decide ((0 : Int) = ip.2.2.2.2.1.2.1)) && (false == ip.2.2.2.2.1.2.2.1))) && ((decide ((0 : Int) = ip.2.2.2.2.2.1.1)) && (false == ip.2.2.2.2.2.1.2.1)))))))) || ((!ip.2.2.2.2.1.2.2.1) && (decide (ip.2.2.2.2.1.2.1 ≠ (0 : Int))))) then (1 : Int)
  else bif (decide (ip.2.2.1 = (3 : Int))) then (tvalP ip.2.2.2.2.2.1.1)
  else (0 : Int)
  else bif (decide (ip.2.2.1 = (3 : Int))) then bif ((!((decide (ip.1 = ip.1)) && ((decide (ip.2.1 = ip.2.1)) && ((decide (ip.2.2.1 = ip.2.2.1)) && ((decide ((0 : Int) = ip.2.2.2.1)) && (((decide ((0 : Int) = ip.2.2.2.2.1.1)) && ((decide ((0 : Int) = ip.2.2.2.2.1.2.1)) && (false == ip.2.2.2.2.1.2.2.1))) && ((decide (ip.2.2.2.2.2.1.1 = ip.2.2.2.2.2.1.1)) && (ip.2.2.2.2.2.1.2.1 == ip.2.2.2.2.2.1.2.1)))))))) || ((!ip.2.2.2.2.1.2.2.1) && (decide (ip.2.2.2.2.1.2.1 ≠ (0 : Int))))) then (1 : Int)
  else (tvalP ip.2.2.2.2.2.1.1)
  else bif ((!((decide (ip.1 = ip.1)) && ((decide (ip.2.1 = ip.2.1)) && ((decide (ip.2.2.1 = ip.2.2.1)) && ((decide ((0 : Int) = ip.2.2.2.1)) && (((decide (ip.2.2.2.2.1.1 = ip.2.2.2.2.1.1)) && ((decide (ip.2.2.2.2.1.2.1 = ip.2.2.2.2.1.2.1)) && (ip.2.2.2.2.1.2.2.1 == ip.2.2.2.2.1.2.2.1))) && ((decide ((0 : Int) = ip.2.2.2.2.2.1.1)) && (false == ip.2.2.2.2.2.1.2.1)))))))) || ((!ip.2.2.2.2.1.2.2.1) && (decide (ip.2.2.2.2.1.2.1 ≠ (0 : Int))))) then (1 : Int)
  else (0 : Int)

set_option maxHeartbeats 1000000 in
set_option maxRecDepth 100000 in
theorem iright_any (ip : MImp) (w : World) (hs1 : ip.1.size ≤ 400) (hs2 : ip.2.1.size ≤ 400) : Calls Try.prog 98 #[(.agg #[(.string ip.1), (.string ip.2.1), (.int .u8 ip.2.2.1), (.int .u32 ip.2.2.2.1), (.int .u32 ip.2.2.2.2.1.1), (.int .u32 ip.2.2.2.2.1.2.1), (.bool ip.2.2.2.2.1.2.2.1), (.int .u8 ip.2.2.2.2.2.1.1), (.bool ip.2.2.2.2.2.1.2.1)])] w fun e w' => e = .returned (.int .i64 ((irightP ip))) ∧ Below w.heap.size w w' := by
  refine sx_enter (L := [(0, (.agg #[(.string ip.1), (.string ip.2.1), (.int .u8 ip.2.2.1), (.int .u32 ip.2.2.2.1), (.int .u32 ip.2.2.2.2.1.1), (.int .u32 ip.2.2.2.2.1.2.1), (.bool ip.2.2.2.2.1.2.2.1), (.int .u8 ip.2.2.2.2.2.1.1), (.bool ip.2.2.2.2.2.1.2.1)]))]) Try.func98 rfl rfl rfl rfl (fun fa hf => ?_)
  have hb : Below w.heap.size w w := Below.refl _ _
  refine wp_seq_k (fun K1 hK1 => ?_)
  refine wp_region_lit ?_
  refine sqdt hf (d_box (cs := #[(.string ip.1), (.string ip.2.1), (.int .u8 ip.2.2.1), (.int .u32 ip.2.2.2.1), (.int .u32 ip.2.2.2.2.1.1), (.int .u32 ip.2.2.2.2.1.2.1), (.bool ip.2.2.2.2.1.2.2.1), (.int .u8 ip.2.2.2.2.2.1.1), (.bool ip.2.2.2.2.2.1.2.1)]) rfl rfl) rfl rfl rfl ?_; clear hf fa; rintro fa _ w1 ⟨b1, rfl, hle1, hk1, he1⟩ hf
  have hBb1 : w.heap.size ≤ b1 := Nat.le_trans hb.size hle1
  replace hb := hb.trans (Below.mono he1 hb.size)
  refine sqv hf (r_assign rfl) rfl rfl rfl ?_; clear hf fa; intro fa hf
  apply wpList_nil
  (try simp only [Exit.then, Exit.inBlock, ↓reduceIte, Nat.reduceEqDiff])
  refine hK1 _ _ ?_
  refine wp_seq_k (fun K2 hK2 => ?_)
  refine wp_seq_k (fun K3 hK3 => ?_)
  refine wp_region_lit ?_
  refine sqv hf (r_fa rfl Try.underlying81 (f := 0) (q := 0) rfl (by kernel_rfl) rfl) rfl rfl rfl ?_; clear hf fa; intro fa hf
  refine sqv hf (r_load (v := (.string ip.1)) rfl Try.underlying9 rfl (cell_blk hk1 rfl)) rfl rfl rfl ?_; clear hf fa; intro fa hf
  refine sqdt hf (d_callB (vs := [(.string ip.1)]) rfl Try.func109 (by kernel_rfl) (by kernel_rfl) (Ut.check_any ip.1 _ (by omega))) rfl rfl rfl ?_; clear hf fa; rintro fa _ w2 ⟨rfl, he2⟩ hf
  replace hk1 := blk_ext hk1 he2
  replace hb := hb.trans (Below.mono he2 hb.size)
  refine sqv hf (r_assign rfl) rfl rfl rfl ?_; clear hf fa; intro fa hf
  apply wpList_nil
  (try simp only [Exit.then, Exit.inBlock, ↓reduceIte, Nat.reduceEqDiff])
  refine hK3 _ _ ?_
  refine wp_seq_k (fun K4 hK4 => ?_)
  refine wp_region_lit ?_
  refine sqv hf (r_move rfl) rfl rfl rfl ?_; clear hf fa; intro fa hf
  refine sqv hf (r_ne rfl rfl) rfl rfl rfl ?_; clear hf fa; intro fa hf
  apply wpList_nil
  (try simp only [Exit.then, Exit.inBlock, ↓reduceIte, Nat.reduceEqDiff])
  refine hK4 _ _ ?_
  refine wp_cond_split (t := (decide (((Ut.checkF ip.1)) ≠ (0 : Int)))) (hf.ev rfl) (fun hqt10_1 => ?_) (fun hqt10_1 => ?_)
  · have hqt10_1b := hqt10_1
    try simp only [decide_eq_true_eq, Bool.and_eq_true, Bool.or_eq_true, Bool.not_eq_true', decide_eq_false_iff_not, ne_eq, Bool.not_eq_true] at hqt10_1
    refine wp_seq_k (fun K5 hK5 => ?_)
    refine wp_region_lit ?_
    refine sqv hf (r_move rfl) rfl rfl rfl ?_; clear hf fa; intro fa hf
    refine sqv hf (r_assign rfl) rfl rfl rfl ?_; clear hf fa; intro fa hf
    apply wpList_nil
    (try simp only [Exit.then, Exit.inBlock, ↓reduceIte, Nat.reduceEqDiff])
    refine hK5 _ _ ?_
    refine wp_ret ?_
    (try simp only [Exit.then, Exit.inBlock])
    refine ret1 hf rfl rfl ?_
    refine ⟨?_, hb⟩; unfold irightP; rw [hqt10_1b]; (try rfl)
  · have hqt10_1b := hqt10_1
    replace hqt10_1 := Bool.eq_false_iff.1 hqt10_1
    try simp only [ne_eq, decide_eq_true_eq, Bool.and_eq_true, Bool.or_eq_true, Bool.not_eq_true', decide_eq_false_iff_not] at hqt10_1
    refine wp_skip ?_
    (try simp only [Exit.then, Exit.inBlock, ↓reduceIte, Nat.reduceEqDiff])
    refine hK2 _ _ ?_
    refine wp_seq_k (fun K6 hK6 => ?_)
    refine wp_seq_k (fun K7 hK7 => ?_)
    refine wp_region_lit ?_
    refine sqv hf (r_fa rfl Try.underlying81 (f := 1) (q := 1) rfl (by kernel_rfl) rfl) rfl rfl rfl ?_; clear hf fa; intro fa hf
    refine sqv hf (r_load (v := (.string ip.2.1)) rfl Try.underlying9 rfl (cell_blk hk1 rfl)) rfl rfl rfl ?_; clear hf fa; intro fa hf
    refine sqdt hf (d_callB (vs := [(.string ip.2.1)]) rfl Try.func109 (by kernel_rfl) (by kernel_rfl) (Ut.check_any ip.2.1 _ (by omega))) rfl rfl rfl ?_; clear hf fa; rintro fa _ w3 ⟨rfl, he3⟩ hf
    replace hk1 := blk_ext hk1 he3
    replace hb := hb.trans (Below.mono he3 hb.size)
    refine sqv hf (r_assign rfl) rfl rfl rfl ?_; clear hf fa; intro fa hf
    apply wpList_nil
    (try simp only [Exit.then, Exit.inBlock, ↓reduceIte, Nat.reduceEqDiff])
    refine hK7 _ _ ?_
    refine wp_seq_k (fun K8 hK8 => ?_)
    refine wp_region_lit ?_
    refine sqv hf (r_move rfl) rfl rfl rfl ?_; clear hf fa; intro fa hf
    refine sqv hf (r_ne rfl rfl) rfl rfl rfl ?_; clear hf fa; intro fa hf
    apply wpList_nil
    (try simp only [Exit.then, Exit.inBlock, ↓reduceIte, Nat.reduceEqDiff])
    refine hK8 _ _ ?_
    refine wp_cond_split (t := (decide (((Ut.checkF ip.2.1)) ≠ (0 : Int)))) (hf.ev rfl) (fun hqt16_1 => ?_) (fun hqt16_1 => ?_)
    · have hqt16_1b := hqt16_1
      try simp only [decide_eq_true_eq, Bool.and_eq_true, Bool.or_eq_true, Bool.not_eq_true', decide_eq_false_iff_not, ne_eq, Bool.not_eq_true] at hqt16_1
      refine wp_seq_k (fun K9 hK9 => ?_)
      refine wp_region_lit ?_
      refine sqv hf (r_move rfl) rfl rfl rfl ?_; clear hf fa; intro fa hf
      refine sqv hf (r_assign rfl) rfl rfl rfl ?_; clear hf fa; intro fa hf
      apply wpList_nil
      (try simp only [Exit.then, Exit.inBlock, ↓reduceIte, Nat.reduceEqDiff])
      refine hK9 _ _ ?_
      refine wp_ret ?_
      (try simp only [Exit.then, Exit.inBlock])
      refine ret1 hf rfl rfl ?_
      refine ⟨?_, hb⟩; unfold irightP; rw [hqt10_1b, hqt16_1b]; (try rfl)
    · have hqt16_1b := hqt16_1
      replace hqt16_1 := Bool.eq_false_iff.1 hqt16_1
      try simp only [ne_eq, decide_eq_true_eq, Bool.and_eq_true, Bool.or_eq_true, Bool.not_eq_true', decide_eq_false_iff_not] at hqt16_1
      refine wp_skip ?_
      (try simp only [Exit.then, Exit.inBlock, ↓reduceIte, Nat.reduceEqDiff])
      refine hK6 _ _ ?_
      refine wp_seq_k (fun K10 hK10 => ?_)
      refine wp_seq_k (fun K11 hK11 => ?_)
      refine wp_region_lit ?_
      refine sqv hf (r_fa rfl Try.underlying81 (f := 2) (q := 2) rfl (by kernel_rfl) rfl) rfl rfl rfl ?_; clear hf fa; intro fa hf
      refine sqv hf (r_load (v := (.int .u8 ip.2.2.1)) rfl Try.underlying5 rfl (cell_blk hk1 rfl)) rfl rfl rfl ?_; clear hf fa; intro fa hf
      refine sqv hf (r_gt rfl rfl) rfl rfl rfl ?_; clear hf fa; intro fa hf
      apply wpList_nil
      (try simp only [Exit.then, Exit.inBlock, ↓reduceIte, Nat.reduceEqDiff])
      refine hK11 _ _ ?_
      refine wp_cond_split (t := (decide ((3 : Int) < ip.2.2.1))) (hf.ev rfl) (fun hqt20_1 => ?_) (fun hqt20_1 => ?_)
      · have hqt20_1b := hqt20_1
        try simp only [decide_eq_true_eq, Bool.and_eq_true, Bool.or_eq_true, Bool.not_eq_true', decide_eq_false_iff_not, ne_eq, Bool.not_eq_true] at hqt20_1
        refine wp_seq_k (fun K12 hK12 => ?_)
        refine wp_region_lit ?_
        refine sqv hf (r_assign rfl) rfl rfl rfl ?_; clear hf fa; intro fa hf
        apply wpList_nil
        (try simp only [Exit.then, Exit.inBlock, ↓reduceIte, Nat.reduceEqDiff])
        refine hK12 _ _ ?_
        refine wp_ret ?_
        (try simp only [Exit.then, Exit.inBlock])
        refine ret1 hf rfl rfl ?_
        refine ⟨?_, hb⟩; unfold irightP; rw [hqt10_1b, hqt16_1b, hqt20_1b]; (try rfl)
      · have hqt20_1b := hqt20_1
        replace hqt20_1 := Bool.eq_false_iff.1 hqt20_1
        try simp only [ne_eq, decide_eq_true_eq, Bool.and_eq_true, Bool.or_eq_true, Bool.not_eq_true', decide_eq_false_iff_not] at hqt20_1
        refine wp_skip ?_
        (try simp only [Exit.then, Exit.inBlock, ↓reduceIte, Nat.reduceEqDiff])
        refine hK10 _ _ ?_
        refine wp_seq_k (fun K13 hK13 => ?_)
        refine wp_region_lit ?_
        refine sqv hf (r_fa rfl Try.underlying81 (f := 0) (q := 0) rfl (by kernel_rfl) rfl) rfl rfl rfl ?_; clear hf fa; intro fa hf
        refine sqv hf (r_load (v := (.string ip.1)) rfl Try.underlying9 rfl (cell_blk hk1 rfl)) rfl rfl rfl ?_; clear hf fa; intro fa hf
        refine sqv hf (r_fa rfl Try.underlying81 (f := 1) (q := 1) rfl (by kernel_rfl) rfl) rfl rfl rfl ?_; clear hf fa; intro fa hf
        refine sqv hf (r_load (v := (.string ip.2.1)) rfl Try.underlying9 rfl (cell_blk hk1 rfl)) rfl rfl rfl ?_; clear hf fa; intro fa hf
        refine sqv hf (r_fa rfl Try.underlying81 (f := 2) (q := 2) rfl (by kernel_rfl) rfl) rfl rfl rfl ?_; clear hf fa; intro fa hf
        refine sqv hf (r_load (v := (.int .u8 ip.2.2.1)) rfl Try.underlying5 rfl (cell_blk hk1 rfl)) rfl rfl rfl ?_; clear hf fa; intro fa hf
        refine sqv hf (r_build (vs := [(0, (.string ip.1)), (1, (.string ip.2.1)), (2, (.int .u8 ip.2.2.1))]) (cs := #[(.string ip.1), (.string ip.2.1), (.int .u8 ip.2.2.1), (.int .u32 (0 : Int)), (.int .u32 (0 : Int)), (.int .u32 (0 : Int)), (.bool false), (.int .u8 (0 : Int)), (.bool false)]) rfl (fun _ => by kernel_rfl)) rfl rfl rfl ?_; clear hf fa; intro fa hf
        refine sqdt hf (d_alloc (z := (.agg #[(.string ⟨#[]⟩), (.string ⟨#[]⟩), (.int .u8 (0 : Int)), (.int .u32 (0 : Int)), (.int .u32 (0 : Int)), (.int .u32 (0 : Int)), (.bool false), (.int .u8 (0 : Int)), (.bool false)])) (cs := #[(.string ⟨#[]⟩), (.string ⟨#[]⟩), (.int .u8 (0 : Int)), (.int .u32 (0 : Int)), (.int .u32 (0 : Int)), (.int .u32 (0 : Int)), (.bool false), (.int .u8 (0 : Int)), (.bool false)]) (by kernel_rfl) rfl) rfl rfl rfl ?_; clear hf fa; rintro fa _ w4 ⟨b2, rfl, hle2, hk2, he4⟩ hf
        have hBb2 : w.heap.size ≤ b2 := Nat.le_trans hb.size hle2
        have : b1 < b2 := Nat.lt_of_lt_of_le (blk_lt hk1) hle2
        replace hk1 := blk_ext hk1 he4
        replace hb := hb.trans (Below.mono he4 hb.size)
        refine sqn hf (d_storeK (T := 81) (v := (.agg #[(.string ip.1), (.string ip.2.1), (.int .u8 ip.2.2.1), (.int .u32 (0 : Int)), (.int .u32 (0 : Int)), (.int .u32 (0 : Int)), (.bool false), (.int .u8 (0 : Int)), (.bool false)])) (cs := #[(.string ⟨#[]⟩), (.string ⟨#[]⟩), (.int .u8 (0 : Int)), (.int .u32 (0 : Int)), (.int .u32 (0 : Int)), (.int .u32 (0 : Int)), (.bool false), (.int .u8 (0 : Int)), (.bool false)]) (cs' := #[(.string ip.1), (.string ip.2.1), (.int .u8 ip.2.2.1), (.int .u32 (0 : Int)), (.int .u32 (0 : Int)), (.int .u32 (0 : Int)), (.bool false), (.int .u8 (0 : Int)), (.bool false)]) rfl rfl (by kernel_rfl) (by kernel_rfl) hk2 (by kernel_rfl) (by kernel_rfl)) rfl rfl ?_; clear hf fa; rintro fa _ w5 ⟨hk3, hg1⟩ hf
        replace hk1 := blk_grown hk1 hg1 (by omega)
        replace hb := hb.trans (grown_below hg1 hb.size hBb2)
        apply wpList_nil
        (try simp only [Exit.then, Exit.inBlock, ↓reduceIte, Nat.reduceEqDiff])
        refine hK13 _ _ ?_
        refine wp_seq_k (fun K14 hK14 => ?_)
        refine wp_seq_k (fun K15 hK15 => ?_)
        refine wp_region_lit ?_
        refine sqv hf (r_fa rfl Try.underlying81 (f := 2) (q := 2) rfl (by kernel_rfl) rfl) rfl rfl rfl ?_; clear hf fa; intro fa hf
        refine sqv hf (r_load (v := (.int .u8 ip.2.2.1)) rfl Try.underlying5 rfl (cell_blk hk1 rfl)) rfl rfl rfl ?_; clear hf fa; intro fa hf
        apply wpList_nil
        (try simp only [Exit.then, Exit.inBlock, ↓reduceIte, Nat.reduceEqDiff])
        refine hK15 _ _ ?_
        refine wp_block ?_
        refine wp_seq_k (fun K16 hK16 => ?_)
        refine wp_region_lit ?_
        refine sqv hf (r_eq rfl rfl) rfl rfl rfl ?_; clear hf fa; intro fa hf
        refine sqv hf (r_assign rfl) rfl rfl rfl ?_; clear hf fa; intro fa hf
        apply wpList_nil
        (try simp only [Exit.then, Exit.inBlock, ↓reduceIte, Nat.reduceEqDiff])
        refine hK16 _ _ ?_
        refine wp_cond_split (t := (decide (ip.2.2.1 = (0 : Int)))) (hf.ev rfl) (fun hqt33_1 => ?_) (fun hqt33_1 => ?_)
        · have hqt33_1b := hqt33_1
          try simp only [decide_eq_true_eq, Bool.and_eq_true, Bool.or_eq_true, Bool.not_eq_true', decide_eq_false_iff_not, ne_eq, Bool.not_eq_true] at hqt33_1
          refine wp_region_lit ?_
          refine sqv hf (r_fa rfl Try.underlying81 (f := 3) (q := 3) rfl (by kernel_rfl) rfl) rfl rfl rfl ?_; clear hf fa; intro fa hf
          refine sqv hf (r_load (v := (.int .u32 ip.2.2.2.1)) rfl Try.underlying24 rfl (cell_blk hk1 rfl)) rfl rfl rfl ?_; clear hf fa; intro fa hf
          refine sqv hf (r_fa rfl Try.underlying81 (f := 3) (q := 3) rfl (by kernel_rfl) rfl) rfl rfl rfl ?_; clear hf fa; intro fa hf
          refine sqn hf (d_storeK (T := 81) (v := (.int .u32 ip.2.2.2.1)) (cs := #[(.string ip.1), (.string ip.2.1), (.int .u8 ip.2.2.1), (.int .u32 (0 : Int)), (.int .u32 (0 : Int)), (.int .u32 (0 : Int)), (.bool false), (.int .u8 (0 : Int)), (.bool false)]) (cs' := #[(.string ip.1), (.string ip.2.1), (.int .u8 ip.2.2.1), (.int .u32 ip.2.2.2.1), (.int .u32 (0 : Int)), (.int .u32 (0 : Int)), (.bool false), (.int .u8 (0 : Int)), (.bool false)]) rfl rfl (by kernel_rfl) (by kernel_rfl) hk3 (by kernel_rfl) (by kernel_rfl)) rfl rfl ?_; clear hf fa; rintro fa _ w6 ⟨hk4, hg2⟩ hf
          replace hk1 := blk_grown hk1 hg2 (by omega)
          replace hb := hb.trans (grown_below hg2 hb.size hBb2)
          apply wpList_nil
          (try simp only [Exit.then, Exit.inBlock, ↓reduceIte, Nat.reduceEqDiff])
          refine hK14 _ _ ?_
          refine wp_seq_k (fun K17 hK17 => ?_)
          refine wp_block ?_
          refine wp_seq_k (fun K18 hK18 => ?_)
          refine wp_region_lit ?_
          refine sqv hf (r_loadA (cs := [(.string ip.1), (.string ip.2.1), (.int .u8 ip.2.2.1), (.int .u32 ip.2.2.2.1), (.int .u32 (0 : Int)), (.int .u32 (0 : Int)), (.bool false), (.int .u8 (0 : Int)), (.bool false)]) rfl Try.underlying81 rfl (by kernel_rfl) (cellsAt_blk hk4)) rfl rfl rfl ?_; clear hf fa; intro fa hf
          refine sqv hf (r_loadA (cs := [(.string ip.1), (.string ip.2.1), (.int .u8 ip.2.2.1), (.int .u32 ip.2.2.2.1), (.int .u32 ip.2.2.2.2.1.1), (.int .u32 ip.2.2.2.2.1.2.1), (.bool ip.2.2.2.2.1.2.2.1), (.int .u8 ip.2.2.2.2.2.1.1), (.bool ip.2.2.2.2.2.1.2.1)]) rfl Try.underlying81 rfl (by kernel_rfl) (cellsAt_blk hk1)) rfl rfl rfl ?_; clear hf fa; intro fa hf
          refine sqv hf (r_ane (k := 5) rfl rfl (by kernel_rfl) (eqt_struct (xs := #[(.string ip.1), (.string ip.2.1), (.int .u8 ip.2.2.1), (.int .u32 ip.2.2.2.1), (.int .u32 (0 : Int)), (.int .u32 (0 : Int)), (.bool false), (.int .u8 (0 : Int)), (.bool false)]) (ys := #[(.string ip.1), (.string ip.2.1), (.int .u8 ip.2.2.1), (.int .u32 ip.2.2.2.1), (.int .u32 ip.2.2.2.2.1.1), (.int .u32 ip.2.2.2.2.1.2.1), (.bool ip.2.2.2.2.1.2.2.1), (.int .u8 ip.2.2.2.2.2.1.1), (.bool ip.2.2.2.2.2.1.2.1)]) Try.underlying81 (by kernel_rfl) (eqf_cons (by kernel_rfl) (fun _ => by kernel_rfl) (fun _ => by kernel_rfl) (eqt_str (a := ip.1) (b := ip.1) Try.underlying9) (eqf_cons (by kernel_rfl) (fun _ => by kernel_rfl) (fun _ => by kernel_rfl) (eqt_str (a := ip.2.1) (b := ip.2.1) Try.underlying9) (eqf_cons (by kernel_rfl) (fun _ => by kernel_rfl) (fun _ => by kernel_rfl) (eqt_int (kk := .u8) (a := ip.2.2.1) (b := ip.2.2.1) Try.underlying5) (eqf_cons (by kernel_rfl) (fun _ => by kernel_rfl) (fun _ => by kernel_rfl) (eqt_int (kk := .u32) (a := ip.2.2.2.1) (b := ip.2.2.2.1) Try.underlying24) (eqf_cons (by kernel_rfl) (fun _ => by kernel_rfl) (fun _ => by kernel_rfl) (eqt_struct (xs := #[(.int .u32 (0 : Int)), (.int .u32 (0 : Int)), (.bool false)]) (ys := #[(.int .u32 ip.2.2.2.2.1.1), (.int .u32 ip.2.2.2.2.1.2.1), (.bool ip.2.2.2.2.1.2.2.1)]) Try.underlying43 (by kernel_rfl) (eqf_cons (by kernel_rfl) (fun _ => by kernel_rfl) (fun _ => by kernel_rfl) (eqt_int (kk := .u32) (a := (0 : Int)) (b := ip.2.2.2.2.1.1) Try.underlying24) (eqf_cons (by kernel_rfl) (fun _ => by kernel_rfl) (fun _ => by kernel_rfl) (eqt_int (kk := .u32) (a := (0 : Int)) (b := ip.2.2.2.2.1.2.1) Try.underlying24) (eqf_one (by kernel_rfl) (fun _ => by kernel_rfl) (fun _ => by kernel_rfl) (eqt_bool (a := false) (b := ip.2.2.2.2.1.2.2.1) Try.underlying4))))) (eqf_one (by kernel_rfl) (fun _ => by kernel_rfl) (fun _ => by kernel_rfl) (eqt_struct (xs := #[(.int .u8 (0 : Int)), (.bool false)]) (ys := #[(.int .u8 ip.2.2.2.2.2.1.1), (.bool ip.2.2.2.2.2.1.2.1)]) Try.underlying54 (by kernel_rfl) (eqf_cons (by kernel_rfl) (fun _ => by kernel_rfl) (fun _ => by kernel_rfl) (eqt_int (kk := .u8) (a := (0 : Int)) (b := ip.2.2.2.2.2.1.1) Try.underlying5) (eqf_one (by kernel_rfl) (fun _ => by kernel_rfl) (fun _ => by kernel_rfl) (eqt_bool (a := false) (b := ip.2.2.2.2.2.1.2.1) Try.underlying4))))))))))) rfl) rfl rfl rfl ?_; clear hf fa; intro fa hf
          refine sqv hf (r_move rfl) rfl rfl rfl ?_; clear hf fa; intro fa hf
          refine sqgF (act := (!(!((decide (ip.1 = ip.1)) && ((decide (ip.2.1 = ip.2.1)) && ((decide (ip.2.2.1 = ip.2.2.1)) && ((decide (ip.2.2.2.1 = ip.2.2.2.1)) && (((decide ((0 : Int) = ip.2.2.2.2.1.1)) && ((decide ((0 : Int) = ip.2.2.2.2.1.2.1)) && (false == ip.2.2.2.2.1.2.2.1))) && ((decide ((0 : Int) = ip.2.2.2.2.2.1.1)) && (false == ip.2.2.2.2.2.1.2.1)))))))))) (ag := true) (c := (!((decide (ip.1 = ip.1)) && ((decide (ip.2.1 = ip.2.1)) && ((decide (ip.2.2.1 = ip.2.2.1)) && ((decide (ip.2.2.2.1 = ip.2.2.2.1)) && (((decide ((0 : Int) = ip.2.2.2.2.1.1)) && ((decide ((0 : Int) = ip.2.2.2.2.1.2.1)) && (false == ip.2.2.2.2.1.2.2.1))) && ((decide ((0 : Int) = ip.2.2.2.2.2.1.1)) && (false == ip.2.2.2.2.2.1.2.1))))))))) (v := (.pointer (some ⟨b1, 4, none⟩))) hf rfl rfl rfl (fun hact => (r_fa rfl Try.underlying81 (f := 4) (q := 4) rfl (by kernel_rfl) rfl)) rfl rfl ?_; clear hf fa; intro fa hf
          refine sqgF (act := (!(!((decide (ip.1 = ip.1)) && ((decide (ip.2.1 = ip.2.1)) && ((decide (ip.2.2.1 = ip.2.2.1)) && ((decide (ip.2.2.2.1 = ip.2.2.2.1)) && (((decide ((0 : Int) = ip.2.2.2.2.1.1)) && ((decide ((0 : Int) = ip.2.2.2.2.1.2.1)) && (false == ip.2.2.2.2.1.2.2.1))) && ((decide ((0 : Int) = ip.2.2.2.2.2.1.1)) && (false == ip.2.2.2.2.2.1.2.1)))))))))) (ag := true) (c := (!((decide (ip.1 = ip.1)) && ((decide (ip.2.1 = ip.2.1)) && ((decide (ip.2.2.1 = ip.2.2.1)) && ((decide (ip.2.2.2.1 = ip.2.2.2.1)) && (((decide ((0 : Int) = ip.2.2.2.2.1.1)) && ((decide ((0 : Int) = ip.2.2.2.2.1.2.1)) && (false == ip.2.2.2.2.1.2.2.1))) && ((decide ((0 : Int) = ip.2.2.2.2.2.1.1)) && (false == ip.2.2.2.2.2.1.2.1))))))))) (v := (.pointer (some ⟨b1, 6, none⟩))) hf rfl rfl rfl (fun hact => (r_fa (gb_ev hact rfl) Try.underlying43 (f := 2) (q := 6) rfl (by kernel_rfl) rfl)) rfl rfl ?_; clear hf fa; intro fa hf
          refine sqgF (act := (!(!((decide (ip.1 = ip.1)) && ((decide (ip.2.1 = ip.2.1)) && ((decide (ip.2.2.1 = ip.2.2.1)) && ((decide (ip.2.2.2.1 = ip.2.2.2.1)) && (((decide ((0 : Int) = ip.2.2.2.2.1.1)) && ((decide ((0 : Int) = ip.2.2.2.2.1.2.1)) && (false == ip.2.2.2.2.1.2.2.1))) && ((decide ((0 : Int) = ip.2.2.2.2.2.1.1)) && (false == ip.2.2.2.2.2.1.2.1)))))))))) (ag := true) (c := (!((decide (ip.1 = ip.1)) && ((decide (ip.2.1 = ip.2.1)) && ((decide (ip.2.2.1 = ip.2.2.1)) && ((decide (ip.2.2.2.1 = ip.2.2.2.1)) && (((decide ((0 : Int) = ip.2.2.2.2.1.1)) && ((decide ((0 : Int) = ip.2.2.2.2.1.2.1)) && (false == ip.2.2.2.2.1.2.2.1))) && ((decide ((0 : Int) = ip.2.2.2.2.2.1.1)) && (false == ip.2.2.2.2.2.1.2.1))))))))) (v := (.bool ip.2.2.2.2.1.2.2.1)) hf rfl rfl rfl (fun hact => (r_load (v := (.bool ip.2.2.2.2.1.2.2.1)) (gb_ev hact rfl) Try.underlying4 rfl (cell_blk hk1 rfl))) rfl rfl ?_; clear hf fa; intro fa hf
          refine sqgF (act := (!(!((decide (ip.1 = ip.1)) && ((decide (ip.2.1 = ip.2.1)) && ((decide (ip.2.2.1 = ip.2.2.1)) && ((decide (ip.2.2.2.1 = ip.2.2.2.1)) && (((decide ((0 : Int) = ip.2.2.2.2.1.1)) && ((decide ((0 : Int) = ip.2.2.2.2.1.2.1)) && (false == ip.2.2.2.2.1.2.2.1))) && ((decide ((0 : Int) = ip.2.2.2.2.2.1.1)) && (false == ip.2.2.2.2.2.1.2.1)))))))))) (ag := true) (c := (!((decide (ip.1 = ip.1)) && ((decide (ip.2.1 = ip.2.1)) && ((decide (ip.2.2.1 = ip.2.2.1)) && ((decide (ip.2.2.2.1 = ip.2.2.2.1)) && (((decide ((0 : Int) = ip.2.2.2.2.1.1)) && ((decide ((0 : Int) = ip.2.2.2.2.1.2.1)) && (false == ip.2.2.2.2.1.2.2.1))) && ((decide ((0 : Int) = ip.2.2.2.2.2.1.1)) && (false == ip.2.2.2.2.2.1.2.1))))))))) (v := (.bool (!ip.2.2.2.2.1.2.2.1))) hf rfl rfl rfl (fun hact => (r_not (gb_ev hact rfl))) rfl rfl ?_; clear hf fa; intro fa hf
          refine sqgF (act := (!(!((decide (ip.1 = ip.1)) && ((decide (ip.2.1 = ip.2.1)) && ((decide (ip.2.2.1 = ip.2.2.1)) && ((decide (ip.2.2.2.1 = ip.2.2.2.1)) && (((decide ((0 : Int) = ip.2.2.2.2.1.1)) && ((decide ((0 : Int) = ip.2.2.2.2.1.2.1)) && (false == ip.2.2.2.2.1.2.2.1))) && ((decide ((0 : Int) = ip.2.2.2.2.2.1.1)) && (false == ip.2.2.2.2.2.1.2.1)))))))))) (ag := true) (c := (!((decide (ip.1 = ip.1)) && ((decide (ip.2.1 = ip.2.1)) && ((decide (ip.2.2.1 = ip.2.2.1)) && ((decide (ip.2.2.2.1 = ip.2.2.2.1)) && (((decide ((0 : Int) = ip.2.2.2.2.1.1)) && ((decide ((0 : Int) = ip.2.2.2.2.1.2.1)) && (false == ip.2.2.2.2.1.2.2.1))) && ((decide ((0 : Int) = ip.2.2.2.2.2.1.1)) && (false == ip.2.2.2.2.2.1.2.1))))))))) (v := (.bool (!ip.2.2.2.2.1.2.2.1))) hf rfl rfl rfl (fun hact => (r_move (gb_ev hact rfl))) rfl rfl ?_; clear hf fa; intro fa hf
          refine sqgT (act := ((!(!((decide (ip.1 = ip.1)) && ((decide (ip.2.1 = ip.2.1)) && ((decide (ip.2.2.1 = ip.2.2.1)) && ((decide (ip.2.2.2.1 = ip.2.2.2.1)) && (((decide ((0 : Int) = ip.2.2.2.2.1.1)) && ((decide ((0 : Int) = ip.2.2.2.2.1.2.1)) && (false == ip.2.2.2.2.1.2.2.1))) && ((decide ((0 : Int) = ip.2.2.2.2.2.1.1)) && (false == ip.2.2.2.2.2.1.2.1))))))))) && (!ip.2.2.2.2.1.2.2.1))) (ag := (!(!((decide (ip.1 = ip.1)) && ((decide (ip.2.1 = ip.2.1)) && ((decide (ip.2.2.1 = ip.2.2.1)) && ((decide (ip.2.2.2.1 = ip.2.2.2.1)) && (((decide ((0 : Int) = ip.2.2.2.2.1.1)) && ((decide ((0 : Int) = ip.2.2.2.2.1.2.1)) && (false == ip.2.2.2.2.1.2.2.1))) && ((decide ((0 : Int) = ip.2.2.2.2.2.1.1)) && (false == ip.2.2.2.2.2.1.2.1)))))))))) (c := (!ip.2.2.2.2.1.2.2.1)) (v := (.pointer (some ⟨b1, 4, none⟩))) hf rfl rfl rfl (fun hact => (r_fa rfl Try.underlying81 (f := 4) (q := 4) rfl (by kernel_rfl) rfl)) rfl rfl ?_; clear hf fa; intro fa hf
          refine sqgT (act := ((!(!((decide (ip.1 = ip.1)) && ((decide (ip.2.1 = ip.2.1)) && ((decide (ip.2.2.1 = ip.2.2.1)) && ((decide (ip.2.2.2.1 = ip.2.2.2.1)) && (((decide ((0 : Int) = ip.2.2.2.2.1.1)) && ((decide ((0 : Int) = ip.2.2.2.2.1.2.1)) && (false == ip.2.2.2.2.1.2.2.1))) && ((decide ((0 : Int) = ip.2.2.2.2.2.1.1)) && (false == ip.2.2.2.2.2.1.2.1))))))))) && (!ip.2.2.2.2.1.2.2.1))) (ag := (!(!((decide (ip.1 = ip.1)) && ((decide (ip.2.1 = ip.2.1)) && ((decide (ip.2.2.1 = ip.2.2.1)) && ((decide (ip.2.2.2.1 = ip.2.2.2.1)) && (((decide ((0 : Int) = ip.2.2.2.2.1.1)) && ((decide ((0 : Int) = ip.2.2.2.2.1.2.1)) && (false == ip.2.2.2.2.1.2.2.1))) && ((decide ((0 : Int) = ip.2.2.2.2.2.1.1)) && (false == ip.2.2.2.2.2.1.2.1)))))))))) (c := (!ip.2.2.2.2.1.2.2.1)) (v := (.pointer (some ⟨b1, 5, none⟩))) hf rfl rfl rfl (fun hact => (r_fa (gb_ev hact rfl) Try.underlying43 (f := 1) (q := 5) rfl (by kernel_rfl) rfl)) rfl rfl ?_; clear hf fa; intro fa hf
          refine sqgT (act := ((!(!((decide (ip.1 = ip.1)) && ((decide (ip.2.1 = ip.2.1)) && ((decide (ip.2.2.1 = ip.2.2.1)) && ((decide (ip.2.2.2.1 = ip.2.2.2.1)) && (((decide ((0 : Int) = ip.2.2.2.2.1.1)) && ((decide ((0 : Int) = ip.2.2.2.2.1.2.1)) && (false == ip.2.2.2.2.1.2.2.1))) && ((decide ((0 : Int) = ip.2.2.2.2.2.1.1)) && (false == ip.2.2.2.2.2.1.2.1))))))))) && (!ip.2.2.2.2.1.2.2.1))) (ag := (!(!((decide (ip.1 = ip.1)) && ((decide (ip.2.1 = ip.2.1)) && ((decide (ip.2.2.1 = ip.2.2.1)) && ((decide (ip.2.2.2.1 = ip.2.2.2.1)) && (((decide ((0 : Int) = ip.2.2.2.2.1.1)) && ((decide ((0 : Int) = ip.2.2.2.2.1.2.1)) && (false == ip.2.2.2.2.1.2.2.1))) && ((decide ((0 : Int) = ip.2.2.2.2.2.1.1)) && (false == ip.2.2.2.2.2.1.2.1)))))))))) (c := (!ip.2.2.2.2.1.2.2.1)) (v := (.int .u32 ip.2.2.2.2.1.2.1)) hf rfl rfl rfl (fun hact => (r_load (v := (.int .u32 ip.2.2.2.2.1.2.1)) (gb_ev hact rfl) Try.underlying24 rfl (cell_blk hk1 rfl))) rfl rfl ?_; clear hf fa; intro fa hf
          refine sqgT (act := ((!(!((decide (ip.1 = ip.1)) && ((decide (ip.2.1 = ip.2.1)) && ((decide (ip.2.2.1 = ip.2.2.1)) && ((decide (ip.2.2.2.1 = ip.2.2.2.1)) && (((decide ((0 : Int) = ip.2.2.2.2.1.1)) && ((decide ((0 : Int) = ip.2.2.2.2.1.2.1)) && (false == ip.2.2.2.2.1.2.2.1))) && ((decide ((0 : Int) = ip.2.2.2.2.2.1.1)) && (false == ip.2.2.2.2.2.1.2.1))))))))) && (!ip.2.2.2.2.1.2.2.1))) (ag := (!(!((decide (ip.1 = ip.1)) && ((decide (ip.2.1 = ip.2.1)) && ((decide (ip.2.2.1 = ip.2.2.1)) && ((decide (ip.2.2.2.1 = ip.2.2.2.1)) && (((decide ((0 : Int) = ip.2.2.2.2.1.1)) && ((decide ((0 : Int) = ip.2.2.2.2.1.2.1)) && (false == ip.2.2.2.2.1.2.2.1))) && ((decide ((0 : Int) = ip.2.2.2.2.2.1.1)) && (false == ip.2.2.2.2.2.1.2.1)))))))))) (c := (!ip.2.2.2.2.1.2.2.1)) (v := (.bool (decide (ip.2.2.2.2.1.2.1 ≠ (0 : Int))))) hf rfl rfl rfl (fun hact => (r_ne (gb_ev hact rfl) rfl)) rfl rfl ?_; clear hf fa; intro fa hf
          refine sqgF (act := (!(!((decide (ip.1 = ip.1)) && ((decide (ip.2.1 = ip.2.1)) && ((decide (ip.2.2.1 = ip.2.2.1)) && ((decide (ip.2.2.2.1 = ip.2.2.2.1)) && (((decide ((0 : Int) = ip.2.2.2.2.1.1)) && ((decide ((0 : Int) = ip.2.2.2.2.1.2.1)) && (false == ip.2.2.2.2.1.2.2.1))) && ((decide ((0 : Int) = ip.2.2.2.2.2.1.1)) && (false == ip.2.2.2.2.2.1.2.1)))))))))) (ag := true) (c := (!((decide (ip.1 = ip.1)) && ((decide (ip.2.1 = ip.2.1)) && ((decide (ip.2.2.1 = ip.2.2.1)) && ((decide (ip.2.2.2.1 = ip.2.2.2.1)) && (((decide ((0 : Int) = ip.2.2.2.2.1.1)) && ((decide ((0 : Int) = ip.2.2.2.2.1.2.1)) && (false == ip.2.2.2.2.1.2.2.1))) && ((decide ((0 : Int) = ip.2.2.2.2.2.1.1)) && (false == ip.2.2.2.2.2.1.2.1))))))))) (v := (.bool ((!ip.2.2.2.2.1.2.2.1) && (decide (ip.2.2.2.2.1.2.1 ≠ (0 : Int)))))) hf rfl rfl rfl (fun hact => (r_pickA2 (q := (!(!((decide (ip.1 = ip.1)) && ((decide (ip.2.1 = ip.2.1)) && ((decide (ip.2.2.1 = ip.2.2.1)) && ((decide (ip.2.2.2.1 = ip.2.2.2.1)) && (((decide ((0 : Int) = ip.2.2.2.2.1.1)) && ((decide ((0 : Int) = ip.2.2.2.2.1.2.1)) && (false == ip.2.2.2.2.1.2.2.1))) && ((decide ((0 : Int) = ip.2.2.2.2.2.1.1)) && (false == ip.2.2.2.2.2.1.2.1)))))))))) (b := (!ip.2.2.2.2.1.2.2.1)) (e := (decide (ip.2.2.2.2.1.2.1 ≠ (0 : Int)))) hact rfl rfl rfl)) rfl rfl ?_; clear hf fa; intro fa hf
          refine sqv hf (r_pickO (b := (!((decide (ip.1 = ip.1)) && ((decide (ip.2.1 = ip.2.1)) && ((decide (ip.2.2.1 = ip.2.2.1)) && ((decide (ip.2.2.2.1 = ip.2.2.2.1)) && (((decide ((0 : Int) = ip.2.2.2.2.1.1)) && ((decide ((0 : Int) = ip.2.2.2.2.1.2.1)) && (false == ip.2.2.2.2.1.2.2.1))) && ((decide ((0 : Int) = ip.2.2.2.2.2.1.1)) && (false == ip.2.2.2.2.2.1.2.1))))))))) (e := ((!ip.2.2.2.2.1.2.2.1) && (decide (ip.2.2.2.2.1.2.1 ≠ (0 : Int))))) rfl rfl rfl) rfl rfl rfl ?_; clear hf fa; intro fa hf
          refine sqv hf (r_assign rfl) rfl rfl rfl ?_; clear hf fa; intro fa hf
          apply wpList_nil
          (try simp only [Exit.then, Exit.inBlock, ↓reduceIte, Nat.reduceEqDiff])
          refine hK18 _ _ ?_
          refine wp_cond_split (t := ((!((decide (ip.1 = ip.1)) && ((decide (ip.2.1 = ip.2.1)) && ((decide (ip.2.2.1 = ip.2.2.1)) && ((decide (ip.2.2.2.1 = ip.2.2.2.1)) && (((decide ((0 : Int) = ip.2.2.2.2.1.1)) && ((decide ((0 : Int) = ip.2.2.2.2.1.2.1)) && (false == ip.2.2.2.2.1.2.2.1))) && ((decide ((0 : Int) = ip.2.2.2.2.2.1.1)) && (false == ip.2.2.2.2.2.1.2.1)))))))) || ((!ip.2.2.2.2.1.2.2.1) && (decide (ip.2.2.2.2.1.2.1 ≠ (0 : Int)))))) (hf.ev rfl) (fun hqt43_1 => ?_) (fun hqt43_1 => ?_)
          · have hqt43_1b := hqt43_1
            try simp only [decide_eq_true_eq, Bool.and_eq_true, Bool.or_eq_true, Bool.not_eq_true', decide_eq_false_iff_not, ne_eq, Bool.not_eq_true] at hqt43_1
            refine wp_seq_k (fun K19 hK19 => ?_)
            refine wp_region_lit ?_
            refine sqv hf (r_assign rfl) rfl rfl rfl ?_; clear hf fa; intro fa hf
            apply wpList_nil
            (try simp only [Exit.then, Exit.inBlock, ↓reduceIte, Nat.reduceEqDiff])
            refine hK19 _ _ ?_
            refine wp_ret ?_
            (try simp only [Exit.then, Exit.inBlock])
            refine ret1 hf rfl rfl ?_
            refine ⟨?_, hb⟩; unfold irightP; rw [hqt10_1b, hqt16_1b, hqt20_1b, hqt33_1b, hqt43_1b]; (try rfl)
          · have hqt43_1b := hqt43_1
            replace hqt43_1 := Bool.eq_false_iff.1 hqt43_1
            try simp only [ne_eq, decide_eq_true_eq, Bool.and_eq_true, Bool.or_eq_true, Bool.not_eq_true', decide_eq_false_iff_not] at hqt43_1
            refine wp_seq_k (fun K20 hK20 => ?_)
            refine wp_region_lit ?_
            refine sqv hf (r_fa rfl Try.underlying81 (f := 2) (q := 2) rfl (by kernel_rfl) rfl) rfl rfl rfl ?_; clear hf fa; intro fa hf
            refine sqv hf (r_load (v := (.int .u8 ip.2.2.1)) rfl Try.underlying5 rfl (cell_blk hk1 rfl)) rfl rfl rfl ?_; clear hf fa; intro fa hf
            refine sqv hf (r_eq rfl rfl) rfl rfl rfl ?_; clear hf fa; intro fa hf
            refine sqv hf (r_assign rfl) rfl rfl rfl ?_; clear hf fa; intro fa hf
            apply wpList_nil
            (try simp only [Exit.then, Exit.inBlock, ↓reduceIte, Nat.reduceEqDiff])
            refine hK20 _ _ ?_
            refine wp_cond_split (t := (decide (ip.2.2.1 = (3 : Int)))) (hf.ev rfl) (fun hqt59_1 => ?_) (fun hqt59_1 => ?_)
            · have hqt59_1b := hqt59_1
              try simp only [decide_eq_true_eq, Bool.and_eq_true, Bool.or_eq_true, Bool.not_eq_true', decide_eq_false_iff_not, ne_eq, Bool.not_eq_true] at hqt59_1
              refine wp_seq_k (fun K21 hK21 => ?_)
              refine wp_region_lit ?_
              refine sqv hf (r_fa rfl Try.underlying81 (f := 5) (q := 7) rfl (by kernel_rfl) rfl) rfl rfl rfl ?_; clear hf fa; intro fa hf
              refine sqv hf (r_fa rfl Try.underlying54 (f := 0) (q := 7) rfl (by kernel_rfl) rfl) rfl rfl rfl ?_; clear hf fa; intro fa hf
              refine sqv hf (r_load (v := (.int .u8 ip.2.2.2.2.2.1.1)) rfl Try.underlying5 rfl (cell_blk hk1 rfl)) rfl rfl rfl ?_; clear hf fa; intro fa hf
              refine sqdt hf (d_callS (vs := [(.int .u8 ip.2.2.2.2.2.1.1)]) rfl Try.func46 (by kernel_rfl) (by kernel_rfl) (tval_any ip.2.2.2.2.2.1.1 _)) rfl rfl rfl ?_; clear hf fa; rintro fa _ _ ⟨rfl, rfl⟩ hf
              refine sqv hf (r_assign rfl) rfl rfl rfl ?_; clear hf fa; intro fa hf
              apply wpList_nil
              (try simp only [Exit.then, Exit.inBlock, ↓reduceIte, Nat.reduceEqDiff])
              refine hK21 _ _ ?_
              refine wp_ret ?_
              (try simp only [Exit.then, Exit.inBlock])
              refine ret1 hf rfl rfl ?_
              refine ⟨?_, hb⟩; unfold irightP; rw [hqt10_1b, hqt16_1b, hqt20_1b, hqt33_1b, hqt43_1b, hqt59_1b]; (try rfl)
            · have hqt59_1b := hqt59_1
              replace hqt59_1 := Bool.eq_false_iff.1 hqt59_1
              try simp only [ne_eq, decide_eq_true_eq, Bool.and_eq_true, Bool.or_eq_true, Bool.not_eq_true', decide_eq_false_iff_not] at hqt59_1
              refine wp_skip ?_
              (try simp only [Exit.then, Exit.inBlock, ↓reduceIte, Nat.reduceEqDiff])
              refine hK17 _ _ ?_
              refine wp_seq_k (fun K22 hK22 => ?_)
              refine wp_region_lit ?_
              refine sqv hf (r_assign rfl) rfl rfl rfl ?_; clear hf fa; intro fa hf
              apply wpList_nil
              (try simp only [Exit.then, Exit.inBlock, ↓reduceIte, Nat.reduceEqDiff])
              refine hK22 _ _ ?_
              refine wp_ret ?_
              (try simp only [Exit.then, Exit.inBlock])
              refine ret1 hf rfl rfl ?_
              refine ⟨?_, hb⟩; unfold irightP; rw [hqt10_1b, hqt16_1b, hqt20_1b, hqt33_1b, hqt43_1b, hqt59_1b]; (try rfl)
        · have hqt33_1b := hqt33_1
          replace hqt33_1 := Bool.eq_false_iff.1 hqt33_1
          try simp only [ne_eq, decide_eq_true_eq, Bool.and_eq_true, Bool.or_eq_true, Bool.not_eq_true', decide_eq_false_iff_not] at hqt33_1
          refine wp_seq_k (fun K23 hK23 => ?_)
          refine wp_region_lit ?_
          refine sqv hf (r_eq rfl rfl) rfl rfl rfl ?_; clear hf fa; intro fa hf
          refine sqv hf (r_assign rfl) rfl rfl rfl ?_; clear hf fa; intro fa hf
          apply wpList_nil
          (try simp only [Exit.then, Exit.inBlock, ↓reduceIte, Nat.reduceEqDiff])
          refine hK23 _ _ ?_
          refine wp_cond_split (t := (decide (ip.2.2.1 = (3 : Int)))) (hf.ev rfl) (fun hqt38_1 => ?_) (fun hqt38_1 => ?_)
          · have hqt38_1b := hqt38_1
            try simp only [decide_eq_true_eq, Bool.and_eq_true, Bool.or_eq_true, Bool.not_eq_true', decide_eq_false_iff_not, ne_eq, Bool.not_eq_true] at hqt38_1
            refine wp_region_lit ?_
            refine sqv hf (r_fa rfl Try.underlying81 (f := 5) (q := 7) rfl (by kernel_rfl) rfl) rfl rfl rfl ?_; clear hf fa; intro fa hf
            refine sqv hf (r_loadA (cs := [(.int .u8 ip.2.2.2.2.2.1.1), (.bool ip.2.2.2.2.2.1.2.1)]) rfl Try.underlying54 rfl (by kernel_rfl) (cellsAt_part (d := 7) (n := 2) (cellsAt_blk hk1) rfl rfl)) rfl rfl rfl ?_; clear hf fa; intro fa hf
            refine sqv hf (r_fa rfl Try.underlying81 (f := 5) (q := 7) rfl (by kernel_rfl) rfl) rfl rfl rfl ?_; clear hf fa; intro fa hf
            refine sqn hf (d_storeK (T := 81) (v := (.agg #[(.int .u8 ip.2.2.2.2.2.1.1), (.bool ip.2.2.2.2.2.1.2.1)])) (cs := #[(.string ip.1), (.string ip.2.1), (.int .u8 ip.2.2.1), (.int .u32 (0 : Int)), (.int .u32 (0 : Int)), (.int .u32 (0 : Int)), (.bool false), (.int .u8 (0 : Int)), (.bool false)]) (cs' := #[(.string ip.1), (.string ip.2.1), (.int .u8 ip.2.2.1), (.int .u32 (0 : Int)), (.int .u32 (0 : Int)), (.int .u32 (0 : Int)), (.bool false), (.int .u8 ip.2.2.2.2.2.1.1), (.bool ip.2.2.2.2.2.1.2.1)]) rfl rfl (by kernel_rfl) (by kernel_rfl) hk3 (by kernel_rfl) (by kernel_rfl)) rfl rfl ?_; clear hf fa; rintro fa _ w7 ⟨hk5, hg3⟩ hf
            replace hk1 := blk_grown hk1 hg3 (by omega)
            replace hb := hb.trans (grown_below hg3 hb.size hBb2)
            apply wpList_nil
            (try simp only [Exit.then, Exit.inBlock, ↓reduceIte, Nat.reduceEqDiff])
            refine hK14 _ _ ?_
            refine wp_seq_k (fun K24 hK24 => ?_)
            refine wp_block ?_
            refine wp_seq_k (fun K25 hK25 => ?_)
            refine wp_region_lit ?_
            refine sqv hf (r_loadA (cs := [(.string ip.1), (.string ip.2.1), (.int .u8 ip.2.2.1), (.int .u32 (0 : Int)), (.int .u32 (0 : Int)), (.int .u32 (0 : Int)), (.bool false), (.int .u8 ip.2.2.2.2.2.1.1), (.bool ip.2.2.2.2.2.1.2.1)]) rfl Try.underlying81 rfl (by kernel_rfl) (cellsAt_blk hk5)) rfl rfl rfl ?_; clear hf fa; intro fa hf
            refine sqv hf (r_loadA (cs := [(.string ip.1), (.string ip.2.1), (.int .u8 ip.2.2.1), (.int .u32 ip.2.2.2.1), (.int .u32 ip.2.2.2.2.1.1), (.int .u32 ip.2.2.2.2.1.2.1), (.bool ip.2.2.2.2.1.2.2.1), (.int .u8 ip.2.2.2.2.2.1.1), (.bool ip.2.2.2.2.2.1.2.1)]) rfl Try.underlying81 rfl (by kernel_rfl) (cellsAt_blk hk1)) rfl rfl rfl ?_; clear hf fa; intro fa hf
            refine sqv hf (r_ane (k := 5) rfl rfl (by kernel_rfl) (eqt_struct (xs := #[(.string ip.1), (.string ip.2.1), (.int .u8 ip.2.2.1), (.int .u32 (0 : Int)), (.int .u32 (0 : Int)), (.int .u32 (0 : Int)), (.bool false), (.int .u8 ip.2.2.2.2.2.1.1), (.bool ip.2.2.2.2.2.1.2.1)]) (ys := #[(.string ip.1), (.string ip.2.1), (.int .u8 ip.2.2.1), (.int .u32 ip.2.2.2.1), (.int .u32 ip.2.2.2.2.1.1), (.int .u32 ip.2.2.2.2.1.2.1), (.bool ip.2.2.2.2.1.2.2.1), (.int .u8 ip.2.2.2.2.2.1.1), (.bool ip.2.2.2.2.2.1.2.1)]) Try.underlying81 (by kernel_rfl) (eqf_cons (by kernel_rfl) (fun _ => by kernel_rfl) (fun _ => by kernel_rfl) (eqt_str (a := ip.1) (b := ip.1) Try.underlying9) (eqf_cons (by kernel_rfl) (fun _ => by kernel_rfl) (fun _ => by kernel_rfl) (eqt_str (a := ip.2.1) (b := ip.2.1) Try.underlying9) (eqf_cons (by kernel_rfl) (fun _ => by kernel_rfl) (fun _ => by kernel_rfl) (eqt_int (kk := .u8) (a := ip.2.2.1) (b := ip.2.2.1) Try.underlying5) (eqf_cons (by kernel_rfl) (fun _ => by kernel_rfl) (fun _ => by kernel_rfl) (eqt_int (kk := .u32) (a := (0 : Int)) (b := ip.2.2.2.1) Try.underlying24) (eqf_cons (by kernel_rfl) (fun _ => by kernel_rfl) (fun _ => by kernel_rfl) (eqt_struct (xs := #[(.int .u32 (0 : Int)), (.int .u32 (0 : Int)), (.bool false)]) (ys := #[(.int .u32 ip.2.2.2.2.1.1), (.int .u32 ip.2.2.2.2.1.2.1), (.bool ip.2.2.2.2.1.2.2.1)]) Try.underlying43 (by kernel_rfl) (eqf_cons (by kernel_rfl) (fun _ => by kernel_rfl) (fun _ => by kernel_rfl) (eqt_int (kk := .u32) (a := (0 : Int)) (b := ip.2.2.2.2.1.1) Try.underlying24) (eqf_cons (by kernel_rfl) (fun _ => by kernel_rfl) (fun _ => by kernel_rfl) (eqt_int (kk := .u32) (a := (0 : Int)) (b := ip.2.2.2.2.1.2.1) Try.underlying24) (eqf_one (by kernel_rfl) (fun _ => by kernel_rfl) (fun _ => by kernel_rfl) (eqt_bool (a := false) (b := ip.2.2.2.2.1.2.2.1) Try.underlying4))))) (eqf_one (by kernel_rfl) (fun _ => by kernel_rfl) (fun _ => by kernel_rfl) (eqt_struct (xs := #[(.int .u8 ip.2.2.2.2.2.1.1), (.bool ip.2.2.2.2.2.1.2.1)]) (ys := #[(.int .u8 ip.2.2.2.2.2.1.1), (.bool ip.2.2.2.2.2.1.2.1)]) Try.underlying54 (by kernel_rfl) (eqf_cons (by kernel_rfl) (fun _ => by kernel_rfl) (fun _ => by kernel_rfl) (eqt_int (kk := .u8) (a := ip.2.2.2.2.2.1.1) (b := ip.2.2.2.2.2.1.1) Try.underlying5) (eqf_one (by kernel_rfl) (fun _ => by kernel_rfl) (fun _ => by kernel_rfl) (eqt_bool (a := ip.2.2.2.2.2.1.2.1) (b := ip.2.2.2.2.2.1.2.1) Try.underlying4))))))))))) rfl) rfl rfl rfl ?_; clear hf fa; intro fa hf
            refine sqv hf (r_move rfl) rfl rfl rfl ?_; clear hf fa; intro fa hf
            refine sqgF (act := (!(!((decide (ip.1 = ip.1)) && ((decide (ip.2.1 = ip.2.1)) && ((decide (ip.2.2.1 = ip.2.2.1)) && ((decide ((0 : Int) = ip.2.2.2.1)) && (((decide ((0 : Int) = ip.2.2.2.2.1.1)) && ((decide ((0 : Int) = ip.2.2.2.2.1.2.1)) && (false == ip.2.2.2.2.1.2.2.1))) && ((decide (ip.2.2.2.2.2.1.1 = ip.2.2.2.2.2.1.1)) && (ip.2.2.2.2.2.1.2.1 == ip.2.2.2.2.2.1.2.1)))))))))) (ag := true) (c := (!((decide (ip.1 = ip.1)) && ((decide (ip.2.1 = ip.2.1)) && ((decide (ip.2.2.1 = ip.2.2.1)) && ((decide ((0 : Int) = ip.2.2.2.1)) && (((decide ((0 : Int) = ip.2.2.2.2.1.1)) && ((decide ((0 : Int) = ip.2.2.2.2.1.2.1)) && (false == ip.2.2.2.2.1.2.2.1))) && ((decide (ip.2.2.2.2.2.1.1 = ip.2.2.2.2.2.1.1)) && (ip.2.2.2.2.2.1.2.1 == ip.2.2.2.2.2.1.2.1))))))))) (v := (.pointer (some ⟨b1, 4, none⟩))) hf rfl rfl rfl (fun hact => (r_fa rfl Try.underlying81 (f := 4) (q := 4) rfl (by kernel_rfl) rfl)) rfl rfl ?_; clear hf fa; intro fa hf
            refine sqgF (act := (!(!((decide (ip.1 = ip.1)) && ((decide (ip.2.1 = ip.2.1)) && ((decide (ip.2.2.1 = ip.2.2.1)) && ((decide ((0 : Int) = ip.2.2.2.1)) && (((decide ((0 : Int) = ip.2.2.2.2.1.1)) && ((decide ((0 : Int) = ip.2.2.2.2.1.2.1)) && (false == ip.2.2.2.2.1.2.2.1))) && ((decide (ip.2.2.2.2.2.1.1 = ip.2.2.2.2.2.1.1)) && (ip.2.2.2.2.2.1.2.1 == ip.2.2.2.2.2.1.2.1)))))))))) (ag := true) (c := (!((decide (ip.1 = ip.1)) && ((decide (ip.2.1 = ip.2.1)) && ((decide (ip.2.2.1 = ip.2.2.1)) && ((decide ((0 : Int) = ip.2.2.2.1)) && (((decide ((0 : Int) = ip.2.2.2.2.1.1)) && ((decide ((0 : Int) = ip.2.2.2.2.1.2.1)) && (false == ip.2.2.2.2.1.2.2.1))) && ((decide (ip.2.2.2.2.2.1.1 = ip.2.2.2.2.2.1.1)) && (ip.2.2.2.2.2.1.2.1 == ip.2.2.2.2.2.1.2.1))))))))) (v := (.pointer (some ⟨b1, 6, none⟩))) hf rfl rfl rfl (fun hact => (r_fa (gb_ev hact rfl) Try.underlying43 (f := 2) (q := 6) rfl (by kernel_rfl) rfl)) rfl rfl ?_; clear hf fa; intro fa hf
            refine sqgF (act := (!(!((decide (ip.1 = ip.1)) && ((decide (ip.2.1 = ip.2.1)) && ((decide (ip.2.2.1 = ip.2.2.1)) && ((decide ((0 : Int) = ip.2.2.2.1)) && (((decide ((0 : Int) = ip.2.2.2.2.1.1)) && ((decide ((0 : Int) = ip.2.2.2.2.1.2.1)) && (false == ip.2.2.2.2.1.2.2.1))) && ((decide (ip.2.2.2.2.2.1.1 = ip.2.2.2.2.2.1.1)) && (ip.2.2.2.2.2.1.2.1 == ip.2.2.2.2.2.1.2.1)))))))))) (ag := true) (c := (!((decide (ip.1 = ip.1)) && ((decide (ip.2.1 = ip.2.1)) && ((decide (ip.2.2.1 = ip.2.2.1)) && ((decide ((0 : Int) = ip.2.2.2.1)) && (((decide ((0 : Int) = ip.2.2.2.2.1.1)) && ((decide ((0 : Int) = ip.2.2.2.2.1.2.1)) && (false == ip.2.2.2.2.1.2.2.1))) && ((decide (ip.2.2.2.2.2.1.1 = ip.2.2.2.2.2.1.1)) && (ip.2.2.2.2.2.1.2.1 == ip.2.2.2.2.2.1.2.1))))))))) (v := (.bool ip.2.2.2.2.1.2.2.1)) hf rfl rfl rfl (fun hact => (r_load (v := (.bool ip.2.2.2.2.1.2.2.1)) (gb_ev hact rfl) Try.underlying4 rfl (cell_blk hk1 rfl))) rfl rfl ?_; clear hf fa; intro fa hf
            refine sqgF (act := (!(!((decide (ip.1 = ip.1)) && ((decide (ip.2.1 = ip.2.1)) && ((decide (ip.2.2.1 = ip.2.2.1)) && ((decide ((0 : Int) = ip.2.2.2.1)) && (((decide ((0 : Int) = ip.2.2.2.2.1.1)) && ((decide ((0 : Int) = ip.2.2.2.2.1.2.1)) && (false == ip.2.2.2.2.1.2.2.1))) && ((decide (ip.2.2.2.2.2.1.1 = ip.2.2.2.2.2.1.1)) && (ip.2.2.2.2.2.1.2.1 == ip.2.2.2.2.2.1.2.1)))))))))) (ag := true) (c := (!((decide (ip.1 = ip.1)) && ((decide (ip.2.1 = ip.2.1)) && ((decide (ip.2.2.1 = ip.2.2.1)) && ((decide ((0 : Int) = ip.2.2.2.1)) && (((decide ((0 : Int) = ip.2.2.2.2.1.1)) && ((decide ((0 : Int) = ip.2.2.2.2.1.2.1)) && (false == ip.2.2.2.2.1.2.2.1))) && ((decide (ip.2.2.2.2.2.1.1 = ip.2.2.2.2.2.1.1)) && (ip.2.2.2.2.2.1.2.1 == ip.2.2.2.2.2.1.2.1))))))))) (v := (.bool (!ip.2.2.2.2.1.2.2.1))) hf rfl rfl rfl (fun hact => (r_not (gb_ev hact rfl))) rfl rfl ?_; clear hf fa; intro fa hf
            refine sqgF (act := (!(!((decide (ip.1 = ip.1)) && ((decide (ip.2.1 = ip.2.1)) && ((decide (ip.2.2.1 = ip.2.2.1)) && ((decide ((0 : Int) = ip.2.2.2.1)) && (((decide ((0 : Int) = ip.2.2.2.2.1.1)) && ((decide ((0 : Int) = ip.2.2.2.2.1.2.1)) && (false == ip.2.2.2.2.1.2.2.1))) && ((decide (ip.2.2.2.2.2.1.1 = ip.2.2.2.2.2.1.1)) && (ip.2.2.2.2.2.1.2.1 == ip.2.2.2.2.2.1.2.1)))))))))) (ag := true) (c := (!((decide (ip.1 = ip.1)) && ((decide (ip.2.1 = ip.2.1)) && ((decide (ip.2.2.1 = ip.2.2.1)) && ((decide ((0 : Int) = ip.2.2.2.1)) && (((decide ((0 : Int) = ip.2.2.2.2.1.1)) && ((decide ((0 : Int) = ip.2.2.2.2.1.2.1)) && (false == ip.2.2.2.2.1.2.2.1))) && ((decide (ip.2.2.2.2.2.1.1 = ip.2.2.2.2.2.1.1)) && (ip.2.2.2.2.2.1.2.1 == ip.2.2.2.2.2.1.2.1))))))))) (v := (.bool (!ip.2.2.2.2.1.2.2.1))) hf rfl rfl rfl (fun hact => (r_move (gb_ev hact rfl))) rfl rfl ?_; clear hf fa; intro fa hf
            refine sqgT (act := ((!(!((decide (ip.1 = ip.1)) && ((decide (ip.2.1 = ip.2.1)) && ((decide (ip.2.2.1 = ip.2.2.1)) && ((decide ((0 : Int) = ip.2.2.2.1)) && (((decide ((0 : Int) = ip.2.2.2.2.1.1)) && ((decide ((0 : Int) = ip.2.2.2.2.1.2.1)) && (false == ip.2.2.2.2.1.2.2.1))) && ((decide (ip.2.2.2.2.2.1.1 = ip.2.2.2.2.2.1.1)) && (ip.2.2.2.2.2.1.2.1 == ip.2.2.2.2.2.1.2.1))))))))) && (!ip.2.2.2.2.1.2.2.1))) (ag := (!(!((decide (ip.1 = ip.1)) && ((decide (ip.2.1 = ip.2.1)) && ((decide (ip.2.2.1 = ip.2.2.1)) && ((decide ((0 : Int) = ip.2.2.2.1)) && (((decide ((0 : Int) = ip.2.2.2.2.1.1)) && ((decide ((0 : Int) = ip.2.2.2.2.1.2.1)) && (false == ip.2.2.2.2.1.2.2.1))) && ((decide (ip.2.2.2.2.2.1.1 = ip.2.2.2.2.2.1.1)) && (ip.2.2.2.2.2.1.2.1 == ip.2.2.2.2.2.1.2.1)))))))))) (c := (!ip.2.2.2.2.1.2.2.1)) (v := (.pointer (some ⟨b1, 4, none⟩))) hf rfl rfl rfl (fun hact => (r_fa rfl Try.underlying81 (f := 4) (q := 4) rfl (by kernel_rfl) rfl)) rfl rfl ?_; clear hf fa; intro fa hf
            refine sqgT (act := ((!(!((decide (ip.1 = ip.1)) && ((decide (ip.2.1 = ip.2.1)) && ((decide (ip.2.2.1 = ip.2.2.1)) && ((decide ((0 : Int) = ip.2.2.2.1)) && (((decide ((0 : Int) = ip.2.2.2.2.1.1)) && ((decide ((0 : Int) = ip.2.2.2.2.1.2.1)) && (false == ip.2.2.2.2.1.2.2.1))) && ((decide (ip.2.2.2.2.2.1.1 = ip.2.2.2.2.2.1.1)) && (ip.2.2.2.2.2.1.2.1 == ip.2.2.2.2.2.1.2.1))))))))) && (!ip.2.2.2.2.1.2.2.1))) (ag := (!(!((decide (ip.1 = ip.1)) && ((decide (ip.2.1 = ip.2.1)) && ((decide (ip.2.2.1 = ip.2.2.1)) && ((decide ((0 : Int) = ip.2.2.2.1)) && (((decide ((0 : Int) = ip.2.2.2.2.1.1)) && ((decide ((0 : Int) = ip.2.2.2.2.1.2.1)) && (false == ip.2.2.2.2.1.2.2.1))) && ((decide (ip.2.2.2.2.2.1.1 = ip.2.2.2.2.2.1.1)) && (ip.2.2.2.2.2.1.2.1 == ip.2.2.2.2.2.1.2.1)))))))))) (c := (!ip.2.2.2.2.1.2.2.1)) (v := (.pointer (some ⟨b1, 5, none⟩))) hf rfl rfl rfl (fun hact => (r_fa (gb_ev hact rfl) Try.underlying43 (f := 1) (q := 5) rfl (by kernel_rfl) rfl)) rfl rfl ?_; clear hf fa; intro fa hf
            refine sqgT (act := ((!(!((decide (ip.1 = ip.1)) && ((decide (ip.2.1 = ip.2.1)) && ((decide (ip.2.2.1 = ip.2.2.1)) && ((decide ((0 : Int) = ip.2.2.2.1)) && (((decide ((0 : Int) = ip.2.2.2.2.1.1)) && ((decide ((0 : Int) = ip.2.2.2.2.1.2.1)) && (false == ip.2.2.2.2.1.2.2.1))) && ((decide (ip.2.2.2.2.2.1.1 = ip.2.2.2.2.2.1.1)) && (ip.2.2.2.2.2.1.2.1 == ip.2.2.2.2.2.1.2.1))))))))) && (!ip.2.2.2.2.1.2.2.1))) (ag := (!(!((decide (ip.1 = ip.1)) && ((decide (ip.2.1 = ip.2.1)) && ((decide (ip.2.2.1 = ip.2.2.1)) && ((decide ((0 : Int) = ip.2.2.2.1)) && (((decide ((0 : Int) = ip.2.2.2.2.1.1)) && ((decide ((0 : Int) = ip.2.2.2.2.1.2.1)) && (false == ip.2.2.2.2.1.2.2.1))) && ((decide (ip.2.2.2.2.2.1.1 = ip.2.2.2.2.2.1.1)) && (ip.2.2.2.2.2.1.2.1 == ip.2.2.2.2.2.1.2.1)))))))))) (c := (!ip.2.2.2.2.1.2.2.1)) (v := (.int .u32 ip.2.2.2.2.1.2.1)) hf rfl rfl rfl (fun hact => (r_load (v := (.int .u32 ip.2.2.2.2.1.2.1)) (gb_ev hact rfl) Try.underlying24 rfl (cell_blk hk1 rfl))) rfl rfl ?_; clear hf fa; intro fa hf
            refine sqgT (act := ((!(!((decide (ip.1 = ip.1)) && ((decide (ip.2.1 = ip.2.1)) && ((decide (ip.2.2.1 = ip.2.2.1)) && ((decide ((0 : Int) = ip.2.2.2.1)) && (((decide ((0 : Int) = ip.2.2.2.2.1.1)) && ((decide ((0 : Int) = ip.2.2.2.2.1.2.1)) && (false == ip.2.2.2.2.1.2.2.1))) && ((decide (ip.2.2.2.2.2.1.1 = ip.2.2.2.2.2.1.1)) && (ip.2.2.2.2.2.1.2.1 == ip.2.2.2.2.2.1.2.1))))))))) && (!ip.2.2.2.2.1.2.2.1))) (ag := (!(!((decide (ip.1 = ip.1)) && ((decide (ip.2.1 = ip.2.1)) && ((decide (ip.2.2.1 = ip.2.2.1)) && ((decide ((0 : Int) = ip.2.2.2.1)) && (((decide ((0 : Int) = ip.2.2.2.2.1.1)) && ((decide ((0 : Int) = ip.2.2.2.2.1.2.1)) && (false == ip.2.2.2.2.1.2.2.1))) && ((decide (ip.2.2.2.2.2.1.1 = ip.2.2.2.2.2.1.1)) && (ip.2.2.2.2.2.1.2.1 == ip.2.2.2.2.2.1.2.1)))))))))) (c := (!ip.2.2.2.2.1.2.2.1)) (v := (.bool (decide (ip.2.2.2.2.1.2.1 ≠ (0 : Int))))) hf rfl rfl rfl (fun hact => (r_ne (gb_ev hact rfl) rfl)) rfl rfl ?_; clear hf fa; intro fa hf
            refine sqgF (act := (!(!((decide (ip.1 = ip.1)) && ((decide (ip.2.1 = ip.2.1)) && ((decide (ip.2.2.1 = ip.2.2.1)) && ((decide ((0 : Int) = ip.2.2.2.1)) && (((decide ((0 : Int) = ip.2.2.2.2.1.1)) && ((decide ((0 : Int) = ip.2.2.2.2.1.2.1)) && (false == ip.2.2.2.2.1.2.2.1))) && ((decide (ip.2.2.2.2.2.1.1 = ip.2.2.2.2.2.1.1)) && (ip.2.2.2.2.2.1.2.1 == ip.2.2.2.2.2.1.2.1)))))))))) (ag := true) (c := (!((decide (ip.1 = ip.1)) && ((decide (ip.2.1 = ip.2.1)) && ((decide (ip.2.2.1 = ip.2.2.1)) && ((decide ((0 : Int) = ip.2.2.2.1)) && (((decide ((0 : Int) = ip.2.2.2.2.1.1)) && ((decide ((0 : Int) = ip.2.2.2.2.1.2.1)) && (false == ip.2.2.2.2.1.2.2.1))) && ((decide (ip.2.2.2.2.2.1.1 = ip.2.2.2.2.2.1.1)) && (ip.2.2.2.2.2.1.2.1 == ip.2.2.2.2.2.1.2.1))))))))) (v := (.bool ((!ip.2.2.2.2.1.2.2.1) && (decide (ip.2.2.2.2.1.2.1 ≠ (0 : Int)))))) hf rfl rfl rfl (fun hact => (r_pickA2 (q := (!(!((decide (ip.1 = ip.1)) && ((decide (ip.2.1 = ip.2.1)) && ((decide (ip.2.2.1 = ip.2.2.1)) && ((decide ((0 : Int) = ip.2.2.2.1)) && (((decide ((0 : Int) = ip.2.2.2.2.1.1)) && ((decide ((0 : Int) = ip.2.2.2.2.1.2.1)) && (false == ip.2.2.2.2.1.2.2.1))) && ((decide (ip.2.2.2.2.2.1.1 = ip.2.2.2.2.2.1.1)) && (ip.2.2.2.2.2.1.2.1 == ip.2.2.2.2.2.1.2.1)))))))))) (b := (!ip.2.2.2.2.1.2.2.1)) (e := (decide (ip.2.2.2.2.1.2.1 ≠ (0 : Int)))) hact rfl rfl rfl)) rfl rfl ?_; clear hf fa; intro fa hf
            refine sqv hf (r_pickO (b := (!((decide (ip.1 = ip.1)) && ((decide (ip.2.1 = ip.2.1)) && ((decide (ip.2.2.1 = ip.2.2.1)) && ((decide ((0 : Int) = ip.2.2.2.1)) && (((decide ((0 : Int) = ip.2.2.2.2.1.1)) && ((decide ((0 : Int) = ip.2.2.2.2.1.2.1)) && (false == ip.2.2.2.2.1.2.2.1))) && ((decide (ip.2.2.2.2.2.1.1 = ip.2.2.2.2.2.1.1)) && (ip.2.2.2.2.2.1.2.1 == ip.2.2.2.2.2.1.2.1))))))))) (e := ((!ip.2.2.2.2.1.2.2.1) && (decide (ip.2.2.2.2.1.2.1 ≠ (0 : Int))))) rfl rfl rfl) rfl rfl rfl ?_; clear hf fa; intro fa hf
            refine sqv hf (r_assign rfl) rfl rfl rfl ?_; clear hf fa; intro fa hf
            apply wpList_nil
            (try simp only [Exit.then, Exit.inBlock, ↓reduceIte, Nat.reduceEqDiff])
            refine hK25 _ _ ?_
            refine wp_cond_split (t := ((!((decide (ip.1 = ip.1)) && ((decide (ip.2.1 = ip.2.1)) && ((decide (ip.2.2.1 = ip.2.2.1)) && ((decide ((0 : Int) = ip.2.2.2.1)) && (((decide ((0 : Int) = ip.2.2.2.2.1.1)) && ((decide ((0 : Int) = ip.2.2.2.2.1.2.1)) && (false == ip.2.2.2.2.1.2.2.1))) && ((decide (ip.2.2.2.2.2.1.1 = ip.2.2.2.2.2.1.1)) && (ip.2.2.2.2.2.1.2.1 == ip.2.2.2.2.2.1.2.1)))))))) || ((!ip.2.2.2.2.1.2.2.1) && (decide (ip.2.2.2.2.1.2.1 ≠ (0 : Int)))))) (hf.ev rfl) (fun hqt43_2 => ?_) (fun hqt43_2 => ?_)
            · have hqt43_2b := hqt43_2
              try simp only [decide_eq_true_eq, Bool.and_eq_true, Bool.or_eq_true, Bool.not_eq_true', decide_eq_false_iff_not, ne_eq, Bool.not_eq_true] at hqt43_2
              refine wp_seq_k (fun K26 hK26 => ?_)
              refine wp_region_lit ?_
              refine sqv hf (r_assign rfl) rfl rfl rfl ?_; clear hf fa; intro fa hf
              apply wpList_nil
              (try simp only [Exit.then, Exit.inBlock, ↓reduceIte, Nat.reduceEqDiff])
              refine hK26 _ _ ?_
              refine wp_ret ?_
              (try simp only [Exit.then, Exit.inBlock])
              refine ret1 hf rfl rfl ?_
              refine ⟨?_, hb⟩; unfold irightP; rw [hqt10_1b, hqt16_1b, hqt20_1b, hqt33_1b, hqt38_1b, hqt43_2b]; (try rfl)
            · have hqt43_2b := hqt43_2
              replace hqt43_2 := Bool.eq_false_iff.1 hqt43_2
              try simp only [ne_eq, decide_eq_true_eq, Bool.and_eq_true, Bool.or_eq_true, Bool.not_eq_true', decide_eq_false_iff_not] at hqt43_2
              refine wp_seq_k (fun K27 hK27 => ?_)
              refine wp_region_lit ?_
              refine sqv hf (r_fa rfl Try.underlying81 (f := 2) (q := 2) rfl (by kernel_rfl) rfl) rfl rfl rfl ?_; clear hf fa; intro fa hf
              refine sqv hf (r_load (v := (.int .u8 ip.2.2.1)) rfl Try.underlying5 rfl (cell_blk hk1 rfl)) rfl rfl rfl ?_; clear hf fa; intro fa hf
              refine sqv hf (r_eq rfl rfl) rfl rfl rfl ?_; clear hf fa; intro fa hf
              refine sqv hf (r_assign rfl) rfl rfl rfl ?_; clear hf fa; intro fa hf
              apply wpList_nil
              (try simp only [Exit.then, Exit.inBlock, ↓reduceIte, Nat.reduceEqDiff])
              refine hK27 _ _ ?_
              refine wp_cond_true ((hf.ev rfl).trans (congrArg Value.bool (show (decide (ip.2.2.1 = (3 : Int))) = true from hqt38_1b))) ?_
              refine wp_seq_k (fun K28 hK28 => ?_)
              refine wp_region_lit ?_
              refine sqv hf (r_fa rfl Try.underlying81 (f := 5) (q := 7) rfl (by kernel_rfl) rfl) rfl rfl rfl ?_; clear hf fa; intro fa hf
              refine sqv hf (r_fa rfl Try.underlying54 (f := 0) (q := 7) rfl (by kernel_rfl) rfl) rfl rfl rfl ?_; clear hf fa; intro fa hf
              refine sqv hf (r_load (v := (.int .u8 ip.2.2.2.2.2.1.1)) rfl Try.underlying5 rfl (cell_blk hk1 rfl)) rfl rfl rfl ?_; clear hf fa; intro fa hf
              refine sqdt hf (d_callS (vs := [(.int .u8 ip.2.2.2.2.2.1.1)]) rfl Try.func46 (by kernel_rfl) (by kernel_rfl) (tval_any ip.2.2.2.2.2.1.1 _)) rfl rfl rfl ?_; clear hf fa; rintro fa _ _ ⟨rfl, rfl⟩ hf
              refine sqv hf (r_assign rfl) rfl rfl rfl ?_; clear hf fa; intro fa hf
              apply wpList_nil
              (try simp only [Exit.then, Exit.inBlock, ↓reduceIte, Nat.reduceEqDiff])
              refine hK28 _ _ ?_
              refine wp_ret ?_
              (try simp only [Exit.then, Exit.inBlock])
              refine ret1 hf rfl rfl ?_
              refine ⟨?_, hb⟩; unfold irightP; rw [hqt10_1b, hqt16_1b, hqt20_1b, hqt33_1b, hqt38_1b, hqt43_2b]; (try rfl)
          · have hqt38_1b := hqt38_1
            replace hqt38_1 := Bool.eq_false_iff.1 hqt38_1
            try simp only [ne_eq, decide_eq_true_eq, Bool.and_eq_true, Bool.or_eq_true, Bool.not_eq_true', decide_eq_false_iff_not] at hqt38_1
            refine wp_region_lit ?_
            refine sqv hf (r_fa rfl Try.underlying81 (f := 4) (q := 4) rfl (by kernel_rfl) rfl) rfl rfl rfl ?_; clear hf fa; intro fa hf
            refine sqv hf (r_loadA (cs := [(.int .u32 ip.2.2.2.2.1.1), (.int .u32 ip.2.2.2.2.1.2.1), (.bool ip.2.2.2.2.1.2.2.1)]) rfl Try.underlying43 rfl (by kernel_rfl) (cellsAt_part (d := 4) (n := 3) (cellsAt_blk hk1) rfl rfl)) rfl rfl rfl ?_; clear hf fa; intro fa hf
            refine sqv hf (r_fa rfl Try.underlying81 (f := 4) (q := 4) rfl (by kernel_rfl) rfl) rfl rfl rfl ?_; clear hf fa; intro fa hf
            refine sqn hf (d_storeK (T := 81) (v := (.agg #[(.int .u32 ip.2.2.2.2.1.1), (.int .u32 ip.2.2.2.2.1.2.1), (.bool ip.2.2.2.2.1.2.2.1)])) (cs := #[(.string ip.1), (.string ip.2.1), (.int .u8 ip.2.2.1), (.int .u32 (0 : Int)), (.int .u32 (0 : Int)), (.int .u32 (0 : Int)), (.bool false), (.int .u8 (0 : Int)), (.bool false)]) (cs' := #[(.string ip.1), (.string ip.2.1), (.int .u8 ip.2.2.1), (.int .u32 (0 : Int)), (.int .u32 ip.2.2.2.2.1.1), (.int .u32 ip.2.2.2.2.1.2.1), (.bool ip.2.2.2.2.1.2.2.1), (.int .u8 (0 : Int)), (.bool false)]) rfl rfl (by kernel_rfl) (by kernel_rfl) hk3 (by kernel_rfl) (by kernel_rfl)) rfl rfl ?_; clear hf fa; rintro fa _ w8 ⟨hk6, hg4⟩ hf
            replace hk1 := blk_grown hk1 hg4 (by omega)
            replace hb := hb.trans (grown_below hg4 hb.size hBb2)
            apply wpList_nil
            (try simp only [Exit.then, Exit.inBlock, ↓reduceIte, Nat.reduceEqDiff])
            refine hK14 _ _ ?_
            refine wp_seq_k (fun K29 hK29 => ?_)
            refine wp_block ?_
            refine wp_seq_k (fun K30 hK30 => ?_)
            refine wp_region_lit ?_
            refine sqv hf (r_loadA (cs := [(.string ip.1), (.string ip.2.1), (.int .u8 ip.2.2.1), (.int .u32 (0 : Int)), (.int .u32 ip.2.2.2.2.1.1), (.int .u32 ip.2.2.2.2.1.2.1), (.bool ip.2.2.2.2.1.2.2.1), (.int .u8 (0 : Int)), (.bool false)]) rfl Try.underlying81 rfl (by kernel_rfl) (cellsAt_blk hk6)) rfl rfl rfl ?_; clear hf fa; intro fa hf
            refine sqv hf (r_loadA (cs := [(.string ip.1), (.string ip.2.1), (.int .u8 ip.2.2.1), (.int .u32 ip.2.2.2.1), (.int .u32 ip.2.2.2.2.1.1), (.int .u32 ip.2.2.2.2.1.2.1), (.bool ip.2.2.2.2.1.2.2.1), (.int .u8 ip.2.2.2.2.2.1.1), (.bool ip.2.2.2.2.2.1.2.1)]) rfl Try.underlying81 rfl (by kernel_rfl) (cellsAt_blk hk1)) rfl rfl rfl ?_; clear hf fa; intro fa hf
            refine sqv hf (r_ane (k := 5) rfl rfl (by kernel_rfl) (eqt_struct (xs := #[(.string ip.1), (.string ip.2.1), (.int .u8 ip.2.2.1), (.int .u32 (0 : Int)), (.int .u32 ip.2.2.2.2.1.1), (.int .u32 ip.2.2.2.2.1.2.1), (.bool ip.2.2.2.2.1.2.2.1), (.int .u8 (0 : Int)), (.bool false)]) (ys := #[(.string ip.1), (.string ip.2.1), (.int .u8 ip.2.2.1), (.int .u32 ip.2.2.2.1), (.int .u32 ip.2.2.2.2.1.1), (.int .u32 ip.2.2.2.2.1.2.1), (.bool ip.2.2.2.2.1.2.2.1), (.int .u8 ip.2.2.2.2.2.1.1), (.bool ip.2.2.2.2.2.1.2.1)]) Try.underlying81 (by kernel_rfl) (eqf_cons (by kernel_rfl) (fun _ => by kernel_rfl) (fun _ => by kernel_rfl) (eqt_str (a := ip.1) (b := ip.1) Try.underlying9) (eqf_cons (by kernel_rfl) (fun _ => by kernel_rfl) (fun _ => by kernel_rfl) (eqt_str (a := ip.2.1) (b := ip.2.1) Try.underlying9) (eqf_cons (by kernel_rfl) (fun _ => by kernel_rfl) (fun _ => by kernel_rfl) (eqt_int (kk := .u8) (a := ip.2.2.1) (b := ip.2.2.1) Try.underlying5) (eqf_cons (by kernel_rfl) (fun _ => by kernel_rfl) (fun _ => by kernel_rfl) (eqt_int (kk := .u32) (a := (0 : Int)) (b := ip.2.2.2.1) Try.underlying24) (eqf_cons (by kernel_rfl) (fun _ => by kernel_rfl) (fun _ => by kernel_rfl) (eqt_struct (xs := #[(.int .u32 ip.2.2.2.2.1.1), (.int .u32 ip.2.2.2.2.1.2.1), (.bool ip.2.2.2.2.1.2.2.1)]) (ys := #[(.int .u32 ip.2.2.2.2.1.1), (.int .u32 ip.2.2.2.2.1.2.1), (.bool ip.2.2.2.2.1.2.2.1)]) Try.underlying43 (by kernel_rfl) (eqf_cons (by kernel_rfl) (fun _ => by kernel_rfl) (fun _ => by kernel_rfl) (eqt_int (kk := .u32) (a := ip.2.2.2.2.1.1) (b := ip.2.2.2.2.1.1) Try.underlying24) (eqf_cons (by kernel_rfl) (fun _ => by kernel_rfl) (fun _ => by kernel_rfl) (eqt_int (kk := .u32) (a := ip.2.2.2.2.1.2.1) (b := ip.2.2.2.2.1.2.1) Try.underlying24) (eqf_one (by kernel_rfl) (fun _ => by kernel_rfl) (fun _ => by kernel_rfl) (eqt_bool (a := ip.2.2.2.2.1.2.2.1) (b := ip.2.2.2.2.1.2.2.1) Try.underlying4))))) (eqf_one (by kernel_rfl) (fun _ => by kernel_rfl) (fun _ => by kernel_rfl) (eqt_struct (xs := #[(.int .u8 (0 : Int)), (.bool false)]) (ys := #[(.int .u8 ip.2.2.2.2.2.1.1), (.bool ip.2.2.2.2.2.1.2.1)]) Try.underlying54 (by kernel_rfl) (eqf_cons (by kernel_rfl) (fun _ => by kernel_rfl) (fun _ => by kernel_rfl) (eqt_int (kk := .u8) (a := (0 : Int)) (b := ip.2.2.2.2.2.1.1) Try.underlying5) (eqf_one (by kernel_rfl) (fun _ => by kernel_rfl) (fun _ => by kernel_rfl) (eqt_bool (a := false) (b := ip.2.2.2.2.2.1.2.1) Try.underlying4))))))))))) rfl) rfl rfl rfl ?_; clear hf fa; intro fa hf
            refine sqv hf (r_move rfl) rfl rfl rfl ?_; clear hf fa; intro fa hf
            refine sqgF (act := (!(!((decide (ip.1 = ip.1)) && ((decide (ip.2.1 = ip.2.1)) && ((decide (ip.2.2.1 = ip.2.2.1)) && ((decide ((0 : Int) = ip.2.2.2.1)) && (((decide (ip.2.2.2.2.1.1 = ip.2.2.2.2.1.1)) && ((decide (ip.2.2.2.2.1.2.1 = ip.2.2.2.2.1.2.1)) && (ip.2.2.2.2.1.2.2.1 == ip.2.2.2.2.1.2.2.1))) && ((decide ((0 : Int) = ip.2.2.2.2.2.1.1)) && (false == ip.2.2.2.2.2.1.2.1)))))))))) (ag := true) (c := (!((decide (ip.1 = ip.1)) && ((decide (ip.2.1 = ip.2.1)) && ((decide (ip.2.2.1 = ip.2.2.1)) && ((decide ((0 : Int) = ip.2.2.2.1)) && (((decide (ip.2.2.2.2.1.1 = ip.2.2.2.2.1.1)) && ((decide (ip.2.2.2.2.1.2.1 = ip.2.2.2.2.1.2.1)) && (ip.2.2.2.2.1.2.2.1 == ip.2.2.2.2.1.2.2.1))) && ((decide ((0 : Int) = ip.2.2.2.2.2.1.1)) && (false == ip.2.2.2.2.2.1.2.1))))))))) (v := (.pointer (some ⟨b1, 4, none⟩))) hf rfl rfl rfl (fun hact => (r_fa rfl Try.underlying81 (f := 4) (q := 4) rfl (by kernel_rfl) rfl)) rfl rfl ?_; clear hf fa; intro fa hf
            refine sqgF (act := (!(!((decide (ip.1 = ip.1)) && ((decide (ip.2.1 = ip.2.1)) && ((decide (ip.2.2.1 = ip.2.2.1)) && ((decide ((0 : Int) = ip.2.2.2.1)) && (((decide (ip.2.2.2.2.1.1 = ip.2.2.2.2.1.1)) && ((decide (ip.2.2.2.2.1.2.1 = ip.2.2.2.2.1.2.1)) && (ip.2.2.2.2.1.2.2.1 == ip.2.2.2.2.1.2.2.1))) && ((decide ((0 : Int) = ip.2.2.2.2.2.1.1)) && (false == ip.2.2.2.2.2.1.2.1)))))))))) (ag := true) (c := (!((decide (ip.1 = ip.1)) && ((decide (ip.2.1 = ip.2.1)) && ((decide (ip.2.2.1 = ip.2.2.1)) && ((decide ((0 : Int) = ip.2.2.2.1)) && (((decide (ip.2.2.2.2.1.1 = ip.2.2.2.2.1.1)) && ((decide (ip.2.2.2.2.1.2.1 = ip.2.2.2.2.1.2.1)) && (ip.2.2.2.2.1.2.2.1 == ip.2.2.2.2.1.2.2.1))) && ((decide ((0 : Int) = ip.2.2.2.2.2.1.1)) && (false == ip.2.2.2.2.2.1.2.1))))))))) (v := (.pointer (some ⟨b1, 6, none⟩))) hf rfl rfl rfl (fun hact => (r_fa (gb_ev hact rfl) Try.underlying43 (f := 2) (q := 6) rfl (by kernel_rfl) rfl)) rfl rfl ?_; clear hf fa; intro fa hf
            refine sqgF (act := (!(!((decide (ip.1 = ip.1)) && ((decide (ip.2.1 = ip.2.1)) && ((decide (ip.2.2.1 = ip.2.2.1)) && ((decide ((0 : Int) = ip.2.2.2.1)) && (((decide (ip.2.2.2.2.1.1 = ip.2.2.2.2.1.1)) && ((decide (ip.2.2.2.2.1.2.1 = ip.2.2.2.2.1.2.1)) && (ip.2.2.2.2.1.2.2.1 == ip.2.2.2.2.1.2.2.1))) && ((decide ((0 : Int) = ip.2.2.2.2.2.1.1)) && (false == ip.2.2.2.2.2.1.2.1)))))))))) (ag := true) (c := (!((decide (ip.1 = ip.1)) && ((decide (ip.2.1 = ip.2.1)) && ((decide (ip.2.2.1 = ip.2.2.1)) && ((decide ((0 : Int) = ip.2.2.2.1)) && (((decide (ip.2.2.2.2.1.1 = ip.2.2.2.2.1.1)) && ((decide (ip.2.2.2.2.1.2.1 = ip.2.2.2.2.1.2.1)) && (ip.2.2.2.2.1.2.2.1 == ip.2.2.2.2.1.2.2.1))) && ((decide ((0 : Int) = ip.2.2.2.2.2.1.1)) && (false == ip.2.2.2.2.2.1.2.1))))))))) (v := (.bool ip.2.2.2.2.1.2.2.1)) hf rfl rfl rfl (fun hact => (r_load (v := (.bool ip.2.2.2.2.1.2.2.1)) (gb_ev hact rfl) Try.underlying4 rfl (cell_blk hk1 rfl))) rfl rfl ?_; clear hf fa; intro fa hf
            refine sqgF (act := (!(!((decide (ip.1 = ip.1)) && ((decide (ip.2.1 = ip.2.1)) && ((decide (ip.2.2.1 = ip.2.2.1)) && ((decide ((0 : Int) = ip.2.2.2.1)) && (((decide (ip.2.2.2.2.1.1 = ip.2.2.2.2.1.1)) && ((decide (ip.2.2.2.2.1.2.1 = ip.2.2.2.2.1.2.1)) && (ip.2.2.2.2.1.2.2.1 == ip.2.2.2.2.1.2.2.1))) && ((decide ((0 : Int) = ip.2.2.2.2.2.1.1)) && (false == ip.2.2.2.2.2.1.2.1)))))))))) (ag := true) (c := (!((decide (ip.1 = ip.1)) && ((decide (ip.2.1 = ip.2.1)) && ((decide (ip.2.2.1 = ip.2.2.1)) && ((decide ((0 : Int) = ip.2.2.2.1)) && (((decide (ip.2.2.2.2.1.1 = ip.2.2.2.2.1.1)) && ((decide (ip.2.2.2.2.1.2.1 = ip.2.2.2.2.1.2.1)) && (ip.2.2.2.2.1.2.2.1 == ip.2.2.2.2.1.2.2.1))) && ((decide ((0 : Int) = ip.2.2.2.2.2.1.1)) && (false == ip.2.2.2.2.2.1.2.1))))))))) (v := (.bool (!ip.2.2.2.2.1.2.2.1))) hf rfl rfl rfl (fun hact => (r_not (gb_ev hact rfl))) rfl rfl ?_; clear hf fa; intro fa hf
            refine sqgF (act := (!(!((decide (ip.1 = ip.1)) && ((decide (ip.2.1 = ip.2.1)) && ((decide (ip.2.2.1 = ip.2.2.1)) && ((decide ((0 : Int) = ip.2.2.2.1)) && (((decide (ip.2.2.2.2.1.1 = ip.2.2.2.2.1.1)) && ((decide (ip.2.2.2.2.1.2.1 = ip.2.2.2.2.1.2.1)) && (ip.2.2.2.2.1.2.2.1 == ip.2.2.2.2.1.2.2.1))) && ((decide ((0 : Int) = ip.2.2.2.2.2.1.1)) && (false == ip.2.2.2.2.2.1.2.1)))))))))) (ag := true) (c := (!((decide (ip.1 = ip.1)) && ((decide (ip.2.1 = ip.2.1)) && ((decide (ip.2.2.1 = ip.2.2.1)) && ((decide ((0 : Int) = ip.2.2.2.1)) && (((decide (ip.2.2.2.2.1.1 = ip.2.2.2.2.1.1)) && ((decide (ip.2.2.2.2.1.2.1 = ip.2.2.2.2.1.2.1)) && (ip.2.2.2.2.1.2.2.1 == ip.2.2.2.2.1.2.2.1))) && ((decide ((0 : Int) = ip.2.2.2.2.2.1.1)) && (false == ip.2.2.2.2.2.1.2.1))))))))) (v := (.bool (!ip.2.2.2.2.1.2.2.1))) hf rfl rfl rfl (fun hact => (r_move (gb_ev hact rfl))) rfl rfl ?_; clear hf fa; intro fa hf
            refine sqgT (act := ((!(!((decide (ip.1 = ip.1)) && ((decide (ip.2.1 = ip.2.1)) && ((decide (ip.2.2.1 = ip.2.2.1)) && ((decide ((0 : Int) = ip.2.2.2.1)) && (((decide (ip.2.2.2.2.1.1 = ip.2.2.2.2.1.1)) && ((decide (ip.2.2.2.2.1.2.1 = ip.2.2.2.2.1.2.1)) && (ip.2.2.2.2.1.2.2.1 == ip.2.2.2.2.1.2.2.1))) && ((decide ((0 : Int) = ip.2.2.2.2.2.1.1)) && (false == ip.2.2.2.2.2.1.2.1))))))))) && (!ip.2.2.2.2.1.2.2.1))) (ag := (!(!((decide (ip.1 = ip.1)) && ((decide (ip.2.1 = ip.2.1)) && ((decide (ip.2.2.1 = ip.2.2.1)) && ((decide ((0 : Int) = ip.2.2.2.1)) && (((decide (ip.2.2.2.2.1.1 = ip.2.2.2.2.1.1)) && ((decide (ip.2.2.2.2.1.2.1 = ip.2.2.2.2.1.2.1)) && (ip.2.2.2.2.1.2.2.1 == ip.2.2.2.2.1.2.2.1))) && ((decide ((0 : Int) = ip.2.2.2.2.2.1.1)) && (false == ip.2.2.2.2.2.1.2.1)))))))))) (c := (!ip.2.2.2.2.1.2.2.1)) (v := (.pointer (some ⟨b1, 4, none⟩))) hf rfl rfl rfl (fun hact => (r_fa rfl Try.underlying81 (f := 4) (q := 4) rfl (by kernel_rfl) rfl)) rfl rfl ?_; clear hf fa; intro fa hf
            refine sqgT (act := ((!(!((decide (ip.1 = ip.1)) && ((decide (ip.2.1 = ip.2.1)) && ((decide (ip.2.2.1 = ip.2.2.1)) && ((decide ((0 : Int) = ip.2.2.2.1)) && (((decide (ip.2.2.2.2.1.1 = ip.2.2.2.2.1.1)) && ((decide (ip.2.2.2.2.1.2.1 = ip.2.2.2.2.1.2.1)) && (ip.2.2.2.2.1.2.2.1 == ip.2.2.2.2.1.2.2.1))) && ((decide ((0 : Int) = ip.2.2.2.2.2.1.1)) && (false == ip.2.2.2.2.2.1.2.1))))))))) && (!ip.2.2.2.2.1.2.2.1))) (ag := (!(!((decide (ip.1 = ip.1)) && ((decide (ip.2.1 = ip.2.1)) && ((decide (ip.2.2.1 = ip.2.2.1)) && ((decide ((0 : Int) = ip.2.2.2.1)) && (((decide (ip.2.2.2.2.1.1 = ip.2.2.2.2.1.1)) && ((decide (ip.2.2.2.2.1.2.1 = ip.2.2.2.2.1.2.1)) && (ip.2.2.2.2.1.2.2.1 == ip.2.2.2.2.1.2.2.1))) && ((decide ((0 : Int) = ip.2.2.2.2.2.1.1)) && (false == ip.2.2.2.2.2.1.2.1)))))))))) (c := (!ip.2.2.2.2.1.2.2.1)) (v := (.pointer (some ⟨b1, 5, none⟩))) hf rfl rfl rfl (fun hact => (r_fa (gb_ev hact rfl) Try.underlying43 (f := 1) (q := 5) rfl (by kernel_rfl) rfl)) rfl rfl ?_; clear hf fa; intro fa hf
            refine sqgT (act := ((!(!((decide (ip.1 = ip.1)) && ((decide (ip.2.1 = ip.2.1)) && ((decide (ip.2.2.1 = ip.2.2.1)) && ((decide ((0 : Int) = ip.2.2.2.1)) && (((decide (ip.2.2.2.2.1.1 = ip.2.2.2.2.1.1)) && ((decide (ip.2.2.2.2.1.2.1 = ip.2.2.2.2.1.2.1)) && (ip.2.2.2.2.1.2.2.1 == ip.2.2.2.2.1.2.2.1))) && ((decide ((0 : Int) = ip.2.2.2.2.2.1.1)) && (false == ip.2.2.2.2.2.1.2.1))))))))) && (!ip.2.2.2.2.1.2.2.1))) (ag := (!(!((decide (ip.1 = ip.1)) && ((decide (ip.2.1 = ip.2.1)) && ((decide (ip.2.2.1 = ip.2.2.1)) && ((decide ((0 : Int) = ip.2.2.2.1)) && (((decide (ip.2.2.2.2.1.1 = ip.2.2.2.2.1.1)) && ((decide (ip.2.2.2.2.1.2.1 = ip.2.2.2.2.1.2.1)) && (ip.2.2.2.2.1.2.2.1 == ip.2.2.2.2.1.2.2.1))) && ((decide ((0 : Int) = ip.2.2.2.2.2.1.1)) && (false == ip.2.2.2.2.2.1.2.1)))))))))) (c := (!ip.2.2.2.2.1.2.2.1)) (v := (.int .u32 ip.2.2.2.2.1.2.1)) hf rfl rfl rfl (fun hact => (r_load (v := (.int .u32 ip.2.2.2.2.1.2.1)) (gb_ev hact rfl) Try.underlying24 rfl (cell_blk hk1 rfl))) rfl rfl ?_; clear hf fa; intro fa hf
            refine sqgT (act := ((!(!((decide (ip.1 = ip.1)) && ((decide (ip.2.1 = ip.2.1)) && ((decide (ip.2.2.1 = ip.2.2.1)) && ((decide ((0 : Int) = ip.2.2.2.1)) && (((decide (ip.2.2.2.2.1.1 = ip.2.2.2.2.1.1)) && ((decide (ip.2.2.2.2.1.2.1 = ip.2.2.2.2.1.2.1)) && (ip.2.2.2.2.1.2.2.1 == ip.2.2.2.2.1.2.2.1))) && ((decide ((0 : Int) = ip.2.2.2.2.2.1.1)) && (false == ip.2.2.2.2.2.1.2.1))))))))) && (!ip.2.2.2.2.1.2.2.1))) (ag := (!(!((decide (ip.1 = ip.1)) && ((decide (ip.2.1 = ip.2.1)) && ((decide (ip.2.2.1 = ip.2.2.1)) && ((decide ((0 : Int) = ip.2.2.2.1)) && (((decide (ip.2.2.2.2.1.1 = ip.2.2.2.2.1.1)) && ((decide (ip.2.2.2.2.1.2.1 = ip.2.2.2.2.1.2.1)) && (ip.2.2.2.2.1.2.2.1 == ip.2.2.2.2.1.2.2.1))) && ((decide ((0 : Int) = ip.2.2.2.2.2.1.1)) && (false == ip.2.2.2.2.2.1.2.1)))))))))) (c := (!ip.2.2.2.2.1.2.2.1)) (v := (.bool (decide (ip.2.2.2.2.1.2.1 ≠ (0 : Int))))) hf rfl rfl rfl (fun hact => (r_ne (gb_ev hact rfl) rfl)) rfl rfl ?_; clear hf fa; intro fa hf
            refine sqgF (act := (!(!((decide (ip.1 = ip.1)) && ((decide (ip.2.1 = ip.2.1)) && ((decide (ip.2.2.1 = ip.2.2.1)) && ((decide ((0 : Int) = ip.2.2.2.1)) && (((decide (ip.2.2.2.2.1.1 = ip.2.2.2.2.1.1)) && ((decide (ip.2.2.2.2.1.2.1 = ip.2.2.2.2.1.2.1)) && (ip.2.2.2.2.1.2.2.1 == ip.2.2.2.2.1.2.2.1))) && ((decide ((0 : Int) = ip.2.2.2.2.2.1.1)) && (false == ip.2.2.2.2.2.1.2.1)))))))))) (ag := true) (c := (!((decide (ip.1 = ip.1)) && ((decide (ip.2.1 = ip.2.1)) && ((decide (ip.2.2.1 = ip.2.2.1)) && ((decide ((0 : Int) = ip.2.2.2.1)) && (((decide (ip.2.2.2.2.1.1 = ip.2.2.2.2.1.1)) && ((decide (ip.2.2.2.2.1.2.1 = ip.2.2.2.2.1.2.1)) && (ip.2.2.2.2.1.2.2.1 == ip.2.2.2.2.1.2.2.1))) && ((decide ((0 : Int) = ip.2.2.2.2.2.1.1)) && (false == ip.2.2.2.2.2.1.2.1))))))))) (v := (.bool ((!ip.2.2.2.2.1.2.2.1) && (decide (ip.2.2.2.2.1.2.1 ≠ (0 : Int)))))) hf rfl rfl rfl (fun hact => (r_pickA2 (q := (!(!((decide (ip.1 = ip.1)) && ((decide (ip.2.1 = ip.2.1)) && ((decide (ip.2.2.1 = ip.2.2.1)) && ((decide ((0 : Int) = ip.2.2.2.1)) && (((decide (ip.2.2.2.2.1.1 = ip.2.2.2.2.1.1)) && ((decide (ip.2.2.2.2.1.2.1 = ip.2.2.2.2.1.2.1)) && (ip.2.2.2.2.1.2.2.1 == ip.2.2.2.2.1.2.2.1))) && ((decide ((0 : Int) = ip.2.2.2.2.2.1.1)) && (false == ip.2.2.2.2.2.1.2.1)))))))))) (b := (!ip.2.2.2.2.1.2.2.1)) (e := (decide (ip.2.2.2.2.1.2.1 ≠ (0 : Int)))) hact rfl rfl rfl)) rfl rfl ?_; clear hf fa; intro fa hf
            refine sqv hf (r_pickO (b := (!((decide (ip.1 = ip.1)) && ((decide (ip.2.1 = ip.2.1)) && ((decide (ip.2.2.1 = ip.2.2.1)) && ((decide ((0 : Int) = ip.2.2.2.1)) && (((decide (ip.2.2.2.2.1.1 = ip.2.2.2.2.1.1)) && ((decide (ip.2.2.2.2.1.2.1 = ip.2.2.2.2.1.2.1)) && (ip.2.2.2.2.1.2.2.1 == ip.2.2.2.2.1.2.2.1))) && ((decide ((0 : Int) = ip.2.2.2.2.2.1.1)) && (false == ip.2.2.2.2.2.1.2.1))))))))) (e := ((!ip.2.2.2.2.1.2.2.1) && (decide (ip.2.2.2.2.1.2.1 ≠ (0 : Int))))) rfl rfl rfl) rfl rfl rfl ?_; clear hf fa; intro fa hf
            refine sqv hf (r_assign rfl) rfl rfl rfl ?_; clear hf fa; intro fa hf
            apply wpList_nil
            (try simp only [Exit.then, Exit.inBlock, ↓reduceIte, Nat.reduceEqDiff])
            refine hK30 _ _ ?_
            refine wp_cond_split (t := ((!((decide (ip.1 = ip.1)) && ((decide (ip.2.1 = ip.2.1)) && ((decide (ip.2.2.1 = ip.2.2.1)) && ((decide ((0 : Int) = ip.2.2.2.1)) && (((decide (ip.2.2.2.2.1.1 = ip.2.2.2.2.1.1)) && ((decide (ip.2.2.2.2.1.2.1 = ip.2.2.2.2.1.2.1)) && (ip.2.2.2.2.1.2.2.1 == ip.2.2.2.2.1.2.2.1))) && ((decide ((0 : Int) = ip.2.2.2.2.2.1.1)) && (false == ip.2.2.2.2.2.1.2.1)))))))) || ((!ip.2.2.2.2.1.2.2.1) && (decide (ip.2.2.2.2.1.2.1 ≠ (0 : Int)))))) (hf.ev rfl) (fun hqt43_3 => ?_) (fun hqt43_3 => ?_)
            · have hqt43_3b := hqt43_3
              try simp only [decide_eq_true_eq, Bool.and_eq_true, Bool.or_eq_true, Bool.not_eq_true', decide_eq_false_iff_not, ne_eq, Bool.not_eq_true] at hqt43_3
              refine wp_seq_k (fun K31 hK31 => ?_)
              refine wp_region_lit ?_
              refine sqv hf (r_assign rfl) rfl rfl rfl ?_; clear hf fa; intro fa hf
              apply wpList_nil
              (try simp only [Exit.then, Exit.inBlock, ↓reduceIte, Nat.reduceEqDiff])
              refine hK31 _ _ ?_
              refine wp_ret ?_
              (try simp only [Exit.then, Exit.inBlock])
              refine ret1 hf rfl rfl ?_
              refine ⟨?_, hb⟩; unfold irightP; rw [hqt10_1b, hqt16_1b, hqt20_1b, hqt33_1b, hqt38_1b, hqt43_3b]; (try rfl)
            · have hqt43_3b := hqt43_3
              replace hqt43_3 := Bool.eq_false_iff.1 hqt43_3
              try simp only [ne_eq, decide_eq_true_eq, Bool.and_eq_true, Bool.or_eq_true, Bool.not_eq_true', decide_eq_false_iff_not] at hqt43_3
              refine wp_seq_k (fun K32 hK32 => ?_)
              refine wp_region_lit ?_
              refine sqv hf (r_fa rfl Try.underlying81 (f := 2) (q := 2) rfl (by kernel_rfl) rfl) rfl rfl rfl ?_; clear hf fa; intro fa hf
              refine sqv hf (r_load (v := (.int .u8 ip.2.2.1)) rfl Try.underlying5 rfl (cell_blk hk1 rfl)) rfl rfl rfl ?_; clear hf fa; intro fa hf
              refine sqv hf (r_eq rfl rfl) rfl rfl rfl ?_; clear hf fa; intro fa hf
              refine sqv hf (r_assign rfl) rfl rfl rfl ?_; clear hf fa; intro fa hf
              apply wpList_nil
              (try simp only [Exit.then, Exit.inBlock, ↓reduceIte, Nat.reduceEqDiff])
              refine hK32 _ _ ?_
              refine wp_cond_false ((hf.ev rfl).trans (congrArg Value.bool (show (decide (ip.2.2.1 = (3 : Int))) = false from hqt38_1b))) ?_
              refine wp_skip ?_
              (try simp only [Exit.then, Exit.inBlock, ↓reduceIte, Nat.reduceEqDiff])
              refine hK29 _ _ ?_
              refine wp_seq_k (fun K33 hK33 => ?_)
              refine wp_region_lit ?_
              refine sqv hf (r_assign rfl) rfl rfl rfl ?_; clear hf fa; intro fa hf
              apply wpList_nil
              (try simp only [Exit.then, Exit.inBlock, ↓reduceIte, Nat.reduceEqDiff])
              refine hK33 _ _ ?_
              refine wp_ret ?_
              (try simp only [Exit.then, Exit.inBlock])
              refine ret1 hf rfl rfl ?_
              refine ⟨?_, hb⟩; unfold irightP; rw [hqt10_1b, hqt16_1b, hqt20_1b, hqt33_1b, hqt38_1b, hqt43_3b]; (try rfl)

def rchkP (s : ByteArray) : Int :=
  bif (decide ((200 : Int) < ((s.size : Nat) : Int))) then (13 : Int)
  else bif (decide (((Ut.cnt (Ut.bl s))) < (0 : Int))) then (4 : Int)
  else (0 : Int)

set_option maxHeartbeats 1000000 in
set_option maxRecDepth 100000 in
theorem rchk_any (s : ByteArray) (w : World) (hs : s.size ≤ 400) : Calls Try.prog 141 #[(.string s)] w fun e w' => e = .returned (.int .i64 ((rchkP s))) ∧ Below w.heap.size w w' := by
  refine sx_enter (L := [(0, (.string s))]) Try.func141 rfl rfl rfl rfl (fun fa hf => ?_)
  have hb : Below w.heap.size w w := Below.refl _ _
  refine wp_seq_k (fun K1 hK1 => ?_)
  refine wp_region_lit ?_
  refine sqv hf (r_assign rfl) rfl rfl rfl ?_; clear hf fa; intro fa hf
  apply wpList_nil
  (try simp only [Exit.then, Exit.inBlock, ↓reduceIte, Nat.reduceEqDiff])
  refine hK1 _ _ ?_
  refine wp_seq_k (fun K2 hK2 => ?_)
  refine wp_seq_k (fun K3 hK3 => ?_)
  refine wp_region_lit ?_
  refine sqv hf (r_move rfl) rfl rfl rfl ?_; clear hf fa; intro fa hf
  refine sqv hf (r_lens rfl Try.underlying9) rfl rfl rfl ?_; clear hf fa; intro fa hf
  refine sqv hf (r_gt rfl rfl) rfl rfl rfl ?_; clear hf fa; intro fa hf
  apply wpList_nil
  (try simp only [Exit.then, Exit.inBlock, ↓reduceIte, Nat.reduceEqDiff])
  refine hK3 _ _ ?_
  refine wp_cond_split (t := (decide ((200 : Int) < ((s.size : Nat) : Int)))) (hf.ev rfl) (fun hqt5_1 => ?_) (fun hqt5_1 => ?_)
  · have hqt5_1b := hqt5_1
    try simp only [decide_eq_true_eq, Bool.and_eq_true, Bool.or_eq_true, Bool.not_eq_true', decide_eq_false_iff_not, ne_eq, Bool.not_eq_true] at hqt5_1
    refine wp_seq_k (fun K4 hK4 => ?_)
    refine wp_region_lit ?_
    refine sqv hf (r_assign rfl) rfl rfl rfl ?_; clear hf fa; intro fa hf
    apply wpList_nil
    (try simp only [Exit.then, Exit.inBlock, ↓reduceIte, Nat.reduceEqDiff])
    refine hK4 _ _ ?_
    refine wp_ret ?_
    (try simp only [Exit.then, Exit.inBlock])
    refine ret1 hf rfl rfl ?_
    refine ⟨?_, hb⟩; unfold rchkP; rw [hqt5_1b]; (try rfl)
  · have hqt5_1b := hqt5_1
    replace hqt5_1 := Bool.eq_false_iff.1 hqt5_1
    try simp only [ne_eq, decide_eq_true_eq, Bool.and_eq_true, Bool.or_eq_true, Bool.not_eq_true', decide_eq_false_iff_not] at hqt5_1
    refine wp_skip ?_
    (try simp only [Exit.then, Exit.inBlock, ↓reduceIte, Nat.reduceEqDiff])
    refine hK2 _ _ ?_
    refine wp_seq_k (fun K5 hK5 => ?_)
    refine wp_seq_k (fun K6 hK6 => ?_)
    refine wp_region_lit ?_
    refine sqv hf (r_move rfl) rfl rfl rfl ?_; clear hf fa; intro fa hf
    refine sqdt hf (d_callB (vs := [(.string s)]) rfl Try.func84 (by kernel_rfl) (by kernel_rfl) (Ut.refCount_any s _ (by omega))) rfl rfl rfl ?_; clear hf fa; rintro fa _ w1 ⟨rfl, he1⟩ hf
    replace hb := hb.trans (Below.mono he1 hb.size)
    refine sqv hf (r_lt rfl rfl) rfl rfl rfl ?_; clear hf fa; intro fa hf
    apply wpList_nil
    (try simp only [Exit.then, Exit.inBlock, ↓reduceIte, Nat.reduceEqDiff])
    refine hK6 _ _ ?_
    refine wp_cond_split (t := (decide (((Ut.cnt (Ut.bl s))) < (0 : Int)))) (hf.ev rfl) (fun hqt8_1 => ?_) (fun hqt8_1 => ?_)
    · have hqt8_1b := hqt8_1
      try simp only [decide_eq_true_eq, Bool.and_eq_true, Bool.or_eq_true, Bool.not_eq_true', decide_eq_false_iff_not, ne_eq, Bool.not_eq_true] at hqt8_1
      refine wp_seq_k (fun K7 hK7 => ?_)
      refine wp_region_lit ?_
      refine sqv hf (r_assign rfl) rfl rfl rfl ?_; clear hf fa; intro fa hf
      apply wpList_nil
      (try simp only [Exit.then, Exit.inBlock, ↓reduceIte, Nat.reduceEqDiff])
      refine hK7 _ _ ?_
      refine wp_ret ?_
      (try simp only [Exit.then, Exit.inBlock])
      refine ret1 hf rfl rfl ?_
      refine ⟨?_, hb⟩; unfold rchkP; rw [hqt5_1b, hqt8_1b]; (try rfl)
    · have hqt8_1b := hqt8_1
      replace hqt8_1 := Bool.eq_false_iff.1 hqt8_1
      try simp only [ne_eq, decide_eq_true_eq, Bool.and_eq_true, Bool.or_eq_true, Bool.not_eq_true', decide_eq_false_iff_not] at hqt8_1
      refine wp_skip ?_
      (try simp only [Exit.then, Exit.inBlock, ↓reduceIte, Nat.reduceEqDiff])
      refine hK5 _ _ ?_
      refine wp_seq_k (fun K8 hK8 => ?_)
      refine wp_region_lit ?_
      refine sqv hf (r_assign rfl) rfl rfl rfl ?_; clear hf fa; intro fa hf
      apply wpList_nil
      (try simp only [Exit.then, Exit.inBlock, ↓reduceIte, Nat.reduceEqDiff])
      refine hK8 _ _ ?_
      refine wp_ret ?_
      (try simp only [Exit.then, Exit.inBlock])
      refine ret1 hf rfl rfl ?_
      refine ⟨?_, hb⟩; unfold rchkP; rw [hqt5_1b, hqt8_1b]; (try rfl)

theorem rchk_eq (s : ByteArray) : rchkP s = Ut.checkF s := by
  unfold rchkP Ut.checkF
  by_cases h1 : 200 < s.size
  · rw [show decide ((200 : Int) < ((s.size : Nat) : Int)) = true from decide_eq_true (by omega)]
    simp [h1]
  · rw [show decide ((200 : Int) < ((s.size : Nat) : Int)) = false from decide_eq_false (by omega)]
    by_cases h2 : 0 ≤ Ut.cnt (Ut.bl s)
    · rw [show decide (Ut.cnt (Ut.bl s) < (0 : Int)) = false from decide_eq_false (by omega)]
      simp [h1, h2]
    · rw [show decide (Ut.cnt (Ut.bl s) < (0 : Int)) = true from decide_eq_true (by omega)]
      simp [h1, h2]
theorem rchk2_any (s : ByteArray) (w : World) (hs : s.size ≤ 400) : Calls Try.prog 141 #[.string s] w fun e w' => e = .returned (.int .i64 (Ut.checkF s)) ∧ Below w.heap.size w w' := by
  have h := rchk_any s w hs
  rw [rchk_eq] at h
  exact h

def irrP (ip : MImp) : Int :=
  bif (decide (((Ut.checkF ip.1)) ≠ (0 : Int))) then (Ut.checkF ip.1)
  else bif (decide (((Ut.checkF ip.2.1)) ≠ (0 : Int))) then (Ut.checkF ip.2.1)
  else bif (decide ((3 : Int) < ip.2.2.1)) then (43 : Int)
  else bif (decide (ip.2.2.1 = (0 : Int))) then bif ((decide (ip.2.2.1 = (1 : Int))) || (decide (ip.2.2.1 = (2 : Int)))) then bif (decide (ip.2.2.1 = (3 : Int))) then bif ((((decide ((0 : Int) ≠ (0 : Int))) || (!((decide ((0 : Int) = (0 : Int))) && ((decide ((0 : Int) = (0 : Int))) && (false == false))))) || (!((decide ((0 : Int) = (0 : Int))) && (false == false)))) || ((!ip.2.2.2.2.1.2.2.1) && (decide (ip.2.2.2.2.1.2.1 ≠ (0 : Int))))) then (1 : Int)
  else (tvalP ip.2.2.2.2.2.1.1)
  else bif ((((decide ((0 : Int) ≠ (0 : Int))) || (!((decide ((0 : Int) = (0 : Int))) && ((decide ((0 : Int) = (0 : Int))) && (false == false))))) || (!((decide (ip.2.2.2.2.2.1.1 = (0 : Int))) && (ip.2.2.2.2.2.1.2.1 == false)))) || ((!ip.2.2.2.2.1.2.2.1) && (decide (ip.2.2.2.2.1.2.1 ≠ (0 : Int))))) then (1 : Int)
  else (0 : Int)
  else bif (decide (ip.2.2.1 = (3 : Int))) then bif ((((decide ((0 : Int) ≠ (0 : Int))) || (!((decide (ip.2.2.2.2.1.1 = (0 : Int))) && ((decide (ip.2.2.2.2.1.2.1 = (0 : Int))) && (ip.2.2.2.2.1.2.2.1 == false))))) || (!((decide ((0 : Int) = (0 : Int))) && (false == false)))) || ((!ip.2.2.2.2.1.2.2.1) && (decide (ip.2.2.2.2.1.2.1 ≠ (0 : Int))))) then (1 : Int)
  else (tvalP ip.2.2.2.2.2.1.1)
  else bif ((((decide ((0 : Int) ≠ (0 : Int))) || (!((decide (ip.2.2.2.2.1.1 = (0 : Int))) && ((decide (ip.2.2.2.2.1.2.1 = (0 : Int))) && (ip.2.2.2.2.1.2.2.1 == false))))) || (!((decide (ip.2.2.2.2.2.1.1 = (0 : Int))) && (ip.2.2.2.2.2.1.2.1 == false)))) || ((!ip.2.2.2.2.1.2.2.1) && (decide (ip.2.2.2.2.1.2.1 ≠ (0 : Int))))) then (1 : Int)
  else (0 : Int)
  else bif ((decide (ip.2.2.1 = (1 : Int))) || (decide (ip.2.2.1 = (2 : Int)))) then bif (decide (ip.2.2.1 = (3 : Int))) then bif ((((decide (ip.2.2.2.1 ≠ (0 : Int))) || (!((decide ((0 : Int) = (0 : Int))) && ((decide ((0 : Int) = (0 : Int))) && (false == false))))) || (!((decide ((0 : Int) = (0 : Int))) && (false == false)))) || ((!ip.2.2.2.2.1.2.2.1) && (decide (ip.2.2.2.2.1.2.1 ≠ (0 : Int))))) then (1 : Int)
  else (tvalP ip.2.2.2.2.2.1.1)
  else bif ((((decide (ip.2.2.2.1 ≠ (0 : Int))) || (!((decide ((0 : Int) = (0 : Int))) && ((decide ((0 : Int) = (0 : Int))) && (false == false))))) || (!((decide (ip.2.2.2.2.2.1.1 = (0 : Int))) && (ip.2.2.2.2.2.1.2.1 == false)))) || ((!ip.2.2.2.2.1.2.2.1) && (decide (ip.2.2.2.2.1.2.1 ≠ (0 : Int))))) then (1 : Int)
  else (0 : Int)
  else bif (decide (ip.2.2.1 = (3 : Int))) then bif ((((decide (ip.2.2.2.1 ≠ (0 : Int))) || (!((decide (ip.2.2.2.2.1.1 = (0 : Int))) && ((decide (ip.2.2.2.2.1.2.1 = (0 : Int))) && (ip.2.2.2.2.1.2.2.1 == false))))) || (!((decide ((0 : Int) = (0 : Int))) && (false == false)))) || ((!ip.2.2.2.2.1.2.2.1) && (decide (ip.2.2.2.2.1.2.1 ≠ (0 : Int))))) then (1 : Int)
  else (tvalP ip.2.2.2.2.2.1.1)
  else bif ((((decide (ip.2.2.2.1 ≠ (0 : Int))) || (!((decide (ip.2.2.2.2.1.1 = (0 : Int))) && ((decide (ip.2.2.2.2.1.2.1 = (0 : Int))) && (ip.2.2.2.2.1.2.2.1 == false))))) || (!((decide (ip.2.2.2.2.2.1.1 = (0 : Int))) && (ip.2.2.2.2.2.1.2.1 == false)))) || ((!ip.2.2.2.2.1.2.2.1) && (decide (ip.2.2.2.2.1.2.1 ≠ (0 : Int))))) then (1 : Int)
  else (0 : Int)

set_option maxHeartbeats 1000000 in
set_option maxRecDepth 100000 in
theorem irr_any (ip : MImp) (w : World) (hs1 : ip.1.size ≤ 400) (hs2 : ip.2.1.size ≤ 400) (hg5 : 0 ≤ ip.2.2.2.2.2.1.1 ∧ ip.2.2.2.2.2.1.1 < 256) : Calls Try.prog 96 #[(.agg #[(.string ip.1), (.string ip.2.1), (.int .u8 ip.2.2.1), (.int .u32 ip.2.2.2.1), (.int .u32 ip.2.2.2.2.1.1), (.int .u32 ip.2.2.2.2.1.2.1), (.bool ip.2.2.2.2.1.2.2.1), (.int .u8 ip.2.2.2.2.2.1.1), (.bool ip.2.2.2.2.2.1.2.1)])] w fun e w' => e = .returned (.int .i64 ((irrP ip))) ∧ Below w.heap.size w w' := by
  refine sx_enter (L := [(0, (.agg #[(.string ip.1), (.string ip.2.1), (.int .u8 ip.2.2.1), (.int .u32 ip.2.2.2.1), (.int .u32 ip.2.2.2.2.1.1), (.int .u32 ip.2.2.2.2.1.2.1), (.bool ip.2.2.2.2.1.2.2.1), (.int .u8 ip.2.2.2.2.2.1.1), (.bool ip.2.2.2.2.2.1.2.1)]))]) Try.func96 rfl rfl rfl rfl (fun fa hf => ?_)
  have hb : Below w.heap.size w w := Below.refl _ _
  refine wp_seq_k (fun K1 hK1 => ?_)
  refine wp_region_lit ?_
  refine sqdt hf (d_box (cs := #[(.string ip.1), (.string ip.2.1), (.int .u8 ip.2.2.1), (.int .u32 ip.2.2.2.1), (.int .u32 ip.2.2.2.2.1.1), (.int .u32 ip.2.2.2.2.1.2.1), (.bool ip.2.2.2.2.1.2.2.1), (.int .u8 ip.2.2.2.2.2.1.1), (.bool ip.2.2.2.2.2.1.2.1)]) rfl rfl) rfl rfl rfl ?_; clear hf fa; rintro fa _ w1 ⟨b1, rfl, hle1, hk1, he1⟩ hf
  have hBb1 : w.heap.size ≤ b1 := Nat.le_trans hb.size hle1
  replace hb := hb.trans (Below.mono he1 hb.size)
  refine sqv hf (r_assign rfl) rfl rfl rfl ?_; clear hf fa; intro fa hf
  apply wpList_nil
  (try simp only [Exit.then, Exit.inBlock, ↓reduceIte, Nat.reduceEqDiff])
  refine hK1 _ _ ?_
  refine wp_seq_k (fun K2 hK2 => ?_)
  refine wp_seq_k (fun K3 hK3 => ?_)
  refine wp_region_lit ?_
  refine sqv hf (r_fa rfl Try.underlying81 (f := 0) (q := 0) rfl (by kernel_rfl) rfl) rfl rfl rfl ?_; clear hf fa; intro fa hf
  refine sqv hf (r_load (v := (.string ip.1)) rfl Try.underlying9 rfl (cell_blk hk1 rfl)) rfl rfl rfl ?_; clear hf fa; intro fa hf
  refine sqdt hf (d_callB (vs := [(.string ip.1)]) rfl Try.func141 (by kernel_rfl) (by kernel_rfl) (rchk2_any ip.1 _ (by omega))) rfl rfl rfl ?_; clear hf fa; rintro fa _ w2 ⟨rfl, he2⟩ hf
  replace hk1 := blk_ext hk1 he2
  replace hb := hb.trans (Below.mono he2 hb.size)
  refine sqv hf (r_assign rfl) rfl rfl rfl ?_; clear hf fa; intro fa hf
  apply wpList_nil
  (try simp only [Exit.then, Exit.inBlock, ↓reduceIte, Nat.reduceEqDiff])
  refine hK3 _ _ ?_
  refine wp_seq_k (fun K4 hK4 => ?_)
  refine wp_region_lit ?_
  refine sqv hf (r_move rfl) rfl rfl rfl ?_; clear hf fa; intro fa hf
  refine sqv hf (r_ne rfl rfl) rfl rfl rfl ?_; clear hf fa; intro fa hf
  apply wpList_nil
  (try simp only [Exit.then, Exit.inBlock, ↓reduceIte, Nat.reduceEqDiff])
  refine hK4 _ _ ?_
  refine wp_cond_split (t := (decide (((Ut.checkF ip.1)) ≠ (0 : Int)))) (hf.ev rfl) (fun hqt10_1 => ?_) (fun hqt10_1 => ?_)
  · have hqt10_1b := hqt10_1
    try simp only [decide_eq_true_eq, Bool.and_eq_true, Bool.or_eq_true, Bool.not_eq_true', decide_eq_false_iff_not, ne_eq, Bool.not_eq_true] at hqt10_1
    refine wp_seq_k (fun K5 hK5 => ?_)
    refine wp_region_lit ?_
    refine sqv hf (r_move rfl) rfl rfl rfl ?_; clear hf fa; intro fa hf
    refine sqv hf (r_assign rfl) rfl rfl rfl ?_; clear hf fa; intro fa hf
    apply wpList_nil
    (try simp only [Exit.then, Exit.inBlock, ↓reduceIte, Nat.reduceEqDiff])
    refine hK5 _ _ ?_
    refine wp_ret ?_
    (try simp only [Exit.then, Exit.inBlock])
    refine ret1 hf rfl rfl ?_
    refine ⟨?_, hb⟩; unfold irrP; rw [hqt10_1b]; (try rfl)
  · have hqt10_1b := hqt10_1
    replace hqt10_1 := Bool.eq_false_iff.1 hqt10_1
    try simp only [ne_eq, decide_eq_true_eq, Bool.and_eq_true, Bool.or_eq_true, Bool.not_eq_true', decide_eq_false_iff_not] at hqt10_1
    refine wp_skip ?_
    (try simp only [Exit.then, Exit.inBlock, ↓reduceIte, Nat.reduceEqDiff])
    refine hK2 _ _ ?_
    refine wp_seq_k (fun K6 hK6 => ?_)
    refine wp_seq_k (fun K7 hK7 => ?_)
    refine wp_region_lit ?_
    refine sqv hf (r_fa rfl Try.underlying81 (f := 1) (q := 1) rfl (by kernel_rfl) rfl) rfl rfl rfl ?_; clear hf fa; intro fa hf
    refine sqv hf (r_load (v := (.string ip.2.1)) rfl Try.underlying9 rfl (cell_blk hk1 rfl)) rfl rfl rfl ?_; clear hf fa; intro fa hf
    refine sqdt hf (d_callB (vs := [(.string ip.2.1)]) rfl Try.func141 (by kernel_rfl) (by kernel_rfl) (rchk2_any ip.2.1 _ (by omega))) rfl rfl rfl ?_; clear hf fa; rintro fa _ w3 ⟨rfl, he3⟩ hf
    replace hk1 := blk_ext hk1 he3
    replace hb := hb.trans (Below.mono he3 hb.size)
    refine sqv hf (r_assign rfl) rfl rfl rfl ?_; clear hf fa; intro fa hf
    apply wpList_nil
    (try simp only [Exit.then, Exit.inBlock, ↓reduceIte, Nat.reduceEqDiff])
    refine hK7 _ _ ?_
    refine wp_seq_k (fun K8 hK8 => ?_)
    refine wp_region_lit ?_
    refine sqv hf (r_move rfl) rfl rfl rfl ?_; clear hf fa; intro fa hf
    refine sqv hf (r_ne rfl rfl) rfl rfl rfl ?_; clear hf fa; intro fa hf
    apply wpList_nil
    (try simp only [Exit.then, Exit.inBlock, ↓reduceIte, Nat.reduceEqDiff])
    refine hK8 _ _ ?_
    refine wp_cond_split (t := (decide (((Ut.checkF ip.2.1)) ≠ (0 : Int)))) (hf.ev rfl) (fun hqt16_1 => ?_) (fun hqt16_1 => ?_)
    · have hqt16_1b := hqt16_1
      try simp only [decide_eq_true_eq, Bool.and_eq_true, Bool.or_eq_true, Bool.not_eq_true', decide_eq_false_iff_not, ne_eq, Bool.not_eq_true] at hqt16_1
      refine wp_seq_k (fun K9 hK9 => ?_)
      refine wp_region_lit ?_
      refine sqv hf (r_move rfl) rfl rfl rfl ?_; clear hf fa; intro fa hf
      refine sqv hf (r_assign rfl) rfl rfl rfl ?_; clear hf fa; intro fa hf
      apply wpList_nil
      (try simp only [Exit.then, Exit.inBlock, ↓reduceIte, Nat.reduceEqDiff])
      refine hK9 _ _ ?_
      refine wp_ret ?_
      (try simp only [Exit.then, Exit.inBlock])
      refine ret1 hf rfl rfl ?_
      refine ⟨?_, hb⟩; unfold irrP; rw [hqt10_1b, hqt16_1b]; (try rfl)
    · have hqt16_1b := hqt16_1
      replace hqt16_1 := Bool.eq_false_iff.1 hqt16_1
      try simp only [ne_eq, decide_eq_true_eq, Bool.and_eq_true, Bool.or_eq_true, Bool.not_eq_true', decide_eq_false_iff_not] at hqt16_1
      refine wp_skip ?_
      (try simp only [Exit.then, Exit.inBlock, ↓reduceIte, Nat.reduceEqDiff])
      refine hK6 _ _ ?_
      refine wp_seq_k (fun K10 hK10 => ?_)
      refine wp_seq_k (fun K11 hK11 => ?_)
      refine wp_region_lit ?_
      refine sqv hf (r_fa rfl Try.underlying81 (f := 2) (q := 2) rfl (by kernel_rfl) rfl) rfl rfl rfl ?_; clear hf fa; intro fa hf
      refine sqv hf (r_load (v := (.int .u8 ip.2.2.1)) rfl Try.underlying5 rfl (cell_blk hk1 rfl)) rfl rfl rfl ?_; clear hf fa; intro fa hf
      refine sqv hf (r_gt rfl rfl) rfl rfl rfl ?_; clear hf fa; intro fa hf
      apply wpList_nil
      (try simp only [Exit.then, Exit.inBlock, ↓reduceIte, Nat.reduceEqDiff])
      refine hK11 _ _ ?_
      refine wp_cond_split (t := (decide ((3 : Int) < ip.2.2.1))) (hf.ev rfl) (fun hqt20_1 => ?_) (fun hqt20_1 => ?_)
      · have hqt20_1b := hqt20_1
        try simp only [decide_eq_true_eq, Bool.and_eq_true, Bool.or_eq_true, Bool.not_eq_true', decide_eq_false_iff_not, ne_eq, Bool.not_eq_true] at hqt20_1
        refine wp_seq_k (fun K12 hK12 => ?_)
        refine wp_region_lit ?_
        refine sqv hf (r_assign rfl) rfl rfl rfl ?_; clear hf fa; intro fa hf
        apply wpList_nil
        (try simp only [Exit.then, Exit.inBlock, ↓reduceIte, Nat.reduceEqDiff])
        refine hK12 _ _ ?_
        refine wp_ret ?_
        (try simp only [Exit.then, Exit.inBlock])
        refine ret1 hf rfl rfl ?_
        refine ⟨?_, hb⟩; unfold irrP; rw [hqt10_1b, hqt16_1b, hqt20_1b]; (try rfl)
      · have hqt20_1b := hqt20_1
        replace hqt20_1 := Bool.eq_false_iff.1 hqt20_1
        try simp only [ne_eq, decide_eq_true_eq, Bool.and_eq_true, Bool.or_eq_true, Bool.not_eq_true', decide_eq_false_iff_not] at hqt20_1
        refine wp_skip ?_
        (try simp only [Exit.then, Exit.inBlock, ↓reduceIte, Nat.reduceEqDiff])
        refine hK10 _ _ ?_
        refine wp_seq_k (fun K13 hK13 => ?_)
        refine wp_region_lit ?_
        refine sqv hf (r_fa rfl Try.underlying81 (f := 0) (q := 0) rfl (by kernel_rfl) rfl) rfl rfl rfl ?_; clear hf fa; intro fa hf
        refine sqv hf (r_load (v := (.string ip.1)) rfl Try.underlying9 rfl (cell_blk hk1 rfl)) rfl rfl rfl ?_; clear hf fa; intro fa hf
        refine sqv hf (r_fa rfl Try.underlying81 (f := 1) (q := 1) rfl (by kernel_rfl) rfl) rfl rfl rfl ?_; clear hf fa; intro fa hf
        refine sqv hf (r_load (v := (.string ip.2.1)) rfl Try.underlying9 rfl (cell_blk hk1 rfl)) rfl rfl rfl ?_; clear hf fa; intro fa hf
        refine sqv hf (r_fa rfl Try.underlying81 (f := 2) (q := 2) rfl (by kernel_rfl) rfl) rfl rfl rfl ?_; clear hf fa; intro fa hf
        refine sqv hf (r_load (v := (.int .u8 ip.2.2.1)) rfl Try.underlying5 rfl (cell_blk hk1 rfl)) rfl rfl rfl ?_; clear hf fa; intro fa hf
        refine sqv hf (r_fa rfl Try.underlying81 (f := 3) (q := 3) rfl (by kernel_rfl) rfl) rfl rfl rfl ?_; clear hf fa; intro fa hf
        refine sqv hf (r_load (v := (.int .u32 ip.2.2.2.1)) rfl Try.underlying24 rfl (cell_blk hk1 rfl)) rfl rfl rfl ?_; clear hf fa; intro fa hf
        refine sqv hf (r_fa rfl Try.underlying81 (f := 4) (q := 4) rfl (by kernel_rfl) rfl) rfl rfl rfl ?_; clear hf fa; intro fa hf
        refine sqv hf (r_loadA (cs := [(.int .u32 ip.2.2.2.2.1.1), (.int .u32 ip.2.2.2.2.1.2.1), (.bool ip.2.2.2.2.1.2.2.1)]) rfl Try.underlying43 rfl (by kernel_rfl) (cellsAt_part (d := 4) (n := 3) (cellsAt_blk hk1) rfl rfl)) rfl rfl rfl ?_; clear hf fa; intro fa hf
        refine sqv hf (r_fa rfl Try.underlying81 (f := 5) (q := 7) rfl (by kernel_rfl) rfl) rfl rfl rfl ?_; clear hf fa; intro fa hf
        refine sqv hf (r_loadA (cs := [(.int .u8 ip.2.2.2.2.2.1.1), (.bool ip.2.2.2.2.2.1.2.1)]) rfl Try.underlying54 rfl (by kernel_rfl) (cellsAt_part (d := 7) (n := 2) (cellsAt_blk hk1) rfl rfl)) rfl rfl rfl ?_; clear hf fa; intro fa hf
        refine sqv hf (r_build (vs := [(0, (.string ip.1)), (1, (.string ip.2.1)), (2, (.int .u8 ip.2.2.1)), (3, (.int .u32 ip.2.2.2.1)), (4, (.agg #[(.int .u32 ip.2.2.2.2.1.1), (.int .u32 ip.2.2.2.2.1.2.1), (.bool ip.2.2.2.2.1.2.2.1)])), (5, (.agg #[(.int .u8 ip.2.2.2.2.2.1.1), (.bool ip.2.2.2.2.2.1.2.1)]))]) (cs := #[(.string ip.1), (.string ip.2.1), (.int .u8 ip.2.2.1), (.int .u32 ip.2.2.2.1), (.int .u32 ip.2.2.2.2.1.1), (.int .u32 ip.2.2.2.2.1.2.1), (.bool ip.2.2.2.2.1.2.2.1), (.int .u8 ip.2.2.2.2.2.1.1), (.bool ip.2.2.2.2.2.1.2.1)]) rfl (fun _ => by kernel_rfl)) rfl rfl rfl ?_; clear hf fa; intro fa hf
        refine sqdt hf (d_alloc (z := (.agg #[(.string ⟨#[]⟩), (.string ⟨#[]⟩), (.int .u8 (0 : Int)), (.int .u32 (0 : Int)), (.int .u32 (0 : Int)), (.int .u32 (0 : Int)), (.bool false), (.int .u8 (0 : Int)), (.bool false)])) (cs := #[(.string ⟨#[]⟩), (.string ⟨#[]⟩), (.int .u8 (0 : Int)), (.int .u32 (0 : Int)), (.int .u32 (0 : Int)), (.int .u32 (0 : Int)), (.bool false), (.int .u8 (0 : Int)), (.bool false)]) (by kernel_rfl) rfl) rfl rfl rfl ?_; clear hf fa; rintro fa _ w4 ⟨b2, rfl, hle2, hk2, he4⟩ hf
        have hBb2 : w.heap.size ≤ b2 := Nat.le_trans hb.size hle2
        have : b1 < b2 := Nat.lt_of_lt_of_le (blk_lt hk1) hle2
        replace hk1 := blk_ext hk1 he4
        replace hb := hb.trans (Below.mono he4 hb.size)
        refine sqn hf (d_storeK (T := 81) (v := (.agg #[(.string ip.1), (.string ip.2.1), (.int .u8 ip.2.2.1), (.int .u32 ip.2.2.2.1), (.int .u32 ip.2.2.2.2.1.1), (.int .u32 ip.2.2.2.2.1.2.1), (.bool ip.2.2.2.2.1.2.2.1), (.int .u8 ip.2.2.2.2.2.1.1), (.bool ip.2.2.2.2.2.1.2.1)])) (cs := #[(.string ⟨#[]⟩), (.string ⟨#[]⟩), (.int .u8 (0 : Int)), (.int .u32 (0 : Int)), (.int .u32 (0 : Int)), (.int .u32 (0 : Int)), (.bool false), (.int .u8 (0 : Int)), (.bool false)]) (cs' := #[(.string ip.1), (.string ip.2.1), (.int .u8 ip.2.2.1), (.int .u32 ip.2.2.2.1), (.int .u32 ip.2.2.2.2.1.1), (.int .u32 ip.2.2.2.2.1.2.1), (.bool ip.2.2.2.2.1.2.2.1), (.int .u8 ip.2.2.2.2.2.1.1), (.bool ip.2.2.2.2.2.1.2.1)]) rfl rfl (by kernel_rfl) (by kernel_rfl) hk2 (by kernel_rfl) (by kernel_rfl)) rfl rfl ?_; clear hf fa; rintro fa _ w5 ⟨hk3, hg1⟩ hf
        replace hk1 := blk_grown hk1 hg1 (by omega)
        replace hb := hb.trans (grown_below hg1 hb.size hBb2)
        apply wpList_nil
        (try simp only [Exit.then, Exit.inBlock, ↓reduceIte, Nat.reduceEqDiff])
        refine hK13 _ _ ?_
        refine wp_seq_k (fun K14 hK14 => ?_)
        refine wp_seq_k (fun K15 hK15 => ?_)
        refine wp_region_lit ?_
        refine sqv hf (r_fa rfl Try.underlying81 (f := 2) (q := 2) rfl (by kernel_rfl) rfl) rfl rfl rfl ?_; clear hf fa; intro fa hf
        refine sqv hf (r_load (v := (.int .u8 ip.2.2.1)) rfl Try.underlying5 rfl (cell_blk hk1 rfl)) rfl rfl rfl ?_; clear hf fa; intro fa hf
        refine sqv hf (r_eq rfl rfl) rfl rfl rfl ?_; clear hf fa; intro fa hf
        apply wpList_nil
        (try simp only [Exit.then, Exit.inBlock, ↓reduceIte, Nat.reduceEqDiff])
        refine hK15 _ _ ?_
        refine wp_cond_split (t := (decide (ip.2.2.1 = (0 : Int)))) (hf.ev rfl) (fun hqt36_1 => ?_) (fun hqt36_1 => ?_)
        · have hqt36_1b := hqt36_1
          try simp only [decide_eq_true_eq, Bool.and_eq_true, Bool.or_eq_true, Bool.not_eq_true', decide_eq_false_iff_not, ne_eq, Bool.not_eq_true] at hqt36_1
          refine wp_region_lit ?_
          refine sqv hf (r_fa rfl Try.underlying81 (f := 3) (q := 3) rfl (by kernel_rfl) rfl) rfl rfl rfl ?_; clear hf fa; intro fa hf
          refine sqn hf (d_storeK (T := 81) (v := (.int .u32 (0 : Int))) (cs := #[(.string ip.1), (.string ip.2.1), (.int .u8 ip.2.2.1), (.int .u32 ip.2.2.2.1), (.int .u32 ip.2.2.2.2.1.1), (.int .u32 ip.2.2.2.2.1.2.1), (.bool ip.2.2.2.2.1.2.2.1), (.int .u8 ip.2.2.2.2.2.1.1), (.bool ip.2.2.2.2.2.1.2.1)]) (cs' := #[(.string ip.1), (.string ip.2.1), (.int .u8 ip.2.2.1), (.int .u32 (0 : Int)), (.int .u32 ip.2.2.2.2.1.1), (.int .u32 ip.2.2.2.2.1.2.1), (.bool ip.2.2.2.2.1.2.2.1), (.int .u8 ip.2.2.2.2.2.1.1), (.bool ip.2.2.2.2.2.1.2.1)]) rfl rfl (by kernel_rfl) (by kernel_rfl) hk3 (by kernel_rfl) (by kernel_rfl)) rfl rfl ?_; clear hf fa; rintro fa _ w6 ⟨hk4, hg2⟩ hf
          replace hk1 := blk_grown hk1 hg2 (by omega)
          replace hb := hb.trans (grown_below hg2 hb.size hBb2)
          apply wpList_nil
          (try simp only [Exit.then, Exit.inBlock, ↓reduceIte, Nat.reduceEqDiff])
          refine hK14 _ _ ?_
          refine wp_seq_k (fun K16 hK16 => ?_)
          refine wp_seq_k (fun K17 hK17 => ?_)
          refine wp_region_lit ?_
          refine sqv hf (r_fa rfl Try.underlying81 (f := 2) (q := 2) rfl (by kernel_rfl) rfl) rfl rfl rfl ?_; clear hf fa; intro fa hf
          refine sqv hf (r_load (v := (.int .u8 ip.2.2.1)) rfl Try.underlying5 rfl (cell_blk hk1 rfl)) rfl rfl rfl ?_; clear hf fa; intro fa hf
          refine sqv hf (r_eq rfl rfl) rfl rfl rfl ?_; clear hf fa; intro fa hf
          refine sqv hf (r_move rfl) rfl rfl rfl ?_; clear hf fa; intro fa hf
          refine sqgF (act := (!(decide (ip.2.2.1 = (1 : Int))))) (ag := true) (c := (decide (ip.2.2.1 = (1 : Int)))) (v := (.pointer (some ⟨b1, 2, none⟩))) hf rfl rfl rfl (fun hact => (r_fa rfl Try.underlying81 (f := 2) (q := 2) rfl (by kernel_rfl) rfl)) rfl rfl ?_; clear hf fa; intro fa hf
          refine sqgF (act := (!(decide (ip.2.2.1 = (1 : Int))))) (ag := true) (c := (decide (ip.2.2.1 = (1 : Int)))) (v := (.int .u8 ip.2.2.1)) hf rfl rfl rfl (fun hact => (r_load (v := (.int .u8 ip.2.2.1)) (gb_ev hact rfl) Try.underlying5 rfl (cell_blk hk1 rfl))) rfl rfl ?_; clear hf fa; intro fa hf
          refine sqgF (act := (!(decide (ip.2.2.1 = (1 : Int))))) (ag := true) (c := (decide (ip.2.2.1 = (1 : Int)))) (v := (.bool (decide (ip.2.2.1 = (2 : Int))))) hf rfl rfl rfl (fun hact => (r_eq (gb_ev hact rfl) rfl)) rfl rfl ?_; clear hf fa; intro fa hf
          refine sqv hf (r_pickO (b := (decide (ip.2.2.1 = (1 : Int)))) (e := (decide (ip.2.2.1 = (2 : Int)))) rfl rfl rfl) rfl rfl rfl ?_; clear hf fa; intro fa hf
          apply wpList_nil
          (try simp only [Exit.then, Exit.inBlock, ↓reduceIte, Nat.reduceEqDiff])
          refine hK17 _ _ ?_
          refine wp_cond_split (t := ((decide (ip.2.2.1 = (1 : Int))) || (decide (ip.2.2.1 = (2 : Int))))) (hf.ev rfl) (fun hqt45_1 => ?_) (fun hqt45_1 => ?_)
          · have hqt45_1b := hqt45_1
            try simp only [decide_eq_true_eq, Bool.and_eq_true, Bool.or_eq_true, Bool.not_eq_true', decide_eq_false_iff_not, ne_eq, Bool.not_eq_true] at hqt45_1
            refine wp_region_lit ?_
            refine sqv hf (r_build (vs := []) (cs := #[(.int .u32 (0 : Int)), (.int .u32 (0 : Int)), (.bool false)]) rfl (fun _ => by kernel_rfl)) rfl rfl rfl ?_; clear hf fa; intro fa hf
            refine sqv hf (r_fa rfl Try.underlying81 (f := 4) (q := 4) rfl (by kernel_rfl) rfl) rfl rfl rfl ?_; clear hf fa; intro fa hf
            refine sqn hf (d_storeK (T := 81) (v := (.agg #[(.int .u32 (0 : Int)), (.int .u32 (0 : Int)), (.bool false)])) (cs := #[(.string ip.1), (.string ip.2.1), (.int .u8 ip.2.2.1), (.int .u32 (0 : Int)), (.int .u32 ip.2.2.2.2.1.1), (.int .u32 ip.2.2.2.2.1.2.1), (.bool ip.2.2.2.2.1.2.2.1), (.int .u8 ip.2.2.2.2.2.1.1), (.bool ip.2.2.2.2.2.1.2.1)]) (cs' := #[(.string ip.1), (.string ip.2.1), (.int .u8 ip.2.2.1), (.int .u32 (0 : Int)), (.int .u32 (0 : Int)), (.int .u32 (0 : Int)), (.bool false), (.int .u8 ip.2.2.2.2.2.1.1), (.bool ip.2.2.2.2.2.1.2.1)]) rfl rfl (by kernel_rfl) (by kernel_rfl) hk4 (by kernel_rfl) (by kernel_rfl)) rfl rfl ?_; clear hf fa; rintro fa _ w7 ⟨hk5, hg3⟩ hf
            replace hk1 := blk_grown hk1 hg3 (by omega)
            replace hb := hb.trans (grown_below hg3 hb.size hBb2)
            apply wpList_nil
            (try simp only [Exit.then, Exit.inBlock, ↓reduceIte, Nat.reduceEqDiff])
            refine hK16 _ _ ?_
            refine wp_seq_k (fun K18 hK18 => ?_)
            refine wp_seq_k (fun K19 hK19 => ?_)
            refine wp_region_lit ?_
            refine sqv hf (r_fa rfl Try.underlying81 (f := 2) (q := 2) rfl (by kernel_rfl) rfl) rfl rfl rfl ?_; clear hf fa; intro fa hf
            refine sqv hf (r_load (v := (.int .u8 ip.2.2.1)) rfl Try.underlying5 rfl (cell_blk hk1 rfl)) rfl rfl rfl ?_; clear hf fa; intro fa hf
            refine sqv hf (r_eq rfl rfl) rfl rfl rfl ?_; clear hf fa; intro fa hf
            apply wpList_nil
            (try simp only [Exit.then, Exit.inBlock, ↓reduceIte, Nat.reduceEqDiff])
            refine hK19 _ _ ?_
            refine wp_cond_split (t := (decide (ip.2.2.1 = (3 : Int)))) (hf.ev rfl) (fun hqt50_1 => ?_) (fun hqt50_1 => ?_)
            · have hqt50_1b := hqt50_1
              try simp only [decide_eq_true_eq, Bool.and_eq_true, Bool.or_eq_true, Bool.not_eq_true', decide_eq_false_iff_not, ne_eq, Bool.not_eq_true] at hqt50_1
              refine wp_region_lit ?_
              refine sqv hf (r_build (vs := []) (cs := #[(.int .u8 (0 : Int)), (.bool false)]) rfl (fun _ => by kernel_rfl)) rfl rfl rfl ?_; clear hf fa; intro fa hf
              refine sqv hf (r_fa rfl Try.underlying81 (f := 5) (q := 7) rfl (by kernel_rfl) rfl) rfl rfl rfl ?_; clear hf fa; intro fa hf
              refine sqn hf (d_storeK (T := 81) (v := (.agg #[(.int .u8 (0 : Int)), (.bool false)])) (cs := #[(.string ip.1), (.string ip.2.1), (.int .u8 ip.2.2.1), (.int .u32 (0 : Int)), (.int .u32 (0 : Int)), (.int .u32 (0 : Int)), (.bool false), (.int .u8 ip.2.2.2.2.2.1.1), (.bool ip.2.2.2.2.2.1.2.1)]) (cs' := #[(.string ip.1), (.string ip.2.1), (.int .u8 ip.2.2.1), (.int .u32 (0 : Int)), (.int .u32 (0 : Int)), (.int .u32 (0 : Int)), (.bool false), (.int .u8 (0 : Int)), (.bool false)]) rfl rfl (by kernel_rfl) (by kernel_rfl) hk5 (by kernel_rfl) (by kernel_rfl)) rfl rfl ?_; clear hf fa; rintro fa _ w8 ⟨hk6, hg4⟩ hf
              replace hk1 := blk_grown hk1 hg4 (by omega)
              replace hb := hb.trans (grown_below hg4 hb.size hBb2)
              apply wpList_nil
              (try simp only [Exit.then, Exit.inBlock, ↓reduceIte, Nat.reduceEqDiff])
              refine hK18 _ _ ?_
              refine wp_seq_k (fun K20 hK20 => ?_)
              refine wp_seq_k (fun K21 hK21 => ?_)
              refine wp_region_lit ?_
              refine sqv hf (r_fa rfl Try.underlying81 (f := 3) (q := 3) rfl (by kernel_rfl) rfl) rfl rfl rfl ?_; clear hf fa; intro fa hf
              refine sqv hf (r_load (v := (.int .u32 (0 : Int))) rfl Try.underlying24 rfl (cell_blk hk6 rfl)) rfl rfl rfl ?_; clear hf fa; intro fa hf
              refine sqv hf (r_ne rfl rfl) rfl rfl rfl ?_; clear hf fa; intro fa hf
              refine sqv hf (r_move rfl) rfl rfl rfl ?_; clear hf fa; intro fa hf
              refine sqgF (act := (!(decide ((0 : Int) ≠ (0 : Int))))) (ag := true) (c := (decide ((0 : Int) ≠ (0 : Int)))) (v := (.pointer (some ⟨b2, 4, none⟩))) hf rfl rfl rfl (fun hact => (r_fa rfl Try.underlying81 (f := 4) (q := 4) rfl (by kernel_rfl) rfl)) rfl rfl ?_; clear hf fa; intro fa hf
              refine sqgF (act := (!(decide ((0 : Int) ≠ (0 : Int))))) (ag := true) (c := (decide ((0 : Int) ≠ (0 : Int)))) (v := (.agg #[(.int .u32 (0 : Int)), (.int .u32 (0 : Int)), (.bool false)])) hf rfl rfl rfl (fun hact => (r_loadA (cs := [(.int .u32 (0 : Int)), (.int .u32 (0 : Int)), (.bool false)]) (gb_ev hact rfl) Try.underlying43 rfl (by kernel_rfl) (cellsAt_part (d := 4) (n := 3) (cellsAt_blk hk6) rfl rfl))) rfl rfl ?_; clear hf fa; intro fa hf
              refine sqgF (act := (!(decide ((0 : Int) ≠ (0 : Int))))) (ag := true) (c := (decide ((0 : Int) ≠ (0 : Int)))) (v := (.agg #[(.int .u32 (0 : Int)), (.int .u32 (0 : Int)), (.bool false)])) hf rfl rfl rfl (fun hact => (r_build (vs := []) (cs := #[(.int .u32 (0 : Int)), (.int .u32 (0 : Int)), (.bool false)]) rfl (fun _ => by kernel_rfl))) rfl rfl ?_; clear hf fa; intro fa hf
              refine sqgF (act := (!(decide ((0 : Int) ≠ (0 : Int))))) (ag := true) (c := (decide ((0 : Int) ≠ (0 : Int)))) (v := (.bool (!((decide ((0 : Int) = (0 : Int))) && ((decide ((0 : Int) = (0 : Int))) && (false == false)))))) hf rfl rfl rfl (fun hact => (r_ane (k := 5) (gb_ev hact rfl) (gb_ev hact rfl) (by kernel_rfl) (eqt_struct (xs := #[(.int .u32 (0 : Int)), (.int .u32 (0 : Int)), (.bool false)]) (ys := #[(.int .u32 (0 : Int)), (.int .u32 (0 : Int)), (.bool false)]) Try.underlying43 (by kernel_rfl) (eqf_cons (by kernel_rfl) (fun _ => by kernel_rfl) (fun _ => by kernel_rfl) (eqt_int (kk := .u32) (a := (0 : Int)) (b := (0 : Int)) Try.underlying24) (eqf_cons (by kernel_rfl) (fun _ => by kernel_rfl) (fun _ => by kernel_rfl) (eqt_int (kk := .u32) (a := (0 : Int)) (b := (0 : Int)) Try.underlying24) (eqf_one (by kernel_rfl) (fun _ => by kernel_rfl) (fun _ => by kernel_rfl) (eqt_bool (a := false) (b := false) Try.underlying4))))) rfl)) rfl rfl ?_; clear hf fa; intro fa hf
              refine sqv hf (r_pickO (b := (decide ((0 : Int) ≠ (0 : Int)))) (e := (!((decide ((0 : Int) = (0 : Int))) && ((decide ((0 : Int) = (0 : Int))) && (false == false))))) rfl rfl rfl) rfl rfl rfl ?_; clear hf fa; intro fa hf
              refine sqv hf (r_move rfl) rfl rfl rfl ?_; clear hf fa; intro fa hf
              refine sqgF (act := (!((decide ((0 : Int) ≠ (0 : Int))) || (!((decide ((0 : Int) = (0 : Int))) && ((decide ((0 : Int) = (0 : Int))) && (false == false))))))) (ag := true) (c := ((decide ((0 : Int) ≠ (0 : Int))) || (!((decide ((0 : Int) = (0 : Int))) && ((decide ((0 : Int) = (0 : Int))) && (false == false)))))) (v := (.pointer (some ⟨b2, 7, none⟩))) hf rfl rfl rfl (fun hact => (r_fa rfl Try.underlying81 (f := 5) (q := 7) rfl (by kernel_rfl) rfl)) rfl rfl ?_; clear hf fa; intro fa hf
              refine sqgF (act := (!((decide ((0 : Int) ≠ (0 : Int))) || (!((decide ((0 : Int) = (0 : Int))) && ((decide ((0 : Int) = (0 : Int))) && (false == false))))))) (ag := true) (c := ((decide ((0 : Int) ≠ (0 : Int))) || (!((decide ((0 : Int) = (0 : Int))) && ((decide ((0 : Int) = (0 : Int))) && (false == false)))))) (v := (.agg #[(.int .u8 (0 : Int)), (.bool false)])) hf rfl rfl rfl (fun hact => (r_loadA (cs := [(.int .u8 (0 : Int)), (.bool false)]) (gb_ev hact rfl) Try.underlying54 rfl (by kernel_rfl) (cellsAt_part (d := 7) (n := 2) (cellsAt_blk hk6) rfl rfl))) rfl rfl ?_; clear hf fa; intro fa hf
              refine sqgF (act := (!((decide ((0 : Int) ≠ (0 : Int))) || (!((decide ((0 : Int) = (0 : Int))) && ((decide ((0 : Int) = (0 : Int))) && (false == false))))))) (ag := true) (c := ((decide ((0 : Int) ≠ (0 : Int))) || (!((decide ((0 : Int) = (0 : Int))) && ((decide ((0 : Int) = (0 : Int))) && (false == false)))))) (v := (.agg #[(.int .u8 (0 : Int)), (.bool false)])) hf rfl rfl rfl (fun hact => (r_build (vs := []) (cs := #[(.int .u8 (0 : Int)), (.bool false)]) rfl (fun _ => by kernel_rfl))) rfl rfl ?_; clear hf fa; intro fa hf
              refine sqgF (act := (!((decide ((0 : Int) ≠ (0 : Int))) || (!((decide ((0 : Int) = (0 : Int))) && ((decide ((0 : Int) = (0 : Int))) && (false == false))))))) (ag := true) (c := ((decide ((0 : Int) ≠ (0 : Int))) || (!((decide ((0 : Int) = (0 : Int))) && ((decide ((0 : Int) = (0 : Int))) && (false == false)))))) (v := (.bool (!((decide ((0 : Int) = (0 : Int))) && (false == false))))) hf rfl rfl rfl (fun hact => (r_ane (k := 5) (gb_ev hact rfl) (gb_ev hact rfl) (by kernel_rfl) (eqt_struct (xs := #[(.int .u8 (0 : Int)), (.bool false)]) (ys := #[(.int .u8 (0 : Int)), (.bool false)]) Try.underlying54 (by kernel_rfl) (eqf_cons (by kernel_rfl) (fun _ => by kernel_rfl) (fun _ => by kernel_rfl) (eqt_int (kk := .u8) (a := (0 : Int)) (b := (0 : Int)) Try.underlying5) (eqf_one (by kernel_rfl) (fun _ => by kernel_rfl) (fun _ => by kernel_rfl) (eqt_bool (a := false) (b := false) Try.underlying4)))) rfl)) rfl rfl ?_; clear hf fa; intro fa hf
              refine sqv hf (r_pickO (b := ((decide ((0 : Int) ≠ (0 : Int))) || (!((decide ((0 : Int) = (0 : Int))) && ((decide ((0 : Int) = (0 : Int))) && (false == false)))))) (e := (!((decide ((0 : Int) = (0 : Int))) && (false == false)))) rfl rfl rfl) rfl rfl rfl ?_; clear hf fa; intro fa hf
              refine sqv hf (r_move rfl) rfl rfl rfl ?_; clear hf fa; intro fa hf
              refine sqgF (act := (!(((decide ((0 : Int) ≠ (0 : Int))) || (!((decide ((0 : Int) = (0 : Int))) && ((decide ((0 : Int) = (0 : Int))) && (false == false))))) || (!((decide ((0 : Int) = (0 : Int))) && (false == false)))))) (ag := true) (c := (((decide ((0 : Int) ≠ (0 : Int))) || (!((decide ((0 : Int) = (0 : Int))) && ((decide ((0 : Int) = (0 : Int))) && (false == false))))) || (!((decide ((0 : Int) = (0 : Int))) && (false == false))))) (v := (.pointer (some ⟨b1, 4, none⟩))) hf rfl rfl rfl (fun hact => (r_fa rfl Try.underlying81 (f := 4) (q := 4) rfl (by kernel_rfl) rfl)) rfl rfl ?_; clear hf fa; intro fa hf
              refine sqgF (act := (!(((decide ((0 : Int) ≠ (0 : Int))) || (!((decide ((0 : Int) = (0 : Int))) && ((decide ((0 : Int) = (0 : Int))) && (false == false))))) || (!((decide ((0 : Int) = (0 : Int))) && (false == false)))))) (ag := true) (c := (((decide ((0 : Int) ≠ (0 : Int))) || (!((decide ((0 : Int) = (0 : Int))) && ((decide ((0 : Int) = (0 : Int))) && (false == false))))) || (!((decide ((0 : Int) = (0 : Int))) && (false == false))))) (v := (.pointer (some ⟨b1, 6, none⟩))) hf rfl rfl rfl (fun hact => (r_fa (gb_ev hact rfl) Try.underlying43 (f := 2) (q := 6) rfl (by kernel_rfl) rfl)) rfl rfl ?_; clear hf fa; intro fa hf
              refine sqgF (act := (!(((decide ((0 : Int) ≠ (0 : Int))) || (!((decide ((0 : Int) = (0 : Int))) && ((decide ((0 : Int) = (0 : Int))) && (false == false))))) || (!((decide ((0 : Int) = (0 : Int))) && (false == false)))))) (ag := true) (c := (((decide ((0 : Int) ≠ (0 : Int))) || (!((decide ((0 : Int) = (0 : Int))) && ((decide ((0 : Int) = (0 : Int))) && (false == false))))) || (!((decide ((0 : Int) = (0 : Int))) && (false == false))))) (v := (.bool ip.2.2.2.2.1.2.2.1)) hf rfl rfl rfl (fun hact => (r_load (v := (.bool ip.2.2.2.2.1.2.2.1)) (gb_ev hact rfl) Try.underlying4 rfl (cell_blk hk1 rfl))) rfl rfl ?_; clear hf fa; intro fa hf
              refine sqgF (act := (!(((decide ((0 : Int) ≠ (0 : Int))) || (!((decide ((0 : Int) = (0 : Int))) && ((decide ((0 : Int) = (0 : Int))) && (false == false))))) || (!((decide ((0 : Int) = (0 : Int))) && (false == false)))))) (ag := true) (c := (((decide ((0 : Int) ≠ (0 : Int))) || (!((decide ((0 : Int) = (0 : Int))) && ((decide ((0 : Int) = (0 : Int))) && (false == false))))) || (!((decide ((0 : Int) = (0 : Int))) && (false == false))))) (v := (.bool (!ip.2.2.2.2.1.2.2.1))) hf rfl rfl rfl (fun hact => (r_not (gb_ev hact rfl))) rfl rfl ?_; clear hf fa; intro fa hf
              refine sqgF (act := (!(((decide ((0 : Int) ≠ (0 : Int))) || (!((decide ((0 : Int) = (0 : Int))) && ((decide ((0 : Int) = (0 : Int))) && (false == false))))) || (!((decide ((0 : Int) = (0 : Int))) && (false == false)))))) (ag := true) (c := (((decide ((0 : Int) ≠ (0 : Int))) || (!((decide ((0 : Int) = (0 : Int))) && ((decide ((0 : Int) = (0 : Int))) && (false == false))))) || (!((decide ((0 : Int) = (0 : Int))) && (false == false))))) (v := (.bool (!ip.2.2.2.2.1.2.2.1))) hf rfl rfl rfl (fun hact => (r_move (gb_ev hact rfl))) rfl rfl ?_; clear hf fa; intro fa hf
              refine sqgT (act := ((!(((decide ((0 : Int) ≠ (0 : Int))) || (!((decide ((0 : Int) = (0 : Int))) && ((decide ((0 : Int) = (0 : Int))) && (false == false))))) || (!((decide ((0 : Int) = (0 : Int))) && (false == false))))) && (!ip.2.2.2.2.1.2.2.1))) (ag := (!(((decide ((0 : Int) ≠ (0 : Int))) || (!((decide ((0 : Int) = (0 : Int))) && ((decide ((0 : Int) = (0 : Int))) && (false == false))))) || (!((decide ((0 : Int) = (0 : Int))) && (false == false)))))) (c := (!ip.2.2.2.2.1.2.2.1)) (v := (.pointer (some ⟨b1, 4, none⟩))) hf rfl rfl rfl (fun hact => (r_fa rfl Try.underlying81 (f := 4) (q := 4) rfl (by kernel_rfl) rfl)) rfl rfl ?_; clear hf fa; intro fa hf
              refine sqgT (act := ((!(((decide ((0 : Int) ≠ (0 : Int))) || (!((decide ((0 : Int) = (0 : Int))) && ((decide ((0 : Int) = (0 : Int))) && (false == false))))) || (!((decide ((0 : Int) = (0 : Int))) && (false == false))))) && (!ip.2.2.2.2.1.2.2.1))) (ag := (!(((decide ((0 : Int) ≠ (0 : Int))) || (!((decide ((0 : Int) = (0 : Int))) && ((decide ((0 : Int) = (0 : Int))) && (false == false))))) || (!((decide ((0 : Int) = (0 : Int))) && (false == false)))))) (c := (!ip.2.2.2.2.1.2.2.1)) (v := (.pointer (some ⟨b1, 5, none⟩))) hf rfl rfl rfl (fun hact => (r_fa (gb_ev hact rfl) Try.underlying43 (f := 1) (q := 5) rfl (by kernel_rfl) rfl)) rfl rfl ?_; clear hf fa; intro fa hf
              refine sqgT (act := ((!(((decide ((0 : Int) ≠ (0 : Int))) || (!((decide ((0 : Int) = (0 : Int))) && ((decide ((0 : Int) = (0 : Int))) && (false == false))))) || (!((decide ((0 : Int) = (0 : Int))) && (false == false))))) && (!ip.2.2.2.2.1.2.2.1))) (ag := (!(((decide ((0 : Int) ≠ (0 : Int))) || (!((decide ((0 : Int) = (0 : Int))) && ((decide ((0 : Int) = (0 : Int))) && (false == false))))) || (!((decide ((0 : Int) = (0 : Int))) && (false == false)))))) (c := (!ip.2.2.2.2.1.2.2.1)) (v := (.int .u32 ip.2.2.2.2.1.2.1)) hf rfl rfl rfl (fun hact => (r_load (v := (.int .u32 ip.2.2.2.2.1.2.1)) (gb_ev hact rfl) Try.underlying24 rfl (cell_blk hk1 rfl))) rfl rfl ?_; clear hf fa; intro fa hf
              refine sqgT (act := ((!(((decide ((0 : Int) ≠ (0 : Int))) || (!((decide ((0 : Int) = (0 : Int))) && ((decide ((0 : Int) = (0 : Int))) && (false == false))))) || (!((decide ((0 : Int) = (0 : Int))) && (false == false))))) && (!ip.2.2.2.2.1.2.2.1))) (ag := (!(((decide ((0 : Int) ≠ (0 : Int))) || (!((decide ((0 : Int) = (0 : Int))) && ((decide ((0 : Int) = (0 : Int))) && (false == false))))) || (!((decide ((0 : Int) = (0 : Int))) && (false == false)))))) (c := (!ip.2.2.2.2.1.2.2.1)) (v := (.bool (decide (ip.2.2.2.2.1.2.1 ≠ (0 : Int))))) hf rfl rfl rfl (fun hact => (r_ne (gb_ev hact rfl) rfl)) rfl rfl ?_; clear hf fa; intro fa hf
              refine sqgF (act := (!(((decide ((0 : Int) ≠ (0 : Int))) || (!((decide ((0 : Int) = (0 : Int))) && ((decide ((0 : Int) = (0 : Int))) && (false == false))))) || (!((decide ((0 : Int) = (0 : Int))) && (false == false)))))) (ag := true) (c := (((decide ((0 : Int) ≠ (0 : Int))) || (!((decide ((0 : Int) = (0 : Int))) && ((decide ((0 : Int) = (0 : Int))) && (false == false))))) || (!((decide ((0 : Int) = (0 : Int))) && (false == false))))) (v := (.bool ((!ip.2.2.2.2.1.2.2.1) && (decide (ip.2.2.2.2.1.2.1 ≠ (0 : Int)))))) hf rfl rfl rfl (fun hact => (r_pickA2 (q := (!(((decide ((0 : Int) ≠ (0 : Int))) || (!((decide ((0 : Int) = (0 : Int))) && ((decide ((0 : Int) = (0 : Int))) && (false == false))))) || (!((decide ((0 : Int) = (0 : Int))) && (false == false)))))) (b := (!ip.2.2.2.2.1.2.2.1)) (e := (decide (ip.2.2.2.2.1.2.1 ≠ (0 : Int)))) hact rfl rfl rfl)) rfl rfl ?_; clear hf fa; intro fa hf
              refine sqv hf (r_pickO (b := (((decide ((0 : Int) ≠ (0 : Int))) || (!((decide ((0 : Int) = (0 : Int))) && ((decide ((0 : Int) = (0 : Int))) && (false == false))))) || (!((decide ((0 : Int) = (0 : Int))) && (false == false))))) (e := ((!ip.2.2.2.2.1.2.2.1) && (decide (ip.2.2.2.2.1.2.1 ≠ (0 : Int))))) rfl rfl rfl) rfl rfl rfl ?_; clear hf fa; intro fa hf
              apply wpList_nil
              (try simp only [Exit.then, Exit.inBlock, ↓reduceIte, Nat.reduceEqDiff])
              refine hK21 _ _ ?_
              refine wp_cond_split (t := ((((decide ((0 : Int) ≠ (0 : Int))) || (!((decide ((0 : Int) = (0 : Int))) && ((decide ((0 : Int) = (0 : Int))) && (false == false))))) || (!((decide ((0 : Int) = (0 : Int))) && (false == false)))) || ((!ip.2.2.2.2.1.2.2.1) && (decide (ip.2.2.2.2.1.2.1 ≠ (0 : Int)))))) (hf.ev rfl) (fun hqt79_1 => ?_) (fun hqt79_1 => ?_)
              · have hqt79_1b := hqt79_1
                try simp only [decide_eq_true_eq, Bool.and_eq_true, Bool.or_eq_true, Bool.not_eq_true', decide_eq_false_iff_not, ne_eq, Bool.not_eq_true] at hqt79_1
                refine wp_seq_k (fun K22 hK22 => ?_)
                refine wp_region_lit ?_
                refine sqv hf (r_assign rfl) rfl rfl rfl ?_; clear hf fa; intro fa hf
                apply wpList_nil
                (try simp only [Exit.then, Exit.inBlock, ↓reduceIte, Nat.reduceEqDiff])
                refine hK22 _ _ ?_
                refine wp_ret ?_
                (try simp only [Exit.then, Exit.inBlock])
                refine ret1 hf rfl rfl ?_
                refine ⟨?_, hb⟩; unfold irrP; rw [hqt10_1b, hqt16_1b, hqt20_1b, hqt36_1b, hqt45_1b, hqt50_1b, hqt79_1b]; (try rfl)
              · have hqt79_1b := hqt79_1
                replace hqt79_1 := Bool.eq_false_iff.1 hqt79_1
                try simp only [ne_eq, decide_eq_true_eq, Bool.and_eq_true, Bool.or_eq_true, Bool.not_eq_true', decide_eq_false_iff_not] at hqt79_1
                refine wp_skip ?_
                (try simp only [Exit.then, Exit.inBlock, ↓reduceIte, Nat.reduceEqDiff])
                refine hK20 _ _ ?_
                refine wp_seq_k (fun K23 hK23 => ?_)
                refine wp_seq_k (fun K24 hK24 => ?_)
                refine wp_region_lit ?_
                refine sqv hf (r_fa rfl Try.underlying81 (f := 2) (q := 2) rfl (by kernel_rfl) rfl) rfl rfl rfl ?_; clear hf fa; intro fa hf
                refine sqv hf (r_load (v := (.int .u8 ip.2.2.1)) rfl Try.underlying5 rfl (cell_blk hk1 rfl)) rfl rfl rfl ?_; clear hf fa; intro fa hf
                refine sqv hf (r_eq rfl rfl) rfl rfl rfl ?_; clear hf fa; intro fa hf
                apply wpList_nil
                (try simp only [Exit.then, Exit.inBlock, ↓reduceIte, Nat.reduceEqDiff])
                refine hK24 _ _ ?_
                refine wp_cond_true ((hf.ev rfl).trans (congrArg Value.bool (show (decide (ip.2.2.1 = (3 : Int))) = true from hqt50_1b))) ?_
                refine wp_seq_k (fun K25 hK25 => ?_)
                refine wp_region_lit ?_
                refine sqv hf (r_fa rfl Try.underlying81 (f := 5) (q := 7) rfl (by kernel_rfl) rfl) rfl rfl rfl ?_; clear hf fa; intro fa hf
                refine sqv hf (r_fa rfl Try.underlying54 (f := 0) (q := 7) rfl (by kernel_rfl) rfl) rfl rfl rfl ?_; clear hf fa; intro fa hf
                refine sqv hf (r_load (v := (.int .u8 ip.2.2.2.2.2.1.1)) rfl Try.underlying5 rfl (cell_blk hk1 rfl)) rfl rfl rfl ?_; clear hf fa; intro fa hf
                refine sqv hf (r_conv (C := ip.2.2.2.2.2.1.1) rfl Try.underlying5 Try.underlying3 (by rw [IntKind.wrap_i64]; omega)) rfl rfl rfl ?_; clear hf fa; intro fa hf
                refine sqdt hf (d_callS (vs := [(.int .i64 ip.2.2.2.2.2.1.1)]) rfl Try.func35 (by kernel_rfl) (by kernel_rfl) (rval2_any ip.2.2.2.2.2.1.1 _)) rfl rfl rfl ?_; clear hf fa; rintro fa _ _ ⟨rfl, rfl⟩ hf
                refine sqv hf (r_assign rfl) rfl rfl rfl ?_; clear hf fa; intro fa hf
                apply wpList_nil
                (try simp only [Exit.then, Exit.inBlock, ↓reduceIte, Nat.reduceEqDiff])
                refine hK25 _ _ ?_
                refine wp_ret ?_
                (try simp only [Exit.then, Exit.inBlock])
                refine ret1 hf rfl rfl ?_
                refine ⟨?_, hb⟩; unfold irrP; rw [hqt10_1b, hqt16_1b, hqt20_1b, hqt36_1b, hqt45_1b, hqt50_1b, hqt79_1b]; (try rfl)
            · have hqt50_1b := hqt50_1
              replace hqt50_1 := Bool.eq_false_iff.1 hqt50_1
              try simp only [ne_eq, decide_eq_true_eq, Bool.and_eq_true, Bool.or_eq_true, Bool.not_eq_true', decide_eq_false_iff_not] at hqt50_1
              refine wp_skip ?_
              (try simp only [Exit.then, Exit.inBlock, ↓reduceIte, Nat.reduceEqDiff])
              refine hK18 _ _ ?_
              refine wp_seq_k (fun K26 hK26 => ?_)
              refine wp_seq_k (fun K27 hK27 => ?_)
              refine wp_region_lit ?_
              refine sqv hf (r_fa rfl Try.underlying81 (f := 3) (q := 3) rfl (by kernel_rfl) rfl) rfl rfl rfl ?_; clear hf fa; intro fa hf
              refine sqv hf (r_load (v := (.int .u32 (0 : Int))) rfl Try.underlying24 rfl (cell_blk hk5 rfl)) rfl rfl rfl ?_; clear hf fa; intro fa hf
              refine sqv hf (r_ne rfl rfl) rfl rfl rfl ?_; clear hf fa; intro fa hf
              refine sqv hf (r_move rfl) rfl rfl rfl ?_; clear hf fa; intro fa hf
              refine sqgF (act := (!(decide ((0 : Int) ≠ (0 : Int))))) (ag := true) (c := (decide ((0 : Int) ≠ (0 : Int)))) (v := (.pointer (some ⟨b2, 4, none⟩))) hf rfl rfl rfl (fun hact => (r_fa rfl Try.underlying81 (f := 4) (q := 4) rfl (by kernel_rfl) rfl)) rfl rfl ?_; clear hf fa; intro fa hf
              refine sqgF (act := (!(decide ((0 : Int) ≠ (0 : Int))))) (ag := true) (c := (decide ((0 : Int) ≠ (0 : Int)))) (v := (.agg #[(.int .u32 (0 : Int)), (.int .u32 (0 : Int)), (.bool false)])) hf rfl rfl rfl (fun hact => (r_loadA (cs := [(.int .u32 (0 : Int)), (.int .u32 (0 : Int)), (.bool false)]) (gb_ev hact rfl) Try.underlying43 rfl (by kernel_rfl) (cellsAt_part (d := 4) (n := 3) (cellsAt_blk hk5) rfl rfl))) rfl rfl ?_; clear hf fa; intro fa hf
              refine sqgF (act := (!(decide ((0 : Int) ≠ (0 : Int))))) (ag := true) (c := (decide ((0 : Int) ≠ (0 : Int)))) (v := (.agg #[(.int .u32 (0 : Int)), (.int .u32 (0 : Int)), (.bool false)])) hf rfl rfl rfl (fun hact => (r_build (vs := []) (cs := #[(.int .u32 (0 : Int)), (.int .u32 (0 : Int)), (.bool false)]) rfl (fun _ => by kernel_rfl))) rfl rfl ?_; clear hf fa; intro fa hf
              refine sqgF (act := (!(decide ((0 : Int) ≠ (0 : Int))))) (ag := true) (c := (decide ((0 : Int) ≠ (0 : Int)))) (v := (.bool (!((decide ((0 : Int) = (0 : Int))) && ((decide ((0 : Int) = (0 : Int))) && (false == false)))))) hf rfl rfl rfl (fun hact => (r_ane (k := 5) (gb_ev hact rfl) (gb_ev hact rfl) (by kernel_rfl) (eqt_struct (xs := #[(.int .u32 (0 : Int)), (.int .u32 (0 : Int)), (.bool false)]) (ys := #[(.int .u32 (0 : Int)), (.int .u32 (0 : Int)), (.bool false)]) Try.underlying43 (by kernel_rfl) (eqf_cons (by kernel_rfl) (fun _ => by kernel_rfl) (fun _ => by kernel_rfl) (eqt_int (kk := .u32) (a := (0 : Int)) (b := (0 : Int)) Try.underlying24) (eqf_cons (by kernel_rfl) (fun _ => by kernel_rfl) (fun _ => by kernel_rfl) (eqt_int (kk := .u32) (a := (0 : Int)) (b := (0 : Int)) Try.underlying24) (eqf_one (by kernel_rfl) (fun _ => by kernel_rfl) (fun _ => by kernel_rfl) (eqt_bool (a := false) (b := false) Try.underlying4))))) rfl)) rfl rfl ?_; clear hf fa; intro fa hf
              refine sqv hf (r_pickO (b := (decide ((0 : Int) ≠ (0 : Int)))) (e := (!((decide ((0 : Int) = (0 : Int))) && ((decide ((0 : Int) = (0 : Int))) && (false == false))))) rfl rfl rfl) rfl rfl rfl ?_; clear hf fa; intro fa hf
              refine sqv hf (r_move rfl) rfl rfl rfl ?_; clear hf fa; intro fa hf
              refine sqgF (act := (!((decide ((0 : Int) ≠ (0 : Int))) || (!((decide ((0 : Int) = (0 : Int))) && ((decide ((0 : Int) = (0 : Int))) && (false == false))))))) (ag := true) (c := ((decide ((0 : Int) ≠ (0 : Int))) || (!((decide ((0 : Int) = (0 : Int))) && ((decide ((0 : Int) = (0 : Int))) && (false == false)))))) (v := (.pointer (some ⟨b2, 7, none⟩))) hf rfl rfl rfl (fun hact => (r_fa rfl Try.underlying81 (f := 5) (q := 7) rfl (by kernel_rfl) rfl)) rfl rfl ?_; clear hf fa; intro fa hf
              refine sqgF (act := (!((decide ((0 : Int) ≠ (0 : Int))) || (!((decide ((0 : Int) = (0 : Int))) && ((decide ((0 : Int) = (0 : Int))) && (false == false))))))) (ag := true) (c := ((decide ((0 : Int) ≠ (0 : Int))) || (!((decide ((0 : Int) = (0 : Int))) && ((decide ((0 : Int) = (0 : Int))) && (false == false)))))) (v := (.agg #[(.int .u8 ip.2.2.2.2.2.1.1), (.bool ip.2.2.2.2.2.1.2.1)])) hf rfl rfl rfl (fun hact => (r_loadA (cs := [(.int .u8 ip.2.2.2.2.2.1.1), (.bool ip.2.2.2.2.2.1.2.1)]) (gb_ev hact rfl) Try.underlying54 rfl (by kernel_rfl) (cellsAt_part (d := 7) (n := 2) (cellsAt_blk hk5) rfl rfl))) rfl rfl ?_; clear hf fa; intro fa hf
              refine sqgF (act := (!((decide ((0 : Int) ≠ (0 : Int))) || (!((decide ((0 : Int) = (0 : Int))) && ((decide ((0 : Int) = (0 : Int))) && (false == false))))))) (ag := true) (c := ((decide ((0 : Int) ≠ (0 : Int))) || (!((decide ((0 : Int) = (0 : Int))) && ((decide ((0 : Int) = (0 : Int))) && (false == false)))))) (v := (.agg #[(.int .u8 (0 : Int)), (.bool false)])) hf rfl rfl rfl (fun hact => (r_build (vs := []) (cs := #[(.int .u8 (0 : Int)), (.bool false)]) rfl (fun _ => by kernel_rfl))) rfl rfl ?_; clear hf fa; intro fa hf
              refine sqgF (act := (!((decide ((0 : Int) ≠ (0 : Int))) || (!((decide ((0 : Int) = (0 : Int))) && ((decide ((0 : Int) = (0 : Int))) && (false == false))))))) (ag := true) (c := ((decide ((0 : Int) ≠ (0 : Int))) || (!((decide ((0 : Int) = (0 : Int))) && ((decide ((0 : Int) = (0 : Int))) && (false == false)))))) (v := (.bool (!((decide (ip.2.2.2.2.2.1.1 = (0 : Int))) && (ip.2.2.2.2.2.1.2.1 == false))))) hf rfl rfl rfl (fun hact => (r_ane (k := 5) (gb_ev hact rfl) (gb_ev hact rfl) (by kernel_rfl) (eqt_struct (xs := #[(.int .u8 ip.2.2.2.2.2.1.1), (.bool ip.2.2.2.2.2.1.2.1)]) (ys := #[(.int .u8 (0 : Int)), (.bool false)]) Try.underlying54 (by kernel_rfl) (eqf_cons (by kernel_rfl) (fun _ => by kernel_rfl) (fun _ => by kernel_rfl) (eqt_int (kk := .u8) (a := ip.2.2.2.2.2.1.1) (b := (0 : Int)) Try.underlying5) (eqf_one (by kernel_rfl) (fun _ => by kernel_rfl) (fun _ => by kernel_rfl) (eqt_bool (a := ip.2.2.2.2.2.1.2.1) (b := false) Try.underlying4)))) rfl)) rfl rfl ?_; clear hf fa; intro fa hf
              refine sqv hf (r_pickO (b := ((decide ((0 : Int) ≠ (0 : Int))) || (!((decide ((0 : Int) = (0 : Int))) && ((decide ((0 : Int) = (0 : Int))) && (false == false)))))) (e := (!((decide (ip.2.2.2.2.2.1.1 = (0 : Int))) && (ip.2.2.2.2.2.1.2.1 == false)))) rfl rfl rfl) rfl rfl rfl ?_; clear hf fa; intro fa hf
              refine sqv hf (r_move rfl) rfl rfl rfl ?_; clear hf fa; intro fa hf
              refine sqgF (act := (!(((decide ((0 : Int) ≠ (0 : Int))) || (!((decide ((0 : Int) = (0 : Int))) && ((decide ((0 : Int) = (0 : Int))) && (false == false))))) || (!((decide (ip.2.2.2.2.2.1.1 = (0 : Int))) && (ip.2.2.2.2.2.1.2.1 == false)))))) (ag := true) (c := (((decide ((0 : Int) ≠ (0 : Int))) || (!((decide ((0 : Int) = (0 : Int))) && ((decide ((0 : Int) = (0 : Int))) && (false == false))))) || (!((decide (ip.2.2.2.2.2.1.1 = (0 : Int))) && (ip.2.2.2.2.2.1.2.1 == false))))) (v := (.pointer (some ⟨b1, 4, none⟩))) hf rfl rfl rfl (fun hact => (r_fa rfl Try.underlying81 (f := 4) (q := 4) rfl (by kernel_rfl) rfl)) rfl rfl ?_; clear hf fa; intro fa hf
              refine sqgF (act := (!(((decide ((0 : Int) ≠ (0 : Int))) || (!((decide ((0 : Int) = (0 : Int))) && ((decide ((0 : Int) = (0 : Int))) && (false == false))))) || (!((decide (ip.2.2.2.2.2.1.1 = (0 : Int))) && (ip.2.2.2.2.2.1.2.1 == false)))))) (ag := true) (c := (((decide ((0 : Int) ≠ (0 : Int))) || (!((decide ((0 : Int) = (0 : Int))) && ((decide ((0 : Int) = (0 : Int))) && (false == false))))) || (!((decide (ip.2.2.2.2.2.1.1 = (0 : Int))) && (ip.2.2.2.2.2.1.2.1 == false))))) (v := (.pointer (some ⟨b1, 6, none⟩))) hf rfl rfl rfl (fun hact => (r_fa (gb_ev hact rfl) Try.underlying43 (f := 2) (q := 6) rfl (by kernel_rfl) rfl)) rfl rfl ?_; clear hf fa; intro fa hf
              refine sqgF (act := (!(((decide ((0 : Int) ≠ (0 : Int))) || (!((decide ((0 : Int) = (0 : Int))) && ((decide ((0 : Int) = (0 : Int))) && (false == false))))) || (!((decide (ip.2.2.2.2.2.1.1 = (0 : Int))) && (ip.2.2.2.2.2.1.2.1 == false)))))) (ag := true) (c := (((decide ((0 : Int) ≠ (0 : Int))) || (!((decide ((0 : Int) = (0 : Int))) && ((decide ((0 : Int) = (0 : Int))) && (false == false))))) || (!((decide (ip.2.2.2.2.2.1.1 = (0 : Int))) && (ip.2.2.2.2.2.1.2.1 == false))))) (v := (.bool ip.2.2.2.2.1.2.2.1)) hf rfl rfl rfl (fun hact => (r_load (v := (.bool ip.2.2.2.2.1.2.2.1)) (gb_ev hact rfl) Try.underlying4 rfl (cell_blk hk1 rfl))) rfl rfl ?_; clear hf fa; intro fa hf
              refine sqgF (act := (!(((decide ((0 : Int) ≠ (0 : Int))) || (!((decide ((0 : Int) = (0 : Int))) && ((decide ((0 : Int) = (0 : Int))) && (false == false))))) || (!((decide (ip.2.2.2.2.2.1.1 = (0 : Int))) && (ip.2.2.2.2.2.1.2.1 == false)))))) (ag := true) (c := (((decide ((0 : Int) ≠ (0 : Int))) || (!((decide ((0 : Int) = (0 : Int))) && ((decide ((0 : Int) = (0 : Int))) && (false == false))))) || (!((decide (ip.2.2.2.2.2.1.1 = (0 : Int))) && (ip.2.2.2.2.2.1.2.1 == false))))) (v := (.bool (!ip.2.2.2.2.1.2.2.1))) hf rfl rfl rfl (fun hact => (r_not (gb_ev hact rfl))) rfl rfl ?_; clear hf fa; intro fa hf
              refine sqgF (act := (!(((decide ((0 : Int) ≠ (0 : Int))) || (!((decide ((0 : Int) = (0 : Int))) && ((decide ((0 : Int) = (0 : Int))) && (false == false))))) || (!((decide (ip.2.2.2.2.2.1.1 = (0 : Int))) && (ip.2.2.2.2.2.1.2.1 == false)))))) (ag := true) (c := (((decide ((0 : Int) ≠ (0 : Int))) || (!((decide ((0 : Int) = (0 : Int))) && ((decide ((0 : Int) = (0 : Int))) && (false == false))))) || (!((decide (ip.2.2.2.2.2.1.1 = (0 : Int))) && (ip.2.2.2.2.2.1.2.1 == false))))) (v := (.bool (!ip.2.2.2.2.1.2.2.1))) hf rfl rfl rfl (fun hact => (r_move (gb_ev hact rfl))) rfl rfl ?_; clear hf fa; intro fa hf
              refine sqgT (act := ((!(((decide ((0 : Int) ≠ (0 : Int))) || (!((decide ((0 : Int) = (0 : Int))) && ((decide ((0 : Int) = (0 : Int))) && (false == false))))) || (!((decide (ip.2.2.2.2.2.1.1 = (0 : Int))) && (ip.2.2.2.2.2.1.2.1 == false))))) && (!ip.2.2.2.2.1.2.2.1))) (ag := (!(((decide ((0 : Int) ≠ (0 : Int))) || (!((decide ((0 : Int) = (0 : Int))) && ((decide ((0 : Int) = (0 : Int))) && (false == false))))) || (!((decide (ip.2.2.2.2.2.1.1 = (0 : Int))) && (ip.2.2.2.2.2.1.2.1 == false)))))) (c := (!ip.2.2.2.2.1.2.2.1)) (v := (.pointer (some ⟨b1, 4, none⟩))) hf rfl rfl rfl (fun hact => (r_fa rfl Try.underlying81 (f := 4) (q := 4) rfl (by kernel_rfl) rfl)) rfl rfl ?_; clear hf fa; intro fa hf
              refine sqgT (act := ((!(((decide ((0 : Int) ≠ (0 : Int))) || (!((decide ((0 : Int) = (0 : Int))) && ((decide ((0 : Int) = (0 : Int))) && (false == false))))) || (!((decide (ip.2.2.2.2.2.1.1 = (0 : Int))) && (ip.2.2.2.2.2.1.2.1 == false))))) && (!ip.2.2.2.2.1.2.2.1))) (ag := (!(((decide ((0 : Int) ≠ (0 : Int))) || (!((decide ((0 : Int) = (0 : Int))) && ((decide ((0 : Int) = (0 : Int))) && (false == false))))) || (!((decide (ip.2.2.2.2.2.1.1 = (0 : Int))) && (ip.2.2.2.2.2.1.2.1 == false)))))) (c := (!ip.2.2.2.2.1.2.2.1)) (v := (.pointer (some ⟨b1, 5, none⟩))) hf rfl rfl rfl (fun hact => (r_fa (gb_ev hact rfl) Try.underlying43 (f := 1) (q := 5) rfl (by kernel_rfl) rfl)) rfl rfl ?_; clear hf fa; intro fa hf
              refine sqgT (act := ((!(((decide ((0 : Int) ≠ (0 : Int))) || (!((decide ((0 : Int) = (0 : Int))) && ((decide ((0 : Int) = (0 : Int))) && (false == false))))) || (!((decide (ip.2.2.2.2.2.1.1 = (0 : Int))) && (ip.2.2.2.2.2.1.2.1 == false))))) && (!ip.2.2.2.2.1.2.2.1))) (ag := (!(((decide ((0 : Int) ≠ (0 : Int))) || (!((decide ((0 : Int) = (0 : Int))) && ((decide ((0 : Int) = (0 : Int))) && (false == false))))) || (!((decide (ip.2.2.2.2.2.1.1 = (0 : Int))) && (ip.2.2.2.2.2.1.2.1 == false)))))) (c := (!ip.2.2.2.2.1.2.2.1)) (v := (.int .u32 ip.2.2.2.2.1.2.1)) hf rfl rfl rfl (fun hact => (r_load (v := (.int .u32 ip.2.2.2.2.1.2.1)) (gb_ev hact rfl) Try.underlying24 rfl (cell_blk hk1 rfl))) rfl rfl ?_; clear hf fa; intro fa hf
              refine sqgT (act := ((!(((decide ((0 : Int) ≠ (0 : Int))) || (!((decide ((0 : Int) = (0 : Int))) && ((decide ((0 : Int) = (0 : Int))) && (false == false))))) || (!((decide (ip.2.2.2.2.2.1.1 = (0 : Int))) && (ip.2.2.2.2.2.1.2.1 == false))))) && (!ip.2.2.2.2.1.2.2.1))) (ag := (!(((decide ((0 : Int) ≠ (0 : Int))) || (!((decide ((0 : Int) = (0 : Int))) && ((decide ((0 : Int) = (0 : Int))) && (false == false))))) || (!((decide (ip.2.2.2.2.2.1.1 = (0 : Int))) && (ip.2.2.2.2.2.1.2.1 == false)))))) (c := (!ip.2.2.2.2.1.2.2.1)) (v := (.bool (decide (ip.2.2.2.2.1.2.1 ≠ (0 : Int))))) hf rfl rfl rfl (fun hact => (r_ne (gb_ev hact rfl) rfl)) rfl rfl ?_; clear hf fa; intro fa hf
              refine sqgF (act := (!(((decide ((0 : Int) ≠ (0 : Int))) || (!((decide ((0 : Int) = (0 : Int))) && ((decide ((0 : Int) = (0 : Int))) && (false == false))))) || (!((decide (ip.2.2.2.2.2.1.1 = (0 : Int))) && (ip.2.2.2.2.2.1.2.1 == false)))))) (ag := true) (c := (((decide ((0 : Int) ≠ (0 : Int))) || (!((decide ((0 : Int) = (0 : Int))) && ((decide ((0 : Int) = (0 : Int))) && (false == false))))) || (!((decide (ip.2.2.2.2.2.1.1 = (0 : Int))) && (ip.2.2.2.2.2.1.2.1 == false))))) (v := (.bool ((!ip.2.2.2.2.1.2.2.1) && (decide (ip.2.2.2.2.1.2.1 ≠ (0 : Int)))))) hf rfl rfl rfl (fun hact => (r_pickA2 (q := (!(((decide ((0 : Int) ≠ (0 : Int))) || (!((decide ((0 : Int) = (0 : Int))) && ((decide ((0 : Int) = (0 : Int))) && (false == false))))) || (!((decide (ip.2.2.2.2.2.1.1 = (0 : Int))) && (ip.2.2.2.2.2.1.2.1 == false)))))) (b := (!ip.2.2.2.2.1.2.2.1)) (e := (decide (ip.2.2.2.2.1.2.1 ≠ (0 : Int)))) hact rfl rfl rfl)) rfl rfl ?_; clear hf fa; intro fa hf
              refine sqv hf (r_pickO (b := (((decide ((0 : Int) ≠ (0 : Int))) || (!((decide ((0 : Int) = (0 : Int))) && ((decide ((0 : Int) = (0 : Int))) && (false == false))))) || (!((decide (ip.2.2.2.2.2.1.1 = (0 : Int))) && (ip.2.2.2.2.2.1.2.1 == false))))) (e := ((!ip.2.2.2.2.1.2.2.1) && (decide (ip.2.2.2.2.1.2.1 ≠ (0 : Int))))) rfl rfl rfl) rfl rfl rfl ?_; clear hf fa; intro fa hf
              apply wpList_nil
              (try simp only [Exit.then, Exit.inBlock, ↓reduceIte, Nat.reduceEqDiff])
              refine hK27 _ _ ?_
              refine wp_cond_split (t := ((((decide ((0 : Int) ≠ (0 : Int))) || (!((decide ((0 : Int) = (0 : Int))) && ((decide ((0 : Int) = (0 : Int))) && (false == false))))) || (!((decide (ip.2.2.2.2.2.1.1 = (0 : Int))) && (ip.2.2.2.2.2.1.2.1 == false)))) || ((!ip.2.2.2.2.1.2.2.1) && (decide (ip.2.2.2.2.1.2.1 ≠ (0 : Int)))))) (hf.ev rfl) (fun hqt79_2 => ?_) (fun hqt79_2 => ?_)
              · have hqt79_2b := hqt79_2
                try simp only [decide_eq_true_eq, Bool.and_eq_true, Bool.or_eq_true, Bool.not_eq_true', decide_eq_false_iff_not, ne_eq, Bool.not_eq_true] at hqt79_2
                refine wp_seq_k (fun K28 hK28 => ?_)
                refine wp_region_lit ?_
                refine sqv hf (r_assign rfl) rfl rfl rfl ?_; clear hf fa; intro fa hf
                apply wpList_nil
                (try simp only [Exit.then, Exit.inBlock, ↓reduceIte, Nat.reduceEqDiff])
                refine hK28 _ _ ?_
                refine wp_ret ?_
                (try simp only [Exit.then, Exit.inBlock])
                refine ret1 hf rfl rfl ?_
                refine ⟨?_, hb⟩; unfold irrP; rw [hqt10_1b, hqt16_1b, hqt20_1b, hqt36_1b, hqt45_1b, hqt50_1b, hqt79_2b]; (try rfl)
              · have hqt79_2b := hqt79_2
                replace hqt79_2 := Bool.eq_false_iff.1 hqt79_2
                try simp only [ne_eq, decide_eq_true_eq, Bool.and_eq_true, Bool.or_eq_true, Bool.not_eq_true', decide_eq_false_iff_not] at hqt79_2
                refine wp_skip ?_
                (try simp only [Exit.then, Exit.inBlock, ↓reduceIte, Nat.reduceEqDiff])
                refine hK26 _ _ ?_
                refine wp_seq_k (fun K29 hK29 => ?_)
                refine wp_seq_k (fun K30 hK30 => ?_)
                refine wp_region_lit ?_
                refine sqv hf (r_fa rfl Try.underlying81 (f := 2) (q := 2) rfl (by kernel_rfl) rfl) rfl rfl rfl ?_; clear hf fa; intro fa hf
                refine sqv hf (r_load (v := (.int .u8 ip.2.2.1)) rfl Try.underlying5 rfl (cell_blk hk1 rfl)) rfl rfl rfl ?_; clear hf fa; intro fa hf
                refine sqv hf (r_eq rfl rfl) rfl rfl rfl ?_; clear hf fa; intro fa hf
                apply wpList_nil
                (try simp only [Exit.then, Exit.inBlock, ↓reduceIte, Nat.reduceEqDiff])
                refine hK30 _ _ ?_
                refine wp_cond_false ((hf.ev rfl).trans (congrArg Value.bool (show (decide (ip.2.2.1 = (3 : Int))) = false from hqt50_1b))) ?_
                refine wp_skip ?_
                (try simp only [Exit.then, Exit.inBlock, ↓reduceIte, Nat.reduceEqDiff])
                refine hK29 _ _ ?_
                refine wp_seq_k (fun K31 hK31 => ?_)
                refine wp_region_lit ?_
                refine sqv hf (r_assign rfl) rfl rfl rfl ?_; clear hf fa; intro fa hf
                apply wpList_nil
                (try simp only [Exit.then, Exit.inBlock, ↓reduceIte, Nat.reduceEqDiff])
                refine hK31 _ _ ?_
                refine wp_ret ?_
                (try simp only [Exit.then, Exit.inBlock])
                refine ret1 hf rfl rfl ?_
                refine ⟨?_, hb⟩; unfold irrP; rw [hqt10_1b, hqt16_1b, hqt20_1b, hqt36_1b, hqt45_1b, hqt50_1b, hqt79_2b]; (try rfl)
          · have hqt45_1b := hqt45_1
            replace hqt45_1 := Bool.eq_false_iff.1 hqt45_1
            try simp only [ne_eq, decide_eq_true_eq, Bool.and_eq_true, Bool.or_eq_true, Bool.not_eq_true', decide_eq_false_iff_not] at hqt45_1
            refine wp_skip ?_
            (try simp only [Exit.then, Exit.inBlock, ↓reduceIte, Nat.reduceEqDiff])
            refine hK16 _ _ ?_
            refine wp_seq_k (fun K32 hK32 => ?_)
            refine wp_seq_k (fun K33 hK33 => ?_)
            refine wp_region_lit ?_
            refine sqv hf (r_fa rfl Try.underlying81 (f := 2) (q := 2) rfl (by kernel_rfl) rfl) rfl rfl rfl ?_; clear hf fa; intro fa hf
            refine sqv hf (r_load (v := (.int .u8 ip.2.2.1)) rfl Try.underlying5 rfl (cell_blk hk1 rfl)) rfl rfl rfl ?_; clear hf fa; intro fa hf
            refine sqv hf (r_eq rfl rfl) rfl rfl rfl ?_; clear hf fa; intro fa hf
            apply wpList_nil
            (try simp only [Exit.then, Exit.inBlock, ↓reduceIte, Nat.reduceEqDiff])
            refine hK33 _ _ ?_
            refine wp_cond_split (t := (decide (ip.2.2.1 = (3 : Int)))) (hf.ev rfl) (fun hqt50_2 => ?_) (fun hqt50_2 => ?_)
            · have hqt50_2b := hqt50_2
              try simp only [decide_eq_true_eq, Bool.and_eq_true, Bool.or_eq_true, Bool.not_eq_true', decide_eq_false_iff_not, ne_eq, Bool.not_eq_true] at hqt50_2
              refine wp_region_lit ?_
              refine sqv hf (r_build (vs := []) (cs := #[(.int .u8 (0 : Int)), (.bool false)]) rfl (fun _ => by kernel_rfl)) rfl rfl rfl ?_; clear hf fa; intro fa hf
              refine sqv hf (r_fa rfl Try.underlying81 (f := 5) (q := 7) rfl (by kernel_rfl) rfl) rfl rfl rfl ?_; clear hf fa; intro fa hf
              refine sqn hf (d_storeK (T := 81) (v := (.agg #[(.int .u8 (0 : Int)), (.bool false)])) (cs := #[(.string ip.1), (.string ip.2.1), (.int .u8 ip.2.2.1), (.int .u32 (0 : Int)), (.int .u32 ip.2.2.2.2.1.1), (.int .u32 ip.2.2.2.2.1.2.1), (.bool ip.2.2.2.2.1.2.2.1), (.int .u8 ip.2.2.2.2.2.1.1), (.bool ip.2.2.2.2.2.1.2.1)]) (cs' := #[(.string ip.1), (.string ip.2.1), (.int .u8 ip.2.2.1), (.int .u32 (0 : Int)), (.int .u32 ip.2.2.2.2.1.1), (.int .u32 ip.2.2.2.2.1.2.1), (.bool ip.2.2.2.2.1.2.2.1), (.int .u8 (0 : Int)), (.bool false)]) rfl rfl (by kernel_rfl) (by kernel_rfl) hk4 (by kernel_rfl) (by kernel_rfl)) rfl rfl ?_; clear hf fa; rintro fa _ w9 ⟨hk7, hg5⟩ hf
              replace hk1 := blk_grown hk1 hg5 (by omega)
              replace hb := hb.trans (grown_below hg5 hb.size hBb2)
              apply wpList_nil
              (try simp only [Exit.then, Exit.inBlock, ↓reduceIte, Nat.reduceEqDiff])
              refine hK32 _ _ ?_
              refine wp_seq_k (fun K34 hK34 => ?_)
              refine wp_seq_k (fun K35 hK35 => ?_)
              refine wp_region_lit ?_
              refine sqv hf (r_fa rfl Try.underlying81 (f := 3) (q := 3) rfl (by kernel_rfl) rfl) rfl rfl rfl ?_; clear hf fa; intro fa hf
              refine sqv hf (r_load (v := (.int .u32 (0 : Int))) rfl Try.underlying24 rfl (cell_blk hk7 rfl)) rfl rfl rfl ?_; clear hf fa; intro fa hf
              refine sqv hf (r_ne rfl rfl) rfl rfl rfl ?_; clear hf fa; intro fa hf
              refine sqv hf (r_move rfl) rfl rfl rfl ?_; clear hf fa; intro fa hf
              refine sqgF (act := (!(decide ((0 : Int) ≠ (0 : Int))))) (ag := true) (c := (decide ((0 : Int) ≠ (0 : Int)))) (v := (.pointer (some ⟨b2, 4, none⟩))) hf rfl rfl rfl (fun hact => (r_fa rfl Try.underlying81 (f := 4) (q := 4) rfl (by kernel_rfl) rfl)) rfl rfl ?_; clear hf fa; intro fa hf
              refine sqgF (act := (!(decide ((0 : Int) ≠ (0 : Int))))) (ag := true) (c := (decide ((0 : Int) ≠ (0 : Int)))) (v := (.agg #[(.int .u32 ip.2.2.2.2.1.1), (.int .u32 ip.2.2.2.2.1.2.1), (.bool ip.2.2.2.2.1.2.2.1)])) hf rfl rfl rfl (fun hact => (r_loadA (cs := [(.int .u32 ip.2.2.2.2.1.1), (.int .u32 ip.2.2.2.2.1.2.1), (.bool ip.2.2.2.2.1.2.2.1)]) (gb_ev hact rfl) Try.underlying43 rfl (by kernel_rfl) (cellsAt_part (d := 4) (n := 3) (cellsAt_blk hk7) rfl rfl))) rfl rfl ?_; clear hf fa; intro fa hf
              refine sqgF (act := (!(decide ((0 : Int) ≠ (0 : Int))))) (ag := true) (c := (decide ((0 : Int) ≠ (0 : Int)))) (v := (.agg #[(.int .u32 (0 : Int)), (.int .u32 (0 : Int)), (.bool false)])) hf rfl rfl rfl (fun hact => (r_build (vs := []) (cs := #[(.int .u32 (0 : Int)), (.int .u32 (0 : Int)), (.bool false)]) rfl (fun _ => by kernel_rfl))) rfl rfl ?_; clear hf fa; intro fa hf
              refine sqgF (act := (!(decide ((0 : Int) ≠ (0 : Int))))) (ag := true) (c := (decide ((0 : Int) ≠ (0 : Int)))) (v := (.bool (!((decide (ip.2.2.2.2.1.1 = (0 : Int))) && ((decide (ip.2.2.2.2.1.2.1 = (0 : Int))) && (ip.2.2.2.2.1.2.2.1 == false)))))) hf rfl rfl rfl (fun hact => (r_ane (k := 5) (gb_ev hact rfl) (gb_ev hact rfl) (by kernel_rfl) (eqt_struct (xs := #[(.int .u32 ip.2.2.2.2.1.1), (.int .u32 ip.2.2.2.2.1.2.1), (.bool ip.2.2.2.2.1.2.2.1)]) (ys := #[(.int .u32 (0 : Int)), (.int .u32 (0 : Int)), (.bool false)]) Try.underlying43 (by kernel_rfl) (eqf_cons (by kernel_rfl) (fun _ => by kernel_rfl) (fun _ => by kernel_rfl) (eqt_int (kk := .u32) (a := ip.2.2.2.2.1.1) (b := (0 : Int)) Try.underlying24) (eqf_cons (by kernel_rfl) (fun _ => by kernel_rfl) (fun _ => by kernel_rfl) (eqt_int (kk := .u32) (a := ip.2.2.2.2.1.2.1) (b := (0 : Int)) Try.underlying24) (eqf_one (by kernel_rfl) (fun _ => by kernel_rfl) (fun _ => by kernel_rfl) (eqt_bool (a := ip.2.2.2.2.1.2.2.1) (b := false) Try.underlying4))))) rfl)) rfl rfl ?_; clear hf fa; intro fa hf
              refine sqv hf (r_pickO (b := (decide ((0 : Int) ≠ (0 : Int)))) (e := (!((decide (ip.2.2.2.2.1.1 = (0 : Int))) && ((decide (ip.2.2.2.2.1.2.1 = (0 : Int))) && (ip.2.2.2.2.1.2.2.1 == false))))) rfl rfl rfl) rfl rfl rfl ?_; clear hf fa; intro fa hf
              refine sqv hf (r_move rfl) rfl rfl rfl ?_; clear hf fa; intro fa hf
              refine sqgF (act := (!((decide ((0 : Int) ≠ (0 : Int))) || (!((decide (ip.2.2.2.2.1.1 = (0 : Int))) && ((decide (ip.2.2.2.2.1.2.1 = (0 : Int))) && (ip.2.2.2.2.1.2.2.1 == false))))))) (ag := true) (c := ((decide ((0 : Int) ≠ (0 : Int))) || (!((decide (ip.2.2.2.2.1.1 = (0 : Int))) && ((decide (ip.2.2.2.2.1.2.1 = (0 : Int))) && (ip.2.2.2.2.1.2.2.1 == false)))))) (v := (.pointer (some ⟨b2, 7, none⟩))) hf rfl rfl rfl (fun hact => (r_fa rfl Try.underlying81 (f := 5) (q := 7) rfl (by kernel_rfl) rfl)) rfl rfl ?_; clear hf fa; intro fa hf
              refine sqgF (act := (!((decide ((0 : Int) ≠ (0 : Int))) || (!((decide (ip.2.2.2.2.1.1 = (0 : Int))) && ((decide (ip.2.2.2.2.1.2.1 = (0 : Int))) && (ip.2.2.2.2.1.2.2.1 == false))))))) (ag := true) (c := ((decide ((0 : Int) ≠ (0 : Int))) || (!((decide (ip.2.2.2.2.1.1 = (0 : Int))) && ((decide (ip.2.2.2.2.1.2.1 = (0 : Int))) && (ip.2.2.2.2.1.2.2.1 == false)))))) (v := (.agg #[(.int .u8 (0 : Int)), (.bool false)])) hf rfl rfl rfl (fun hact => (r_loadA (cs := [(.int .u8 (0 : Int)), (.bool false)]) (gb_ev hact rfl) Try.underlying54 rfl (by kernel_rfl) (cellsAt_part (d := 7) (n := 2) (cellsAt_blk hk7) rfl rfl))) rfl rfl ?_; clear hf fa; intro fa hf
              refine sqgF (act := (!((decide ((0 : Int) ≠ (0 : Int))) || (!((decide (ip.2.2.2.2.1.1 = (0 : Int))) && ((decide (ip.2.2.2.2.1.2.1 = (0 : Int))) && (ip.2.2.2.2.1.2.2.1 == false))))))) (ag := true) (c := ((decide ((0 : Int) ≠ (0 : Int))) || (!((decide (ip.2.2.2.2.1.1 = (0 : Int))) && ((decide (ip.2.2.2.2.1.2.1 = (0 : Int))) && (ip.2.2.2.2.1.2.2.1 == false)))))) (v := (.agg #[(.int .u8 (0 : Int)), (.bool false)])) hf rfl rfl rfl (fun hact => (r_build (vs := []) (cs := #[(.int .u8 (0 : Int)), (.bool false)]) rfl (fun _ => by kernel_rfl))) rfl rfl ?_; clear hf fa; intro fa hf
              refine sqgF (act := (!((decide ((0 : Int) ≠ (0 : Int))) || (!((decide (ip.2.2.2.2.1.1 = (0 : Int))) && ((decide (ip.2.2.2.2.1.2.1 = (0 : Int))) && (ip.2.2.2.2.1.2.2.1 == false))))))) (ag := true) (c := ((decide ((0 : Int) ≠ (0 : Int))) || (!((decide (ip.2.2.2.2.1.1 = (0 : Int))) && ((decide (ip.2.2.2.2.1.2.1 = (0 : Int))) && (ip.2.2.2.2.1.2.2.1 == false)))))) (v := (.bool (!((decide ((0 : Int) = (0 : Int))) && (false == false))))) hf rfl rfl rfl (fun hact => (r_ane (k := 5) (gb_ev hact rfl) (gb_ev hact rfl) (by kernel_rfl) (eqt_struct (xs := #[(.int .u8 (0 : Int)), (.bool false)]) (ys := #[(.int .u8 (0 : Int)), (.bool false)]) Try.underlying54 (by kernel_rfl) (eqf_cons (by kernel_rfl) (fun _ => by kernel_rfl) (fun _ => by kernel_rfl) (eqt_int (kk := .u8) (a := (0 : Int)) (b := (0 : Int)) Try.underlying5) (eqf_one (by kernel_rfl) (fun _ => by kernel_rfl) (fun _ => by kernel_rfl) (eqt_bool (a := false) (b := false) Try.underlying4)))) rfl)) rfl rfl ?_; clear hf fa; intro fa hf
              refine sqv hf (r_pickO (b := ((decide ((0 : Int) ≠ (0 : Int))) || (!((decide (ip.2.2.2.2.1.1 = (0 : Int))) && ((decide (ip.2.2.2.2.1.2.1 = (0 : Int))) && (ip.2.2.2.2.1.2.2.1 == false)))))) (e := (!((decide ((0 : Int) = (0 : Int))) && (false == false)))) rfl rfl rfl) rfl rfl rfl ?_; clear hf fa; intro fa hf
              refine sqv hf (r_move rfl) rfl rfl rfl ?_; clear hf fa; intro fa hf
              refine sqgF (act := (!(((decide ((0 : Int) ≠ (0 : Int))) || (!((decide (ip.2.2.2.2.1.1 = (0 : Int))) && ((decide (ip.2.2.2.2.1.2.1 = (0 : Int))) && (ip.2.2.2.2.1.2.2.1 == false))))) || (!((decide ((0 : Int) = (0 : Int))) && (false == false)))))) (ag := true) (c := (((decide ((0 : Int) ≠ (0 : Int))) || (!((decide (ip.2.2.2.2.1.1 = (0 : Int))) && ((decide (ip.2.2.2.2.1.2.1 = (0 : Int))) && (ip.2.2.2.2.1.2.2.1 == false))))) || (!((decide ((0 : Int) = (0 : Int))) && (false == false))))) (v := (.pointer (some ⟨b1, 4, none⟩))) hf rfl rfl rfl (fun hact => (r_fa rfl Try.underlying81 (f := 4) (q := 4) rfl (by kernel_rfl) rfl)) rfl rfl ?_; clear hf fa; intro fa hf
              refine sqgF (act := (!(((decide ((0 : Int) ≠ (0 : Int))) || (!((decide (ip.2.2.2.2.1.1 = (0 : Int))) && ((decide (ip.2.2.2.2.1.2.1 = (0 : Int))) && (ip.2.2.2.2.1.2.2.1 == false))))) || (!((decide ((0 : Int) = (0 : Int))) && (false == false)))))) (ag := true) (c := (((decide ((0 : Int) ≠ (0 : Int))) || (!((decide (ip.2.2.2.2.1.1 = (0 : Int))) && ((decide (ip.2.2.2.2.1.2.1 = (0 : Int))) && (ip.2.2.2.2.1.2.2.1 == false))))) || (!((decide ((0 : Int) = (0 : Int))) && (false == false))))) (v := (.pointer (some ⟨b1, 6, none⟩))) hf rfl rfl rfl (fun hact => (r_fa (gb_ev hact rfl) Try.underlying43 (f := 2) (q := 6) rfl (by kernel_rfl) rfl)) rfl rfl ?_; clear hf fa; intro fa hf
              refine sqgF (act := (!(((decide ((0 : Int) ≠ (0 : Int))) || (!((decide (ip.2.2.2.2.1.1 = (0 : Int))) && ((decide (ip.2.2.2.2.1.2.1 = (0 : Int))) && (ip.2.2.2.2.1.2.2.1 == false))))) || (!((decide ((0 : Int) = (0 : Int))) && (false == false)))))) (ag := true) (c := (((decide ((0 : Int) ≠ (0 : Int))) || (!((decide (ip.2.2.2.2.1.1 = (0 : Int))) && ((decide (ip.2.2.2.2.1.2.1 = (0 : Int))) && (ip.2.2.2.2.1.2.2.1 == false))))) || (!((decide ((0 : Int) = (0 : Int))) && (false == false))))) (v := (.bool ip.2.2.2.2.1.2.2.1)) hf rfl rfl rfl (fun hact => (r_load (v := (.bool ip.2.2.2.2.1.2.2.1)) (gb_ev hact rfl) Try.underlying4 rfl (cell_blk hk1 rfl))) rfl rfl ?_; clear hf fa; intro fa hf
              refine sqgF (act := (!(((decide ((0 : Int) ≠ (0 : Int))) || (!((decide (ip.2.2.2.2.1.1 = (0 : Int))) && ((decide (ip.2.2.2.2.1.2.1 = (0 : Int))) && (ip.2.2.2.2.1.2.2.1 == false))))) || (!((decide ((0 : Int) = (0 : Int))) && (false == false)))))) (ag := true) (c := (((decide ((0 : Int) ≠ (0 : Int))) || (!((decide (ip.2.2.2.2.1.1 = (0 : Int))) && ((decide (ip.2.2.2.2.1.2.1 = (0 : Int))) && (ip.2.2.2.2.1.2.2.1 == false))))) || (!((decide ((0 : Int) = (0 : Int))) && (false == false))))) (v := (.bool (!ip.2.2.2.2.1.2.2.1))) hf rfl rfl rfl (fun hact => (r_not (gb_ev hact rfl))) rfl rfl ?_; clear hf fa; intro fa hf
              refine sqgF (act := (!(((decide ((0 : Int) ≠ (0 : Int))) || (!((decide (ip.2.2.2.2.1.1 = (0 : Int))) && ((decide (ip.2.2.2.2.1.2.1 = (0 : Int))) && (ip.2.2.2.2.1.2.2.1 == false))))) || (!((decide ((0 : Int) = (0 : Int))) && (false == false)))))) (ag := true) (c := (((decide ((0 : Int) ≠ (0 : Int))) || (!((decide (ip.2.2.2.2.1.1 = (0 : Int))) && ((decide (ip.2.2.2.2.1.2.1 = (0 : Int))) && (ip.2.2.2.2.1.2.2.1 == false))))) || (!((decide ((0 : Int) = (0 : Int))) && (false == false))))) (v := (.bool (!ip.2.2.2.2.1.2.2.1))) hf rfl rfl rfl (fun hact => (r_move (gb_ev hact rfl))) rfl rfl ?_; clear hf fa; intro fa hf
              refine sqgT (act := ((!(((decide ((0 : Int) ≠ (0 : Int))) || (!((decide (ip.2.2.2.2.1.1 = (0 : Int))) && ((decide (ip.2.2.2.2.1.2.1 = (0 : Int))) && (ip.2.2.2.2.1.2.2.1 == false))))) || (!((decide ((0 : Int) = (0 : Int))) && (false == false))))) && (!ip.2.2.2.2.1.2.2.1))) (ag := (!(((decide ((0 : Int) ≠ (0 : Int))) || (!((decide (ip.2.2.2.2.1.1 = (0 : Int))) && ((decide (ip.2.2.2.2.1.2.1 = (0 : Int))) && (ip.2.2.2.2.1.2.2.1 == false))))) || (!((decide ((0 : Int) = (0 : Int))) && (false == false)))))) (c := (!ip.2.2.2.2.1.2.2.1)) (v := (.pointer (some ⟨b1, 4, none⟩))) hf rfl rfl rfl (fun hact => (r_fa rfl Try.underlying81 (f := 4) (q := 4) rfl (by kernel_rfl) rfl)) rfl rfl ?_; clear hf fa; intro fa hf
              refine sqgT (act := ((!(((decide ((0 : Int) ≠ (0 : Int))) || (!((decide (ip.2.2.2.2.1.1 = (0 : Int))) && ((decide (ip.2.2.2.2.1.2.1 = (0 : Int))) && (ip.2.2.2.2.1.2.2.1 == false))))) || (!((decide ((0 : Int) = (0 : Int))) && (false == false))))) && (!ip.2.2.2.2.1.2.2.1))) (ag := (!(((decide ((0 : Int) ≠ (0 : Int))) || (!((decide (ip.2.2.2.2.1.1 = (0 : Int))) && ((decide (ip.2.2.2.2.1.2.1 = (0 : Int))) && (ip.2.2.2.2.1.2.2.1 == false))))) || (!((decide ((0 : Int) = (0 : Int))) && (false == false)))))) (c := (!ip.2.2.2.2.1.2.2.1)) (v := (.pointer (some ⟨b1, 5, none⟩))) hf rfl rfl rfl (fun hact => (r_fa (gb_ev hact rfl) Try.underlying43 (f := 1) (q := 5) rfl (by kernel_rfl) rfl)) rfl rfl ?_; clear hf fa; intro fa hf
              refine sqgT (act := ((!(((decide ((0 : Int) ≠ (0 : Int))) || (!((decide (ip.2.2.2.2.1.1 = (0 : Int))) && ((decide (ip.2.2.2.2.1.2.1 = (0 : Int))) && (ip.2.2.2.2.1.2.2.1 == false))))) || (!((decide ((0 : Int) = (0 : Int))) && (false == false))))) && (!ip.2.2.2.2.1.2.2.1))) (ag := (!(((decide ((0 : Int) ≠ (0 : Int))) || (!((decide (ip.2.2.2.2.1.1 = (0 : Int))) && ((decide (ip.2.2.2.2.1.2.1 = (0 : Int))) && (ip.2.2.2.2.1.2.2.1 == false))))) || (!((decide ((0 : Int) = (0 : Int))) && (false == false)))))) (c := (!ip.2.2.2.2.1.2.2.1)) (v := (.int .u32 ip.2.2.2.2.1.2.1)) hf rfl rfl rfl (fun hact => (r_load (v := (.int .u32 ip.2.2.2.2.1.2.1)) (gb_ev hact rfl) Try.underlying24 rfl (cell_blk hk1 rfl))) rfl rfl ?_; clear hf fa; intro fa hf
              refine sqgT (act := ((!(((decide ((0 : Int) ≠ (0 : Int))) || (!((decide (ip.2.2.2.2.1.1 = (0 : Int))) && ((decide (ip.2.2.2.2.1.2.1 = (0 : Int))) && (ip.2.2.2.2.1.2.2.1 == false))))) || (!((decide ((0 : Int) = (0 : Int))) && (false == false))))) && (!ip.2.2.2.2.1.2.2.1))) (ag := (!(((decide ((0 : Int) ≠ (0 : Int))) || (!((decide (ip.2.2.2.2.1.1 = (0 : Int))) && ((decide (ip.2.2.2.2.1.2.1 = (0 : Int))) && (ip.2.2.2.2.1.2.2.1 == false))))) || (!((decide ((0 : Int) = (0 : Int))) && (false == false)))))) (c := (!ip.2.2.2.2.1.2.2.1)) (v := (.bool (decide (ip.2.2.2.2.1.2.1 ≠ (0 : Int))))) hf rfl rfl rfl (fun hact => (r_ne (gb_ev hact rfl) rfl)) rfl rfl ?_; clear hf fa; intro fa hf
              refine sqgF (act := (!(((decide ((0 : Int) ≠ (0 : Int))) || (!((decide (ip.2.2.2.2.1.1 = (0 : Int))) && ((decide (ip.2.2.2.2.1.2.1 = (0 : Int))) && (ip.2.2.2.2.1.2.2.1 == false))))) || (!((decide ((0 : Int) = (0 : Int))) && (false == false)))))) (ag := true) (c := (((decide ((0 : Int) ≠ (0 : Int))) || (!((decide (ip.2.2.2.2.1.1 = (0 : Int))) && ((decide (ip.2.2.2.2.1.2.1 = (0 : Int))) && (ip.2.2.2.2.1.2.2.1 == false))))) || (!((decide ((0 : Int) = (0 : Int))) && (false == false))))) (v := (.bool ((!ip.2.2.2.2.1.2.2.1) && (decide (ip.2.2.2.2.1.2.1 ≠ (0 : Int)))))) hf rfl rfl rfl (fun hact => (r_pickA2 (q := (!(((decide ((0 : Int) ≠ (0 : Int))) || (!((decide (ip.2.2.2.2.1.1 = (0 : Int))) && ((decide (ip.2.2.2.2.1.2.1 = (0 : Int))) && (ip.2.2.2.2.1.2.2.1 == false))))) || (!((decide ((0 : Int) = (0 : Int))) && (false == false)))))) (b := (!ip.2.2.2.2.1.2.2.1)) (e := (decide (ip.2.2.2.2.1.2.1 ≠ (0 : Int)))) hact rfl rfl rfl)) rfl rfl ?_; clear hf fa; intro fa hf
              refine sqv hf (r_pickO (b := (((decide ((0 : Int) ≠ (0 : Int))) || (!((decide (ip.2.2.2.2.1.1 = (0 : Int))) && ((decide (ip.2.2.2.2.1.2.1 = (0 : Int))) && (ip.2.2.2.2.1.2.2.1 == false))))) || (!((decide ((0 : Int) = (0 : Int))) && (false == false))))) (e := ((!ip.2.2.2.2.1.2.2.1) && (decide (ip.2.2.2.2.1.2.1 ≠ (0 : Int))))) rfl rfl rfl) rfl rfl rfl ?_; clear hf fa; intro fa hf
              apply wpList_nil
              (try simp only [Exit.then, Exit.inBlock, ↓reduceIte, Nat.reduceEqDiff])
              refine hK35 _ _ ?_
              refine wp_cond_split (t := ((((decide ((0 : Int) ≠ (0 : Int))) || (!((decide (ip.2.2.2.2.1.1 = (0 : Int))) && ((decide (ip.2.2.2.2.1.2.1 = (0 : Int))) && (ip.2.2.2.2.1.2.2.1 == false))))) || (!((decide ((0 : Int) = (0 : Int))) && (false == false)))) || ((!ip.2.2.2.2.1.2.2.1) && (decide (ip.2.2.2.2.1.2.1 ≠ (0 : Int)))))) (hf.ev rfl) (fun hqt79_3 => ?_) (fun hqt79_3 => ?_)
              · have hqt79_3b := hqt79_3
                try simp only [decide_eq_true_eq, Bool.and_eq_true, Bool.or_eq_true, Bool.not_eq_true', decide_eq_false_iff_not, ne_eq, Bool.not_eq_true] at hqt79_3
                refine wp_seq_k (fun K36 hK36 => ?_)
                refine wp_region_lit ?_
                refine sqv hf (r_assign rfl) rfl rfl rfl ?_; clear hf fa; intro fa hf
                apply wpList_nil
                (try simp only [Exit.then, Exit.inBlock, ↓reduceIte, Nat.reduceEqDiff])
                refine hK36 _ _ ?_
                refine wp_ret ?_
                (try simp only [Exit.then, Exit.inBlock])
                refine ret1 hf rfl rfl ?_
                refine ⟨?_, hb⟩; unfold irrP; rw [hqt10_1b, hqt16_1b, hqt20_1b, hqt36_1b, hqt45_1b, hqt50_2b, hqt79_3b]; (try rfl)
              · have hqt79_3b := hqt79_3
                replace hqt79_3 := Bool.eq_false_iff.1 hqt79_3
                try simp only [ne_eq, decide_eq_true_eq, Bool.and_eq_true, Bool.or_eq_true, Bool.not_eq_true', decide_eq_false_iff_not] at hqt79_3
                refine wp_skip ?_
                (try simp only [Exit.then, Exit.inBlock, ↓reduceIte, Nat.reduceEqDiff])
                refine hK34 _ _ ?_
                refine wp_seq_k (fun K37 hK37 => ?_)
                refine wp_seq_k (fun K38 hK38 => ?_)
                refine wp_region_lit ?_
                refine sqv hf (r_fa rfl Try.underlying81 (f := 2) (q := 2) rfl (by kernel_rfl) rfl) rfl rfl rfl ?_; clear hf fa; intro fa hf
                refine sqv hf (r_load (v := (.int .u8 ip.2.2.1)) rfl Try.underlying5 rfl (cell_blk hk1 rfl)) rfl rfl rfl ?_; clear hf fa; intro fa hf
                refine sqv hf (r_eq rfl rfl) rfl rfl rfl ?_; clear hf fa; intro fa hf
                apply wpList_nil
                (try simp only [Exit.then, Exit.inBlock, ↓reduceIte, Nat.reduceEqDiff])
                refine hK38 _ _ ?_
                refine wp_cond_true ((hf.ev rfl).trans (congrArg Value.bool (show (decide (ip.2.2.1 = (3 : Int))) = true from hqt50_2b))) ?_
                refine wp_seq_k (fun K39 hK39 => ?_)
                refine wp_region_lit ?_
                refine sqv hf (r_fa rfl Try.underlying81 (f := 5) (q := 7) rfl (by kernel_rfl) rfl) rfl rfl rfl ?_; clear hf fa; intro fa hf
                refine sqv hf (r_fa rfl Try.underlying54 (f := 0) (q := 7) rfl (by kernel_rfl) rfl) rfl rfl rfl ?_; clear hf fa; intro fa hf
                refine sqv hf (r_load (v := (.int .u8 ip.2.2.2.2.2.1.1)) rfl Try.underlying5 rfl (cell_blk hk1 rfl)) rfl rfl rfl ?_; clear hf fa; intro fa hf
                refine sqv hf (r_conv (C := ip.2.2.2.2.2.1.1) rfl Try.underlying5 Try.underlying3 (by rw [IntKind.wrap_i64]; omega)) rfl rfl rfl ?_; clear hf fa; intro fa hf
                refine sqdt hf (d_callS (vs := [(.int .i64 ip.2.2.2.2.2.1.1)]) rfl Try.func35 (by kernel_rfl) (by kernel_rfl) (rval2_any ip.2.2.2.2.2.1.1 _)) rfl rfl rfl ?_; clear hf fa; rintro fa _ _ ⟨rfl, rfl⟩ hf
                refine sqv hf (r_assign rfl) rfl rfl rfl ?_; clear hf fa; intro fa hf
                apply wpList_nil
                (try simp only [Exit.then, Exit.inBlock, ↓reduceIte, Nat.reduceEqDiff])
                refine hK39 _ _ ?_
                refine wp_ret ?_
                (try simp only [Exit.then, Exit.inBlock])
                refine ret1 hf rfl rfl ?_
                refine ⟨?_, hb⟩; unfold irrP; rw [hqt10_1b, hqt16_1b, hqt20_1b, hqt36_1b, hqt45_1b, hqt50_2b, hqt79_3b]; (try rfl)
            · have hqt50_2b := hqt50_2
              replace hqt50_2 := Bool.eq_false_iff.1 hqt50_2
              try simp only [ne_eq, decide_eq_true_eq, Bool.and_eq_true, Bool.or_eq_true, Bool.not_eq_true', decide_eq_false_iff_not] at hqt50_2
              refine wp_skip ?_
              (try simp only [Exit.then, Exit.inBlock, ↓reduceIte, Nat.reduceEqDiff])
              refine hK32 _ _ ?_
              refine wp_seq_k (fun K40 hK40 => ?_)
              refine wp_seq_k (fun K41 hK41 => ?_)
              refine wp_region_lit ?_
              refine sqv hf (r_fa rfl Try.underlying81 (f := 3) (q := 3) rfl (by kernel_rfl) rfl) rfl rfl rfl ?_; clear hf fa; intro fa hf
              refine sqv hf (r_load (v := (.int .u32 (0 : Int))) rfl Try.underlying24 rfl (cell_blk hk4 rfl)) rfl rfl rfl ?_; clear hf fa; intro fa hf
              refine sqv hf (r_ne rfl rfl) rfl rfl rfl ?_; clear hf fa; intro fa hf
              refine sqv hf (r_move rfl) rfl rfl rfl ?_; clear hf fa; intro fa hf
              refine sqgF (act := (!(decide ((0 : Int) ≠ (0 : Int))))) (ag := true) (c := (decide ((0 : Int) ≠ (0 : Int)))) (v := (.pointer (some ⟨b2, 4, none⟩))) hf rfl rfl rfl (fun hact => (r_fa rfl Try.underlying81 (f := 4) (q := 4) rfl (by kernel_rfl) rfl)) rfl rfl ?_; clear hf fa; intro fa hf
              refine sqgF (act := (!(decide ((0 : Int) ≠ (0 : Int))))) (ag := true) (c := (decide ((0 : Int) ≠ (0 : Int)))) (v := (.agg #[(.int .u32 ip.2.2.2.2.1.1), (.int .u32 ip.2.2.2.2.1.2.1), (.bool ip.2.2.2.2.1.2.2.1)])) hf rfl rfl rfl (fun hact => (r_loadA (cs := [(.int .u32 ip.2.2.2.2.1.1), (.int .u32 ip.2.2.2.2.1.2.1), (.bool ip.2.2.2.2.1.2.2.1)]) (gb_ev hact rfl) Try.underlying43 rfl (by kernel_rfl) (cellsAt_part (d := 4) (n := 3) (cellsAt_blk hk4) rfl rfl))) rfl rfl ?_; clear hf fa; intro fa hf
              refine sqgF (act := (!(decide ((0 : Int) ≠ (0 : Int))))) (ag := true) (c := (decide ((0 : Int) ≠ (0 : Int)))) (v := (.agg #[(.int .u32 (0 : Int)), (.int .u32 (0 : Int)), (.bool false)])) hf rfl rfl rfl (fun hact => (r_build (vs := []) (cs := #[(.int .u32 (0 : Int)), (.int .u32 (0 : Int)), (.bool false)]) rfl (fun _ => by kernel_rfl))) rfl rfl ?_; clear hf fa; intro fa hf
              refine sqgF (act := (!(decide ((0 : Int) ≠ (0 : Int))))) (ag := true) (c := (decide ((0 : Int) ≠ (0 : Int)))) (v := (.bool (!((decide (ip.2.2.2.2.1.1 = (0 : Int))) && ((decide (ip.2.2.2.2.1.2.1 = (0 : Int))) && (ip.2.2.2.2.1.2.2.1 == false)))))) hf rfl rfl rfl (fun hact => (r_ane (k := 5) (gb_ev hact rfl) (gb_ev hact rfl) (by kernel_rfl) (eqt_struct (xs := #[(.int .u32 ip.2.2.2.2.1.1), (.int .u32 ip.2.2.2.2.1.2.1), (.bool ip.2.2.2.2.1.2.2.1)]) (ys := #[(.int .u32 (0 : Int)), (.int .u32 (0 : Int)), (.bool false)]) Try.underlying43 (by kernel_rfl) (eqf_cons (by kernel_rfl) (fun _ => by kernel_rfl) (fun _ => by kernel_rfl) (eqt_int (kk := .u32) (a := ip.2.2.2.2.1.1) (b := (0 : Int)) Try.underlying24) (eqf_cons (by kernel_rfl) (fun _ => by kernel_rfl) (fun _ => by kernel_rfl) (eqt_int (kk := .u32) (a := ip.2.2.2.2.1.2.1) (b := (0 : Int)) Try.underlying24) (eqf_one (by kernel_rfl) (fun _ => by kernel_rfl) (fun _ => by kernel_rfl) (eqt_bool (a := ip.2.2.2.2.1.2.2.1) (b := false) Try.underlying4))))) rfl)) rfl rfl ?_; clear hf fa; intro fa hf
              refine sqv hf (r_pickO (b := (decide ((0 : Int) ≠ (0 : Int)))) (e := (!((decide (ip.2.2.2.2.1.1 = (0 : Int))) && ((decide (ip.2.2.2.2.1.2.1 = (0 : Int))) && (ip.2.2.2.2.1.2.2.1 == false))))) rfl rfl rfl) rfl rfl rfl ?_; clear hf fa; intro fa hf
              refine sqv hf (r_move rfl) rfl rfl rfl ?_; clear hf fa; intro fa hf
              refine sqgF (act := (!((decide ((0 : Int) ≠ (0 : Int))) || (!((decide (ip.2.2.2.2.1.1 = (0 : Int))) && ((decide (ip.2.2.2.2.1.2.1 = (0 : Int))) && (ip.2.2.2.2.1.2.2.1 == false))))))) (ag := true) (c := ((decide ((0 : Int) ≠ (0 : Int))) || (!((decide (ip.2.2.2.2.1.1 = (0 : Int))) && ((decide (ip.2.2.2.2.1.2.1 = (0 : Int))) && (ip.2.2.2.2.1.2.2.1 == false)))))) (v := (.pointer (some ⟨b2, 7, none⟩))) hf rfl rfl rfl (fun hact => (r_fa rfl Try.underlying81 (f := 5) (q := 7) rfl (by kernel_rfl) rfl)) rfl rfl ?_; clear hf fa; intro fa hf
              refine sqgF (act := (!((decide ((0 : Int) ≠ (0 : Int))) || (!((decide (ip.2.2.2.2.1.1 = (0 : Int))) && ((decide (ip.2.2.2.2.1.2.1 = (0 : Int))) && (ip.2.2.2.2.1.2.2.1 == false))))))) (ag := true) (c := ((decide ((0 : Int) ≠ (0 : Int))) || (!((decide (ip.2.2.2.2.1.1 = (0 : Int))) && ((decide (ip.2.2.2.2.1.2.1 = (0 : Int))) && (ip.2.2.2.2.1.2.2.1 == false)))))) (v := (.agg #[(.int .u8 ip.2.2.2.2.2.1.1), (.bool ip.2.2.2.2.2.1.2.1)])) hf rfl rfl rfl (fun hact => (r_loadA (cs := [(.int .u8 ip.2.2.2.2.2.1.1), (.bool ip.2.2.2.2.2.1.2.1)]) (gb_ev hact rfl) Try.underlying54 rfl (by kernel_rfl) (cellsAt_part (d := 7) (n := 2) (cellsAt_blk hk4) rfl rfl))) rfl rfl ?_; clear hf fa; intro fa hf
              refine sqgF (act := (!((decide ((0 : Int) ≠ (0 : Int))) || (!((decide (ip.2.2.2.2.1.1 = (0 : Int))) && ((decide (ip.2.2.2.2.1.2.1 = (0 : Int))) && (ip.2.2.2.2.1.2.2.1 == false))))))) (ag := true) (c := ((decide ((0 : Int) ≠ (0 : Int))) || (!((decide (ip.2.2.2.2.1.1 = (0 : Int))) && ((decide (ip.2.2.2.2.1.2.1 = (0 : Int))) && (ip.2.2.2.2.1.2.2.1 == false)))))) (v := (.agg #[(.int .u8 (0 : Int)), (.bool false)])) hf rfl rfl rfl (fun hact => (r_build (vs := []) (cs := #[(.int .u8 (0 : Int)), (.bool false)]) rfl (fun _ => by kernel_rfl))) rfl rfl ?_; clear hf fa; intro fa hf
              refine sqgF (act := (!((decide ((0 : Int) ≠ (0 : Int))) || (!((decide (ip.2.2.2.2.1.1 = (0 : Int))) && ((decide (ip.2.2.2.2.1.2.1 = (0 : Int))) && (ip.2.2.2.2.1.2.2.1 == false))))))) (ag := true) (c := ((decide ((0 : Int) ≠ (0 : Int))) || (!((decide (ip.2.2.2.2.1.1 = (0 : Int))) && ((decide (ip.2.2.2.2.1.2.1 = (0 : Int))) && (ip.2.2.2.2.1.2.2.1 == false)))))) (v := (.bool (!((decide (ip.2.2.2.2.2.1.1 = (0 : Int))) && (ip.2.2.2.2.2.1.2.1 == false))))) hf rfl rfl rfl (fun hact => (r_ane (k := 5) (gb_ev hact rfl) (gb_ev hact rfl) (by kernel_rfl) (eqt_struct (xs := #[(.int .u8 ip.2.2.2.2.2.1.1), (.bool ip.2.2.2.2.2.1.2.1)]) (ys := #[(.int .u8 (0 : Int)), (.bool false)]) Try.underlying54 (by kernel_rfl) (eqf_cons (by kernel_rfl) (fun _ => by kernel_rfl) (fun _ => by kernel_rfl) (eqt_int (kk := .u8) (a := ip.2.2.2.2.2.1.1) (b := (0 : Int)) Try.underlying5) (eqf_one (by kernel_rfl) (fun _ => by kernel_rfl) (fun _ => by kernel_rfl) (eqt_bool (a := ip.2.2.2.2.2.1.2.1) (b := false) Try.underlying4)))) rfl)) rfl rfl ?_; clear hf fa; intro fa hf
              refine sqv hf (r_pickO (b := ((decide ((0 : Int) ≠ (0 : Int))) || (!((decide (ip.2.2.2.2.1.1 = (0 : Int))) && ((decide (ip.2.2.2.2.1.2.1 = (0 : Int))) && (ip.2.2.2.2.1.2.2.1 == false)))))) (e := (!((decide (ip.2.2.2.2.2.1.1 = (0 : Int))) && (ip.2.2.2.2.2.1.2.1 == false)))) rfl rfl rfl) rfl rfl rfl ?_; clear hf fa; intro fa hf
              refine sqv hf (r_move rfl) rfl rfl rfl ?_; clear hf fa; intro fa hf
              refine sqgF (act := (!(((decide ((0 : Int) ≠ (0 : Int))) || (!((decide (ip.2.2.2.2.1.1 = (0 : Int))) && ((decide (ip.2.2.2.2.1.2.1 = (0 : Int))) && (ip.2.2.2.2.1.2.2.1 == false))))) || (!((decide (ip.2.2.2.2.2.1.1 = (0 : Int))) && (ip.2.2.2.2.2.1.2.1 == false)))))) (ag := true) (c := (((decide ((0 : Int) ≠ (0 : Int))) || (!((decide (ip.2.2.2.2.1.1 = (0 : Int))) && ((decide (ip.2.2.2.2.1.2.1 = (0 : Int))) && (ip.2.2.2.2.1.2.2.1 == false))))) || (!((decide (ip.2.2.2.2.2.1.1 = (0 : Int))) && (ip.2.2.2.2.2.1.2.1 == false))))) (v := (.pointer (some ⟨b1, 4, none⟩))) hf rfl rfl rfl (fun hact => (r_fa rfl Try.underlying81 (f := 4) (q := 4) rfl (by kernel_rfl) rfl)) rfl rfl ?_; clear hf fa; intro fa hf
              refine sqgF (act := (!(((decide ((0 : Int) ≠ (0 : Int))) || (!((decide (ip.2.2.2.2.1.1 = (0 : Int))) && ((decide (ip.2.2.2.2.1.2.1 = (0 : Int))) && (ip.2.2.2.2.1.2.2.1 == false))))) || (!((decide (ip.2.2.2.2.2.1.1 = (0 : Int))) && (ip.2.2.2.2.2.1.2.1 == false)))))) (ag := true) (c := (((decide ((0 : Int) ≠ (0 : Int))) || (!((decide (ip.2.2.2.2.1.1 = (0 : Int))) && ((decide (ip.2.2.2.2.1.2.1 = (0 : Int))) && (ip.2.2.2.2.1.2.2.1 == false))))) || (!((decide (ip.2.2.2.2.2.1.1 = (0 : Int))) && (ip.2.2.2.2.2.1.2.1 == false))))) (v := (.pointer (some ⟨b1, 6, none⟩))) hf rfl rfl rfl (fun hact => (r_fa (gb_ev hact rfl) Try.underlying43 (f := 2) (q := 6) rfl (by kernel_rfl) rfl)) rfl rfl ?_; clear hf fa; intro fa hf
              refine sqgF (act := (!(((decide ((0 : Int) ≠ (0 : Int))) || (!((decide (ip.2.2.2.2.1.1 = (0 : Int))) && ((decide (ip.2.2.2.2.1.2.1 = (0 : Int))) && (ip.2.2.2.2.1.2.2.1 == false))))) || (!((decide (ip.2.2.2.2.2.1.1 = (0 : Int))) && (ip.2.2.2.2.2.1.2.1 == false)))))) (ag := true) (c := (((decide ((0 : Int) ≠ (0 : Int))) || (!((decide (ip.2.2.2.2.1.1 = (0 : Int))) && ((decide (ip.2.2.2.2.1.2.1 = (0 : Int))) && (ip.2.2.2.2.1.2.2.1 == false))))) || (!((decide (ip.2.2.2.2.2.1.1 = (0 : Int))) && (ip.2.2.2.2.2.1.2.1 == false))))) (v := (.bool ip.2.2.2.2.1.2.2.1)) hf rfl rfl rfl (fun hact => (r_load (v := (.bool ip.2.2.2.2.1.2.2.1)) (gb_ev hact rfl) Try.underlying4 rfl (cell_blk hk1 rfl))) rfl rfl ?_; clear hf fa; intro fa hf
              refine sqgF (act := (!(((decide ((0 : Int) ≠ (0 : Int))) || (!((decide (ip.2.2.2.2.1.1 = (0 : Int))) && ((decide (ip.2.2.2.2.1.2.1 = (0 : Int))) && (ip.2.2.2.2.1.2.2.1 == false))))) || (!((decide (ip.2.2.2.2.2.1.1 = (0 : Int))) && (ip.2.2.2.2.2.1.2.1 == false)))))) (ag := true) (c := (((decide ((0 : Int) ≠ (0 : Int))) || (!((decide (ip.2.2.2.2.1.1 = (0 : Int))) && ((decide (ip.2.2.2.2.1.2.1 = (0 : Int))) && (ip.2.2.2.2.1.2.2.1 == false))))) || (!((decide (ip.2.2.2.2.2.1.1 = (0 : Int))) && (ip.2.2.2.2.2.1.2.1 == false))))) (v := (.bool (!ip.2.2.2.2.1.2.2.1))) hf rfl rfl rfl (fun hact => (r_not (gb_ev hact rfl))) rfl rfl ?_; clear hf fa; intro fa hf
              refine sqgF (act := (!(((decide ((0 : Int) ≠ (0 : Int))) || (!((decide (ip.2.2.2.2.1.1 = (0 : Int))) && ((decide (ip.2.2.2.2.1.2.1 = (0 : Int))) && (ip.2.2.2.2.1.2.2.1 == false))))) || (!((decide (ip.2.2.2.2.2.1.1 = (0 : Int))) && (ip.2.2.2.2.2.1.2.1 == false)))))) (ag := true) (c := (((decide ((0 : Int) ≠ (0 : Int))) || (!((decide (ip.2.2.2.2.1.1 = (0 : Int))) && ((decide (ip.2.2.2.2.1.2.1 = (0 : Int))) && (ip.2.2.2.2.1.2.2.1 == false))))) || (!((decide (ip.2.2.2.2.2.1.1 = (0 : Int))) && (ip.2.2.2.2.2.1.2.1 == false))))) (v := (.bool (!ip.2.2.2.2.1.2.2.1))) hf rfl rfl rfl (fun hact => (r_move (gb_ev hact rfl))) rfl rfl ?_; clear hf fa; intro fa hf
              refine sqgT (act := ((!(((decide ((0 : Int) ≠ (0 : Int))) || (!((decide (ip.2.2.2.2.1.1 = (0 : Int))) && ((decide (ip.2.2.2.2.1.2.1 = (0 : Int))) && (ip.2.2.2.2.1.2.2.1 == false))))) || (!((decide (ip.2.2.2.2.2.1.1 = (0 : Int))) && (ip.2.2.2.2.2.1.2.1 == false))))) && (!ip.2.2.2.2.1.2.2.1))) (ag := (!(((decide ((0 : Int) ≠ (0 : Int))) || (!((decide (ip.2.2.2.2.1.1 = (0 : Int))) && ((decide (ip.2.2.2.2.1.2.1 = (0 : Int))) && (ip.2.2.2.2.1.2.2.1 == false))))) || (!((decide (ip.2.2.2.2.2.1.1 = (0 : Int))) && (ip.2.2.2.2.2.1.2.1 == false)))))) (c := (!ip.2.2.2.2.1.2.2.1)) (v := (.pointer (some ⟨b1, 4, none⟩))) hf rfl rfl rfl (fun hact => (r_fa rfl Try.underlying81 (f := 4) (q := 4) rfl (by kernel_rfl) rfl)) rfl rfl ?_; clear hf fa; intro fa hf
              refine sqgT (act := ((!(((decide ((0 : Int) ≠ (0 : Int))) || (!((decide (ip.2.2.2.2.1.1 = (0 : Int))) && ((decide (ip.2.2.2.2.1.2.1 = (0 : Int))) && (ip.2.2.2.2.1.2.2.1 == false))))) || (!((decide (ip.2.2.2.2.2.1.1 = (0 : Int))) && (ip.2.2.2.2.2.1.2.1 == false))))) && (!ip.2.2.2.2.1.2.2.1))) (ag := (!(((decide ((0 : Int) ≠ (0 : Int))) || (!((decide (ip.2.2.2.2.1.1 = (0 : Int))) && ((decide (ip.2.2.2.2.1.2.1 = (0 : Int))) && (ip.2.2.2.2.1.2.2.1 == false))))) || (!((decide (ip.2.2.2.2.2.1.1 = (0 : Int))) && (ip.2.2.2.2.2.1.2.1 == false)))))) (c := (!ip.2.2.2.2.1.2.2.1)) (v := (.pointer (some ⟨b1, 5, none⟩))) hf rfl rfl rfl (fun hact => (r_fa (gb_ev hact rfl) Try.underlying43 (f := 1) (q := 5) rfl (by kernel_rfl) rfl)) rfl rfl ?_; clear hf fa; intro fa hf
              refine sqgT (act := ((!(((decide ((0 : Int) ≠ (0 : Int))) || (!((decide (ip.2.2.2.2.1.1 = (0 : Int))) && ((decide (ip.2.2.2.2.1.2.1 = (0 : Int))) && (ip.2.2.2.2.1.2.2.1 == false))))) || (!((decide (ip.2.2.2.2.2.1.1 = (0 : Int))) && (ip.2.2.2.2.2.1.2.1 == false))))) && (!ip.2.2.2.2.1.2.2.1))) (ag := (!(((decide ((0 : Int) ≠ (0 : Int))) || (!((decide (ip.2.2.2.2.1.1 = (0 : Int))) && ((decide (ip.2.2.2.2.1.2.1 = (0 : Int))) && (ip.2.2.2.2.1.2.2.1 == false))))) || (!((decide (ip.2.2.2.2.2.1.1 = (0 : Int))) && (ip.2.2.2.2.2.1.2.1 == false)))))) (c := (!ip.2.2.2.2.1.2.2.1)) (v := (.int .u32 ip.2.2.2.2.1.2.1)) hf rfl rfl rfl (fun hact => (r_load (v := (.int .u32 ip.2.2.2.2.1.2.1)) (gb_ev hact rfl) Try.underlying24 rfl (cell_blk hk1 rfl))) rfl rfl ?_; clear hf fa; intro fa hf
              refine sqgT (act := ((!(((decide ((0 : Int) ≠ (0 : Int))) || (!((decide (ip.2.2.2.2.1.1 = (0 : Int))) && ((decide (ip.2.2.2.2.1.2.1 = (0 : Int))) && (ip.2.2.2.2.1.2.2.1 == false))))) || (!((decide (ip.2.2.2.2.2.1.1 = (0 : Int))) && (ip.2.2.2.2.2.1.2.1 == false))))) && (!ip.2.2.2.2.1.2.2.1))) (ag := (!(((decide ((0 : Int) ≠ (0 : Int))) || (!((decide (ip.2.2.2.2.1.1 = (0 : Int))) && ((decide (ip.2.2.2.2.1.2.1 = (0 : Int))) && (ip.2.2.2.2.1.2.2.1 == false))))) || (!((decide (ip.2.2.2.2.2.1.1 = (0 : Int))) && (ip.2.2.2.2.2.1.2.1 == false)))))) (c := (!ip.2.2.2.2.1.2.2.1)) (v := (.bool (decide (ip.2.2.2.2.1.2.1 ≠ (0 : Int))))) hf rfl rfl rfl (fun hact => (r_ne (gb_ev hact rfl) rfl)) rfl rfl ?_; clear hf fa; intro fa hf
              refine sqgF (act := (!(((decide ((0 : Int) ≠ (0 : Int))) || (!((decide (ip.2.2.2.2.1.1 = (0 : Int))) && ((decide (ip.2.2.2.2.1.2.1 = (0 : Int))) && (ip.2.2.2.2.1.2.2.1 == false))))) || (!((decide (ip.2.2.2.2.2.1.1 = (0 : Int))) && (ip.2.2.2.2.2.1.2.1 == false)))))) (ag := true) (c := (((decide ((0 : Int) ≠ (0 : Int))) || (!((decide (ip.2.2.2.2.1.1 = (0 : Int))) && ((decide (ip.2.2.2.2.1.2.1 = (0 : Int))) && (ip.2.2.2.2.1.2.2.1 == false))))) || (!((decide (ip.2.2.2.2.2.1.1 = (0 : Int))) && (ip.2.2.2.2.2.1.2.1 == false))))) (v := (.bool ((!ip.2.2.2.2.1.2.2.1) && (decide (ip.2.2.2.2.1.2.1 ≠ (0 : Int)))))) hf rfl rfl rfl (fun hact => (r_pickA2 (q := (!(((decide ((0 : Int) ≠ (0 : Int))) || (!((decide (ip.2.2.2.2.1.1 = (0 : Int))) && ((decide (ip.2.2.2.2.1.2.1 = (0 : Int))) && (ip.2.2.2.2.1.2.2.1 == false))))) || (!((decide (ip.2.2.2.2.2.1.1 = (0 : Int))) && (ip.2.2.2.2.2.1.2.1 == false)))))) (b := (!ip.2.2.2.2.1.2.2.1)) (e := (decide (ip.2.2.2.2.1.2.1 ≠ (0 : Int)))) hact rfl rfl rfl)) rfl rfl ?_; clear hf fa; intro fa hf
              refine sqv hf (r_pickO (b := (((decide ((0 : Int) ≠ (0 : Int))) || (!((decide (ip.2.2.2.2.1.1 = (0 : Int))) && ((decide (ip.2.2.2.2.1.2.1 = (0 : Int))) && (ip.2.2.2.2.1.2.2.1 == false))))) || (!((decide (ip.2.2.2.2.2.1.1 = (0 : Int))) && (ip.2.2.2.2.2.1.2.1 == false))))) (e := ((!ip.2.2.2.2.1.2.2.1) && (decide (ip.2.2.2.2.1.2.1 ≠ (0 : Int))))) rfl rfl rfl) rfl rfl rfl ?_; clear hf fa; intro fa hf
              apply wpList_nil
              (try simp only [Exit.then, Exit.inBlock, ↓reduceIte, Nat.reduceEqDiff])
              refine hK41 _ _ ?_
              refine wp_cond_split (t := ((((decide ((0 : Int) ≠ (0 : Int))) || (!((decide (ip.2.2.2.2.1.1 = (0 : Int))) && ((decide (ip.2.2.2.2.1.2.1 = (0 : Int))) && (ip.2.2.2.2.1.2.2.1 == false))))) || (!((decide (ip.2.2.2.2.2.1.1 = (0 : Int))) && (ip.2.2.2.2.2.1.2.1 == false)))) || ((!ip.2.2.2.2.1.2.2.1) && (decide (ip.2.2.2.2.1.2.1 ≠ (0 : Int)))))) (hf.ev rfl) (fun hqt79_4 => ?_) (fun hqt79_4 => ?_)
              · have hqt79_4b := hqt79_4
                try simp only [decide_eq_true_eq, Bool.and_eq_true, Bool.or_eq_true, Bool.not_eq_true', decide_eq_false_iff_not, ne_eq, Bool.not_eq_true] at hqt79_4
                refine wp_seq_k (fun K42 hK42 => ?_)
                refine wp_region_lit ?_
                refine sqv hf (r_assign rfl) rfl rfl rfl ?_; clear hf fa; intro fa hf
                apply wpList_nil
                (try simp only [Exit.then, Exit.inBlock, ↓reduceIte, Nat.reduceEqDiff])
                refine hK42 _ _ ?_
                refine wp_ret ?_
                (try simp only [Exit.then, Exit.inBlock])
                refine ret1 hf rfl rfl ?_
                refine ⟨?_, hb⟩; unfold irrP; rw [hqt10_1b, hqt16_1b, hqt20_1b, hqt36_1b, hqt45_1b, hqt50_2b, hqt79_4b]; (try rfl)
              · have hqt79_4b := hqt79_4
                replace hqt79_4 := Bool.eq_false_iff.1 hqt79_4
                try simp only [ne_eq, decide_eq_true_eq, Bool.and_eq_true, Bool.or_eq_true, Bool.not_eq_true', decide_eq_false_iff_not] at hqt79_4
                refine wp_skip ?_
                (try simp only [Exit.then, Exit.inBlock, ↓reduceIte, Nat.reduceEqDiff])
                refine hK40 _ _ ?_
                refine wp_seq_k (fun K43 hK43 => ?_)
                refine wp_seq_k (fun K44 hK44 => ?_)
                refine wp_region_lit ?_
                refine sqv hf (r_fa rfl Try.underlying81 (f := 2) (q := 2) rfl (by kernel_rfl) rfl) rfl rfl rfl ?_; clear hf fa; intro fa hf
                refine sqv hf (r_load (v := (.int .u8 ip.2.2.1)) rfl Try.underlying5 rfl (cell_blk hk1 rfl)) rfl rfl rfl ?_; clear hf fa; intro fa hf
                refine sqv hf (r_eq rfl rfl) rfl rfl rfl ?_; clear hf fa; intro fa hf
                apply wpList_nil
                (try simp only [Exit.then, Exit.inBlock, ↓reduceIte, Nat.reduceEqDiff])
                refine hK44 _ _ ?_
                refine wp_cond_false ((hf.ev rfl).trans (congrArg Value.bool (show (decide (ip.2.2.1 = (3 : Int))) = false from hqt50_2b))) ?_
                refine wp_skip ?_
                (try simp only [Exit.then, Exit.inBlock, ↓reduceIte, Nat.reduceEqDiff])
                refine hK43 _ _ ?_
                refine wp_seq_k (fun K45 hK45 => ?_)
                refine wp_region_lit ?_
                refine sqv hf (r_assign rfl) rfl rfl rfl ?_; clear hf fa; intro fa hf
                apply wpList_nil
                (try simp only [Exit.then, Exit.inBlock, ↓reduceIte, Nat.reduceEqDiff])
                refine hK45 _ _ ?_
                refine wp_ret ?_
                (try simp only [Exit.then, Exit.inBlock])
                refine ret1 hf rfl rfl ?_
                refine ⟨?_, hb⟩; unfold irrP; rw [hqt10_1b, hqt16_1b, hqt20_1b, hqt36_1b, hqt45_1b, hqt50_2b, hqt79_4b]; (try rfl)
        · have hqt36_1b := hqt36_1
          replace hqt36_1 := Bool.eq_false_iff.1 hqt36_1
          try simp only [ne_eq, decide_eq_true_eq, Bool.and_eq_true, Bool.or_eq_true, Bool.not_eq_true', decide_eq_false_iff_not] at hqt36_1
          refine wp_skip ?_
          (try simp only [Exit.then, Exit.inBlock, ↓reduceIte, Nat.reduceEqDiff])
          refine hK14 _ _ ?_
          refine wp_seq_k (fun K46 hK46 => ?_)
          refine wp_seq_k (fun K47 hK47 => ?_)
          refine wp_region_lit ?_
          refine sqv hf (r_fa rfl Try.underlying81 (f := 2) (q := 2) rfl (by kernel_rfl) rfl) rfl rfl rfl ?_; clear hf fa; intro fa hf
          refine sqv hf (r_load (v := (.int .u8 ip.2.2.1)) rfl Try.underlying5 rfl (cell_blk hk1 rfl)) rfl rfl rfl ?_; clear hf fa; intro fa hf
          refine sqv hf (r_eq rfl rfl) rfl rfl rfl ?_; clear hf fa; intro fa hf
          refine sqv hf (r_move rfl) rfl rfl rfl ?_; clear hf fa; intro fa hf
          refine sqgF (act := (!(decide (ip.2.2.1 = (1 : Int))))) (ag := true) (c := (decide (ip.2.2.1 = (1 : Int)))) (v := (.pointer (some ⟨b1, 2, none⟩))) hf rfl rfl rfl (fun hact => (r_fa rfl Try.underlying81 (f := 2) (q := 2) rfl (by kernel_rfl) rfl)) rfl rfl ?_; clear hf fa; intro fa hf
          refine sqgF (act := (!(decide (ip.2.2.1 = (1 : Int))))) (ag := true) (c := (decide (ip.2.2.1 = (1 : Int)))) (v := (.int .u8 ip.2.2.1)) hf rfl rfl rfl (fun hact => (r_load (v := (.int .u8 ip.2.2.1)) (gb_ev hact rfl) Try.underlying5 rfl (cell_blk hk1 rfl))) rfl rfl ?_; clear hf fa; intro fa hf
          refine sqgF (act := (!(decide (ip.2.2.1 = (1 : Int))))) (ag := true) (c := (decide (ip.2.2.1 = (1 : Int)))) (v := (.bool (decide (ip.2.2.1 = (2 : Int))))) hf rfl rfl rfl (fun hact => (r_eq (gb_ev hact rfl) rfl)) rfl rfl ?_; clear hf fa; intro fa hf
          refine sqv hf (r_pickO (b := (decide (ip.2.2.1 = (1 : Int)))) (e := (decide (ip.2.2.1 = (2 : Int)))) rfl rfl rfl) rfl rfl rfl ?_; clear hf fa; intro fa hf
          apply wpList_nil
          (try simp only [Exit.then, Exit.inBlock, ↓reduceIte, Nat.reduceEqDiff])
          refine hK47 _ _ ?_
          refine wp_cond_split (t := ((decide (ip.2.2.1 = (1 : Int))) || (decide (ip.2.2.1 = (2 : Int))))) (hf.ev rfl) (fun hqt45_2 => ?_) (fun hqt45_2 => ?_)
          · have hqt45_2b := hqt45_2
            try simp only [decide_eq_true_eq, Bool.and_eq_true, Bool.or_eq_true, Bool.not_eq_true', decide_eq_false_iff_not, ne_eq, Bool.not_eq_true] at hqt45_2
            refine wp_region_lit ?_
            refine sqv hf (r_build (vs := []) (cs := #[(.int .u32 (0 : Int)), (.int .u32 (0 : Int)), (.bool false)]) rfl (fun _ => by kernel_rfl)) rfl rfl rfl ?_; clear hf fa; intro fa hf
            refine sqv hf (r_fa rfl Try.underlying81 (f := 4) (q := 4) rfl (by kernel_rfl) rfl) rfl rfl rfl ?_; clear hf fa; intro fa hf
            refine sqn hf (d_storeK (T := 81) (v := (.agg #[(.int .u32 (0 : Int)), (.int .u32 (0 : Int)), (.bool false)])) (cs := #[(.string ip.1), (.string ip.2.1), (.int .u8 ip.2.2.1), (.int .u32 ip.2.2.2.1), (.int .u32 ip.2.2.2.2.1.1), (.int .u32 ip.2.2.2.2.1.2.1), (.bool ip.2.2.2.2.1.2.2.1), (.int .u8 ip.2.2.2.2.2.1.1), (.bool ip.2.2.2.2.2.1.2.1)]) (cs' := #[(.string ip.1), (.string ip.2.1), (.int .u8 ip.2.2.1), (.int .u32 ip.2.2.2.1), (.int .u32 (0 : Int)), (.int .u32 (0 : Int)), (.bool false), (.int .u8 ip.2.2.2.2.2.1.1), (.bool ip.2.2.2.2.2.1.2.1)]) rfl rfl (by kernel_rfl) (by kernel_rfl) hk3 (by kernel_rfl) (by kernel_rfl)) rfl rfl ?_; clear hf fa; rintro fa _ w10 ⟨hk8, hg6⟩ hf
            replace hk1 := blk_grown hk1 hg6 (by omega)
            replace hb := hb.trans (grown_below hg6 hb.size hBb2)
            apply wpList_nil
            (try simp only [Exit.then, Exit.inBlock, ↓reduceIte, Nat.reduceEqDiff])
            refine hK46 _ _ ?_
            refine wp_seq_k (fun K48 hK48 => ?_)
            refine wp_seq_k (fun K49 hK49 => ?_)
            refine wp_region_lit ?_
            refine sqv hf (r_fa rfl Try.underlying81 (f := 2) (q := 2) rfl (by kernel_rfl) rfl) rfl rfl rfl ?_; clear hf fa; intro fa hf
            refine sqv hf (r_load (v := (.int .u8 ip.2.2.1)) rfl Try.underlying5 rfl (cell_blk hk1 rfl)) rfl rfl rfl ?_; clear hf fa; intro fa hf
            refine sqv hf (r_eq rfl rfl) rfl rfl rfl ?_; clear hf fa; intro fa hf
            apply wpList_nil
            (try simp only [Exit.then, Exit.inBlock, ↓reduceIte, Nat.reduceEqDiff])
            refine hK49 _ _ ?_
            refine wp_cond_split (t := (decide (ip.2.2.1 = (3 : Int)))) (hf.ev rfl) (fun hqt50_3 => ?_) (fun hqt50_3 => ?_)
            · have hqt50_3b := hqt50_3
              try simp only [decide_eq_true_eq, Bool.and_eq_true, Bool.or_eq_true, Bool.not_eq_true', decide_eq_false_iff_not, ne_eq, Bool.not_eq_true] at hqt50_3
              refine wp_region_lit ?_
              refine sqv hf (r_build (vs := []) (cs := #[(.int .u8 (0 : Int)), (.bool false)]) rfl (fun _ => by kernel_rfl)) rfl rfl rfl ?_; clear hf fa; intro fa hf
              refine sqv hf (r_fa rfl Try.underlying81 (f := 5) (q := 7) rfl (by kernel_rfl) rfl) rfl rfl rfl ?_; clear hf fa; intro fa hf
              refine sqn hf (d_storeK (T := 81) (v := (.agg #[(.int .u8 (0 : Int)), (.bool false)])) (cs := #[(.string ip.1), (.string ip.2.1), (.int .u8 ip.2.2.1), (.int .u32 ip.2.2.2.1), (.int .u32 (0 : Int)), (.int .u32 (0 : Int)), (.bool false), (.int .u8 ip.2.2.2.2.2.1.1), (.bool ip.2.2.2.2.2.1.2.1)]) (cs' := #[(.string ip.1), (.string ip.2.1), (.int .u8 ip.2.2.1), (.int .u32 ip.2.2.2.1), (.int .u32 (0 : Int)), (.int .u32 (0 : Int)), (.bool false), (.int .u8 (0 : Int)), (.bool false)]) rfl rfl (by kernel_rfl) (by kernel_rfl) hk8 (by kernel_rfl) (by kernel_rfl)) rfl rfl ?_; clear hf fa; rintro fa _ w11 ⟨hk9, hg7⟩ hf
              replace hk1 := blk_grown hk1 hg7 (by omega)
              replace hb := hb.trans (grown_below hg7 hb.size hBb2)
              apply wpList_nil
              (try simp only [Exit.then, Exit.inBlock, ↓reduceIte, Nat.reduceEqDiff])
              refine hK48 _ _ ?_
              refine wp_seq_k (fun K50 hK50 => ?_)
              refine wp_seq_k (fun K51 hK51 => ?_)
              refine wp_region_lit ?_
              refine sqv hf (r_fa rfl Try.underlying81 (f := 3) (q := 3) rfl (by kernel_rfl) rfl) rfl rfl rfl ?_; clear hf fa; intro fa hf
              refine sqv hf (r_load (v := (.int .u32 ip.2.2.2.1)) rfl Try.underlying24 rfl (cell_blk hk9 rfl)) rfl rfl rfl ?_; clear hf fa; intro fa hf
              refine sqv hf (r_ne rfl rfl) rfl rfl rfl ?_; clear hf fa; intro fa hf
              refine sqv hf (r_move rfl) rfl rfl rfl ?_; clear hf fa; intro fa hf
              refine sqgF (act := (!(decide (ip.2.2.2.1 ≠ (0 : Int))))) (ag := true) (c := (decide (ip.2.2.2.1 ≠ (0 : Int)))) (v := (.pointer (some ⟨b2, 4, none⟩))) hf rfl rfl rfl (fun hact => (r_fa rfl Try.underlying81 (f := 4) (q := 4) rfl (by kernel_rfl) rfl)) rfl rfl ?_; clear hf fa; intro fa hf
              refine sqgF (act := (!(decide (ip.2.2.2.1 ≠ (0 : Int))))) (ag := true) (c := (decide (ip.2.2.2.1 ≠ (0 : Int)))) (v := (.agg #[(.int .u32 (0 : Int)), (.int .u32 (0 : Int)), (.bool false)])) hf rfl rfl rfl (fun hact => (r_loadA (cs := [(.int .u32 (0 : Int)), (.int .u32 (0 : Int)), (.bool false)]) (gb_ev hact rfl) Try.underlying43 rfl (by kernel_rfl) (cellsAt_part (d := 4) (n := 3) (cellsAt_blk hk9) rfl rfl))) rfl rfl ?_; clear hf fa; intro fa hf
              refine sqgF (act := (!(decide (ip.2.2.2.1 ≠ (0 : Int))))) (ag := true) (c := (decide (ip.2.2.2.1 ≠ (0 : Int)))) (v := (.agg #[(.int .u32 (0 : Int)), (.int .u32 (0 : Int)), (.bool false)])) hf rfl rfl rfl (fun hact => (r_build (vs := []) (cs := #[(.int .u32 (0 : Int)), (.int .u32 (0 : Int)), (.bool false)]) rfl (fun _ => by kernel_rfl))) rfl rfl ?_; clear hf fa; intro fa hf
              refine sqgF (act := (!(decide (ip.2.2.2.1 ≠ (0 : Int))))) (ag := true) (c := (decide (ip.2.2.2.1 ≠ (0 : Int)))) (v := (.bool (!((decide ((0 : Int) = (0 : Int))) && ((decide ((0 : Int) = (0 : Int))) && (false == false)))))) hf rfl rfl rfl (fun hact => (r_ane (k := 5) (gb_ev hact rfl) (gb_ev hact rfl) (by kernel_rfl) (eqt_struct (xs := #[(.int .u32 (0 : Int)), (.int .u32 (0 : Int)), (.bool false)]) (ys := #[(.int .u32 (0 : Int)), (.int .u32 (0 : Int)), (.bool false)]) Try.underlying43 (by kernel_rfl) (eqf_cons (by kernel_rfl) (fun _ => by kernel_rfl) (fun _ => by kernel_rfl) (eqt_int (kk := .u32) (a := (0 : Int)) (b := (0 : Int)) Try.underlying24) (eqf_cons (by kernel_rfl) (fun _ => by kernel_rfl) (fun _ => by kernel_rfl) (eqt_int (kk := .u32) (a := (0 : Int)) (b := (0 : Int)) Try.underlying24) (eqf_one (by kernel_rfl) (fun _ => by kernel_rfl) (fun _ => by kernel_rfl) (eqt_bool (a := false) (b := false) Try.underlying4))))) rfl)) rfl rfl ?_; clear hf fa; intro fa hf
              refine sqv hf (r_pickO (b := (decide (ip.2.2.2.1 ≠ (0 : Int)))) (e := (!((decide ((0 : Int) = (0 : Int))) && ((decide ((0 : Int) = (0 : Int))) && (false == false))))) rfl rfl rfl) rfl rfl rfl ?_; clear hf fa; intro fa hf
              refine sqv hf (r_move rfl) rfl rfl rfl ?_; clear hf fa; intro fa hf
              refine sqgF (act := (!((decide (ip.2.2.2.1 ≠ (0 : Int))) || (!((decide ((0 : Int) = (0 : Int))) && ((decide ((0 : Int) = (0 : Int))) && (false == false))))))) (ag := true) (c := ((decide (ip.2.2.2.1 ≠ (0 : Int))) || (!((decide ((0 : Int) = (0 : Int))) && ((decide ((0 : Int) = (0 : Int))) && (false == false)))))) (v := (.pointer (some ⟨b2, 7, none⟩))) hf rfl rfl rfl (fun hact => (r_fa rfl Try.underlying81 (f := 5) (q := 7) rfl (by kernel_rfl) rfl)) rfl rfl ?_; clear hf fa; intro fa hf
              refine sqgF (act := (!((decide (ip.2.2.2.1 ≠ (0 : Int))) || (!((decide ((0 : Int) = (0 : Int))) && ((decide ((0 : Int) = (0 : Int))) && (false == false))))))) (ag := true) (c := ((decide (ip.2.2.2.1 ≠ (0 : Int))) || (!((decide ((0 : Int) = (0 : Int))) && ((decide ((0 : Int) = (0 : Int))) && (false == false)))))) (v := (.agg #[(.int .u8 (0 : Int)), (.bool false)])) hf rfl rfl rfl (fun hact => (r_loadA (cs := [(.int .u8 (0 : Int)), (.bool false)]) (gb_ev hact rfl) Try.underlying54 rfl (by kernel_rfl) (cellsAt_part (d := 7) (n := 2) (cellsAt_blk hk9) rfl rfl))) rfl rfl ?_; clear hf fa; intro fa hf
              refine sqgF (act := (!((decide (ip.2.2.2.1 ≠ (0 : Int))) || (!((decide ((0 : Int) = (0 : Int))) && ((decide ((0 : Int) = (0 : Int))) && (false == false))))))) (ag := true) (c := ((decide (ip.2.2.2.1 ≠ (0 : Int))) || (!((decide ((0 : Int) = (0 : Int))) && ((decide ((0 : Int) = (0 : Int))) && (false == false)))))) (v := (.agg #[(.int .u8 (0 : Int)), (.bool false)])) hf rfl rfl rfl (fun hact => (r_build (vs := []) (cs := #[(.int .u8 (0 : Int)), (.bool false)]) rfl (fun _ => by kernel_rfl))) rfl rfl ?_; clear hf fa; intro fa hf
              refine sqgF (act := (!((decide (ip.2.2.2.1 ≠ (0 : Int))) || (!((decide ((0 : Int) = (0 : Int))) && ((decide ((0 : Int) = (0 : Int))) && (false == false))))))) (ag := true) (c := ((decide (ip.2.2.2.1 ≠ (0 : Int))) || (!((decide ((0 : Int) = (0 : Int))) && ((decide ((0 : Int) = (0 : Int))) && (false == false)))))) (v := (.bool (!((decide ((0 : Int) = (0 : Int))) && (false == false))))) hf rfl rfl rfl (fun hact => (r_ane (k := 5) (gb_ev hact rfl) (gb_ev hact rfl) (by kernel_rfl) (eqt_struct (xs := #[(.int .u8 (0 : Int)), (.bool false)]) (ys := #[(.int .u8 (0 : Int)), (.bool false)]) Try.underlying54 (by kernel_rfl) (eqf_cons (by kernel_rfl) (fun _ => by kernel_rfl) (fun _ => by kernel_rfl) (eqt_int (kk := .u8) (a := (0 : Int)) (b := (0 : Int)) Try.underlying5) (eqf_one (by kernel_rfl) (fun _ => by kernel_rfl) (fun _ => by kernel_rfl) (eqt_bool (a := false) (b := false) Try.underlying4)))) rfl)) rfl rfl ?_; clear hf fa; intro fa hf
              refine sqv hf (r_pickO (b := ((decide (ip.2.2.2.1 ≠ (0 : Int))) || (!((decide ((0 : Int) = (0 : Int))) && ((decide ((0 : Int) = (0 : Int))) && (false == false)))))) (e := (!((decide ((0 : Int) = (0 : Int))) && (false == false)))) rfl rfl rfl) rfl rfl rfl ?_; clear hf fa; intro fa hf
              refine sqv hf (r_move rfl) rfl rfl rfl ?_; clear hf fa; intro fa hf
              refine sqgF (act := (!(((decide (ip.2.2.2.1 ≠ (0 : Int))) || (!((decide ((0 : Int) = (0 : Int))) && ((decide ((0 : Int) = (0 : Int))) && (false == false))))) || (!((decide ((0 : Int) = (0 : Int))) && (false == false)))))) (ag := true) (c := (((decide (ip.2.2.2.1 ≠ (0 : Int))) || (!((decide ((0 : Int) = (0 : Int))) && ((decide ((0 : Int) = (0 : Int))) && (false == false))))) || (!((decide ((0 : Int) = (0 : Int))) && (false == false))))) (v := (.pointer (some ⟨b1, 4, none⟩))) hf rfl rfl rfl (fun hact => (r_fa rfl Try.underlying81 (f := 4) (q := 4) rfl (by kernel_rfl) rfl)) rfl rfl ?_; clear hf fa; intro fa hf
              refine sqgF (act := (!(((decide (ip.2.2.2.1 ≠ (0 : Int))) || (!((decide ((0 : Int) = (0 : Int))) && ((decide ((0 : Int) = (0 : Int))) && (false == false))))) || (!((decide ((0 : Int) = (0 : Int))) && (false == false)))))) (ag := true) (c := (((decide (ip.2.2.2.1 ≠ (0 : Int))) || (!((decide ((0 : Int) = (0 : Int))) && ((decide ((0 : Int) = (0 : Int))) && (false == false))))) || (!((decide ((0 : Int) = (0 : Int))) && (false == false))))) (v := (.pointer (some ⟨b1, 6, none⟩))) hf rfl rfl rfl (fun hact => (r_fa (gb_ev hact rfl) Try.underlying43 (f := 2) (q := 6) rfl (by kernel_rfl) rfl)) rfl rfl ?_; clear hf fa; intro fa hf
              refine sqgF (act := (!(((decide (ip.2.2.2.1 ≠ (0 : Int))) || (!((decide ((0 : Int) = (0 : Int))) && ((decide ((0 : Int) = (0 : Int))) && (false == false))))) || (!((decide ((0 : Int) = (0 : Int))) && (false == false)))))) (ag := true) (c := (((decide (ip.2.2.2.1 ≠ (0 : Int))) || (!((decide ((0 : Int) = (0 : Int))) && ((decide ((0 : Int) = (0 : Int))) && (false == false))))) || (!((decide ((0 : Int) = (0 : Int))) && (false == false))))) (v := (.bool ip.2.2.2.2.1.2.2.1)) hf rfl rfl rfl (fun hact => (r_load (v := (.bool ip.2.2.2.2.1.2.2.1)) (gb_ev hact rfl) Try.underlying4 rfl (cell_blk hk1 rfl))) rfl rfl ?_; clear hf fa; intro fa hf
              refine sqgF (act := (!(((decide (ip.2.2.2.1 ≠ (0 : Int))) || (!((decide ((0 : Int) = (0 : Int))) && ((decide ((0 : Int) = (0 : Int))) && (false == false))))) || (!((decide ((0 : Int) = (0 : Int))) && (false == false)))))) (ag := true) (c := (((decide (ip.2.2.2.1 ≠ (0 : Int))) || (!((decide ((0 : Int) = (0 : Int))) && ((decide ((0 : Int) = (0 : Int))) && (false == false))))) || (!((decide ((0 : Int) = (0 : Int))) && (false == false))))) (v := (.bool (!ip.2.2.2.2.1.2.2.1))) hf rfl rfl rfl (fun hact => (r_not (gb_ev hact rfl))) rfl rfl ?_; clear hf fa; intro fa hf
              refine sqgF (act := (!(((decide (ip.2.2.2.1 ≠ (0 : Int))) || (!((decide ((0 : Int) = (0 : Int))) && ((decide ((0 : Int) = (0 : Int))) && (false == false))))) || (!((decide ((0 : Int) = (0 : Int))) && (false == false)))))) (ag := true) (c := (((decide (ip.2.2.2.1 ≠ (0 : Int))) || (!((decide ((0 : Int) = (0 : Int))) && ((decide ((0 : Int) = (0 : Int))) && (false == false))))) || (!((decide ((0 : Int) = (0 : Int))) && (false == false))))) (v := (.bool (!ip.2.2.2.2.1.2.2.1))) hf rfl rfl rfl (fun hact => (r_move (gb_ev hact rfl))) rfl rfl ?_; clear hf fa; intro fa hf
              refine sqgT (act := ((!(((decide (ip.2.2.2.1 ≠ (0 : Int))) || (!((decide ((0 : Int) = (0 : Int))) && ((decide ((0 : Int) = (0 : Int))) && (false == false))))) || (!((decide ((0 : Int) = (0 : Int))) && (false == false))))) && (!ip.2.2.2.2.1.2.2.1))) (ag := (!(((decide (ip.2.2.2.1 ≠ (0 : Int))) || (!((decide ((0 : Int) = (0 : Int))) && ((decide ((0 : Int) = (0 : Int))) && (false == false))))) || (!((decide ((0 : Int) = (0 : Int))) && (false == false)))))) (c := (!ip.2.2.2.2.1.2.2.1)) (v := (.pointer (some ⟨b1, 4, none⟩))) hf rfl rfl rfl (fun hact => (r_fa rfl Try.underlying81 (f := 4) (q := 4) rfl (by kernel_rfl) rfl)) rfl rfl ?_; clear hf fa; intro fa hf
              refine sqgT (act := ((!(((decide (ip.2.2.2.1 ≠ (0 : Int))) || (!((decide ((0 : Int) = (0 : Int))) && ((decide ((0 : Int) = (0 : Int))) && (false == false))))) || (!((decide ((0 : Int) = (0 : Int))) && (false == false))))) && (!ip.2.2.2.2.1.2.2.1))) (ag := (!(((decide (ip.2.2.2.1 ≠ (0 : Int))) || (!((decide ((0 : Int) = (0 : Int))) && ((decide ((0 : Int) = (0 : Int))) && (false == false))))) || (!((decide ((0 : Int) = (0 : Int))) && (false == false)))))) (c := (!ip.2.2.2.2.1.2.2.1)) (v := (.pointer (some ⟨b1, 5, none⟩))) hf rfl rfl rfl (fun hact => (r_fa (gb_ev hact rfl) Try.underlying43 (f := 1) (q := 5) rfl (by kernel_rfl) rfl)) rfl rfl ?_; clear hf fa; intro fa hf
              refine sqgT (act := ((!(((decide (ip.2.2.2.1 ≠ (0 : Int))) || (!((decide ((0 : Int) = (0 : Int))) && ((decide ((0 : Int) = (0 : Int))) && (false == false))))) || (!((decide ((0 : Int) = (0 : Int))) && (false == false))))) && (!ip.2.2.2.2.1.2.2.1))) (ag := (!(((decide (ip.2.2.2.1 ≠ (0 : Int))) || (!((decide ((0 : Int) = (0 : Int))) && ((decide ((0 : Int) = (0 : Int))) && (false == false))))) || (!((decide ((0 : Int) = (0 : Int))) && (false == false)))))) (c := (!ip.2.2.2.2.1.2.2.1)) (v := (.int .u32 ip.2.2.2.2.1.2.1)) hf rfl rfl rfl (fun hact => (r_load (v := (.int .u32 ip.2.2.2.2.1.2.1)) (gb_ev hact rfl) Try.underlying24 rfl (cell_blk hk1 rfl))) rfl rfl ?_; clear hf fa; intro fa hf
              refine sqgT (act := ((!(((decide (ip.2.2.2.1 ≠ (0 : Int))) || (!((decide ((0 : Int) = (0 : Int))) && ((decide ((0 : Int) = (0 : Int))) && (false == false))))) || (!((decide ((0 : Int) = (0 : Int))) && (false == false))))) && (!ip.2.2.2.2.1.2.2.1))) (ag := (!(((decide (ip.2.2.2.1 ≠ (0 : Int))) || (!((decide ((0 : Int) = (0 : Int))) && ((decide ((0 : Int) = (0 : Int))) && (false == false))))) || (!((decide ((0 : Int) = (0 : Int))) && (false == false)))))) (c := (!ip.2.2.2.2.1.2.2.1)) (v := (.bool (decide (ip.2.2.2.2.1.2.1 ≠ (0 : Int))))) hf rfl rfl rfl (fun hact => (r_ne (gb_ev hact rfl) rfl)) rfl rfl ?_; clear hf fa; intro fa hf
              refine sqgF (act := (!(((decide (ip.2.2.2.1 ≠ (0 : Int))) || (!((decide ((0 : Int) = (0 : Int))) && ((decide ((0 : Int) = (0 : Int))) && (false == false))))) || (!((decide ((0 : Int) = (0 : Int))) && (false == false)))))) (ag := true) (c := (((decide (ip.2.2.2.1 ≠ (0 : Int))) || (!((decide ((0 : Int) = (0 : Int))) && ((decide ((0 : Int) = (0 : Int))) && (false == false))))) || (!((decide ((0 : Int) = (0 : Int))) && (false == false))))) (v := (.bool ((!ip.2.2.2.2.1.2.2.1) && (decide (ip.2.2.2.2.1.2.1 ≠ (0 : Int)))))) hf rfl rfl rfl (fun hact => (r_pickA2 (q := (!(((decide (ip.2.2.2.1 ≠ (0 : Int))) || (!((decide ((0 : Int) = (0 : Int))) && ((decide ((0 : Int) = (0 : Int))) && (false == false))))) || (!((decide ((0 : Int) = (0 : Int))) && (false == false)))))) (b := (!ip.2.2.2.2.1.2.2.1)) (e := (decide (ip.2.2.2.2.1.2.1 ≠ (0 : Int)))) hact rfl rfl rfl)) rfl rfl ?_; clear hf fa; intro fa hf
              refine sqv hf (r_pickO (b := (((decide (ip.2.2.2.1 ≠ (0 : Int))) || (!((decide ((0 : Int) = (0 : Int))) && ((decide ((0 : Int) = (0 : Int))) && (false == false))))) || (!((decide ((0 : Int) = (0 : Int))) && (false == false))))) (e := ((!ip.2.2.2.2.1.2.2.1) && (decide (ip.2.2.2.2.1.2.1 ≠ (0 : Int))))) rfl rfl rfl) rfl rfl rfl ?_; clear hf fa; intro fa hf
              apply wpList_nil
              (try simp only [Exit.then, Exit.inBlock, ↓reduceIte, Nat.reduceEqDiff])
              refine hK51 _ _ ?_
              refine wp_cond_split (t := ((((decide (ip.2.2.2.1 ≠ (0 : Int))) || (!((decide ((0 : Int) = (0 : Int))) && ((decide ((0 : Int) = (0 : Int))) && (false == false))))) || (!((decide ((0 : Int) = (0 : Int))) && (false == false)))) || ((!ip.2.2.2.2.1.2.2.1) && (decide (ip.2.2.2.2.1.2.1 ≠ (0 : Int)))))) (hf.ev rfl) (fun hqt79_5 => ?_) (fun hqt79_5 => ?_)
              · have hqt79_5b := hqt79_5
                try simp only [decide_eq_true_eq, Bool.and_eq_true, Bool.or_eq_true, Bool.not_eq_true', decide_eq_false_iff_not, ne_eq, Bool.not_eq_true] at hqt79_5
                refine wp_seq_k (fun K52 hK52 => ?_)
                refine wp_region_lit ?_
                refine sqv hf (r_assign rfl) rfl rfl rfl ?_; clear hf fa; intro fa hf
                apply wpList_nil
                (try simp only [Exit.then, Exit.inBlock, ↓reduceIte, Nat.reduceEqDiff])
                refine hK52 _ _ ?_
                refine wp_ret ?_
                (try simp only [Exit.then, Exit.inBlock])
                refine ret1 hf rfl rfl ?_
                refine ⟨?_, hb⟩; unfold irrP; rw [hqt10_1b, hqt16_1b, hqt20_1b, hqt36_1b, hqt45_2b, hqt50_3b, hqt79_5b]; (try rfl)
              · have hqt79_5b := hqt79_5
                replace hqt79_5 := Bool.eq_false_iff.1 hqt79_5
                try simp only [ne_eq, decide_eq_true_eq, Bool.and_eq_true, Bool.or_eq_true, Bool.not_eq_true', decide_eq_false_iff_not] at hqt79_5
                refine wp_skip ?_
                (try simp only [Exit.then, Exit.inBlock, ↓reduceIte, Nat.reduceEqDiff])
                refine hK50 _ _ ?_
                refine wp_seq_k (fun K53 hK53 => ?_)
                refine wp_seq_k (fun K54 hK54 => ?_)
                refine wp_region_lit ?_
                refine sqv hf (r_fa rfl Try.underlying81 (f := 2) (q := 2) rfl (by kernel_rfl) rfl) rfl rfl rfl ?_; clear hf fa; intro fa hf
                refine sqv hf (r_load (v := (.int .u8 ip.2.2.1)) rfl Try.underlying5 rfl (cell_blk hk1 rfl)) rfl rfl rfl ?_; clear hf fa; intro fa hf
                refine sqv hf (r_eq rfl rfl) rfl rfl rfl ?_; clear hf fa; intro fa hf
                apply wpList_nil
                (try simp only [Exit.then, Exit.inBlock, ↓reduceIte, Nat.reduceEqDiff])
                refine hK54 _ _ ?_
                refine wp_cond_true ((hf.ev rfl).trans (congrArg Value.bool (show (decide (ip.2.2.1 = (3 : Int))) = true from hqt50_3b))) ?_
                refine wp_seq_k (fun K55 hK55 => ?_)
                refine wp_region_lit ?_
                refine sqv hf (r_fa rfl Try.underlying81 (f := 5) (q := 7) rfl (by kernel_rfl) rfl) rfl rfl rfl ?_; clear hf fa; intro fa hf
                refine sqv hf (r_fa rfl Try.underlying54 (f := 0) (q := 7) rfl (by kernel_rfl) rfl) rfl rfl rfl ?_; clear hf fa; intro fa hf
                refine sqv hf (r_load (v := (.int .u8 ip.2.2.2.2.2.1.1)) rfl Try.underlying5 rfl (cell_blk hk1 rfl)) rfl rfl rfl ?_; clear hf fa; intro fa hf
                refine sqv hf (r_conv (C := ip.2.2.2.2.2.1.1) rfl Try.underlying5 Try.underlying3 (by rw [IntKind.wrap_i64]; omega)) rfl rfl rfl ?_; clear hf fa; intro fa hf
                refine sqdt hf (d_callS (vs := [(.int .i64 ip.2.2.2.2.2.1.1)]) rfl Try.func35 (by kernel_rfl) (by kernel_rfl) (rval2_any ip.2.2.2.2.2.1.1 _)) rfl rfl rfl ?_; clear hf fa; rintro fa _ _ ⟨rfl, rfl⟩ hf
                refine sqv hf (r_assign rfl) rfl rfl rfl ?_; clear hf fa; intro fa hf
                apply wpList_nil
                (try simp only [Exit.then, Exit.inBlock, ↓reduceIte, Nat.reduceEqDiff])
                refine hK55 _ _ ?_
                refine wp_ret ?_
                (try simp only [Exit.then, Exit.inBlock])
                refine ret1 hf rfl rfl ?_
                refine ⟨?_, hb⟩; unfold irrP; rw [hqt10_1b, hqt16_1b, hqt20_1b, hqt36_1b, hqt45_2b, hqt50_3b, hqt79_5b]; (try rfl)
            · have hqt50_3b := hqt50_3
              replace hqt50_3 := Bool.eq_false_iff.1 hqt50_3
              try simp only [ne_eq, decide_eq_true_eq, Bool.and_eq_true, Bool.or_eq_true, Bool.not_eq_true', decide_eq_false_iff_not] at hqt50_3
              refine wp_skip ?_
              (try simp only [Exit.then, Exit.inBlock, ↓reduceIte, Nat.reduceEqDiff])
              refine hK48 _ _ ?_
              refine wp_seq_k (fun K56 hK56 => ?_)
              refine wp_seq_k (fun K57 hK57 => ?_)
              refine wp_region_lit ?_
              refine sqv hf (r_fa rfl Try.underlying81 (f := 3) (q := 3) rfl (by kernel_rfl) rfl) rfl rfl rfl ?_; clear hf fa; intro fa hf
              refine sqv hf (r_load (v := (.int .u32 ip.2.2.2.1)) rfl Try.underlying24 rfl (cell_blk hk8 rfl)) rfl rfl rfl ?_; clear hf fa; intro fa hf
              refine sqv hf (r_ne rfl rfl) rfl rfl rfl ?_; clear hf fa; intro fa hf
              refine sqv hf (r_move rfl) rfl rfl rfl ?_; clear hf fa; intro fa hf
              refine sqgF (act := (!(decide (ip.2.2.2.1 ≠ (0 : Int))))) (ag := true) (c := (decide (ip.2.2.2.1 ≠ (0 : Int)))) (v := (.pointer (some ⟨b2, 4, none⟩))) hf rfl rfl rfl (fun hact => (r_fa rfl Try.underlying81 (f := 4) (q := 4) rfl (by kernel_rfl) rfl)) rfl rfl ?_; clear hf fa; intro fa hf
              refine sqgF (act := (!(decide (ip.2.2.2.1 ≠ (0 : Int))))) (ag := true) (c := (decide (ip.2.2.2.1 ≠ (0 : Int)))) (v := (.agg #[(.int .u32 (0 : Int)), (.int .u32 (0 : Int)), (.bool false)])) hf rfl rfl rfl (fun hact => (r_loadA (cs := [(.int .u32 (0 : Int)), (.int .u32 (0 : Int)), (.bool false)]) (gb_ev hact rfl) Try.underlying43 rfl (by kernel_rfl) (cellsAt_part (d := 4) (n := 3) (cellsAt_blk hk8) rfl rfl))) rfl rfl ?_; clear hf fa; intro fa hf
              refine sqgF (act := (!(decide (ip.2.2.2.1 ≠ (0 : Int))))) (ag := true) (c := (decide (ip.2.2.2.1 ≠ (0 : Int)))) (v := (.agg #[(.int .u32 (0 : Int)), (.int .u32 (0 : Int)), (.bool false)])) hf rfl rfl rfl (fun hact => (r_build (vs := []) (cs := #[(.int .u32 (0 : Int)), (.int .u32 (0 : Int)), (.bool false)]) rfl (fun _ => by kernel_rfl))) rfl rfl ?_; clear hf fa; intro fa hf
              refine sqgF (act := (!(decide (ip.2.2.2.1 ≠ (0 : Int))))) (ag := true) (c := (decide (ip.2.2.2.1 ≠ (0 : Int)))) (v := (.bool (!((decide ((0 : Int) = (0 : Int))) && ((decide ((0 : Int) = (0 : Int))) && (false == false)))))) hf rfl rfl rfl (fun hact => (r_ane (k := 5) (gb_ev hact rfl) (gb_ev hact rfl) (by kernel_rfl) (eqt_struct (xs := #[(.int .u32 (0 : Int)), (.int .u32 (0 : Int)), (.bool false)]) (ys := #[(.int .u32 (0 : Int)), (.int .u32 (0 : Int)), (.bool false)]) Try.underlying43 (by kernel_rfl) (eqf_cons (by kernel_rfl) (fun _ => by kernel_rfl) (fun _ => by kernel_rfl) (eqt_int (kk := .u32) (a := (0 : Int)) (b := (0 : Int)) Try.underlying24) (eqf_cons (by kernel_rfl) (fun _ => by kernel_rfl) (fun _ => by kernel_rfl) (eqt_int (kk := .u32) (a := (0 : Int)) (b := (0 : Int)) Try.underlying24) (eqf_one (by kernel_rfl) (fun _ => by kernel_rfl) (fun _ => by kernel_rfl) (eqt_bool (a := false) (b := false) Try.underlying4))))) rfl)) rfl rfl ?_; clear hf fa; intro fa hf
              refine sqv hf (r_pickO (b := (decide (ip.2.2.2.1 ≠ (0 : Int)))) (e := (!((decide ((0 : Int) = (0 : Int))) && ((decide ((0 : Int) = (0 : Int))) && (false == false))))) rfl rfl rfl) rfl rfl rfl ?_; clear hf fa; intro fa hf
              refine sqv hf (r_move rfl) rfl rfl rfl ?_; clear hf fa; intro fa hf
              refine sqgF (act := (!((decide (ip.2.2.2.1 ≠ (0 : Int))) || (!((decide ((0 : Int) = (0 : Int))) && ((decide ((0 : Int) = (0 : Int))) && (false == false))))))) (ag := true) (c := ((decide (ip.2.2.2.1 ≠ (0 : Int))) || (!((decide ((0 : Int) = (0 : Int))) && ((decide ((0 : Int) = (0 : Int))) && (false == false)))))) (v := (.pointer (some ⟨b2, 7, none⟩))) hf rfl rfl rfl (fun hact => (r_fa rfl Try.underlying81 (f := 5) (q := 7) rfl (by kernel_rfl) rfl)) rfl rfl ?_; clear hf fa; intro fa hf
              refine sqgF (act := (!((decide (ip.2.2.2.1 ≠ (0 : Int))) || (!((decide ((0 : Int) = (0 : Int))) && ((decide ((0 : Int) = (0 : Int))) && (false == false))))))) (ag := true) (c := ((decide (ip.2.2.2.1 ≠ (0 : Int))) || (!((decide ((0 : Int) = (0 : Int))) && ((decide ((0 : Int) = (0 : Int))) && (false == false)))))) (v := (.agg #[(.int .u8 ip.2.2.2.2.2.1.1), (.bool ip.2.2.2.2.2.1.2.1)])) hf rfl rfl rfl (fun hact => (r_loadA (cs := [(.int .u8 ip.2.2.2.2.2.1.1), (.bool ip.2.2.2.2.2.1.2.1)]) (gb_ev hact rfl) Try.underlying54 rfl (by kernel_rfl) (cellsAt_part (d := 7) (n := 2) (cellsAt_blk hk8) rfl rfl))) rfl rfl ?_; clear hf fa; intro fa hf
              refine sqgF (act := (!((decide (ip.2.2.2.1 ≠ (0 : Int))) || (!((decide ((0 : Int) = (0 : Int))) && ((decide ((0 : Int) = (0 : Int))) && (false == false))))))) (ag := true) (c := ((decide (ip.2.2.2.1 ≠ (0 : Int))) || (!((decide ((0 : Int) = (0 : Int))) && ((decide ((0 : Int) = (0 : Int))) && (false == false)))))) (v := (.agg #[(.int .u8 (0 : Int)), (.bool false)])) hf rfl rfl rfl (fun hact => (r_build (vs := []) (cs := #[(.int .u8 (0 : Int)), (.bool false)]) rfl (fun _ => by kernel_rfl))) rfl rfl ?_; clear hf fa; intro fa hf
              refine sqgF (act := (!((decide (ip.2.2.2.1 ≠ (0 : Int))) || (!((decide ((0 : Int) = (0 : Int))) && ((decide ((0 : Int) = (0 : Int))) && (false == false))))))) (ag := true) (c := ((decide (ip.2.2.2.1 ≠ (0 : Int))) || (!((decide ((0 : Int) = (0 : Int))) && ((decide ((0 : Int) = (0 : Int))) && (false == false)))))) (v := (.bool (!((decide (ip.2.2.2.2.2.1.1 = (0 : Int))) && (ip.2.2.2.2.2.1.2.1 == false))))) hf rfl rfl rfl (fun hact => (r_ane (k := 5) (gb_ev hact rfl) (gb_ev hact rfl) (by kernel_rfl) (eqt_struct (xs := #[(.int .u8 ip.2.2.2.2.2.1.1), (.bool ip.2.2.2.2.2.1.2.1)]) (ys := #[(.int .u8 (0 : Int)), (.bool false)]) Try.underlying54 (by kernel_rfl) (eqf_cons (by kernel_rfl) (fun _ => by kernel_rfl) (fun _ => by kernel_rfl) (eqt_int (kk := .u8) (a := ip.2.2.2.2.2.1.1) (b := (0 : Int)) Try.underlying5) (eqf_one (by kernel_rfl) (fun _ => by kernel_rfl) (fun _ => by kernel_rfl) (eqt_bool (a := ip.2.2.2.2.2.1.2.1) (b := false) Try.underlying4)))) rfl)) rfl rfl ?_; clear hf fa; intro fa hf
              refine sqv hf (r_pickO (b := ((decide (ip.2.2.2.1 ≠ (0 : Int))) || (!((decide ((0 : Int) = (0 : Int))) && ((decide ((0 : Int) = (0 : Int))) && (false == false)))))) (e := (!((decide (ip.2.2.2.2.2.1.1 = (0 : Int))) && (ip.2.2.2.2.2.1.2.1 == false)))) rfl rfl rfl) rfl rfl rfl ?_; clear hf fa; intro fa hf
              refine sqv hf (r_move rfl) rfl rfl rfl ?_; clear hf fa; intro fa hf
              refine sqgF (act := (!(((decide (ip.2.2.2.1 ≠ (0 : Int))) || (!((decide ((0 : Int) = (0 : Int))) && ((decide ((0 : Int) = (0 : Int))) && (false == false))))) || (!((decide (ip.2.2.2.2.2.1.1 = (0 : Int))) && (ip.2.2.2.2.2.1.2.1 == false)))))) (ag := true) (c := (((decide (ip.2.2.2.1 ≠ (0 : Int))) || (!((decide ((0 : Int) = (0 : Int))) && ((decide ((0 : Int) = (0 : Int))) && (false == false))))) || (!((decide (ip.2.2.2.2.2.1.1 = (0 : Int))) && (ip.2.2.2.2.2.1.2.1 == false))))) (v := (.pointer (some ⟨b1, 4, none⟩))) hf rfl rfl rfl (fun hact => (r_fa rfl Try.underlying81 (f := 4) (q := 4) rfl (by kernel_rfl) rfl)) rfl rfl ?_; clear hf fa; intro fa hf
              refine sqgF (act := (!(((decide (ip.2.2.2.1 ≠ (0 : Int))) || (!((decide ((0 : Int) = (0 : Int))) && ((decide ((0 : Int) = (0 : Int))) && (false == false))))) || (!((decide (ip.2.2.2.2.2.1.1 = (0 : Int))) && (ip.2.2.2.2.2.1.2.1 == false)))))) (ag := true) (c := (((decide (ip.2.2.2.1 ≠ (0 : Int))) || (!((decide ((0 : Int) = (0 : Int))) && ((decide ((0 : Int) = (0 : Int))) && (false == false))))) || (!((decide (ip.2.2.2.2.2.1.1 = (0 : Int))) && (ip.2.2.2.2.2.1.2.1 == false))))) (v := (.pointer (some ⟨b1, 6, none⟩))) hf rfl rfl rfl (fun hact => (r_fa (gb_ev hact rfl) Try.underlying43 (f := 2) (q := 6) rfl (by kernel_rfl) rfl)) rfl rfl ?_; clear hf fa; intro fa hf
              refine sqgF (act := (!(((decide (ip.2.2.2.1 ≠ (0 : Int))) || (!((decide ((0 : Int) = (0 : Int))) && ((decide ((0 : Int) = (0 : Int))) && (false == false))))) || (!((decide (ip.2.2.2.2.2.1.1 = (0 : Int))) && (ip.2.2.2.2.2.1.2.1 == false)))))) (ag := true) (c := (((decide (ip.2.2.2.1 ≠ (0 : Int))) || (!((decide ((0 : Int) = (0 : Int))) && ((decide ((0 : Int) = (0 : Int))) && (false == false))))) || (!((decide (ip.2.2.2.2.2.1.1 = (0 : Int))) && (ip.2.2.2.2.2.1.2.1 == false))))) (v := (.bool ip.2.2.2.2.1.2.2.1)) hf rfl rfl rfl (fun hact => (r_load (v := (.bool ip.2.2.2.2.1.2.2.1)) (gb_ev hact rfl) Try.underlying4 rfl (cell_blk hk1 rfl))) rfl rfl ?_; clear hf fa; intro fa hf
              refine sqgF (act := (!(((decide (ip.2.2.2.1 ≠ (0 : Int))) || (!((decide ((0 : Int) = (0 : Int))) && ((decide ((0 : Int) = (0 : Int))) && (false == false))))) || (!((decide (ip.2.2.2.2.2.1.1 = (0 : Int))) && (ip.2.2.2.2.2.1.2.1 == false)))))) (ag := true) (c := (((decide (ip.2.2.2.1 ≠ (0 : Int))) || (!((decide ((0 : Int) = (0 : Int))) && ((decide ((0 : Int) = (0 : Int))) && (false == false))))) || (!((decide (ip.2.2.2.2.2.1.1 = (0 : Int))) && (ip.2.2.2.2.2.1.2.1 == false))))) (v := (.bool (!ip.2.2.2.2.1.2.2.1))) hf rfl rfl rfl (fun hact => (r_not (gb_ev hact rfl))) rfl rfl ?_; clear hf fa; intro fa hf
              refine sqgF (act := (!(((decide (ip.2.2.2.1 ≠ (0 : Int))) || (!((decide ((0 : Int) = (0 : Int))) && ((decide ((0 : Int) = (0 : Int))) && (false == false))))) || (!((decide (ip.2.2.2.2.2.1.1 = (0 : Int))) && (ip.2.2.2.2.2.1.2.1 == false)))))) (ag := true) (c := (((decide (ip.2.2.2.1 ≠ (0 : Int))) || (!((decide ((0 : Int) = (0 : Int))) && ((decide ((0 : Int) = (0 : Int))) && (false == false))))) || (!((decide (ip.2.2.2.2.2.1.1 = (0 : Int))) && (ip.2.2.2.2.2.1.2.1 == false))))) (v := (.bool (!ip.2.2.2.2.1.2.2.1))) hf rfl rfl rfl (fun hact => (r_move (gb_ev hact rfl))) rfl rfl ?_; clear hf fa; intro fa hf
              refine sqgT (act := ((!(((decide (ip.2.2.2.1 ≠ (0 : Int))) || (!((decide ((0 : Int) = (0 : Int))) && ((decide ((0 : Int) = (0 : Int))) && (false == false))))) || (!((decide (ip.2.2.2.2.2.1.1 = (0 : Int))) && (ip.2.2.2.2.2.1.2.1 == false))))) && (!ip.2.2.2.2.1.2.2.1))) (ag := (!(((decide (ip.2.2.2.1 ≠ (0 : Int))) || (!((decide ((0 : Int) = (0 : Int))) && ((decide ((0 : Int) = (0 : Int))) && (false == false))))) || (!((decide (ip.2.2.2.2.2.1.1 = (0 : Int))) && (ip.2.2.2.2.2.1.2.1 == false)))))) (c := (!ip.2.2.2.2.1.2.2.1)) (v := (.pointer (some ⟨b1, 4, none⟩))) hf rfl rfl rfl (fun hact => (r_fa rfl Try.underlying81 (f := 4) (q := 4) rfl (by kernel_rfl) rfl)) rfl rfl ?_; clear hf fa; intro fa hf
              refine sqgT (act := ((!(((decide (ip.2.2.2.1 ≠ (0 : Int))) || (!((decide ((0 : Int) = (0 : Int))) && ((decide ((0 : Int) = (0 : Int))) && (false == false))))) || (!((decide (ip.2.2.2.2.2.1.1 = (0 : Int))) && (ip.2.2.2.2.2.1.2.1 == false))))) && (!ip.2.2.2.2.1.2.2.1))) (ag := (!(((decide (ip.2.2.2.1 ≠ (0 : Int))) || (!((decide ((0 : Int) = (0 : Int))) && ((decide ((0 : Int) = (0 : Int))) && (false == false))))) || (!((decide (ip.2.2.2.2.2.1.1 = (0 : Int))) && (ip.2.2.2.2.2.1.2.1 == false)))))) (c := (!ip.2.2.2.2.1.2.2.1)) (v := (.pointer (some ⟨b1, 5, none⟩))) hf rfl rfl rfl (fun hact => (r_fa (gb_ev hact rfl) Try.underlying43 (f := 1) (q := 5) rfl (by kernel_rfl) rfl)) rfl rfl ?_; clear hf fa; intro fa hf
              refine sqgT (act := ((!(((decide (ip.2.2.2.1 ≠ (0 : Int))) || (!((decide ((0 : Int) = (0 : Int))) && ((decide ((0 : Int) = (0 : Int))) && (false == false))))) || (!((decide (ip.2.2.2.2.2.1.1 = (0 : Int))) && (ip.2.2.2.2.2.1.2.1 == false))))) && (!ip.2.2.2.2.1.2.2.1))) (ag := (!(((decide (ip.2.2.2.1 ≠ (0 : Int))) || (!((decide ((0 : Int) = (0 : Int))) && ((decide ((0 : Int) = (0 : Int))) && (false == false))))) || (!((decide (ip.2.2.2.2.2.1.1 = (0 : Int))) && (ip.2.2.2.2.2.1.2.1 == false)))))) (c := (!ip.2.2.2.2.1.2.2.1)) (v := (.int .u32 ip.2.2.2.2.1.2.1)) hf rfl rfl rfl (fun hact => (r_load (v := (.int .u32 ip.2.2.2.2.1.2.1)) (gb_ev hact rfl) Try.underlying24 rfl (cell_blk hk1 rfl))) rfl rfl ?_; clear hf fa; intro fa hf
              refine sqgT (act := ((!(((decide (ip.2.2.2.1 ≠ (0 : Int))) || (!((decide ((0 : Int) = (0 : Int))) && ((decide ((0 : Int) = (0 : Int))) && (false == false))))) || (!((decide (ip.2.2.2.2.2.1.1 = (0 : Int))) && (ip.2.2.2.2.2.1.2.1 == false))))) && (!ip.2.2.2.2.1.2.2.1))) (ag := (!(((decide (ip.2.2.2.1 ≠ (0 : Int))) || (!((decide ((0 : Int) = (0 : Int))) && ((decide ((0 : Int) = (0 : Int))) && (false == false))))) || (!((decide (ip.2.2.2.2.2.1.1 = (0 : Int))) && (ip.2.2.2.2.2.1.2.1 == false)))))) (c := (!ip.2.2.2.2.1.2.2.1)) (v := (.bool (decide (ip.2.2.2.2.1.2.1 ≠ (0 : Int))))) hf rfl rfl rfl (fun hact => (r_ne (gb_ev hact rfl) rfl)) rfl rfl ?_; clear hf fa; intro fa hf
              refine sqgF (act := (!(((decide (ip.2.2.2.1 ≠ (0 : Int))) || (!((decide ((0 : Int) = (0 : Int))) && ((decide ((0 : Int) = (0 : Int))) && (false == false))))) || (!((decide (ip.2.2.2.2.2.1.1 = (0 : Int))) && (ip.2.2.2.2.2.1.2.1 == false)))))) (ag := true) (c := (((decide (ip.2.2.2.1 ≠ (0 : Int))) || (!((decide ((0 : Int) = (0 : Int))) && ((decide ((0 : Int) = (0 : Int))) && (false == false))))) || (!((decide (ip.2.2.2.2.2.1.1 = (0 : Int))) && (ip.2.2.2.2.2.1.2.1 == false))))) (v := (.bool ((!ip.2.2.2.2.1.2.2.1) && (decide (ip.2.2.2.2.1.2.1 ≠ (0 : Int)))))) hf rfl rfl rfl (fun hact => (r_pickA2 (q := (!(((decide (ip.2.2.2.1 ≠ (0 : Int))) || (!((decide ((0 : Int) = (0 : Int))) && ((decide ((0 : Int) = (0 : Int))) && (false == false))))) || (!((decide (ip.2.2.2.2.2.1.1 = (0 : Int))) && (ip.2.2.2.2.2.1.2.1 == false)))))) (b := (!ip.2.2.2.2.1.2.2.1)) (e := (decide (ip.2.2.2.2.1.2.1 ≠ (0 : Int)))) hact rfl rfl rfl)) rfl rfl ?_; clear hf fa; intro fa hf
              refine sqv hf (r_pickO (b := (((decide (ip.2.2.2.1 ≠ (0 : Int))) || (!((decide ((0 : Int) = (0 : Int))) && ((decide ((0 : Int) = (0 : Int))) && (false == false))))) || (!((decide (ip.2.2.2.2.2.1.1 = (0 : Int))) && (ip.2.2.2.2.2.1.2.1 == false))))) (e := ((!ip.2.2.2.2.1.2.2.1) && (decide (ip.2.2.2.2.1.2.1 ≠ (0 : Int))))) rfl rfl rfl) rfl rfl rfl ?_; clear hf fa; intro fa hf
              apply wpList_nil
              (try simp only [Exit.then, Exit.inBlock, ↓reduceIte, Nat.reduceEqDiff])
              refine hK57 _ _ ?_
              refine wp_cond_split (t := ((((decide (ip.2.2.2.1 ≠ (0 : Int))) || (!((decide ((0 : Int) = (0 : Int))) && ((decide ((0 : Int) = (0 : Int))) && (false == false))))) || (!((decide (ip.2.2.2.2.2.1.1 = (0 : Int))) && (ip.2.2.2.2.2.1.2.1 == false)))) || ((!ip.2.2.2.2.1.2.2.1) && (decide (ip.2.2.2.2.1.2.1 ≠ (0 : Int)))))) (hf.ev rfl) (fun hqt79_6 => ?_) (fun hqt79_6 => ?_)
              · have hqt79_6b := hqt79_6
                try simp only [decide_eq_true_eq, Bool.and_eq_true, Bool.or_eq_true, Bool.not_eq_true', decide_eq_false_iff_not, ne_eq, Bool.not_eq_true] at hqt79_6
                refine wp_seq_k (fun K58 hK58 => ?_)
                refine wp_region_lit ?_
                refine sqv hf (r_assign rfl) rfl rfl rfl ?_; clear hf fa; intro fa hf
                apply wpList_nil
                (try simp only [Exit.then, Exit.inBlock, ↓reduceIte, Nat.reduceEqDiff])
                refine hK58 _ _ ?_
                refine wp_ret ?_
                (try simp only [Exit.then, Exit.inBlock])
                refine ret1 hf rfl rfl ?_
                refine ⟨?_, hb⟩; unfold irrP; rw [hqt10_1b, hqt16_1b, hqt20_1b, hqt36_1b, hqt45_2b, hqt50_3b, hqt79_6b]; (try rfl)
              · have hqt79_6b := hqt79_6
                replace hqt79_6 := Bool.eq_false_iff.1 hqt79_6
                try simp only [ne_eq, decide_eq_true_eq, Bool.and_eq_true, Bool.or_eq_true, Bool.not_eq_true', decide_eq_false_iff_not] at hqt79_6
                refine wp_skip ?_
                (try simp only [Exit.then, Exit.inBlock, ↓reduceIte, Nat.reduceEqDiff])
                refine hK56 _ _ ?_
                refine wp_seq_k (fun K59 hK59 => ?_)
                refine wp_seq_k (fun K60 hK60 => ?_)
                refine wp_region_lit ?_
                refine sqv hf (r_fa rfl Try.underlying81 (f := 2) (q := 2) rfl (by kernel_rfl) rfl) rfl rfl rfl ?_; clear hf fa; intro fa hf
                refine sqv hf (r_load (v := (.int .u8 ip.2.2.1)) rfl Try.underlying5 rfl (cell_blk hk1 rfl)) rfl rfl rfl ?_; clear hf fa; intro fa hf
                refine sqv hf (r_eq rfl rfl) rfl rfl rfl ?_; clear hf fa; intro fa hf
                apply wpList_nil
                (try simp only [Exit.then, Exit.inBlock, ↓reduceIte, Nat.reduceEqDiff])
                refine hK60 _ _ ?_
                refine wp_cond_false ((hf.ev rfl).trans (congrArg Value.bool (show (decide (ip.2.2.1 = (3 : Int))) = false from hqt50_3b))) ?_
                refine wp_skip ?_
                (try simp only [Exit.then, Exit.inBlock, ↓reduceIte, Nat.reduceEqDiff])
                refine hK59 _ _ ?_
                refine wp_seq_k (fun K61 hK61 => ?_)
                refine wp_region_lit ?_
                refine sqv hf (r_assign rfl) rfl rfl rfl ?_; clear hf fa; intro fa hf
                apply wpList_nil
                (try simp only [Exit.then, Exit.inBlock, ↓reduceIte, Nat.reduceEqDiff])
                refine hK61 _ _ ?_
                refine wp_ret ?_
                (try simp only [Exit.then, Exit.inBlock])
                refine ret1 hf rfl rfl ?_
                refine ⟨?_, hb⟩; unfold irrP; rw [hqt10_1b, hqt16_1b, hqt20_1b, hqt36_1b, hqt45_2b, hqt50_3b, hqt79_6b]; (try rfl)
          · have hqt45_2b := hqt45_2
            replace hqt45_2 := Bool.eq_false_iff.1 hqt45_2
            try simp only [ne_eq, decide_eq_true_eq, Bool.and_eq_true, Bool.or_eq_true, Bool.not_eq_true', decide_eq_false_iff_not] at hqt45_2
            refine wp_skip ?_
            (try simp only [Exit.then, Exit.inBlock, ↓reduceIte, Nat.reduceEqDiff])
            refine hK46 _ _ ?_
            refine wp_seq_k (fun K62 hK62 => ?_)
            refine wp_seq_k (fun K63 hK63 => ?_)
            refine wp_region_lit ?_
            refine sqv hf (r_fa rfl Try.underlying81 (f := 2) (q := 2) rfl (by kernel_rfl) rfl) rfl rfl rfl ?_; clear hf fa; intro fa hf
            refine sqv hf (r_load (v := (.int .u8 ip.2.2.1)) rfl Try.underlying5 rfl (cell_blk hk1 rfl)) rfl rfl rfl ?_; clear hf fa; intro fa hf
            refine sqv hf (r_eq rfl rfl) rfl rfl rfl ?_; clear hf fa; intro fa hf
            apply wpList_nil
            (try simp only [Exit.then, Exit.inBlock, ↓reduceIte, Nat.reduceEqDiff])
            refine hK63 _ _ ?_
            refine wp_cond_split (t := (decide (ip.2.2.1 = (3 : Int)))) (hf.ev rfl) (fun hqt50_4 => ?_) (fun hqt50_4 => ?_)
            · have hqt50_4b := hqt50_4
              try simp only [decide_eq_true_eq, Bool.and_eq_true, Bool.or_eq_true, Bool.not_eq_true', decide_eq_false_iff_not, ne_eq, Bool.not_eq_true] at hqt50_4
              refine wp_region_lit ?_
              refine sqv hf (r_build (vs := []) (cs := #[(.int .u8 (0 : Int)), (.bool false)]) rfl (fun _ => by kernel_rfl)) rfl rfl rfl ?_; clear hf fa; intro fa hf
              refine sqv hf (r_fa rfl Try.underlying81 (f := 5) (q := 7) rfl (by kernel_rfl) rfl) rfl rfl rfl ?_; clear hf fa; intro fa hf
              refine sqn hf (d_storeK (T := 81) (v := (.agg #[(.int .u8 (0 : Int)), (.bool false)])) (cs := #[(.string ip.1), (.string ip.2.1), (.int .u8 ip.2.2.1), (.int .u32 ip.2.2.2.1), (.int .u32 ip.2.2.2.2.1.1), (.int .u32 ip.2.2.2.2.1.2.1), (.bool ip.2.2.2.2.1.2.2.1), (.int .u8 ip.2.2.2.2.2.1.1), (.bool ip.2.2.2.2.2.1.2.1)]) (cs' := #[(.string ip.1), (.string ip.2.1), (.int .u8 ip.2.2.1), (.int .u32 ip.2.2.2.1), (.int .u32 ip.2.2.2.2.1.1), (.int .u32 ip.2.2.2.2.1.2.1), (.bool ip.2.2.2.2.1.2.2.1), (.int .u8 (0 : Int)), (.bool false)]) rfl rfl (by kernel_rfl) (by kernel_rfl) hk3 (by kernel_rfl) (by kernel_rfl)) rfl rfl ?_; clear hf fa; rintro fa _ w12 ⟨hk10, hg8⟩ hf
              replace hk1 := blk_grown hk1 hg8 (by omega)
              replace hb := hb.trans (grown_below hg8 hb.size hBb2)
              apply wpList_nil
              (try simp only [Exit.then, Exit.inBlock, ↓reduceIte, Nat.reduceEqDiff])
              refine hK62 _ _ ?_
              refine wp_seq_k (fun K64 hK64 => ?_)
              refine wp_seq_k (fun K65 hK65 => ?_)
              refine wp_region_lit ?_
              refine sqv hf (r_fa rfl Try.underlying81 (f := 3) (q := 3) rfl (by kernel_rfl) rfl) rfl rfl rfl ?_; clear hf fa; intro fa hf
              refine sqv hf (r_load (v := (.int .u32 ip.2.2.2.1)) rfl Try.underlying24 rfl (cell_blk hk10 rfl)) rfl rfl rfl ?_; clear hf fa; intro fa hf
              refine sqv hf (r_ne rfl rfl) rfl rfl rfl ?_; clear hf fa; intro fa hf
              refine sqv hf (r_move rfl) rfl rfl rfl ?_; clear hf fa; intro fa hf
              refine sqgF (act := (!(decide (ip.2.2.2.1 ≠ (0 : Int))))) (ag := true) (c := (decide (ip.2.2.2.1 ≠ (0 : Int)))) (v := (.pointer (some ⟨b2, 4, none⟩))) hf rfl rfl rfl (fun hact => (r_fa rfl Try.underlying81 (f := 4) (q := 4) rfl (by kernel_rfl) rfl)) rfl rfl ?_; clear hf fa; intro fa hf
              refine sqgF (act := (!(decide (ip.2.2.2.1 ≠ (0 : Int))))) (ag := true) (c := (decide (ip.2.2.2.1 ≠ (0 : Int)))) (v := (.agg #[(.int .u32 ip.2.2.2.2.1.1), (.int .u32 ip.2.2.2.2.1.2.1), (.bool ip.2.2.2.2.1.2.2.1)])) hf rfl rfl rfl (fun hact => (r_loadA (cs := [(.int .u32 ip.2.2.2.2.1.1), (.int .u32 ip.2.2.2.2.1.2.1), (.bool ip.2.2.2.2.1.2.2.1)]) (gb_ev hact rfl) Try.underlying43 rfl (by kernel_rfl) (cellsAt_part (d := 4) (n := 3) (cellsAt_blk hk10) rfl rfl))) rfl rfl ?_; clear hf fa; intro fa hf
              refine sqgF (act := (!(decide (ip.2.2.2.1 ≠ (0 : Int))))) (ag := true) (c := (decide (ip.2.2.2.1 ≠ (0 : Int)))) (v := (.agg #[(.int .u32 (0 : Int)), (.int .u32 (0 : Int)), (.bool false)])) hf rfl rfl rfl (fun hact => (r_build (vs := []) (cs := #[(.int .u32 (0 : Int)), (.int .u32 (0 : Int)), (.bool false)]) rfl (fun _ => by kernel_rfl))) rfl rfl ?_; clear hf fa; intro fa hf
              refine sqgF (act := (!(decide (ip.2.2.2.1 ≠ (0 : Int))))) (ag := true) (c := (decide (ip.2.2.2.1 ≠ (0 : Int)))) (v := (.bool (!((decide (ip.2.2.2.2.1.1 = (0 : Int))) && ((decide (ip.2.2.2.2.1.2.1 = (0 : Int))) && (ip.2.2.2.2.1.2.2.1 == false)))))) hf rfl rfl rfl (fun hact => (r_ane (k := 5) (gb_ev hact rfl) (gb_ev hact rfl) (by kernel_rfl) (eqt_struct (xs := #[(.int .u32 ip.2.2.2.2.1.1), (.int .u32 ip.2.2.2.2.1.2.1), (.bool ip.2.2.2.2.1.2.2.1)]) (ys := #[(.int .u32 (0 : Int)), (.int .u32 (0 : Int)), (.bool false)]) Try.underlying43 (by kernel_rfl) (eqf_cons (by kernel_rfl) (fun _ => by kernel_rfl) (fun _ => by kernel_rfl) (eqt_int (kk := .u32) (a := ip.2.2.2.2.1.1) (b := (0 : Int)) Try.underlying24) (eqf_cons (by kernel_rfl) (fun _ => by kernel_rfl) (fun _ => by kernel_rfl) (eqt_int (kk := .u32) (a := ip.2.2.2.2.1.2.1) (b := (0 : Int)) Try.underlying24) (eqf_one (by kernel_rfl) (fun _ => by kernel_rfl) (fun _ => by kernel_rfl) (eqt_bool (a := ip.2.2.2.2.1.2.2.1) (b := false) Try.underlying4))))) rfl)) rfl rfl ?_; clear hf fa; intro fa hf
              refine sqv hf (r_pickO (b := (decide (ip.2.2.2.1 ≠ (0 : Int)))) (e := (!((decide (ip.2.2.2.2.1.1 = (0 : Int))) && ((decide (ip.2.2.2.2.1.2.1 = (0 : Int))) && (ip.2.2.2.2.1.2.2.1 == false))))) rfl rfl rfl) rfl rfl rfl ?_; clear hf fa; intro fa hf
              refine sqv hf (r_move rfl) rfl rfl rfl ?_; clear hf fa; intro fa hf
              refine sqgF (act := (!((decide (ip.2.2.2.1 ≠ (0 : Int))) || (!((decide (ip.2.2.2.2.1.1 = (0 : Int))) && ((decide (ip.2.2.2.2.1.2.1 = (0 : Int))) && (ip.2.2.2.2.1.2.2.1 == false))))))) (ag := true) (c := ((decide (ip.2.2.2.1 ≠ (0 : Int))) || (!((decide (ip.2.2.2.2.1.1 = (0 : Int))) && ((decide (ip.2.2.2.2.1.2.1 = (0 : Int))) && (ip.2.2.2.2.1.2.2.1 == false)))))) (v := (.pointer (some ⟨b2, 7, none⟩))) hf rfl rfl rfl (fun hact => (r_fa rfl Try.underlying81 (f := 5) (q := 7) rfl (by kernel_rfl) rfl)) rfl rfl ?_; clear hf fa; intro fa hf
              refine sqgF (act := (!((decide (ip.2.2.2.1 ≠ (0 : Int))) || (!((decide (ip.2.2.2.2.1.1 = (0 : Int))) && ((decide (ip.2.2.2.2.1.2.1 = (0 : Int))) && (ip.2.2.2.2.1.2.2.1 == false))))))) (ag := true) (c := ((decide (ip.2.2.2.1 ≠ (0 : Int))) || (!((decide (ip.2.2.2.2.1.1 = (0 : Int))) && ((decide (ip.2.2.2.2.1.2.1 = (0 : Int))) && (ip.2.2.2.2.1.2.2.1 == false)))))) (v := (.agg #[(.int .u8 (0 : Int)), (.bool false)])) hf rfl rfl rfl (fun hact => (r_loadA (cs := [(.int .u8 (0 : Int)), (.bool false)]) (gb_ev hact rfl) Try.underlying54 rfl (by kernel_rfl) (cellsAt_part (d := 7) (n := 2) (cellsAt_blk hk10) rfl rfl))) rfl rfl ?_; clear hf fa; intro fa hf
              refine sqgF (act := (!((decide (ip.2.2.2.1 ≠ (0 : Int))) || (!((decide (ip.2.2.2.2.1.1 = (0 : Int))) && ((decide (ip.2.2.2.2.1.2.1 = (0 : Int))) && (ip.2.2.2.2.1.2.2.1 == false))))))) (ag := true) (c := ((decide (ip.2.2.2.1 ≠ (0 : Int))) || (!((decide (ip.2.2.2.2.1.1 = (0 : Int))) && ((decide (ip.2.2.2.2.1.2.1 = (0 : Int))) && (ip.2.2.2.2.1.2.2.1 == false)))))) (v := (.agg #[(.int .u8 (0 : Int)), (.bool false)])) hf rfl rfl rfl (fun hact => (r_build (vs := []) (cs := #[(.int .u8 (0 : Int)), (.bool false)]) rfl (fun _ => by kernel_rfl))) rfl rfl ?_; clear hf fa; intro fa hf
              refine sqgF (act := (!((decide (ip.2.2.2.1 ≠ (0 : Int))) || (!((decide (ip.2.2.2.2.1.1 = (0 : Int))) && ((decide (ip.2.2.2.2.1.2.1 = (0 : Int))) && (ip.2.2.2.2.1.2.2.1 == false))))))) (ag := true) (c := ((decide (ip.2.2.2.1 ≠ (0 : Int))) || (!((decide (ip.2.2.2.2.1.1 = (0 : Int))) && ((decide (ip.2.2.2.2.1.2.1 = (0 : Int))) && (ip.2.2.2.2.1.2.2.1 == false)))))) (v := (.bool (!((decide ((0 : Int) = (0 : Int))) && (false == false))))) hf rfl rfl rfl (fun hact => (r_ane (k := 5) (gb_ev hact rfl) (gb_ev hact rfl) (by kernel_rfl) (eqt_struct (xs := #[(.int .u8 (0 : Int)), (.bool false)]) (ys := #[(.int .u8 (0 : Int)), (.bool false)]) Try.underlying54 (by kernel_rfl) (eqf_cons (by kernel_rfl) (fun _ => by kernel_rfl) (fun _ => by kernel_rfl) (eqt_int (kk := .u8) (a := (0 : Int)) (b := (0 : Int)) Try.underlying5) (eqf_one (by kernel_rfl) (fun _ => by kernel_rfl) (fun _ => by kernel_rfl) (eqt_bool (a := false) (b := false) Try.underlying4)))) rfl)) rfl rfl ?_; clear hf fa; intro fa hf
              refine sqv hf (r_pickO (b := ((decide (ip.2.2.2.1 ≠ (0 : Int))) || (!((decide (ip.2.2.2.2.1.1 = (0 : Int))) && ((decide (ip.2.2.2.2.1.2.1 = (0 : Int))) && (ip.2.2.2.2.1.2.2.1 == false)))))) (e := (!((decide ((0 : Int) = (0 : Int))) && (false == false)))) rfl rfl rfl) rfl rfl rfl ?_; clear hf fa; intro fa hf
              refine sqv hf (r_move rfl) rfl rfl rfl ?_; clear hf fa; intro fa hf
              refine sqgF (act := (!(((decide (ip.2.2.2.1 ≠ (0 : Int))) || (!((decide (ip.2.2.2.2.1.1 = (0 : Int))) && ((decide (ip.2.2.2.2.1.2.1 = (0 : Int))) && (ip.2.2.2.2.1.2.2.1 == false))))) || (!((decide ((0 : Int) = (0 : Int))) && (false == false)))))) (ag := true) (c := (((decide (ip.2.2.2.1 ≠ (0 : Int))) || (!((decide (ip.2.2.2.2.1.1 = (0 : Int))) && ((decide (ip.2.2.2.2.1.2.1 = (0 : Int))) && (ip.2.2.2.2.1.2.2.1 == false))))) || (!((decide ((0 : Int) = (0 : Int))) && (false == false))))) (v := (.pointer (some ⟨b1, 4, none⟩))) hf rfl rfl rfl (fun hact => (r_fa rfl Try.underlying81 (f := 4) (q := 4) rfl (by kernel_rfl) rfl)) rfl rfl ?_; clear hf fa; intro fa hf
              refine sqgF (act := (!(((decide (ip.2.2.2.1 ≠ (0 : Int))) || (!((decide (ip.2.2.2.2.1.1 = (0 : Int))) && ((decide (ip.2.2.2.2.1.2.1 = (0 : Int))) && (ip.2.2.2.2.1.2.2.1 == false))))) || (!((decide ((0 : Int) = (0 : Int))) && (false == false)))))) (ag := true) (c := (((decide (ip.2.2.2.1 ≠ (0 : Int))) || (!((decide (ip.2.2.2.2.1.1 = (0 : Int))) && ((decide (ip.2.2.2.2.1.2.1 = (0 : Int))) && (ip.2.2.2.2.1.2.2.1 == false))))) || (!((decide ((0 : Int) = (0 : Int))) && (false == false))))) (v := (.pointer (some ⟨b1, 6, none⟩))) hf rfl rfl rfl (fun hact => (r_fa (gb_ev hact rfl) Try.underlying43 (f := 2) (q := 6) rfl (by kernel_rfl) rfl)) rfl rfl ?_; clear hf fa; intro fa hf
              refine sqgF (act := (!(((decide (ip.2.2.2.1 ≠ (0 : Int))) || (!((decide (ip.2.2.2.2.1.1 = (0 : Int))) && ((decide (ip.2.2.2.2.1.2.1 = (0 : Int))) && (ip.2.2.2.2.1.2.2.1 == false))))) || (!((decide ((0 : Int) = (0 : Int))) && (false == false)))))) (ag := true) (c := (((decide (ip.2.2.2.1 ≠ (0 : Int))) || (!((decide (ip.2.2.2.2.1.1 = (0 : Int))) && ((decide (ip.2.2.2.2.1.2.1 = (0 : Int))) && (ip.2.2.2.2.1.2.2.1 == false))))) || (!((decide ((0 : Int) = (0 : Int))) && (false == false))))) (v := (.bool ip.2.2.2.2.1.2.2.1)) hf rfl rfl rfl (fun hact => (r_load (v := (.bool ip.2.2.2.2.1.2.2.1)) (gb_ev hact rfl) Try.underlying4 rfl (cell_blk hk1 rfl))) rfl rfl ?_; clear hf fa; intro fa hf
              refine sqgF (act := (!(((decide (ip.2.2.2.1 ≠ (0 : Int))) || (!((decide (ip.2.2.2.2.1.1 = (0 : Int))) && ((decide (ip.2.2.2.2.1.2.1 = (0 : Int))) && (ip.2.2.2.2.1.2.2.1 == false))))) || (!((decide ((0 : Int) = (0 : Int))) && (false == false)))))) (ag := true) (c := (((decide (ip.2.2.2.1 ≠ (0 : Int))) || (!((decide (ip.2.2.2.2.1.1 = (0 : Int))) && ((decide (ip.2.2.2.2.1.2.1 = (0 : Int))) && (ip.2.2.2.2.1.2.2.1 == false))))) || (!((decide ((0 : Int) = (0 : Int))) && (false == false))))) (v := (.bool (!ip.2.2.2.2.1.2.2.1))) hf rfl rfl rfl (fun hact => (r_not (gb_ev hact rfl))) rfl rfl ?_; clear hf fa; intro fa hf
              refine sqgF (act := (!(((decide (ip.2.2.2.1 ≠ (0 : Int))) || (!((decide (ip.2.2.2.2.1.1 = (0 : Int))) && ((decide (ip.2.2.2.2.1.2.1 = (0 : Int))) && (ip.2.2.2.2.1.2.2.1 == false))))) || (!((decide ((0 : Int) = (0 : Int))) && (false == false)))))) (ag := true) (c := (((decide (ip.2.2.2.1 ≠ (0 : Int))) || (!((decide (ip.2.2.2.2.1.1 = (0 : Int))) && ((decide (ip.2.2.2.2.1.2.1 = (0 : Int))) && (ip.2.2.2.2.1.2.2.1 == false))))) || (!((decide ((0 : Int) = (0 : Int))) && (false == false))))) (v := (.bool (!ip.2.2.2.2.1.2.2.1))) hf rfl rfl rfl (fun hact => (r_move (gb_ev hact rfl))) rfl rfl ?_; clear hf fa; intro fa hf
              refine sqgT (act := ((!(((decide (ip.2.2.2.1 ≠ (0 : Int))) || (!((decide (ip.2.2.2.2.1.1 = (0 : Int))) && ((decide (ip.2.2.2.2.1.2.1 = (0 : Int))) && (ip.2.2.2.2.1.2.2.1 == false))))) || (!((decide ((0 : Int) = (0 : Int))) && (false == false))))) && (!ip.2.2.2.2.1.2.2.1))) (ag := (!(((decide (ip.2.2.2.1 ≠ (0 : Int))) || (!((decide (ip.2.2.2.2.1.1 = (0 : Int))) && ((decide (ip.2.2.2.2.1.2.1 = (0 : Int))) && (ip.2.2.2.2.1.2.2.1 == false))))) || (!((decide ((0 : Int) = (0 : Int))) && (false == false)))))) (c := (!ip.2.2.2.2.1.2.2.1)) (v := (.pointer (some ⟨b1, 4, none⟩))) hf rfl rfl rfl (fun hact => (r_fa rfl Try.underlying81 (f := 4) (q := 4) rfl (by kernel_rfl) rfl)) rfl rfl ?_; clear hf fa; intro fa hf
              refine sqgT (act := ((!(((decide (ip.2.2.2.1 ≠ (0 : Int))) || (!((decide (ip.2.2.2.2.1.1 = (0 : Int))) && ((decide (ip.2.2.2.2.1.2.1 = (0 : Int))) && (ip.2.2.2.2.1.2.2.1 == false))))) || (!((decide ((0 : Int) = (0 : Int))) && (false == false))))) && (!ip.2.2.2.2.1.2.2.1))) (ag := (!(((decide (ip.2.2.2.1 ≠ (0 : Int))) || (!((decide (ip.2.2.2.2.1.1 = (0 : Int))) && ((decide (ip.2.2.2.2.1.2.1 = (0 : Int))) && (ip.2.2.2.2.1.2.2.1 == false))))) || (!((decide ((0 : Int) = (0 : Int))) && (false == false)))))) (c := (!ip.2.2.2.2.1.2.2.1)) (v := (.pointer (some ⟨b1, 5, none⟩))) hf rfl rfl rfl (fun hact => (r_fa (gb_ev hact rfl) Try.underlying43 (f := 1) (q := 5) rfl (by kernel_rfl) rfl)) rfl rfl ?_; clear hf fa; intro fa hf
              refine sqgT (act := ((!(((decide (ip.2.2.2.1 ≠ (0 : Int))) || (!((decide (ip.2.2.2.2.1.1 = (0 : Int))) && ((decide (ip.2.2.2.2.1.2.1 = (0 : Int))) && (ip.2.2.2.2.1.2.2.1 == false))))) || (!((decide ((0 : Int) = (0 : Int))) && (false == false))))) && (!ip.2.2.2.2.1.2.2.1))) (ag := (!(((decide (ip.2.2.2.1 ≠ (0 : Int))) || (!((decide (ip.2.2.2.2.1.1 = (0 : Int))) && ((decide (ip.2.2.2.2.1.2.1 = (0 : Int))) && (ip.2.2.2.2.1.2.2.1 == false))))) || (!((decide ((0 : Int) = (0 : Int))) && (false == false)))))) (c := (!ip.2.2.2.2.1.2.2.1)) (v := (.int .u32 ip.2.2.2.2.1.2.1)) hf rfl rfl rfl (fun hact => (r_load (v := (.int .u32 ip.2.2.2.2.1.2.1)) (gb_ev hact rfl) Try.underlying24 rfl (cell_blk hk1 rfl))) rfl rfl ?_; clear hf fa; intro fa hf
              refine sqgT (act := ((!(((decide (ip.2.2.2.1 ≠ (0 : Int))) || (!((decide (ip.2.2.2.2.1.1 = (0 : Int))) && ((decide (ip.2.2.2.2.1.2.1 = (0 : Int))) && (ip.2.2.2.2.1.2.2.1 == false))))) || (!((decide ((0 : Int) = (0 : Int))) && (false == false))))) && (!ip.2.2.2.2.1.2.2.1))) (ag := (!(((decide (ip.2.2.2.1 ≠ (0 : Int))) || (!((decide (ip.2.2.2.2.1.1 = (0 : Int))) && ((decide (ip.2.2.2.2.1.2.1 = (0 : Int))) && (ip.2.2.2.2.1.2.2.1 == false))))) || (!((decide ((0 : Int) = (0 : Int))) && (false == false)))))) (c := (!ip.2.2.2.2.1.2.2.1)) (v := (.bool (decide (ip.2.2.2.2.1.2.1 ≠ (0 : Int))))) hf rfl rfl rfl (fun hact => (r_ne (gb_ev hact rfl) rfl)) rfl rfl ?_; clear hf fa; intro fa hf
              refine sqgF (act := (!(((decide (ip.2.2.2.1 ≠ (0 : Int))) || (!((decide (ip.2.2.2.2.1.1 = (0 : Int))) && ((decide (ip.2.2.2.2.1.2.1 = (0 : Int))) && (ip.2.2.2.2.1.2.2.1 == false))))) || (!((decide ((0 : Int) = (0 : Int))) && (false == false)))))) (ag := true) (c := (((decide (ip.2.2.2.1 ≠ (0 : Int))) || (!((decide (ip.2.2.2.2.1.1 = (0 : Int))) && ((decide (ip.2.2.2.2.1.2.1 = (0 : Int))) && (ip.2.2.2.2.1.2.2.1 == false))))) || (!((decide ((0 : Int) = (0 : Int))) && (false == false))))) (v := (.bool ((!ip.2.2.2.2.1.2.2.1) && (decide (ip.2.2.2.2.1.2.1 ≠ (0 : Int)))))) hf rfl rfl rfl (fun hact => (r_pickA2 (q := (!(((decide (ip.2.2.2.1 ≠ (0 : Int))) || (!((decide (ip.2.2.2.2.1.1 = (0 : Int))) && ((decide (ip.2.2.2.2.1.2.1 = (0 : Int))) && (ip.2.2.2.2.1.2.2.1 == false))))) || (!((decide ((0 : Int) = (0 : Int))) && (false == false)))))) (b := (!ip.2.2.2.2.1.2.2.1)) (e := (decide (ip.2.2.2.2.1.2.1 ≠ (0 : Int)))) hact rfl rfl rfl)) rfl rfl ?_; clear hf fa; intro fa hf
              refine sqv hf (r_pickO (b := (((decide (ip.2.2.2.1 ≠ (0 : Int))) || (!((decide (ip.2.2.2.2.1.1 = (0 : Int))) && ((decide (ip.2.2.2.2.1.2.1 = (0 : Int))) && (ip.2.2.2.2.1.2.2.1 == false))))) || (!((decide ((0 : Int) = (0 : Int))) && (false == false))))) (e := ((!ip.2.2.2.2.1.2.2.1) && (decide (ip.2.2.2.2.1.2.1 ≠ (0 : Int))))) rfl rfl rfl) rfl rfl rfl ?_; clear hf fa; intro fa hf
              apply wpList_nil
              (try simp only [Exit.then, Exit.inBlock, ↓reduceIte, Nat.reduceEqDiff])
              refine hK65 _ _ ?_
              refine wp_cond_split (t := ((((decide (ip.2.2.2.1 ≠ (0 : Int))) || (!((decide (ip.2.2.2.2.1.1 = (0 : Int))) && ((decide (ip.2.2.2.2.1.2.1 = (0 : Int))) && (ip.2.2.2.2.1.2.2.1 == false))))) || (!((decide ((0 : Int) = (0 : Int))) && (false == false)))) || ((!ip.2.2.2.2.1.2.2.1) && (decide (ip.2.2.2.2.1.2.1 ≠ (0 : Int)))))) (hf.ev rfl) (fun hqt79_7 => ?_) (fun hqt79_7 => ?_)
              · have hqt79_7b := hqt79_7
                try simp only [decide_eq_true_eq, Bool.and_eq_true, Bool.or_eq_true, Bool.not_eq_true', decide_eq_false_iff_not, ne_eq, Bool.not_eq_true] at hqt79_7
                refine wp_seq_k (fun K66 hK66 => ?_)
                refine wp_region_lit ?_
                refine sqv hf (r_assign rfl) rfl rfl rfl ?_; clear hf fa; intro fa hf
                apply wpList_nil
                (try simp only [Exit.then, Exit.inBlock, ↓reduceIte, Nat.reduceEqDiff])
                refine hK66 _ _ ?_
                refine wp_ret ?_
                (try simp only [Exit.then, Exit.inBlock])
                refine ret1 hf rfl rfl ?_
                refine ⟨?_, hb⟩; unfold irrP; rw [hqt10_1b, hqt16_1b, hqt20_1b, hqt36_1b, hqt45_2b, hqt50_4b, hqt79_7b]; (try rfl)
              · have hqt79_7b := hqt79_7
                replace hqt79_7 := Bool.eq_false_iff.1 hqt79_7
                try simp only [ne_eq, decide_eq_true_eq, Bool.and_eq_true, Bool.or_eq_true, Bool.not_eq_true', decide_eq_false_iff_not] at hqt79_7
                refine wp_skip ?_
                (try simp only [Exit.then, Exit.inBlock, ↓reduceIte, Nat.reduceEqDiff])
                refine hK64 _ _ ?_
                refine wp_seq_k (fun K67 hK67 => ?_)
                refine wp_seq_k (fun K68 hK68 => ?_)
                refine wp_region_lit ?_
                refine sqv hf (r_fa rfl Try.underlying81 (f := 2) (q := 2) rfl (by kernel_rfl) rfl) rfl rfl rfl ?_; clear hf fa; intro fa hf
                refine sqv hf (r_load (v := (.int .u8 ip.2.2.1)) rfl Try.underlying5 rfl (cell_blk hk1 rfl)) rfl rfl rfl ?_; clear hf fa; intro fa hf
                refine sqv hf (r_eq rfl rfl) rfl rfl rfl ?_; clear hf fa; intro fa hf
                apply wpList_nil
                (try simp only [Exit.then, Exit.inBlock, ↓reduceIte, Nat.reduceEqDiff])
                refine hK68 _ _ ?_
                refine wp_cond_true ((hf.ev rfl).trans (congrArg Value.bool (show (decide (ip.2.2.1 = (3 : Int))) = true from hqt50_4b))) ?_
                refine wp_seq_k (fun K69 hK69 => ?_)
                refine wp_region_lit ?_
                refine sqv hf (r_fa rfl Try.underlying81 (f := 5) (q := 7) rfl (by kernel_rfl) rfl) rfl rfl rfl ?_; clear hf fa; intro fa hf
                refine sqv hf (r_fa rfl Try.underlying54 (f := 0) (q := 7) rfl (by kernel_rfl) rfl) rfl rfl rfl ?_; clear hf fa; intro fa hf
                refine sqv hf (r_load (v := (.int .u8 ip.2.2.2.2.2.1.1)) rfl Try.underlying5 rfl (cell_blk hk1 rfl)) rfl rfl rfl ?_; clear hf fa; intro fa hf
                refine sqv hf (r_conv (C := ip.2.2.2.2.2.1.1) rfl Try.underlying5 Try.underlying3 (by rw [IntKind.wrap_i64]; omega)) rfl rfl rfl ?_; clear hf fa; intro fa hf
                refine sqdt hf (d_callS (vs := [(.int .i64 ip.2.2.2.2.2.1.1)]) rfl Try.func35 (by kernel_rfl) (by kernel_rfl) (rval2_any ip.2.2.2.2.2.1.1 _)) rfl rfl rfl ?_; clear hf fa; rintro fa _ _ ⟨rfl, rfl⟩ hf
                refine sqv hf (r_assign rfl) rfl rfl rfl ?_; clear hf fa; intro fa hf
                apply wpList_nil
                (try simp only [Exit.then, Exit.inBlock, ↓reduceIte, Nat.reduceEqDiff])
                refine hK69 _ _ ?_
                refine wp_ret ?_
                (try simp only [Exit.then, Exit.inBlock])
                refine ret1 hf rfl rfl ?_
                refine ⟨?_, hb⟩; unfold irrP; rw [hqt10_1b, hqt16_1b, hqt20_1b, hqt36_1b, hqt45_2b, hqt50_4b, hqt79_7b]; (try rfl)
            · have hqt50_4b := hqt50_4
              replace hqt50_4 := Bool.eq_false_iff.1 hqt50_4
              try simp only [ne_eq, decide_eq_true_eq, Bool.and_eq_true, Bool.or_eq_true, Bool.not_eq_true', decide_eq_false_iff_not] at hqt50_4
              refine wp_skip ?_
              (try simp only [Exit.then, Exit.inBlock, ↓reduceIte, Nat.reduceEqDiff])
              refine hK62 _ _ ?_
              refine wp_seq_k (fun K70 hK70 => ?_)
              refine wp_seq_k (fun K71 hK71 => ?_)
              refine wp_region_lit ?_
              refine sqv hf (r_fa rfl Try.underlying81 (f := 3) (q := 3) rfl (by kernel_rfl) rfl) rfl rfl rfl ?_; clear hf fa; intro fa hf
              refine sqv hf (r_load (v := (.int .u32 ip.2.2.2.1)) rfl Try.underlying24 rfl (cell_blk hk3 rfl)) rfl rfl rfl ?_; clear hf fa; intro fa hf
              refine sqv hf (r_ne rfl rfl) rfl rfl rfl ?_; clear hf fa; intro fa hf
              refine sqv hf (r_move rfl) rfl rfl rfl ?_; clear hf fa; intro fa hf
              refine sqgF (act := (!(decide (ip.2.2.2.1 ≠ (0 : Int))))) (ag := true) (c := (decide (ip.2.2.2.1 ≠ (0 : Int)))) (v := (.pointer (some ⟨b2, 4, none⟩))) hf rfl rfl rfl (fun hact => (r_fa rfl Try.underlying81 (f := 4) (q := 4) rfl (by kernel_rfl) rfl)) rfl rfl ?_; clear hf fa; intro fa hf
              refine sqgF (act := (!(decide (ip.2.2.2.1 ≠ (0 : Int))))) (ag := true) (c := (decide (ip.2.2.2.1 ≠ (0 : Int)))) (v := (.agg #[(.int .u32 ip.2.2.2.2.1.1), (.int .u32 ip.2.2.2.2.1.2.1), (.bool ip.2.2.2.2.1.2.2.1)])) hf rfl rfl rfl (fun hact => (r_loadA (cs := [(.int .u32 ip.2.2.2.2.1.1), (.int .u32 ip.2.2.2.2.1.2.1), (.bool ip.2.2.2.2.1.2.2.1)]) (gb_ev hact rfl) Try.underlying43 rfl (by kernel_rfl) (cellsAt_part (d := 4) (n := 3) (cellsAt_blk hk3) rfl rfl))) rfl rfl ?_; clear hf fa; intro fa hf
              refine sqgF (act := (!(decide (ip.2.2.2.1 ≠ (0 : Int))))) (ag := true) (c := (decide (ip.2.2.2.1 ≠ (0 : Int)))) (v := (.agg #[(.int .u32 (0 : Int)), (.int .u32 (0 : Int)), (.bool false)])) hf rfl rfl rfl (fun hact => (r_build (vs := []) (cs := #[(.int .u32 (0 : Int)), (.int .u32 (0 : Int)), (.bool false)]) rfl (fun _ => by kernel_rfl))) rfl rfl ?_; clear hf fa; intro fa hf
              refine sqgF (act := (!(decide (ip.2.2.2.1 ≠ (0 : Int))))) (ag := true) (c := (decide (ip.2.2.2.1 ≠ (0 : Int)))) (v := (.bool (!((decide (ip.2.2.2.2.1.1 = (0 : Int))) && ((decide (ip.2.2.2.2.1.2.1 = (0 : Int))) && (ip.2.2.2.2.1.2.2.1 == false)))))) hf rfl rfl rfl (fun hact => (r_ane (k := 5) (gb_ev hact rfl) (gb_ev hact rfl) (by kernel_rfl) (eqt_struct (xs := #[(.int .u32 ip.2.2.2.2.1.1), (.int .u32 ip.2.2.2.2.1.2.1), (.bool ip.2.2.2.2.1.2.2.1)]) (ys := #[(.int .u32 (0 : Int)), (.int .u32 (0 : Int)), (.bool false)]) Try.underlying43 (by kernel_rfl) (eqf_cons (by kernel_rfl) (fun _ => by kernel_rfl) (fun _ => by kernel_rfl) (eqt_int (kk := .u32) (a := ip.2.2.2.2.1.1) (b := (0 : Int)) Try.underlying24) (eqf_cons (by kernel_rfl) (fun _ => by kernel_rfl) (fun _ => by kernel_rfl) (eqt_int (kk := .u32) (a := ip.2.2.2.2.1.2.1) (b := (0 : Int)) Try.underlying24) (eqf_one (by kernel_rfl) (fun _ => by kernel_rfl) (fun _ => by kernel_rfl) (eqt_bool (a := ip.2.2.2.2.1.2.2.1) (b := false) Try.underlying4))))) rfl)) rfl rfl ?_; clear hf fa; intro fa hf
              refine sqv hf (r_pickO (b := (decide (ip.2.2.2.1 ≠ (0 : Int)))) (e := (!((decide (ip.2.2.2.2.1.1 = (0 : Int))) && ((decide (ip.2.2.2.2.1.2.1 = (0 : Int))) && (ip.2.2.2.2.1.2.2.1 == false))))) rfl rfl rfl) rfl rfl rfl ?_; clear hf fa; intro fa hf
              refine sqv hf (r_move rfl) rfl rfl rfl ?_; clear hf fa; intro fa hf
              refine sqgF (act := (!((decide (ip.2.2.2.1 ≠ (0 : Int))) || (!((decide (ip.2.2.2.2.1.1 = (0 : Int))) && ((decide (ip.2.2.2.2.1.2.1 = (0 : Int))) && (ip.2.2.2.2.1.2.2.1 == false))))))) (ag := true) (c := ((decide (ip.2.2.2.1 ≠ (0 : Int))) || (!((decide (ip.2.2.2.2.1.1 = (0 : Int))) && ((decide (ip.2.2.2.2.1.2.1 = (0 : Int))) && (ip.2.2.2.2.1.2.2.1 == false)))))) (v := (.pointer (some ⟨b2, 7, none⟩))) hf rfl rfl rfl (fun hact => (r_fa rfl Try.underlying81 (f := 5) (q := 7) rfl (by kernel_rfl) rfl)) rfl rfl ?_; clear hf fa; intro fa hf
              refine sqgF (act := (!((decide (ip.2.2.2.1 ≠ (0 : Int))) || (!((decide (ip.2.2.2.2.1.1 = (0 : Int))) && ((decide (ip.2.2.2.2.1.2.1 = (0 : Int))) && (ip.2.2.2.2.1.2.2.1 == false))))))) (ag := true) (c := ((decide (ip.2.2.2.1 ≠ (0 : Int))) || (!((decide (ip.2.2.2.2.1.1 = (0 : Int))) && ((decide (ip.2.2.2.2.1.2.1 = (0 : Int))) && (ip.2.2.2.2.1.2.2.1 == false)))))) (v := (.agg #[(.int .u8 ip.2.2.2.2.2.1.1), (.bool ip.2.2.2.2.2.1.2.1)])) hf rfl rfl rfl (fun hact => (r_loadA (cs := [(.int .u8 ip.2.2.2.2.2.1.1), (.bool ip.2.2.2.2.2.1.2.1)]) (gb_ev hact rfl) Try.underlying54 rfl (by kernel_rfl) (cellsAt_part (d := 7) (n := 2) (cellsAt_blk hk3) rfl rfl))) rfl rfl ?_; clear hf fa; intro fa hf
              refine sqgF (act := (!((decide (ip.2.2.2.1 ≠ (0 : Int))) || (!((decide (ip.2.2.2.2.1.1 = (0 : Int))) && ((decide (ip.2.2.2.2.1.2.1 = (0 : Int))) && (ip.2.2.2.2.1.2.2.1 == false))))))) (ag := true) (c := ((decide (ip.2.2.2.1 ≠ (0 : Int))) || (!((decide (ip.2.2.2.2.1.1 = (0 : Int))) && ((decide (ip.2.2.2.2.1.2.1 = (0 : Int))) && (ip.2.2.2.2.1.2.2.1 == false)))))) (v := (.agg #[(.int .u8 (0 : Int)), (.bool false)])) hf rfl rfl rfl (fun hact => (r_build (vs := []) (cs := #[(.int .u8 (0 : Int)), (.bool false)]) rfl (fun _ => by kernel_rfl))) rfl rfl ?_; clear hf fa; intro fa hf
              refine sqgF (act := (!((decide (ip.2.2.2.1 ≠ (0 : Int))) || (!((decide (ip.2.2.2.2.1.1 = (0 : Int))) && ((decide (ip.2.2.2.2.1.2.1 = (0 : Int))) && (ip.2.2.2.2.1.2.2.1 == false))))))) (ag := true) (c := ((decide (ip.2.2.2.1 ≠ (0 : Int))) || (!((decide (ip.2.2.2.2.1.1 = (0 : Int))) && ((decide (ip.2.2.2.2.1.2.1 = (0 : Int))) && (ip.2.2.2.2.1.2.2.1 == false)))))) (v := (.bool (!((decide (ip.2.2.2.2.2.1.1 = (0 : Int))) && (ip.2.2.2.2.2.1.2.1 == false))))) hf rfl rfl rfl (fun hact => (r_ane (k := 5) (gb_ev hact rfl) (gb_ev hact rfl) (by kernel_rfl) (eqt_struct (xs := #[(.int .u8 ip.2.2.2.2.2.1.1), (.bool ip.2.2.2.2.2.1.2.1)]) (ys := #[(.int .u8 (0 : Int)), (.bool false)]) Try.underlying54 (by kernel_rfl) (eqf_cons (by kernel_rfl) (fun _ => by kernel_rfl) (fun _ => by kernel_rfl) (eqt_int (kk := .u8) (a := ip.2.2.2.2.2.1.1) (b := (0 : Int)) Try.underlying5) (eqf_one (by kernel_rfl) (fun _ => by kernel_rfl) (fun _ => by kernel_rfl) (eqt_bool (a := ip.2.2.2.2.2.1.2.1) (b := false) Try.underlying4)))) rfl)) rfl rfl ?_; clear hf fa; intro fa hf
              refine sqv hf (r_pickO (b := ((decide (ip.2.2.2.1 ≠ (0 : Int))) || (!((decide (ip.2.2.2.2.1.1 = (0 : Int))) && ((decide (ip.2.2.2.2.1.2.1 = (0 : Int))) && (ip.2.2.2.2.1.2.2.1 == false)))))) (e := (!((decide (ip.2.2.2.2.2.1.1 = (0 : Int))) && (ip.2.2.2.2.2.1.2.1 == false)))) rfl rfl rfl) rfl rfl rfl ?_; clear hf fa; intro fa hf
              refine sqv hf (r_move rfl) rfl rfl rfl ?_; clear hf fa; intro fa hf
              refine sqgF (act := (!(((decide (ip.2.2.2.1 ≠ (0 : Int))) || (!((decide (ip.2.2.2.2.1.1 = (0 : Int))) && ((decide (ip.2.2.2.2.1.2.1 = (0 : Int))) && (ip.2.2.2.2.1.2.2.1 == false))))) || (!((decide (ip.2.2.2.2.2.1.1 = (0 : Int))) && (ip.2.2.2.2.2.1.2.1 == false)))))) (ag := true) (c := (((decide (ip.2.2.2.1 ≠ (0 : Int))) || (!((decide (ip.2.2.2.2.1.1 = (0 : Int))) && ((decide (ip.2.2.2.2.1.2.1 = (0 : Int))) && (ip.2.2.2.2.1.2.2.1 == false))))) || (!((decide (ip.2.2.2.2.2.1.1 = (0 : Int))) && (ip.2.2.2.2.2.1.2.1 == false))))) (v := (.pointer (some ⟨b1, 4, none⟩))) hf rfl rfl rfl (fun hact => (r_fa rfl Try.underlying81 (f := 4) (q := 4) rfl (by kernel_rfl) rfl)) rfl rfl ?_; clear hf fa; intro fa hf
              refine sqgF (act := (!(((decide (ip.2.2.2.1 ≠ (0 : Int))) || (!((decide (ip.2.2.2.2.1.1 = (0 : Int))) && ((decide (ip.2.2.2.2.1.2.1 = (0 : Int))) && (ip.2.2.2.2.1.2.2.1 == false))))) || (!((decide (ip.2.2.2.2.2.1.1 = (0 : Int))) && (ip.2.2.2.2.2.1.2.1 == false)))))) (ag := true) (c := (((decide (ip.2.2.2.1 ≠ (0 : Int))) || (!((decide (ip.2.2.2.2.1.1 = (0 : Int))) && ((decide (ip.2.2.2.2.1.2.1 = (0 : Int))) && (ip.2.2.2.2.1.2.2.1 == false))))) || (!((decide (ip.2.2.2.2.2.1.1 = (0 : Int))) && (ip.2.2.2.2.2.1.2.1 == false))))) (v := (.pointer (some ⟨b1, 6, none⟩))) hf rfl rfl rfl (fun hact => (r_fa (gb_ev hact rfl) Try.underlying43 (f := 2) (q := 6) rfl (by kernel_rfl) rfl)) rfl rfl ?_; clear hf fa; intro fa hf
              refine sqgF (act := (!(((decide (ip.2.2.2.1 ≠ (0 : Int))) || (!((decide (ip.2.2.2.2.1.1 = (0 : Int))) && ((decide (ip.2.2.2.2.1.2.1 = (0 : Int))) && (ip.2.2.2.2.1.2.2.1 == false))))) || (!((decide (ip.2.2.2.2.2.1.1 = (0 : Int))) && (ip.2.2.2.2.2.1.2.1 == false)))))) (ag := true) (c := (((decide (ip.2.2.2.1 ≠ (0 : Int))) || (!((decide (ip.2.2.2.2.1.1 = (0 : Int))) && ((decide (ip.2.2.2.2.1.2.1 = (0 : Int))) && (ip.2.2.2.2.1.2.2.1 == false))))) || (!((decide (ip.2.2.2.2.2.1.1 = (0 : Int))) && (ip.2.2.2.2.2.1.2.1 == false))))) (v := (.bool ip.2.2.2.2.1.2.2.1)) hf rfl rfl rfl (fun hact => (r_load (v := (.bool ip.2.2.2.2.1.2.2.1)) (gb_ev hact rfl) Try.underlying4 rfl (cell_blk hk1 rfl))) rfl rfl ?_; clear hf fa; intro fa hf
              refine sqgF (act := (!(((decide (ip.2.2.2.1 ≠ (0 : Int))) || (!((decide (ip.2.2.2.2.1.1 = (0 : Int))) && ((decide (ip.2.2.2.2.1.2.1 = (0 : Int))) && (ip.2.2.2.2.1.2.2.1 == false))))) || (!((decide (ip.2.2.2.2.2.1.1 = (0 : Int))) && (ip.2.2.2.2.2.1.2.1 == false)))))) (ag := true) (c := (((decide (ip.2.2.2.1 ≠ (0 : Int))) || (!((decide (ip.2.2.2.2.1.1 = (0 : Int))) && ((decide (ip.2.2.2.2.1.2.1 = (0 : Int))) && (ip.2.2.2.2.1.2.2.1 == false))))) || (!((decide (ip.2.2.2.2.2.1.1 = (0 : Int))) && (ip.2.2.2.2.2.1.2.1 == false))))) (v := (.bool (!ip.2.2.2.2.1.2.2.1))) hf rfl rfl rfl (fun hact => (r_not (gb_ev hact rfl))) rfl rfl ?_; clear hf fa; intro fa hf
              refine sqgF (act := (!(((decide (ip.2.2.2.1 ≠ (0 : Int))) || (!((decide (ip.2.2.2.2.1.1 = (0 : Int))) && ((decide (ip.2.2.2.2.1.2.1 = (0 : Int))) && (ip.2.2.2.2.1.2.2.1 == false))))) || (!((decide (ip.2.2.2.2.2.1.1 = (0 : Int))) && (ip.2.2.2.2.2.1.2.1 == false)))))) (ag := true) (c := (((decide (ip.2.2.2.1 ≠ (0 : Int))) || (!((decide (ip.2.2.2.2.1.1 = (0 : Int))) && ((decide (ip.2.2.2.2.1.2.1 = (0 : Int))) && (ip.2.2.2.2.1.2.2.1 == false))))) || (!((decide (ip.2.2.2.2.2.1.1 = (0 : Int))) && (ip.2.2.2.2.2.1.2.1 == false))))) (v := (.bool (!ip.2.2.2.2.1.2.2.1))) hf rfl rfl rfl (fun hact => (r_move (gb_ev hact rfl))) rfl rfl ?_; clear hf fa; intro fa hf
              refine sqgT (act := ((!(((decide (ip.2.2.2.1 ≠ (0 : Int))) || (!((decide (ip.2.2.2.2.1.1 = (0 : Int))) && ((decide (ip.2.2.2.2.1.2.1 = (0 : Int))) && (ip.2.2.2.2.1.2.2.1 == false))))) || (!((decide (ip.2.2.2.2.2.1.1 = (0 : Int))) && (ip.2.2.2.2.2.1.2.1 == false))))) && (!ip.2.2.2.2.1.2.2.1))) (ag := (!(((decide (ip.2.2.2.1 ≠ (0 : Int))) || (!((decide (ip.2.2.2.2.1.1 = (0 : Int))) && ((decide (ip.2.2.2.2.1.2.1 = (0 : Int))) && (ip.2.2.2.2.1.2.2.1 == false))))) || (!((decide (ip.2.2.2.2.2.1.1 = (0 : Int))) && (ip.2.2.2.2.2.1.2.1 == false)))))) (c := (!ip.2.2.2.2.1.2.2.1)) (v := (.pointer (some ⟨b1, 4, none⟩))) hf rfl rfl rfl (fun hact => (r_fa rfl Try.underlying81 (f := 4) (q := 4) rfl (by kernel_rfl) rfl)) rfl rfl ?_; clear hf fa; intro fa hf
              refine sqgT (act := ((!(((decide (ip.2.2.2.1 ≠ (0 : Int))) || (!((decide (ip.2.2.2.2.1.1 = (0 : Int))) && ((decide (ip.2.2.2.2.1.2.1 = (0 : Int))) && (ip.2.2.2.2.1.2.2.1 == false))))) || (!((decide (ip.2.2.2.2.2.1.1 = (0 : Int))) && (ip.2.2.2.2.2.1.2.1 == false))))) && (!ip.2.2.2.2.1.2.2.1))) (ag := (!(((decide (ip.2.2.2.1 ≠ (0 : Int))) || (!((decide (ip.2.2.2.2.1.1 = (0 : Int))) && ((decide (ip.2.2.2.2.1.2.1 = (0 : Int))) && (ip.2.2.2.2.1.2.2.1 == false))))) || (!((decide (ip.2.2.2.2.2.1.1 = (0 : Int))) && (ip.2.2.2.2.2.1.2.1 == false)))))) (c := (!ip.2.2.2.2.1.2.2.1)) (v := (.pointer (some ⟨b1, 5, none⟩))) hf rfl rfl rfl (fun hact => (r_fa (gb_ev hact rfl) Try.underlying43 (f := 1) (q := 5) rfl (by kernel_rfl) rfl)) rfl rfl ?_; clear hf fa; intro fa hf
              refine sqgT (act := ((!(((decide (ip.2.2.2.1 ≠ (0 : Int))) || (!((decide (ip.2.2.2.2.1.1 = (0 : Int))) && ((decide (ip.2.2.2.2.1.2.1 = (0 : Int))) && (ip.2.2.2.2.1.2.2.1 == false))))) || (!((decide (ip.2.2.2.2.2.1.1 = (0 : Int))) && (ip.2.2.2.2.2.1.2.1 == false))))) && (!ip.2.2.2.2.1.2.2.1))) (ag := (!(((decide (ip.2.2.2.1 ≠ (0 : Int))) || (!((decide (ip.2.2.2.2.1.1 = (0 : Int))) && ((decide (ip.2.2.2.2.1.2.1 = (0 : Int))) && (ip.2.2.2.2.1.2.2.1 == false))))) || (!((decide (ip.2.2.2.2.2.1.1 = (0 : Int))) && (ip.2.2.2.2.2.1.2.1 == false)))))) (c := (!ip.2.2.2.2.1.2.2.1)) (v := (.int .u32 ip.2.2.2.2.1.2.1)) hf rfl rfl rfl (fun hact => (r_load (v := (.int .u32 ip.2.2.2.2.1.2.1)) (gb_ev hact rfl) Try.underlying24 rfl (cell_blk hk1 rfl))) rfl rfl ?_; clear hf fa; intro fa hf
              refine sqgT (act := ((!(((decide (ip.2.2.2.1 ≠ (0 : Int))) || (!((decide (ip.2.2.2.2.1.1 = (0 : Int))) && ((decide (ip.2.2.2.2.1.2.1 = (0 : Int))) && (ip.2.2.2.2.1.2.2.1 == false))))) || (!((decide (ip.2.2.2.2.2.1.1 = (0 : Int))) && (ip.2.2.2.2.2.1.2.1 == false))))) && (!ip.2.2.2.2.1.2.2.1))) (ag := (!(((decide (ip.2.2.2.1 ≠ (0 : Int))) || (!((decide (ip.2.2.2.2.1.1 = (0 : Int))) && ((decide (ip.2.2.2.2.1.2.1 = (0 : Int))) && (ip.2.2.2.2.1.2.2.1 == false))))) || (!((decide (ip.2.2.2.2.2.1.1 = (0 : Int))) && (ip.2.2.2.2.2.1.2.1 == false)))))) (c := (!ip.2.2.2.2.1.2.2.1)) (v := (.bool (decide (ip.2.2.2.2.1.2.1 ≠ (0 : Int))))) hf rfl rfl rfl (fun hact => (r_ne (gb_ev hact rfl) rfl)) rfl rfl ?_; clear hf fa; intro fa hf
              refine sqgF (act := (!(((decide (ip.2.2.2.1 ≠ (0 : Int))) || (!((decide (ip.2.2.2.2.1.1 = (0 : Int))) && ((decide (ip.2.2.2.2.1.2.1 = (0 : Int))) && (ip.2.2.2.2.1.2.2.1 == false))))) || (!((decide (ip.2.2.2.2.2.1.1 = (0 : Int))) && (ip.2.2.2.2.2.1.2.1 == false)))))) (ag := true) (c := (((decide (ip.2.2.2.1 ≠ (0 : Int))) || (!((decide (ip.2.2.2.2.1.1 = (0 : Int))) && ((decide (ip.2.2.2.2.1.2.1 = (0 : Int))) && (ip.2.2.2.2.1.2.2.1 == false))))) || (!((decide (ip.2.2.2.2.2.1.1 = (0 : Int))) && (ip.2.2.2.2.2.1.2.1 == false))))) (v := (.bool ((!ip.2.2.2.2.1.2.2.1) && (decide (ip.2.2.2.2.1.2.1 ≠ (0 : Int)))))) hf rfl rfl rfl (fun hact => (r_pickA2 (q := (!(((decide (ip.2.2.2.1 ≠ (0 : Int))) || (!((decide (ip.2.2.2.2.1.1 = (0 : Int))) && ((decide (ip.2.2.2.2.1.2.1 = (0 : Int))) && (ip.2.2.2.2.1.2.2.1 == false))))) || (!((decide (ip.2.2.2.2.2.1.1 = (0 : Int))) && (ip.2.2.2.2.2.1.2.1 == false)))))) (b := (!ip.2.2.2.2.1.2.2.1)) (e := (decide (ip.2.2.2.2.1.2.1 ≠ (0 : Int)))) hact rfl rfl rfl)) rfl rfl ?_; clear hf fa; intro fa hf
              refine sqv hf (r_pickO (b := (((decide (ip.2.2.2.1 ≠ (0 : Int))) || (!((decide (ip.2.2.2.2.1.1 = (0 : Int))) && ((decide (ip.2.2.2.2.1.2.1 = (0 : Int))) && (ip.2.2.2.2.1.2.2.1 == false))))) || (!((decide (ip.2.2.2.2.2.1.1 = (0 : Int))) && (ip.2.2.2.2.2.1.2.1 == false))))) (e := ((!ip.2.2.2.2.1.2.2.1) && (decide (ip.2.2.2.2.1.2.1 ≠ (0 : Int))))) rfl rfl rfl) rfl rfl rfl ?_; clear hf fa; intro fa hf
              apply wpList_nil
              (try simp only [Exit.then, Exit.inBlock, ↓reduceIte, Nat.reduceEqDiff])
              refine hK71 _ _ ?_
              refine wp_cond_split (t := ((((decide (ip.2.2.2.1 ≠ (0 : Int))) || (!((decide (ip.2.2.2.2.1.1 = (0 : Int))) && ((decide (ip.2.2.2.2.1.2.1 = (0 : Int))) && (ip.2.2.2.2.1.2.2.1 == false))))) || (!((decide (ip.2.2.2.2.2.1.1 = (0 : Int))) && (ip.2.2.2.2.2.1.2.1 == false)))) || ((!ip.2.2.2.2.1.2.2.1) && (decide (ip.2.2.2.2.1.2.1 ≠ (0 : Int)))))) (hf.ev rfl) (fun hqt79_8 => ?_) (fun hqt79_8 => ?_)
              · have hqt79_8b := hqt79_8
                try simp only [decide_eq_true_eq, Bool.and_eq_true, Bool.or_eq_true, Bool.not_eq_true', decide_eq_false_iff_not, ne_eq, Bool.not_eq_true] at hqt79_8
                refine wp_seq_k (fun K72 hK72 => ?_)
                refine wp_region_lit ?_
                refine sqv hf (r_assign rfl) rfl rfl rfl ?_; clear hf fa; intro fa hf
                apply wpList_nil
                (try simp only [Exit.then, Exit.inBlock, ↓reduceIte, Nat.reduceEqDiff])
                refine hK72 _ _ ?_
                refine wp_ret ?_
                (try simp only [Exit.then, Exit.inBlock])
                refine ret1 hf rfl rfl ?_
                refine ⟨?_, hb⟩; unfold irrP; rw [hqt10_1b, hqt16_1b, hqt20_1b, hqt36_1b, hqt45_2b, hqt50_4b, hqt79_8b]; (try rfl)
              · have hqt79_8b := hqt79_8
                replace hqt79_8 := Bool.eq_false_iff.1 hqt79_8
                try simp only [ne_eq, decide_eq_true_eq, Bool.and_eq_true, Bool.or_eq_true, Bool.not_eq_true', decide_eq_false_iff_not] at hqt79_8
                refine wp_skip ?_
                (try simp only [Exit.then, Exit.inBlock, ↓reduceIte, Nat.reduceEqDiff])
                refine hK70 _ _ ?_
                refine wp_seq_k (fun K73 hK73 => ?_)
                refine wp_seq_k (fun K74 hK74 => ?_)
                refine wp_region_lit ?_
                refine sqv hf (r_fa rfl Try.underlying81 (f := 2) (q := 2) rfl (by kernel_rfl) rfl) rfl rfl rfl ?_; clear hf fa; intro fa hf
                refine sqv hf (r_load (v := (.int .u8 ip.2.2.1)) rfl Try.underlying5 rfl (cell_blk hk1 rfl)) rfl rfl rfl ?_; clear hf fa; intro fa hf
                refine sqv hf (r_eq rfl rfl) rfl rfl rfl ?_; clear hf fa; intro fa hf
                apply wpList_nil
                (try simp only [Exit.then, Exit.inBlock, ↓reduceIte, Nat.reduceEqDiff])
                refine hK74 _ _ ?_
                refine wp_cond_false ((hf.ev rfl).trans (congrArg Value.bool (show (decide (ip.2.2.1 = (3 : Int))) = false from hqt50_4b))) ?_
                refine wp_skip ?_
                (try simp only [Exit.then, Exit.inBlock, ↓reduceIte, Nat.reduceEqDiff])
                refine hK73 _ _ ?_
                refine wp_seq_k (fun K75 hK75 => ?_)
                refine wp_region_lit ?_
                refine sqv hf (r_assign rfl) rfl rfl rfl ?_; clear hf fa; intro fa hf
                apply wpList_nil
                (try simp only [Exit.then, Exit.inBlock, ↓reduceIte, Nat.reduceEqDiff])
                refine hK75 _ _ ?_
                refine wp_ret ?_
                (try simp only [Exit.then, Exit.inBlock])
                refine ret1 hf rfl rfl ?_
                refine ⟨?_, hb⟩; unfold irrP; rw [hqt10_1b, hqt16_1b, hqt20_1b, hqt36_1b, hqt45_2b, hqt50_4b, hqt79_8b]; (try rfl)

theorem irr_eq (ip : MImp) (hk0 : 0 ≤ ip.2.2.1) : irrP ip = irightP ip := by
  obtain ⟨md, nm, kd, ty, ⟨l1, l2, l3, _⟩, ⟨g1, g2, _⟩, _⟩ := ip
  unfold irrP irightP
  dsimp only at hk0 ⊢
  have e1 : ((0 : Int) = l1) = (l1 = 0) := propext eq_comm
  have e2 : ((0 : Int) = l2) = (l2 = 0) := propext eq_comm
  have e3 : ((0 : Int) = g1) = (g1 = 0) := propext eq_comm
  have e4 : ((0 : Int) = ty) = (ty = 0) := propext eq_comm
  simp only [e1, e2, e3, e4]
  have hk : kd = 0 ∨ kd = 1 ∨ kd = 2 ∨ kd = 3 ∨ (kd ≠ 0 ∧ kd ≠ 1 ∧ kd ≠ 2 ∧ kd ≠ 3 ∧ 3 < kd) := by omega
  clear hk0
  rcases hk with rfl | rfl | rfl | rfl | ⟨k0, k1, k2, k3, k4⟩
  all_goals (by_cases t1 : l1 = 0 <;> by_cases t2 : l2 = 0 <;> by_cases t3 : g1 = 0 <;> by_cases t4 : ty = 0 <;> cases l3 <;> cases g2 <;> simp [*])
theorem irr2_any (ip : MImp) (w : World) (hs1 : ip.1.size ≤ 400) (hs2 : ip.2.1.size ≤ 400) (hg5 : 0 ≤ ip.2.2.2.2.2.1.1 ∧ ip.2.2.2.2.2.1.1 < 256) (hk0 : 0 ≤ ip.2.2.1) : Calls Try.prog 96 #[(.agg #[(.string ip.1), (.string ip.2.1), (.int .u8 ip.2.2.1), (.int .u32 ip.2.2.2.1), (.int .u32 ip.2.2.2.2.1.1), (.int .u32 ip.2.2.2.2.1.2.1), (.bool ip.2.2.2.2.1.2.2.1), (.int .u8 ip.2.2.2.2.2.1.1), (.bool ip.2.2.2.2.2.1.2.1)])] w fun e w' => e = .returned (.int .i64 (irightP ip)) ∧ Below w.heap.size w w' := by
  have h := irr_any ip w hs1 hs2 hg5
  rw [irr_eq ip hk0] at h
  exact h
structure IGood (ip : MImp) : Prop where
  m : Ut.checkF ip.1 = 0
  n : Ut.checkF ip.2.1 = 0
  k : ip.2.2.1 ≤ 3
  t : ip.2.2.1 ≠ 0 → ip.2.2.2.1 = 0
  l : ip.2.2.1 = 0 ∨ ip.2.2.1 = 3 → ip.2.2.2.2.1.1 = 0 ∧ ip.2.2.2.2.1.2.1 = 0 ∧ ip.2.2.2.2.1.2.2.1 = false
  g : ip.2.2.1 ≠ 3 → ip.2.2.2.2.2.1.1 = 0 ∧ ip.2.2.2.2.2.1.2.1 = false
  z : ip.2.2.2.2.1.2.2.1 = false → ip.2.2.2.2.1.2.1 = 0
  v : ip.2.2.1 = 3 → tvalP ip.2.2.2.2.2.1.1 = 0
theorem iright_good {ip : MImp} (h : irightP ip = 0) : IGood ip := by
  obtain ⟨md, nm, kd, ty, ⟨l1, l2, l3, _⟩, ⟨g1, g2, _⟩, _⟩ := ip
  unfold irightP at h
  dsimp only at h
  by_cases c1 : Ut.checkF md = 0
  · by_cases c2 : Ut.checkF nm = 0
    · by_cases c3 : (3 : Int) < kd
      · simp [c1, c2, c3] at h
      · simp only [c1, c2, c3, ne_eq, not_true_eq_false, decide_false, cond_false] at h
        constructor <;> dsimp only
        · exact c1
        · exact c2
        · omega
        all_goals (by_cases k0 : kd = 0 <;> by_cases k3 : kd = 3 <;> cases l3 <;> cases g2 <;> simp_all <;> grind)
    · simp [c1, c2] at h
  · simp [c1] at h
end Go.Proofs.Ytcmdajkkdognfaa
