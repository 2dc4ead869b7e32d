/- What is proved here: conversions: what is read and written. -/
import Derived.Test.YtmcmickgllffoaaCwCp
namespace Go.Proofs.Ytmcmickgllffoaa
open Go.RowKit
set_option linter.unusedVariables false
set_option linter.unusedSimpArgs false
/-- What is read. -/
def readT (op : Nat) (l : List Int) : Int × Nat × Bool :=
  if (accT op).2.2.2.2 = true ∧ (accT op).2.2.1 = false ∧ ((l.length : Nat) : Int) = (accT op).1 then
    ((accT op).2.1, (if (accT op).2.1 = 127 then (if (accT op).2.2.2.1 = true then extP (numL (l.take 8)) (accT op).1 else numL (l.take 8)) % 4294967296 else if (accT op).2.2.2.1 = true then extP (numL (l.take 8)) (accT op).1 else numL (l.take 8)), true)
  else (0, 0, false)
set_option maxHeartbeats 1000000 in
set_option maxRecDepth 100000 in
theorem read_any (op : Nat) (a : Option Addr) (l : List Int) (c : Nat) (w : World) (hl : RdS 1 (vInt .u8) w a l) (hb6 : ∀ y ∈ l, 0 ≤ y ∧ y < 256) (hlc : l.length ≤ 9223372036854775807) (hop : op < 256) : Calls Try.prog 44 #[(.int .u8 ((op : Nat) : Int)), (.slice a l.length c)] w fun e w' => e = .returned (.tuple #[.agg #[.int .u8 (readT op l).1, .int .u64 (((readT op l).2.1 : Nat) : Int)], .bool (readT op l).2.2]) ∧ Below w.heap.size w w' := by
  have hnum := num_all_lt hb6
  obtain ⟨hA1, hA2, hA3, hA4, hA5⟩ := accT_ok hop
  refine sx_enter (L := [(0, (.int .u8 ((op : Nat) : Int))), (1, (.slice a l.length c))]) Try.func44 rfl rfl rfl rfl (fun fa hf => ?_)
  have hb : Below w.heap.size w w := Below.refl _ _
  refine wp_seq_k (fun K1 hK1 => ?_)
  refine wp_region_lit ?_
  refine sqdt hf (d_alloc (z := (.agg #[(.int .u8 (0 : Int)), (.int .u64 (0 : Int))])) (cs := #[(.int .u8 (0 : Int)), (.int .u64 (0 : Int))]) (by kernel_rfl) rfl) rfl rfl rfl ?_; clear hf fa; rintro fa _ w1 ⟨b1, rfl, hle1, hk1, he1⟩ hf
  have hBb1 : w.heap.size ≤ b1 := Nat.le_trans hb.size hle1
  replace hb := hb.trans (Below.mono he1 hb.size)
  refine sqv hf (r_assign rfl) rfl rfl rfl ?_; clear hf fa; intro fa hf
  apply wpList_nil
  (try simp only [Exit.then, Exit.inBlock, ↓reduceIte, Nat.reduceEqDiff])
  refine hK1 _ _ ?_
  refine wp_seq_k (fun K2 hK2 => ?_)
  refine wp_region_lit ?_
  refine sqv hf (r_move rfl) rfl rfl rfl ?_; clear hf fa; intro fa hf
  refine sqdt hf (d_callB (vs := [(.int .u8 ((op : Nat) : Int))]) rfl Try.func73 (by kernel_rfl) (by kernel_rfl) (access_any op _ (by first | assumption | omega))) rfl rfl rfl ?_; clear hf fa; rintro fa _ w2 ⟨rfl, he2⟩ hf
  replace hk1 := blk_ext hk1 he2
  replace hb := hb.trans (Below.mono he2 hb.size)
  refine sqv hf (r_move rfl) rfl rfl rfl ?_; clear hf fa; intro fa hf
  refine sqv hf (r_extract rfl (i := 0) rfl) rfl rfl rfl ?_; clear hf fa; intro fa hf
  refine sqv hf (r_extract rfl (i := 1) rfl) rfl rfl rfl ?_; clear hf fa; intro fa hf
  refine sqdt hf (d_alloc (z := (.agg #[(.int .i64 (0 : Int)), (.int .u8 (0 : Int)), (.bool false), (.bool false)])) (cs := #[(.int .i64 (0 : Int)), (.int .u8 (0 : Int)), (.bool false), (.bool false)]) (by kernel_rfl) rfl) rfl rfl rfl ?_; clear hf fa; rintro fa _ w3 ⟨b2, rfl, hle2, hk2, he3⟩ hf
  have hBb2 : w.heap.size ≤ b2 := Nat.le_trans hb.size hle2
  have : b1 < b2 := Nat.lt_of_lt_of_le (blk_lt hk1) hle2
  replace hk1 := blk_ext hk1 he3
  replace hb := hb.trans (Below.mono he3 hb.size)
  refine sqn hf (d_storeK (T := 141) (v := (.agg #[(.int .i64 ((accT op).1)), (.int .u8 ((accT op).2.1)), (.bool (accT op).2.2.1), (.bool (accT op).2.2.2.1)])) (cs := #[(.int .i64 (0 : Int)), (.int .u8 (0 : Int)), (.bool false), (.bool false)]) (cs' := #[(.int .i64 ((accT op).1)), (.int .u8 ((accT op).2.1)), (.bool (accT op).2.2.1), (.bool (accT op).2.2.2.1)]) rfl rfl (by kernel_rfl) (by kernel_rfl) hk2 (by kernel_rfl) (by kernel_rfl)) rfl rfl ?_; clear hf fa; rintro fa _ w4 ⟨hk3, hg1⟩ hf
  replace hk1 := blk_grown hk1 hg1 (by omega)
  replace hb := hb.trans (grown_below hg1 hb.size hBb2)
  refine sqv hf (r_assign rfl) rfl rfl rfl ?_; clear hf fa; intro fa hf
  apply wpList_nil
  (try simp only [Exit.then, Exit.inBlock, ↓reduceIte, Nat.reduceEqDiff])
  refine hK2 _ _ ?_
  refine wp_seq_k (fun K3 hK3 => ?_)
  refine wp_seq_k (fun K4 hK4 => ?_)
  refine wp_region_lit ?_
  refine sqv hf (r_move rfl) rfl rfl rfl ?_; clear hf fa; intro fa hf
  refine sqv hf (r_not rfl) rfl rfl rfl ?_; clear hf fa; intro fa hf
  refine sqv hf (r_move rfl) rfl rfl rfl ?_; clear hf fa; intro fa hf
  refine sqgF (act := (!(!(accT op).2.2.2.2))) (ag := true) (c := (!(accT op).2.2.2.2)) (v := (.pointer (some ⟨b2, 2, none⟩))) hf rfl rfl rfl (fun hact => (r_fa rfl Try.underlying141 (f := 2) (q := 2) rfl (by kernel_rfl) rfl)) rfl rfl ?_; clear hf fa; intro fa hf
  refine sqgF (act := (!(!(accT op).2.2.2.2))) (ag := true) (c := (!(accT op).2.2.2.2)) (v := (.bool (accT op).2.2.1)) hf rfl rfl rfl (fun hact => (r_load (v := (.bool (accT op).2.2.1)) (gb_ev hact rfl) Try.underlying4 rfl (cell_blk hk3 rfl))) rfl rfl ?_; clear hf fa; intro fa hf
  refine sqv hf (r_pickO (b := (!(accT op).2.2.2.2)) (e := (accT op).2.2.1) rfl rfl rfl) rfl rfl rfl ?_; clear hf fa; intro fa hf
  refine sqv hf (r_move rfl) rfl rfl rfl ?_; clear hf fa; intro fa hf
  refine sqgF (act := (!((!(accT op).2.2.2.2) || (accT op).2.2.1))) (ag := true) (c := ((!(accT op).2.2.2.2) || (accT op).2.2.1)) (v := (.slice a l.length c)) hf rfl rfl rfl (fun hact => (r_move rfl)) rfl rfl ?_; clear hf fa; intro fa hf
  refine sqgF (act := (!((!(accT op).2.2.2.2) || (accT op).2.2.1))) (ag := true) (c := ((!(accT op).2.2.2.2) || (accT op).2.2.1)) (v := (.int .i64 ((l.length : Nat) : Int))) hf rfl rfl rfl (fun hact => (r_lensl (gb_ev hact rfl) Try.underlying84)) rfl rfl ?_; clear hf fa; intro fa hf
  refine sqgF (act := (!((!(accT op).2.2.2.2) || (accT op).2.2.1))) (ag := true) (c := ((!(accT op).2.2.2.2) || (accT op).2.2.1)) (v := (.pointer (some ⟨b2, 0, none⟩))) hf rfl rfl rfl (fun hact => (r_fa rfl Try.underlying141 (f := 0) (q := 0) rfl (by kernel_rfl) rfl)) rfl rfl ?_; clear hf fa; intro fa hf
  refine sqgF (act := (!((!(accT op).2.2.2.2) || (accT op).2.2.1))) (ag := true) (c := ((!(accT op).2.2.2.2) || (accT op).2.2.1)) (v := (.int .i64 ((accT op).1))) hf rfl rfl rfl (fun hact => (r_load (v := (.int .i64 ((accT op).1))) (gb_ev hact rfl) Try.underlying3 rfl (cell_blk hk3 rfl))) rfl rfl ?_; clear hf fa; intro fa hf
  refine sqgF (act := (!((!(accT op).2.2.2.2) || (accT op).2.2.1))) (ag := true) (c := ((!(accT op).2.2.2.2) || (accT op).2.2.1)) (v := (.bool (decide (((l.length : Nat) : Int) ≠ ((accT op).1))))) hf rfl rfl rfl (fun hact => (r_ne (gb_ev hact rfl) (gb_ev hact rfl))) rfl rfl ?_; clear hf fa; intro fa hf
  refine sqv hf (r_pickO (b := ((!(accT op).2.2.2.2) || (accT op).2.2.1)) (e := (decide (((l.length : Nat) : Int) ≠ ((accT op).1)))) rfl rfl rfl) rfl rfl rfl ?_; clear hf fa; intro fa hf
  apply wpList_nil
  (try simp only [Exit.then, Exit.inBlock, ↓reduceIte, Nat.reduceEqDiff])
  refine hK4 _ _ ?_
  refine wp_cond_split (t := (((!(accT op).2.2.2.2) || (accT op).2.2.1) || (decide (((l.length : Nat) : Int) ≠ ((accT op).1))))) (hf.ev rfl) (fun hqt26_1 => ?_) (fun hqt26_1 => ?_)
  · have hqt26_1b := hqt26_1
    try simp only [decide_eq_true_eq, Bool.and_eq_true, Bool.or_eq_true, Bool.not_eq_true', decide_eq_false_iff_not, ne_eq, Bool.not_eq_true] at hqt26_1
    refine wp_seq_k (fun K5 hK5 => ?_)
    refine wp_region_lit ?_
    refine sqv hf (r_build (vs := []) (cs := #[(.int .u8 (0 : Int)), (.int .u64 (0 : Int))]) rfl (fun _ => by kernel_rfl)) rfl rfl rfl ?_; clear hf fa; intro fa hf
    refine sqn hf (d_storeK (T := 86) (v := (.agg #[(.int .u8 (0 : Int)), (.int .u64 (0 : Int))])) (cs := #[(.int .u8 (0 : Int)), (.int .u64 (0 : Int))]) (cs' := #[(.int .u8 (0 : Int)), (.int .u64 (0 : Int))]) rfl rfl (by kernel_rfl) (by kernel_rfl) hk1 (by kernel_rfl) (by kernel_rfl)) rfl rfl ?_; clear hf fa; rintro fa _ w5 ⟨hk4, hg2⟩ hf
    replace hk3 := blk_grown hk3 hg2 (by omega)
    replace hb := hb.trans (grown_below hg2 hb.size hBb1)
    refine sqv hf (r_assign rfl) rfl rfl rfl ?_; clear hf fa; intro fa hf
    apply wpList_nil
    (try simp only [Exit.then, Exit.inBlock, ↓reduceIte, Nat.reduceEqDiff])
    refine hK5 _ _ ?_
    refine wp_ret ?_
    (try simp only [Exit.then, Exit.inBlock])
    refine retCT hf rfl rfl hk4 Try.underlying86 rfl (by kernel_rfl) rfl ?_
    have hD : readT op l = (0, 0, false) := by unfold readT; rw [if_neg]; rintro ⟨h1, h2, h3⟩; have h := hqt26_1; simp [h1, h2, h3] at h
    rw [hD]; exact ⟨rfl, hb⟩
  · have hqt26_1b := hqt26_1
    replace hqt26_1 := Bool.eq_false_iff.1 hqt26_1
    try simp only [ne_eq, decide_eq_true_eq, Bool.and_eq_true, Bool.or_eq_true, Bool.not_eq_true', decide_eq_false_iff_not] at hqt26_1
    refine wp_skip ?_
    (try simp only [Exit.then, Exit.inBlock, ↓reduceIte, Nat.reduceEqDiff])
    refine hK3 _ _ ?_
    refine wp_seq_k (fun K6 hK6 => ?_)
    refine wp_region_lit ?_
    refine sqv hf (r_move rfl) rfl rfl rfl ?_; clear hf fa; intro fa hf
    refine sqdt hf (d_callB (vs := [(.slice a l.length c)]) rfl Try.func48 (by kernel_rfl) (by kernel_rfl) (number_any _ l _ _ (RdS.ext hl hb) hb6 hlc)) rfl rfl rfl ?_; clear hf fa; rintro fa _ w6 ⟨rfl, he4⟩ hf
    replace hk1 := blk_ext hk1 he4
    replace hk3 := blk_ext hk3 he4
    replace hb := hb.trans (Below.mono he4 hb.size)
    refine sqv hf (r_assign rfl) rfl rfl rfl ?_; clear hf fa; intro fa hf
    apply wpList_nil
    (try simp only [Exit.then, Exit.inBlock, ↓reduceIte, Nat.reduceEqDiff])
    refine hK6 _ _ ?_
    refine wp_seq_k (fun K7 hK7 => ?_)
    refine wp_seq_k (fun K8 hK8 => ?_)
    refine wp_region_lit ?_
    refine sqv hf (r_fa rfl Try.underlying141 (f := 3) (q := 3) rfl (by kernel_rfl) rfl) rfl rfl rfl ?_; clear hf fa; intro fa hf
    refine sqv hf (r_load (v := (.bool (accT op).2.2.2.1)) rfl Try.underlying4 rfl (cell_blk hk3 rfl)) rfl rfl rfl ?_; clear hf fa; intro fa hf
    apply wpList_nil
    (try simp only [Exit.then, Exit.inBlock, ↓reduceIte, Nat.reduceEqDiff])
    refine hK8 _ _ ?_
    refine wp_cond_split (t := (accT op).2.2.2.1) (hf.ev rfl) (fun hqt31_1 => ?_) (fun hqt31_1 => ?_)
    · have hqt31_1b := hqt31_1
      try simp only [decide_eq_true_eq, Bool.and_eq_true, Bool.or_eq_true, Bool.not_eq_true', decide_eq_false_iff_not, ne_eq, Bool.not_eq_true] at hqt31_1
      refine wp_region_lit ?_
      refine sqv hf (r_move rfl) rfl rfl rfl ?_; clear hf fa; intro fa hf
      refine sqv hf (r_fa rfl Try.underlying141 (f := 0) (q := 0) rfl (by kernel_rfl) rfl) rfl rfl rfl ?_; clear hf fa; intro fa hf
      refine sqv hf (r_load (v := (.int .i64 ((accT op).1))) rfl Try.underlying3 rfl (cell_blk hk3 rfl)) rfl rfl rfl ?_; clear hf fa; intro fa hf
      refine sqdt hf (d_callB (vs := [(.int .u64 (((numL ((l).take 8)) : Nat) : Int)), (.int .i64 ((accT op).1))]) rfl Try.func54 (by kernel_rfl) (by kernel_rfl) (extend_any ((numL ((l).take 8))) ((accT op).1) _ (by first | assumption | omega))) rfl rfl rfl ?_; clear hf fa; rintro fa _ w7 ⟨rfl, he5⟩ hf
      replace hk1 := blk_ext hk1 he5
      replace hk3 := blk_ext hk3 he5
      replace hb := hb.trans (Below.mono he5 hb.size)
      refine sqv hf (r_assign rfl) rfl rfl rfl ?_; clear hf fa; intro fa hf
      apply wpList_nil
      (try simp only [Exit.then, Exit.inBlock, ↓reduceIte, Nat.reduceEqDiff])
      refine hK7 _ _ ?_
      refine wp_seq_k (fun K9 hK9 => ?_)
      refine wp_seq_k (fun K10 hK10 => ?_)
      refine wp_region_lit ?_
      refine sqv hf (r_fa rfl Try.underlying141 (f := 1) (q := 1) rfl (by kernel_rfl) rfl) rfl rfl rfl ?_; clear hf fa; intro fa hf
      refine sqv hf (r_load (v := (.int .u8 ((accT op).2.1))) rfl Try.underlying5 rfl (cell_blk hk3 rfl)) rfl rfl rfl ?_; clear hf fa; intro fa hf
      refine sqv hf (r_eq rfl rfl) rfl rfl rfl ?_; clear hf fa; intro fa hf
      apply wpList_nil
      (try simp only [Exit.then, Exit.inBlock, ↓reduceIte, Nat.reduceEqDiff])
      refine hK10 _ _ ?_
      refine wp_cond_split (t := (decide (((accT op).2.1) = (127 : Int)))) (hf.ev rfl) (fun hqt38_1 => ?_) (fun hqt38_1 => ?_)
      · have hqt38_1b := hqt38_1
        try simp only [decide_eq_true_eq, Bool.and_eq_true, Bool.or_eq_true, Bool.not_eq_true', decide_eq_false_iff_not, ne_eq, Bool.not_eq_true] at hqt38_1
        refine wp_region_lit ?_
        refine sqv hf (r_move rfl) rfl rfl rfl ?_; clear hf fa; intro fa hf
        refine sqv hf (r_conv (C := (((((extP ((numL ((l).take 8))) ((accT op).1))) % 4294967296) : Nat) : Int)) rfl Try.underlying26 Try.underlying144 (wrap32 _)) rfl rfl rfl ?_; clear hf fa; intro fa hf
        refine sqv hf (r_conv (C := (((((extP ((numL ((l).take 8))) ((accT op).1))) % 4294967296) : Nat) : Int)) rfl Try.underlying144 Try.underlying26 (by rw [IntKind.wrap_u64]; omega)) rfl rfl rfl ?_; clear hf fa; intro fa hf
        refine sqv hf (r_assign rfl) rfl rfl rfl ?_; clear hf fa; intro fa hf
        apply wpList_nil
        (try simp only [Exit.then, Exit.inBlock, ↓reduceIte, Nat.reduceEqDiff])
        refine hK9 _ _ ?_
        refine wp_seq_k (fun K11 hK11 => ?_)
        refine wp_region_lit ?_
        refine sqv hf (r_fa rfl Try.underlying141 (f := 1) (q := 1) rfl (by kernel_rfl) rfl) rfl rfl rfl ?_; clear hf fa; intro fa hf
        refine sqv hf (r_load (v := (.int .u8 ((accT op).2.1))) rfl Try.underlying5 rfl (cell_blk hk3 rfl)) rfl rfl rfl ?_; clear hf fa; intro fa hf
        refine sqv hf (r_move rfl) rfl rfl rfl ?_; clear hf fa; intro fa hf
        refine sqv hf (r_build (vs := [(0, (.int .u8 ((accT op).2.1))), (1, (.int .u64 (((((extP ((numL ((l).take 8))) ((accT op).1))) % 4294967296) : Nat) : Int)))]) (cs := #[(.int .u8 ((accT op).2.1)), (.int .u64 (((((extP ((numL ((l).take 8))) ((accT op).1))) % 4294967296) : Nat) : Int))]) rfl (fun _ => by kernel_rfl)) rfl rfl rfl ?_; clear hf fa; intro fa hf
        refine sqn hf (d_storeK (T := 86) (v := (.agg #[(.int .u8 ((accT op).2.1)), (.int .u64 (((((extP ((numL ((l).take 8))) ((accT op).1))) % 4294967296) : Nat) : Int))])) (cs := #[(.int .u8 (0 : Int)), (.int .u64 (0 : Int))]) (cs' := #[(.int .u8 ((accT op).2.1)), (.int .u64 (((((extP ((numL ((l).take 8))) ((accT op).1))) % 4294967296) : Nat) : Int))]) rfl rfl (by kernel_rfl) (by kernel_rfl) hk1 (by kernel_rfl) (by kernel_rfl)) rfl rfl ?_; clear hf fa; rintro fa _ w8 ⟨hk5, hg3⟩ hf
        replace hk3 := blk_grown hk3 hg3 (by omega)
        replace hb := hb.trans (grown_below hg3 hb.size hBb1)
        refine sqv hf (r_assign rfl) rfl rfl rfl ?_; clear hf fa; intro fa hf
        apply wpList_nil
        (try simp only [Exit.then, Exit.inBlock, ↓reduceIte, Nat.reduceEqDiff])
        refine hK11 _ _ ?_
        refine wp_ret ?_
        (try simp only [Exit.then, Exit.inBlock])
        refine retCT hf rfl rfl hk5 Try.underlying86 rfl (by kernel_rfl) rfl ?_
        have h1 : readT op l = ((accT op).2.1, (if (accT op).2.1 = 127 then (if (accT op).2.2.2.1 = true then extP (numL (l.take 8)) (accT op).1 else numL (l.take 8)) % 4294967296 else if (accT op).2.2.2.1 = true then extP (numL (l.take 8)) (accT op).1 else numL (l.take 8)), true) := by unfold readT; rw [if_pos (by have h := hqt26_1; simp only [Bool.or_eq_true, not_or, Bool.not_eq_true, Bool.not_eq_false', Bool.not_not, decide_eq_false_iff_not, ne_eq, Decidable.not_not, Bool.not_eq_true', Bool.not_eq_eq_eq_not, Bool.not_true, Bool.not_false] at h; exact ⟨by simpa using h.1.1, by simpa using h.1.2, h.2⟩)]
        rw [if_pos (by have h := hqt38_1; simpa using h), if_pos (by have h := hqt31_1; simpa using h)] at h1
        rw [h1]; exact ⟨rfl, hb⟩
      · have hqt38_1b := hqt38_1
        replace hqt38_1 := Bool.eq_false_iff.1 hqt38_1
        try simp only [ne_eq, decide_eq_true_eq, Bool.and_eq_true, Bool.or_eq_true, Bool.not_eq_true', decide_eq_false_iff_not] at hqt38_1
        refine wp_skip ?_
        (try simp only [Exit.then, Exit.inBlock, ↓reduceIte, Nat.reduceEqDiff])
        refine hK9 _ _ ?_
        refine wp_seq_k (fun K12 hK12 => ?_)
        refine wp_region_lit ?_
        refine sqv hf (r_fa rfl Try.underlying141 (f := 1) (q := 1) rfl (by kernel_rfl) rfl) rfl rfl rfl ?_; clear hf fa; intro fa hf
        refine sqv hf (r_load (v := (.int .u8 ((accT op).2.1))) rfl Try.underlying5 rfl (cell_blk hk3 rfl)) rfl rfl rfl ?_; clear hf fa; intro fa hf
        refine sqv hf (r_move rfl) rfl rfl rfl ?_; clear hf fa; intro fa hf
        refine sqv hf (r_build (vs := [(0, (.int .u8 ((accT op).2.1))), (1, (.int .u64 (((extP ((numL ((l).take 8))) ((accT op).1)) : Nat) : Int)))]) (cs := #[(.int .u8 ((accT op).2.1)), (.int .u64 (((extP ((numL ((l).take 8))) ((accT op).1)) : Nat) : Int))]) rfl (fun _ => by kernel_rfl)) rfl rfl rfl ?_; clear hf fa; intro fa hf
        refine sqn hf (d_storeK (T := 86) (v := (.agg #[(.int .u8 ((accT op).2.1)), (.int .u64 (((extP ((numL ((l).take 8))) ((accT op).1)) : Nat) : Int))])) (cs := #[(.int .u8 (0 : Int)), (.int .u64 (0 : Int))]) (cs' := #[(.int .u8 ((accT op).2.1)), (.int .u64 (((extP ((numL ((l).take 8))) ((accT op).1)) : Nat) : Int))]) rfl rfl (by kernel_rfl) (by kernel_rfl) hk1 (by kernel_rfl) (by kernel_rfl)) rfl rfl ?_; clear hf fa; rintro fa _ w9 ⟨hk6, hg4⟩ hf
        replace hk3 := blk_grown hk3 hg4 (by omega)
        replace hb := hb.trans (grown_below hg4 hb.size hBb1)
        refine sqv hf (r_assign rfl) rfl rfl rfl ?_; clear hf fa; intro fa hf
        apply wpList_nil
        (try simp only [Exit.then, Exit.inBlock, ↓reduceIte, Nat.reduceEqDiff])
        refine hK12 _ _ ?_
        refine wp_ret ?_
        (try simp only [Exit.then, Exit.inBlock])
        refine retCT hf rfl rfl hk6 Try.underlying86 rfl (by kernel_rfl) rfl ?_
        have h1 : readT op l = ((accT op).2.1, (if (accT op).2.1 = 127 then (if (accT op).2.2.2.1 = true then extP (numL (l.take 8)) (accT op).1 else numL (l.take 8)) % 4294967296 else if (accT op).2.2.2.1 = true then extP (numL (l.take 8)) (accT op).1 else numL (l.take 8)), true) := by unfold readT; rw [if_pos (by have h := hqt26_1; simp only [Bool.or_eq_true, not_or, Bool.not_eq_true, Bool.not_eq_false', Bool.not_not, decide_eq_false_iff_not, ne_eq, Decidable.not_not, Bool.not_eq_true', Bool.not_eq_eq_eq_not, Bool.not_true, Bool.not_false] at h; exact ⟨by simpa using h.1.1, by simpa using h.1.2, h.2⟩)]
        rw [if_neg (by have h := hqt38_1; simpa using h), if_pos (by have h := hqt31_1; simpa using h)] at h1
        rw [h1]; exact ⟨rfl, hb⟩
    · have hqt31_1b := hqt31_1
      replace hqt31_1 := Bool.eq_false_iff.1 hqt31_1
      try simp only [ne_eq, decide_eq_true_eq, Bool.and_eq_true, Bool.or_eq_true, Bool.not_eq_true', decide_eq_false_iff_not] at hqt31_1
      refine wp_skip ?_
      (try simp only [Exit.then, Exit.inBlock, ↓reduceIte, Nat.reduceEqDiff])
      refine hK7 _ _ ?_
      refine wp_seq_k (fun K13 hK13 => ?_)
      refine wp_seq_k (fun K14 hK14 => ?_)
      refine wp_region_lit ?_
      refine sqv hf (r_fa rfl Try.underlying141 (f := 1) (q := 1) rfl (by kernel_rfl) rfl) rfl rfl rfl ?_; clear hf fa; intro fa hf
      refine sqv hf (r_load (v := (.int .u8 ((accT op).2.1))) rfl Try.underlying5 rfl (cell_blk hk3 rfl)) rfl rfl rfl ?_; clear hf fa; intro fa hf
      refine sqv hf (r_eq rfl rfl) rfl rfl rfl ?_; clear hf fa; intro fa hf
      apply wpList_nil
      (try simp only [Exit.then, Exit.inBlock, ↓reduceIte, Nat.reduceEqDiff])
      refine hK14 _ _ ?_
      refine wp_cond_split (t := (decide (((accT op).2.1) = (127 : Int)))) (hf.ev rfl) (fun hqt38_2 => ?_) (fun hqt38_2 => ?_)
      · have hqt38_2b := hqt38_2
        try simp only [decide_eq_true_eq, Bool.and_eq_true, Bool.or_eq_true, Bool.not_eq_true', decide_eq_false_iff_not, ne_eq, Bool.not_eq_true] at hqt38_2
        refine wp_region_lit ?_
        refine sqv hf (r_move rfl) rfl rfl rfl ?_; clear hf fa; intro fa hf
        refine sqv hf (r_conv (C := (((((numL ((l).take 8))) % 4294967296) : Nat) : Int)) rfl Try.underlying26 Try.underlying144 (wrap32 _)) rfl rfl rfl ?_; clear hf fa; intro fa hf
        refine sqv hf (r_conv (C := (((((numL ((l).take 8))) % 4294967296) : Nat) : Int)) rfl Try.underlying144 Try.underlying26 (by rw [IntKind.wrap_u64]; omega)) rfl rfl rfl ?_; clear hf fa; intro fa hf
        refine sqv hf (r_assign rfl) rfl rfl rfl ?_; clear hf fa; intro fa hf
        apply wpList_nil
        (try simp only [Exit.then, Exit.inBlock, ↓reduceIte, Nat.reduceEqDiff])
        refine hK13 _ _ ?_
        refine wp_seq_k (fun K15 hK15 => ?_)
        refine wp_region_lit ?_
        refine sqv hf (r_fa rfl Try.underlying141 (f := 1) (q := 1) rfl (by kernel_rfl) rfl) rfl rfl rfl ?_; clear hf fa; intro fa hf
        refine sqv hf (r_load (v := (.int .u8 ((accT op).2.1))) rfl Try.underlying5 rfl (cell_blk hk3 rfl)) rfl rfl rfl ?_; clear hf fa; intro fa hf
        refine sqv hf (r_move rfl) rfl rfl rfl ?_; clear hf fa; intro fa hf
        refine sqv hf (r_build (vs := [(0, (.int .u8 ((accT op).2.1))), (1, (.int .u64 (((((numL ((l).take 8))) % 4294967296) : Nat) : Int)))]) (cs := #[(.int .u8 ((accT op).2.1)), (.int .u64 (((((numL ((l).take 8))) % 4294967296) : Nat) : Int))]) rfl (fun _ => by kernel_rfl)) rfl rfl rfl ?_; clear hf fa; intro fa hf
        refine sqn hf (d_storeK (T := 86) (v := (.agg #[(.int .u8 ((accT op).2.1)), (.int .u64 (((((numL ((l).take 8))) % 4294967296) : Nat) : Int))])) (cs := #[(.int .u8 (0 : Int)), (.int .u64 (0 : Int))]) (cs' := #[(.int .u8 ((accT op).2.1)), (.int .u64 (((((numL ((l).take 8))) % 4294967296) : Nat) : Int))]) rfl rfl (by kernel_rfl) (by kernel_rfl) hk1 (by kernel_rfl) (by kernel_rfl)) rfl rfl ?_; clear hf fa; rintro fa _ w10 ⟨hk7, hg5⟩ hf
        replace hk3 := blk_grown hk3 hg5 (by omega)
        replace hb := hb.trans (grown_below hg5 hb.size hBb1)
        refine sqv hf (r_assign rfl) rfl rfl rfl ?_; clear hf fa; intro fa hf
        apply wpList_nil
        (try simp only [Exit.then, Exit.inBlock, ↓reduceIte, Nat.reduceEqDiff])
        refine hK15 _ _ ?_
        refine wp_ret ?_
        (try simp only [Exit.then, Exit.inBlock])
        refine retCT hf rfl rfl hk7 Try.underlying86 rfl (by kernel_rfl) rfl ?_
        have h1 : readT op l = ((accT op).2.1, (if (accT op).2.1 = 127 then (if (accT op).2.2.2.1 = true then extP (numL (l.take 8)) (accT op).1 else numL (l.take 8)) % 4294967296 else if (accT op).2.2.2.1 = true then extP (numL (l.take 8)) (accT op).1 else numL (l.take 8)), true) := by unfold readT; rw [if_pos (by have h := hqt26_1; simp only [Bool.or_eq_true, not_or, Bool.not_eq_true, Bool.not_eq_false', Bool.not_not, decide_eq_false_iff_not, ne_eq, Decidable.not_not, Bool.not_eq_true', Bool.not_eq_eq_eq_not, Bool.not_true, Bool.not_false] at h; exact ⟨by simpa using h.1.1, by simpa using h.1.2, h.2⟩)]
        rw [if_pos (by have h := hqt38_2; simpa using h), if_neg (by have h := hqt31_1; simpa using h)] at h1
        rw [h1]; exact ⟨rfl, hb⟩
      · have hqt38_2b := hqt38_2
        replace hqt38_2 := Bool.eq_false_iff.1 hqt38_2
        try simp only [ne_eq, decide_eq_true_eq, Bool.and_eq_true, Bool.or_eq_true, Bool.not_eq_true', decide_eq_false_iff_not] at hqt38_2
        refine wp_skip ?_
        (try simp only [Exit.then, Exit.inBlock, ↓reduceIte, Nat.reduceEqDiff])
        refine hK13 _ _ ?_
        refine wp_seq_k (fun K16 hK16 => ?_)
        refine wp_region_lit ?_
        refine sqv hf (r_fa rfl Try.underlying141 (f := 1) (q := 1) rfl (by kernel_rfl) rfl) rfl rfl rfl ?_; clear hf fa; intro fa hf
        refine sqv hf (r_load (v := (.int .u8 ((accT op).2.1))) rfl Try.underlying5 rfl (cell_blk hk3 rfl)) rfl rfl rfl ?_; clear hf fa; intro fa hf
        refine sqv hf (r_move rfl) rfl rfl rfl ?_; clear hf fa; intro fa hf
        refine sqv hf (r_build (vs := [(0, (.int .u8 ((accT op).2.1))), (1, (.int .u64 (((numL ((l).take 8)) : Nat) : Int)))]) (cs := #[(.int .u8 ((accT op).2.1)), (.int .u64 (((numL ((l).take 8)) : Nat) : Int))]) rfl (fun _ => by kernel_rfl)) rfl rfl rfl ?_; clear hf fa; intro fa hf
        refine sqn hf (d_storeK (T := 86) (v := (.agg #[(.int .u8 ((accT op).2.1)), (.int .u64 (((numL ((l).take 8)) : Nat) : Int))])) (cs := #[(.int .u8 (0 : Int)), (.int .u64 (0 : Int))]) (cs' := #[(.int .u8 ((accT op).2.1)), (.int .u64 (((numL ((l).take 8)) : Nat) : Int))]) rfl rfl (by kernel_rfl) (by kernel_rfl) hk1 (by kernel_rfl) (by kernel_rfl)) rfl rfl ?_; clear hf fa; rintro fa _ w11 ⟨hk8, hg6⟩ hf
        replace hk3 := blk_grown hk3 hg6 (by omega)
        replace hb := hb.trans (grown_below hg6 hb.size hBb1)
        refine sqv hf (r_assign rfl) rfl rfl rfl ?_; clear hf fa; intro fa hf
        apply wpList_nil
        (try simp only [Exit.then, Exit.inBlock, ↓reduceIte, Nat.reduceEqDiff])
        refine hK16 _ _ ?_
        refine wp_ret ?_
        (try simp only [Exit.then, Exit.inBlock])
        refine retCT hf rfl rfl hk8 Try.underlying86 rfl (by kernel_rfl) rfl ?_
        have h1 : readT op l = ((accT op).2.1, (if (accT op).2.1 = 127 then (if (accT op).2.2.2.1 = true then extP (numL (l.take 8)) (accT op).1 else numL (l.take 8)) % 4294967296 else if (accT op).2.2.2.1 = true then extP (numL (l.take 8)) (accT op).1 else numL (l.take 8)), true) := by unfold readT; rw [if_pos (by have h := hqt26_1; simp only [Bool.or_eq_true, not_or, Bool.not_eq_true, Bool.not_eq_false', Bool.not_not, decide_eq_false_iff_not, ne_eq, Decidable.not_not, Bool.not_eq_true', Bool.not_eq_eq_eq_not, Bool.not_true, Bool.not_false] at h; exact ⟨by simpa using h.1.1, by simpa using h.1.2, h.2⟩)]
        rw [if_neg (by have h := hqt38_2; simpa using h), if_neg (by have h := hqt31_1; simpa using h)] at h1
        rw [h1]; exact ⟨rfl, hb⟩

/-- What is written. -/
def writeT (op v : Nat) : List Int × Bool := if (accT op).2.2.2.2 = true ∧ (accT op).2.2.1 = true then (bytesN (capN (accT op).1) v, true) else ([], false)
theorem writeT_len (op v : Nat) : (writeT op v).1.length ≤ 8 := by
  unfold writeT
  split
  · show (bytesN _ v).length ≤ 8
    rw [bytesN_len]; exact capN_le _
  · exact Nat.zero_le _

set_option maxHeartbeats 1000000 in
set_option maxRecDepth 100000 in
theorem write_any (op v : Nat) (w : World) (hv : v < 18446744073709551616) (hop : op < 256) : Calls Try.prog 46 #[(.int .u8 ((op : Nat) : Int)), (.int .u64 ((v : Nat) : Int))] w fun e w' => ∃ x, e = .returned x ∧ ∃ a c, x = .tuple #[.slice a (writeT op v).1.length c, .bool (writeT op v).2] ∧ Row 1 (vInt .u8) 5 w.heap.size w' (.slice a (writeT op v).1.length c) (writeT op v).1 ∧ Below w.heap.size w w' := by
  refine sx_enter (L := [(0, (.int .u8 ((op : Nat) : Int))), (1, (.int .u64 ((v : Nat) : Int)))]) Try.func46 rfl rfl rfl rfl (fun fa hf => ?_)
  have hb : Below w.heap.size w w := Below.refl _ _
  refine wp_seq_k (fun K1 hK1 => ?_)
  refine wp_region_lit ?_
  refine sqv hf (r_assign rfl) rfl rfl rfl ?_; clear hf fa; intro fa hf
  refine sqv hf (r_assign rfl) rfl rfl rfl ?_; clear hf fa; intro fa hf
  apply wpList_nil
  (try simp only [Exit.then, Exit.inBlock, ↓reduceIte, Nat.reduceEqDiff])
  refine hK1 _ _ ?_
  refine wp_seq_k (fun K2 hK2 => ?_)
  refine wp_region_lit ?_
  refine sqv hf (r_move rfl) rfl rfl rfl ?_; clear hf fa; intro fa hf
  refine sqdt hf (d_callB (vs := [(.int .u8 ((op : Nat) : Int))]) rfl Try.func73 (by kernel_rfl) (by kernel_rfl) (access_any op _ (by first | assumption | omega))) rfl rfl rfl ?_; clear hf fa; rintro fa _ w1 ⟨rfl, he1⟩ hf
  replace hb := hb.trans (Below.mono he1 hb.size)
  refine sqv hf (r_move rfl) rfl rfl rfl ?_; clear hf fa; intro fa hf
  refine sqv hf (r_extract rfl (i := 0) rfl) rfl rfl rfl ?_; clear hf fa; intro fa hf
  refine sqv hf (r_extract rfl (i := 1) rfl) rfl rfl rfl ?_; clear hf fa; intro fa hf
  refine sqdt hf (d_alloc (z := (.agg #[(.int .i64 (0 : Int)), (.int .u8 (0 : Int)), (.bool false), (.bool false)])) (cs := #[(.int .i64 (0 : Int)), (.int .u8 (0 : Int)), (.bool false), (.bool false)]) (by kernel_rfl) rfl) rfl rfl rfl ?_; clear hf fa; rintro fa _ w2 ⟨b1, rfl, hle1, hk1, he2⟩ hf
  have hBb1 : w.heap.size ≤ b1 := Nat.le_trans hb.size hle1
  replace hb := hb.trans (Below.mono he2 hb.size)
  refine sqn hf (d_storeK (T := 141) (v := (.agg #[(.int .i64 ((accT op).1)), (.int .u8 ((accT op).2.1)), (.bool (accT op).2.2.1), (.bool (accT op).2.2.2.1)])) (cs := #[(.int .i64 (0 : Int)), (.int .u8 (0 : Int)), (.bool false), (.bool false)]) (cs' := #[(.int .i64 ((accT op).1)), (.int .u8 ((accT op).2.1)), (.bool (accT op).2.2.1), (.bool (accT op).2.2.2.1)]) rfl rfl (by kernel_rfl) (by kernel_rfl) hk1 (by kernel_rfl) (by kernel_rfl)) rfl rfl ?_; clear hf fa; rintro fa _ w3 ⟨hk2, hg1⟩ hf
  replace hb := hb.trans (grown_below hg1 hb.size hBb1)
  refine sqv hf (r_assign rfl) rfl rfl rfl ?_; clear hf fa; intro fa hf
  apply wpList_nil
  (try simp only [Exit.then, Exit.inBlock, ↓reduceIte, Nat.reduceEqDiff])
  refine hK2 _ _ ?_
  refine wp_seq_k (fun K3 hK3 => ?_)
  refine wp_seq_k (fun K4 hK4 => ?_)
  refine wp_region_lit ?_
  refine sqv hf (r_move rfl) rfl rfl rfl ?_; clear hf fa; intro fa hf
  refine sqv hf (r_not rfl) rfl rfl rfl ?_; clear hf fa; intro fa hf
  refine sqv hf (r_move rfl) rfl rfl rfl ?_; clear hf fa; intro fa hf
  refine sqgF (act := (!(!(accT op).2.2.2.2))) (ag := true) (c := (!(accT op).2.2.2.2)) (v := (.pointer (some ⟨b1, 2, none⟩))) hf rfl rfl rfl (fun hact => (r_fa rfl Try.underlying141 (f := 2) (q := 2) rfl (by kernel_rfl) rfl)) rfl rfl ?_; clear hf fa; intro fa hf
  refine sqgF (act := (!(!(accT op).2.2.2.2))) (ag := true) (c := (!(accT op).2.2.2.2)) (v := (.bool (accT op).2.2.1)) hf rfl rfl rfl (fun hact => (r_load (v := (.bool (accT op).2.2.1)) (gb_ev hact rfl) Try.underlying4 rfl (cell_blk hk2 rfl))) rfl rfl ?_; clear hf fa; intro fa hf
  refine sqgF (act := (!(!(accT op).2.2.2.2))) (ag := true) (c := (!(accT op).2.2.2.2)) (v := (.bool (!(accT op).2.2.1))) hf rfl rfl rfl (fun hact => (r_not (gb_ev hact rfl))) rfl rfl ?_; clear hf fa; intro fa hf
  refine sqv hf (r_pickO (b := (!(accT op).2.2.2.2)) (e := (!(accT op).2.2.1)) rfl rfl rfl) rfl rfl rfl ?_; clear hf fa; intro fa hf
  apply wpList_nil
  (try simp only [Exit.then, Exit.inBlock, ↓reduceIte, Nat.reduceEqDiff])
  refine hK4 _ _ ?_
  refine wp_cond_split (t := ((!(accT op).2.2.2.2) || (!(accT op).2.2.1))) (hf.ev rfl) (fun hqt19_1 => ?_) (fun hqt19_1 => ?_)
  · have hqt19_1b := hqt19_1
    try simp only [decide_eq_true_eq, Bool.and_eq_true, Bool.or_eq_true, Bool.not_eq_true', decide_eq_false_iff_not, ne_eq, Bool.not_eq_true] at hqt19_1
    refine wp_seq_k (fun K5 hK5 => ?_)
    refine wp_region_lit ?_
    refine sqv hf (r_assign rfl) rfl rfl rfl ?_; clear hf fa; intro fa hf
    refine sqv hf (r_assign rfl) rfl rfl rfl ?_; clear hf fa; intro fa hf
    apply wpList_nil
    (try simp only [Exit.then, Exit.inBlock, ↓reduceIte, Nat.reduceEqDiff])
    refine hK5 _ _ ?_
    refine wp_ret ?_
    (try simp only [Exit.then, Exit.inBlock])
    refine ret2 hf rfl rfl rfl ?_
    have hD : writeT op v = ([], false) := by unfold writeT; rw [if_neg]; rintro ⟨h1, h2⟩; have h := hqt19_1; simp [h1, h2] at h
    rw [hD]; exact ⟨_, rfl, none, 0, rfl, Row.nil, hb⟩
  · have hqt19_1b := hqt19_1
    replace hqt19_1 := Bool.eq_false_iff.1 hqt19_1
    try simp only [ne_eq, decide_eq_true_eq, Bool.and_eq_true, Bool.or_eq_true, Bool.not_eq_true', decide_eq_false_iff_not] at hqt19_1
    refine wp_skip ?_
    (try simp only [Exit.then, Exit.inBlock, ↓reduceIte, Nat.reduceEqDiff])
    refine hK3 _ _ ?_
    refine wp_seq_k (fun K6 hK6 => ?_)
    refine wp_region_lit ?_
    refine sqv hf (r_move rfl) rfl rfl rfl ?_; clear hf fa; intro fa hf
    refine sqv hf (r_fa rfl Try.underlying141 (f := 0) (q := 0) rfl (by kernel_rfl) rfl) rfl rfl rfl ?_; clear hf fa; intro fa hf
    refine sqv hf (r_load (v := (.int .i64 ((accT op).1))) rfl Try.underlying3 rfl (cell_blk hk2 rfl)) rfl rfl rfl ?_; clear hf fa; intro fa hf
    refine sqdt hf (d_callX (vs := [(.int .u64 ((v : Nat) : Int)), (.int .i64 ((accT op).1))]) rfl Try.func53 (by kernel_rfl) (by kernel_rfl) (bytes_any v ((accT op).1) _ (by first | assumption | omega))) rfl rfl rfl ?_; clear hf fa; rintro fa v w4 ⟨hr1, he3⟩ hf; obtain ⟨ra1, rc1, rfl, hcrc1, hmrc1⟩ := Row.slice hr1
    replace hr1 := Row.rebase hr1 hb.size
    replace hk2 := blk_ext hk2 he3
    replace hb := hb.trans (Below.mono he3 hb.size)
    refine sqv hf (r_assign rfl) rfl rfl rfl ?_; clear hf fa; intro fa hf
    refine sqv hf (r_assign rfl) rfl rfl rfl ?_; clear hf fa; intro fa hf
    apply wpList_nil
    (try simp only [Exit.then, Exit.inBlock, ↓reduceIte, Nat.reduceEqDiff])
    refine hK6 _ _ ?_
    refine wp_ret ?_
    (try simp only [Exit.then, Exit.inBlock])
    refine ret2 hf rfl rfl rfl ?_
    have h1 : writeT op v = (bytesN (capN (accT op).1) v, true) := by unfold writeT; rw [if_pos (by have h := hqt19_1; simp only [Bool.or_eq_true, not_or, Bool.not_eq_true, Bool.not_eq_false', Bool.not_not, Bool.not_eq_true', Bool.not_eq_eq_eq_not, Bool.not_true, Bool.not_false] at h; exact ⟨by simpa using h.1, by simpa using h.2⟩)]
    rw [h1]; exact ⟨_, rfl, _, _, rfl, hr1, hb⟩

theorem numR_end {s : ByteArray} {i : Nat} (h : i ≤ s.size) (h8 : i ≤ 8) (h2 : i = s.size ∨ i = 8) : (nums s).take i = (nums s).take 8 := by
  rcases h2 with h2 | h2
  · rw [List.take_of_length_le (by rw [nums_len]; omega), List.take_of_length_le (by rw [nums_len]; omega)]
  · rw [h2]

set_option maxHeartbeats 1000000 in
set_option maxRecDepth 100000 in
theorem dnumber_any (s : ByteArray) (w : World) (hs : s.size ≤ 9223372036854775807) : Calls Try.prog 49 #[(.string s)] w fun e w' => e = .returned (.int .u64 ((numL ((nums s).take 8) : Nat) : Int)) ∧ Below w.heap.size w w' := by
  refine sx_enter (L := [(0, (.string s))]) Try.func49 rfl rfl rfl rfl (fun fa hf => ?_)
  have hb : Below w.heap.size w w := Below.refl _ _
  refine wp_seq_k (fun K1 hK1 => ?_)
  refine wp_region_lit ?_
  refine sqv hf (r_assign rfl) rfl rfl rfl ?_; clear hf fa; intro fa hf
  apply wpList_nil
  (try simp only [Exit.then, Exit.inBlock, ↓reduceIte, Nat.reduceEqDiff])
  refine hK1 _ _ ?_
  refine wp_seq_k (fun K2 hK2 => ?_)
  refine wp_region_lit ?_
  refine sqv hf (r_assign rfl) rfl rfl rfl ?_; clear hf fa; intro fa hf
  refine sqv hf (r_assign rfl) rfl rfl rfl ?_; clear hf fa; intro fa hf
  apply wpList_nil
  (try simp only [Exit.then, Exit.inBlock, ↓reduceIte, Nat.reduceEqDiff])
  refine hK2 _ _ ?_
  refine wp_seq_k (fun K3 hK3 => ?_)
  refine wp_seq_k (fun K4 hK4 => ?_)
  refine wp_region_lit ?_
  refine sqv hf (r_assign rfl) rfl rfl rfl ?_; clear hf fa; intro fa hf
  apply wpList_nil
  (try simp only [Exit.then, Exit.inBlock, ↓reduceIte, Nat.reduceEqDiff])
  refine hK4 _ _ ?_
  refine wp_block ?_
  refine wp_loop_k (fun mq fa wr => ∃ (i : Nat) (o : Nat) (k : Nat), mq = 8 - i ∧ Fr 27 fa [(0, (.string s)), (3, (.int .u64 ((o : Nat) : Int))), (4, (.int .u64 ((k : Nat) : Int))), (5, (.int .i64 ((i : Nat) : Int)))] ∧ Below w.heap.size w wr ∧ (i ≤ s.size) ∧ (i ≤ 8) ∧ (o = (numL ((nums s).take i))) ∧ (k = 256 ^ i % 18446744073709551616)) ?_ ?_
  · skip
    exact ⟨_, 0, 0, 1, rfl, hf.sub ⟨rfl, (some_int (by first | rfl | omega)), (some_int (by first | rfl | omega)), (some_int (by first | rfl | omega)), trivial⟩, hb, by omega, by omega, by simp [numL], by simp⟩
  · skip
    clear hf fa; intro mq1 fa w1 hI KL1 hKL1
    clear hb
    obtain ⟨i, o, k, hmq1, hf, hb, hi, hi8, ho, hkk⟩ := hI
    refine wp_seq_k (fun K5 hK5 => ?_)
    refine wp_seq_k (fun K6 hK6 => ?_)
    refine wp_region_lit ?_
    refine sqv hf (r_move rfl) rfl rfl rfl ?_; clear hf fa; intro fa hf
    refine sqv hf (r_move rfl) rfl rfl rfl ?_; clear hf fa; intro fa hf
    refine sqv hf (r_lens rfl Try.underlying9) rfl rfl rfl ?_; clear hf fa; intro fa hf
    refine sqv hf (r_lt rfl rfl) rfl rfl rfl ?_; clear hf fa; intro fa hf
    refine sqv hf (r_move rfl) rfl rfl rfl ?_; clear hf fa; intro fa hf
    refine sqgT (act := (decide (((i : Nat) : Int) < ((s.size : Nat) : Int)))) (ag := true) (c := (decide (((i : Nat) : Int) < ((s.size : Nat) : Int)))) (v := (.int .i64 ((i : Nat) : Int))) hf rfl rfl rfl (fun hact => (r_move rfl)) rfl rfl ?_; clear hf fa; intro fa hf
    refine sqgT (act := (decide (((i : Nat) : Int) < ((s.size : Nat) : Int)))) (ag := true) (c := (decide (((i : Nat) : Int) < ((s.size : Nat) : Int)))) (v := (.bool (decide (((i : Nat) : Int) < (8 : Int))))) hf rfl rfl rfl (fun hact => (r_lt (gb_ev hact rfl) rfl)) rfl rfl ?_; clear hf fa; intro fa hf
    refine sqv hf (r_pickA (b := (decide (((i : Nat) : Int) < ((s.size : Nat) : Int)))) (e := (decide (((i : Nat) : Int) < (8 : Int)))) rfl rfl rfl) rfl rfl rfl ?_; clear hf fa; intro fa hf
    apply wpList_nil
    (try simp only [Exit.then, Exit.inBlock, ↓reduceIte, Nat.reduceEqDiff])
    refine hK6 _ _ ?_
    refine wp_cond_split (t := ((decide (((i : Nat) : Int) < ((s.size : Nat) : Int))) && (decide (((i : Nat) : Int) < (8 : Int))))) (hf.ev rfl) (fun hqt13_1 => ?_) (fun hqt13_1 => ?_)
    · have hqt13_1b := hqt13_1
      try simp only [decide_eq_true_eq, Bool.and_eq_true, Bool.or_eq_true, Bool.not_eq_true', decide_eq_false_iff_not, ne_eq, Bool.not_eq_true] at hqt13_1
      refine wp_skip ?_
      (try simp only [Exit.then, Exit.inBlock, ↓reduceIte, Nat.reduceEqDiff])
      refine hK5 _ _ ?_
      refine wp_seq_k (fun K7 hK7 => ?_)
      refine wp_block ?_
      refine wp_seq_k (fun K8 hK8 => ?_)
      have hsb := sbt_lt s i
      obtain ⟨hs1, hs2, hs3, hk56⟩ := numR_step (l := nums s) (i := i) (o := o) (k := k) (by omega) (nums_rng s) (nums_get (by omega)) ho hkk
      rw [Int.toNat_natCast] at hs1 hs2
      refine wp_region_lit ?_
      refine sqv hf (r_move rfl) rfl rfl rfl ?_; clear hf fa; intro fa hf
      refine sqv hf (r_move rfl) rfl rfl rfl ?_; clear hf fa; intro fa hf
      refine sqv hf (r_move rfl) rfl rfl rfl ?_; clear hf fa; intro fa hf
      refine sqv hf (r_sindexD (j := i) rfl rfl Try.underlying9 rfl (by omega)) rfl rfl rfl ?_; clear hf fa; intro fa hf
      refine sqv hf (r_conv (C := ((sbt s i : Nat) : Int)) rfl Try.underlying5 Try.underlying26 (by rw [IntKind.wrap_u64]; omega)) rfl rfl rfl ?_; clear hf fa; intro fa hf
      refine sqv hf (r_move rfl) rfl rfl rfl ?_; clear hf fa; intro fa hf
      refine sqv hf (r_mul (C := (((sbt s i * k) : Nat) : Int)) rfl rfl (mulb hsb hk56)) rfl rfl rfl ?_; clear hf fa; intro fa hf
      refine sqv hf (r_add (C := (((o + sbt s i * k) : Nat) : Int)) rfl rfl (by rw [IntKind.wrap_u64]; omega)) rfl rfl rfl ?_; clear hf fa; intro fa hf
      refine sqv hf (r_assign rfl) rfl rfl rfl ?_; clear hf fa; intro fa hf
      apply wpList_nil
      (try simp only [Exit.then, Exit.inBlock, ↓reduceIte, Nat.reduceEqDiff])
      refine hK8 _ _ ?_
      refine wp_region_lit ?_
      refine sqv hf (r_move rfl) rfl rfl rfl ?_; clear hf fa; intro fa hf
      refine sqv hf (r_mul (C := (((k * 256 % 18446744073709551616) : Nat) : Int)) rfl rfl (by rw [IntKind.wrap_u64]; omega)) rfl rfl rfl ?_; clear hf fa; intro fa hf
      refine sqv hf (r_assign rfl) rfl rfl rfl ?_; clear hf fa; intro fa hf
      apply wpList_nil
      (try simp only [Exit.then, Exit.inBlock, ↓reduceIte, Nat.reduceEqDiff])
      refine hK7 _ _ ?_
      refine wp_region_lit ?_
      refine sqv hf (r_move rfl) rfl rfl rfl ?_; clear hf fa; intro fa hf
      refine sqv hf (r_add (C := (((i : Nat) : Int) + (1 : Int))) rfl rfl (by rw [IntKind.wrap_i64]; omega)) rfl rfl rfl ?_; clear hf fa; intro fa hf
      refine sqv hf (r_assign rfl) rfl rfl rfl ?_; clear hf fa; intro fa hf
      apply wpList_nil
      (try simp only [Exit.then, Exit.inBlock, ↓reduceIte, Nat.reduceEqDiff])
      refine hKL1 _ _ _ (by omega) ⟨(i + 1), (o + sbt s i * k), (k * 256 % 18446744073709551616), rfl, hf.sub ⟨rfl, (some_int (by first | rfl | omega)), rfl, (some_int (by first | rfl | omega)), trivial⟩, hb, by omega, by omega, hs1, hs3⟩
    · have hqt13_1b := hqt13_1
      replace hqt13_1 := Bool.eq_false_iff.1 hqt13_1
      try simp only [ne_eq, decide_eq_true_eq, Bool.and_eq_true, Bool.or_eq_true, Bool.not_eq_true', decide_eq_false_iff_not] at hqt13_1
      refine wp_exit ?_
      (try simp only [Exit.then, Exit.inBlock, ↓reduceIte, Nat.reduceEqDiff])
      refine hK3 _ _ ?_
      refine wp_seq_k (fun K9 hK9 => ?_)
      refine wp_region_lit ?_
      refine sqv hf (r_move rfl) rfl rfl rfl ?_; clear hf fa; intro fa hf
      refine sqv hf (r_assign rfl) rfl rfl rfl ?_; clear hf fa; intro fa hf
      apply wpList_nil
      (try simp only [Exit.then, Exit.inBlock, ↓reduceIte, Nat.reduceEqDiff])
      refine hK9 _ _ ?_
      refine wp_ret ?_
      (try simp only [Exit.then, Exit.inBlock])
      refine ret1 hf rfl rfl ?_
      refine ⟨?_, hb⟩
      have h := hqt13_1
      rw [ho, numR_end (i := i) (by omega) (by omega) (by omega)]

theorem rem8 (x : Nat) : ((x : Nat) : Int).tmod 256 = ((x % 256 : Nat) : Int) := by rw [Int.tmod_eq_emod_of_nonneg (by omega)]; omega
theorem quo8' {x : Nat} (h : x < 18446744073709551616) : IntKind.u64.wrap (((x : Nat) : Int).tdiv 256) = ((x / 256 : Nat) : Int) := by rw [Int.tdiv_eq_ediv_of_nonneg (by omega), IntKind.wrap_u64]; omega
theorem quo8 {v k : Nat} (h : v < 18446744073709551616) : IntKind.u64.wrap (((v / 256 ^ k : Nat) : Int).tdiv 256) = ((v / 256 ^ (k + 1) : Nat) : Int) := by
  rw [Nat.pow_succ, ← Nat.div_div_eq_div_mul]
  exact quo8' (Nat.lt_of_le_of_lt (Nat.div_le_self _ _) h)

set_option maxHeartbeats 1000000 in
set_option maxRecDepth 100000 in
theorem dbytes_any (v : Nat) (n : Int) (w : World) (hv : v < 18446744073709551616) : Calls Try.prog 50 #[(.int .u64 ((v : Nat) : Int)), (.int .i64 n)] w fun e w' => e = .returned (.string (strOfNums (bytesN (capN n) v))) ∧ Below w.heap.size w w' := by
  have hv0 : v = v / 256 ^ 0 := by simp
  have hvl : ∀ k, v / 256 ^ k ≤ v := fun k => Nat.div_le_self _ _
  have hb0 : (bytesN 0 v).length = 0 := rfl
  refine sx_enter (L := [(0, (.int .u64 ((v : Nat) : Int))), (1, (.int .i64 n))]) Try.func50 rfl rfl rfl rfl (fun fa hf => ?_)
  have hb : Below w.heap.size w w := Below.refl _ _
  refine wp_seq_k (fun K1 hK1 => ?_)
  refine wp_region_lit ?_
  refine sqv hf (r_assign rfl) rfl rfl rfl ?_; clear hf fa; intro fa hf
  apply wpList_nil
  (try simp only [Exit.then, Exit.inBlock, ↓reduceIte, Nat.reduceEqDiff])
  refine hK1 _ _ ?_
  refine wp_seq_k (fun K2 hK2 => ?_)
  refine wp_region_lit ?_
  refine sqv hf (r_assign rfl) rfl rfl rfl ?_; clear hf fa; intro fa hf
  apply wpList_nil
  (try simp only [Exit.then, Exit.inBlock, ↓reduceIte, Nat.reduceEqDiff])
  refine hK2 _ _ ?_
  refine wp_seq_k (fun K3 hK3 => ?_)
  refine wp_seq_k (fun K4 hK4 => ?_)
  refine wp_region_lit ?_
  refine sqv hf (r_assign rfl) rfl rfl rfl ?_; clear hf fa; intro fa hf
  apply wpList_nil
  (try simp only [Exit.then, Exit.inBlock, ↓reduceIte, Nat.reduceEqDiff])
  refine hK4 _ _ ?_
  refine wp_block ?_
  refine wp_loop_k (fun mq fa wr => ∃ (k : Nat) (roa : Option Addr) (roc : Nat), mq = capN n - k ∧ Fr 26 fa [(0, (.int .u64 (((v / 256 ^ k) : Nat) : Int))), (1, (.int .i64 n)), (6, (.int .i64 ((k : Nat) : Int))), (5, (.slice roa (((bytesN k v)).length) roc))] ∧ Below w.heap.size w wr ∧ Row 1 (vInt .u8) 5 (w.heap.size) wr (.slice roa (((bytesN k v)).length) roc) (bytesN k v) ∧ (k ≤ capN n)) ?_ ?_
  · skip
    exact ⟨_, 0, none, 0, rfl, hf.sub ⟨(some_int (by first | rfl | omega)), rfl, (some_int (by first | rfl | omega)), (some_sl (by first | omega | (simp only [List.length_append, List.length_cons, List.length_nil]; omega) | (simp <;> omega)) rfl), trivial⟩, hb, Row.nil, by omega⟩
  · skip
    clear hf fa; intro mq1 fa w1 hI KL1 hKL1
    clear hb
    obtain ⟨k, roa, roc, hmq1, hf, hb, hro, hk⟩ := hI
    have hcro := Row.caps hro
    have hkl := bytesN_len k v; have hc8 := capN_le n; have hcl := capN_lt (n := n) (i := k)
    refine wp_seq_k (fun K5 hK5 => ?_)
    refine wp_seq_k (fun K6 hK6 => ?_)
    refine wp_region_lit ?_
    refine sqv hf (r_move rfl) rfl rfl rfl ?_; clear hf fa; intro fa hf
    refine sqv hf (r_move rfl) rfl rfl rfl ?_; clear hf fa; intro fa hf
    refine sqv hf (r_lt rfl rfl) rfl rfl rfl ?_; clear hf fa; intro fa hf
    refine sqv hf (r_move rfl) rfl rfl rfl ?_; clear hf fa; intro fa hf
    refine sqgT (act := (decide (((k : Nat) : Int) < n))) (ag := true) (c := (decide (((k : Nat) : Int) < n))) (v := (.int .i64 ((k : Nat) : Int))) hf rfl rfl rfl (fun hact => (r_move rfl)) rfl rfl ?_; clear hf fa; intro fa hf
    refine sqgT (act := (decide (((k : Nat) : Int) < n))) (ag := true) (c := (decide (((k : Nat) : Int) < n))) (v := (.bool (decide (((k : Nat) : Int) < (8 : Int))))) hf rfl rfl rfl (fun hact => (r_lt (gb_ev hact rfl) rfl)) rfl rfl ?_; clear hf fa; intro fa hf
    refine sqv hf (r_pickA (b := (decide (((k : Nat) : Int) < n))) (e := (decide (((k : Nat) : Int) < (8 : Int)))) rfl rfl rfl) rfl rfl rfl ?_; clear hf fa; intro fa hf
    apply wpList_nil
    (try simp only [Exit.then, Exit.inBlock, ↓reduceIte, Nat.reduceEqDiff])
    refine hK6 _ _ ?_
    refine wp_cond_split (t := ((decide (((k : Nat) : Int) < n)) && (decide (((k : Nat) : Int) < (8 : Int))))) (hf.ev rfl) (fun hqt13_1 => ?_) (fun hqt13_1 => ?_)
    · have hqt13_1b := hqt13_1
      try simp only [decide_eq_true_eq, Bool.and_eq_true, Bool.or_eq_true, Bool.not_eq_true', decide_eq_false_iff_not, ne_eq, Bool.not_eq_true] at hqt13_1
      refine wp_skip ?_
      (try simp only [Exit.then, Exit.inBlock, ↓reduceIte, Nat.reduceEqDiff])
      refine hK5 _ _ ?_
      refine wp_seq_k (fun K7 hK7 => ?_)
      refine wp_block ?_
      refine wp_seq_k (fun K8 hK8 => ?_)
      have hkc : k < capN n := hcl.1 (by have h := hqt13_1; omega)
      refine wp_region_lit ?_
      refine sqv hf (r_move rfl) rfl rfl rfl ?_; clear hf fa; intro fa hf
      refine sqv hf (r_move rfl) rfl rfl rfl ?_; clear hf fa; intro fa hf
      refine sqv hf (r_rem (C := (((v / 256 ^ k % 256) : Nat) : Int)) rfl rfl (by omega) (rem8 _)) rfl rfl rfl ?_; clear hf fa; intro fa hf
      refine sqv hf (r_conv (C := (((v / 256 ^ k % 256) : Nat) : Int)) rfl Try.underlying26 Try.underlying5 (by rw [IntKind.wrap_u8]; omega)) rfl rfl rfl ?_; clear hf fa; intro fa hf
      refine sqdt hf (d_bslice (z := (.int .u8 (0 : Int))) (sz := 1) (vs := [(0, (.int .u8 (((v / 256 ^ k % 256) : Nat) : Int)))]) (cs := #[(.int .u8 (((v / 256 ^ k % 256) : Nat) : Int))]) rfl Try.underlying84 (by kernel_rfl) rfl (by kernel_rfl)) rfl rfl rfl ?_; clear hf fa; rintro fa _ w2 ⟨b1, rfl, hle1, hk1, he1⟩ hf
      have hBb1 : w.heap.size ≤ b1 := Nat.le_trans hb.size hle1
      have hnr1 : (Value.slice roa ((((bytesN k v)).length)) roc).ownBlock ≠ some b1 := fun hq => by have := (Row.lt hro _ hq).2; omega
      have hnl1 : ∀ q, (Value.slice roa ((((bytesN k v)).length)) roc).ownBlock = some q → q < b1 := fun q hq => Nat.lt_of_lt_of_le (Row.lt hro q hq).2 hle1
      replace hro := Row.ext hro he1
      replace hb := hb.trans (Below.mono he1 hb.size)
      have hs1 := Row.rd (by intros; rfl) (Row.of_new (k := 1) (V := (vInt .u8)) (l := [(((v / 256 ^ k % 256) : Nat) : Int)]) hk1 (Nat.le_refl _) rfl rfl (Nat.le_of_ble_eq_true rfl))
      refine sqdt hf (d_append (V := (vInt .u8)) (k := 1) (e := 5) (bytes := 1) (z := (.int .u8 (0 : Int))) (news := [(((v / 256 ^ k % 256) : Nat) : Int)]) (base := w.heap.size) (by intros; rfl) (by intro x u hu; simp only [vInt, List.mem_singleton] at hu; subst hu; rfl) rfl rfl Try.underlying84 (by kernel_rfl) rfl rfl rfl hro hs1 rfl (fun h => by cases h) (by first | omega | (simp only [List.length_cons, List.length_nil, List.length_append, nums_len]; omega)) (by have := hb.size; omega)) rfl rfl rfl ?_; clear hf fa; rintro fa v w3 ⟨hr1, hg1⟩ hf; obtain ⟨ra1, rc1, rfl, hcrc1, hmrc1⟩ := Row.slice hr1
      replace hb := hb.trans (row_below hro hg1 hb.size (by have := hb.size; omega))
      refine sqv hf (r_assign rfl) rfl rfl rfl ?_; clear hf fa; intro fa hf
      apply wpList_nil
      (try simp only [Exit.then, Exit.inBlock, ↓reduceIte, Nat.reduceEqDiff])
      refine hK8 _ _ ?_
      refine wp_region_lit ?_
      refine sqv hf (r_move rfl) rfl rfl rfl ?_; clear hf fa; intro fa hf
      refine sqv hf (r_quo (C := (((v / 256 ^ (k + 1)) : Nat) : Int)) rfl rfl (by omega) (quo8 hv)) rfl rfl rfl ?_; clear hf fa; intro fa hf
      refine sqv hf (r_assign rfl) rfl rfl rfl ?_; clear hf fa; intro fa hf
      apply wpList_nil
      (try simp only [Exit.then, Exit.inBlock, ↓reduceIte, Nat.reduceEqDiff])
      refine hK7 _ _ ?_
      refine wp_region_lit ?_
      refine sqv hf (r_move rfl) rfl rfl rfl ?_; clear hf fa; intro fa hf
      refine sqv hf (r_add (C := (((k : Nat) : Int) + (1 : Int))) rfl rfl (by rw [IntKind.wrap_i64]; omega)) rfl rfl rfl ?_; clear hf fa; intro fa hf
      refine sqv hf (r_assign rfl) rfl rfl rfl ?_; clear hf fa; intro fa hf
      apply wpList_nil
      (try simp only [Exit.then, Exit.inBlock, ↓reduceIte, Nat.reduceEqDiff])
      have hbl := congrArg List.length (bytesN_snoc k v)
      refine hKL1 _ _ _ (by omega) ⟨(k + 1), ra1, rc1, rfl, hf.sub ⟨rfl, rfl, (some_int (by first | rfl | omega)), (some_sl (by first | omega | (simp only [List.length_append, List.length_cons, List.length_nil]; omega) | (simp <;> omega)) rfl), trivial⟩, hb, (crowTo hr1 (bytesN_snoc k v).symm), by omega⟩
    · have hqt13_1b := hqt13_1
      replace hqt13_1 := Bool.eq_false_iff.1 hqt13_1
      try simp only [ne_eq, decide_eq_true_eq, Bool.and_eq_true, Bool.or_eq_true, Bool.not_eq_true', decide_eq_false_iff_not] at hqt13_1
      refine wp_exit ?_
      (try simp only [Exit.then, Exit.inBlock, ↓reduceIte, Nat.reduceEqDiff])
      refine hK3 _ _ ?_
      refine wp_seq_k (fun K9 hK9 => ?_)
      refine wp_region_lit ?_
      refine sqv hf (r_move rfl) rfl rfl rfl ?_; clear hf fa; intro fa hf
      refine sqv hf (r_rowstr rfl Try.underlying84 Try.underlying5 Try.underlying9 hro) rfl rfl rfl ?_; clear hf fa; intro fa hf
      refine sqv hf (r_assign rfl) rfl rfl rfl ?_; clear hf fa; intro fa hf
      apply wpList_nil
      (try simp only [Exit.then, Exit.inBlock, ↓reduceIte, Nat.reduceEqDiff])
      refine hK9 _ _ ?_
      refine wp_ret ?_
      (try simp only [Exit.then, Exit.inBlock])
      refine ret1 hf rfl rfl ?_
      have hkk : k = capN n := by have h := hqt13_1; omega
      rw [← hkk]; exact ⟨rfl, hb⟩

theorem low32_any (v : Nat) (w : World) (hv : v < 18446744073709551616) : Calls Try.prog 74 #[(.int .u64 ((v : Nat) : Int)), (.int .i64 (32 : Int))] w fun e w' => e = .returned (.int .u64 ((v % 4294967296 : Nat) : Int)) ∧ Below w.heap.size w w' := by
  have h := low_any v 32 w hv
  rw [show (2 : Nat) ^ lowB 32 = 4294967296 from by decide] at h
  exact h
end Go.Proofs.Ytmcmickgllffoaa
