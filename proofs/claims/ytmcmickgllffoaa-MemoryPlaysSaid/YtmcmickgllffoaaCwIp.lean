/- What is proved here: the reference's Read. -/
import Derived.Test.YtmcmickgllffoaaCwHp
namespace Go.Proofs.Ytmcmickgllffoaa
open Go.RowKit
set_option linter.unusedVariables false
set_option linter.unusedSimpArgs false
theorem acc_ty {op : Nat} (hop : op < 256) (h : (accT op).2.2.2.2 = true) : (accT op).2.1 = 126 ∨ (accT op).2.1 = 127 := by
  have : ∀ j : Fin 256, (accT j.val).2.2.2.2 = true → (accT j.val).2.1 = 126 ∨ (accT j.val).2.1 = 127 := by decide +kernel
  exact this ⟨op, hop⟩ h

set_option maxHeartbeats 1000000 in
set_option maxRecDepth 100000 in
theorem rread_any (op : Nat) (s : ByteArray) (w : World) (hop : op < 256) (hs : s.size ≤ 9223372036854775807) : Calls Try.prog 45 #[(.int .i64 ((op : Nat) : Int)), (.string s)] w fun e w' => e = .returned (.tuple #[.agg #[.int .u8 (readT op (nums s)).1, .int .u64 (((readT op (nums s)).2.1 : Nat) : Int)], .bool (readT op (nums s)).2.2]) ∧ Below w.heap.size w w' := by
  have hnum := num_all_lt (l := nums s) (nums_rng s)
  refine sx_enter (L := [(0, (.int .i64 ((op : Nat) : Int))), (1, (.string s))]) Try.func45 rfl rfl rfl rfl (fun fa hf => ?_)
  have hb : Below w.heap.size w w := Below.refl _ _
  refine wp_seq_k (fun K1 hK1 => ?_)
  refine wp_region_lit ?_
  refine sqdt hf (d_alloc (z := (.agg #[(.int .u8 (0 : Int)), (.int .u64 (0 : Int))])) (cs := #[(.int .u8 (0 : Int)), (.int .u64 (0 : Int))]) (by kernel_rfl) rfl) rfl rfl rfl ?_; clear hf fa; rintro fa _ w1 ⟨b1, rfl, hle1, hk1, he1⟩ hf
  have hBb1 : w.heap.size ≤ b1 := Nat.le_trans hb.size hle1
  replace hb := hb.trans (Below.mono he1 hb.size)
  refine sqv hf (r_assign rfl) rfl rfl rfl ?_; clear hf fa; intro fa hf
  apply wpList_nil
  (try simp only [Exit.then, Exit.inBlock, ↓reduceIte, Nat.reduceEqDiff])
  refine hK1 _ _ ?_
  refine wp_seq_k (fun K2 hK2 => ?_)
  refine wp_region_lit ?_
  refine sqv hf (r_move rfl) rfl rfl rfl ?_; clear hf fa; intro fa hf
  refine sqdt hf (d_callB (vs := [(.int .i64 ((op : Nat) : Int))]) rfl Try.func47 (by kernel_rfl) (by kernel_rfl) (racc_any op _ hop)) rfl rfl rfl ?_; clear hf fa; rintro fa _ w2 ⟨rfl, he2⟩ hf
  replace hk1 := blk_ext hk1 he2
  replace hb := hb.trans (Below.mono he2 hb.size)
  refine sqv hf (r_move rfl) rfl rfl rfl ?_; clear hf fa; intro fa hf
  refine sqv hf (r_extract rfl (i := 0) rfl) rfl rfl rfl ?_; clear hf fa; intro fa hf
  refine sqv hf (r_extract rfl (i := 1) rfl) rfl rfl rfl ?_; clear hf fa; intro fa hf
  refine sqv hf (r_extract rfl (i := 2) rfl) rfl rfl rfl ?_; clear hf fa; intro fa hf
  refine sqv hf (r_extract rfl (i := 3) rfl) rfl rfl rfl ?_; clear hf fa; intro fa hf
  refine sqv hf (r_extract rfl (i := 4) rfl) rfl rfl rfl ?_; clear hf fa; intro fa hf
  refine sqv hf (r_assign rfl) rfl rfl rfl ?_; clear hf fa; intro fa hf
  refine sqv hf (r_assign rfl) rfl rfl rfl ?_; clear hf fa; intro fa hf
  refine sqv hf (r_assign rfl) rfl rfl rfl ?_; clear hf fa; intro fa hf
  refine sqv hf (r_assign rfl) rfl rfl rfl ?_; clear hf fa; intro fa hf
  refine sqv hf (r_assign rfl) rfl rfl rfl ?_; clear hf fa; intro fa hf
  apply wpList_nil
  (try simp only [Exit.then, Exit.inBlock, ↓reduceIte, Nat.reduceEqDiff])
  refine hK2 _ _ ?_
  refine wp_seq_k (fun K3 hK3 => ?_)
  refine wp_seq_k (fun K4 hK4 => ?_)
  refine wp_region_lit ?_
  refine sqv hf (r_move rfl) rfl rfl rfl ?_; clear hf fa; intro fa hf
  refine sqv hf (r_not rfl) rfl rfl rfl ?_; clear hf fa; intro fa hf
  refine sqv hf (r_move rfl) rfl rfl rfl ?_; clear hf fa; intro fa hf
  refine sqgF (act := (!(!(accT op).2.2.2.2))) (ag := true) (c := (!(accT op).2.2.2.2)) (v := (.bool (accT op).2.2.1)) hf rfl rfl rfl (fun hact => (r_move rfl)) rfl rfl ?_; clear hf fa; intro fa hf
  refine sqv hf (r_pickO (b := (!(accT op).2.2.2.2)) (e := (accT op).2.2.1) rfl rfl rfl) rfl rfl rfl ?_; clear hf fa; intro fa hf
  refine sqv hf (r_move rfl) rfl rfl rfl ?_; clear hf fa; intro fa hf
  refine sqgF (act := (!((!(accT op).2.2.2.2) || (accT op).2.2.1))) (ag := true) (c := ((!(accT op).2.2.2.2) || (accT op).2.2.1)) (v := (.string s)) hf rfl rfl rfl (fun hact => (r_move rfl)) rfl rfl ?_; clear hf fa; intro fa hf
  refine sqgF (act := (!((!(accT op).2.2.2.2) || (accT op).2.2.1))) (ag := true) (c := ((!(accT op).2.2.2.2) || (accT op).2.2.1)) (v := (.int .i64 ((s.size : Nat) : Int))) hf rfl rfl rfl (fun hact => (r_lens (gb_ev hact rfl) Try.underlying9)) rfl rfl ?_; clear hf fa; intro fa hf
  refine sqgF (act := (!((!(accT op).2.2.2.2) || (accT op).2.2.1))) (ag := true) (c := ((!(accT op).2.2.2.2) || (accT op).2.2.1)) (v := (.int .i64 ((accT op).1))) hf rfl rfl rfl (fun hact => (r_move rfl)) rfl rfl ?_; clear hf fa; intro fa hf
  refine sqgF (act := (!((!(accT op).2.2.2.2) || (accT op).2.2.1))) (ag := true) (c := ((!(accT op).2.2.2.2) || (accT op).2.2.1)) (v := (.bool (decide (((s.size : Nat) : Int) ≠ ((accT op).1))))) hf rfl rfl rfl (fun hact => (r_ne (gb_ev hact rfl) (gb_ev hact rfl))) rfl rfl ?_; clear hf fa; intro fa hf
  refine sqv hf (r_pickO (b := ((!(accT op).2.2.2.2) || (accT op).2.2.1)) (e := (decide (((s.size : Nat) : Int) ≠ ((accT op).1)))) rfl rfl rfl) rfl rfl rfl ?_; clear hf fa; intro fa hf
  apply wpList_nil
  (try simp only [Exit.then, Exit.inBlock, ↓reduceIte, Nat.reduceEqDiff])
  refine hK4 _ _ ?_
  refine wp_cond_split (t := (((!(accT op).2.2.2.2) || (accT op).2.2.1) || (decide (((s.size : Nat) : Int) ≠ ((accT op).1))))) (hf.ev rfl) (fun hqt30_1 => ?_) (fun hqt30_1 => ?_)
  · have hqt30_1b := hqt30_1
    try simp only [decide_eq_true_eq, Bool.and_eq_true, Bool.or_eq_true, Bool.not_eq_true', decide_eq_false_iff_not, ne_eq, Bool.not_eq_true] at hqt30_1
    refine wp_seq_k (fun K5 hK5 => ?_)
    refine wp_region_lit ?_
    refine sqv hf (r_build (vs := []) (cs := #[(.int .u8 (0 : Int)), (.int .u64 (0 : Int))]) rfl (fun _ => by kernel_rfl)) rfl rfl rfl ?_; clear hf fa; intro fa hf
    refine sqn hf (d_storeK (T := 86) (v := (.agg #[(.int .u8 (0 : Int)), (.int .u64 (0 : Int))])) (cs := #[(.int .u8 (0 : Int)), (.int .u64 (0 : Int))]) (cs' := #[(.int .u8 (0 : Int)), (.int .u64 (0 : Int))]) rfl rfl (by kernel_rfl) (by kernel_rfl) hk1 (by kernel_rfl) (by kernel_rfl)) rfl rfl ?_; clear hf fa; rintro fa _ w3 ⟨hk2, hg1⟩ hf
    replace hb := hb.trans (grown_below hg1 hb.size hBb1)
    refine sqv hf (r_assign rfl) rfl rfl rfl ?_; clear hf fa; intro fa hf
    apply wpList_nil
    (try simp only [Exit.then, Exit.inBlock, ↓reduceIte, Nat.reduceEqDiff])
    refine hK5 _ _ ?_
    refine wp_ret ?_
    (try simp only [Exit.then, Exit.inBlock])
    refine retCT hf rfl rfl hk2 Try.underlying86 rfl (by kernel_rfl) rfl ?_
    have hD : readT op (nums s) = (0, 0, false) := by unfold readT; rw [if_neg]; rintro ⟨h1, h2, h3⟩; rw [nums_len] at h3; have h := hqt30_1; simp [h1, h2, h3] at h
    rw [hD]; exact ⟨rfl, hb⟩
  · have hqt30_1b := hqt30_1
    replace hqt30_1 := Bool.eq_false_iff.1 hqt30_1
    try simp only [ne_eq, decide_eq_true_eq, Bool.and_eq_true, Bool.or_eq_true, Bool.not_eq_true', decide_eq_false_iff_not] at hqt30_1
    refine wp_skip ?_
    (try simp only [Exit.then, Exit.inBlock, ↓reduceIte, Nat.reduceEqDiff])
    refine hK3 _ _ ?_
    refine wp_seq_k (fun K6 hK6 => ?_)
    refine wp_region_lit ?_
    refine sqv hf (r_move rfl) rfl rfl rfl ?_; clear hf fa; intro fa hf
    refine sqdt hf (d_callB (vs := [(.string s)]) rfl Try.func49 (by kernel_rfl) (by kernel_rfl) (dnumber_any s _ hs)) rfl rfl rfl ?_; clear hf fa; rintro fa _ w4 ⟨rfl, he3⟩ hf
    replace hk1 := blk_ext hk1 he3
    replace hb := hb.trans (Below.mono he3 hb.size)
    refine sqv hf (r_assign rfl) rfl rfl rfl ?_; clear hf fa; intro fa hf
    apply wpList_nil
    (try simp only [Exit.then, Exit.inBlock, ↓reduceIte, Nat.reduceEqDiff])
    refine hK6 _ _ ?_
    refine wp_seq_k (fun K7 hK7 => ?_)
    refine wp_seq_k (fun K8 hK8 => ?_)
    refine wp_region_lit ?_
    refine sqv hf (r_move rfl) rfl rfl rfl ?_; clear hf fa; intro fa hf
    apply wpList_nil
    (try simp only [Exit.then, Exit.inBlock, ↓reduceIte, Nat.reduceEqDiff])
    refine hK8 _ _ ?_
    refine wp_cond_split (t := (accT op).2.2.2.1) (hf.ev rfl) (fun hqt34_1 => ?_) (fun hqt34_1 => ?_)
    · have hqt34_1b := hqt34_1
      try simp only [decide_eq_true_eq, Bool.and_eq_true, Bool.or_eq_true, Bool.not_eq_true', decide_eq_false_iff_not, ne_eq, Bool.not_eq_true] at hqt34_1
      refine wp_region_lit ?_
      refine sqv hf (r_move rfl) rfl rfl rfl ?_; clear hf fa; intro fa hf
      refine sqv hf (r_move rfl) rfl rfl rfl ?_; clear hf fa; intro fa hf
      refine sqdt hf (d_callB (vs := [(.int .u64 (((numL ((nums s).take 8)) : Nat) : Int)), (.int .i64 ((accT op).1))]) rfl Try.func55 (by kernel_rfl) (by kernel_rfl) (rextend_any (numL ((nums s).take 8)) (accT op).1 _ hnum)) rfl rfl rfl ?_; clear hf fa; rintro fa _ w5 ⟨rfl, he4⟩ hf
      replace hk1 := blk_ext hk1 he4
      replace hb := hb.trans (Below.mono he4 hb.size)
      refine sqv hf (r_assign rfl) rfl rfl rfl ?_; clear hf fa; intro fa hf
      apply wpList_nil
      (try simp only [Exit.then, Exit.inBlock, ↓reduceIte, Nat.reduceEqDiff])
      refine hK7 _ _ ?_
      refine wp_seq_k (fun K9 hK9 => ?_)
      refine wp_seq_k (fun K10 hK10 => ?_)
      refine wp_region_lit ?_
      refine sqv hf (r_move rfl) rfl rfl rfl ?_; clear hf fa; intro fa hf
      apply wpList_nil
      (try simp only [Exit.then, Exit.inBlock, ↓reduceIte, Nat.reduceEqDiff])
      refine hK10 _ _ ?_
      refine wp_cond_split (t := (decide ((accT op).2.1 = 126))) (hf.ev rfl) (fun hqt38_1 => ?_) (fun hqt38_1 => ?_)
      · have hqt38_1b := hqt38_1
        try simp only [decide_eq_true_eq, Bool.and_eq_true, Bool.or_eq_true, Bool.not_eq_true', decide_eq_false_iff_not, ne_eq, Bool.not_eq_true] at hqt38_1
        refine wp_seq_k (fun K11 hK11 => ?_)
        refine wp_region_lit ?_
        refine sqv hf (r_move rfl) rfl rfl rfl ?_; clear hf fa; intro fa hf
        refine sqv hf (r_build (vs := [(0, (.int .u8 (126 : Int))), (1, (.int .u64 (((extP (numL ((nums s).take 8)) (accT op).1) : Nat) : Int)))]) (cs := #[(.int .u8 (126 : Int)), (.int .u64 (((extP (numL ((nums s).take 8)) (accT op).1) : Nat) : Int))]) rfl (fun _ => by kernel_rfl)) rfl rfl rfl ?_; clear hf fa; intro fa hf
        refine sqn hf (d_storeK (T := 86) (v := (.agg #[(.int .u8 (126 : Int)), (.int .u64 (((extP (numL ((nums s).take 8)) (accT op).1) : Nat) : Int))])) (cs := #[(.int .u8 (0 : Int)), (.int .u64 (0 : Int))]) (cs' := #[(.int .u8 (126 : Int)), (.int .u64 (((extP (numL ((nums s).take 8)) (accT op).1) : Nat) : Int))]) rfl rfl (by kernel_rfl) (by kernel_rfl) hk1 (by kernel_rfl) (by kernel_rfl)) rfl rfl ?_; clear hf fa; rintro fa _ w6 ⟨hk3, hg2⟩ hf
        replace hb := hb.trans (grown_below hg2 hb.size hBb1)
        refine sqv hf (r_assign rfl) rfl rfl rfl ?_; clear hf fa; intro fa hf
        apply wpList_nil
        (try simp only [Exit.then, Exit.inBlock, ↓reduceIte, Nat.reduceEqDiff])
        refine hK11 _ _ ?_
        refine wp_ret ?_
        (try simp only [Exit.then, Exit.inBlock])
        refine retCT hf rfl rfl hk3 Try.underlying86 rfl (by kernel_rfl) rfl ?_
        have hq : (accT op).2.2.2.2 = true ∧ (accT op).2.2.1 = false ∧ ((s.size : Nat) : Int) = (accT op).1 := by have h := hqt30_1; simp only [Bool.or_eq_true, not_or, Bool.not_eq_true, Bool.not_eq_false', Bool.not_not, decide_eq_false_iff_not, ne_eq, Decidable.not_not, Bool.not_eq_true', Bool.not_eq_eq_eq_not, Bool.not_true, Bool.not_false] at h; exact ⟨by simpa using h.1.1, by simpa using h.1.2, h.2⟩
        have hty : (accT op).2.1 = 126 := by have h := hqt38_1; have h2 := acc_ty hop hq.1; omega
        have h1 : readT op (nums s) = ((accT op).2.1, (if (accT op).2.1 = 127 then (if (accT op).2.2.2.1 = true then extP (numL ((nums s).take 8)) (accT op).1 else (numL ((nums s).take 8))) % 4294967296 else (if (accT op).2.2.2.1 = true then extP (numL ((nums s).take 8)) (accT op).1 else (numL ((nums s).take 8)))), true) := by unfold readT; rw [if_pos (by rw [nums_len]; exact hq)]
        rw [hty, if_neg (show ¬ ((126 : Int) = 127) by decide), if_pos (by have h := hqt34_1; simpa using h)] at h1
        rw [h1]; exact ⟨rfl, hb⟩
      · have hqt38_1b := hqt38_1
        replace hqt38_1 := Bool.eq_false_iff.1 hqt38_1
        try simp only [ne_eq, decide_eq_true_eq, Bool.and_eq_true, Bool.or_eq_true, Bool.not_eq_true', decide_eq_false_iff_not] at hqt38_1
        refine wp_skip ?_
        (try simp only [Exit.then, Exit.inBlock, ↓reduceIte, Nat.reduceEqDiff])
        refine hK9 _ _ ?_
        refine wp_seq_k (fun K12 hK12 => ?_)
        refine wp_region_lit ?_
        refine sqv hf (r_move rfl) rfl rfl rfl ?_; clear hf fa; intro fa hf
        refine sqdt hf (d_callB (vs := [(.int .u64 (((extP (numL ((nums s).take 8)) (accT op).1) : Nat) : Int)), (.int .i64 (32 : Int))]) rfl Try.func74 (by kernel_rfl) (by kernel_rfl) (low32_any ((extP (numL ((nums s).take 8)) (accT op).1)) _ (by first | exact hnum | exact extP_lt hnum))) rfl rfl rfl ?_; clear hf fa; rintro fa _ w7 ⟨rfl, he5⟩ hf
        replace hk1 := blk_ext hk1 he5
        replace hb := hb.trans (Below.mono he5 hb.size)
        refine sqv hf (r_build (vs := [(0, (.int .u8 (127 : Int))), (1, (.int .u64 (((((extP (numL ((nums s).take 8)) (accT op).1)) % 4294967296) : Nat) : Int)))]) (cs := #[(.int .u8 (127 : Int)), (.int .u64 (((((extP (numL ((nums s).take 8)) (accT op).1)) % 4294967296) : Nat) : Int))]) rfl (fun _ => by kernel_rfl)) rfl rfl rfl ?_; clear hf fa; intro fa hf
        refine sqn hf (d_storeK (T := 86) (v := (.agg #[(.int .u8 (127 : Int)), (.int .u64 (((((extP (numL ((nums s).take 8)) (accT op).1)) % 4294967296) : Nat) : Int))])) (cs := #[(.int .u8 (0 : Int)), (.int .u64 (0 : Int))]) (cs' := #[(.int .u8 (127 : Int)), (.int .u64 (((((extP (numL ((nums s).take 8)) (accT op).1)) % 4294967296) : Nat) : Int))]) rfl rfl (by kernel_rfl) (by kernel_rfl) hk1 (by kernel_rfl) (by kernel_rfl)) rfl rfl ?_; clear hf fa; rintro fa _ w8 ⟨hk4, hg3⟩ hf
        replace hb := hb.trans (grown_below hg3 hb.size hBb1)
        refine sqv hf (r_assign rfl) rfl rfl rfl ?_; clear hf fa; intro fa hf
        apply wpList_nil
        (try simp only [Exit.then, Exit.inBlock, ↓reduceIte, Nat.reduceEqDiff])
        refine hK12 _ _ ?_
        refine wp_ret ?_
        (try simp only [Exit.then, Exit.inBlock])
        refine retCT hf rfl rfl hk4 Try.underlying86 rfl (by kernel_rfl) rfl ?_
        have hq : (accT op).2.2.2.2 = true ∧ (accT op).2.2.1 = false ∧ ((s.size : Nat) : Int) = (accT op).1 := by have h := hqt30_1; simp only [Bool.or_eq_true, not_or, Bool.not_eq_true, Bool.not_eq_false', Bool.not_not, decide_eq_false_iff_not, ne_eq, Decidable.not_not, Bool.not_eq_true', Bool.not_eq_eq_eq_not, Bool.not_true, Bool.not_false] at h; exact ⟨by simpa using h.1.1, by simpa using h.1.2, h.2⟩
        have hty : (accT op).2.1 = 127 := by have h := hqt38_1; have h2 := acc_ty hop hq.1; omega
        have h1 : readT op (nums s) = ((accT op).2.1, (if (accT op).2.1 = 127 then (if (accT op).2.2.2.1 = true then extP (numL ((nums s).take 8)) (accT op).1 else (numL ((nums s).take 8))) % 4294967296 else (if (accT op).2.2.2.1 = true then extP (numL ((nums s).take 8)) (accT op).1 else (numL ((nums s).take 8)))), true) := by unfold readT; rw [if_pos (by rw [nums_len]; exact hq)]
        rw [hty, if_pos rfl, if_pos (by have h := hqt34_1; simpa using h)] at h1
        rw [h1]; exact ⟨rfl, hb⟩
    · have hqt34_1b := hqt34_1
      replace hqt34_1 := Bool.eq_false_iff.1 hqt34_1
      try simp only [ne_eq, decide_eq_true_eq, Bool.and_eq_true, Bool.or_eq_true, Bool.not_eq_true', decide_eq_false_iff_not] at hqt34_1
      refine wp_skip ?_
      (try simp only [Exit.then, Exit.inBlock, ↓reduceIte, Nat.reduceEqDiff])
      refine hK7 _ _ ?_
      refine wp_seq_k (fun K13 hK13 => ?_)
      refine wp_seq_k (fun K14 hK14 => ?_)
      refine wp_region_lit ?_
      refine sqv hf (r_move rfl) rfl rfl rfl ?_; clear hf fa; intro fa hf
      apply wpList_nil
      (try simp only [Exit.then, Exit.inBlock, ↓reduceIte, Nat.reduceEqDiff])
      refine hK14 _ _ ?_
      refine wp_cond_split (t := (decide ((accT op).2.1 = 126))) (hf.ev rfl) (fun hqt38_2 => ?_) (fun hqt38_2 => ?_)
      · have hqt38_2b := hqt38_2
        try simp only [decide_eq_true_eq, Bool.and_eq_true, Bool.or_eq_true, Bool.not_eq_true', decide_eq_false_iff_not, ne_eq, Bool.not_eq_true] at hqt38_2
        refine wp_seq_k (fun K15 hK15 => ?_)
        refine wp_region_lit ?_
        refine sqv hf (r_move rfl) rfl rfl rfl ?_; clear hf fa; intro fa hf
        refine sqv hf (r_build (vs := [(0, (.int .u8 (126 : Int))), (1, (.int .u64 (((numL ((nums s).take 8)) : Nat) : Int)))]) (cs := #[(.int .u8 (126 : Int)), (.int .u64 (((numL ((nums s).take 8)) : Nat) : Int))]) rfl (fun _ => by kernel_rfl)) rfl rfl rfl ?_; clear hf fa; intro fa hf
        refine sqn hf (d_storeK (T := 86) (v := (.agg #[(.int .u8 (126 : Int)), (.int .u64 (((numL ((nums s).take 8)) : Nat) : Int))])) (cs := #[(.int .u8 (0 : Int)), (.int .u64 (0 : Int))]) (cs' := #[(.int .u8 (126 : Int)), (.int .u64 (((numL ((nums s).take 8)) : Nat) : Int))]) rfl rfl (by kernel_rfl) (by kernel_rfl) hk1 (by kernel_rfl) (by kernel_rfl)) rfl rfl ?_; clear hf fa; rintro fa _ w9 ⟨hk5, hg4⟩ hf
        replace hb := hb.trans (grown_below hg4 hb.size hBb1)
        refine sqv hf (r_assign rfl) rfl rfl rfl ?_; clear hf fa; intro fa hf
        apply wpList_nil
        (try simp only [Exit.then, Exit.inBlock, ↓reduceIte, Nat.reduceEqDiff])
        refine hK15 _ _ ?_
        refine wp_ret ?_
        (try simp only [Exit.then, Exit.inBlock])
        refine retCT hf rfl rfl hk5 Try.underlying86 rfl (by kernel_rfl) rfl ?_
        have hq : (accT op).2.2.2.2 = true ∧ (accT op).2.2.1 = false ∧ ((s.size : Nat) : Int) = (accT op).1 := by have h := hqt30_1; simp only [Bool.or_eq_true, not_or, Bool.not_eq_true, Bool.not_eq_false', Bool.not_not, decide_eq_false_iff_not, ne_eq, Decidable.not_not, Bool.not_eq_true', Bool.not_eq_eq_eq_not, Bool.not_true, Bool.not_false] at h; exact ⟨by simpa using h.1.1, by simpa using h.1.2, h.2⟩
        have hty : (accT op).2.1 = 126 := by have h := hqt38_2; have h2 := acc_ty hop hq.1; omega
        have h1 : readT op (nums s) = ((accT op).2.1, (if (accT op).2.1 = 127 then (if (accT op).2.2.2.1 = true then extP (numL ((nums s).take 8)) (accT op).1 else (numL ((nums s).take 8))) % 4294967296 else (if (accT op).2.2.2.1 = true then extP (numL ((nums s).take 8)) (accT op).1 else (numL ((nums s).take 8)))), true) := by unfold readT; rw [if_pos (by rw [nums_len]; exact hq)]
        rw [hty, if_neg (show ¬ ((126 : Int) = 127) by decide), if_neg (by have h := hqt34_1; simpa using h)] at h1
        rw [h1]; exact ⟨rfl, hb⟩
      · have hqt38_2b := hqt38_2
        replace hqt38_2 := Bool.eq_false_iff.1 hqt38_2
        try simp only [ne_eq, decide_eq_true_eq, Bool.and_eq_true, Bool.or_eq_true, Bool.not_eq_true', decide_eq_false_iff_not] at hqt38_2
        refine wp_skip ?_
        (try simp only [Exit.then, Exit.inBlock, ↓reduceIte, Nat.reduceEqDiff])
        refine hK13 _ _ ?_
        refine wp_seq_k (fun K16 hK16 => ?_)
        refine wp_region_lit ?_
        refine sqv hf (r_move rfl) rfl rfl rfl ?_; clear hf fa; intro fa hf
        refine sqdt hf (d_callB (vs := [(.int .u64 (((numL ((nums s).take 8)) : Nat) : Int)), (.int .i64 (32 : Int))]) rfl Try.func74 (by kernel_rfl) (by kernel_rfl) (low32_any ((numL ((nums s).take 8))) _ (by first | exact hnum | exact extP_lt hnum))) rfl rfl rfl ?_; clear hf fa; rintro fa _ w10 ⟨rfl, he6⟩ hf
        replace hk1 := blk_ext hk1 he6
        replace hb := hb.trans (Below.mono he6 hb.size)
        refine sqv hf (r_build (vs := [(0, (.int .u8 (127 : Int))), (1, (.int .u64 (((((numL ((nums s).take 8))) % 4294967296) : Nat) : Int)))]) (cs := #[(.int .u8 (127 : Int)), (.int .u64 (((((numL ((nums s).take 8))) % 4294967296) : Nat) : Int))]) rfl (fun _ => by kernel_rfl)) rfl rfl rfl ?_; clear hf fa; intro fa hf
        refine sqn hf (d_storeK (T := 86) (v := (.agg #[(.int .u8 (127 : Int)), (.int .u64 (((((numL ((nums s).take 8))) % 4294967296) : Nat) : Int))])) (cs := #[(.int .u8 (0 : Int)), (.int .u64 (0 : Int))]) (cs' := #[(.int .u8 (127 : Int)), (.int .u64 (((((numL ((nums s).take 8))) % 4294967296) : Nat) : Int))]) rfl rfl (by kernel_rfl) (by kernel_rfl) hk1 (by kernel_rfl) (by kernel_rfl)) rfl rfl ?_; clear hf fa; rintro fa _ w11 ⟨hk6, hg5⟩ hf
        replace hb := hb.trans (grown_below hg5 hb.size hBb1)
        refine sqv hf (r_assign rfl) rfl rfl rfl ?_; clear hf fa; intro fa hf
        apply wpList_nil
        (try simp only [Exit.then, Exit.inBlock, ↓reduceIte, Nat.reduceEqDiff])
        refine hK16 _ _ ?_
        refine wp_ret ?_
        (try simp only [Exit.then, Exit.inBlock])
        refine retCT hf rfl rfl hk6 Try.underlying86 rfl (by kernel_rfl) rfl ?_
        have hq : (accT op).2.2.2.2 = true ∧ (accT op).2.2.1 = false ∧ ((s.size : Nat) : Int) = (accT op).1 := by have h := hqt30_1; simp only [Bool.or_eq_true, not_or, Bool.not_eq_true, Bool.not_eq_false', Bool.not_not, decide_eq_false_iff_not, ne_eq, Decidable.not_not, Bool.not_eq_true', Bool.not_eq_eq_eq_not, Bool.not_true, Bool.not_false] at h; exact ⟨by simpa using h.1.1, by simpa using h.1.2, h.2⟩
        have hty : (accT op).2.1 = 127 := by have h := hqt38_2; have h2 := acc_ty hop hq.1; omega
        have h1 : readT op (nums s) = ((accT op).2.1, (if (accT op).2.1 = 127 then (if (accT op).2.2.2.1 = true then extP (numL ((nums s).take 8)) (accT op).1 else (numL ((nums s).take 8))) % 4294967296 else (if (accT op).2.2.2.1 = true then extP (numL ((nums s).take 8)) (accT op).1 else (numL ((nums s).take 8)))), true) := by unfold readT; rw [if_pos (by rw [nums_len]; exact hq)]
        rw [hty, if_pos rfl, if_neg (by have h := hqt34_1; simpa using h)] at h1
        rw [h1]; exact ⟨rfl, hb⟩
end Go.Proofs.Ytmcmickgllffoaa
