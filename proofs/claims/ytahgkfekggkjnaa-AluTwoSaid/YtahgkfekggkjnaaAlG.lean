/- What is proved here: the operators of 32 bits, the program's and the document's, walked; the law AluTwo is true. -/
import Derived.Test.YtahgkfekggkjnaaAlF
import Derived.Test.YtahgkfekggkjnaaAlQ
import Derived.Test.YtahgkfekggkjnaaAlC
namespace Go.Proofs.Ytahgkfekggkjnaa
open Go.RowKit
set_option linter.unusedVariables false
set_option linter.unusedSimpArgs false
set_option maxHeartbeats 1000000 in
set_option maxRecDepth 100000 in
theorem rtwo_any (o : Int) (A B : Nat) (w : World) (ho : 0 ≤ o ∧ o < 256) (hA : A < 4294967296) (hB : B < 4294967296) : Calls Try.prog 58 #[(.int .i64 o), (.int .u64 ((A : Nat) : Int)), (.int .u64 ((B : Nat) : Int))] w fun e w' => e = .returned (.tuple #[.int .u64 (rtwoP o A B).1, .int .i64 (rtwoP o A B).2]) ∧ Below w.heap.size w w' := by
  have hs1 := sarN_lt (A := A) (s := B % 32) (fill := A.testBit 31) hA (by omega); have hs2 := sarN_lt (A := A) (s := B % 32) (fill := false) hA (by omega); have hr1 := rotN_lt' (A := A) (s := B % 32) hA (by omega); have hr2 := rotN_lt' (A := A) (s := (32 - B % 32) % 32) hA (by omega)
  refine sx_enter (L := [(0, (.int .i64 o)), (1, (.int .u64 ((A : Nat) : Int))), (2, (.int .u64 ((B : Nat) : Int)))]) Try.func58 rfl rfl rfl rfl (fun fa hf => ?_)
  have hb : Below w.heap.size w w := Below.refl _ _
  refine wp_seq_k (fun K1 hK1 => ?_)
  refine wp_region_lit ?_
  refine sqv hf (r_assign rfl) rfl rfl rfl ?_; clear hf fa; intro fa hf
  refine sqv hf (r_assign rfl) rfl rfl rfl ?_; clear hf fa; intro fa hf
  apply wpList_nil
  (try simp only [Exit.then, Exit.inBlock, ↓reduceIte, Nat.reduceEqDiff])
  refine hK1 _ _ ?_
  refine wp_seq_k (fun K2 hK2 => ?_)
  refine wp_seq_k (fun K3 hK3 => ?_)
  refine wp_region_lit ?_
  refine sqv hf (r_move rfl) rfl rfl rfl ?_; clear hf fa; intro fa hf
  refine sqv hf (r_move rfl) rfl rfl rfl ?_; clear hf fa; intro fa hf
  refine sqv hf (r_move rfl) rfl rfl rfl ?_; clear hf fa; intro fa hf
  refine sqdt hf (d_callB (vs := [(.int .i64 o), (.int .u64 ((A : Nat) : Int)), (.int .u64 ((B : Nat) : Int))]) rfl Try.func80 (by kernel_rfl) (by kernel_rfl) (rcompare_any o A B _ ho hA hB)) rfl rfl rfl ?_; clear hf fa; rintro fa _ w1 ⟨rfl, he1⟩ hf
  replace hb := hb.trans (Below.mono he1 hb.size)
  refine sqv hf (r_move rfl) rfl rfl rfl ?_; clear hf fa; intro fa hf
  refine sqv hf (r_extract rfl (i := 0) rfl) rfl rfl rfl ?_; clear hf fa; intro fa hf
  refine sqv hf (r_extract rfl (i := 1) rfl) rfl rfl rfl ?_; clear hf fa; intro fa hf
  refine sqv hf (r_assign rfl) rfl rfl rfl ?_; clear hf fa; intro fa hf
  refine sqv hf (r_assign rfl) rfl rfl rfl ?_; clear hf fa; intro fa hf
  apply wpList_nil
  (try simp only [Exit.then, Exit.inBlock, ↓reduceIte, Nat.reduceEqDiff])
  refine hK3 _ _ ?_
  refine wp_seq_k (fun K4 hK4 => ?_)
  refine wp_region_lit ?_
  refine sqv hf (r_move rfl) rfl rfl rfl ?_; clear hf fa; intro fa hf
  apply wpList_nil
  (try simp only [Exit.then, Exit.inBlock, ↓reduceIte, Nat.reduceEqDiff])
  refine hK4 _ _ ?_
  refine wp_cond_split (t := (rcmpP (o - 69 - 1) A B).2) (hf.ev rfl) (fun hqt21_1 => ?_) (fun hqt21_1 => ?_)
  · have hqt21_1b := hqt21_1
    try simp only [decide_eq_true_eq, Bool.and_eq_true, Bool.or_eq_true, Bool.not_eq_true', decide_eq_false_iff_not, ne_eq, Bool.not_eq_true] at hqt21_1
    refine wp_seq_k (fun K5 hK5 => ?_)
    refine wp_region_lit ?_
    refine sqv hf (r_move rfl) rfl rfl rfl ?_; clear hf fa; intro fa hf
    refine sqv hf (r_assign rfl) rfl rfl rfl ?_; clear hf fa; intro fa hf
    refine sqv hf (r_assign rfl) rfl rfl rfl ?_; clear hf fa; intro fa hf
    apply wpList_nil
    (try simp only [Exit.then, Exit.inBlock, ↓reduceIte, Nat.reduceEqDiff])
    refine hK5 _ _ ?_
    refine wp_ret ?_
    (try simp only [Exit.then, Exit.inBlock])
    refine ret2 hf rfl rfl rfl ?_
    refine ⟨?_, hb⟩; unfold rtwoP; rw [if_pos hqt21_1]; (try rfl)
  · have hqt21_1b := hqt21_1
    replace hqt21_1 := Bool.eq_false_iff.1 hqt21_1
    try simp only [ne_eq, decide_eq_true_eq, Bool.and_eq_true, Bool.or_eq_true, Bool.not_eq_true', decide_eq_false_iff_not] at hqt21_1
    refine wp_skip ?_
    (try simp only [Exit.then, Exit.inBlock, ↓reduceIte, Nat.reduceEqDiff])
    refine hK2 _ _ ?_
    refine wp_seq_k (fun K6 hK6 => ?_)
    refine wp_region_lit ?_
    refine sqv hf (r_move rfl) rfl rfl rfl ?_; clear hf fa; intro fa hf
    refine sqdt hf (d_callX (vs := [(.int .u64 ((A : Nat) : Int))]) rfl Try.func81 (by kernel_rfl) (by kernel_rfl) (bits_any A _ (by omega))) rfl rfl rfl ?_; clear hf fa; rintro fa v w2 ⟨hr1, he2⟩ hf; obtain ⟨ra1, rc1, rfl, hcrc1, hmrc1⟩ := Row.slice hr1
    replace hr1 := Row.rebase hr1 hb.size
    replace hb := hb.trans (Below.mono he2 hb.size)
    have := bitsK_length A 32
    refine sqv hf (r_move rfl) rfl rfl rfl ?_; clear hf fa; intro fa hf
    refine sqdt hf (d_callX (vs := [(.int .u64 ((B : Nat) : Int))]) rfl Try.func81 (by kernel_rfl) (by kernel_rfl) (bits_any B _ (by omega))) rfl rfl rfl ?_; clear hf fa; rintro fa v w3 ⟨hr2, he3⟩ hf; obtain ⟨ra2, rc2, rfl, hcrc2, hmrc2⟩ := Row.slice hr2
    replace hr2 := Row.rebase hr2 hb.size
    replace hr1 := Row.ext hr1 he3
    replace hb := hb.trans (Below.mono he3 hb.size)
    have := bitsK_length B 32
    refine sqv hf (r_assign rfl) rfl rfl rfl ?_; clear hf fa; intro fa hf
    refine sqv hf (r_assign rfl) rfl rfl rfl ?_; clear hf fa; intro fa hf
    apply wpList_nil
    (try simp only [Exit.then, Exit.inBlock, ↓reduceIte, Nat.reduceEqDiff])
    refine hK6 _ _ ?_
    refine wp_seq_k (fun K7 hK7 => ?_)
    refine wp_region_lit ?_
    refine sqv hf (r_move rfl) rfl rfl rfl ?_; clear hf fa; intro fa hf
    refine sqdt hf (d_callB (vs := [(.slice ra2 (((bitsK B 32)).length) rc2)]) rfl Try.func82 (by kernel_rfl) (by kernel_rfl) (number_any B _ _ _ _ (by omega) (Row.rd (by intros; rfl) hr2) (by first | rfl | assumption | simp))) rfl rfl rfl ?_; clear hf fa; rintro fa _ w4 ⟨rfl, he4⟩ hf
    replace hr1 := Row.ext hr1 he4
    replace hr2 := Row.ext hr2 he4
    replace hb := hb.trans (Below.mono he4 hb.size)
    refine sqv hf (r_rem (C := (((B % 32) : Nat) : Int)) rfl rfl (by omega) (by rw [Int.tmod_eq_emod_of_nonneg (by omega)]; omega)) rfl rfl rfl ?_; clear hf fa; intro fa hf
    refine sqv hf (r_conv (C := (((B % 32) : Nat) : Int)) rfl Try.underlying36 Try.underlying3 (by rw [IntKind.wrap_i64]; omega)) rfl rfl rfl ?_; clear hf fa; intro fa hf
    refine sqv hf (r_assign rfl) rfl rfl rfl ?_; clear hf fa; intro fa hf
    apply wpList_nil
    (try simp only [Exit.then, Exit.inBlock, ↓reduceIte, Nat.reduceEqDiff])
    refine hK7 _ _ ?_
    refine wp_seq_k (fun K8 hK8 => ?_)
    refine wp_region_lit ?_
    refine sqv hf (r_move rfl) rfl rfl rfl ?_; clear hf fa; intro fa hf
    refine sqv hf (r_sub (C := (o - (103 : Int))) rfl rfl (by rw [IntKind.wrap_i64]; omega)) rfl rfl rfl ?_; clear hf fa; intro fa hf
    refine sqv hf (r_sub (C := ((o - 103 - 3))) rfl rfl (by rw [IntKind.wrap_i64]; omega)) rfl rfl rfl ?_; clear hf fa; intro fa hf
    refine sqv hf (r_assign rfl) rfl rfl rfl ?_; clear hf fa; intro fa hf
    apply wpList_nil
    (try simp only [Exit.then, Exit.inBlock, ↓reduceIte, Nat.reduceEqDiff])
    refine hK8 _ _ ?_
    refine wp_seq_k (fun K9 hK9 => ?_)
    refine wp_block ?_
    refine wp_seq_k (fun K10 hK10 => ?_)
    refine wp_region_lit ?_
    refine sqv hf (r_move rfl) rfl rfl rfl ?_; clear hf fa; intro fa hf
    refine sqv hf (r_lt rfl rfl) rfl rfl rfl ?_; clear hf fa; intro fa hf
    refine sqv hf (r_move rfl) rfl rfl rfl ?_; clear hf fa; intro fa hf
    refine sqgF (act := (!(decide (((o - 103 - 3)) < (0 : Int))))) (ag := true) (c := (decide (((o - 103 - 3)) < (0 : Int)))) (v := (.int .i64 ((o - 103 - 3)))) hf rfl rfl rfl (fun hact => (r_move rfl)) rfl rfl ?_; clear hf fa; intro fa hf
    refine sqgF (act := (!(decide (((o - 103 - 3)) < (0 : Int))))) (ag := true) (c := (decide (((o - 103 - 3)) < (0 : Int)))) (v := (.bool (decide ((14 : Int) < ((o - 103 - 3)))))) hf rfl rfl rfl (fun hact => (r_gt (gb_ev hact rfl) rfl)) rfl rfl ?_; clear hf fa; intro fa hf
    refine sqv hf (r_pickO (b := (decide (((o - 103 - 3)) < (0 : Int)))) (e := (decide ((14 : Int) < ((o - 103 - 3))))) rfl rfl rfl) rfl rfl rfl ?_; clear hf fa; intro fa hf
    refine sqv hf (r_assign rfl) rfl rfl rfl ?_; clear hf fa; intro fa hf
    apply wpList_nil
    (try simp only [Exit.then, Exit.inBlock, ↓reduceIte, Nat.reduceEqDiff])
    refine hK10 _ _ ?_
    refine wp_cond_split (t := ((decide (((o - 103 - 3)) < (0 : Int))) || (decide ((14 : Int) < ((o - 103 - 3)))))) (hf.ev rfl) (fun hqt34_1 => ?_) (fun hqt34_1 => ?_)
    · have hqt34_1b := hqt34_1
      try simp only [decide_eq_true_eq, Bool.and_eq_true, Bool.or_eq_true, Bool.not_eq_true', decide_eq_false_iff_not, ne_eq, Bool.not_eq_true] at hqt34_1
      refine wp_seq_k (fun K11 hK11 => ?_)
      refine wp_region_lit ?_
      refine sqv hf (r_assign rfl) rfl rfl rfl ?_; clear hf fa; intro fa hf
      refine sqv hf (r_assign rfl) rfl rfl rfl ?_; clear hf fa; intro fa hf
      apply wpList_nil
      (try simp only [Exit.then, Exit.inBlock, ↓reduceIte, Nat.reduceEqDiff])
      refine hK11 _ _ ?_
      refine wp_ret ?_
      (try simp only [Exit.then, Exit.inBlock])
      refine ret2 hf rfl rfl rfl ?_
      refine ⟨?_, hb⟩; unfold rtwoP; rw [if_neg hqt21_1]; unfold rtwoK; rw [if_pos hqt34_1]; (try rfl)
    · have hqt34_1b := hqt34_1
      replace hqt34_1 := Bool.eq_false_iff.1 hqt34_1
      try simp only [ne_eq, decide_eq_true_eq, Bool.and_eq_true, Bool.or_eq_true, Bool.not_eq_true', decide_eq_false_iff_not] at hqt34_1
      refine wp_seq_k (fun K12 hK12 => ?_)
      refine wp_region_lit ?_
      refine sqv hf (r_move rfl) rfl rfl rfl ?_; clear hf fa; intro fa hf
      refine sqv hf (r_eq rfl rfl) rfl rfl rfl ?_; clear hf fa; intro fa hf
      refine sqv hf (r_assign rfl) rfl rfl rfl ?_; clear hf fa; intro fa hf
      apply wpList_nil
      (try simp only [Exit.then, Exit.inBlock, ↓reduceIte, Nat.reduceEqDiff])
      refine hK12 _ _ ?_
      refine wp_cond_split (t := (decide (((o - 103 - 3)) = (0 : Int)))) (hf.ev rfl) (fun hqt41_1 => ?_) (fun hqt41_1 => ?_)
      · have hqt41_1b := hqt41_1
        try simp only [decide_eq_true_eq, Bool.and_eq_true, Bool.or_eq_true, Bool.not_eq_true', decide_eq_false_iff_not, ne_eq, Bool.not_eq_true] at hqt41_1
        refine wp_seq_k (fun K13 hK13 => ?_)
        refine wp_region_lit ?_
        refine sqv hf (r_move rfl) rfl rfl rfl ?_; clear hf fa; intro fa hf
        refine sqv hf (r_move rfl) rfl rfl rfl ?_; clear hf fa; intro fa hf
        refine sqdt hf (d_callX (vs := [(.slice ra1 (((bitsK A 32)).length) rc1), (.slice ra2 (((bitsK B 32)).length) rc2), (.bool false)]) rfl Try.func83 (by kernel_rfl) (by kernel_rfl) (radd_any A B 0 false _ _ _ _ _ _ _ rfl (Row.rd (by intros; rfl) hr1) (by first | rfl | assumption | simp) (Row.rd (by intros; rfl) hr2) (by first | rfl | assumption | simp))) rfl rfl rfl ?_; clear hf fa; rintro fa v w5 ⟨hr3, he5⟩ hf; obtain ⟨ra3, rc3, rfl, hcrc3, hmrc3⟩ := Row.slice hr3
        replace hr3 := Row.rebase hr3 hb.size
        replace hr1 := Row.ext hr1 he5
        replace hr2 := Row.ext hr2 he5
        replace hb := hb.trans (Below.mono he5 hb.size)
        have := bitsK_length ((A + B + 0) % 4294967296) 32
        refine sqdt hf (d_callB (vs := [(.slice ra3 (((bitsK ((A + B + 0) % 4294967296) 32)).length) rc3)]) rfl Try.func82 (by kernel_rfl) (by kernel_rfl) (number_any ((A + B + 0) % 4294967296) _ _ _ _ (by omega) (Row.rd (by intros; rfl) hr3) (by first | rfl | assumption | simp))) rfl rfl rfl ?_; clear hf fa; rintro fa _ w6 ⟨rfl, he6⟩ hf
        replace hr1 := Row.ext hr1 he6
        replace hr2 := Row.ext hr2 he6
        replace hr3 := Row.ext hr3 he6
        replace hb := hb.trans (Below.mono he6 hb.size)
        refine sqv hf (r_assign rfl) rfl rfl rfl ?_; clear hf fa; intro fa hf
        refine sqv hf (r_assign rfl) rfl rfl rfl ?_; clear hf fa; intro fa hf
        apply wpList_nil
        (try simp only [Exit.then, Exit.inBlock, ↓reduceIte, Nat.reduceEqDiff])
        refine hK13 _ _ ?_
        refine wp_ret ?_
        (try simp only [Exit.then, Exit.inBlock])
        refine ret2 hf rfl rfl rfl ?_
        refine ⟨?_, hb⟩; unfold rtwoP; rw [if_neg hqt21_1]; unfold rtwoK; rw [if_neg hqt34_1, if_pos hqt41_1]; (try rfl)
      · have hqt41_1b := hqt41_1
        replace hqt41_1 := Bool.eq_false_iff.1 hqt41_1
        try simp only [ne_eq, decide_eq_true_eq, Bool.and_eq_true, Bool.or_eq_true, Bool.not_eq_true', decide_eq_false_iff_not] at hqt41_1
        refine wp_seq_k (fun K14 hK14 => ?_)
        refine wp_region_lit ?_
        refine sqv hf (r_move rfl) rfl rfl rfl ?_; clear hf fa; intro fa hf
        refine sqv hf (r_eq rfl rfl) rfl rfl rfl ?_; clear hf fa; intro fa hf
        refine sqv hf (r_assign rfl) rfl rfl rfl ?_; clear hf fa; intro fa hf
        apply wpList_nil
        (try simp only [Exit.then, Exit.inBlock, ↓reduceIte, Nat.reduceEqDiff])
        refine hK14 _ _ ?_
        refine wp_cond_split (t := (decide (((o - 103 - 3)) = (1 : Int)))) (hf.ev rfl) (fun hqt48_1 => ?_) (fun hqt48_1 => ?_)
        · have hqt48_1b := hqt48_1
          try simp only [decide_eq_true_eq, Bool.and_eq_true, Bool.or_eq_true, Bool.not_eq_true', decide_eq_false_iff_not, ne_eq, Bool.not_eq_true] at hqt48_1
          refine wp_seq_k (fun K15 hK15 => ?_)
          refine wp_region_lit ?_
          refine sqv hf (r_move rfl) rfl rfl rfl ?_; clear hf fa; intro fa hf
          refine sqv hf (r_move rfl) rfl rfl rfl ?_; clear hf fa; intro fa hf
          refine sqdt hf (d_callX (vs := [(.slice ra2 (((bitsK B 32)).length) rc2)]) rfl Try.func84 (by kernel_rfl) (by kernel_rfl) (rnot_any B _ _ _ _ (by omega) (Row.rd (by intros; rfl) hr2) (by first | rfl | assumption | simp))) rfl rfl rfl ?_; clear hf fa; rintro fa v w7 ⟨hr4, he7⟩ hf; obtain ⟨ra4, rc4, rfl, hcrc4, hmrc4⟩ := Row.slice hr4
          replace hr4 := Row.rebase hr4 hb.size
          replace hr1 := Row.ext hr1 he7
          replace hr2 := Row.ext hr2 he7
          replace hb := hb.trans (Below.mono he7 hb.size)
          have := bitsK_length (4294967295 - B) 32
          refine sqdt hf (d_callX (vs := [(.slice ra1 (((bitsK A 32)).length) rc1), (.slice ra4 (((bitsK (4294967295 - B) 32)).length) rc4), (.bool true)]) rfl Try.func83 (by kernel_rfl) (by kernel_rfl) (radd_any A (4294967295 - B) 1 true _ _ _ _ _ _ _ rfl (Row.rd (by intros; rfl) hr1) (by first | rfl | assumption | simp) (Row.rd (by intros; rfl) hr4) (by first | rfl | assumption | simp))) rfl rfl rfl ?_; clear hf fa; rintro fa v w8 ⟨hr5, he8⟩ hf; obtain ⟨ra5, rc5, rfl, hcrc5, hmrc5⟩ := Row.slice hr5
          replace hr5 := Row.rebase hr5 hb.size
          replace hr1 := Row.ext hr1 he8
          replace hr2 := Row.ext hr2 he8
          replace hr4 := Row.ext hr4 he8
          replace hb := hb.trans (Below.mono he8 hb.size)
          have := bitsK_length ((A + (4294967295 - B) + 1) % 4294967296) 32
          refine sqdt hf (d_callB (vs := [(.slice ra5 (((bitsK ((A + (4294967295 - B) + 1) % 4294967296) 32)).length) rc5)]) rfl Try.func82 (by kernel_rfl) (by kernel_rfl) (number_any ((A + (4294967295 - B) + 1) % 4294967296) _ _ _ _ (by omega) (Row.rd (by intros; rfl) hr5) (by first | rfl | assumption | simp))) rfl rfl rfl ?_; clear hf fa; rintro fa _ w9 ⟨rfl, he9⟩ hf
          replace hr1 := Row.ext hr1 he9
          replace hr2 := Row.ext hr2 he9
          replace hr4 := Row.ext hr4 he9
          replace hr5 := Row.ext hr5 he9
          replace hb := hb.trans (Below.mono he9 hb.size)
          refine sqv hf (r_assign rfl) rfl rfl rfl ?_; clear hf fa; intro fa hf
          refine sqv hf (r_assign rfl) rfl rfl rfl ?_; clear hf fa; intro fa hf
          apply wpList_nil
          (try simp only [Exit.then, Exit.inBlock, ↓reduceIte, Nat.reduceEqDiff])
          refine hK15 _ _ ?_
          refine wp_ret ?_
          (try simp only [Exit.then, Exit.inBlock])
          refine ret2 hf rfl rfl rfl ?_
          refine ⟨?_, hb⟩; unfold rtwoP; rw [if_neg hqt21_1]; unfold rtwoK; rw [if_neg hqt34_1, if_neg hqt41_1, if_pos hqt48_1]; (try rfl)
        · have hqt48_1b := hqt48_1
          replace hqt48_1 := Bool.eq_false_iff.1 hqt48_1
          try simp only [ne_eq, decide_eq_true_eq, Bool.and_eq_true, Bool.or_eq_true, Bool.not_eq_true', decide_eq_false_iff_not] at hqt48_1
          refine wp_seq_k (fun K16 hK16 => ?_)
          refine wp_region_lit ?_
          refine sqv hf (r_move rfl) rfl rfl rfl ?_; clear hf fa; intro fa hf
          refine sqv hf (r_eq rfl rfl) rfl rfl rfl ?_; clear hf fa; intro fa hf
          refine sqv hf (r_assign rfl) rfl rfl rfl ?_; clear hf fa; intro fa hf
          apply wpList_nil
          (try simp only [Exit.then, Exit.inBlock, ↓reduceIte, Nat.reduceEqDiff])
          refine hK16 _ _ ?_
          refine wp_cond_split (t := (decide (((o - 103 - 3)) = (2 : Int)))) (hf.ev rfl) (fun hqt56_1 => ?_) (fun hqt56_1 => ?_)
          · have hqt56_1b := hqt56_1
            try simp only [decide_eq_true_eq, Bool.and_eq_true, Bool.or_eq_true, Bool.not_eq_true', decide_eq_false_iff_not, ne_eq, Bool.not_eq_true] at hqt56_1
            refine wp_seq_k (fun K17 hK17 => ?_)
            refine wp_region_lit ?_
            refine sqv hf (r_move rfl) rfl rfl rfl ?_; clear hf fa; intro fa hf
            refine sqv hf (r_move rfl) rfl rfl rfl ?_; clear hf fa; intro fa hf
            refine sqdt hf (d_callX (vs := [(.slice ra1 (((bitsK A 32)).length) rc1), (.slice ra2 (((bitsK B 32)).length) rc2)]) rfl Try.func85 (by kernel_rfl) (by kernel_rfl) (rtimes_any A B _ _ _ _ _ _ _ (by omega) (by omega) (Row.rd (by intros; rfl) hr1) (by first | rfl | assumption | simp) (Row.rd (by intros; rfl) hr2) (by first | rfl | assumption | simp))) rfl rfl rfl ?_; clear hf fa; rintro fa v w10 ⟨hr6, he10⟩ hf; obtain ⟨ra6, rc6, rfl, hcrc6, hmrc6⟩ := Row.slice hr6
            replace hr6 := Row.rebase hr6 hb.size
            replace hr1 := Row.ext hr1 he10
            replace hr2 := Row.ext hr2 he10
            replace hb := hb.trans (Below.mono he10 hb.size)
            have := bitsK_length (A * B % 4294967296) 32
            refine sqdt hf (d_callB (vs := [(.slice ra6 (((bitsK (A * B % 4294967296) 32)).length) rc6)]) rfl Try.func82 (by kernel_rfl) (by kernel_rfl) (number_any (A * B % 4294967296) _ _ _ _ (by omega) (Row.rd (by intros; rfl) hr6) (by first | rfl | assumption | simp))) rfl rfl rfl ?_; clear hf fa; rintro fa _ w11 ⟨rfl, he11⟩ hf
            replace hr1 := Row.ext hr1 he11
            replace hr2 := Row.ext hr2 he11
            replace hr6 := Row.ext hr6 he11
            replace hb := hb.trans (Below.mono he11 hb.size)
            refine sqv hf (r_assign rfl) rfl rfl rfl ?_; clear hf fa; intro fa hf
            refine sqv hf (r_assign rfl) rfl rfl rfl ?_; clear hf fa; intro fa hf
            apply wpList_nil
            (try simp only [Exit.then, Exit.inBlock, ↓reduceIte, Nat.reduceEqDiff])
            refine hK17 _ _ ?_
            refine wp_ret ?_
            (try simp only [Exit.then, Exit.inBlock])
            refine ret2 hf rfl rfl rfl ?_
            refine ⟨?_, hb⟩; unfold rtwoP; rw [if_neg hqt21_1]; unfold rtwoK; rw [if_neg hqt34_1, if_neg hqt41_1, if_neg hqt48_1, if_pos hqt56_1]; (try rfl)
          · have hqt56_1b := hqt56_1
            replace hqt56_1 := Bool.eq_false_iff.1 hqt56_1
            try simp only [ne_eq, decide_eq_true_eq, Bool.and_eq_true, Bool.or_eq_true, Bool.not_eq_true', decide_eq_false_iff_not] at hqt56_1
            refine wp_seq_k (fun K18 hK18 => ?_)
            refine wp_region_lit ?_
            refine sqv hf (r_move rfl) rfl rfl rfl ?_; clear hf fa; intro fa hf
            refine sqv hf (r_lt rfl rfl) rfl rfl rfl ?_; clear hf fa; intro fa hf
            refine sqv hf (r_assign rfl) rfl rfl rfl ?_; clear hf fa; intro fa hf
            apply wpList_nil
            (try simp only [Exit.then, Exit.inBlock, ↓reduceIte, Nat.reduceEqDiff])
            refine hK18 _ _ ?_
            refine wp_cond_split (t := (decide (((o - 103 - 3)) < (7 : Int)))) (hf.ev rfl) (fun hqt63_1 => ?_) (fun hqt63_1 => ?_)
            · have hqt63_1b := hqt63_1
              try simp only [decide_eq_true_eq, Bool.and_eq_true, Bool.or_eq_true, Bool.not_eq_true', decide_eq_false_iff_not, ne_eq, Bool.not_eq_true] at hqt63_1
              refine wp_seq_k (fun K19 hK19 => ?_)
              refine wp_region_lit ?_
              refine sqv hf (r_move rfl) rfl rfl rfl ?_; clear hf fa; intro fa hf
              refine sqv hf (r_sub (C := (((o - 103 - 3)) - (3 : Int))) rfl rfl (by rw [IntKind.wrap_i64]; omega)) rfl rfl rfl ?_; clear hf fa; intro fa hf
              refine sqv hf (r_move rfl) rfl rfl rfl ?_; clear hf fa; intro fa hf
              refine sqv hf (r_move rfl) rfl rfl rfl ?_; clear hf fa; intro fa hf
              refine sqdt hf (d_callB (vs := [(.int .i64 (((o - 103 - 3)) - (3 : Int))), (.slice ra1 (((bitsK A 32)).length) rc1), (.slice ra2 (((bitsK B 32)).length) rc2)]) rfl Try.func86 (by kernel_rfl) (by kernel_rfl) (rquotient_any (((o - 103 - 3)) - (3 : Int)) A B _ _ _ _ _ _ _ (by omega) (by omega) (by omega) (Row.rd (by intros; rfl) hr1) (by first | rfl | assumption | simp) (Row.rd (by intros; rfl) hr2) (by first | rfl | assumption | simp))) rfl rfl rfl ?_; clear hf fa; rintro fa _ w12 ⟨rfl, he12⟩ hf
              replace hr1 := Row.ext hr1 he12
              replace hr2 := Row.ext hr2 he12
              replace hb := hb.trans (Below.mono he12 hb.size)
              refine sqv hf (r_extract rfl (i := 0) rfl) rfl rfl rfl ?_; clear hf fa; intro fa hf
              refine sqv hf (r_extract rfl (i := 1) rfl) rfl rfl rfl ?_; clear hf fa; intro fa hf
              refine sqv hf (r_assign rfl) rfl rfl rfl ?_; clear hf fa; intro fa hf
              refine sqv hf (r_assign rfl) rfl rfl rfl ?_; clear hf fa; intro fa hf
              apply wpList_nil
              (try simp only [Exit.then, Exit.inBlock, ↓reduceIte, Nat.reduceEqDiff])
              refine hK19 _ _ ?_
              refine wp_ret ?_
              (try simp only [Exit.then, Exit.inBlock])
              refine ret2 hf rfl rfl rfl ?_
              refine ⟨?_, hb⟩; unfold rtwoP; rw [if_neg hqt21_1]; unfold rtwoK; rw [if_neg hqt34_1, if_neg hqt41_1, if_neg hqt48_1, if_neg hqt56_1, if_pos hqt63_1]; (try rfl)
            · have hqt63_1b := hqt63_1
              replace hqt63_1 := Bool.eq_false_iff.1 hqt63_1
              try simp only [ne_eq, decide_eq_true_eq, Bool.and_eq_true, Bool.or_eq_true, Bool.not_eq_true', decide_eq_false_iff_not] at hqt63_1
              refine wp_seq_k (fun K20 hK20 => ?_)
              refine wp_region_lit ?_
              refine sqv hf (r_move rfl) rfl rfl rfl ?_; clear hf fa; intro fa hf
              refine sqv hf (r_lt rfl rfl) rfl rfl rfl ?_; clear hf fa; intro fa hf
              refine sqv hf (r_assign rfl) rfl rfl rfl ?_; clear hf fa; intro fa hf
              apply wpList_nil
              (try simp only [Exit.then, Exit.inBlock, ↓reduceIte, Nat.reduceEqDiff])
              refine hK20 _ _ ?_
              refine wp_cond_split (t := (decide (((o - 103 - 3)) < (10 : Int)))) (hf.ev rfl) (fun hqt73_1 => ?_) (fun hqt73_1 => ?_)
              · have hqt73_1b := hqt73_1
                try simp only [decide_eq_true_eq, Bool.and_eq_true, Bool.or_eq_true, Bool.not_eq_true', decide_eq_false_iff_not, ne_eq, Bool.not_eq_true] at hqt73_1
                refine wp_seq_k (fun K21 hK21 => ?_)
                refine wp_region_lit ?_
                refine sqv hf (r_move rfl) rfl rfl rfl ?_; clear hf fa; intro fa hf
                refine sqv hf (r_sub (C := (((o - 103 - 3)) - (7 : Int))) rfl rfl (by rw [IntKind.wrap_i64]; omega)) rfl rfl rfl ?_; clear hf fa; intro fa hf
                refine sqv hf (r_move rfl) rfl rfl rfl ?_; clear hf fa; intro fa hf
                refine sqv hf (r_move rfl) rfl rfl rfl ?_; clear hf fa; intro fa hf
                refine sqdt hf (d_callB (vs := [(.int .i64 (((o - 103 - 3)) - (7 : Int))), (.slice ra1 (((bitsK A 32)).length) rc1), (.slice ra2 (((bitsK B 32)).length) rc2)]) rfl Try.func87 (by kernel_rfl) (by kernel_rfl) (rbit_any (((o - 103 - 3)) - (7 : Int)) A B _ _ _ _ _ _ _ (by omega) (by omega) (Row.rd (by intros; rfl) hr1) (by first | rfl | assumption | simp) (Row.rd (by intros; rfl) hr2) (by first | rfl | assumption | simp))) rfl rfl rfl ?_; clear hf fa; rintro fa _ w13 ⟨rfl, he13⟩ hf
                replace hr1 := Row.ext hr1 he13
                replace hr2 := Row.ext hr2 he13
                replace hb := hb.trans (Below.mono he13 hb.size)
                refine sqv hf (r_assign rfl) rfl rfl rfl ?_; clear hf fa; intro fa hf
                refine sqv hf (r_assign rfl) rfl rfl rfl ?_; clear hf fa; intro fa hf
                apply wpList_nil
                (try simp only [Exit.then, Exit.inBlock, ↓reduceIte, Nat.reduceEqDiff])
                refine hK21 _ _ ?_
                refine wp_ret ?_
                (try simp only [Exit.then, Exit.inBlock])
                refine ret2 hf rfl rfl rfl ?_
                refine ⟨?_, hb⟩; unfold rtwoP; rw [if_neg hqt21_1]; unfold rtwoK; rw [if_neg hqt34_1, if_neg hqt41_1, if_neg hqt48_1, if_neg hqt56_1, if_neg hqt63_1, if_pos hqt73_1]; (try rfl)
              · have hqt73_1b := hqt73_1
                replace hqt73_1 := Bool.eq_false_iff.1 hqt73_1
                try simp only [ne_eq, decide_eq_true_eq, Bool.and_eq_true, Bool.or_eq_true, Bool.not_eq_true', decide_eq_false_iff_not] at hqt73_1
                refine wp_skip ?_
                (try simp only [Exit.then, Exit.inBlock, ↓reduceIte, Nat.reduceEqDiff])
                refine hK9 _ _ ?_
                refine wp_seq_k (fun K22 hK22 => ?_)
                refine wp_seq_k (fun K23 hK23 => ?_)
                refine wp_region_lit ?_
                refine sqv hf (r_move rfl) rfl rfl rfl ?_; clear hf fa; intro fa hf
                apply wpList_nil
                (try simp only [Exit.then, Exit.inBlock, ↓reduceIte, Nat.reduceEqDiff])
                refine hK23 _ _ ?_
                refine wp_block ?_
                refine wp_seq_k (fun K24 hK24 => ?_)
                refine wp_region_lit ?_
                refine sqv hf (r_eq rfl rfl) rfl rfl rfl ?_; clear hf fa; intro fa hf
                refine sqv hf (r_assign rfl) rfl rfl rfl ?_; clear hf fa; intro fa hf
                apply wpList_nil
                (try simp only [Exit.then, Exit.inBlock, ↓reduceIte, Nat.reduceEqDiff])
                refine hK24 _ _ ?_
                refine wp_cond_split (t := (decide (((o - 103 - 3)) = (10 : Int)))) (hf.ev rfl) (fun hqt82_1 => ?_) (fun hqt82_1 => ?_)
                · have hqt82_1b := hqt82_1
                  try simp only [decide_eq_true_eq, Bool.and_eq_true, Bool.or_eq_true, Bool.not_eq_true', decide_eq_false_iff_not, ne_eq, Bool.not_eq_true] at hqt82_1
                  refine wp_seq_k (fun K25 hK25 => ?_)
                  refine wp_region_lit ?_
                  refine sqv hf (r_move rfl) rfl rfl rfl ?_; clear hf fa; intro fa hf
                  refine sqv hf (r_move rfl) rfl rfl rfl ?_; clear hf fa; intro fa hf
                  refine sqdt hf (d_callX (vs := [(.slice ra1 (((bitsK A 32)).length) rc1), (.int .i64 (((B % 32) : Nat) : Int)), (.bool false)]) rfl Try.func88 (by kernel_rfl) (by kernel_rfl) (rshift_any A ((A * 2 ^ (B % 32)) % 4294967296) (((B % 32) : Nat) : Int) false _ _ _ _ (by omega) (shl_at (by omega)) (Row.rd (by intros; rfl) hr1) (by first | rfl | assumption | simp))) rfl rfl rfl ?_; clear hf fa; rintro fa v w14 ⟨hr7, he14⟩ hf; obtain ⟨ra7, rc7, rfl, hcrc7, hmrc7⟩ := Row.slice hr7
                  replace hr7 := Row.rebase hr7 hb.size
                  replace hr1 := Row.ext hr1 he14
                  replace hr2 := Row.ext hr2 he14
                  replace hb := hb.trans (Below.mono he14 hb.size)
                  have := bitsK_length ((A * 2 ^ (B % 32)) % 4294967296) 32
                  refine sqdt hf (d_callB (vs := [(.slice ra7 (((bitsK ((A * 2 ^ (B % 32)) % 4294967296) 32)).length) rc7)]) rfl Try.func82 (by kernel_rfl) (by kernel_rfl) (number_any ((A * 2 ^ (B % 32)) % 4294967296) _ _ _ _ (by omega) (Row.rd (by intros; rfl) hr7) (by first | rfl | assumption | simp))) rfl rfl rfl ?_; clear hf fa; rintro fa _ w15 ⟨rfl, he15⟩ hf
                  replace hr1 := Row.ext hr1 he15
                  replace hr2 := Row.ext hr2 he15
                  replace hr7 := Row.ext hr7 he15
                  replace hb := hb.trans (Below.mono he15 hb.size)
                  refine sqv hf (r_assign rfl) rfl rfl rfl ?_; clear hf fa; intro fa hf
                  refine sqv hf (r_assign rfl) rfl rfl rfl ?_; clear hf fa; intro fa hf
                  apply wpList_nil
                  (try simp only [Exit.then, Exit.inBlock, ↓reduceIte, Nat.reduceEqDiff])
                  refine hK25 _ _ ?_
                  refine wp_ret ?_
                  (try simp only [Exit.then, Exit.inBlock])
                  refine ret2 hf rfl rfl rfl ?_
                  refine ⟨?_, hb⟩; unfold rtwoP; rw [if_neg hqt21_1]; unfold rtwoK; rw [if_neg hqt34_1, if_neg hqt41_1, if_neg hqt48_1, if_neg hqt56_1, if_neg hqt63_1, if_neg hqt73_1, if_pos hqt82_1]; (try rfl)
                · have hqt82_1b := hqt82_1
                  replace hqt82_1 := Bool.eq_false_iff.1 hqt82_1
                  try simp only [ne_eq, decide_eq_true_eq, Bool.and_eq_true, Bool.or_eq_true, Bool.not_eq_true', decide_eq_false_iff_not] at hqt82_1
                  refine wp_seq_k (fun K26 hK26 => ?_)
                  refine wp_region_lit ?_
                  refine sqv hf (r_eq rfl rfl) rfl rfl rfl ?_; clear hf fa; intro fa hf
                  refine sqv hf (r_assign rfl) rfl rfl rfl ?_; clear hf fa; intro fa hf
                  apply wpList_nil
                  (try simp only [Exit.then, Exit.inBlock, ↓reduceIte, Nat.reduceEqDiff])
                  refine hK26 _ _ ?_
                  refine wp_cond_split (t := (decide (((o - 103 - 3)) = (11 : Int)))) (hf.ev rfl) (fun hqt88_1 => ?_) (fun hqt88_1 => ?_)
                  · have hqt88_1b := hqt88_1
                    try simp only [decide_eq_true_eq, Bool.and_eq_true, Bool.or_eq_true, Bool.not_eq_true', decide_eq_false_iff_not, ne_eq, Bool.not_eq_true] at hqt88_1
                    refine wp_seq_k (fun K27 hK27 => ?_)
                    refine wp_region_lit ?_
                    refine sqv hf (r_move rfl) rfl rfl rfl ?_; clear hf fa; intro fa hf
                    refine sqv hf (r_move rfl) rfl rfl rfl ?_; clear hf fa; intro fa hf
                    refine sqv hf (r_neg (C := ((-((B % 32 : Nat) : Int)))) rfl (by rw [IntKind.wrap_i64]; omega)) rfl rfl rfl ?_; clear hf fa; intro fa hf
                    refine sqv hf (r_move rfl) rfl rfl rfl ?_; clear hf fa; intro fa hf
                    obtain ⟨rb1, rfl, hbbrb1, hlbrb1⟩ := Row.some hr1 (by first | omega | (simp only [bitsK_length, List.length_set, List.length_take, List.length_append, List.length_replicate, List.length_cons, List.length_nil]; omega))
                    have hy1 : ((bitsK A 32))[31]? = some ((A).testBit 31) := (bitsK_get (n := A) (k := 32) (i := 31) (by omega))
                    have hel1 := RdS.at (Row.rd (by intros; rfl) hr1) hy1
                    obtain ⟨_, _, hab, hlr1, hel1⟩ := hel1
                    cases hab
                    refine sqv hf (r_ixa (sz := 1) (j := 31) rfl rfl Try.underlying162 (by kernel_rfl) rfl (by omega) rfl) rfl rfl rfl ?_; clear hf fa; intro fa hf
                    refine sqv hf (r_load (v := (.bool ((A).testBit 31))) rfl Try.underlying4 rfl (cellsAt_cell hel1 (i := 0) rfl rfl)) rfl rfl rfl ?_; clear hf fa; intro fa hf
                    refine sqdt hf (d_callX (vs := [(.slice (some ⟨rb1, 0, none⟩) (((bitsK A 32)).length) rc1), (.int .i64 ((-((B % 32 : Nat) : Int)))), (.bool ((A).testBit 31))]) rfl Try.func88 (by kernel_rfl) (by kernel_rfl) (rshift_any A (sarN A (B % 32) ((A).testBit 31)) ((-((B % 32 : Nat) : Int))) ((A).testBit 31) _ _ _ _ (by omega) (sar_at (by omega) (by omega)) (Row.rd (by intros; rfl) hr1) (by first | rfl | assumption | simp))) rfl rfl rfl ?_; clear hf fa; rintro fa v w16 ⟨hr8, he16⟩ hf; obtain ⟨ra8, rc8, rfl, hcrc8, hmrc8⟩ := Row.slice hr8
                    replace hr8 := Row.rebase hr8 hb.size
                    replace hr1 := Row.ext hr1 he16
                    replace hr2 := Row.ext hr2 he16
                    replace hb := hb.trans (Below.mono he16 hb.size)
                    have := bitsK_length (sarN A (B % 32) ((A).testBit 31)) 32
                    refine sqdt hf (d_callB (vs := [(.slice ra8 (((bitsK (sarN A (B % 32) ((A).testBit 31)) 32)).length) rc8)]) rfl Try.func82 (by kernel_rfl) (by kernel_rfl) (number_any (sarN A (B % 32) ((A).testBit 31)) _ _ _ _ (by omega) (Row.rd (by intros; rfl) hr8) (by first | rfl | assumption | simp))) rfl rfl rfl ?_; clear hf fa; rintro fa _ w17 ⟨rfl, he17⟩ hf
                    replace hr1 := Row.ext hr1 he17
                    replace hr2 := Row.ext hr2 he17
                    replace hr8 := Row.ext hr8 he17
                    replace hb := hb.trans (Below.mono he17 hb.size)
                    refine sqv hf (r_assign rfl) rfl rfl rfl ?_; clear hf fa; intro fa hf
                    refine sqv hf (r_assign rfl) rfl rfl rfl ?_; clear hf fa; intro fa hf
                    apply wpList_nil
                    (try simp only [Exit.then, Exit.inBlock, ↓reduceIte, Nat.reduceEqDiff])
                    refine hK27 _ _ ?_
                    refine wp_ret ?_
                    (try simp only [Exit.then, Exit.inBlock])
                    refine ret2 hf rfl rfl rfl ?_
                    refine ⟨?_, hb⟩; unfold rtwoP; rw [if_neg hqt21_1]; unfold rtwoK; rw [if_neg hqt34_1, if_neg hqt41_1, if_neg hqt48_1, if_neg hqt56_1, if_neg hqt63_1, if_neg hqt73_1, if_neg hqt82_1, if_pos hqt88_1]; (try rfl)
                  · have hqt88_1b := hqt88_1
                    replace hqt88_1 := Bool.eq_false_iff.1 hqt88_1
                    try simp only [ne_eq, decide_eq_true_eq, Bool.and_eq_true, Bool.or_eq_true, Bool.not_eq_true', decide_eq_false_iff_not] at hqt88_1
                    refine wp_seq_k (fun K28 hK28 => ?_)
                    refine wp_region_lit ?_
                    refine sqv hf (r_eq rfl rfl) rfl rfl rfl ?_; clear hf fa; intro fa hf
                    refine sqv hf (r_assign rfl) rfl rfl rfl ?_; clear hf fa; intro fa hf
                    apply wpList_nil
                    (try simp only [Exit.then, Exit.inBlock, ↓reduceIte, Nat.reduceEqDiff])
                    refine hK28 _ _ ?_
                    refine wp_cond_split (t := (decide (((o - 103 - 3)) = (12 : Int)))) (hf.ev rfl) (fun hqt98_1 => ?_) (fun hqt98_1 => ?_)
                    · have hqt98_1b := hqt98_1
                      try simp only [decide_eq_true_eq, Bool.and_eq_true, Bool.or_eq_true, Bool.not_eq_true', decide_eq_false_iff_not, ne_eq, Bool.not_eq_true] at hqt98_1
                      refine wp_seq_k (fun K29 hK29 => ?_)
                      refine wp_region_lit ?_
                      refine sqv hf (r_move rfl) rfl rfl rfl ?_; clear hf fa; intro fa hf
                      refine sqv hf (r_move rfl) rfl rfl rfl ?_; clear hf fa; intro fa hf
                      refine sqv hf (r_neg (C := ((-((B % 32 : Nat) : Int)))) rfl (by rw [IntKind.wrap_i64]; omega)) rfl rfl rfl ?_; clear hf fa; intro fa hf
                      refine sqdt hf (d_callX (vs := [(.slice ra1 (((bitsK A 32)).length) rc1), (.int .i64 ((-((B % 32 : Nat) : Int)))), (.bool false)]) rfl Try.func88 (by kernel_rfl) (by kernel_rfl) (rshift_any A (sarN A (B % 32) false) ((-((B % 32 : Nat) : Int))) false _ _ _ _ (by omega) (sar_at (by omega) (by omega)) (Row.rd (by intros; rfl) hr1) (by first | rfl | assumption | simp))) rfl rfl rfl ?_; clear hf fa; rintro fa v w18 ⟨hr9, he18⟩ hf; obtain ⟨ra9, rc9, rfl, hcrc9, hmrc9⟩ := Row.slice hr9
                      replace hr9 := Row.rebase hr9 hb.size
                      replace hr1 := Row.ext hr1 he18
                      replace hr2 := Row.ext hr2 he18
                      replace hb := hb.trans (Below.mono he18 hb.size)
                      have := bitsK_length (sarN A (B % 32) false) 32
                      refine sqdt hf (d_callB (vs := [(.slice ra9 (((bitsK (sarN A (B % 32) false) 32)).length) rc9)]) rfl Try.func82 (by kernel_rfl) (by kernel_rfl) (number_any (sarN A (B % 32) false) _ _ _ _ (by omega) (Row.rd (by intros; rfl) hr9) (by first | rfl | assumption | simp))) rfl rfl rfl ?_; clear hf fa; rintro fa _ w19 ⟨rfl, he19⟩ hf
                      replace hr1 := Row.ext hr1 he19
                      replace hr2 := Row.ext hr2 he19
                      replace hr9 := Row.ext hr9 he19
                      replace hb := hb.trans (Below.mono he19 hb.size)
                      refine sqv hf (r_assign rfl) rfl rfl rfl ?_; clear hf fa; intro fa hf
                      refine sqv hf (r_assign rfl) rfl rfl rfl ?_; clear hf fa; intro fa hf
                      apply wpList_nil
                      (try simp only [Exit.then, Exit.inBlock, ↓reduceIte, Nat.reduceEqDiff])
                      refine hK29 _ _ ?_
                      refine wp_ret ?_
                      (try simp only [Exit.then, Exit.inBlock])
                      refine ret2 hf rfl rfl rfl ?_
                      refine ⟨?_, hb⟩; unfold rtwoP; rw [if_neg hqt21_1]; unfold rtwoK; rw [if_neg hqt34_1, if_neg hqt41_1, if_neg hqt48_1, if_neg hqt56_1, if_neg hqt63_1, if_neg hqt73_1, if_neg hqt82_1, if_neg hqt88_1, if_pos hqt98_1]; (try rfl)
                    · have hqt98_1b := hqt98_1
                      replace hqt98_1 := Bool.eq_false_iff.1 hqt98_1
                      try simp only [ne_eq, decide_eq_true_eq, Bool.and_eq_true, Bool.or_eq_true, Bool.not_eq_true', decide_eq_false_iff_not] at hqt98_1
                      refine wp_seq_k (fun K30 hK30 => ?_)
                      refine wp_region_lit ?_
                      refine sqv hf (r_eq rfl rfl) rfl rfl rfl ?_; clear hf fa; intro fa hf
                      refine sqv hf (r_assign rfl) rfl rfl rfl ?_; clear hf fa; intro fa hf
                      apply wpList_nil
                      (try simp only [Exit.then, Exit.inBlock, ↓reduceIte, Nat.reduceEqDiff])
                      refine hK30 _ _ ?_
                      refine wp_cond_split (t := (decide (((o - 103 - 3)) = (13 : Int)))) (hf.ev rfl) (fun hqt105_1 => ?_) (fun hqt105_1 => ?_)
                      · have hqt105_1b := hqt105_1
                        try simp only [decide_eq_true_eq, Bool.and_eq_true, Bool.or_eq_true, Bool.not_eq_true', decide_eq_false_iff_not, ne_eq, Bool.not_eq_true] at hqt105_1
                        refine wp_seq_k (fun K31 hK31 => ?_)
                        refine wp_region_lit ?_
                        refine sqv hf (r_move rfl) rfl rfl rfl ?_; clear hf fa; intro fa hf
                        refine sqv hf (r_move rfl) rfl rfl rfl ?_; clear hf fa; intro fa hf
                        refine sqdt hf (d_callX (vs := [(.slice ra1 (((bitsK A 32)).length) rc1), (.int .i64 (((B % 32) : Nat) : Int))]) rfl Try.func89 (by kernel_rfl) (by kernel_rfl) (rrotate_any A (rotN A (B % 32)) (((B % 32) : Nat) : Int) _ _ _ _ (by omega) (rot_at (by omega) (by omega)) (Row.rd (by intros; rfl) hr1) (by first | rfl | assumption | simp))) rfl rfl rfl ?_; clear hf fa; rintro fa v w20 ⟨hr10, he20⟩ hf; obtain ⟨ra10, rc10, rfl, hcrc10, hmrc10⟩ := Row.slice hr10
                        replace hr10 := Row.rebase hr10 hb.size
                        replace hr1 := Row.ext hr1 he20
                        replace hr2 := Row.ext hr2 he20
                        replace hb := hb.trans (Below.mono he20 hb.size)
                        have := bitsK_length (rotN A (B % 32)) 32
                        refine sqdt hf (d_callB (vs := [(.slice ra10 (((bitsK (rotN A (B % 32)) 32)).length) rc10)]) rfl Try.func82 (by kernel_rfl) (by kernel_rfl) (number_any (rotN A (B % 32)) _ _ _ _ (by omega) (Row.rd (by intros; rfl) hr10) (by first | rfl | assumption | simp))) rfl rfl rfl ?_; clear hf fa; rintro fa _ w21 ⟨rfl, he21⟩ hf
                        replace hr1 := Row.ext hr1 he21
                        replace hr2 := Row.ext hr2 he21
                        replace hr10 := Row.ext hr10 he21
                        replace hb := hb.trans (Below.mono he21 hb.size)
                        refine sqv hf (r_assign rfl) rfl rfl rfl ?_; clear hf fa; intro fa hf
                        refine sqv hf (r_assign rfl) rfl rfl rfl ?_; clear hf fa; intro fa hf
                        apply wpList_nil
                        (try simp only [Exit.then, Exit.inBlock, ↓reduceIte, Nat.reduceEqDiff])
                        refine hK31 _ _ ?_
                        refine wp_ret ?_
                        (try simp only [Exit.then, Exit.inBlock])
                        refine ret2 hf rfl rfl rfl ?_
                        refine ⟨?_, hb⟩; unfold rtwoP; rw [if_neg hqt21_1]; unfold rtwoK; rw [if_neg hqt34_1, if_neg hqt41_1, if_neg hqt48_1, if_neg hqt56_1, if_neg hqt63_1, if_neg hqt73_1, if_neg hqt82_1, if_neg hqt88_1, if_neg hqt98_1, if_pos hqt105_1]; (try rfl)
                      · have hqt105_1b := hqt105_1
                        replace hqt105_1 := Bool.eq_false_iff.1 hqt105_1
                        try simp only [ne_eq, decide_eq_true_eq, Bool.and_eq_true, Bool.or_eq_true, Bool.not_eq_true', decide_eq_false_iff_not] at hqt105_1
                        refine wp_skip ?_
                        (try simp only [Exit.then, Exit.inBlock, ↓reduceIte, Nat.reduceEqDiff])
                        refine hK22 _ _ ?_
                        refine wp_seq_k (fun K32 hK32 => ?_)
                        refine wp_region_lit ?_
                        refine sqv hf (r_move rfl) rfl rfl rfl ?_; clear hf fa; intro fa hf
                        refine sqv hf (r_move rfl) rfl rfl rfl ?_; clear hf fa; intro fa hf
                        refine sqv hf (r_neg (C := ((-((B % 32 : Nat) : Int)))) rfl (by rw [IntKind.wrap_i64]; omega)) rfl rfl rfl ?_; clear hf fa; intro fa hf
                        refine sqdt hf (d_callX (vs := [(.slice ra1 (((bitsK A 32)).length) rc1), (.int .i64 ((-((B % 32 : Nat) : Int))))]) rfl Try.func89 (by kernel_rfl) (by kernel_rfl) (rrotate_any A (rotN A ((32 - B % 32) % 32)) ((-((B % 32 : Nat) : Int))) _ _ _ _ (by omega) (rotr_at (by omega) (by omega)) (Row.rd (by intros; rfl) hr1) (by first | rfl | assumption | simp))) rfl rfl rfl ?_; clear hf fa; rintro fa v w22 ⟨hr11, he22⟩ hf; obtain ⟨ra11, rc11, rfl, hcrc11, hmrc11⟩ := Row.slice hr11
                        replace hr11 := Row.rebase hr11 hb.size
                        replace hr1 := Row.ext hr1 he22
                        replace hr2 := Row.ext hr2 he22
                        replace hb := hb.trans (Below.mono he22 hb.size)
                        have := bitsK_length (rotN A ((32 - B % 32) % 32)) 32
                        refine sqdt hf (d_callB (vs := [(.slice ra11 (((bitsK (rotN A ((32 - B % 32) % 32)) 32)).length) rc11)]) rfl Try.func82 (by kernel_rfl) (by kernel_rfl) (number_any (rotN A ((32 - B % 32) % 32)) _ _ _ _ (by omega) (Row.rd (by intros; rfl) hr11) (by first | rfl | assumption | simp))) rfl rfl rfl ?_; clear hf fa; rintro fa _ w23 ⟨rfl, he23⟩ hf
                        replace hr1 := Row.ext hr1 he23
                        replace hr2 := Row.ext hr2 he23
                        replace hr11 := Row.ext hr11 he23
                        replace hb := hb.trans (Below.mono he23 hb.size)
                        refine sqv hf (r_assign rfl) rfl rfl rfl ?_; clear hf fa; intro fa hf
                        refine sqv hf (r_assign rfl) rfl rfl rfl ?_; clear hf fa; intro fa hf
                        apply wpList_nil
                        (try simp only [Exit.then, Exit.inBlock, ↓reduceIte, Nat.reduceEqDiff])
                        refine hK32 _ _ ?_
                        refine wp_ret ?_
                        (try simp only [Exit.then, Exit.inBlock])
                        refine ret2 hf rfl rfl rfl ?_
                        refine ⟨?_, hb⟩; unfold rtwoP; rw [if_neg hqt21_1]; unfold rtwoK; rw [if_neg hqt34_1, if_neg hqt41_1, if_neg hqt48_1, if_neg hqt56_1, if_neg hqt63_1, if_neg hqt73_1, if_neg hqt82_1, if_neg hqt88_1, if_neg hqt98_1, if_neg hqt105_1]; (try rfl)

set_option maxHeartbeats 1000000 in
set_option maxRecDepth 100000 in
theorem truth_any (b : Bool) (w : World) : Calls Try.prog 94 #[(.bool b)] w fun e w' => e = .returned (.int .u32 (tz b)) ∧ w = w' := by
  refine sx_enter (L := [(0, (.bool b))]) Try.func94 rfl rfl rfl rfl (fun fa hf => ?_)
  have hb : Below w.heap.size w w := Below.refl _ _
  refine wp_seq_k (fun K1 hK1 => ?_)
  refine wp_region_lit ?_
  refine sqv hf (r_assign rfl) rfl rfl rfl ?_; clear hf fa; intro fa hf
  apply wpList_nil
  (try simp only [Exit.then, Exit.inBlock, ↓reduceIte, Nat.reduceEqDiff])
  refine hK1 _ _ ?_
  refine wp_seq_k (fun K2 hK2 => ?_)
  refine wp_seq_k (fun K3 hK3 => ?_)
  refine wp_region_lit ?_
  refine sqv hf (r_move rfl) rfl rfl rfl ?_; clear hf fa; intro fa hf
  apply wpList_nil
  (try simp only [Exit.then, Exit.inBlock, ↓reduceIte, Nat.reduceEqDiff])
  refine hK3 _ _ ?_
  refine wp_cond_split (t := b) (hf.ev rfl) (fun hqt3_1 => ?_) (fun hqt3_1 => ?_)
  · have hqt3_1b := hqt3_1
    try simp only [decide_eq_true_eq, Bool.and_eq_true, Bool.or_eq_true, Bool.not_eq_true', decide_eq_false_iff_not, ne_eq, Bool.not_eq_true] at hqt3_1
    refine wp_seq_k (fun K4 hK4 => ?_)
    refine wp_region_lit ?_
    refine sqv hf (r_assign rfl) rfl rfl rfl ?_; clear hf fa; intro fa hf
    apply wpList_nil
    (try simp only [Exit.then, Exit.inBlock, ↓reduceIte, Nat.reduceEqDiff])
    refine hK4 _ _ ?_
    refine wp_ret ?_
    (try simp only [Exit.then, Exit.inBlock])
    refine ret1 hf rfl rfl ?_
    unfold tz; rw [if_pos hqt3_1]; exact ⟨rfl, rfl⟩
  · have hqt3_1b := hqt3_1
    replace hqt3_1 := Bool.eq_false_iff.1 hqt3_1
    try simp only [ne_eq, decide_eq_true_eq, Bool.and_eq_true, Bool.or_eq_true, Bool.not_eq_true', decide_eq_false_iff_not] at hqt3_1
    refine wp_skip ?_
    (try simp only [Exit.then, Exit.inBlock, ↓reduceIte, Nat.reduceEqDiff])
    refine hK2 _ _ ?_
    refine wp_seq_k (fun K5 hK5 => ?_)
    refine wp_region_lit ?_
    refine sqv hf (r_assign rfl) rfl rfl rfl ?_; clear hf fa; intro fa hf
    apply wpList_nil
    (try simp only [Exit.then, Exit.inBlock, ↓reduceIte, Nat.reduceEqDiff])
    refine hK5 _ _ ?_
    refine wp_ret ?_
    (try simp only [Exit.then, Exit.inBlock])
    refine ret1 hf rfl rfl ?_
    unfold tz; rw [if_neg hqt3_1]; exact ⟨rfl, rfl⟩

set_option maxHeartbeats 1000000 in
set_option maxRecDepth 100000 in
theorem cmp_any (o : Int) (A B : Nat) (w : World) (hA : A < 4294967296) (hB : B < 4294967296) : Calls Try.prog 77 #[(.int .u8 o), (.int .u32 ((A : Nat) : Int)), (.int .u32 ((B : Nat) : Int))] w fun e w' => e = .returned (.tuple #[.int .u32 (cmpG o A B).1, .bool (cmpG o A B).2]) ∧ w = w' := by
  refine sx_enter (L := [(0, (.int .u8 o)), (1, (.int .u32 ((A : Nat) : Int))), (2, (.int .u32 ((B : Nat) : Int)))]) Try.func77 rfl rfl rfl rfl (fun fa hf => ?_)
  have hb : Below w.heap.size w w := Below.refl _ _
  refine wp_seq_k (fun K1 hK1 => ?_)
  refine wp_region_lit ?_
  refine sqv hf (r_assign rfl) rfl rfl rfl ?_; clear hf fa; intro fa hf
  refine sqv hf (r_assign rfl) rfl rfl rfl ?_; clear hf fa; intro fa hf
  apply wpList_nil
  (try simp only [Exit.then, Exit.inBlock, ↓reduceIte, Nat.reduceEqDiff])
  refine hK1 _ _ ?_
  refine wp_seq_k (fun K2 hK2 => ?_)
  refine wp_region_lit ?_
  refine sqv hf (r_move rfl) rfl rfl rfl ?_; clear hf fa; intro fa hf
  refine sqv hf (r_conv (C := ((wrap32 ((A : Nat) : Int)))) rfl Try.underlying44 Try.underlying21 (i32_w _)) rfl rfl rfl ?_; clear hf fa; intro fa hf
  refine sqv hf (r_move rfl) rfl rfl rfl ?_; clear hf fa; intro fa hf
  refine sqv hf (r_conv (C := ((wrap32 ((B : Nat) : Int)))) rfl Try.underlying44 Try.underlying21 (i32_w _)) rfl rfl rfl ?_; clear hf fa; intro fa hf
  refine sqv hf (r_assign rfl) rfl rfl rfl ?_; clear hf fa; intro fa hf
  refine sqv hf (r_assign rfl) rfl rfl rfl ?_; clear hf fa; intro fa hf
  apply wpList_nil
  (try simp only [Exit.then, Exit.inBlock, ↓reduceIte, Nat.reduceEqDiff])
  refine hK2 _ _ ?_
  refine wp_seq_k (fun K3 hK3 => ?_)
  refine wp_seq_k (fun K4 hK4 => ?_)
  refine wp_region_lit ?_
  refine sqv hf (r_move rfl) rfl rfl rfl ?_; clear hf fa; intro fa hf
  apply wpList_nil
  (try simp only [Exit.then, Exit.inBlock, ↓reduceIte, Nat.reduceEqDiff])
  refine hK4 _ _ ?_
  refine wp_block ?_
  refine wp_seq_k (fun K5 hK5 => ?_)
  refine wp_region_lit ?_
  refine sqv hf (r_eq rfl rfl) rfl rfl rfl ?_; clear hf fa; intro fa hf
  refine sqv hf (r_assign rfl) rfl rfl rfl ?_; clear hf fa; intro fa hf
  apply wpList_nil
  (try simp only [Exit.then, Exit.inBlock, ↓reduceIte, Nat.reduceEqDiff])
  refine hK5 _ _ ?_
  refine wp_cond_split (t := (decide (o = (70 : Int)))) (hf.ev rfl) (fun hqt15_1 => ?_) (fun hqt15_1 => ?_)
  · have hqt15_1b := hqt15_1
    try simp only [decide_eq_true_eq, Bool.and_eq_true, Bool.or_eq_true, Bool.not_eq_true', decide_eq_false_iff_not, ne_eq, Bool.not_eq_true] at hqt15_1
    refine wp_seq_k (fun K6 hK6 => ?_)
    refine wp_region_lit ?_
    refine sqv hf (r_move rfl) rfl rfl rfl ?_; clear hf fa; intro fa hf
    refine sqv hf (r_move rfl) rfl rfl rfl ?_; clear hf fa; intro fa hf
    refine sqv hf (r_eq rfl rfl) rfl rfl rfl ?_; clear hf fa; intro fa hf
    refine sqdt hf (d_callS (vs := [(.bool (decide (((A : Nat) : Int) = ((B : Nat) : Int))))]) rfl Try.func94 (by kernel_rfl) (by kernel_rfl) (truth_any (decide (((A : Nat) : Int) = ((B : Nat) : Int))) _)) rfl rfl rfl ?_; clear hf fa; rintro fa _ _ ⟨rfl, rfl⟩ hf
    refine sqv hf (r_assign rfl) rfl rfl rfl ?_; clear hf fa; intro fa hf
    refine sqv hf (r_assign rfl) rfl rfl rfl ?_; clear hf fa; intro fa hf
    apply wpList_nil
    (try simp only [Exit.then, Exit.inBlock, ↓reduceIte, Nat.reduceEqDiff])
    refine hK6 _ _ ?_
    refine wp_ret ?_
    (try simp only [Exit.then, Exit.inBlock])
    refine ret2 hf rfl rfl rfl ?_
    refine ⟨?_, rfl⟩; unfold cmpG; rw [if_pos hqt15_1]; (try rfl)
  · have hqt15_1b := hqt15_1
    replace hqt15_1 := Bool.eq_false_iff.1 hqt15_1
    try simp only [ne_eq, decide_eq_true_eq, Bool.and_eq_true, Bool.or_eq_true, Bool.not_eq_true', decide_eq_false_iff_not] at hqt15_1
    refine wp_seq_k (fun K7 hK7 => ?_)
    refine wp_region_lit ?_
    refine sqv hf (r_eq rfl rfl) rfl rfl rfl ?_; clear hf fa; intro fa hf
    refine sqv hf (r_assign rfl) rfl rfl rfl ?_; clear hf fa; intro fa hf
    apply wpList_nil
    (try simp only [Exit.then, Exit.inBlock, ↓reduceIte, Nat.reduceEqDiff])
    refine hK7 _ _ ?_
    refine wp_cond_split (t := (decide (o = (71 : Int)))) (hf.ev rfl) (fun hqt21_1 => ?_) (fun hqt21_1 => ?_)
    · have hqt21_1b := hqt21_1
      try simp only [decide_eq_true_eq, Bool.and_eq_true, Bool.or_eq_true, Bool.not_eq_true', decide_eq_false_iff_not, ne_eq, Bool.not_eq_true] at hqt21_1
      refine wp_seq_k (fun K8 hK8 => ?_)
      refine wp_region_lit ?_
      refine sqv hf (r_move rfl) rfl rfl rfl ?_; clear hf fa; intro fa hf
      refine sqv hf (r_move rfl) rfl rfl rfl ?_; clear hf fa; intro fa hf
      refine sqv hf (r_ne rfl rfl) rfl rfl rfl ?_; clear hf fa; intro fa hf
      refine sqdt hf (d_callS (vs := [(.bool (decide (((A : Nat) : Int) ≠ ((B : Nat) : Int))))]) rfl Try.func94 (by kernel_rfl) (by kernel_rfl) (truth_any (decide (((A : Nat) : Int) ≠ ((B : Nat) : Int))) _)) rfl rfl rfl ?_; clear hf fa; rintro fa _ _ ⟨rfl, rfl⟩ hf
      refine sqv hf (r_assign rfl) rfl rfl rfl ?_; clear hf fa; intro fa hf
      refine sqv hf (r_assign rfl) rfl rfl rfl ?_; clear hf fa; intro fa hf
      apply wpList_nil
      (try simp only [Exit.then, Exit.inBlock, ↓reduceIte, Nat.reduceEqDiff])
      refine hK8 _ _ ?_
      refine wp_ret ?_
      (try simp only [Exit.then, Exit.inBlock])
      refine ret2 hf rfl rfl rfl ?_
      refine ⟨?_, rfl⟩; unfold cmpG; rw [if_neg hqt15_1, if_pos hqt21_1]; (try rfl)
    · have hqt21_1b := hqt21_1
      replace hqt21_1 := Bool.eq_false_iff.1 hqt21_1
      try simp only [ne_eq, decide_eq_true_eq, Bool.and_eq_true, Bool.or_eq_true, Bool.not_eq_true', decide_eq_false_iff_not] at hqt21_1
      refine wp_seq_k (fun K9 hK9 => ?_)
      refine wp_region_lit ?_
      refine sqv hf (r_eq rfl rfl) rfl rfl rfl ?_; clear hf fa; intro fa hf
      refine sqv hf (r_assign rfl) rfl rfl rfl ?_; clear hf fa; intro fa hf
      apply wpList_nil
      (try simp only [Exit.then, Exit.inBlock, ↓reduceIte, Nat.reduceEqDiff])
      refine hK9 _ _ ?_
      refine wp_cond_split (t := (decide (o = (72 : Int)))) (hf.ev rfl) (fun hqt27_1 => ?_) (fun hqt27_1 => ?_)
      · have hqt27_1b := hqt27_1
        try simp only [decide_eq_true_eq, Bool.and_eq_true, Bool.or_eq_true, Bool.not_eq_true', decide_eq_false_iff_not, ne_eq, Bool.not_eq_true] at hqt27_1
        refine wp_seq_k (fun K10 hK10 => ?_)
        refine wp_region_lit ?_
        refine sqv hf (r_move rfl) rfl rfl rfl ?_; clear hf fa; intro fa hf
        refine sqv hf (r_move rfl) rfl rfl rfl ?_; clear hf fa; intro fa hf
        refine sqv hf (r_lt rfl rfl) rfl rfl rfl ?_; clear hf fa; intro fa hf
        refine sqdt hf (d_callS (vs := [(.bool (decide (((wrap32 ((A : Nat) : Int))) < ((wrap32 ((B : Nat) : Int))))))]) rfl Try.func94 (by kernel_rfl) (by kernel_rfl) (truth_any (decide (((wrap32 ((A : Nat) : Int))) < ((wrap32 ((B : Nat) : Int))))) _)) rfl rfl rfl ?_; clear hf fa; rintro fa _ _ ⟨rfl, rfl⟩ hf
        refine sqv hf (r_assign rfl) rfl rfl rfl ?_; clear hf fa; intro fa hf
        refine sqv hf (r_assign rfl) rfl rfl rfl ?_; clear hf fa; intro fa hf
        apply wpList_nil
        (try simp only [Exit.then, Exit.inBlock, ↓reduceIte, Nat.reduceEqDiff])
        refine hK10 _ _ ?_
        refine wp_ret ?_
        (try simp only [Exit.then, Exit.inBlock])
        refine ret2 hf rfl rfl rfl ?_
        refine ⟨?_, rfl⟩; unfold cmpG; rw [if_neg hqt15_1, if_neg hqt21_1, if_pos hqt27_1]; (try rfl)
      · have hqt27_1b := hqt27_1
        replace hqt27_1 := Bool.eq_false_iff.1 hqt27_1
        try simp only [ne_eq, decide_eq_true_eq, Bool.and_eq_true, Bool.or_eq_true, Bool.not_eq_true', decide_eq_false_iff_not] at hqt27_1
        refine wp_seq_k (fun K11 hK11 => ?_)
        refine wp_region_lit ?_
        refine sqv hf (r_eq rfl rfl) rfl rfl rfl ?_; clear hf fa; intro fa hf
        refine sqv hf (r_assign rfl) rfl rfl rfl ?_; clear hf fa; intro fa hf
        apply wpList_nil
        (try simp only [Exit.then, Exit.inBlock, ↓reduceIte, Nat.reduceEqDiff])
        refine hK11 _ _ ?_
        refine wp_cond_split (t := (decide (o = (73 : Int)))) (hf.ev rfl) (fun hqt33_1 => ?_) (fun hqt33_1 => ?_)
        · have hqt33_1b := hqt33_1
          try simp only [decide_eq_true_eq, Bool.and_eq_true, Bool.or_eq_true, Bool.not_eq_true', decide_eq_false_iff_not, ne_eq, Bool.not_eq_true] at hqt33_1
          refine wp_seq_k (fun K12 hK12 => ?_)
          refine wp_region_lit ?_
          refine sqv hf (r_move rfl) rfl rfl rfl ?_; clear hf fa; intro fa hf
          refine sqv hf (r_move rfl) rfl rfl rfl ?_; clear hf fa; intro fa hf
          refine sqv hf (r_lt rfl rfl) rfl rfl rfl ?_; clear hf fa; intro fa hf
          refine sqdt hf (d_callS (vs := [(.bool (decide (((A : Nat) : Int) < ((B : Nat) : Int))))]) rfl Try.func94 (by kernel_rfl) (by kernel_rfl) (truth_any (decide (((A : Nat) : Int) < ((B : Nat) : Int))) _)) rfl rfl rfl ?_; clear hf fa; rintro fa _ _ ⟨rfl, rfl⟩ hf
          refine sqv hf (r_assign rfl) rfl rfl rfl ?_; clear hf fa; intro fa hf
          refine sqv hf (r_assign rfl) rfl rfl rfl ?_; clear hf fa; intro fa hf
          apply wpList_nil
          (try simp only [Exit.then, Exit.inBlock, ↓reduceIte, Nat.reduceEqDiff])
          refine hK12 _ _ ?_
          refine wp_ret ?_
          (try simp only [Exit.then, Exit.inBlock])
          refine ret2 hf rfl rfl rfl ?_
          refine ⟨?_, rfl⟩; unfold cmpG; rw [if_neg hqt15_1, if_neg hqt21_1, if_neg hqt27_1, if_pos hqt33_1]; (try rfl)
        · have hqt33_1b := hqt33_1
          replace hqt33_1 := Bool.eq_false_iff.1 hqt33_1
          try simp only [ne_eq, decide_eq_true_eq, Bool.and_eq_true, Bool.or_eq_true, Bool.not_eq_true', decide_eq_false_iff_not] at hqt33_1
          refine wp_seq_k (fun K13 hK13 => ?_)
          refine wp_region_lit ?_
          refine sqv hf (r_eq rfl rfl) rfl rfl rfl ?_; clear hf fa; intro fa hf
          refine sqv hf (r_assign rfl) rfl rfl rfl ?_; clear hf fa; intro fa hf
          apply wpList_nil
          (try simp only [Exit.then, Exit.inBlock, ↓reduceIte, Nat.reduceEqDiff])
          refine hK13 _ _ ?_
          refine wp_cond_split (t := (decide (o = (74 : Int)))) (hf.ev rfl) (fun hqt39_1 => ?_) (fun hqt39_1 => ?_)
          · have hqt39_1b := hqt39_1
            try simp only [decide_eq_true_eq, Bool.and_eq_true, Bool.or_eq_true, Bool.not_eq_true', decide_eq_false_iff_not, ne_eq, Bool.not_eq_true] at hqt39_1
            refine wp_seq_k (fun K14 hK14 => ?_)
            refine wp_region_lit ?_
            refine sqv hf (r_move rfl) rfl rfl rfl ?_; clear hf fa; intro fa hf
            refine sqv hf (r_move rfl) rfl rfl rfl ?_; clear hf fa; intro fa hf
            refine sqv hf (r_gt rfl rfl) rfl rfl rfl ?_; clear hf fa; intro fa hf
            refine sqdt hf (d_callS (vs := [(.bool (decide (((wrap32 ((B : Nat) : Int))) < ((wrap32 ((A : Nat) : Int))))))]) rfl Try.func94 (by kernel_rfl) (by kernel_rfl) (truth_any (decide (((wrap32 ((B : Nat) : Int))) < ((wrap32 ((A : Nat) : Int))))) _)) rfl rfl rfl ?_; clear hf fa; rintro fa _ _ ⟨rfl, rfl⟩ hf
            refine sqv hf (r_assign rfl) rfl rfl rfl ?_; clear hf fa; intro fa hf
            refine sqv hf (r_assign rfl) rfl rfl rfl ?_; clear hf fa; intro fa hf
            apply wpList_nil
            (try simp only [Exit.then, Exit.inBlock, ↓reduceIte, Nat.reduceEqDiff])
            refine hK14 _ _ ?_
            refine wp_ret ?_
            (try simp only [Exit.then, Exit.inBlock])
            refine ret2 hf rfl rfl rfl ?_
            refine ⟨?_, rfl⟩; unfold cmpG; rw [if_neg hqt15_1, if_neg hqt21_1, if_neg hqt27_1, if_neg hqt33_1, if_pos hqt39_1]; (try rfl)
          · have hqt39_1b := hqt39_1
            replace hqt39_1 := Bool.eq_false_iff.1 hqt39_1
            try simp only [ne_eq, decide_eq_true_eq, Bool.and_eq_true, Bool.or_eq_true, Bool.not_eq_true', decide_eq_false_iff_not] at hqt39_1
            refine wp_seq_k (fun K15 hK15 => ?_)
            refine wp_region_lit ?_
            refine sqv hf (r_eq rfl rfl) rfl rfl rfl ?_; clear hf fa; intro fa hf
            refine sqv hf (r_assign rfl) rfl rfl rfl ?_; clear hf fa; intro fa hf
            apply wpList_nil
            (try simp only [Exit.then, Exit.inBlock, ↓reduceIte, Nat.reduceEqDiff])
            refine hK15 _ _ ?_
            refine wp_cond_split (t := (decide (o = (75 : Int)))) (hf.ev rfl) (fun hqt45_1 => ?_) (fun hqt45_1 => ?_)
            · have hqt45_1b := hqt45_1
              try simp only [decide_eq_true_eq, Bool.and_eq_true, Bool.or_eq_true, Bool.not_eq_true', decide_eq_false_iff_not, ne_eq, Bool.not_eq_true] at hqt45_1
              refine wp_seq_k (fun K16 hK16 => ?_)
              refine wp_region_lit ?_
              refine sqv hf (r_move rfl) rfl rfl rfl ?_; clear hf fa; intro fa hf
              refine sqv hf (r_move rfl) rfl rfl rfl ?_; clear hf fa; intro fa hf
              refine sqv hf (r_gt rfl rfl) rfl rfl rfl ?_; clear hf fa; intro fa hf
              refine sqdt hf (d_callS (vs := [(.bool (decide (((B : Nat) : Int) < ((A : Nat) : Int))))]) rfl Try.func94 (by kernel_rfl) (by kernel_rfl) (truth_any (decide (((B : Nat) : Int) < ((A : Nat) : Int))) _)) rfl rfl rfl ?_; clear hf fa; rintro fa _ _ ⟨rfl, rfl⟩ hf
              refine sqv hf (r_assign rfl) rfl rfl rfl ?_; clear hf fa; intro fa hf
              refine sqv hf (r_assign rfl) rfl rfl rfl ?_; clear hf fa; intro fa hf
              apply wpList_nil
              (try simp only [Exit.then, Exit.inBlock, ↓reduceIte, Nat.reduceEqDiff])
              refine hK16 _ _ ?_
              refine wp_ret ?_
              (try simp only [Exit.then, Exit.inBlock])
              refine ret2 hf rfl rfl rfl ?_
              refine ⟨?_, rfl⟩; unfold cmpG; rw [if_neg hqt15_1, if_neg hqt21_1, if_neg hqt27_1, if_neg hqt33_1, if_neg hqt39_1, if_pos hqt45_1]; (try rfl)
            · have hqt45_1b := hqt45_1
              replace hqt45_1 := Bool.eq_false_iff.1 hqt45_1
              try simp only [ne_eq, decide_eq_true_eq, Bool.and_eq_true, Bool.or_eq_true, Bool.not_eq_true', decide_eq_false_iff_not] at hqt45_1
              refine wp_seq_k (fun K17 hK17 => ?_)
              refine wp_region_lit ?_
              refine sqv hf (r_eq rfl rfl) rfl rfl rfl ?_; clear hf fa; intro fa hf
              refine sqv hf (r_assign rfl) rfl rfl rfl ?_; clear hf fa; intro fa hf
              apply wpList_nil
              (try simp only [Exit.then, Exit.inBlock, ↓reduceIte, Nat.reduceEqDiff])
              refine hK17 _ _ ?_
              refine wp_cond_split (t := (decide (o = (76 : Int)))) (hf.ev rfl) (fun hqt51_1 => ?_) (fun hqt51_1 => ?_)
              · have hqt51_1b := hqt51_1
                try simp only [decide_eq_true_eq, Bool.and_eq_true, Bool.or_eq_true, Bool.not_eq_true', decide_eq_false_iff_not, ne_eq, Bool.not_eq_true] at hqt51_1
                refine wp_seq_k (fun K18 hK18 => ?_)
                refine wp_region_lit ?_
                refine sqv hf (r_move rfl) rfl rfl rfl ?_; clear hf fa; intro fa hf
                refine sqv hf (r_move rfl) rfl rfl rfl ?_; clear hf fa; intro fa hf
                refine sqv hf (r_le rfl rfl) rfl rfl rfl ?_; clear hf fa; intro fa hf
                refine sqdt hf (d_callS (vs := [(.bool (decide (((wrap32 ((A : Nat) : Int))) ≤ ((wrap32 ((B : Nat) : Int))))))]) rfl Try.func94 (by kernel_rfl) (by kernel_rfl) (truth_any (decide (((wrap32 ((A : Nat) : Int))) ≤ ((wrap32 ((B : Nat) : Int))))) _)) rfl rfl rfl ?_; clear hf fa; rintro fa _ _ ⟨rfl, rfl⟩ hf
                refine sqv hf (r_assign rfl) rfl rfl rfl ?_; clear hf fa; intro fa hf
                refine sqv hf (r_assign rfl) rfl rfl rfl ?_; clear hf fa; intro fa hf
                apply wpList_nil
                (try simp only [Exit.then, Exit.inBlock, ↓reduceIte, Nat.reduceEqDiff])
                refine hK18 _ _ ?_
                refine wp_ret ?_
                (try simp only [Exit.then, Exit.inBlock])
                refine ret2 hf rfl rfl rfl ?_
                refine ⟨?_, rfl⟩; unfold cmpG; rw [if_neg hqt15_1, if_neg hqt21_1, if_neg hqt27_1, if_neg hqt33_1, if_neg hqt39_1, if_neg hqt45_1, if_pos hqt51_1]; (try rfl)
              · have hqt51_1b := hqt51_1
                replace hqt51_1 := Bool.eq_false_iff.1 hqt51_1
                try simp only [ne_eq, decide_eq_true_eq, Bool.and_eq_true, Bool.or_eq_true, Bool.not_eq_true', decide_eq_false_iff_not] at hqt51_1
                refine wp_seq_k (fun K19 hK19 => ?_)
                refine wp_region_lit ?_
                refine sqv hf (r_eq rfl rfl) rfl rfl rfl ?_; clear hf fa; intro fa hf
                refine sqv hf (r_assign rfl) rfl rfl rfl ?_; clear hf fa; intro fa hf
                apply wpList_nil
                (try simp only [Exit.then, Exit.inBlock, ↓reduceIte, Nat.reduceEqDiff])
                refine hK19 _ _ ?_
                refine wp_cond_split (t := (decide (o = (77 : Int)))) (hf.ev rfl) (fun hqt57_1 => ?_) (fun hqt57_1 => ?_)
                · have hqt57_1b := hqt57_1
                  try simp only [decide_eq_true_eq, Bool.and_eq_true, Bool.or_eq_true, Bool.not_eq_true', decide_eq_false_iff_not, ne_eq, Bool.not_eq_true] at hqt57_1
                  refine wp_seq_k (fun K20 hK20 => ?_)
                  refine wp_region_lit ?_
                  refine sqv hf (r_move rfl) rfl rfl rfl ?_; clear hf fa; intro fa hf
                  refine sqv hf (r_move rfl) rfl rfl rfl ?_; clear hf fa; intro fa hf
                  refine sqv hf (r_le rfl rfl) rfl rfl rfl ?_; clear hf fa; intro fa hf
                  refine sqdt hf (d_callS (vs := [(.bool (decide (((A : Nat) : Int) ≤ ((B : Nat) : Int))))]) rfl Try.func94 (by kernel_rfl) (by kernel_rfl) (truth_any (decide (((A : Nat) : Int) ≤ ((B : Nat) : Int))) _)) rfl rfl rfl ?_; clear hf fa; rintro fa _ _ ⟨rfl, rfl⟩ hf
                  refine sqv hf (r_assign rfl) rfl rfl rfl ?_; clear hf fa; intro fa hf
                  refine sqv hf (r_assign rfl) rfl rfl rfl ?_; clear hf fa; intro fa hf
                  apply wpList_nil
                  (try simp only [Exit.then, Exit.inBlock, ↓reduceIte, Nat.reduceEqDiff])
                  refine hK20 _ _ ?_
                  refine wp_ret ?_
                  (try simp only [Exit.then, Exit.inBlock])
                  refine ret2 hf rfl rfl rfl ?_
                  refine ⟨?_, rfl⟩; unfold cmpG; rw [if_neg hqt15_1, if_neg hqt21_1, if_neg hqt27_1, if_neg hqt33_1, if_neg hqt39_1, if_neg hqt45_1, if_neg hqt51_1, if_pos hqt57_1]; (try rfl)
                · have hqt57_1b := hqt57_1
                  replace hqt57_1 := Bool.eq_false_iff.1 hqt57_1
                  try simp only [ne_eq, decide_eq_true_eq, Bool.and_eq_true, Bool.or_eq_true, Bool.not_eq_true', decide_eq_false_iff_not] at hqt57_1
                  refine wp_seq_k (fun K21 hK21 => ?_)
                  refine wp_region_lit ?_
                  refine sqv hf (r_eq rfl rfl) rfl rfl rfl ?_; clear hf fa; intro fa hf
                  refine sqv hf (r_assign rfl) rfl rfl rfl ?_; clear hf fa; intro fa hf
                  apply wpList_nil
                  (try simp only [Exit.then, Exit.inBlock, ↓reduceIte, Nat.reduceEqDiff])
                  refine hK21 _ _ ?_
                  refine wp_cond_split (t := (decide (o = (78 : Int)))) (hf.ev rfl) (fun hqt63_1 => ?_) (fun hqt63_1 => ?_)
                  · have hqt63_1b := hqt63_1
                    try simp only [decide_eq_true_eq, Bool.and_eq_true, Bool.or_eq_true, Bool.not_eq_true', decide_eq_false_iff_not, ne_eq, Bool.not_eq_true] at hqt63_1
                    refine wp_seq_k (fun K22 hK22 => ?_)
                    refine wp_region_lit ?_
                    refine sqv hf (r_move rfl) rfl rfl rfl ?_; clear hf fa; intro fa hf
                    refine sqv hf (r_move rfl) rfl rfl rfl ?_; clear hf fa; intro fa hf
                    refine sqv hf (r_ge rfl rfl) rfl rfl rfl ?_; clear hf fa; intro fa hf
                    refine sqdt hf (d_callS (vs := [(.bool (decide (((wrap32 ((B : Nat) : Int))) ≤ ((wrap32 ((A : Nat) : Int))))))]) rfl Try.func94 (by kernel_rfl) (by kernel_rfl) (truth_any (decide (((wrap32 ((B : Nat) : Int))) ≤ ((wrap32 ((A : Nat) : Int))))) _)) rfl rfl rfl ?_; clear hf fa; rintro fa _ _ ⟨rfl, rfl⟩ hf
                    refine sqv hf (r_assign rfl) rfl rfl rfl ?_; clear hf fa; intro fa hf
                    refine sqv hf (r_assign rfl) rfl rfl rfl ?_; clear hf fa; intro fa hf
                    apply wpList_nil
                    (try simp only [Exit.then, Exit.inBlock, ↓reduceIte, Nat.reduceEqDiff])
                    refine hK22 _ _ ?_
                    refine wp_ret ?_
                    (try simp only [Exit.then, Exit.inBlock])
                    refine ret2 hf rfl rfl rfl ?_
                    refine ⟨?_, rfl⟩; unfold cmpG; rw [if_neg hqt15_1, if_neg hqt21_1, if_neg hqt27_1, if_neg hqt33_1, if_neg hqt39_1, if_neg hqt45_1, if_neg hqt51_1, if_neg hqt57_1, if_pos hqt63_1]; (try rfl)
                  · have hqt63_1b := hqt63_1
                    replace hqt63_1 := Bool.eq_false_iff.1 hqt63_1
                    try simp only [ne_eq, decide_eq_true_eq, Bool.and_eq_true, Bool.or_eq_true, Bool.not_eq_true', decide_eq_false_iff_not] at hqt63_1
                    refine wp_seq_k (fun K23 hK23 => ?_)
                    refine wp_region_lit ?_
                    refine sqv hf (r_eq rfl rfl) rfl rfl rfl ?_; clear hf fa; intro fa hf
                    refine sqv hf (r_assign rfl) rfl rfl rfl ?_; clear hf fa; intro fa hf
                    apply wpList_nil
                    (try simp only [Exit.then, Exit.inBlock, ↓reduceIte, Nat.reduceEqDiff])
                    refine hK23 _ _ ?_
                    refine wp_cond_split (t := (decide (o = (79 : Int)))) (hf.ev rfl) (fun hqt69_1 => ?_) (fun hqt69_1 => ?_)
                    · have hqt69_1b := hqt69_1
                      try simp only [decide_eq_true_eq, Bool.and_eq_true, Bool.or_eq_true, Bool.not_eq_true', decide_eq_false_iff_not, ne_eq, Bool.not_eq_true] at hqt69_1
                      refine wp_seq_k (fun K24 hK24 => ?_)
                      refine wp_region_lit ?_
                      refine sqv hf (r_move rfl) rfl rfl rfl ?_; clear hf fa; intro fa hf
                      refine sqv hf (r_move rfl) rfl rfl rfl ?_; clear hf fa; intro fa hf
                      refine sqv hf (r_ge rfl rfl) rfl rfl rfl ?_; clear hf fa; intro fa hf
                      refine sqdt hf (d_callS (vs := [(.bool (decide (((B : Nat) : Int) ≤ ((A : Nat) : Int))))]) rfl Try.func94 (by kernel_rfl) (by kernel_rfl) (truth_any (decide (((B : Nat) : Int) ≤ ((A : Nat) : Int))) _)) rfl rfl rfl ?_; clear hf fa; rintro fa _ _ ⟨rfl, rfl⟩ hf
                      refine sqv hf (r_assign rfl) rfl rfl rfl ?_; clear hf fa; intro fa hf
                      refine sqv hf (r_assign rfl) rfl rfl rfl ?_; clear hf fa; intro fa hf
                      apply wpList_nil
                      (try simp only [Exit.then, Exit.inBlock, ↓reduceIte, Nat.reduceEqDiff])
                      refine hK24 _ _ ?_
                      refine wp_ret ?_
                      (try simp only [Exit.then, Exit.inBlock])
                      refine ret2 hf rfl rfl rfl ?_
                      refine ⟨?_, rfl⟩; unfold cmpG; rw [if_neg hqt15_1, if_neg hqt21_1, if_neg hqt27_1, if_neg hqt33_1, if_neg hqt39_1, if_neg hqt45_1, if_neg hqt51_1, if_neg hqt57_1, if_neg hqt63_1, if_pos hqt69_1]; (try rfl)
                    · have hqt69_1b := hqt69_1
                      replace hqt69_1 := Bool.eq_false_iff.1 hqt69_1
                      try simp only [ne_eq, decide_eq_true_eq, Bool.and_eq_true, Bool.or_eq_true, Bool.not_eq_true', decide_eq_false_iff_not] at hqt69_1
                      refine wp_skip ?_
                      (try simp only [Exit.then, Exit.inBlock, ↓reduceIte, Nat.reduceEqDiff])
                      refine hK3 _ _ ?_
                      refine wp_seq_k (fun K25 hK25 => ?_)
                      refine wp_region_lit ?_
                      refine sqv hf (r_assign rfl) rfl rfl rfl ?_; clear hf fa; intro fa hf
                      refine sqv hf (r_assign rfl) rfl rfl rfl ?_; clear hf fa; intro fa hf
                      apply wpList_nil
                      (try simp only [Exit.then, Exit.inBlock, ↓reduceIte, Nat.reduceEqDiff])
                      refine hK25 _ _ ?_
                      refine wp_ret ?_
                      (try simp only [Exit.then, Exit.inBlock])
                      refine ret2 hf rfl rfl rfl ?_
                      refine ⟨?_, rfl⟩; unfold cmpG; rw [if_neg hqt15_1, if_neg hqt21_1, if_neg hqt27_1, if_neg hqt33_1, if_neg hqt39_1, if_neg hqt45_1, if_neg hqt51_1, if_neg hqt57_1, if_neg hqt63_1, if_neg hqt69_1]; (try rfl)

set_option maxHeartbeats 1000000 in
set_option maxRecDepth 100000 in
theorem div_any (o : Int) (A B : Nat) (w : World) (hA : A < 4294967296) (hB : B < 4294967296) : Calls Try.prog 78 #[(.int .u8 o), (.int .u32 ((A : Nat) : Int)), (.int .u32 ((B : Nat) : Int))] w fun e w' => e = .returned (.tuple #[.int .u32 (divG o A B).1, .int .i64 (divG o A B).2]) ∧ w = w' := by
  refine sx_enter (L := [(0, (.int .u8 o)), (1, (.int .u32 ((A : Nat) : Int))), (2, (.int .u32 ((B : Nat) : Int)))]) Try.func78 rfl rfl rfl rfl (fun fa hf => ?_)
  have hb : Below w.heap.size w w := Below.refl _ _
  refine wp_seq_k (fun K1 hK1 => ?_)
  refine wp_region_lit ?_
  refine sqv hf (r_assign rfl) rfl rfl rfl ?_; clear hf fa; intro fa hf
  refine sqv hf (r_assign rfl) rfl rfl rfl ?_; clear hf fa; intro fa hf
  apply wpList_nil
  (try simp only [Exit.then, Exit.inBlock, ↓reduceIte, Nat.reduceEqDiff])
  refine hK1 _ _ ?_
  refine wp_seq_k (fun K2 hK2 => ?_)
  refine wp_seq_k (fun K3 hK3 => ?_)
  refine wp_region_lit ?_
  refine sqv hf (r_move rfl) rfl rfl rfl ?_; clear hf fa; intro fa hf
  refine sqv hf (r_eq rfl rfl) rfl rfl rfl ?_; clear hf fa; intro fa hf
  apply wpList_nil
  (try simp only [Exit.then, Exit.inBlock, ↓reduceIte, Nat.reduceEqDiff])
  refine hK3 _ _ ?_
  refine wp_cond_split (t := (decide (((B : Nat) : Int) = (0 : Int)))) (hf.ev rfl) (fun hqt12_1 => ?_) (fun hqt12_1 => ?_)
  · have hqt12_1b := hqt12_1
    try simp only [decide_eq_true_eq, Bool.and_eq_true, Bool.or_eq_true, Bool.not_eq_true', decide_eq_false_iff_not, ne_eq, Bool.not_eq_true] at hqt12_1
    refine wp_seq_k (fun K4 hK4 => ?_)
    refine wp_region_lit ?_
    refine sqv hf (r_assign rfl) rfl rfl rfl ?_; clear hf fa; intro fa hf
    refine sqv hf (r_assign rfl) rfl rfl rfl ?_; clear hf fa; intro fa hf
    apply wpList_nil
    (try simp only [Exit.then, Exit.inBlock, ↓reduceIte, Nat.reduceEqDiff])
    refine hK4 _ _ ?_
    refine wp_ret ?_
    (try simp only [Exit.then, Exit.inBlock])
    refine ret2 hf rfl rfl rfl ?_
    refine ⟨?_, rfl⟩; unfold divG; rw [if_pos hqt12_1]; (try rfl)
  · have hqt12_1b := hqt12_1
    replace hqt12_1 := Bool.eq_false_iff.1 hqt12_1
    try simp only [ne_eq, decide_eq_true_eq, Bool.and_eq_true, Bool.or_eq_true, Bool.not_eq_true', decide_eq_false_iff_not] at hqt12_1
    refine wp_skip ?_
    (try simp only [Exit.then, Exit.inBlock, ↓reduceIte, Nat.reduceEqDiff])
    refine hK2 _ _ ?_
    refine wp_seq_k (fun K5 hK5 => ?_)
    refine wp_region_lit ?_
    refine sqv hf (r_move rfl) rfl rfl rfl ?_; clear hf fa; intro fa hf
    refine sqv hf (r_conv (C := ((wrap32 ((A : Nat) : Int)))) rfl Try.underlying44 Try.underlying21 (i32_w _)) rfl rfl rfl ?_; clear hf fa; intro fa hf
    refine sqv hf (r_move rfl) rfl rfl rfl ?_; clear hf fa; intro fa hf
    refine sqv hf (r_conv (C := ((wrap32 ((B : Nat) : Int)))) rfl Try.underlying44 Try.underlying21 (i32_w _)) rfl rfl rfl ?_; clear hf fa; intro fa hf
    refine sqv hf (r_assign rfl) rfl rfl rfl ?_; clear hf fa; intro fa hf
    refine sqv hf (r_assign rfl) rfl rfl rfl ?_; clear hf fa; intro fa hf
    apply wpList_nil
    (try simp only [Exit.then, Exit.inBlock, ↓reduceIte, Nat.reduceEqDiff])
    refine hK5 _ _ ?_
    refine wp_seq_k (fun K6 hK6 => ?_)
    have hw0 : ¬ wrap32 ((B : Nat) : Int) = 0 := by unfold wrap32; omega
    refine wp_region_lit ?_
    refine sqv hf (r_move rfl) rfl rfl rfl ?_; clear hf fa; intro fa hf
    refine sqv hf (r_eq rfl rfl) rfl rfl rfl ?_; clear hf fa; intro fa hf
    refine sqv hf (r_move rfl) rfl rfl rfl ?_; clear hf fa; intro fa hf
    refine sqgT (act := (decide (((A : Nat) : Int) = (2147483648 : Int)))) (ag := true) (c := (decide (((A : Nat) : Int) = (2147483648 : Int)))) (v := (.int .i32 ((wrap32 ((B : Nat) : Int))))) hf rfl rfl rfl (fun hact => (r_move rfl)) rfl rfl ?_; clear hf fa; intro fa hf
    refine sqgT (act := (decide (((A : Nat) : Int) = (2147483648 : Int)))) (ag := true) (c := (decide (((A : Nat) : Int) = (2147483648 : Int)))) (v := (.bool (decide (((wrap32 ((B : Nat) : Int))) = (-1 : Int))))) hf rfl rfl rfl (fun hact => (r_eq (gb_ev hact rfl) rfl)) rfl rfl ?_; clear hf fa; intro fa hf
    refine sqv hf (r_pickA (b := (decide (((A : Nat) : Int) = (2147483648 : Int)))) (e := (decide (((wrap32 ((B : Nat) : Int))) = (-1 : Int)))) rfl rfl rfl) rfl rfl rfl ?_; clear hf fa; intro fa hf
    refine sqv hf (r_assign rfl) rfl rfl rfl ?_; clear hf fa; intro fa hf
    apply wpList_nil
    (try simp only [Exit.then, Exit.inBlock, ↓reduceIte, Nat.reduceEqDiff])
    refine hK6 _ _ ?_
    refine wp_seq_k (fun K7 hK7 => ?_)
    refine wp_block ?_
    refine wp_seq_k (fun K8 hK8 => ?_)
    refine wp_region_lit ?_
    refine sqv hf (r_move rfl) rfl rfl rfl ?_; clear hf fa; intro fa hf
    refine sqv hf (r_eq rfl rfl) rfl rfl rfl ?_; clear hf fa; intro fa hf
    refine sqv hf (r_move rfl) rfl rfl rfl ?_; clear hf fa; intro fa hf
    refine sqgT (act := (decide (o = (109 : Int)))) (ag := true) (c := (decide (o = (109 : Int)))) (v := (.bool ((decide (((A : Nat) : Int) = (2147483648 : Int))) && (decide (((wrap32 ((B : Nat) : Int))) = (-1 : Int)))))) hf rfl rfl rfl (fun hact => (r_move rfl)) rfl rfl ?_; clear hf fa; intro fa hf
    refine sqv hf (r_pickA (b := (decide (o = (109 : Int)))) (e := ((decide (((A : Nat) : Int) = (2147483648 : Int))) && (decide (((wrap32 ((B : Nat) : Int))) = (-1 : Int))))) rfl rfl rfl) rfl rfl rfl ?_; clear hf fa; intro fa hf
    refine sqv hf (r_assign rfl) rfl rfl rfl ?_; clear hf fa; intro fa hf
    apply wpList_nil
    (try simp only [Exit.then, Exit.inBlock, ↓reduceIte, Nat.reduceEqDiff])
    refine hK8 _ _ ?_
    refine wp_cond_split (t := ((decide (o = (109 : Int))) && ((decide (((A : Nat) : Int) = (2147483648 : Int))) && (decide (((wrap32 ((B : Nat) : Int))) = (-1 : Int)))))) (hf.ev rfl) (fun hqt23_1 => ?_) (fun hqt23_1 => ?_)
    · have hqt23_1b := hqt23_1
      try simp only [decide_eq_true_eq, Bool.and_eq_true, Bool.or_eq_true, Bool.not_eq_true', decide_eq_false_iff_not, ne_eq, Bool.not_eq_true] at hqt23_1
      refine wp_seq_k (fun K9 hK9 => ?_)
      refine wp_region_lit ?_
      refine sqv hf (r_assign rfl) rfl rfl rfl ?_; clear hf fa; intro fa hf
      refine sqv hf (r_assign rfl) rfl rfl rfl ?_; clear hf fa; intro fa hf
      apply wpList_nil
      (try simp only [Exit.then, Exit.inBlock, ↓reduceIte, Nat.reduceEqDiff])
      refine hK9 _ _ ?_
      refine wp_ret ?_
      (try simp only [Exit.then, Exit.inBlock])
      refine ret2 hf rfl rfl rfl ?_
      refine ⟨?_, rfl⟩; unfold divG; rw [if_neg hqt12_1, if_pos hqt23_1]; (try rfl)
    · have hqt23_1b := hqt23_1
      replace hqt23_1 := Bool.eq_false_iff.1 hqt23_1
      try simp only [ne_eq, decide_eq_true_eq, Bool.and_eq_true, Bool.or_eq_true, Bool.not_eq_true', decide_eq_false_iff_not] at hqt23_1
      refine wp_seq_k (fun K10 hK10 => ?_)
      refine wp_region_lit ?_
      refine sqv hf (r_move rfl) rfl rfl rfl ?_; clear hf fa; intro fa hf
      refine sqv hf (r_eq rfl rfl) rfl rfl rfl ?_; clear hf fa; intro fa hf
      refine sqv hf (r_assign rfl) rfl rfl rfl ?_; clear hf fa; intro fa hf
      apply wpList_nil
      (try simp only [Exit.then, Exit.inBlock, ↓reduceIte, Nat.reduceEqDiff])
      refine hK10 _ _ ?_
      refine wp_cond_split (t := (decide (o = (109 : Int)))) (hf.ev rfl) (fun hqt29_1 => ?_) (fun hqt29_1 => ?_)
      · have hqt29_1b := hqt29_1
        try simp only [decide_eq_true_eq, Bool.and_eq_true, Bool.or_eq_true, Bool.not_eq_true', decide_eq_false_iff_not, ne_eq, Bool.not_eq_true] at hqt29_1
        refine wp_seq_k (fun K11 hK11 => ?_)
        refine wp_region_lit ?_
        refine sqv hf (r_move rfl) rfl rfl rfl ?_; clear hf fa; intro fa hf
        refine sqv hf (r_move rfl) rfl rfl rfl ?_; clear hf fa; intro fa hf
        refine sqv hf (r_quo (C := ((wrap32 (Int.tdiv (wrap32 ((A : Nat) : Int)) (wrap32 ((B : Nat) : Int)))))) rfl rfl (by omega) (i32_w _)) rfl rfl rfl ?_; clear hf fa; intro fa hf
        refine sqv hf (r_conv (C := ((wrap32 (Int.tdiv (wrap32 ((A : Nat) : Int)) (wrap32 ((B : Nat) : Int))) % 4294967296))) rfl Try.underlying21 Try.underlying44 (wrap_u32_def _)) rfl rfl rfl ?_; clear hf fa; intro fa hf
        refine sqv hf (r_assign rfl) rfl rfl rfl ?_; clear hf fa; intro fa hf
        refine sqv hf (r_assign rfl) rfl rfl rfl ?_; clear hf fa; intro fa hf
        apply wpList_nil
        (try simp only [Exit.then, Exit.inBlock, ↓reduceIte, Nat.reduceEqDiff])
        refine hK11 _ _ ?_
        refine wp_ret ?_
        (try simp only [Exit.then, Exit.inBlock])
        refine ret2 hf rfl rfl rfl ?_
        refine ⟨?_, rfl⟩; unfold divG; rw [if_neg hqt12_1, if_neg hqt23_1, if_pos hqt29_1]; (try rfl)
      · have hqt29_1b := hqt29_1
        replace hqt29_1 := Bool.eq_false_iff.1 hqt29_1
        try simp only [ne_eq, decide_eq_true_eq, Bool.and_eq_true, Bool.or_eq_true, Bool.not_eq_true', decide_eq_false_iff_not] at hqt29_1
        refine wp_seq_k (fun K12 hK12 => ?_)
        refine wp_region_lit ?_
        refine sqv hf (r_move rfl) rfl rfl rfl ?_; clear hf fa; intro fa hf
        refine sqv hf (r_eq rfl rfl) rfl rfl rfl ?_; clear hf fa; intro fa hf
        refine sqv hf (r_assign rfl) rfl rfl rfl ?_; clear hf fa; intro fa hf
        apply wpList_nil
        (try simp only [Exit.then, Exit.inBlock, ↓reduceIte, Nat.reduceEqDiff])
        refine hK12 _ _ ?_
        refine wp_cond_split (t := (decide (o = (110 : Int)))) (hf.ev rfl) (fun hqt36_1 => ?_) (fun hqt36_1 => ?_)
        · have hqt36_1b := hqt36_1
          try simp only [decide_eq_true_eq, Bool.and_eq_true, Bool.or_eq_true, Bool.not_eq_true', decide_eq_false_iff_not, ne_eq, Bool.not_eq_true] at hqt36_1
          refine wp_seq_k (fun K13 hK13 => ?_)
          refine wp_region_lit ?_
          refine sqv hf (r_move rfl) rfl rfl rfl ?_; clear hf fa; intro fa hf
          refine sqv hf (r_move rfl) rfl rfl rfl ?_; clear hf fa; intro fa hf
          refine sqv hf (r_quo (C := (((A / B) : Nat) : Int)) rfl rfl (by omega) (udiv_w A B hA)) rfl rfl rfl ?_; clear hf fa; intro fa hf
          refine sqv hf (r_assign rfl) rfl rfl rfl ?_; clear hf fa; intro fa hf
          refine sqv hf (r_assign rfl) rfl rfl rfl ?_; clear hf fa; intro fa hf
          apply wpList_nil
          (try simp only [Exit.then, Exit.inBlock, ↓reduceIte, Nat.reduceEqDiff])
          refine hK13 _ _ ?_
          refine wp_ret ?_
          (try simp only [Exit.then, Exit.inBlock])
          refine ret2 hf rfl rfl rfl ?_
          refine ⟨?_, rfl⟩; unfold divG; rw [if_neg hqt12_1, if_neg hqt23_1, if_neg hqt29_1, if_pos hqt36_1]; (try rfl)
        · have hqt36_1b := hqt36_1
          replace hqt36_1 := Bool.eq_false_iff.1 hqt36_1
          try simp only [ne_eq, decide_eq_true_eq, Bool.and_eq_true, Bool.or_eq_true, Bool.not_eq_true', decide_eq_false_iff_not] at hqt36_1
          refine wp_seq_k (fun K14 hK14 => ?_)
          refine wp_region_lit ?_
          refine sqv hf (r_move rfl) rfl rfl rfl ?_; clear hf fa; intro fa hf
          refine sqv hf (r_eq rfl rfl) rfl rfl rfl ?_; clear hf fa; intro fa hf
          refine sqv hf (r_move rfl) rfl rfl rfl ?_; clear hf fa; intro fa hf
          refine sqgT (act := (decide (o = (111 : Int)))) (ag := true) (c := (decide (o = (111 : Int)))) (v := (.bool ((decide (((A : Nat) : Int) = (2147483648 : Int))) && (decide (((wrap32 ((B : Nat) : Int))) = (-1 : Int)))))) hf rfl rfl rfl (fun hact => (r_move rfl)) rfl rfl ?_; clear hf fa; intro fa hf
          refine sqv hf (r_pickA (b := (decide (o = (111 : Int)))) (e := ((decide (((A : Nat) : Int) = (2147483648 : Int))) && (decide (((wrap32 ((B : Nat) : Int))) = (-1 : Int))))) rfl rfl rfl) rfl rfl rfl ?_; clear hf fa; intro fa hf
          refine sqv hf (r_assign rfl) rfl rfl rfl ?_; clear hf fa; intro fa hf
          apply wpList_nil
          (try simp only [Exit.then, Exit.inBlock, ↓reduceIte, Nat.reduceEqDiff])
          refine hK14 _ _ ?_
          refine wp_cond_split (t := ((decide (o = (111 : Int))) && ((decide (((A : Nat) : Int) = (2147483648 : Int))) && (decide (((wrap32 ((B : Nat) : Int))) = (-1 : Int)))))) (hf.ev rfl) (fun hqt42_1 => ?_) (fun hqt42_1 => ?_)
          · have hqt42_1b := hqt42_1
            try simp only [decide_eq_true_eq, Bool.and_eq_true, Bool.or_eq_true, Bool.not_eq_true', decide_eq_false_iff_not, ne_eq, Bool.not_eq_true] at hqt42_1
            refine wp_seq_k (fun K15 hK15 => ?_)
            refine wp_region_lit ?_
            refine sqv hf (r_assign rfl) rfl rfl rfl ?_; clear hf fa; intro fa hf
            refine sqv hf (r_assign rfl) rfl rfl rfl ?_; clear hf fa; intro fa hf
            apply wpList_nil
            (try simp only [Exit.then, Exit.inBlock, ↓reduceIte, Nat.reduceEqDiff])
            refine hK15 _ _ ?_
            refine wp_ret ?_
            (try simp only [Exit.then, Exit.inBlock])
            refine ret2 hf rfl rfl rfl ?_
            refine ⟨?_, rfl⟩; unfold divG; rw [if_neg hqt12_1, if_neg hqt23_1, if_neg hqt29_1, if_neg hqt36_1, if_pos hqt42_1]; (try rfl)
          · have hqt42_1b := hqt42_1
            replace hqt42_1 := Bool.eq_false_iff.1 hqt42_1
            try simp only [ne_eq, decide_eq_true_eq, Bool.and_eq_true, Bool.or_eq_true, Bool.not_eq_true', decide_eq_false_iff_not] at hqt42_1
            refine wp_seq_k (fun K16 hK16 => ?_)
            refine wp_region_lit ?_
            refine sqv hf (r_move rfl) rfl rfl rfl ?_; clear hf fa; intro fa hf
            refine sqv hf (r_eq rfl rfl) rfl rfl rfl ?_; clear hf fa; intro fa hf
            refine sqv hf (r_assign rfl) rfl rfl rfl ?_; clear hf fa; intro fa hf
            apply wpList_nil
            (try simp only [Exit.then, Exit.inBlock, ↓reduceIte, Nat.reduceEqDiff])
            refine hK16 _ _ ?_
            refine wp_cond_split (t := (decide (o = (111 : Int)))) (hf.ev rfl) (fun hqt48_1 => ?_) (fun hqt48_1 => ?_)
            · have hqt48_1b := hqt48_1
              try simp only [decide_eq_true_eq, Bool.and_eq_true, Bool.or_eq_true, Bool.not_eq_true', decide_eq_false_iff_not, ne_eq, Bool.not_eq_true] at hqt48_1
              refine wp_seq_k (fun K17 hK17 => ?_)
              refine wp_region_lit ?_
              refine sqv hf (r_move rfl) rfl rfl rfl ?_; clear hf fa; intro fa hf
              refine sqv hf (r_move rfl) rfl rfl rfl ?_; clear hf fa; intro fa hf
              refine sqv hf (r_rem (C := ((Int.tmod (wrap32 ((A : Nat) : Int)) (wrap32 ((B : Nat) : Int))))) rfl rfl (by omega) rfl) rfl rfl rfl ?_; clear hf fa; intro fa hf
              refine sqv hf (r_conv (C := ((Int.tmod (wrap32 ((A : Nat) : Int)) (wrap32 ((B : Nat) : Int)) % 4294967296))) rfl Try.underlying21 Try.underlying44 (wrap_u32_def _)) rfl rfl rfl ?_; clear hf fa; intro fa hf
              refine sqv hf (r_assign rfl) rfl rfl rfl ?_; clear hf fa; intro fa hf
              refine sqv hf (r_assign rfl) rfl rfl rfl ?_; clear hf fa; intro fa hf
              apply wpList_nil
              (try simp only [Exit.then, Exit.inBlock, ↓reduceIte, Nat.reduceEqDiff])
              refine hK17 _ _ ?_
              refine wp_ret ?_
              (try simp only [Exit.then, Exit.inBlock])
              refine ret2 hf rfl rfl rfl ?_
              refine ⟨?_, rfl⟩; unfold divG; rw [if_neg hqt12_1, if_neg hqt23_1, if_neg hqt29_1, if_neg hqt36_1, if_neg hqt42_1, if_pos hqt48_1]; (try rfl)
            · have hqt48_1b := hqt48_1
              replace hqt48_1 := Bool.eq_false_iff.1 hqt48_1
              try simp only [ne_eq, decide_eq_true_eq, Bool.and_eq_true, Bool.or_eq_true, Bool.not_eq_true', decide_eq_false_iff_not] at hqt48_1
              refine wp_skip ?_
              (try simp only [Exit.then, Exit.inBlock, ↓reduceIte, Nat.reduceEqDiff])
              refine hK7 _ _ ?_
              refine wp_seq_k (fun K18 hK18 => ?_)
              refine wp_region_lit ?_
              refine sqv hf (r_move rfl) rfl rfl rfl ?_; clear hf fa; intro fa hf
              refine sqv hf (r_move rfl) rfl rfl rfl ?_; clear hf fa; intro fa hf
              refine sqv hf (r_rem (C := (((A % B) : Nat) : Int)) rfl rfl (by omega) (umod_w A B)) rfl rfl rfl ?_; clear hf fa; intro fa hf
              refine sqv hf (r_assign rfl) rfl rfl rfl ?_; clear hf fa; intro fa hf
              refine sqv hf (r_assign rfl) rfl rfl rfl ?_; clear hf fa; intro fa hf
              apply wpList_nil
              (try simp only [Exit.then, Exit.inBlock, ↓reduceIte, Nat.reduceEqDiff])
              refine hK18 _ _ ?_
              refine wp_ret ?_
              (try simp only [Exit.then, Exit.inBlock])
              refine ret2 hf rfl rfl rfl ?_
              refine ⟨?_, rfl⟩; unfold divG; rw [if_neg hqt12_1, if_neg hqt23_1, if_neg hqt29_1, if_neg hqt36_1, if_neg hqt42_1, if_neg hqt48_1]; (try rfl)

set_option maxHeartbeats 1000000 in
set_option maxRecDepth 100000 in
theorem two_any (o : Int) (A B : Nat) (w : World) (hA : A < 4294967296) (hB : B < 4294967296) : Calls Try.prog 57 #[(.int .u8 o), (.int .u32 ((A : Nat) : Int)), (.int .u32 ((B : Nat) : Int))] w fun e w' => e = .returned (.tuple #[.int .u32 (twoG o A B).1, .int .i64 (twoG o A B).2]) ∧ w = w' := by
  refine sx_enter (L := [(0, (.int .u8 o)), (1, (.int .u32 ((A : Nat) : Int))), (2, (.int .u32 ((B : Nat) : Int)))]) Try.func57 rfl rfl rfl rfl (fun fa hf => ?_)
  have hb : Below w.heap.size w w := Below.refl _ _
  refine wp_seq_k (fun K1 hK1 => ?_)
  refine wp_region_lit ?_
  refine sqv hf (r_assign rfl) rfl rfl rfl ?_; clear hf fa; intro fa hf
  refine sqv hf (r_assign rfl) rfl rfl rfl ?_; clear hf fa; intro fa hf
  apply wpList_nil
  (try simp only [Exit.then, Exit.inBlock, ↓reduceIte, Nat.reduceEqDiff])
  refine hK1 _ _ ?_
  refine wp_seq_k (fun K2 hK2 => ?_)
  refine wp_seq_k (fun K3 hK3 => ?_)
  refine wp_region_lit ?_
  refine sqv hf (r_move rfl) rfl rfl rfl ?_; clear hf fa; intro fa hf
  refine sqv hf (r_move rfl) rfl rfl rfl ?_; clear hf fa; intro fa hf
  refine sqv hf (r_move rfl) rfl rfl rfl ?_; clear hf fa; intro fa hf
  refine sqdt hf (d_callS (vs := [(.int .u8 o), (.int .u32 ((A : Nat) : Int)), (.int .u32 ((B : Nat) : Int))]) rfl Try.func77 (by kernel_rfl) (by kernel_rfl) (cmp_any o A B _ hA hB)) rfl rfl rfl ?_; clear hf fa; rintro fa _ _ ⟨rfl, rfl⟩ hf
  refine sqv hf (r_move rfl) rfl rfl rfl ?_; clear hf fa; intro fa hf
  refine sqv hf (r_extract rfl (i := 0) rfl) rfl rfl rfl ?_; clear hf fa; intro fa hf
  refine sqv hf (r_extract rfl (i := 1) rfl) rfl rfl rfl ?_; clear hf fa; intro fa hf
  refine sqv hf (r_assign rfl) rfl rfl rfl ?_; clear hf fa; intro fa hf
  refine sqv hf (r_assign rfl) rfl rfl rfl ?_; clear hf fa; intro fa hf
  apply wpList_nil
  (try simp only [Exit.then, Exit.inBlock, ↓reduceIte, Nat.reduceEqDiff])
  refine hK3 _ _ ?_
  refine wp_seq_k (fun K4 hK4 => ?_)
  refine wp_region_lit ?_
  refine sqv hf (r_move rfl) rfl rfl rfl ?_; clear hf fa; intro fa hf
  apply wpList_nil
  (try simp only [Exit.then, Exit.inBlock, ↓reduceIte, Nat.reduceEqDiff])
  refine hK4 _ _ ?_
  refine wp_cond_split (t := (cmpG o A B).2) (hf.ev rfl) (fun hqt17_1 => ?_) (fun hqt17_1 => ?_)
  · have hqt17_1b := hqt17_1
    try simp only [decide_eq_true_eq, Bool.and_eq_true, Bool.or_eq_true, Bool.not_eq_true', decide_eq_false_iff_not, ne_eq, Bool.not_eq_true] at hqt17_1
    refine wp_seq_k (fun K5 hK5 => ?_)
    refine wp_region_lit ?_
    refine sqv hf (r_move rfl) rfl rfl rfl ?_; clear hf fa; intro fa hf
    refine sqv hf (r_assign rfl) rfl rfl rfl ?_; clear hf fa; intro fa hf
    refine sqv hf (r_assign rfl) rfl rfl rfl ?_; clear hf fa; intro fa hf
    apply wpList_nil
    (try simp only [Exit.then, Exit.inBlock, ↓reduceIte, Nat.reduceEqDiff])
    refine hK5 _ _ ?_
    refine wp_ret ?_
    (try simp only [Exit.then, Exit.inBlock])
    refine ret2 hf rfl rfl rfl ?_
    refine ⟨?_, rfl⟩; unfold twoG; rw [if_pos hqt17_1]; (try rfl)
  · have hqt17_1b := hqt17_1
    replace hqt17_1 := Bool.eq_false_iff.1 hqt17_1
    try simp only [ne_eq, decide_eq_true_eq, Bool.and_eq_true, Bool.or_eq_true, Bool.not_eq_true', decide_eq_false_iff_not] at hqt17_1
    refine wp_skip ?_
    (try simp only [Exit.then, Exit.inBlock, ↓reduceIte, Nat.reduceEqDiff])
    refine hK2 _ _ ?_
    refine wp_seq_k (fun K6 hK6 => ?_)
    refine wp_seq_k (fun K7 hK7 => ?_)
    refine wp_region_lit ?_
    refine sqv hf (r_move rfl) rfl rfl rfl ?_; clear hf fa; intro fa hf
    apply wpList_nil
    (try simp only [Exit.then, Exit.inBlock, ↓reduceIte, Nat.reduceEqDiff])
    refine hK7 _ _ ?_
    refine wp_block ?_
    refine wp_seq_k (fun K8 hK8 => ?_)
    refine wp_region_lit ?_
    refine sqv hf (r_eq rfl rfl) rfl rfl rfl ?_; clear hf fa; intro fa hf
    refine sqv hf (r_assign rfl) rfl rfl rfl ?_; clear hf fa; intro fa hf
    apply wpList_nil
    (try simp only [Exit.then, Exit.inBlock, ↓reduceIte, Nat.reduceEqDiff])
    refine hK8 _ _ ?_
    refine wp_cond_split (t := (decide (o = (106 : Int)))) (hf.ev rfl) (fun hqt20_1 => ?_) (fun hqt20_1 => ?_)
    · have hqt20_1b := hqt20_1
      try simp only [decide_eq_true_eq, Bool.and_eq_true, Bool.or_eq_true, Bool.not_eq_true', decide_eq_false_iff_not, ne_eq, Bool.not_eq_true] at hqt20_1
      refine wp_seq_k (fun K9 hK9 => ?_)
      refine wp_region_lit ?_
      refine sqv hf (r_move rfl) rfl rfl rfl ?_; clear hf fa; intro fa hf
      refine sqv hf (r_move rfl) rfl rfl rfl ?_; clear hf fa; intro fa hf
      refine sqv hf (r_add (C := ((((A + B + 0) % 4294967296) : Nat) : Int)) rfl rfl (add_w A B)) rfl rfl rfl ?_; clear hf fa; intro fa hf
      refine sqv hf (r_assign rfl) rfl rfl rfl ?_; clear hf fa; intro fa hf
      refine sqv hf (r_assign rfl) rfl rfl rfl ?_; clear hf fa; intro fa hf
      apply wpList_nil
      (try simp only [Exit.then, Exit.inBlock, ↓reduceIte, Nat.reduceEqDiff])
      refine hK9 _ _ ?_
      refine wp_ret ?_
      (try simp only [Exit.then, Exit.inBlock])
      refine ret2 hf rfl rfl rfl ?_
      refine ⟨?_, rfl⟩; unfold twoG; rw [if_neg hqt17_1, if_pos hqt20_1]; (try rfl)
    · have hqt20_1b := hqt20_1
      replace hqt20_1 := Bool.eq_false_iff.1 hqt20_1
      try simp only [ne_eq, decide_eq_true_eq, Bool.and_eq_true, Bool.or_eq_true, Bool.not_eq_true', decide_eq_false_iff_not] at hqt20_1
      refine wp_seq_k (fun K10 hK10 => ?_)
      refine wp_region_lit ?_
      refine sqv hf (r_eq rfl rfl) rfl rfl rfl ?_; clear hf fa; intro fa hf
      refine sqv hf (r_assign rfl) rfl rfl rfl ?_; clear hf fa; intro fa hf
      apply wpList_nil
      (try simp only [Exit.then, Exit.inBlock, ↓reduceIte, Nat.reduceEqDiff])
      refine hK10 _ _ ?_
      refine wp_cond_split (t := (decide (o = (107 : Int)))) (hf.ev rfl) (fun hqt25_1 => ?_) (fun hqt25_1 => ?_)
      · have hqt25_1b := hqt25_1
        try simp only [decide_eq_true_eq, Bool.and_eq_true, Bool.or_eq_true, Bool.not_eq_true', decide_eq_false_iff_not, ne_eq, Bool.not_eq_true] at hqt25_1
        refine wp_seq_k (fun K11 hK11 => ?_)
        refine wp_region_lit ?_
        refine sqv hf (r_move rfl) rfl rfl rfl ?_; clear hf fa; intro fa hf
        refine sqv hf (r_move rfl) rfl rfl rfl ?_; clear hf fa; intro fa hf
        refine sqv hf (r_sub (C := ((((A + (4294967295 - B) + 1) % 4294967296) : Nat) : Int)) rfl rfl (sub_w A B hB)) rfl rfl rfl ?_; clear hf fa; intro fa hf
        refine sqv hf (r_assign rfl) rfl rfl rfl ?_; clear hf fa; intro fa hf
        refine sqv hf (r_assign rfl) rfl rfl rfl ?_; clear hf fa; intro fa hf
        apply wpList_nil
        (try simp only [Exit.then, Exit.inBlock, ↓reduceIte, Nat.reduceEqDiff])
        refine hK11 _ _ ?_
        refine wp_ret ?_
        (try simp only [Exit.then, Exit.inBlock])
        refine ret2 hf rfl rfl rfl ?_
        refine ⟨?_, rfl⟩; unfold twoG; rw [if_neg hqt17_1, if_neg hqt20_1, if_pos hqt25_1]; (try rfl)
      · have hqt25_1b := hqt25_1
        replace hqt25_1 := Bool.eq_false_iff.1 hqt25_1
        try simp only [ne_eq, decide_eq_true_eq, Bool.and_eq_true, Bool.or_eq_true, Bool.not_eq_true', decide_eq_false_iff_not] at hqt25_1
        refine wp_seq_k (fun K12 hK12 => ?_)
        refine wp_region_lit ?_
        refine sqv hf (r_eq rfl rfl) rfl rfl rfl ?_; clear hf fa; intro fa hf
        refine sqv hf (r_assign rfl) rfl rfl rfl ?_; clear hf fa; intro fa hf
        apply wpList_nil
        (try simp only [Exit.then, Exit.inBlock, ↓reduceIte, Nat.reduceEqDiff])
        refine hK12 _ _ ?_
        refine wp_cond_split (t := (decide (o = (108 : Int)))) (hf.ev rfl) (fun hqt30_1 => ?_) (fun hqt30_1 => ?_)
        · have hqt30_1b := hqt30_1
          try simp only [decide_eq_true_eq, Bool.and_eq_true, Bool.or_eq_true, Bool.not_eq_true', decide_eq_false_iff_not, ne_eq, Bool.not_eq_true] at hqt30_1
          refine wp_seq_k (fun K13 hK13 => ?_)
          refine wp_region_lit ?_
          refine sqv hf (r_move rfl) rfl rfl rfl ?_; clear hf fa; intro fa hf
          refine sqv hf (r_move rfl) rfl rfl rfl ?_; clear hf fa; intro fa hf
          refine sqv hf (r_mul (C := (((A * B % 4294967296) : Nat) : Int)) rfl rfl (mul_w A B)) rfl rfl rfl ?_; clear hf fa; intro fa hf
          refine sqv hf (r_assign rfl) rfl rfl rfl ?_; clear hf fa; intro fa hf
          refine sqv hf (r_assign rfl) rfl rfl rfl ?_; clear hf fa; intro fa hf
          apply wpList_nil
          (try simp only [Exit.then, Exit.inBlock, ↓reduceIte, Nat.reduceEqDiff])
          refine hK13 _ _ ?_
          refine wp_ret ?_
          (try simp only [Exit.then, Exit.inBlock])
          refine ret2 hf rfl rfl rfl ?_
          refine ⟨?_, rfl⟩; unfold twoG; rw [if_neg hqt17_1, if_neg hqt20_1, if_neg hqt25_1, if_pos hqt30_1]; (try rfl)
        · have hqt30_1b := hqt30_1
          replace hqt30_1 := Bool.eq_false_iff.1 hqt30_1
          try simp only [ne_eq, decide_eq_true_eq, Bool.and_eq_true, Bool.or_eq_true, Bool.not_eq_true', decide_eq_false_iff_not] at hqt30_1
          refine wp_seq_k (fun K14 hK14 => ?_)
          refine wp_seq_k (fun K15 hK15 => ?_)
          refine wp_region_lit ?_
          refine sqv hf (r_eq rfl rfl) rfl rfl rfl ?_; clear hf fa; intro fa hf
          refine sqv hf (r_assign rfl) rfl rfl rfl ?_; clear hf fa; intro fa hf
          apply wpList_nil
          (try simp only [Exit.then, Exit.inBlock, ↓reduceIte, Nat.reduceEqDiff])
          refine hK15 _ _ ?_
          refine wp_cond_split (t := (decide (o = (109 : Int)))) (hf.ev rfl) (fun hqt35_1 => ?_) (fun hqt35_1 => ?_)
          · have hqt35_1b := hqt35_1
            try simp only [decide_eq_true_eq, Bool.and_eq_true, Bool.or_eq_true, Bool.not_eq_true', decide_eq_false_iff_not, ne_eq, Bool.not_eq_true] at hqt35_1
            refine wp_skip ?_
            (try simp only [Exit.then, Exit.inBlock, ↓reduceIte, Nat.reduceEqDiff])
            refine hK14 _ _ ?_
            refine wp_cond_true ((hf.ev rfl).trans (congrArg Value.bool (show (decide (o = (109 : Int))) = true from hqt35_1b))) ?_
            refine wp_seq_k (fun K16 hK16 => ?_)
            refine wp_region_lit ?_
            refine sqv hf (r_move rfl) rfl rfl rfl ?_; clear hf fa; intro fa hf
            refine sqv hf (r_move rfl) rfl rfl rfl ?_; clear hf fa; intro fa hf
            refine sqv hf (r_move rfl) rfl rfl rfl ?_; clear hf fa; intro fa hf
            refine sqdt hf (d_callS (vs := [(.int .u8 o), (.int .u32 ((A : Nat) : Int)), (.int .u32 ((B : Nat) : Int))]) rfl Try.func78 (by kernel_rfl) (by kernel_rfl) (div_any o A B _ hA hB)) rfl rfl rfl ?_; clear hf fa; rintro fa _ _ ⟨rfl, rfl⟩ hf
            refine sqv hf (r_extract rfl (i := 0) rfl) rfl rfl rfl ?_; clear hf fa; intro fa hf
            refine sqv hf (r_extract rfl (i := 1) rfl) rfl rfl rfl ?_; clear hf fa; intro fa hf
            refine sqv hf (r_assign rfl) rfl rfl rfl ?_; clear hf fa; intro fa hf
            refine sqv hf (r_assign rfl) rfl rfl rfl ?_; clear hf fa; intro fa hf
            apply wpList_nil
            (try simp only [Exit.then, Exit.inBlock, ↓reduceIte, Nat.reduceEqDiff])
            refine hK16 _ _ ?_
            refine wp_ret ?_
            (try simp only [Exit.then, Exit.inBlock])
            refine ret2 hf rfl rfl rfl ?_
            refine ⟨?_, rfl⟩; unfold twoG; rw [if_neg hqt17_1, if_neg hqt20_1, if_neg hqt25_1, if_neg hqt30_1, if_pos hqt35_1]; (try rfl)
          · have hqt35_1b := hqt35_1
            replace hqt35_1 := Bool.eq_false_iff.1 hqt35_1
            try simp only [ne_eq, decide_eq_true_eq, Bool.and_eq_true, Bool.or_eq_true, Bool.not_eq_true', decide_eq_false_iff_not] at hqt35_1
            refine wp_seq_k (fun K17 hK17 => ?_)
            refine wp_region_lit ?_
            refine sqv hf (r_eq rfl rfl) rfl rfl rfl ?_; clear hf fa; intro fa hf
            refine sqv hf (r_assign rfl) rfl rfl rfl ?_; clear hf fa; intro fa hf
            apply wpList_nil
            (try simp only [Exit.then, Exit.inBlock, ↓reduceIte, Nat.reduceEqDiff])
            refine hK17 _ _ ?_
            refine wp_cond_split (t := (decide (o = (110 : Int)))) (hf.ev rfl) (fun hqt35_3 => ?_) (fun hqt35_3 => ?_)
            · have hqt35_3b := hqt35_3
              try simp only [decide_eq_true_eq, Bool.and_eq_true, Bool.or_eq_true, Bool.not_eq_true', decide_eq_false_iff_not, ne_eq, Bool.not_eq_true] at hqt35_3
              refine wp_skip ?_
              (try simp only [Exit.then, Exit.inBlock, ↓reduceIte, Nat.reduceEqDiff])
              refine hK14 _ _ ?_
              refine wp_cond_true ((hf.ev rfl).trans (congrArg Value.bool (show (decide (o = (110 : Int))) = true from hqt35_3b))) ?_
              refine wp_seq_k (fun K18 hK18 => ?_)
              refine wp_region_lit ?_
              refine sqv hf (r_move rfl) rfl rfl rfl ?_; clear hf fa; intro fa hf
              refine sqv hf (r_move rfl) rfl rfl rfl ?_; clear hf fa; intro fa hf
              refine sqv hf (r_move rfl) rfl rfl rfl ?_; clear hf fa; intro fa hf
              refine sqdt hf (d_callS (vs := [(.int .u8 o), (.int .u32 ((A : Nat) : Int)), (.int .u32 ((B : Nat) : Int))]) rfl Try.func78 (by kernel_rfl) (by kernel_rfl) (div_any o A B _ hA hB)) rfl rfl rfl ?_; clear hf fa; rintro fa _ _ ⟨rfl, rfl⟩ hf
              refine sqv hf (r_extract rfl (i := 0) rfl) rfl rfl rfl ?_; clear hf fa; intro fa hf
              refine sqv hf (r_extract rfl (i := 1) rfl) rfl rfl rfl ?_; clear hf fa; intro fa hf
              refine sqv hf (r_assign rfl) rfl rfl rfl ?_; clear hf fa; intro fa hf
              refine sqv hf (r_assign rfl) rfl rfl rfl ?_; clear hf fa; intro fa hf
              apply wpList_nil
              (try simp only [Exit.then, Exit.inBlock, ↓reduceIte, Nat.reduceEqDiff])
              refine hK18 _ _ ?_
              refine wp_ret ?_
              (try simp only [Exit.then, Exit.inBlock])
              refine ret2 hf rfl rfl rfl ?_
              refine ⟨?_, rfl⟩; unfold twoG; rw [if_neg hqt17_1, if_neg hqt20_1, if_neg hqt25_1, if_neg hqt30_1, if_neg hqt35_1, if_pos hqt35_3]; (try rfl)
            · have hqt35_3b := hqt35_3
              replace hqt35_3 := Bool.eq_false_iff.1 hqt35_3
              try simp only [ne_eq, decide_eq_true_eq, Bool.and_eq_true, Bool.or_eq_true, Bool.not_eq_true', decide_eq_false_iff_not] at hqt35_3
              refine wp_seq_k (fun K19 hK19 => ?_)
              refine wp_region_lit ?_
              refine sqv hf (r_eq rfl rfl) rfl rfl rfl ?_; clear hf fa; intro fa hf
              refine sqv hf (r_assign rfl) rfl rfl rfl ?_; clear hf fa; intro fa hf
              apply wpList_nil
              (try simp only [Exit.then, Exit.inBlock, ↓reduceIte, Nat.reduceEqDiff])
              refine hK19 _ _ ?_
              refine wp_cond_split (t := (decide (o = (111 : Int)))) (hf.ev rfl) (fun hqt35_5 => ?_) (fun hqt35_5 => ?_)
              · have hqt35_5b := hqt35_5
                try simp only [decide_eq_true_eq, Bool.and_eq_true, Bool.or_eq_true, Bool.not_eq_true', decide_eq_false_iff_not, ne_eq, Bool.not_eq_true] at hqt35_5
                refine wp_skip ?_
                (try simp only [Exit.then, Exit.inBlock, ↓reduceIte, Nat.reduceEqDiff])
                refine hK14 _ _ ?_
                refine wp_cond_true ((hf.ev rfl).trans (congrArg Value.bool (show (decide (o = (111 : Int))) = true from hqt35_5b))) ?_
                refine wp_seq_k (fun K20 hK20 => ?_)
                refine wp_region_lit ?_
                refine sqv hf (r_move rfl) rfl rfl rfl ?_; clear hf fa; intro fa hf
                refine sqv hf (r_move rfl) rfl rfl rfl ?_; clear hf fa; intro fa hf
                refine sqv hf (r_move rfl) rfl rfl rfl ?_; clear hf fa; intro fa hf
                refine sqdt hf (d_callS (vs := [(.int .u8 o), (.int .u32 ((A : Nat) : Int)), (.int .u32 ((B : Nat) : Int))]) rfl Try.func78 (by kernel_rfl) (by kernel_rfl) (div_any o A B _ hA hB)) rfl rfl rfl ?_; clear hf fa; rintro fa _ _ ⟨rfl, rfl⟩ hf
                refine sqv hf (r_extract rfl (i := 0) rfl) rfl rfl rfl ?_; clear hf fa; intro fa hf
                refine sqv hf (r_extract rfl (i := 1) rfl) rfl rfl rfl ?_; clear hf fa; intro fa hf
                refine sqv hf (r_assign rfl) rfl rfl rfl ?_; clear hf fa; intro fa hf
                refine sqv hf (r_assign rfl) rfl rfl rfl ?_; clear hf fa; intro fa hf
                apply wpList_nil
                (try simp only [Exit.then, Exit.inBlock, ↓reduceIte, Nat.reduceEqDiff])
                refine hK20 _ _ ?_
                refine wp_ret ?_
                (try simp only [Exit.then, Exit.inBlock])
                refine ret2 hf rfl rfl rfl ?_
                refine ⟨?_, rfl⟩; unfold twoG; rw [if_neg hqt17_1, if_neg hqt20_1, if_neg hqt25_1, if_neg hqt30_1, if_neg hqt35_1, if_neg hqt35_3, if_pos hqt35_5]; (try rfl)
              · have hqt35_5b := hqt35_5
                replace hqt35_5 := Bool.eq_false_iff.1 hqt35_5
                try simp only [ne_eq, decide_eq_true_eq, Bool.and_eq_true, Bool.or_eq_true, Bool.not_eq_true', decide_eq_false_iff_not] at hqt35_5
                refine wp_region_lit ?_
                refine sqv hf (r_eq rfl rfl) rfl rfl rfl ?_; clear hf fa; intro fa hf
                refine sqv hf (r_assign rfl) rfl rfl rfl ?_; clear hf fa; intro fa hf
                apply wpList_nil
                (try simp only [Exit.then, Exit.inBlock, ↓reduceIte, Nat.reduceEqDiff])
                refine hK14 _ _ ?_
                refine wp_cond_split (t := (decide (o = (112 : Int)))) (hf.ev rfl) (fun hqt35_7 => ?_) (fun hqt35_7 => ?_)
                · have hqt35_7b := hqt35_7
                  try simp only [decide_eq_true_eq, Bool.and_eq_true, Bool.or_eq_true, Bool.not_eq_true', decide_eq_false_iff_not, ne_eq, Bool.not_eq_true] at hqt35_7
                  refine wp_seq_k (fun K21 hK21 => ?_)
                  refine wp_region_lit ?_
                  refine sqv hf (r_move rfl) rfl rfl rfl ?_; clear hf fa; intro fa hf
                  refine sqv hf (r_move rfl) rfl rfl rfl ?_; clear hf fa; intro fa hf
                  refine sqv hf (r_move rfl) rfl rfl rfl ?_; clear hf fa; intro fa hf
                  refine sqdt hf (d_callS (vs := [(.int .u8 o), (.int .u32 ((A : Nat) : Int)), (.int .u32 ((B : Nat) : Int))]) rfl Try.func78 (by kernel_rfl) (by kernel_rfl) (div_any o A B _ hA hB)) rfl rfl rfl ?_; clear hf fa; rintro fa _ _ ⟨rfl, rfl⟩ hf
                  refine sqv hf (r_extract rfl (i := 0) rfl) rfl rfl rfl ?_; clear hf fa; intro fa hf
                  refine sqv hf (r_extract rfl (i := 1) rfl) rfl rfl rfl ?_; clear hf fa; intro fa hf
                  refine sqv hf (r_assign rfl) rfl rfl rfl ?_; clear hf fa; intro fa hf
                  refine sqv hf (r_assign rfl) rfl rfl rfl ?_; clear hf fa; intro fa hf
                  apply wpList_nil
                  (try simp only [Exit.then, Exit.inBlock, ↓reduceIte, Nat.reduceEqDiff])
                  refine hK21 _ _ ?_
                  refine wp_ret ?_
                  (try simp only [Exit.then, Exit.inBlock])
                  refine ret2 hf rfl rfl rfl ?_
                  refine ⟨?_, rfl⟩; unfold twoG; rw [if_neg hqt17_1, if_neg hqt20_1, if_neg hqt25_1, if_neg hqt30_1, if_neg hqt35_1, if_neg hqt35_3, if_neg hqt35_5, if_pos hqt35_7]; (try rfl)
                · have hqt35_7b := hqt35_7
                  replace hqt35_7 := Bool.eq_false_iff.1 hqt35_7
                  try simp only [ne_eq, decide_eq_true_eq, Bool.and_eq_true, Bool.or_eq_true, Bool.not_eq_true', decide_eq_false_iff_not] at hqt35_7
                  refine wp_seq_k (fun K22 hK22 => ?_)
                  refine wp_region_lit ?_
                  refine sqv hf (r_eq rfl rfl) rfl rfl rfl ?_; clear hf fa; intro fa hf
                  refine sqv hf (r_assign rfl) rfl rfl rfl ?_; clear hf fa; intro fa hf
                  apply wpList_nil
                  (try simp only [Exit.then, Exit.inBlock, ↓reduceIte, Nat.reduceEqDiff])
                  refine hK22 _ _ ?_
                  refine wp_cond_split (t := (decide (o = (113 : Int)))) (hf.ev rfl) (fun hqt46_1 => ?_) (fun hqt46_1 => ?_)
                  · have hqt46_1b := hqt46_1
                    try simp only [decide_eq_true_eq, Bool.and_eq_true, Bool.or_eq_true, Bool.not_eq_true', decide_eq_false_iff_not, ne_eq, Bool.not_eq_true] at hqt46_1
                    refine wp_seq_k (fun K23 hK23 => ?_)
                    refine wp_region_lit ?_
                    refine sqv hf (r_move rfl) rfl rfl rfl ?_; clear hf fa; intro fa hf
                    refine sqv hf (r_move rfl) rfl rfl rfl ?_; clear hf fa; intro fa hf
                    refine sqv hf (r_and (C := (((A &&& B) : Nat) : Int)) rfl rfl (bits_and32 A B hA hB)) rfl rfl rfl ?_; clear hf fa; intro fa hf
                    refine sqv hf (r_assign rfl) rfl rfl rfl ?_; clear hf fa; intro fa hf
                    refine sqv hf (r_assign rfl) rfl rfl rfl ?_; clear hf fa; intro fa hf
                    apply wpList_nil
                    (try simp only [Exit.then, Exit.inBlock, ↓reduceIte, Nat.reduceEqDiff])
                    refine hK23 _ _ ?_
                    refine wp_ret ?_
                    (try simp only [Exit.then, Exit.inBlock])
                    refine ret2 hf rfl rfl rfl ?_
                    refine ⟨?_, rfl⟩; unfold twoG; rw [if_neg hqt17_1, if_neg hqt20_1, if_neg hqt25_1, if_neg hqt30_1, if_neg hqt35_1, if_neg hqt35_3, if_neg hqt35_5, if_neg hqt35_7, if_pos hqt46_1]; (try rfl)
                  · have hqt46_1b := hqt46_1
                    replace hqt46_1 := Bool.eq_false_iff.1 hqt46_1
                    try simp only [ne_eq, decide_eq_true_eq, Bool.and_eq_true, Bool.or_eq_true, Bool.not_eq_true', decide_eq_false_iff_not] at hqt46_1
                    refine wp_seq_k (fun K24 hK24 => ?_)
                    refine wp_region_lit ?_
                    refine sqv hf (r_eq rfl rfl) rfl rfl rfl ?_; clear hf fa; intro fa hf
                    refine sqv hf (r_assign rfl) rfl rfl rfl ?_; clear hf fa; intro fa hf
                    apply wpList_nil
                    (try simp only [Exit.then, Exit.inBlock, ↓reduceIte, Nat.reduceEqDiff])
                    refine hK24 _ _ ?_
                    refine wp_cond_split (t := (decide (o = (114 : Int)))) (hf.ev rfl) (fun hqt51_1 => ?_) (fun hqt51_1 => ?_)
                    · have hqt51_1b := hqt51_1
                      try simp only [decide_eq_true_eq, Bool.and_eq_true, Bool.or_eq_true, Bool.not_eq_true', decide_eq_false_iff_not, ne_eq, Bool.not_eq_true] at hqt51_1
                      refine wp_seq_k (fun K25 hK25 => ?_)
                      refine wp_region_lit ?_
                      refine sqv hf (r_move rfl) rfl rfl rfl ?_; clear hf fa; intro fa hf
                      refine sqv hf (r_move rfl) rfl rfl rfl ?_; clear hf fa; intro fa hf
                      refine sqv hf (r_or (C := (((A ||| B) : Nat) : Int)) rfl rfl (bits_or32 A B hA hB)) rfl rfl rfl ?_; clear hf fa; intro fa hf
                      refine sqv hf (r_assign rfl) rfl rfl rfl ?_; clear hf fa; intro fa hf
                      refine sqv hf (r_assign rfl) rfl rfl rfl ?_; clear hf fa; intro fa hf
                      apply wpList_nil
                      (try simp only [Exit.then, Exit.inBlock, ↓reduceIte, Nat.reduceEqDiff])
                      refine hK25 _ _ ?_
                      refine wp_ret ?_
                      (try simp only [Exit.then, Exit.inBlock])
                      refine ret2 hf rfl rfl rfl ?_
                      refine ⟨?_, rfl⟩; unfold twoG; rw [if_neg hqt17_1, if_neg hqt20_1, if_neg hqt25_1, if_neg hqt30_1, if_neg hqt35_1, if_neg hqt35_3, if_neg hqt35_5, if_neg hqt35_7, if_neg hqt46_1, if_pos hqt51_1]; (try rfl)
                    · have hqt51_1b := hqt51_1
                      replace hqt51_1 := Bool.eq_false_iff.1 hqt51_1
                      try simp only [ne_eq, decide_eq_true_eq, Bool.and_eq_true, Bool.or_eq_true, Bool.not_eq_true', decide_eq_false_iff_not] at hqt51_1
                      refine wp_seq_k (fun K26 hK26 => ?_)
                      refine wp_region_lit ?_
                      refine sqv hf (r_eq rfl rfl) rfl rfl rfl ?_; clear hf fa; intro fa hf
                      refine sqv hf (r_assign rfl) rfl rfl rfl ?_; clear hf fa; intro fa hf
                      apply wpList_nil
                      (try simp only [Exit.then, Exit.inBlock, ↓reduceIte, Nat.reduceEqDiff])
                      refine hK26 _ _ ?_
                      refine wp_cond_split (t := (decide (o = (115 : Int)))) (hf.ev rfl) (fun hqt56_1 => ?_) (fun hqt56_1 => ?_)
                      · have hqt56_1b := hqt56_1
                        try simp only [decide_eq_true_eq, Bool.and_eq_true, Bool.or_eq_true, Bool.not_eq_true', decide_eq_false_iff_not, ne_eq, Bool.not_eq_true] at hqt56_1
                        refine wp_seq_k (fun K27 hK27 => ?_)
                        refine wp_region_lit ?_
                        refine sqv hf (r_move rfl) rfl rfl rfl ?_; clear hf fa; intro fa hf
                        refine sqv hf (r_move rfl) rfl rfl rfl ?_; clear hf fa; intro fa hf
                        refine sqv hf (r_xor (C := (((A ^^^ B) : Nat) : Int)) rfl rfl (bits_xor32 A B hA hB)) rfl rfl rfl ?_; clear hf fa; intro fa hf
                        refine sqv hf (r_assign rfl) rfl rfl rfl ?_; clear hf fa; intro fa hf
                        refine sqv hf (r_assign rfl) rfl rfl rfl ?_; clear hf fa; intro fa hf
                        apply wpList_nil
                        (try simp only [Exit.then, Exit.inBlock, ↓reduceIte, Nat.reduceEqDiff])
                        refine hK27 _ _ ?_
                        refine wp_ret ?_
                        (try simp only [Exit.then, Exit.inBlock])
                        refine ret2 hf rfl rfl rfl ?_
                        refine ⟨?_, rfl⟩; unfold twoG; rw [if_neg hqt17_1, if_neg hqt20_1, if_neg hqt25_1, if_neg hqt30_1, if_neg hqt35_1, if_neg hqt35_3, if_neg hqt35_5, if_neg hqt35_7, if_neg hqt46_1, if_neg hqt51_1, if_pos hqt56_1]; (try rfl)
                      · have hqt56_1b := hqt56_1
                        replace hqt56_1 := Bool.eq_false_iff.1 hqt56_1
                        try simp only [ne_eq, decide_eq_true_eq, Bool.and_eq_true, Bool.or_eq_true, Bool.not_eq_true', decide_eq_false_iff_not] at hqt56_1
                        refine wp_seq_k (fun K28 hK28 => ?_)
                        refine wp_region_lit ?_
                        refine sqv hf (r_eq rfl rfl) rfl rfl rfl ?_; clear hf fa; intro fa hf
                        refine sqv hf (r_assign rfl) rfl rfl rfl ?_; clear hf fa; intro fa hf
                        apply wpList_nil
                        (try simp only [Exit.then, Exit.inBlock, ↓reduceIte, Nat.reduceEqDiff])
                        refine hK28 _ _ ?_
                        refine wp_cond_split (t := (decide (o = (116 : Int)))) (hf.ev rfl) (fun hqt61_1 => ?_) (fun hqt61_1 => ?_)
                        · have hqt61_1b := hqt61_1
                          try simp only [decide_eq_true_eq, Bool.and_eq_true, Bool.or_eq_true, Bool.not_eq_true', decide_eq_false_iff_not, ne_eq, Bool.not_eq_true] at hqt61_1
                          refine wp_seq_k (fun K29 hK29 => ?_)
                          refine wp_region_lit ?_
                          refine sqv hf (r_move rfl) rfl rfl rfl ?_; clear hf fa; intro fa hf
                          refine sqv hf (r_move rfl) rfl rfl rfl ?_; clear hf fa; intro fa hf
                          refine sqv hf (r_and (C := (((B % 32) : Nat) : Int)) rfl rfl (and31_32 B hB)) rfl rfl rfl ?_; clear hf fa; intro fa hf
                          refine sqv hf (r_shl (n := ((B % 32))) (C := (((A * 2 ^ (B % 32) % 4294967296) : Nat) : Int)) rfl rfl rfl (shl_w A (B % 32) (by omega))) rfl rfl rfl ?_; clear hf fa; intro fa hf
                          refine sqv hf (r_assign rfl) rfl rfl rfl ?_; clear hf fa; intro fa hf
                          refine sqv hf (r_assign rfl) rfl rfl rfl ?_; clear hf fa; intro fa hf
                          apply wpList_nil
                          (try simp only [Exit.then, Exit.inBlock, ↓reduceIte, Nat.reduceEqDiff])
                          refine hK29 _ _ ?_
                          refine wp_ret ?_
                          (try simp only [Exit.then, Exit.inBlock])
                          refine ret2 hf rfl rfl rfl ?_
                          refine ⟨?_, rfl⟩; unfold twoG; rw [if_neg hqt17_1, if_neg hqt20_1, if_neg hqt25_1, if_neg hqt30_1, if_neg hqt35_1, if_neg hqt35_3, if_neg hqt35_5, if_neg hqt35_7, if_neg hqt46_1, if_neg hqt51_1, if_neg hqt56_1, if_pos hqt61_1]; (try rfl)
                        · have hqt61_1b := hqt61_1
                          replace hqt61_1 := Bool.eq_false_iff.1 hqt61_1
                          try simp only [ne_eq, decide_eq_true_eq, Bool.and_eq_true, Bool.or_eq_true, Bool.not_eq_true', decide_eq_false_iff_not] at hqt61_1
                          refine wp_seq_k (fun K30 hK30 => ?_)
                          refine wp_region_lit ?_
                          refine sqv hf (r_eq rfl rfl) rfl rfl rfl ?_; clear hf fa; intro fa hf
                          refine sqv hf (r_assign rfl) rfl rfl rfl ?_; clear hf fa; intro fa hf
                          apply wpList_nil
                          (try simp only [Exit.then, Exit.inBlock, ↓reduceIte, Nat.reduceEqDiff])
                          refine hK30 _ _ ?_
                          refine wp_cond_split (t := (decide (o = (117 : Int)))) (hf.ev rfl) (fun hqt67_1 => ?_) (fun hqt67_1 => ?_)
                          · have hqt67_1b := hqt67_1
                            try simp only [decide_eq_true_eq, Bool.and_eq_true, Bool.or_eq_true, Bool.not_eq_true', decide_eq_false_iff_not, ne_eq, Bool.not_eq_true] at hqt67_1
                            refine wp_seq_k (fun K31 hK31 => ?_)
                            refine wp_region_lit ?_
                            refine sqv hf (r_move rfl) rfl rfl rfl ?_; clear hf fa; intro fa hf
                            refine sqv hf (r_conv (C := ((wrap32 ((A : Nat) : Int)))) rfl Try.underlying44 Try.underlying21 (i32_w _)) rfl rfl rfl ?_; clear hf fa; intro fa hf
                            refine sqv hf (r_move rfl) rfl rfl rfl ?_; clear hf fa; intro fa hf
                            refine sqv hf (r_and (C := (((B % 32) : Nat) : Int)) rfl rfl (and31_32 B hB)) rfl rfl rfl ?_; clear hf fa; intro fa hf
                            refine sqv hf (r_shr (n := ((B % 32))) (C := ((Int.fdiv (wrap32 ((A : Nat) : Int)) (2 ^ (B % 32))))) rfl rfl rfl (min_w (B % 32) (by omega) _)) rfl rfl rfl ?_; clear hf fa; intro fa hf
                            refine sqv hf (r_conv (C := ((sarN A (B % 32) (A.testBit 31) : Nat) : Int)) rfl Try.underlying21 Try.underlying44 (sar_w A (B % 32) hA (by omega))) rfl rfl rfl ?_; clear hf fa; intro fa hf
                            refine sqv hf (r_assign rfl) rfl rfl rfl ?_; clear hf fa; intro fa hf
                            refine sqv hf (r_assign rfl) rfl rfl rfl ?_; clear hf fa; intro fa hf
                            apply wpList_nil
                            (try simp only [Exit.then, Exit.inBlock, ↓reduceIte, Nat.reduceEqDiff])
                            refine hK31 _ _ ?_
                            refine wp_ret ?_
                            (try simp only [Exit.then, Exit.inBlock])
                            refine ret2 hf rfl rfl rfl ?_
                            refine ⟨?_, rfl⟩; unfold twoG; rw [if_neg hqt17_1, if_neg hqt20_1, if_neg hqt25_1, if_neg hqt30_1, if_neg hqt35_1, if_neg hqt35_3, if_neg hqt35_5, if_neg hqt35_7, if_neg hqt46_1, if_neg hqt51_1, if_neg hqt56_1, if_neg hqt61_1, if_pos hqt67_1]; (try rfl)
                          · have hqt67_1b := hqt67_1
                            replace hqt67_1 := Bool.eq_false_iff.1 hqt67_1
                            try simp only [ne_eq, decide_eq_true_eq, Bool.and_eq_true, Bool.or_eq_true, Bool.not_eq_true', decide_eq_false_iff_not] at hqt67_1
                            refine wp_seq_k (fun K32 hK32 => ?_)
                            refine wp_region_lit ?_
                            refine sqv hf (r_eq rfl rfl) rfl rfl rfl ?_; clear hf fa; intro fa hf
                            refine sqv hf (r_assign rfl) rfl rfl rfl ?_; clear hf fa; intro fa hf
                            apply wpList_nil
                            (try simp only [Exit.then, Exit.inBlock, ↓reduceIte, Nat.reduceEqDiff])
                            refine hK32 _ _ ?_
                            refine wp_cond_split (t := (decide (o = (118 : Int)))) (hf.ev rfl) (fun hqt75_1 => ?_) (fun hqt75_1 => ?_)
                            · have hqt75_1b := hqt75_1
                              try simp only [decide_eq_true_eq, Bool.and_eq_true, Bool.or_eq_true, Bool.not_eq_true', decide_eq_false_iff_not, ne_eq, Bool.not_eq_true] at hqt75_1
                              refine wp_seq_k (fun K33 hK33 => ?_)
                              refine wp_region_lit ?_
                              refine sqv hf (r_move rfl) rfl rfl rfl ?_; clear hf fa; intro fa hf
                              refine sqv hf (r_move rfl) rfl rfl rfl ?_; clear hf fa; intro fa hf
                              refine sqv hf (r_and (C := (((B % 32) : Nat) : Int)) rfl rfl (and31_32 B hB)) rfl rfl rfl ?_; clear hf fa; intro fa hf
                              refine sqv hf (r_shr (n := ((B % 32))) (C := ((sarN A (B % 32) false : Nat) : Int)) rfl rfl rfl (shr_w A (B % 32) (by omega))) rfl rfl rfl ?_; clear hf fa; intro fa hf
                              refine sqv hf (r_assign rfl) rfl rfl rfl ?_; clear hf fa; intro fa hf
                              refine sqv hf (r_assign rfl) rfl rfl rfl ?_; clear hf fa; intro fa hf
                              apply wpList_nil
                              (try simp only [Exit.then, Exit.inBlock, ↓reduceIte, Nat.reduceEqDiff])
                              refine hK33 _ _ ?_
                              refine wp_ret ?_
                              (try simp only [Exit.then, Exit.inBlock])
                              refine ret2 hf rfl rfl rfl ?_
                              refine ⟨?_, rfl⟩; unfold twoG; rw [if_neg hqt17_1, if_neg hqt20_1, if_neg hqt25_1, if_neg hqt30_1, if_neg hqt35_1, if_neg hqt35_3, if_neg hqt35_5, if_neg hqt35_7, if_neg hqt46_1, if_neg hqt51_1, if_neg hqt56_1, if_neg hqt61_1, if_neg hqt67_1, if_pos hqt75_1]; (try rfl)
                            · have hqt75_1b := hqt75_1
                              replace hqt75_1 := Bool.eq_false_iff.1 hqt75_1
                              try simp only [ne_eq, decide_eq_true_eq, Bool.and_eq_true, Bool.or_eq_true, Bool.not_eq_true', decide_eq_false_iff_not] at hqt75_1
                              refine wp_seq_k (fun K34 hK34 => ?_)
                              refine wp_region_lit ?_
                              refine sqv hf (r_eq rfl rfl) rfl rfl rfl ?_; clear hf fa; intro fa hf
                              refine sqv hf (r_assign rfl) rfl rfl rfl ?_; clear hf fa; intro fa hf
                              apply wpList_nil
                              (try simp only [Exit.then, Exit.inBlock, ↓reduceIte, Nat.reduceEqDiff])
                              refine hK34 _ _ ?_
                              refine wp_cond_split (t := (decide (o = (119 : Int)))) (hf.ev rfl) (fun hqt81_1 => ?_) (fun hqt81_1 => ?_)
                              · have hqt81_1b := hqt81_1
                                try simp only [decide_eq_true_eq, Bool.and_eq_true, Bool.or_eq_true, Bool.not_eq_true', decide_eq_false_iff_not, ne_eq, Bool.not_eq_true] at hqt81_1
                                refine wp_seq_k (fun K35 hK35 => ?_)
                                refine wp_region_lit ?_
                                refine sqv hf (r_move rfl) rfl rfl rfl ?_; clear hf fa; intro fa hf
                                refine sqv hf (r_move rfl) rfl rfl rfl ?_; clear hf fa; intro fa hf
                                refine sqv hf (r_and (C := (((B % 32) : Nat) : Int)) rfl rfl (and31_32 B hB)) rfl rfl rfl ?_; clear hf fa; intro fa hf
                                refine sqv hf (r_conv (C := (((B % 32) : Nat) : Int)) rfl Try.underlying44 Try.underlying3 (by rw [IntKind.wrap_i64]; omega)) rfl rfl rfl ?_; clear hf fa; intro fa hf
                                refine sqdt hf (d_callS (vs := [(.int .u32 ((A : Nat) : Int)), (.int .i64 (((B % 32) : Nat) : Int))]) rfl Try.func79 (by kernel_rfl) (by kernel_rfl) (rotl_any A (B % 32) _ _ hA (by omega) (rk_119 B))) rfl rfl rfl ?_; clear hf fa; rintro fa _ _ ⟨rfl, rfl⟩ hf
                                refine sqv hf (r_assign rfl) rfl rfl rfl ?_; clear hf fa; intro fa hf
                                refine sqv hf (r_assign rfl) rfl rfl rfl ?_; clear hf fa; intro fa hf
                                apply wpList_nil
                                (try simp only [Exit.then, Exit.inBlock, ↓reduceIte, Nat.reduceEqDiff])
                                refine hK35 _ _ ?_
                                refine wp_ret ?_
                                (try simp only [Exit.then, Exit.inBlock])
                                refine ret2 hf rfl rfl rfl ?_
                                refine ⟨?_, rfl⟩; unfold twoG; rw [if_neg hqt17_1, if_neg hqt20_1, if_neg hqt25_1, if_neg hqt30_1, if_neg hqt35_1, if_neg hqt35_3, if_neg hqt35_5, if_neg hqt35_7, if_neg hqt46_1, if_neg hqt51_1, if_neg hqt56_1, if_neg hqt61_1, if_neg hqt67_1, if_neg hqt75_1, if_pos hqt81_1]; (try rfl)
                              · have hqt81_1b := hqt81_1
                                replace hqt81_1 := Bool.eq_false_iff.1 hqt81_1
                                try simp only [ne_eq, decide_eq_true_eq, Bool.and_eq_true, Bool.or_eq_true, Bool.not_eq_true', decide_eq_false_iff_not] at hqt81_1
                                refine wp_seq_k (fun K36 hK36 => ?_)
                                refine wp_region_lit ?_
                                refine sqv hf (r_eq rfl rfl) rfl rfl rfl ?_; clear hf fa; intro fa hf
                                refine sqv hf (r_assign rfl) rfl rfl rfl ?_; clear hf fa; intro fa hf
                                apply wpList_nil
                                (try simp only [Exit.then, Exit.inBlock, ↓reduceIte, Nat.reduceEqDiff])
                                refine hK36 _ _ ?_
                                refine wp_cond_split (t := (decide (o = (120 : Int)))) (hf.ev rfl) (fun hqt88_1 => ?_) (fun hqt88_1 => ?_)
                                · have hqt88_1b := hqt88_1
                                  try simp only [decide_eq_true_eq, Bool.and_eq_true, Bool.or_eq_true, Bool.not_eq_true', decide_eq_false_iff_not, ne_eq, Bool.not_eq_true] at hqt88_1
                                  refine wp_seq_k (fun K37 hK37 => ?_)
                                  refine wp_region_lit ?_
                                  refine sqv hf (r_move rfl) rfl rfl rfl ?_; clear hf fa; intro fa hf
                                  refine sqv hf (r_move rfl) rfl rfl rfl ?_; clear hf fa; intro fa hf
                                  refine sqv hf (r_and (C := (((B % 32) : Nat) : Int)) rfl rfl (and31_32 B hB)) rfl rfl rfl ?_; clear hf fa; intro fa hf
                                  refine sqv hf (r_conv (C := (((B % 32) : Nat) : Int)) rfl Try.underlying44 Try.underlying3 (by rw [IntKind.wrap_i64]; omega)) rfl rfl rfl ?_; clear hf fa; intro fa hf
                                  refine sqv hf (r_neg (C := ((-((B % 32 : Nat) : Int)))) rfl (by rw [IntKind.wrap_i64]; omega)) rfl rfl rfl ?_; clear hf fa; intro fa hf
                                  refine sqdt hf (d_callS (vs := [(.int .u32 ((A : Nat) : Int)), (.int .i64 ((-((B % 32 : Nat) : Int))))]) rfl Try.func79 (by kernel_rfl) (by kernel_rfl) (rotl_any A ((32 - B % 32) % 32) _ _ hA (by omega) (rk_120 B))) rfl rfl rfl ?_; clear hf fa; rintro fa _ _ ⟨rfl, rfl⟩ hf
                                  refine sqv hf (r_assign rfl) rfl rfl rfl ?_; clear hf fa; intro fa hf
                                  refine sqv hf (r_assign rfl) rfl rfl rfl ?_; clear hf fa; intro fa hf
                                  apply wpList_nil
                                  (try simp only [Exit.then, Exit.inBlock, ↓reduceIte, Nat.reduceEqDiff])
                                  refine hK37 _ _ ?_
                                  refine wp_ret ?_
                                  (try simp only [Exit.then, Exit.inBlock])
                                  refine ret2 hf rfl rfl rfl ?_
                                  refine ⟨?_, rfl⟩; unfold twoG; rw [if_neg hqt17_1, if_neg hqt20_1, if_neg hqt25_1, if_neg hqt30_1, if_neg hqt35_1, if_neg hqt35_3, if_neg hqt35_5, if_neg hqt35_7, if_neg hqt46_1, if_neg hqt51_1, if_neg hqt56_1, if_neg hqt61_1, if_neg hqt67_1, if_neg hqt75_1, if_neg hqt81_1, if_pos hqt88_1]; (try rfl)
                                · have hqt88_1b := hqt88_1
                                  replace hqt88_1 := Bool.eq_false_iff.1 hqt88_1
                                  try simp only [ne_eq, decide_eq_true_eq, Bool.and_eq_true, Bool.or_eq_true, Bool.not_eq_true', decide_eq_false_iff_not] at hqt88_1
                                  refine wp_skip ?_
                                  (try simp only [Exit.then, Exit.inBlock, ↓reduceIte, Nat.reduceEqDiff])
                                  refine hK6 _ _ ?_
                                  refine wp_seq_k (fun K38 hK38 => ?_)
                                  refine wp_region_lit ?_
                                  refine sqv hf (r_assign rfl) rfl rfl rfl ?_; clear hf fa; intro fa hf
                                  refine sqv hf (r_assign rfl) rfl rfl rfl ?_; clear hf fa; intro fa hf
                                  apply wpList_nil
                                  (try simp only [Exit.then, Exit.inBlock, ↓reduceIte, Nat.reduceEqDiff])
                                  refine hK38 _ _ ?_
                                  refine wp_ret ?_
                                  (try simp only [Exit.then, Exit.inBlock])
                                  refine ret2 hf rfl rfl rfl ?_
                                  refine ⟨?_, rfl⟩; unfold twoG; rw [if_neg hqt17_1, if_neg hqt20_1, if_neg hqt25_1, if_neg hqt30_1, if_neg hqt35_1, if_neg hqt35_3, if_neg hqt35_5, if_neg hqt35_7, if_neg hqt46_1, if_neg hqt51_1, if_neg hqt56_1, if_neg hqt61_1, if_neg hqt67_1, if_neg hqt75_1, if_neg hqt81_1, if_neg hqt88_1]; (try rfl)

set_option maxHeartbeats 1000000 in
set_option maxRecDepth 100000 in
theorem aluTwo_any (o : Int) (A B : Nat) (w : World) (hA : A < 4294967296) (hB : B < 4294967296) (ho : 0 ≤ o ∧ o < 256) : Calls Try.prog 14 #[(.int .u8 o), (.int .u32 ((A : Nat) : Int)), (.int .u32 ((B : Nat) : Int))] w fun e w' => e = .returned (.bool true) ∧ Below w.heap.size w w' := by
  have hE := two_eq ho hA hB; have hbd := twoG_bd o hA hB
  refine sx_enter (L := [(0, (.int .u8 o)), (1, (.int .u32 ((A : Nat) : Int))), (2, (.int .u32 ((B : Nat) : Int)))]) Try.func14 rfl rfl rfl rfl (fun fa hf => ?_)
  have hb : Below w.heap.size w w := Below.refl _ _
  refine wp_seq_k (fun K1 hK1 => ?_)
  refine wp_region_lit ?_
  refine sqv hf (r_assign rfl) rfl rfl rfl ?_; clear hf fa; intro fa hf
  apply wpList_nil
  (try simp only [Exit.then, Exit.inBlock, ↓reduceIte, Nat.reduceEqDiff])
  refine hK1 _ _ ?_
  refine wp_seq_k (fun K2 hK2 => ?_)
  refine wp_seq_k (fun K3 hK3 => ?_)
  refine wp_region_lit ?_
  refine sqdt hf (d_callS (vs := []) rfl Try.func56 (by kernel_rfl) (by kernel_rfl) (awake18_any _)) rfl rfl rfl ?_; clear hf fa; rintro fa _ _ ⟨rfl, rfl⟩ hf
  refine sqv hf (r_not rfl) rfl rfl rfl ?_; clear hf fa; intro fa hf
  apply wpList_nil
  (try simp only [Exit.then, Exit.inBlock, ↓reduceIte, Nat.reduceEqDiff])
  refine hK3 _ _ ?_
  refine wp_cond_false ((hf.ev rfl).trans (congrArg Value.bool (show (!true) = false from rfl))) ?_
  refine wp_skip ?_
  (try simp only [Exit.then, Exit.inBlock, ↓reduceIte, Nat.reduceEqDiff])
  refine hK2 _ _ ?_
  refine wp_seq_k (fun K4 hK4 => ?_)
  refine wp_region_lit ?_
  refine sqv hf (r_move rfl) rfl rfl rfl ?_; clear hf fa; intro fa hf
  refine sqv hf (r_move rfl) rfl rfl rfl ?_; clear hf fa; intro fa hf
  refine sqv hf (r_move rfl) rfl rfl rfl ?_; clear hf fa; intro fa hf
  refine sqdt hf (d_callS (vs := [(.int .u8 o), (.int .u32 ((A : Nat) : Int)), (.int .u32 ((B : Nat) : Int))]) rfl Try.func57 (by kernel_rfl) (by kernel_rfl) (two_any o A B _ hA hB)) rfl rfl rfl ?_; clear hf fa; rintro fa _ _ ⟨rfl, rfl⟩ hf
  refine sqv hf (r_move rfl) rfl rfl rfl ?_; clear hf fa; intro fa hf
  refine sqv hf (r_extract rfl (i := 0) rfl) rfl rfl rfl ?_; clear hf fa; intro fa hf
  refine sqv hf (r_extract rfl (i := 1) rfl) rfl rfl rfl ?_; clear hf fa; intro fa hf
  refine sqv hf (r_assign rfl) rfl rfl rfl ?_; clear hf fa; intro fa hf
  refine sqv hf (r_assign rfl) rfl rfl rfl ?_; clear hf fa; intro fa hf
  apply wpList_nil
  (try simp only [Exit.then, Exit.inBlock, ↓reduceIte, Nat.reduceEqDiff])
  refine hK4 _ _ ?_
  refine wp_seq_k (fun K5 hK5 => ?_)
  refine wp_region_lit ?_
  refine sqv hf (r_move rfl) rfl rfl rfl ?_; clear hf fa; intro fa hf
  refine sqv hf (r_conv (C := o) rfl Try.underlying5 Try.underlying3 (by rw [IntKind.wrap_i64]; omega)) rfl rfl rfl ?_; clear hf fa; intro fa hf
  refine sqv hf (r_move rfl) rfl rfl rfl ?_; clear hf fa; intro fa hf
  refine sqv hf (r_conv (C := ((A : Nat) : Int)) rfl Try.underlying44 Try.underlying36 (by rw [IntKind.wrap_u64]; omega)) rfl rfl rfl ?_; clear hf fa; intro fa hf
  refine sqv hf (r_move rfl) rfl rfl rfl ?_; clear hf fa; intro fa hf
  refine sqv hf (r_conv (C := ((B : Nat) : Int)) rfl Try.underlying44 Try.underlying36 (by rw [IntKind.wrap_u64]; omega)) rfl rfl rfl ?_; clear hf fa; intro fa hf
  refine sqdt hf (d_callB (vs := [(.int .i64 o), (.int .u64 ((A : Nat) : Int)), (.int .u64 ((B : Nat) : Int))]) rfl Try.func58 (by kernel_rfl) (by kernel_rfl) (rtwo_any o A B _ ho hA hB)) rfl rfl rfl ?_; clear hf fa; rintro fa _ w1 ⟨rfl, he1⟩ hf
  replace hb := hb.trans (Below.mono he1 hb.size)
  refine sqv hf (r_move rfl) rfl rfl rfl ?_; clear hf fa; intro fa hf
  refine sqv hf (r_extract rfl (i := 0) rfl) rfl rfl rfl ?_; clear hf fa; intro fa hf
  refine sqv hf (r_extract rfl (i := 1) rfl) rfl rfl rfl ?_; clear hf fa; intro fa hf
  refine sqv hf (r_assign rfl) rfl rfl rfl ?_; clear hf fa; intro fa hf
  refine sqv hf (r_assign rfl) rfl rfl rfl ?_; clear hf fa; intro fa hf
  apply wpList_nil
  (try simp only [Exit.then, Exit.inBlock, ↓reduceIte, Nat.reduceEqDiff])
  refine hK5 _ _ ?_
  refine wp_seq_k (fun K6 hK6 => ?_)
  refine wp_region_lit ?_
  refine sqv hf (r_move rfl) rfl rfl rfl ?_; clear hf fa; intro fa hf
  refine sqv hf (r_conv (C := ((twoG o A B).1)) rfl Try.underlying44 Try.underlying36 (by rw [IntKind.wrap_u64]; omega)) rfl rfl rfl ?_; clear hf fa; intro fa hf
  refine sqv hf (r_move rfl) rfl rfl rfl ?_; clear hf fa; intro fa hf
  refine sqv hf (r_eq rfl rfl) rfl rfl rfl ?_; clear hf fa; intro fa hf
  refine sqv hf (r_move rfl) rfl rfl rfl ?_; clear hf fa; intro fa hf
  refine sqgT (act := (decide (((twoG o A B).1) = ((rtwoP o A B).1)))) (ag := true) (c := (decide (((twoG o A B).1) = ((rtwoP o A B).1)))) (v := (.int .i64 ((twoG o A B).2))) hf rfl rfl rfl (fun hact => (r_move rfl)) rfl rfl ?_; clear hf fa; intro fa hf
  refine sqgT (act := (decide (((twoG o A B).1) = ((rtwoP o A B).1)))) (ag := true) (c := (decide (((twoG o A B).1) = ((rtwoP o A B).1)))) (v := (.int .i64 ((rtwoP o A B).2))) hf rfl rfl rfl (fun hact => (r_move rfl)) rfl rfl ?_; clear hf fa; intro fa hf
  refine sqgT (act := (decide (((twoG o A B).1) = ((rtwoP o A B).1)))) (ag := true) (c := (decide (((twoG o A B).1) = ((rtwoP o A B).1)))) (v := (.bool (decide (((twoG o A B).2) = ((rtwoP o A B).2))))) hf rfl rfl rfl (fun hact => (r_eq (gb_ev hact rfl) (gb_ev hact rfl))) rfl rfl ?_; clear hf fa; intro fa hf
  refine sqv hf (r_pickA (b := (decide (((twoG o A B).1) = ((rtwoP o A B).1)))) (e := (decide (((twoG o A B).2) = ((rtwoP o A B).2)))) rfl rfl rfl) rfl rfl rfl ?_; clear hf fa; intro fa hf
  refine sqv hf (r_assign rfl) rfl rfl rfl ?_; clear hf fa; intro fa hf
  apply wpList_nil
  (try simp only [Exit.then, Exit.inBlock, ↓reduceIte, Nat.reduceEqDiff])
  refine hK6 _ _ ?_
  refine wp_ret ?_
  (try simp only [Exit.then, Exit.inBlock])
  refine ret1 hf rfl rfl ?_
  refine ⟨congrArg (fun b => Ending.returned (.bool b)) ?_, hb⟩; rw [hE]; simp
end Go.Proofs.Ytahgkfekggkjnaa
