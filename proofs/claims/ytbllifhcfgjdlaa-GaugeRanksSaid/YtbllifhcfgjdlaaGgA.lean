/- What is proved here: kinds and order of floats. -/
import Derived.Test.YtbllifhcfgjdlaaGgM
import Derived.Test.YtbllifhcfgjdlaaSxE
namespace Go.Proofs.Ytbllifhcfgjdlaa
open Go.RowKit
set_option linter.unusedVariables false
set_option linter.unusedSimpArgs false
set_option maxHeartbeats 1000000 in
set_option maxRecDepth 100000 in
theorem kind_any (x : Nat) (hx : x < 18446744073709551616) (w : World) : Calls Try.prog 7 #[(.float .f64 x)] w fun e w' => e = .returned (.int .i64 (kindN x)) ∧ Below w.heap.size w w' := by
  refine sx_enter (L := [(0, (.float .f64 x))]) Try.func7 rfl rfl rfl rfl (fun fa hf => ?_)
  have hb : Below w.heap.size w w := Below.refl _ _
  refine wp_seq_k (fun K1 hK1 => ?_)
  refine wp_region_lit ?_
  refine sqv hf (r_assign rfl) rfl rfl rfl ?_; clear hf fa; intro fa hf
  apply wpList_nil
  (try simp only [Exit.then, Exit.inBlock, ↓reduceIte, Nat.reduceEqDiff])
  refine hK1 _ _ ?_
  refine wp_seq_k (fun K2 hK2 => ?_)
  refine wp_block ?_
  refine wp_seq_k (fun K3 hK3 => ?_)
  refine wp_region_lit ?_
  refine sqv hf (r_move rfl) rfl rfl rfl ?_; clear hf fa; intro fa hf
  refine sqv hf (r_move rfl) rfl rfl rfl ?_; clear hf fa; intro fa hf
  refine sqv hf (Runs.veq (r_fneq rfl rfl) (congrArg Value.bool (show _ = (decide (FltT.isNan x)) from (fself x)))) rfl rfl rfl ?_; clear hf fa; intro fa hf
  refine sqv hf (r_assign rfl) rfl rfl rfl ?_; clear hf fa; intro fa hf
  apply wpList_nil
  (try simp only [Exit.then, Exit.inBlock, ↓reduceIte, Nat.reduceEqDiff])
  refine hK3 _ _ ?_
  refine wp_cond_split (t := (decide (FltT.isNan x))) (hf.ev rfl) (fun hqt3_1 => ?_) (fun hqt3_1 => ?_)
  · have hqt3_1b := hqt3_1
    try simp only [decide_eq_true_eq, Bool.and_eq_true, Bool.or_eq_true, Bool.not_eq_true', decide_eq_false_iff_not, ne_eq, Bool.not_eq_true] at hqt3_1
    refine wp_seq_k (fun K4 hK4 => ?_)
    refine wp_region_lit ?_
    refine sqv hf (r_assign rfl) rfl rfl rfl ?_; clear hf fa; intro fa hf
    apply wpList_nil
    (try simp only [Exit.then, Exit.inBlock, ↓reduceIte, Nat.reduceEqDiff])
    refine hK4 _ _ ?_
    refine wp_ret ?_
    (try simp only [Exit.then, Exit.inBlock])
    refine ret1 hf rfl rfl ?_
    refine ⟨?_, hb⟩
    (try unfold FltT.isNan at *)
    have hkc := kind_cases x
    unfold FltT.isNan at hkc
    rcases hkc with hkc | hkc | hkc | hkc | hkc | hkc | hkc
    all_goals first | exact congrArg (fun n => Ending.returned (.int .i64 n)) hkc.1.symm | (exfalso; clear hf hb; grind)
  · have hqt3_1b := hqt3_1
    replace hqt3_1 := Bool.eq_false_iff.1 hqt3_1
    try simp only [ne_eq, decide_eq_true_eq, Bool.and_eq_true, Bool.or_eq_true, Bool.not_eq_true', decide_eq_false_iff_not] at hqt3_1
    refine wp_seq_k (fun K5 hK5 => ?_)
    refine wp_region_lit ?_
    refine sqv hf (r_move rfl) rfl rfl rfl ?_; clear hf fa; intro fa hf
    refine sqv hf (Runs.veq (r_feql rfl rfl) (congrArg Value.bool (show _ = (decide (FltT.frung x = 0)) from (fzero x)))) rfl rfl rfl ?_; clear hf fa; intro fa hf
    refine sqv hf (r_move rfl) rfl rfl rfl ?_; clear hf fa; intro fa hf
    refine sqgT (act := (decide (FltT.frung x = 0))) (ag := true) (c := (decide (FltT.frung x = 0))) (v := (.float .f64 x)) hf rfl rfl rfl (fun hact => (r_move rfl)) rfl rfl ?_; clear hf fa; intro fa hf
    refine sqgd (R := fun vq wq => (∃ r, vq = gb (decide (FltT.frung x = 0)) (.float .f64 r) ∧ ((decide (FltT.frung x = 0)) = true → FRes .quo 4607182418800017408 x r)) ∧ Below w.heap.size w wq) (act := (decide (FltT.frung x = 0))) (g := 2) (want := true) (ag := true) (c := (decide (FltT.frung x = 0))) hf (by rfl) (by rfl) (act_T _ _) (fun hact => (d_farith (op := .quo) (a := 4607182418800017408) (b := x) rfl (gb_ev hact rfl) (by simp)).mono (by rintro _ _ ⟨⟨r, rfl, hr⟩, h2⟩; exact ⟨⟨r, by rw [hact]; rfl, fun _ => hr⟩, h2⟩)) (fun h => ⟨⟨0, by rw [h]; rfl, fun h2 => by rw [h] at h2; cases h2⟩, Below.refl _ _⟩) rfl ?_; clear hf fa; rintro fa _ w1 ⟨⟨fr1, rfl, hfr1⟩, he1⟩ hf
    replace hb := hb.trans (Below.mono he1 hb.size)
    change Fr _ _ ((12, (gb (decide (FltT.frung x = 0)) (.float .f64 fr1))) :: _) at hf
    refine sqgT (act := (decide (FltT.frung x = 0))) (ag := true) (c := (decide (FltT.frung x = 0))) (v := (.bool (FltT.fneg x))) hf rfl rfl rfl (fun hact => (Runs.veq (r_flss (gb_ev hact rfl) rfl) (congrArg Value.bool (show _ = (FltT.fneg x) from (fdivz (by simpa using hact) (hfr1 hact)))))) rfl rfl ?_; clear hf fa; intro fa hf
    refine sqv hf (r_pickA (b := (decide (FltT.frung x = 0))) (e := (FltT.fneg x)) rfl rfl rfl) rfl rfl rfl ?_; clear hf fa; intro fa hf
    refine sqv hf (r_assign rfl) rfl rfl rfl ?_; clear hf fa; intro fa hf
    apply wpList_nil
    (try simp only [Exit.then, Exit.inBlock, ↓reduceIte, Nat.reduceEqDiff])
    refine hK5 _ _ ?_
    refine wp_cond_split (t := ((decide (FltT.frung x = 0)) && (FltT.fneg x))) (hf.ev rfl) (fun hqt7_1 => ?_) (fun hqt7_1 => ?_)
    · have hqt7_1b := hqt7_1
      try simp only [decide_eq_true_eq, Bool.and_eq_true, Bool.or_eq_true, Bool.not_eq_true', decide_eq_false_iff_not, ne_eq, Bool.not_eq_true] at hqt7_1
      refine wp_seq_k (fun K6 hK6 => ?_)
      refine wp_region_lit ?_
      refine sqv hf (r_assign rfl) rfl rfl rfl ?_; clear hf fa; intro fa hf
      apply wpList_nil
      (try simp only [Exit.then, Exit.inBlock, ↓reduceIte, Nat.reduceEqDiff])
      refine hK6 _ _ ?_
      refine wp_ret ?_
      (try simp only [Exit.then, Exit.inBlock])
      refine ret1 hf rfl rfl ?_
      refine ⟨?_, hb⟩
      (try unfold FltT.isNan at *)
      have hkc := kind_cases x
      unfold FltT.isNan at hkc
      rcases hkc with hkc | hkc | hkc | hkc | hkc | hkc | hkc
      all_goals first | exact congrArg (fun n => Ending.returned (.int .i64 n)) hkc.1.symm | (exfalso; clear hf hb; grind)
    · have hqt7_1b := hqt7_1
      replace hqt7_1 := Bool.eq_false_iff.1 hqt7_1
      try simp only [ne_eq, decide_eq_true_eq, Bool.and_eq_true, Bool.or_eq_true, Bool.not_eq_true', decide_eq_false_iff_not] at hqt7_1
      refine wp_seq_k (fun K7 hK7 => ?_)
      refine wp_region_lit ?_
      refine sqv hf (r_move rfl) rfl rfl rfl ?_; clear hf fa; intro fa hf
      refine sqv hf (Runs.veq (r_feql rfl rfl) (congrArg Value.bool (show _ = (decide (FltT.frung x = 0)) from (fzero x)))) rfl rfl rfl ?_; clear hf fa; intro fa hf
      refine sqv hf (r_assign rfl) rfl rfl rfl ?_; clear hf fa; intro fa hf
      apply wpList_nil
      (try simp only [Exit.then, Exit.inBlock, ↓reduceIte, Nat.reduceEqDiff])
      refine hK7 _ _ ?_
      refine wp_cond_split (t := (decide (FltT.frung x = 0))) (hf.ev rfl) (fun hqt15_1 => ?_) (fun hqt15_1 => ?_)
      · have hqt15_1b := hqt15_1
        try simp only [decide_eq_true_eq, Bool.and_eq_true, Bool.or_eq_true, Bool.not_eq_true', decide_eq_false_iff_not, ne_eq, Bool.not_eq_true] at hqt15_1
        refine wp_seq_k (fun K8 hK8 => ?_)
        refine wp_region_lit ?_
        refine sqv hf (r_assign rfl) rfl rfl rfl ?_; clear hf fa; intro fa hf
        apply wpList_nil
        (try simp only [Exit.then, Exit.inBlock, ↓reduceIte, Nat.reduceEqDiff])
        refine hK8 _ _ ?_
        refine wp_ret ?_
        (try simp only [Exit.then, Exit.inBlock])
        refine ret1 hf rfl rfl ?_
        refine ⟨?_, hb⟩
        (try unfold FltT.isNan at *)
        have hkc := kind_cases x
        unfold FltT.isNan at hkc
        rcases hkc with hkc | hkc | hkc | hkc | hkc | hkc | hkc
        all_goals first | exact congrArg (fun n => Ending.returned (.int .i64 n)) hkc.1.symm | (exfalso; clear hf hb; grind)
      · have hqt15_1b := hqt15_1
        replace hqt15_1 := Bool.eq_false_iff.1 hqt15_1
        try simp only [ne_eq, decide_eq_true_eq, Bool.and_eq_true, Bool.or_eq_true, Bool.not_eq_true', decide_eq_false_iff_not] at hqt15_1
        refine wp_seq_k (fun K9 hK9 => ?_)
        refine wp_region_lit ?_
        refine sqv hf (r_move rfl) rfl rfl rfl ?_; clear hf fa; intro fa hf
        refine sqv hf (r_move rfl) rfl rfl rfl ?_; clear hf fa; intro fa hf
        refine sqdt hf (d_farith (op := .sub) (a := x) (b := x) rfl rfl (by simp)) rfl rfl rfl ?_; clear hf fa; rintro fa _ w2 ⟨⟨fr2, rfl, hfr2⟩, he2⟩ hf
        replace hb := hb.trans (Below.mono he2 hb.size)
        refine sqv hf (Runs.veq (r_feql rfl rfl) (congrArg Value.bool (show _ = (decide (FltT.frung x < 9218868437227405312)) from (fsubz hfr2)))) rfl rfl rfl ?_; clear hf fa; intro fa hf
        refine sqv hf (r_move rfl) rfl rfl rfl ?_; clear hf fa; intro fa hf
        refine sqgT (act := (decide (FltT.frung x < 9218868437227405312))) (ag := true) (c := (decide (FltT.frung x < 9218868437227405312))) (v := (.float .f64 x)) hf rfl rfl rfl (fun hact => (r_move rfl)) rfl rfl ?_; clear hf fa; intro fa hf
        refine sqgT (act := (decide (FltT.frung x < 9218868437227405312))) (ag := true) (c := (decide (FltT.frung x < 9218868437227405312))) (v := (.bool (decide (¬ FltT.isNan x ∧ FltT.frung x ≠ 0 ∧ FltT.fneg x = true)))) hf rfl rfl rfl (fun hact => (Runs.veq (r_flss (gb_ev hact rfl) rfl) (congrArg Value.bool (show _ = (decide (¬ FltT.isNan x ∧ FltT.frung x ≠ 0 ∧ FltT.fneg x = true)) from (fltz x))))) rfl rfl ?_; clear hf fa; intro fa hf
        refine sqv hf (r_pickA (b := (decide (FltT.frung x < 9218868437227405312))) (e := (decide (¬ FltT.isNan x ∧ FltT.frung x ≠ 0 ∧ FltT.fneg x = true))) rfl rfl rfl) rfl rfl rfl ?_; clear hf fa; intro fa hf
        refine sqv hf (r_assign rfl) rfl rfl rfl ?_; clear hf fa; intro fa hf
        apply wpList_nil
        (try simp only [Exit.then, Exit.inBlock, ↓reduceIte, Nat.reduceEqDiff])
        refine hK9 _ _ ?_
        refine wp_cond_split (t := ((decide (FltT.frung x < 9218868437227405312)) && (decide (¬ FltT.isNan x ∧ FltT.frung x ≠ 0 ∧ FltT.fneg x = true)))) (hf.ev rfl) (fun hqt18_1 => ?_) (fun hqt18_1 => ?_)
        · have hqt18_1b := hqt18_1
          try simp only [decide_eq_true_eq, Bool.and_eq_true, Bool.or_eq_true, Bool.not_eq_true', decide_eq_false_iff_not, ne_eq, Bool.not_eq_true] at hqt18_1
          refine wp_seq_k (fun K10 hK10 => ?_)
          refine wp_region_lit ?_
          refine sqv hf (r_assign rfl) rfl rfl rfl ?_; clear hf fa; intro fa hf
          apply wpList_nil
          (try simp only [Exit.then, Exit.inBlock, ↓reduceIte, Nat.reduceEqDiff])
          refine hK10 _ _ ?_
          refine wp_ret ?_
          (try simp only [Exit.then, Exit.inBlock])
          refine ret1 hf rfl rfl ?_
          refine ⟨?_, hb⟩
          (try unfold FltT.isNan at *)
          have hkc := kind_cases x
          unfold FltT.isNan at hkc
          rcases hkc with hkc | hkc | hkc | hkc | hkc | hkc | hkc
          all_goals first | exact congrArg (fun n => Ending.returned (.int .i64 n)) hkc.1.symm | (exfalso; clear hf hb; grind)
        · have hqt18_1b := hqt18_1
          replace hqt18_1 := Bool.eq_false_iff.1 hqt18_1
          try simp only [ne_eq, decide_eq_true_eq, Bool.and_eq_true, Bool.or_eq_true, Bool.not_eq_true', decide_eq_false_iff_not] at hqt18_1
          refine wp_seq_k (fun K11 hK11 => ?_)
          refine wp_region_lit ?_
          refine sqv hf (r_move rfl) rfl rfl rfl ?_; clear hf fa; intro fa hf
          refine sqv hf (r_move rfl) rfl rfl rfl ?_; clear hf fa; intro fa hf
          refine sqdt hf (d_farith (op := .sub) (a := x) (b := x) rfl rfl (by simp)) rfl rfl rfl ?_; clear hf fa; rintro fa _ w3 ⟨⟨fr3, rfl, hfr3⟩, he3⟩ hf
          replace hb := hb.trans (Below.mono he3 hb.size)
          refine sqv hf (Runs.veq (r_feql rfl rfl) (congrArg Value.bool (show _ = (decide (FltT.frung x < 9218868437227405312)) from (fsubz hfr3)))) rfl rfl rfl ?_; clear hf fa; intro fa hf
          refine sqv hf (r_assign rfl) rfl rfl rfl ?_; clear hf fa; intro fa hf
          apply wpList_nil
          (try simp only [Exit.then, Exit.inBlock, ↓reduceIte, Nat.reduceEqDiff])
          refine hK11 _ _ ?_
          refine wp_cond_split (t := (decide (FltT.frung x < 9218868437227405312))) (hf.ev rfl) (fun hqt27_1 => ?_) (fun hqt27_1 => ?_)
          · have hqt27_1b := hqt27_1
            try simp only [decide_eq_true_eq, Bool.and_eq_true, Bool.or_eq_true, Bool.not_eq_true', decide_eq_false_iff_not, ne_eq, Bool.not_eq_true] at hqt27_1
            refine wp_seq_k (fun K12 hK12 => ?_)
            refine wp_region_lit ?_
            refine sqv hf (r_assign rfl) rfl rfl rfl ?_; clear hf fa; intro fa hf
            apply wpList_nil
            (try simp only [Exit.then, Exit.inBlock, ↓reduceIte, Nat.reduceEqDiff])
            refine hK12 _ _ ?_
            refine wp_ret ?_
            (try simp only [Exit.then, Exit.inBlock])
            refine ret1 hf rfl rfl ?_
            refine ⟨?_, hb⟩
            (try unfold FltT.isNan at *)
            have hkc := kind_cases x
            unfold FltT.isNan at hkc
            rcases hkc with hkc | hkc | hkc | hkc | hkc | hkc | hkc
            all_goals first | exact congrArg (fun n => Ending.returned (.int .i64 n)) hkc.1.symm | (exfalso; clear hf hb; grind)
          · have hqt27_1b := hqt27_1
            replace hqt27_1 := Bool.eq_false_iff.1 hqt27_1
            try simp only [ne_eq, decide_eq_true_eq, Bool.and_eq_true, Bool.or_eq_true, Bool.not_eq_true', decide_eq_false_iff_not] at hqt27_1
            refine wp_seq_k (fun K13 hK13 => ?_)
            refine wp_region_lit ?_
            refine sqv hf (r_move rfl) rfl rfl rfl ?_; clear hf fa; intro fa hf
            refine sqv hf (Runs.veq (r_flss rfl rfl) (congrArg Value.bool (show _ = (decide (¬ FltT.isNan x ∧ FltT.frung x ≠ 0 ∧ FltT.fneg x = true)) from (fltz x)))) rfl rfl rfl ?_; clear hf fa; intro fa hf
            refine sqv hf (r_assign rfl) rfl rfl rfl ?_; clear hf fa; intro fa hf
            apply wpList_nil
            (try simp only [Exit.then, Exit.inBlock, ↓reduceIte, Nat.reduceEqDiff])
            refine hK13 _ _ ?_
            refine wp_cond_split (t := (decide (¬ FltT.isNan x ∧ FltT.frung x ≠ 0 ∧ FltT.fneg x = true))) (hf.ev rfl) (fun hqt32_1 => ?_) (fun hqt32_1 => ?_)
            · have hqt32_1b := hqt32_1
              try simp only [decide_eq_true_eq, Bool.and_eq_true, Bool.or_eq_true, Bool.not_eq_true', decide_eq_false_iff_not, ne_eq, Bool.not_eq_true] at hqt32_1
              refine wp_seq_k (fun K14 hK14 => ?_)
              refine wp_region_lit ?_
              refine sqv hf (r_assign rfl) rfl rfl rfl ?_; clear hf fa; intro fa hf
              apply wpList_nil
              (try simp only [Exit.then, Exit.inBlock, ↓reduceIte, Nat.reduceEqDiff])
              refine hK14 _ _ ?_
              refine wp_ret ?_
              (try simp only [Exit.then, Exit.inBlock])
              refine ret1 hf rfl rfl ?_
              refine ⟨?_, hb⟩
              (try unfold FltT.isNan at *)
              have hkc := kind_cases x
              unfold FltT.isNan at hkc
              rcases hkc with hkc | hkc | hkc | hkc | hkc | hkc | hkc
              all_goals first | exact congrArg (fun n => Ending.returned (.int .i64 n)) hkc.1.symm | (exfalso; clear hf hb; grind)
            · have hqt32_1b := hqt32_1
              replace hqt32_1 := Bool.eq_false_iff.1 hqt32_1
              try simp only [ne_eq, decide_eq_true_eq, Bool.and_eq_true, Bool.or_eq_true, Bool.not_eq_true', decide_eq_false_iff_not] at hqt32_1
              refine wp_skip ?_
              (try simp only [Exit.then, Exit.inBlock, ↓reduceIte, Nat.reduceEqDiff])
              refine hK2 _ _ ?_
              refine wp_seq_k (fun K15 hK15 => ?_)
              refine wp_region_lit ?_
              refine sqv hf (r_assign rfl) rfl rfl rfl ?_; clear hf fa; intro fa hf
              apply wpList_nil
              (try simp only [Exit.then, Exit.inBlock, ↓reduceIte, Nat.reduceEqDiff])
              refine hK15 _ _ ?_
              refine wp_ret ?_
              (try simp only [Exit.then, Exit.inBlock])
              refine ret1 hf rfl rfl ?_
              refine ⟨?_, hb⟩
              (try unfold FltT.isNan at *)
              have hkc := kind_cases x
              unfold FltT.isNan at hkc
              rcases hkc with hkc | hkc | hkc | hkc | hkc | hkc | hkc
              all_goals first | exact congrArg (fun n => Ending.returned (.int .i64 n)) hkc.1.symm | (exfalso; clear hf hb; grind)

set_option maxHeartbeats 1000000 in
set_option maxRecDepth 100000 in
theorem rkind_any (x : Nat) (hx : x < 18446744073709551616) (w : World) : Calls Try.prog 8 #[(.float .f64 x)] w fun e w' => e = .returned (.int .i64 (kindN x)) ∧ Below w.heap.size w w' := by
  refine sx_enter (L := [(0, (.float .f64 x))]) Try.func8 rfl rfl rfl rfl (fun fa hf => ?_)
  have hb : Below w.heap.size w w := Below.refl _ _
  refine wp_seq_k (fun K1 hK1 => ?_)
  refine wp_region_lit ?_
  refine sqv hf (r_assign rfl) rfl rfl rfl ?_; clear hf fa; intro fa hf
  apply wpList_nil
  (try simp only [Exit.then, Exit.inBlock, ↓reduceIte, Nat.reduceEqDiff])
  refine hK1 _ _ ?_
  refine wp_seq_k (fun K2 hK2 => ?_)
  refine wp_region_lit ?_
  refine sqv hf (r_move rfl) rfl rfl rfl ?_; clear hf fa; intro fa hf
  refine sqv hf (d_extern (ent := Extern.MathFloatBits.float64bits) (v := .int .u64 ((x : Nat) : Int)) (vs := [(.float .f64 x)]) rfl Try.func30 (by kernel_rfl) (by kernel_rfl) (by kernel_rfl) (by kernel_rfl) (by rfl)) rfl rfl rfl ?_; clear hf fa; intro fa hf
  refine sqv hf (r_assign rfl) rfl rfl rfl ?_; clear hf fa; intro fa hf
  apply wpList_nil
  (try simp only [Exit.then, Exit.inBlock, ↓reduceIte, Nat.reduceEqDiff])
  refine hK2 _ _ ?_
  refine wp_seq_k (fun K3 hK3 => ?_)
  refine wp_region_lit ?_
  refine sqv hf (r_move rfl) rfl rfl rfl ?_; clear hf fa; intro fa hf
  refine sqv hf (r_quo (C := (((x : Nat) : Int) / (9223372036854775808 : Int))) rfl rfl (by omega) (by rw [Int.tdiv_eq_ediv_of_nonneg (by omega), IntKind.wrap_u64]; omega)) rfl rfl rfl ?_; clear hf fa; intro fa hf
  refine sqv hf (Runs.veq (r_eq rfl rfl) (congrArg Value.bool (show _ = (FltT.fneg x) from (by unfold FltT.fneg; by_cases h : x < 9223372036854775808; (rw [show x / 9223372036854775808 = 0 by omega, show ((x : Nat) : Int) / 9223372036854775808 = 0 by omega]; rfl); (rw [show x / 9223372036854775808 = 1 by omega, show ((x : Nat) : Int) / 9223372036854775808 = 1 by omega]; rfl))))) rfl rfl rfl ?_; clear hf fa; intro fa hf
  refine sqv hf (r_assign rfl) rfl rfl rfl ?_; clear hf fa; intro fa hf
  apply wpList_nil
  (try simp only [Exit.then, Exit.inBlock, ↓reduceIte, Nat.reduceEqDiff])
  refine hK3 _ _ ?_
  refine wp_seq_k (fun K4 hK4 => ?_)
  refine wp_region_lit ?_
  refine sqv hf (r_move rfl) rfl rfl rfl ?_; clear hf fa; intro fa hf
  refine sqv hf (Runs.veq (v' := (.int .u64 (((FltT.frung x) : Nat) : Int))) (r_rem (C := (((x : Nat) : Int) % (9223372036854775808 : Int))) rfl rfl (by omega) (Int.tmod_eq_emod_of_nonneg (by omega))) (by unfold FltT.frung; rw [Int.natCast_emod]; rfl)) rfl rfl rfl ?_; clear hf fa; intro fa hf
  refine sqv hf (r_assign rfl) rfl rfl rfl ?_; clear hf fa; intro fa hf
  apply wpList_nil
  (try simp only [Exit.then, Exit.inBlock, ↓reduceIte, Nat.reduceEqDiff])
  refine hK4 _ _ ?_
  refine wp_seq_k (fun K5 hK5 => ?_)
  refine wp_seq_k (fun K6 hK6 => ?_)
  refine wp_region_lit ?_
  refine sqv hf (r_move rfl) rfl rfl rfl ?_; clear hf fa; intro fa hf
  refine sqv hf (r_gt rfl rfl) rfl rfl rfl ?_; clear hf fa; intro fa hf
  apply wpList_nil
  (try simp only [Exit.then, Exit.inBlock, ↓reduceIte, Nat.reduceEqDiff])
  refine hK6 _ _ ?_
  refine wp_cond_split (t := (decide ((9218868437227405312 : Int) < (((FltT.frung x) : Nat) : Int)))) (hf.ev rfl) (fun hqt15_1 => ?_) (fun hqt15_1 => ?_)
  · have hqt15_1b := hqt15_1
    try simp only [decide_eq_true_eq, Bool.and_eq_true, Bool.or_eq_true, Bool.not_eq_true', decide_eq_false_iff_not, ne_eq, Bool.not_eq_true] at hqt15_1
    refine wp_seq_k (fun K7 hK7 => ?_)
    refine wp_region_lit ?_
    refine sqv hf (r_assign rfl) rfl rfl rfl ?_; clear hf fa; intro fa hf
    apply wpList_nil
    (try simp only [Exit.then, Exit.inBlock, ↓reduceIte, Nat.reduceEqDiff])
    refine hK7 _ _ ?_
    refine wp_ret ?_
    (try simp only [Exit.then, Exit.inBlock])
    refine ret1 hf rfl rfl ?_
    refine ⟨?_, hb⟩
    (try unfold FltT.isNan at *)
    have hkc := kind_cases x
    unfold FltT.isNan at hkc
    rcases hkc with hkc | hkc | hkc | hkc | hkc | hkc | hkc
    all_goals first | exact congrArg (fun n => Ending.returned (.int .i64 n)) hkc.1.symm | (exfalso; clear hf hb; grind)
  · have hqt15_1b := hqt15_1
    replace hqt15_1 := Bool.eq_false_iff.1 hqt15_1
    try simp only [ne_eq, decide_eq_true_eq, Bool.and_eq_true, Bool.or_eq_true, Bool.not_eq_true', decide_eq_false_iff_not] at hqt15_1
    refine wp_skip ?_
    (try simp only [Exit.then, Exit.inBlock, ↓reduceIte, Nat.reduceEqDiff])
    refine hK5 _ _ ?_
    refine wp_seq_k (fun K8 hK8 => ?_)
    refine wp_region_lit ?_
    refine sqv hf (r_assign rfl) rfl rfl rfl ?_; clear hf fa; intro fa hf
    apply wpList_nil
    (try simp only [Exit.then, Exit.inBlock, ↓reduceIte, Nat.reduceEqDiff])
    refine hK8 _ _ ?_
    refine wp_seq_k (fun K9 hK9 => ?_)
    refine wp_seq_k (fun K10 hK10 => ?_)
    refine wp_region_lit ?_
    refine sqv hf (r_move rfl) rfl rfl rfl ?_; clear hf fa; intro fa hf
    refine sqv hf (r_eq rfl rfl) rfl rfl rfl ?_; clear hf fa; intro fa hf
    apply wpList_nil
    (try simp only [Exit.then, Exit.inBlock, ↓reduceIte, Nat.reduceEqDiff])
    refine hK10 _ _ ?_
    refine wp_cond_split (t := (decide ((((FltT.frung x) : Nat) : Int) = (0 : Int)))) (hf.ev rfl) (fun hqt17_1 => ?_) (fun hqt17_1 => ?_)
    · have hqt17_1b := hqt17_1
      try simp only [decide_eq_true_eq, Bool.and_eq_true, Bool.or_eq_true, Bool.not_eq_true', decide_eq_false_iff_not, ne_eq, Bool.not_eq_true] at hqt17_1
      refine wp_region_lit ?_
      refine sqv hf (r_assign rfl) rfl rfl rfl ?_; clear hf fa; intro fa hf
      apply wpList_nil
      (try simp only [Exit.then, Exit.inBlock, ↓reduceIte, Nat.reduceEqDiff])
      refine hK9 _ _ ?_
      refine wp_seq_k (fun K11 hK11 => ?_)
      refine wp_seq_k (fun K12 hK12 => ?_)
      refine wp_region_lit ?_
      refine sqv hf (r_move rfl) rfl rfl rfl ?_; clear hf fa; intro fa hf
      refine sqv hf (r_eq rfl rfl) rfl rfl rfl ?_; clear hf fa; intro fa hf
      apply wpList_nil
      (try simp only [Exit.then, Exit.inBlock, ↓reduceIte, Nat.reduceEqDiff])
      refine hK12 _ _ ?_
      refine wp_cond_split (t := (decide ((((FltT.frung x) : Nat) : Int) = (9218868437227405312 : Int)))) (hf.ev rfl) (fun hqt19_1 => ?_) (fun hqt19_1 => ?_)
      · have hqt19_1b := hqt19_1
        try simp only [decide_eq_true_eq, Bool.and_eq_true, Bool.or_eq_true, Bool.not_eq_true', decide_eq_false_iff_not, ne_eq, Bool.not_eq_true] at hqt19_1
        refine wp_region_lit ?_
        refine sqv hf (r_assign rfl) rfl rfl rfl ?_; clear hf fa; intro fa hf
        apply wpList_nil
        (try simp only [Exit.then, Exit.inBlock, ↓reduceIte, Nat.reduceEqDiff])
        refine hK11 _ _ ?_
        refine wp_seq_k (fun K13 hK13 => ?_)
        refine wp_seq_k (fun K14 hK14 => ?_)
        refine wp_region_lit ?_
        refine sqv hf (r_move rfl) rfl rfl rfl ?_; clear hf fa; intro fa hf
        apply wpList_nil
        (try simp only [Exit.then, Exit.inBlock, ↓reduceIte, Nat.reduceEqDiff])
        refine hK14 _ _ ?_
        refine wp_cond_split (t := (FltT.fneg x)) (hf.ev rfl) (fun hqt20_1 => ?_) (fun hqt20_1 => ?_)
        · have hqt20_1b := hqt20_1
          try simp only [decide_eq_true_eq, Bool.and_eq_true, Bool.or_eq_true, Bool.not_eq_true', decide_eq_false_iff_not, ne_eq, Bool.not_eq_true] at hqt20_1
          refine wp_seq_k (fun K15 hK15 => ?_)
          refine wp_region_lit ?_
          refine sqv hf (r_move rfl) rfl rfl rfl ?_; clear hf fa; intro fa hf
          refine sqv hf (r_sub (C := (1 : Int)) rfl rfl (by rw [IntKind.wrap_i64]; omega)) rfl rfl rfl ?_; clear hf fa; intro fa hf
          refine sqv hf (r_assign rfl) rfl rfl rfl ?_; clear hf fa; intro fa hf
          apply wpList_nil
          (try simp only [Exit.then, Exit.inBlock, ↓reduceIte, Nat.reduceEqDiff])
          refine hK15 _ _ ?_
          refine wp_ret ?_
          (try simp only [Exit.then, Exit.inBlock])
          refine ret1 hf rfl rfl ?_
          refine ⟨?_, hb⟩
          (try unfold FltT.isNan at *)
          have hkc := kind_cases x
          unfold FltT.isNan at hkc
          rcases hkc with hkc | hkc | hkc | hkc | hkc | hkc | hkc
          all_goals first | exact congrArg (fun n => Ending.returned (.int .i64 n)) hkc.1.symm | (exfalso; clear hf hb; grind)
        · have hqt20_1b := hqt20_1
          replace hqt20_1 := Bool.eq_false_iff.1 hqt20_1
          try simp only [ne_eq, decide_eq_true_eq, Bool.and_eq_true, Bool.or_eq_true, Bool.not_eq_true', decide_eq_false_iff_not] at hqt20_1
          refine wp_skip ?_
          (try simp only [Exit.then, Exit.inBlock, ↓reduceIte, Nat.reduceEqDiff])
          refine hK13 _ _ ?_
          refine wp_seq_k (fun K16 hK16 => ?_)
          refine wp_region_lit ?_
          refine sqv hf (r_move rfl) rfl rfl rfl ?_; clear hf fa; intro fa hf
          refine sqv hf (r_assign rfl) rfl rfl rfl ?_; clear hf fa; intro fa hf
          apply wpList_nil
          (try simp only [Exit.then, Exit.inBlock, ↓reduceIte, Nat.reduceEqDiff])
          refine hK16 _ _ ?_
          refine wp_ret ?_
          (try simp only [Exit.then, Exit.inBlock])
          refine ret1 hf rfl rfl ?_
          refine ⟨?_, hb⟩
          (try unfold FltT.isNan at *)
          have hkc := kind_cases x
          unfold FltT.isNan at hkc
          rcases hkc with hkc | hkc | hkc | hkc | hkc | hkc | hkc
          all_goals first | exact congrArg (fun n => Ending.returned (.int .i64 n)) hkc.1.symm | (exfalso; clear hf hb; grind)
      · have hqt19_1b := hqt19_1
        replace hqt19_1 := Bool.eq_false_iff.1 hqt19_1
        try simp only [ne_eq, decide_eq_true_eq, Bool.and_eq_true, Bool.or_eq_true, Bool.not_eq_true', decide_eq_false_iff_not] at hqt19_1
        refine wp_skip ?_
        (try simp only [Exit.then, Exit.inBlock, ↓reduceIte, Nat.reduceEqDiff])
        refine hK11 _ _ ?_
        refine wp_seq_k (fun K17 hK17 => ?_)
        refine wp_seq_k (fun K18 hK18 => ?_)
        refine wp_region_lit ?_
        refine sqv hf (r_move rfl) rfl rfl rfl ?_; clear hf fa; intro fa hf
        apply wpList_nil
        (try simp only [Exit.then, Exit.inBlock, ↓reduceIte, Nat.reduceEqDiff])
        refine hK18 _ _ ?_
        refine wp_cond_split (t := (FltT.fneg x)) (hf.ev rfl) (fun hqt20_2 => ?_) (fun hqt20_2 => ?_)
        · have hqt20_2b := hqt20_2
          try simp only [decide_eq_true_eq, Bool.and_eq_true, Bool.or_eq_true, Bool.not_eq_true', decide_eq_false_iff_not, ne_eq, Bool.not_eq_true] at hqt20_2
          refine wp_seq_k (fun K19 hK19 => ?_)
          refine wp_region_lit ?_
          refine sqv hf (r_move rfl) rfl rfl rfl ?_; clear hf fa; intro fa hf
          refine sqv hf (r_sub (C := (3 : Int)) rfl rfl (by rw [IntKind.wrap_i64]; omega)) rfl rfl rfl ?_; clear hf fa; intro fa hf
          refine sqv hf (r_assign rfl) rfl rfl rfl ?_; clear hf fa; intro fa hf
          apply wpList_nil
          (try simp only [Exit.then, Exit.inBlock, ↓reduceIte, Nat.reduceEqDiff])
          refine hK19 _ _ ?_
          refine wp_ret ?_
          (try simp only [Exit.then, Exit.inBlock])
          refine ret1 hf rfl rfl ?_
          refine ⟨?_, hb⟩
          (try unfold FltT.isNan at *)
          have hkc := kind_cases x
          unfold FltT.isNan at hkc
          rcases hkc with hkc | hkc | hkc | hkc | hkc | hkc | hkc
          all_goals first | exact congrArg (fun n => Ending.returned (.int .i64 n)) hkc.1.symm | (exfalso; clear hf hb; grind)
        · have hqt20_2b := hqt20_2
          replace hqt20_2 := Bool.eq_false_iff.1 hqt20_2
          try simp only [ne_eq, decide_eq_true_eq, Bool.and_eq_true, Bool.or_eq_true, Bool.not_eq_true', decide_eq_false_iff_not] at hqt20_2
          refine wp_skip ?_
          (try simp only [Exit.then, Exit.inBlock, ↓reduceIte, Nat.reduceEqDiff])
          refine hK17 _ _ ?_
          refine wp_seq_k (fun K20 hK20 => ?_)
          refine wp_region_lit ?_
          refine sqv hf (r_move rfl) rfl rfl rfl ?_; clear hf fa; intro fa hf
          refine sqv hf (r_assign rfl) rfl rfl rfl ?_; clear hf fa; intro fa hf
          apply wpList_nil
          (try simp only [Exit.then, Exit.inBlock, ↓reduceIte, Nat.reduceEqDiff])
          refine hK20 _ _ ?_
          refine wp_ret ?_
          (try simp only [Exit.then, Exit.inBlock])
          refine ret1 hf rfl rfl ?_
          refine ⟨?_, hb⟩
          (try unfold FltT.isNan at *)
          have hkc := kind_cases x
          unfold FltT.isNan at hkc
          rcases hkc with hkc | hkc | hkc | hkc | hkc | hkc | hkc
          all_goals first | exact congrArg (fun n => Ending.returned (.int .i64 n)) hkc.1.symm | (exfalso; clear hf hb; grind)
    · have hqt17_1b := hqt17_1
      replace hqt17_1 := Bool.eq_false_iff.1 hqt17_1
      try simp only [ne_eq, decide_eq_true_eq, Bool.and_eq_true, Bool.or_eq_true, Bool.not_eq_true', decide_eq_false_iff_not] at hqt17_1
      refine wp_skip ?_
      (try simp only [Exit.then, Exit.inBlock, ↓reduceIte, Nat.reduceEqDiff])
      refine hK9 _ _ ?_
      refine wp_seq_k (fun K21 hK21 => ?_)
      refine wp_seq_k (fun K22 hK22 => ?_)
      refine wp_region_lit ?_
      refine sqv hf (r_move rfl) rfl rfl rfl ?_; clear hf fa; intro fa hf
      refine sqv hf (r_eq rfl rfl) rfl rfl rfl ?_; clear hf fa; intro fa hf
      apply wpList_nil
      (try simp only [Exit.then, Exit.inBlock, ↓reduceIte, Nat.reduceEqDiff])
      refine hK22 _ _ ?_
      refine wp_cond_split (t := (decide ((((FltT.frung x) : Nat) : Int) = (9218868437227405312 : Int)))) (hf.ev rfl) (fun hqt19_2 => ?_) (fun hqt19_2 => ?_)
      · have hqt19_2b := hqt19_2
        try simp only [decide_eq_true_eq, Bool.and_eq_true, Bool.or_eq_true, Bool.not_eq_true', decide_eq_false_iff_not, ne_eq, Bool.not_eq_true] at hqt19_2
        refine wp_region_lit ?_
        refine sqv hf (r_assign rfl) rfl rfl rfl ?_; clear hf fa; intro fa hf
        apply wpList_nil
        (try simp only [Exit.then, Exit.inBlock, ↓reduceIte, Nat.reduceEqDiff])
        refine hK21 _ _ ?_
        refine wp_seq_k (fun K23 hK23 => ?_)
        refine wp_seq_k (fun K24 hK24 => ?_)
        refine wp_region_lit ?_
        refine sqv hf (r_move rfl) rfl rfl rfl ?_; clear hf fa; intro fa hf
        apply wpList_nil
        (try simp only [Exit.then, Exit.inBlock, ↓reduceIte, Nat.reduceEqDiff])
        refine hK24 _ _ ?_
        refine wp_cond_split (t := (FltT.fneg x)) (hf.ev rfl) (fun hqt20_3 => ?_) (fun hqt20_3 => ?_)
        · have hqt20_3b := hqt20_3
          try simp only [decide_eq_true_eq, Bool.and_eq_true, Bool.or_eq_true, Bool.not_eq_true', decide_eq_false_iff_not, ne_eq, Bool.not_eq_true] at hqt20_3
          refine wp_seq_k (fun K25 hK25 => ?_)
          refine wp_region_lit ?_
          refine sqv hf (r_move rfl) rfl rfl rfl ?_; clear hf fa; intro fa hf
          refine sqv hf (r_sub (C := (1 : Int)) rfl rfl (by rw [IntKind.wrap_i64]; omega)) rfl rfl rfl ?_; clear hf fa; intro fa hf
          refine sqv hf (r_assign rfl) rfl rfl rfl ?_; clear hf fa; intro fa hf
          apply wpList_nil
          (try simp only [Exit.then, Exit.inBlock, ↓reduceIte, Nat.reduceEqDiff])
          refine hK25 _ _ ?_
          refine wp_ret ?_
          (try simp only [Exit.then, Exit.inBlock])
          refine ret1 hf rfl rfl ?_
          refine ⟨?_, hb⟩
          (try unfold FltT.isNan at *)
          have hkc := kind_cases x
          unfold FltT.isNan at hkc
          rcases hkc with hkc | hkc | hkc | hkc | hkc | hkc | hkc
          all_goals first | exact congrArg (fun n => Ending.returned (.int .i64 n)) hkc.1.symm | (exfalso; clear hf hb; grind)
        · have hqt20_3b := hqt20_3
          replace hqt20_3 := Bool.eq_false_iff.1 hqt20_3
          try simp only [ne_eq, decide_eq_true_eq, Bool.and_eq_true, Bool.or_eq_true, Bool.not_eq_true', decide_eq_false_iff_not] at hqt20_3
          refine wp_skip ?_
          (try simp only [Exit.then, Exit.inBlock, ↓reduceIte, Nat.reduceEqDiff])
          refine hK23 _ _ ?_
          refine wp_seq_k (fun K26 hK26 => ?_)
          refine wp_region_lit ?_
          refine sqv hf (r_move rfl) rfl rfl rfl ?_; clear hf fa; intro fa hf
          refine sqv hf (r_assign rfl) rfl rfl rfl ?_; clear hf fa; intro fa hf
          apply wpList_nil
          (try simp only [Exit.then, Exit.inBlock, ↓reduceIte, Nat.reduceEqDiff])
          refine hK26 _ _ ?_
          refine wp_ret ?_
          (try simp only [Exit.then, Exit.inBlock])
          refine ret1 hf rfl rfl ?_
          refine ⟨?_, hb⟩
          (try unfold FltT.isNan at *)
          have hkc := kind_cases x
          unfold FltT.isNan at hkc
          rcases hkc with hkc | hkc | hkc | hkc | hkc | hkc | hkc
          all_goals first | exact congrArg (fun n => Ending.returned (.int .i64 n)) hkc.1.symm | (exfalso; clear hf hb; grind)
      · have hqt19_2b := hqt19_2
        replace hqt19_2 := Bool.eq_false_iff.1 hqt19_2
        try simp only [ne_eq, decide_eq_true_eq, Bool.and_eq_true, Bool.or_eq_true, Bool.not_eq_true', decide_eq_false_iff_not] at hqt19_2
        refine wp_skip ?_
        (try simp only [Exit.then, Exit.inBlock, ↓reduceIte, Nat.reduceEqDiff])
        refine hK21 _ _ ?_
        refine wp_seq_k (fun K27 hK27 => ?_)
        refine wp_seq_k (fun K28 hK28 => ?_)
        refine wp_region_lit ?_
        refine sqv hf (r_move rfl) rfl rfl rfl ?_; clear hf fa; intro fa hf
        apply wpList_nil
        (try simp only [Exit.then, Exit.inBlock, ↓reduceIte, Nat.reduceEqDiff])
        refine hK28 _ _ ?_
        refine wp_cond_split (t := (FltT.fneg x)) (hf.ev rfl) (fun hqt20_4 => ?_) (fun hqt20_4 => ?_)
        · have hqt20_4b := hqt20_4
          try simp only [decide_eq_true_eq, Bool.and_eq_true, Bool.or_eq_true, Bool.not_eq_true', decide_eq_false_iff_not, ne_eq, Bool.not_eq_true] at hqt20_4
          refine wp_seq_k (fun K29 hK29 => ?_)
          refine wp_region_lit ?_
          refine sqv hf (r_move rfl) rfl rfl rfl ?_; clear hf fa; intro fa hf
          refine sqv hf (r_sub (C := (2 : Int)) rfl rfl (by rw [IntKind.wrap_i64]; omega)) rfl rfl rfl ?_; clear hf fa; intro fa hf
          refine sqv hf (r_assign rfl) rfl rfl rfl ?_; clear hf fa; intro fa hf
          apply wpList_nil
          (try simp only [Exit.then, Exit.inBlock, ↓reduceIte, Nat.reduceEqDiff])
          refine hK29 _ _ ?_
          refine wp_ret ?_
          (try simp only [Exit.then, Exit.inBlock])
          refine ret1 hf rfl rfl ?_
          refine ⟨?_, hb⟩
          (try unfold FltT.isNan at *)
          have hkc := kind_cases x
          unfold FltT.isNan at hkc
          rcases hkc with hkc | hkc | hkc | hkc | hkc | hkc | hkc
          all_goals first | exact congrArg (fun n => Ending.returned (.int .i64 n)) hkc.1.symm | (exfalso; clear hf hb; grind)
        · have hqt20_4b := hqt20_4
          replace hqt20_4 := Bool.eq_false_iff.1 hqt20_4
          try simp only [ne_eq, decide_eq_true_eq, Bool.and_eq_true, Bool.or_eq_true, Bool.not_eq_true', decide_eq_false_iff_not] at hqt20_4
          refine wp_skip ?_
          (try simp only [Exit.then, Exit.inBlock, ↓reduceIte, Nat.reduceEqDiff])
          refine hK27 _ _ ?_
          refine wp_seq_k (fun K30 hK30 => ?_)
          refine wp_region_lit ?_
          refine sqv hf (r_move rfl) rfl rfl rfl ?_; clear hf fa; intro fa hf
          refine sqv hf (r_assign rfl) rfl rfl rfl ?_; clear hf fa; intro fa hf
          apply wpList_nil
          (try simp only [Exit.then, Exit.inBlock, ↓reduceIte, Nat.reduceEqDiff])
          refine hK30 _ _ ?_
          refine wp_ret ?_
          (try simp only [Exit.then, Exit.inBlock])
          refine ret1 hf rfl rfl ?_
          refine ⟨?_, hb⟩
          (try unfold FltT.isNan at *)
          have hkc := kind_cases x
          unfold FltT.isNan at hkc
          rcases hkc with hkc | hkc | hkc | hkc | hkc | hkc | hkc
          all_goals first | exact congrArg (fun n => Ending.returned (.int .i64 n)) hkc.1.symm | (exfalso; clear hf hb; grind)

set_option maxHeartbeats 1000000 in
set_option maxRecDepth 100000 in
theorem order_any (x y : Nat) (hx : x < 18446744073709551616) (hy : y < 18446744073709551616) (w : World) : Calls Try.prog 9 #[(.float .f64 x), (.float .f64 y)] w fun e w' => e = .returned (.int .i64 (ordN x y)) ∧ Below w.heap.size w w' := by
  refine sx_enter (L := [(0, (.float .f64 x)), (1, (.float .f64 y))]) Try.func9 rfl rfl rfl rfl (fun fa hf => ?_)
  have hb : Below w.heap.size w w := Below.refl _ _
  refine wp_seq_k (fun K1 hK1 => ?_)
  refine wp_region_lit ?_
  refine sqv hf (r_assign rfl) rfl rfl rfl ?_; clear hf fa; intro fa hf
  apply wpList_nil
  (try simp only [Exit.then, Exit.inBlock, ↓reduceIte, Nat.reduceEqDiff])
  refine hK1 _ _ ?_
  refine wp_seq_k (fun K2 hK2 => ?_)
  refine wp_seq_k (fun K3 hK3 => ?_)
  have hkx := kind_lt x
  have hky := kind_lt y
  refine wp_region_lit ?_
  refine sqv hf (r_move rfl) rfl rfl rfl ?_; clear hf fa; intro fa hf
  refine sqdt hf (d_callB (vs := [(.float .f64 x)]) rfl Try.func7 (by kernel_rfl) (by kernel_rfl) (kind_any x (by first | assumption | omega) _)) rfl rfl rfl ?_; clear hf fa; rintro fa _ w1 ⟨rfl, he1⟩ hf
  replace hb := hb.trans (Below.mono he1 hb.size)
  refine sqv hf (r_move rfl) rfl rfl rfl ?_; clear hf fa; intro fa hf
  refine sqdt hf (d_callB (vs := [(.float .f64 y)]) rfl Try.func7 (by kernel_rfl) (by kernel_rfl) (kind_any y (by first | assumption | omega) _)) rfl rfl rfl ?_; clear hf fa; rintro fa _ w2 ⟨rfl, he2⟩ hf
  replace hb := hb.trans (Below.mono he2 hb.size)
  refine sqv hf (r_sub (C := ((kindN x) - (kindN y))) rfl rfl (by rw [IntKind.wrap_i64]; omega)) rfl rfl rfl ?_; clear hf fa; intro fa hf
  refine sqv hf (r_assign rfl) rfl rfl rfl ?_; clear hf fa; intro fa hf
  apply wpList_nil
  (try simp only [Exit.then, Exit.inBlock, ↓reduceIte, Nat.reduceEqDiff])
  refine hK3 _ _ ?_
  refine wp_seq_k (fun K4 hK4 => ?_)
  refine wp_region_lit ?_
  refine sqv hf (r_move rfl) rfl rfl rfl ?_; clear hf fa; intro fa hf
  refine sqv hf (r_ne rfl rfl) rfl rfl rfl ?_; clear hf fa; intro fa hf
  apply wpList_nil
  (try simp only [Exit.then, Exit.inBlock, ↓reduceIte, Nat.reduceEqDiff])
  refine hK4 _ _ ?_
  refine wp_cond_split (t := (decide (((kindN x) - (kindN y)) ≠ (0 : Int)))) (hf.ev rfl) (fun hqt12_1 => ?_) (fun hqt12_1 => ?_)
  · have hqt12_1b := hqt12_1
    try simp only [decide_eq_true_eq, Bool.and_eq_true, Bool.or_eq_true, Bool.not_eq_true', decide_eq_false_iff_not, ne_eq, Bool.not_eq_true] at hqt12_1
    refine wp_seq_k (fun K5 hK5 => ?_)
    refine wp_region_lit ?_
    refine sqv hf (r_move rfl) rfl rfl rfl ?_; clear hf fa; intro fa hf
    refine sqv hf (r_move rfl) rfl rfl rfl ?_; clear hf fa; intro fa hf
    refine sqv hf (r_move rfl) rfl rfl rfl ?_; clear hf fa; intro fa hf
    refine sqv hf (r_neg (C := ((0 : Int) - ((kindN x) - (kindN y)))) rfl (by rw [IntKind.wrap_i64]; omega)) rfl rfl rfl ?_; clear hf fa; intro fa hf
    refine sqv hf (r_max rfl rfl) rfl rfl rfl ?_; clear hf fa; intro fa hf
    refine sqv hf (r_quo (C := ((if kindN x - kindN y < 0 then (-1 : Int) else 1))) rfl rfl (by omega) (sgn_div (by omega) (by omega) (by omega))) rfl rfl rfl ?_; clear hf fa; intro fa hf
    refine sqv hf (r_assign rfl) rfl rfl rfl ?_; clear hf fa; intro fa hf
    apply wpList_nil
    (try simp only [Exit.then, Exit.inBlock, ↓reduceIte, Nat.reduceEqDiff])
    refine hK5 _ _ ?_
    refine wp_ret ?_
    (try simp only [Exit.then, Exit.inBlock])
    refine ret1 hf rfl rfl ?_
    refine ⟨congrArg (fun n => Ending.returned (.int .i64 n)) ?_, hb⟩
    have hr1 := ord_range x y
    have hr2 := @ord_ref0 x y
    have hr3 := @ord_lt x y
    have hr4 := @ord_gt x y
    clear hf hb
    grind
  · have hqt12_1b := hqt12_1
    replace hqt12_1 := Bool.eq_false_iff.1 hqt12_1
    try simp only [ne_eq, decide_eq_true_eq, Bool.and_eq_true, Bool.or_eq_true, Bool.not_eq_true', decide_eq_false_iff_not] at hqt12_1
    refine wp_skip ?_
    (try simp only [Exit.then, Exit.inBlock, ↓reduceIte, Nat.reduceEqDiff])
    refine hK2 _ _ ?_
    refine wp_seq_k (fun K6 hK6 => ?_)
    refine wp_block ?_
    refine wp_seq_k (fun K7 hK7 => ?_)
    refine wp_region_lit ?_
    refine sqv hf (r_move rfl) rfl rfl rfl ?_; clear hf fa; intro fa hf
    refine sqv hf (r_move rfl) rfl rfl rfl ?_; clear hf fa; intro fa hf
    refine sqv hf (Runs.veq (r_flss rfl rfl) (congrArg Value.bool (show _ = (decide (ordN x y < 0)) from (flss_kind (by omega))))) rfl rfl rfl ?_; clear hf fa; intro fa hf
    refine sqv hf (r_assign rfl) rfl rfl rfl ?_; clear hf fa; intro fa hf
    apply wpList_nil
    (try simp only [Exit.then, Exit.inBlock, ↓reduceIte, Nat.reduceEqDiff])
    refine hK7 _ _ ?_
    refine wp_cond_split (t := (decide (ordN x y < 0))) (hf.ev rfl) (fun hqt19_1 => ?_) (fun hqt19_1 => ?_)
    · have hqt19_1b := hqt19_1
      try simp only [decide_eq_true_eq, Bool.and_eq_true, Bool.or_eq_true, Bool.not_eq_true', decide_eq_false_iff_not, ne_eq, Bool.not_eq_true] at hqt19_1
      refine wp_seq_k (fun K8 hK8 => ?_)
      refine wp_region_lit ?_
      refine sqv hf (r_assign rfl) rfl rfl rfl ?_; clear hf fa; intro fa hf
      apply wpList_nil
      (try simp only [Exit.then, Exit.inBlock, ↓reduceIte, Nat.reduceEqDiff])
      refine hK8 _ _ ?_
      refine wp_ret ?_
      (try simp only [Exit.then, Exit.inBlock])
      refine ret1 hf rfl rfl ?_
      refine ⟨congrArg (fun n => Ending.returned (.int .i64 n)) ?_, hb⟩
      have hr1 := ord_range x y
      have hr2 := @ord_ref0 x y
      have hr3 := @ord_lt x y
      have hr4 := @ord_gt x y
      clear hf hb
      grind
    · have hqt19_1b := hqt19_1
      replace hqt19_1 := Bool.eq_false_iff.1 hqt19_1
      try simp only [ne_eq, decide_eq_true_eq, Bool.and_eq_true, Bool.or_eq_true, Bool.not_eq_true', decide_eq_false_iff_not] at hqt19_1
      refine wp_seq_k (fun K9 hK9 => ?_)
      refine wp_region_lit ?_
      refine sqv hf (r_move rfl) rfl rfl rfl ?_; clear hf fa; intro fa hf
      refine sqv hf (r_move rfl) rfl rfl rfl ?_; clear hf fa; intro fa hf
      refine sqv hf (Runs.veq (r_fgtr rfl rfl) (congrArg Value.bool (show _ = (decide (0 < ordN x y)) from (fgtr_kind (by omega))))) rfl rfl rfl ?_; clear hf fa; intro fa hf
      refine sqv hf (r_assign rfl) rfl rfl rfl ?_; clear hf fa; intro fa hf
      apply wpList_nil
      (try simp only [Exit.then, Exit.inBlock, ↓reduceIte, Nat.reduceEqDiff])
      refine hK9 _ _ ?_
      refine wp_cond_split (t := (decide (0 < ordN x y))) (hf.ev rfl) (fun hqt23_1 => ?_) (fun hqt23_1 => ?_)
      · have hqt23_1b := hqt23_1
        try simp only [decide_eq_true_eq, Bool.and_eq_true, Bool.or_eq_true, Bool.not_eq_true', decide_eq_false_iff_not, ne_eq, Bool.not_eq_true] at hqt23_1
        refine wp_seq_k (fun K10 hK10 => ?_)
        refine wp_region_lit ?_
        refine sqv hf (r_assign rfl) rfl rfl rfl ?_; clear hf fa; intro fa hf
        apply wpList_nil
        (try simp only [Exit.then, Exit.inBlock, ↓reduceIte, Nat.reduceEqDiff])
        refine hK10 _ _ ?_
        refine wp_ret ?_
        (try simp only [Exit.then, Exit.inBlock])
        refine ret1 hf rfl rfl ?_
        refine ⟨congrArg (fun n => Ending.returned (.int .i64 n)) ?_, hb⟩
        have hr1 := ord_range x y
        have hr2 := @ord_ref0 x y
        have hr3 := @ord_lt x y
        have hr4 := @ord_gt x y
        clear hf hb
        grind
      · have hqt23_1b := hqt23_1
        replace hqt23_1 := Bool.eq_false_iff.1 hqt23_1
        try simp only [ne_eq, decide_eq_true_eq, Bool.and_eq_true, Bool.or_eq_true, Bool.not_eq_true', decide_eq_false_iff_not] at hqt23_1
        refine wp_skip ?_
        (try simp only [Exit.then, Exit.inBlock, ↓reduceIte, Nat.reduceEqDiff])
        refine hK6 _ _ ?_
        refine wp_seq_k (fun K11 hK11 => ?_)
        refine wp_region_lit ?_
        refine sqv hf (r_assign rfl) rfl rfl rfl ?_; clear hf fa; intro fa hf
        apply wpList_nil
        (try simp only [Exit.then, Exit.inBlock, ↓reduceIte, Nat.reduceEqDiff])
        refine hK11 _ _ ?_
        refine wp_ret ?_
        (try simp only [Exit.then, Exit.inBlock])
        refine ret1 hf rfl rfl ?_
        refine ⟨congrArg (fun n => Ending.returned (.int .i64 n)) ?_, hb⟩
        have hr1 := ord_range x y
        have hr2 := @ord_ref0 x y
        have hr3 := @ord_lt x y
        have hr4 := @ord_gt x y
        clear hf hb
        grind

set_option maxHeartbeats 1000000 in
set_option maxRecDepth 100000 in
theorem rorder_any (x y : Nat) (hx : x < 18446744073709551616) (hy : y < 18446744073709551616) (w : World) : Calls Try.prog 10 #[(.float .f64 x), (.float .f64 y)] w fun e w' => e = .returned (.int .i64 (ordN x y)) ∧ Below w.heap.size w w' := by
  refine sx_enter (L := [(0, (.float .f64 x)), (1, (.float .f64 y))]) Try.func10 rfl rfl rfl rfl (fun fa hf => ?_)
  have hb : Below w.heap.size w w := Below.refl _ _
  refine wp_seq_k (fun K1 hK1 => ?_)
  refine wp_region_lit ?_
  refine sqv hf (r_assign rfl) rfl rfl rfl ?_; clear hf fa; intro fa hf
  apply wpList_nil
  (try simp only [Exit.then, Exit.inBlock, ↓reduceIte, Nat.reduceEqDiff])
  refine hK1 _ _ ?_
  refine wp_seq_k (fun K2 hK2 => ?_)
  have hkx := kind_lt x
  have hky := kind_lt y
  refine wp_region_lit ?_
  refine sqv hf (r_move rfl) rfl rfl rfl ?_; clear hf fa; intro fa hf
  refine sqdt hf (d_callB (vs := [(.float .f64 x)]) rfl Try.func8 (by kernel_rfl) (by kernel_rfl) (rkind_any x (by first | assumption | omega) _)) rfl rfl rfl ?_; clear hf fa; rintro fa _ w1 ⟨rfl, he1⟩ hf
  replace hb := hb.trans (Below.mono he1 hb.size)
  refine sqv hf (r_move rfl) rfl rfl rfl ?_; clear hf fa; intro fa hf
  refine sqdt hf (d_callB (vs := [(.float .f64 y)]) rfl Try.func8 (by kernel_rfl) (by kernel_rfl) (rkind_any y (by first | assumption | omega) _)) rfl rfl rfl ?_; clear hf fa; rintro fa _ w2 ⟨rfl, he2⟩ hf
  replace hb := hb.trans (Below.mono he2 hb.size)
  refine sqv hf (r_assign rfl) rfl rfl rfl ?_; clear hf fa; intro fa hf
  refine sqv hf (r_assign rfl) rfl rfl rfl ?_; clear hf fa; intro fa hf
  apply wpList_nil
  (try simp only [Exit.then, Exit.inBlock, ↓reduceIte, Nat.reduceEqDiff])
  refine hK2 _ _ ?_
  refine wp_seq_k (fun K3 hK3 => ?_)
  refine wp_seq_k (fun K4 hK4 => ?_)
  refine wp_region_lit ?_
  refine sqv hf (r_move rfl) rfl rfl rfl ?_; clear hf fa; intro fa hf
  refine sqv hf (r_move rfl) rfl rfl rfl ?_; clear hf fa; intro fa hf
  refine sqv hf (r_eq rfl rfl) rfl rfl rfl ?_; clear hf fa; intro fa hf
  refine sqv hf (r_move rfl) rfl rfl rfl ?_; clear hf fa; intro fa hf
  refine sqgT (act := (decide ((kindN x) = (kindN y)))) (ag := true) (c := (decide ((kindN x) = (kindN y)))) (v := (.int .i64 (kindN x))) hf rfl rfl rfl (fun hact => (r_move rfl)) rfl rfl ?_; clear hf fa; intro fa hf
  refine sqgT (act := (decide ((kindN x) = (kindN y)))) (ag := true) (c := (decide ((kindN x) = (kindN y)))) (v := (.bool (decide ((kindN x) ≠ (2 : Int))))) hf rfl rfl rfl (fun hact => (r_ne (gb_ev hact rfl) rfl)) rfl rfl ?_; clear hf fa; intro fa hf
  refine sqv hf (r_pickA (b := (decide ((kindN x) = (kindN y)))) (e := (decide ((kindN x) ≠ (2 : Int)))) rfl rfl rfl) rfl rfl rfl ?_; clear hf fa; intro fa hf
  refine sqv hf (r_move rfl) rfl rfl rfl ?_; clear hf fa; intro fa hf
  refine sqgT (act := ((decide ((kindN x) = (kindN y))) && (decide ((kindN x) ≠ (2 : Int))))) (ag := true) (c := ((decide ((kindN x) = (kindN y))) && (decide ((kindN x) ≠ (2 : Int))))) (v := (.int .i64 (kindN x))) hf rfl rfl rfl (fun hact => (r_move rfl)) rfl rfl ?_; clear hf fa; intro fa hf
  refine sqgT (act := ((decide ((kindN x) = (kindN y))) && (decide ((kindN x) ≠ (2 : Int))))) (ag := true) (c := ((decide ((kindN x) = (kindN y))) && (decide ((kindN x) ≠ (2 : Int))))) (v := (.bool (decide ((kindN x) ≠ (5 : Int))))) hf rfl rfl rfl (fun hact => (r_ne (gb_ev hact rfl) rfl)) rfl rfl ?_; clear hf fa; intro fa hf
  refine sqv hf (r_pickA (b := ((decide ((kindN x) = (kindN y))) && (decide ((kindN x) ≠ (2 : Int))))) (e := (decide ((kindN x) ≠ (5 : Int)))) rfl rfl rfl) rfl rfl rfl ?_; clear hf fa; intro fa hf
  apply wpList_nil
  (try simp only [Exit.then, Exit.inBlock, ↓reduceIte, Nat.reduceEqDiff])
  refine hK4 _ _ ?_
  refine wp_cond_split (t := (((decide ((kindN x) = (kindN y))) && (decide ((kindN x) ≠ (2 : Int)))) && (decide ((kindN x) ≠ (5 : Int))))) (hf.ev rfl) (fun hqt23_1 => ?_) (fun hqt23_1 => ?_)
  · have hqt23_1b := hqt23_1
    try simp only [decide_eq_true_eq, Bool.and_eq_true, Bool.or_eq_true, Bool.not_eq_true', decide_eq_false_iff_not, ne_eq, Bool.not_eq_true] at hqt23_1
    refine wp_seq_k (fun K5 hK5 => ?_)
    refine wp_region_lit ?_
    refine sqv hf (r_assign rfl) rfl rfl rfl ?_; clear hf fa; intro fa hf
    apply wpList_nil
    (try simp only [Exit.then, Exit.inBlock, ↓reduceIte, Nat.reduceEqDiff])
    refine hK5 _ _ ?_
    refine wp_ret ?_
    (try simp only [Exit.then, Exit.inBlock])
    refine ret1 hf rfl rfl ?_
    refine ⟨congrArg (fun n => Ending.returned (.int .i64 n)) ?_, hb⟩
    have hr1 := ord_range x y
    have hr2 := @ord_ref0 x y
    have hr3 := @ord_lt x y
    have hr4 := @ord_gt x y
    have hr5 := @ord_ref x y hx hy
    clear hf hb
    grind
  · have hqt23_1b := hqt23_1
    replace hqt23_1 := Bool.eq_false_iff.1 hqt23_1
    try simp only [ne_eq, decide_eq_true_eq, Bool.and_eq_true, Bool.or_eq_true, Bool.not_eq_true', decide_eq_false_iff_not] at hqt23_1
    refine wp_skip ?_
    (try simp only [Exit.then, Exit.inBlock, ↓reduceIte, Nat.reduceEqDiff])
    refine hK3 _ _ ?_
    refine wp_seq_k (fun K6 hK6 => ?_)
    refine wp_seq_k (fun K7 hK7 => ?_)
    refine wp_region_lit ?_
    refine sqv hf (r_move rfl) rfl rfl rfl ?_; clear hf fa; intro fa hf
    refine sqv hf (r_move rfl) rfl rfl rfl ?_; clear hf fa; intro fa hf
    refine sqv hf (r_lt rfl rfl) rfl rfl rfl ?_; clear hf fa; intro fa hf
    apply wpList_nil
    (try simp only [Exit.then, Exit.inBlock, ↓reduceIte, Nat.reduceEqDiff])
    refine hK7 _ _ ?_
    refine wp_cond_split (t := (decide ((kindN x) < (kindN y)))) (hf.ev rfl) (fun hqt26_1 => ?_) (fun hqt26_1 => ?_)
    · have hqt26_1b := hqt26_1
      try simp only [decide_eq_true_eq, Bool.and_eq_true, Bool.or_eq_true, Bool.not_eq_true', decide_eq_false_iff_not, ne_eq, Bool.not_eq_true] at hqt26_1
      refine wp_seq_k (fun K8 hK8 => ?_)
      refine wp_region_lit ?_
      refine sqv hf (r_assign rfl) rfl rfl rfl ?_; clear hf fa; intro fa hf
      apply wpList_nil
      (try simp only [Exit.then, Exit.inBlock, ↓reduceIte, Nat.reduceEqDiff])
      refine hK8 _ _ ?_
      refine wp_ret ?_
      (try simp only [Exit.then, Exit.inBlock])
      refine ret1 hf rfl rfl ?_
      refine ⟨congrArg (fun n => Ending.returned (.int .i64 n)) ?_, hb⟩
      have hr1 := ord_range x y
      have hr2 := @ord_ref0 x y
      have hr3 := @ord_lt x y
      have hr4 := @ord_gt x y
      have hr5 := @ord_ref x y hx hy
      clear hf hb
      grind
    · have hqt26_1b := hqt26_1
      replace hqt26_1 := Bool.eq_false_iff.1 hqt26_1
      try simp only [ne_eq, decide_eq_true_eq, Bool.and_eq_true, Bool.or_eq_true, Bool.not_eq_true', decide_eq_false_iff_not] at hqt26_1
      refine wp_skip ?_
      (try simp only [Exit.then, Exit.inBlock, ↓reduceIte, Nat.reduceEqDiff])
      refine hK6 _ _ ?_
      refine wp_seq_k (fun K9 hK9 => ?_)
      refine wp_seq_k (fun K10 hK10 => ?_)
      refine wp_region_lit ?_
      refine sqv hf (r_move rfl) rfl rfl rfl ?_; clear hf fa; intro fa hf
      refine sqv hf (r_move rfl) rfl rfl rfl ?_; clear hf fa; intro fa hf
      refine sqv hf (r_gt rfl rfl) rfl rfl rfl ?_; clear hf fa; intro fa hf
      apply wpList_nil
      (try simp only [Exit.then, Exit.inBlock, ↓reduceIte, Nat.reduceEqDiff])
      refine hK10 _ _ ?_
      refine wp_cond_split (t := (decide ((kindN y) < (kindN x)))) (hf.ev rfl) (fun hqt29_1 => ?_) (fun hqt29_1 => ?_)
      · have hqt29_1b := hqt29_1
        try simp only [decide_eq_true_eq, Bool.and_eq_true, Bool.or_eq_true, Bool.not_eq_true', decide_eq_false_iff_not, ne_eq, Bool.not_eq_true] at hqt29_1
        refine wp_seq_k (fun K11 hK11 => ?_)
        refine wp_region_lit ?_
        refine sqv hf (r_assign rfl) rfl rfl rfl ?_; clear hf fa; intro fa hf
        apply wpList_nil
        (try simp only [Exit.then, Exit.inBlock, ↓reduceIte, Nat.reduceEqDiff])
        refine hK11 _ _ ?_
        refine wp_ret ?_
        (try simp only [Exit.then, Exit.inBlock])
        refine ret1 hf rfl rfl ?_
        refine ⟨congrArg (fun n => Ending.returned (.int .i64 n)) ?_, hb⟩
        have hr1 := ord_range x y
        have hr2 := @ord_ref0 x y
        have hr3 := @ord_lt x y
        have hr4 := @ord_gt x y
        have hr5 := @ord_ref x y hx hy
        clear hf hb
        grind
      · have hqt29_1b := hqt29_1
        replace hqt29_1 := Bool.eq_false_iff.1 hqt29_1
        try simp only [ne_eq, decide_eq_true_eq, Bool.and_eq_true, Bool.or_eq_true, Bool.not_eq_true', decide_eq_false_iff_not] at hqt29_1
        refine wp_skip ?_
        (try simp only [Exit.then, Exit.inBlock, ↓reduceIte, Nat.reduceEqDiff])
        refine hK9 _ _ ?_
        refine wp_seq_k (fun K12 hK12 => ?_)
        refine wp_region_lit ?_
        refine sqv hf (r_move rfl) rfl rfl rfl ?_; clear hf fa; intro fa hf
        refine sqv hf (d_extern (ent := Extern.MathFloatBits.float64bits) (v := .int .u64 ((x : Nat) : Int)) (vs := [(.float .f64 x)]) rfl Try.func30 (by kernel_rfl) (by kernel_rfl) (by kernel_rfl) (by kernel_rfl) (by rfl)) rfl rfl rfl ?_; clear hf fa; intro fa hf
        refine sqv hf (r_move rfl) rfl rfl rfl ?_; clear hf fa; intro fa hf
        refine sqv hf (d_extern (ent := Extern.MathFloatBits.float64bits) (v := .int .u64 ((y : Nat) : Int)) (vs := [(.float .f64 y)]) rfl Try.func30 (by kernel_rfl) (by kernel_rfl) (by kernel_rfl) (by kernel_rfl) (by rfl)) rfl rfl rfl ?_; clear hf fa; intro fa hf
        refine sqv hf (r_assign rfl) rfl rfl rfl ?_; clear hf fa; intro fa hf
        refine sqv hf (r_assign rfl) rfl rfl rfl ?_; clear hf fa; intro fa hf
        apply wpList_nil
        (try simp only [Exit.then, Exit.inBlock, ↓reduceIte, Nat.reduceEqDiff])
        refine hK12 _ _ ?_
        refine wp_seq_k (fun K13 hK13 => ?_)
        refine wp_seq_k (fun K14 hK14 => ?_)
        refine wp_region_lit ?_
        refine sqv hf (r_move rfl) rfl rfl rfl ?_; clear hf fa; intro fa hf
        refine sqv hf (r_move rfl) rfl rfl rfl ?_; clear hf fa; intro fa hf
        refine sqv hf (r_eq rfl rfl) rfl rfl rfl ?_; clear hf fa; intro fa hf
        apply wpList_nil
        (try simp only [Exit.then, Exit.inBlock, ↓reduceIte, Nat.reduceEqDiff])
        refine hK14 _ _ ?_
        refine wp_cond_split (t := (decide (((x : Nat) : Int) = ((y : Nat) : Int)))) (hf.ev rfl) (fun hqt36_1 => ?_) (fun hqt36_1 => ?_)
        · have hqt36_1b := hqt36_1
          try simp only [decide_eq_true_eq, Bool.and_eq_true, Bool.or_eq_true, Bool.not_eq_true', decide_eq_false_iff_not, ne_eq, Bool.not_eq_true] at hqt36_1
          refine wp_seq_k (fun K15 hK15 => ?_)
          refine wp_region_lit ?_
          refine sqv hf (r_assign rfl) rfl rfl rfl ?_; clear hf fa; intro fa hf
          apply wpList_nil
          (try simp only [Exit.then, Exit.inBlock, ↓reduceIte, Nat.reduceEqDiff])
          refine hK15 _ _ ?_
          refine wp_ret ?_
          (try simp only [Exit.then, Exit.inBlock])
          refine ret1 hf rfl rfl ?_
          refine ⟨congrArg (fun n => Ending.returned (.int .i64 n)) ?_, hb⟩
          have hr1 := ord_range x y
          have hr2 := @ord_ref0 x y
          have hr3 := @ord_lt x y
          have hr4 := @ord_gt x y
          have hr5 := @ord_ref x y hx hy
          clear hf hb
          grind
        · have hqt36_1b := hqt36_1
          replace hqt36_1 := Bool.eq_false_iff.1 hqt36_1
          try simp only [ne_eq, decide_eq_true_eq, Bool.and_eq_true, Bool.or_eq_true, Bool.not_eq_true', decide_eq_false_iff_not] at hqt36_1
          refine wp_skip ?_
          (try simp only [Exit.then, Exit.inBlock, ↓reduceIte, Nat.reduceEqDiff])
          refine hK13 _ _ ?_
          refine wp_seq_k (fun K16 hK16 => ?_)
          refine wp_seq_k (fun K17 hK17 => ?_)
          refine wp_region_lit ?_
          refine sqv hf (r_move rfl) rfl rfl rfl ?_; clear hf fa; intro fa hf
          refine sqv hf (r_move rfl) rfl rfl rfl ?_; clear hf fa; intro fa hf
          refine sqv hf (r_lt rfl rfl) rfl rfl rfl ?_; clear hf fa; intro fa hf
          refine sqv hf (r_move rfl) rfl rfl rfl ?_; clear hf fa; intro fa hf
          refine sqv hf (r_eq rfl rfl) rfl rfl rfl ?_; clear hf fa; intro fa hf
          refine sqv hf (r_beq Try.underlying4 rfl rfl) rfl rfl rfl ?_; clear hf fa; intro fa hf
          apply wpList_nil
          (try simp only [Exit.then, Exit.inBlock, ↓reduceIte, Nat.reduceEqDiff])
          refine hK17 _ _ ?_
          refine wp_cond_split (t := ((decide (((x : Nat) : Int) < ((y : Nat) : Int))) == (decide ((kindN x) = (5 : Int))))) (hf.ev rfl) (fun hqt42_1 => ?_) (fun hqt42_1 => ?_)
          · have hqt42_1b := hqt42_1
            try simp only [decide_eq_true_eq, Bool.and_eq_true, Bool.or_eq_true, Bool.not_eq_true', decide_eq_false_iff_not, ne_eq, Bool.not_eq_true] at hqt42_1
            refine wp_seq_k (fun K18 hK18 => ?_)
            refine wp_region_lit ?_
            refine sqv hf (r_assign rfl) rfl rfl rfl ?_; clear hf fa; intro fa hf
            apply wpList_nil
            (try simp only [Exit.then, Exit.inBlock, ↓reduceIte, Nat.reduceEqDiff])
            refine hK18 _ _ ?_
            refine wp_ret ?_
            (try simp only [Exit.then, Exit.inBlock])
            refine ret1 hf rfl rfl ?_
            refine ⟨congrArg (fun n => Ending.returned (.int .i64 n)) ?_, hb⟩
            have hr1 := ord_range x y
            have hr2 := @ord_ref0 x y
            have hr3 := @ord_lt x y
            have hr4 := @ord_gt x y
            have hr5 := @ord_ref x y hx hy
            clear hf hb
            grind
          · have hqt42_1b := hqt42_1
            replace hqt42_1 := Bool.eq_false_iff.1 hqt42_1
            try simp only [ne_eq, decide_eq_true_eq, Bool.and_eq_true, Bool.or_eq_true, Bool.not_eq_true', decide_eq_false_iff_not] at hqt42_1
            refine wp_skip ?_
            (try simp only [Exit.then, Exit.inBlock, ↓reduceIte, Nat.reduceEqDiff])
            refine hK16 _ _ ?_
            refine wp_seq_k (fun K19 hK19 => ?_)
            refine wp_region_lit ?_
            refine sqv hf (r_assign rfl) rfl rfl rfl ?_; clear hf fa; intro fa hf
            apply wpList_nil
            (try simp only [Exit.then, Exit.inBlock, ↓reduceIte, Nat.reduceEqDiff])
            refine hK19 _ _ ?_
            refine wp_ret ?_
            (try simp only [Exit.then, Exit.inBlock])
            refine ret1 hf rfl rfl ?_
            refine ⟨congrArg (fun n => Ending.returned (.int .i64 n)) ?_, hb⟩
            have hr1 := ord_range x y
            have hr2 := @ord_ref0 x y
            have hr3 := @ord_lt x y
            have hr4 := @ord_gt x y
            have hr5 := @ord_ref x y hx hy
            clear hf hb
            grind

set_option maxHeartbeats 1000000 in
set_option maxRecDepth 100000 in
theorem rsame_any (x y : Nat) (hx : x < 18446744073709551616) (hy : y < 18446744073709551616) (w : World) : Calls Try.prog 11 #[(.float .f64 x), (.float .f64 y)] w fun e w' => e = .returned (.bool (sameB x y)) ∧ Below w.heap.size w w' := by
  refine sx_enter (L := [(0, (.float .f64 x)), (1, (.float .f64 y))]) Try.func11 rfl rfl rfl rfl (fun fa hf => ?_)
  have hb : Below w.heap.size w w := Below.refl _ _
  refine wp_seq_k (fun K1 hK1 => ?_)
  refine wp_region_lit ?_
  refine sqv hf (r_assign rfl) rfl rfl rfl ?_; clear hf fa; intro fa hf
  apply wpList_nil
  (try simp only [Exit.then, Exit.inBlock, ↓reduceIte, Nat.reduceEqDiff])
  refine hK1 _ _ ?_
  refine wp_seq_k (fun K2 hK2 => ?_)
  refine wp_region_lit ?_
  refine sqv hf (r_move rfl) rfl rfl rfl ?_; clear hf fa; intro fa hf
  refine sqdt hf (d_callB (vs := [(.float .f64 x)]) rfl Try.func8 (by kernel_rfl) (by kernel_rfl) (rkind_any x (by first | assumption | omega) _)) rfl rfl rfl ?_; clear hf fa; rintro fa _ w1 ⟨rfl, he1⟩ hf
  replace hb := hb.trans (Below.mono he1 hb.size)
  refine sqv hf (r_eq rfl rfl) rfl rfl rfl ?_; clear hf fa; intro fa hf
  refine sqv hf (r_move rfl) rfl rfl rfl ?_; clear hf fa; intro fa hf
  refine sqgT (act := (decide ((kindN x) = (0 : Int)))) (ag := true) (c := (decide ((kindN x) = (0 : Int)))) (v := (.float .f64 y)) hf rfl rfl rfl (fun hact => (r_move rfl)) rfl rfl ?_; clear hf fa; intro fa hf
  refine sqgd (R := fun vq wq => vq = gb (decide ((kindN x) = (0 : Int))) (.int .i64 (kindN y)) ∧ Below w1.heap.size w1 wq) (act := (decide ((kindN x) = (0 : Int)))) (g := 3) (want := true) (ag := true) (c := (decide ((kindN x) = (0 : Int)))) hf (by rfl) (by rfl) (act_T _ _) (fun hact => (d_callB (vs := [(.float .f64 y)]) (cons_ev (gb_ev hact rfl) rfl) Try.func8 (by kernel_rfl) (by kernel_rfl) (rkind_any y (by first | assumption | omega) _)).mono (fun _ _ h => ⟨by rw [h.1, hact]; rfl, h.2⟩)) (fun h => ⟨by rw [h]; rfl, Below.refl _ _⟩) rfl ?_; clear hf fa; rintro fa _ w2 ⟨rfl, he2⟩ hf
  replace hb := hb.trans (Below.mono he2 hb.size)
  change Fr _ _ ((10, (gb (decide ((kindN x) = (0 : Int))) (.int .i64 (kindN y)))) :: _) at hf
  refine sqgT (act := (decide ((kindN x) = (0 : Int)))) (ag := true) (c := (decide ((kindN x) = (0 : Int)))) (v := (.bool (decide ((kindN y) = (0 : Int))))) hf rfl rfl rfl (fun hact => (r_eq (gb_ev hact rfl) rfl)) rfl rfl ?_; clear hf fa; intro fa hf
  refine sqv hf (r_pickA (b := (decide ((kindN x) = (0 : Int)))) (e := (decide ((kindN y) = (0 : Int)))) rfl rfl rfl) rfl rfl rfl ?_; clear hf fa; intro fa hf
  refine sqv hf (r_move rfl) rfl rfl rfl ?_; clear hf fa; intro fa hf
  refine sqgF (act := (!((decide ((kindN x) = (0 : Int))) && (decide ((kindN y) = (0 : Int)))))) (ag := true) (c := ((decide ((kindN x) = (0 : Int))) && (decide ((kindN y) = (0 : Int))))) (v := (.float .f64 x)) hf rfl rfl rfl (fun hact => (r_move rfl)) rfl rfl ?_; clear hf fa; intro fa hf
  refine sqgF (act := (!((decide ((kindN x) = (0 : Int))) && (decide ((kindN y) = (0 : Int)))))) (ag := true) (c := ((decide ((kindN x) = (0 : Int))) && (decide ((kindN y) = (0 : Int))))) (v := (.int .u64 ((x : Nat) : Int))) hf rfl rfl rfl (fun hact => (d_extern (ent := Extern.MathFloatBits.float64bits) (v := .int .u64 ((x : Nat) : Int)) (vs := [(.float .f64 x)]) (cons_ev (gb_ev hact rfl) rfl) Try.func30 (by kernel_rfl) (by kernel_rfl) (by kernel_rfl) (by kernel_rfl) (by rfl))) rfl rfl ?_; clear hf fa; intro fa hf
  refine sqgF (act := (!((decide ((kindN x) = (0 : Int))) && (decide ((kindN y) = (0 : Int)))))) (ag := true) (c := ((decide ((kindN x) = (0 : Int))) && (decide ((kindN y) = (0 : Int))))) (v := (.float .f64 y)) hf rfl rfl rfl (fun hact => (r_move rfl)) rfl rfl ?_; clear hf fa; intro fa hf
  refine sqgF (act := (!((decide ((kindN x) = (0 : Int))) && (decide ((kindN y) = (0 : Int)))))) (ag := true) (c := ((decide ((kindN x) = (0 : Int))) && (decide ((kindN y) = (0 : Int))))) (v := (.int .u64 ((y : Nat) : Int))) hf rfl rfl rfl (fun hact => (d_extern (ent := Extern.MathFloatBits.float64bits) (v := .int .u64 ((y : Nat) : Int)) (vs := [(.float .f64 y)]) (cons_ev (gb_ev hact rfl) rfl) Try.func30 (by kernel_rfl) (by kernel_rfl) (by kernel_rfl) (by kernel_rfl) (by rfl))) rfl rfl ?_; clear hf fa; intro fa hf
  refine sqgF (act := (!((decide ((kindN x) = (0 : Int))) && (decide ((kindN y) = (0 : Int)))))) (ag := true) (c := ((decide ((kindN x) = (0 : Int))) && (decide ((kindN y) = (0 : Int))))) (v := (.bool (decide (((x : Nat) : Int) = ((y : Nat) : Int))))) hf rfl rfl rfl (fun hact => (r_eq (gb_ev hact rfl) (gb_ev hact rfl))) rfl rfl ?_; clear hf fa; intro fa hf
  refine sqv hf (r_pickO (b := ((decide ((kindN x) = (0 : Int))) && (decide ((kindN y) = (0 : Int))))) (e := (decide (((x : Nat) : Int) = ((y : Nat) : Int)))) rfl rfl rfl) rfl rfl rfl ?_; clear hf fa; intro fa hf
  refine sqv hf (r_assign rfl) rfl rfl rfl ?_; clear hf fa; intro fa hf
  apply wpList_nil
  (try simp only [Exit.then, Exit.inBlock, ↓reduceIte, Nat.reduceEqDiff])
  refine hK2 _ _ ?_
  refine wp_ret ?_
  (try simp only [Exit.then, Exit.inBlock])
  refine ret1 hf rfl rfl ?_
  exact ⟨rfl, hb⟩

set_option maxHeartbeats 1000000 in
set_option maxRecDepth 100000 in
theorem part_any (a b : Int) (w : World) : Calls Try.prog 12 #[(.int .i64 a), (.int .i64 b)] w fun e w' => ∃ v, e = .returned v ∧ ((∃ r, v = .float .f64 r ∧ FRes .quo (floatOfInt .f64 a) (floatOfInt .f64 b) r) ∧ Below w.heap.size w w') := by
  refine sx_enter (L := [(0, (.int .i64 a)), (1, (.int .i64 b))]) Try.func12 rfl rfl rfl rfl (fun fa hf => ?_)
  have hb : Below w.heap.size w w := Below.refl _ _
  refine wp_seq_k (fun K1 hK1 => ?_)
  refine wp_region_lit ?_
  refine sqv hf (r_assign rfl) rfl rfl rfl ?_; clear hf fa; intro fa hf
  apply wpList_nil
  (try simp only [Exit.then, Exit.inBlock, ↓reduceIte, Nat.reduceEqDiff])
  refine hK1 _ _ ?_
  refine wp_seq_k (fun K2 hK2 => ?_)
  refine wp_region_lit ?_
  refine sqv hf (r_move rfl) rfl rfl rfl ?_; clear hf fa; intro fa hf
  refine sqv hf (r_fofint rfl Try.underlying3 Try.underlying22) rfl rfl rfl ?_; clear hf fa; intro fa hf
  refine sqv hf (r_move rfl) rfl rfl rfl ?_; clear hf fa; intro fa hf
  refine sqv hf (r_fofint rfl Try.underlying3 Try.underlying22) rfl rfl rfl ?_; clear hf fa; intro fa hf
  refine sqdt hf (d_farith (op := .quo) (a := (floatOfInt .f64 a)) (b := (floatOfInt .f64 b)) rfl rfl (by simp)) rfl rfl rfl ?_; clear hf fa; rintro fa _ w1 ⟨⟨fr1, rfl, hfr1⟩, he1⟩ hf
  replace hb := hb.trans (Below.mono he1 hb.size)
  refine sqv hf (r_assign rfl) rfl rfl rfl ?_; clear hf fa; intro fa hf
  apply wpList_nil
  (try simp only [Exit.then, Exit.inBlock, ↓reduceIte, Nat.reduceEqDiff])
  refine hK2 _ _ ?_
  refine wp_ret ?_
  (try simp only [Exit.then, Exit.inBlock])
  refine ret1 hf rfl rfl ?_
  exact ⟨_, rfl, ⟨_, rfl, hfr1⟩, hb⟩

set_option maxHeartbeats 1000000 in
set_option maxRecDepth 100000 in
theorem none_any (w : World) : Calls Try.prog 31 #[] w fun e w' => ∃ v, e = .returned v ∧ ((∃ r, v = .float .f64 r ∧ FRes .quo 0 0 r) ∧ Below w.heap.size w w') := by
  refine sx_enter (L := []) Try.func31 rfl rfl rfl rfl (fun fa hf => ?_)
  have hb : Below w.heap.size w w := Below.refl _ _
  refine wp_seq_k (fun K1 hK1 => ?_)
  refine wp_region_lit ?_
  refine sqv hf (r_assign rfl) rfl rfl rfl ?_; clear hf fa; intro fa hf
  apply wpList_nil
  (try simp only [Exit.then, Exit.inBlock, ↓reduceIte, Nat.reduceEqDiff])
  refine hK1 _ _ ?_
  refine wp_seq_k (fun K2 hK2 => ?_)
  refine wp_region_lit ?_
  refine sqv hf (r_assign rfl) rfl rfl rfl ?_; clear hf fa; intro fa hf
  apply wpList_nil
  (try simp only [Exit.then, Exit.inBlock, ↓reduceIte, Nat.reduceEqDiff])
  refine hK2 _ _ ?_
  refine wp_seq_k (fun K3 hK3 => ?_)
  refine wp_region_lit ?_
  refine sqv hf (r_move rfl) rfl rfl rfl ?_; clear hf fa; intro fa hf
  refine sqv hf (r_move rfl) rfl rfl rfl ?_; clear hf fa; intro fa hf
  refine sqdt hf (d_farith (op := .quo) (a := 0) (b := 0) rfl rfl (by simp)) rfl rfl rfl ?_; clear hf fa; rintro fa _ w1 ⟨⟨fr1, rfl, hfr1⟩, he1⟩ hf
  replace hb := hb.trans (Below.mono he1 hb.size)
  refine sqv hf (r_assign rfl) rfl rfl rfl ?_; clear hf fa; intro fa hf
  apply wpList_nil
  (try simp only [Exit.then, Exit.inBlock, ↓reduceIte, Nat.reduceEqDiff])
  refine hK3 _ _ ?_
  refine wp_ret ?_
  (try simp only [Exit.then, Exit.inBlock])
  refine ret1 hf rfl rfl ?_
  exact ⟨_, rfl, ⟨_, rfl, hfr1⟩, hb⟩

set_option maxHeartbeats 1000000 in
set_option maxRecDepth 100000 in
theorem nan_any (w : World) : Calls Try.prog 37 #[] w fun e w' => e = .returned (.float .f64 9221120237041090561) ∧ Below w.heap.size w w' := by
  refine sx_enter (L := []) Try.func37 rfl rfl rfl rfl (fun fa hf => ?_)
  have hb : Below w.heap.size w w := Below.refl _ _
  refine wp_seq_k (fun K1 hK1 => ?_)
  refine wp_region_lit ?_
  refine sqv hf (r_assign rfl) rfl rfl rfl ?_; clear hf fa; intro fa hf
  apply wpList_nil
  (try simp only [Exit.then, Exit.inBlock, ↓reduceIte, Nat.reduceEqDiff])
  refine hK1 _ _ ?_
  refine wp_seq_k (fun K2 hK2 => ?_)
  refine wp_region_lit ?_
  refine sqv hf (d_extern (ent := Extern.MathFloatBits.float64frombits) (v := .float .f64 9221120237041090561) (vs := [(.int .u64 (9221120237041090561 : Int))]) rfl Try.func40 (by kernel_rfl) (by kernel_rfl) (by kernel_rfl) (by kernel_rfl) (by rfl)) rfl rfl rfl ?_; clear hf fa; intro fa hf
  refine sqv hf (r_assign rfl) rfl rfl rfl ?_; clear hf fa; intro fa hf
  apply wpList_nil
  (try simp only [Exit.then, Exit.inBlock, ↓reduceIte, Nat.reduceEqDiff])
  refine hK2 _ _ ?_
  refine wp_ret ?_
  (try simp only [Exit.then, Exit.inBlock])
  refine ret1 hf rfl rfl ?_
  exact ⟨rfl, hb⟩

set_option maxHeartbeats 1000000 in
set_option maxRecDepth 100000 in
theorem rnone_any (w : World) : Calls Try.prog 34 #[] w fun e w' => e = .returned (.float .f64 9221120237041090561) ∧ Below w.heap.size w w' := by
  refine sx_enter (L := []) Try.func34 rfl rfl rfl rfl (fun fa hf => ?_)
  have hb : Below w.heap.size w w := Below.refl _ _
  refine wp_seq_k (fun K1 hK1 => ?_)
  refine wp_region_lit ?_
  refine sqv hf (r_assign rfl) rfl rfl rfl ?_; clear hf fa; intro fa hf
  apply wpList_nil
  (try simp only [Exit.then, Exit.inBlock, ↓reduceIte, Nat.reduceEqDiff])
  refine hK1 _ _ ?_
  refine wp_seq_k (fun K2 hK2 => ?_)
  refine wp_region_lit ?_
  refine sqdt hf (d_callB (vs := []) rfl Try.func37 (by kernel_rfl) (by kernel_rfl) (nan_any _)) rfl rfl rfl ?_; clear hf fa; rintro fa _ w1 ⟨rfl, he1⟩ hf
  replace hb := hb.trans (Below.mono he1 hb.size)
  refine sqv hf (r_assign rfl) rfl rfl rfl ?_; clear hf fa; intro fa hf
  apply wpList_nil
  (try simp only [Exit.then, Exit.inBlock, ↓reduceIte, Nat.reduceEqDiff])
  refine hK2 _ _ ?_
  refine wp_ret ?_
  (try simp only [Exit.then, Exit.inBlock])
  refine ret1 hf rfl rfl ?_
  exact ⟨rfl, hb⟩
end Go.Proofs.Ytbllifhcfgjdlaa
