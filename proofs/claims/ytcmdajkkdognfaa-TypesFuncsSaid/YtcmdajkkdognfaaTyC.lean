/- What is proved here: the law TypesFuncs is true. -/
import Derived.Test.YtcmdajkkdognfaaTyK
namespace Go.Proofs.Ytcmdajkkdognfaa
open Go.RowKit
set_option linter.unusedVariables false
set_option linter.unusedSimpArgs false
theorem rfunc2_any (t : MFt) (w : World) (h1 : t.1.size ≤ 1100) (h2 : t.2.1.size ≤ 300) : Calls Try.prog 43 #[(.agg #[(.string t.1), (.string t.2.1)])] w fun e w' => e = .returned (.int .i64 (tfuncP t)) ∧ Below w.heap.size w w' := by
  have h := rfunc_any t w h1 h2
  rw [func_eq] at h
  exact h

set_option maxHeartbeats 1000000 in
set_option maxRecDepth 100000 in
theorem typesFuncs_any (t : MFt) (b : Int) (s : ByteArray) (w : World) (hbb : 0 ≤ b ∧ b < 256) : Calls Try.prog 7 #[(.agg #[(.string t.1), (.string t.2.1)]), (.int .u8 b), (.string s)] w fun e w' => e = .returned (.bool true) ∧ Below w.heap.size w w' := by
  refine sx_enter (L := [(0, (.agg #[(.string t.1), (.string t.2.1)])), (1, (.int .u8 b)), (2, (.string s))]) Try.func7 rfl rfl rfl rfl (fun fa hf => ?_)
  have hb : Below w.heap.size w w := Below.refl _ _
  refine wp_seq_k (fun K1 hK1 => ?_)
  refine wp_region_lit ?_
  refine sqdt hf (d_box (cs := #[(.string t.1), (.string t.2.1)]) rfl rfl) rfl rfl rfl ?_; clear hf fa; rintro fa _ w1 ⟨b1, rfl, hle1, hk1, he1⟩ hf
  have hBb1 : w.heap.size ≤ b1 := Nat.le_trans hb.size hle1
  replace hb := hb.trans (Below.mono he1 hb.size)
  refine sqv hf (r_assign rfl) rfl rfl rfl ?_; clear hf fa; intro fa hf
  apply wpList_nil
  (try simp only [Exit.then, Exit.inBlock, ↓reduceIte, Nat.reduceEqDiff])
  refine hK1 _ _ ?_
  refine wp_seq_k (fun K2 hK2 => ?_)
  refine wp_seq_k (fun K3 hK3 => ?_)
  refine wp_region_lit ?_
  refine sqdt hf (d_callB (vs := []) rfl Try.func26 (by kernel_rfl) (by kernel_rfl) (awake04_any _)) rfl rfl rfl ?_; clear hf fa; rintro fa _ w2 ⟨rfl, he2⟩ hf
  replace hk1 := blk_ext hk1 he2
  replace hb := hb.trans (Below.mono he2 hb.size)
  refine sqv hf (Runs.veq (v' := (.bool false)) (r_not rfl) rfl) rfl rfl rfl ?_; clear hf fa; intro fa hf
  apply wpList_nil
  (try simp only [Exit.then, Exit.inBlock, ↓reduceIte, Nat.reduceEqDiff])
  refine hK3 _ _ ?_
  refine wp_cond_false (hf.ev rfl) ?_
  refine wp_skip ?_
  (try simp only [Exit.then, Exit.inBlock, ↓reduceIte, Nat.reduceEqDiff])
  refine hK2 _ _ ?_
  refine wp_seq_k (fun K4 hK4 => ?_)
  refine wp_seq_k (fun K5 hK5 => ?_)
  refine wp_region_lit ?_
  refine sqv hf (r_fa rfl Try.underlying67 (f := 0) (q := 0) rfl (by kernel_rfl) rfl) rfl rfl rfl ?_; clear hf fa; intro fa hf
  refine sqv hf (r_load (v := (.string t.1)) rfl Try.underlying9 rfl (cell_blk hk1 rfl)) rfl rfl rfl ?_; clear hf fa; intro fa hf
  refine sqv hf (r_lens rfl Try.underlying9) rfl rfl rfl ?_; clear hf fa; intro fa hf
  refine sqv hf (r_gt rfl rfl) rfl rfl rfl ?_; clear hf fa; intro fa hf
  refine sqv hf (r_move rfl) rfl rfl rfl ?_; clear hf fa; intro fa hf
  refine sqgF (act := (!(decide ((1100 : Int) < ((t.1.size : Nat) : Int))))) (ag := true) (c := (decide ((1100 : Int) < ((t.1.size : Nat) : Int)))) (v := (.pointer (some ⟨b1, 1, none⟩))) hf rfl rfl rfl (fun hact => (r_fa rfl Try.underlying67 (f := 1) (q := 1) rfl (by kernel_rfl) rfl)) rfl rfl ?_; clear hf fa; intro fa hf
  refine sqgF (act := (!(decide ((1100 : Int) < ((t.1.size : Nat) : Int))))) (ag := true) (c := (decide ((1100 : Int) < ((t.1.size : Nat) : Int)))) (v := (.string t.2.1)) hf rfl rfl rfl (fun hact => (r_load (v := (.string t.2.1)) (gb_ev hact rfl) Try.underlying9 rfl (cell_blk hk1 rfl))) rfl rfl ?_; clear hf fa; intro fa hf
  refine sqgF (act := (!(decide ((1100 : Int) < ((t.1.size : Nat) : Int))))) (ag := true) (c := (decide ((1100 : Int) < ((t.1.size : Nat) : Int)))) (v := (.int .i64 ((t.2.1.size : Nat) : Int))) hf rfl rfl rfl (fun hact => (r_lens (gb_ev hact rfl) Try.underlying9)) rfl rfl ?_; clear hf fa; intro fa hf
  refine sqgF (act := (!(decide ((1100 : Int) < ((t.1.size : Nat) : Int))))) (ag := true) (c := (decide ((1100 : Int) < ((t.1.size : Nat) : Int)))) (v := (.bool (decide ((300 : Int) < ((t.2.1.size : Nat) : Int))))) hf rfl rfl rfl (fun hact => (r_gt (gb_ev hact rfl) rfl)) rfl rfl ?_; clear hf fa; intro fa hf
  refine sqv hf (r_pickO (b := (decide ((1100 : Int) < ((t.1.size : Nat) : Int)))) (e := (decide ((300 : Int) < ((t.2.1.size : Nat) : Int)))) rfl rfl rfl) rfl rfl rfl ?_; clear hf fa; intro fa hf
  refine sqv hf (r_move rfl) rfl rfl rfl ?_; clear hf fa; intro fa hf
  refine sqgF (act := (!((decide ((1100 : Int) < ((t.1.size : Nat) : Int))) || (decide ((300 : Int) < ((t.2.1.size : Nat) : Int)))))) (ag := true) (c := ((decide ((1100 : Int) < ((t.1.size : Nat) : Int))) || (decide ((300 : Int) < ((t.2.1.size : Nat) : Int))))) (v := (.string s)) hf rfl rfl rfl (fun hact => (r_move rfl)) rfl rfl ?_; clear hf fa; intro fa hf
  refine sqgF (act := (!((decide ((1100 : Int) < ((t.1.size : Nat) : Int))) || (decide ((300 : Int) < ((t.2.1.size : Nat) : Int)))))) (ag := true) (c := ((decide ((1100 : Int) < ((t.1.size : Nat) : Int))) || (decide ((300 : Int) < ((t.2.1.size : Nat) : Int))))) (v := (.int .i64 ((s.size : Nat) : Int))) hf rfl rfl rfl (fun hact => (r_lens (gb_ev hact rfl) Try.underlying9)) rfl rfl ?_; clear hf fa; intro fa hf
  refine sqgF (act := (!((decide ((1100 : Int) < ((t.1.size : Nat) : Int))) || (decide ((300 : Int) < ((t.2.1.size : Nat) : Int)))))) (ag := true) (c := ((decide ((1100 : Int) < ((t.1.size : Nat) : Int))) || (decide ((300 : Int) < ((t.2.1.size : Nat) : Int))))) (v := (.bool (decide ((300 : Int) < ((s.size : Nat) : Int))))) hf rfl rfl rfl (fun hact => (r_gt (gb_ev hact rfl) rfl)) rfl rfl ?_; clear hf fa; intro fa hf
  refine sqv hf (r_pickO (b := ((decide ((1100 : Int) < ((t.1.size : Nat) : Int))) || (decide ((300 : Int) < ((t.2.1.size : Nat) : Int))))) (e := (decide ((300 : Int) < ((s.size : Nat) : Int)))) rfl rfl rfl) rfl rfl rfl ?_; clear hf fa; intro fa hf
  apply wpList_nil
  (try simp only [Exit.then, Exit.inBlock, ↓reduceIte, Nat.reduceEqDiff])
  refine hK5 _ _ ?_
  refine wp_cond_split (t := (((decide ((1100 : Int) < ((t.1.size : Nat) : Int))) || (decide ((300 : Int) < ((t.2.1.size : Nat) : Int)))) || (decide ((300 : Int) < ((s.size : Nat) : Int))))) (hf.ev rfl) (fun hqt25_1 => ?_) (fun hqt25_1 => ?_)
  · have hqt25_1b := hqt25_1
    try simp only [decide_eq_true_eq, Bool.and_eq_true, Bool.or_eq_true, Bool.not_eq_true', decide_eq_false_iff_not, ne_eq, Bool.not_eq_true] at hqt25_1
    refine wp_seq_k (fun K6 hK6 => ?_)
    refine wp_region_lit ?_
    refine sqv hf (r_assign rfl) rfl rfl rfl ?_; clear hf fa; intro fa hf
    apply wpList_nil
    (try simp only [Exit.then, Exit.inBlock, ↓reduceIte, Nat.reduceEqDiff])
    refine hK6 _ _ ?_
    refine wp_ret ?_
    (try simp only [Exit.then, Exit.inBlock])
    refine ret1 hf rfl rfl ?_
    exact ⟨rfl, hb⟩
  · have hqt25_1b := hqt25_1
    replace hqt25_1 := Bool.eq_false_iff.1 hqt25_1
    try simp only [ne_eq, decide_eq_true_eq, Bool.and_eq_true, Bool.or_eq_true, Bool.not_eq_true', decide_eq_false_iff_not] at hqt25_1
    refine wp_skip ?_
    (try simp only [Exit.then, Exit.inBlock, ↓reduceIte, Nat.reduceEqDiff])
    refine hK4 _ _ ?_
    refine wp_seq_k (fun K7 hK7 => ?_)
    refine wp_region_lit ?_
    refine sqv hf (r_assign rfl) rfl rfl rfl ?_; clear hf fa; intro fa hf
    apply wpList_nil
    (try simp only [Exit.then, Exit.inBlock, ↓reduceIte, Nat.reduceEqDiff])
    refine hK7 _ _ ?_
    refine wp_seq_k (fun K8 hK8 => ?_)
    refine wp_seq_k (fun K9 hK9 => ?_)
    have z1 : t.1.size ≤ 1100 := by have h := hqt25_1; omega
    have z2 : t.2.1.size ≤ 300 := by have h := hqt25_1; omega
    have z3 : s.size ≤ 300 := by have h := hqt25_1; omega
    have hel := encF_len t z1 z2; have hbr := byte_rng s
    refine wp_region_lit ?_
    refine sqv hf (r_assign rfl) rfl rfl rfl ?_; clear hf fa; intro fa hf
    apply wpList_nil
    (try simp only [Exit.then, Exit.inBlock, ↓reduceIte, Nat.reduceEqDiff])
    refine hK9 _ _ ?_
    refine wp_block ?_
    refine wp_loop_k (fun mq fa wr => ∃ (n : Nat) (o : Int), mq = n ∧ Fr 91 fa [(1, (.int .u8 b)), (2, (.string s)), (3, (.pointer (some ⟨b1, 0, none⟩))), (7, (.int .i64 o)), (8, (.int .i64 ((n : Nat) : Int)))] ∧ Below w.heap.size w wr ∧ wr.heap[b1]? = some (.cells #[(.string t.1), (.string t.2.1)] 67 (0, 0)) ∧ (n ≤ 255) ∧ (o = ofF s (255 - n))) ?_ ?_
    · skip
      exact ⟨_, 255, 0, rfl, hf.sub ⟨rfl, rfl, rfl, (some_int (by first | rfl | omega)), (some_int (by first | rfl | omega)), trivial⟩, hb, hk1, by omega, rfl⟩
    · skip
      clear hf fa; intro mq1 fa w3 hI KL1 hKL1
      clear hb
      clear hk1
      obtain ⟨n, o, hmq1, hf, hb, hkb1, hn, Ho⟩ := hI
      refine wp_seq_k (fun K10 hK10 => ?_)
      refine wp_seq_k (fun K11 hK11 => ?_)
      refine wp_region_lit ?_
      refine sqv hf (r_move rfl) rfl rfl rfl ?_; clear hf fa; intro fa hf
      refine sqv hf (r_gt rfl rfl) rfl rfl rfl ?_; clear hf fa; intro fa hf
      apply wpList_nil
      (try simp only [Exit.then, Exit.inBlock, ↓reduceIte, Nat.reduceEqDiff])
      refine hK11 _ _ ?_
      refine wp_cond_split (t := (decide ((0 : Int) < ((n : Nat) : Int)))) (hf.ev rfl) (fun hqt27_1 => ?_) (fun hqt27_1 => ?_)
      · have hqt27_1b := hqt27_1
        try simp only [decide_eq_true_eq, Bool.and_eq_true, Bool.or_eq_true, Bool.not_eq_true', decide_eq_false_iff_not, ne_eq, Bool.not_eq_true] at hqt27_1
        refine wp_skip ?_
        (try simp only [Exit.then, Exit.inBlock, ↓reduceIte, Nat.reduceEqDiff])
        refine hK10 _ _ ?_
        refine wp_seq_k (fun K12 hK12 => ?_)
        refine wp_block ?_
        refine wp_seq_k (fun K13 hK13 => ?_)
        refine wp_region_lit ?_
        refine sqv hf (r_move rfl) rfl rfl rfl ?_; clear hf fa; intro fa hf
        refine sqdt hf (d_callB (vs := [(.int .i64 ((n : Nat) : Int))]) rfl Try.func41 (by kernel_rfl) (by kernel_rfl) (rname2_any ((n : Nat) : Int) _ (by omega))) rfl rfl rfl ?_; clear hf fa; rintro fa _ w4 ⟨rfl, he3⟩ hf
        replace hkb1 := blk_ext hkb1 he3
        replace hb := hb.trans (Below.mono he3 hb.size)
        refine sqv hf (r_move rfl) rfl rfl rfl ?_; clear hf fa; intro fa hf
        refine sqv hf (r_seq rfl rfl) rfl rfl rfl ?_; clear hf fa; intro fa hf
        refine sqv hf (r_move rfl) rfl rfl rfl ?_; clear hf fa; intro fa hf
        refine sqgT (act := (decide ((tnameP ((n : Nat) : Int)) = s))) (ag := true) (c := (decide ((tnameP ((n : Nat) : Int)) = s))) (v := (.string s)) hf rfl rfl rfl (fun hact => (r_move rfl)) rfl rfl ?_; clear hf fa; intro fa hf
        refine sqgT (act := (decide ((tnameP ((n : Nat) : Int)) = s))) (ag := true) (c := (decide ((tnameP ((n : Nat) : Int)) = s))) (v := (.bool (decide (s ≠ ⟨#[63]⟩)))) hf rfl rfl rfl (fun hact => (r_sne (gb_ev hact rfl) rfl)) rfl rfl ?_; clear hf fa; intro fa hf
        refine sqv hf (r_pickA (b := (decide ((tnameP ((n : Nat) : Int)) = s))) (e := (decide (s ≠ ⟨#[63]⟩))) rfl rfl rfl) rfl rfl rfl ?_; clear hf fa; intro fa hf
        apply wpList_nil
        (try simp only [Exit.then, Exit.inBlock, ↓reduceIte, Nat.reduceEqDiff])
        refine hK13 _ _ ?_
        refine wp_cond_split (t := ((decide ((tnameP ((n : Nat) : Int)) = s)) && (decide (s ≠ ⟨#[63]⟩)))) (hf.ev rfl) (fun hqt37_1 => ?_) (fun hqt37_1 => ?_)
        · have hqt37_1b := hqt37_1
          try simp only [decide_eq_true_eq, Bool.and_eq_true, Bool.or_eq_true, Bool.not_eq_true', decide_eq_false_iff_not, ne_eq, Bool.not_eq_true] at hqt37_1
          refine wp_region_lit ?_
          refine sqv hf (r_move rfl) rfl rfl rfl ?_; clear hf fa; intro fa hf
          refine sqv hf (r_assign rfl) rfl rfl rfl ?_; clear hf fa; intro fa hf
          apply wpList_nil
          (try simp only [Exit.then, Exit.inBlock, ↓reduceIte, Nat.reduceEqDiff])
          refine hK12 _ _ ?_
          refine wp_region_lit ?_
          refine sqv hf (r_move rfl) rfl rfl rfl ?_; clear hf fa; intro fa hf
          refine sqv hf (r_sub (C := (((n : Nat) : Int) - (1 : Int))) rfl rfl (by rw [IntKind.wrap_i64]; omega)) rfl rfl rfl ?_; clear hf fa; intro fa hf
          refine sqv hf (r_assign rfl) rfl rfl rfl ?_; clear hf fa; intro fa hf
          apply wpList_nil
          (try simp only [Exit.then, Exit.inBlock, ↓reduceIte, Nat.reduceEqDiff])
          refine hKL1 _ _ _ (by omega) ⟨(n - 1), ((n : Nat) : Int), rfl, hf.sub ⟨rfl, rfl, rfl, rfl, (some_int (by first | rfl | omega)), trivial⟩, hb, hkb1, by omega, (by rw [show 255 - (n - 1) = (255 - n) + 1 by omega, ofF, show ((255 - (255 - n) : Nat) : Int) = ((n : Nat) : Int) by omega, if_pos (by have h := hqt37_1; exact h)])⟩
        · have hqt37_1b := hqt37_1
          replace hqt37_1 := Bool.eq_false_iff.1 hqt37_1
          try simp only [ne_eq, decide_eq_true_eq, Bool.and_eq_true, Bool.or_eq_true, Bool.not_eq_true', decide_eq_false_iff_not] at hqt37_1
          refine wp_skip ?_
          (try simp only [Exit.then, Exit.inBlock, ↓reduceIte, Nat.reduceEqDiff])
          refine hK12 _ _ ?_
          refine wp_region_lit ?_
          refine sqv hf (r_move rfl) rfl rfl rfl ?_; clear hf fa; intro fa hf
          refine sqv hf (r_sub (C := (((n : Nat) : Int) - (1 : Int))) rfl rfl (by rw [IntKind.wrap_i64]; omega)) rfl rfl rfl ?_; clear hf fa; intro fa hf
          refine sqv hf (r_assign rfl) rfl rfl rfl ?_; clear hf fa; intro fa hf
          apply wpList_nil
          (try simp only [Exit.then, Exit.inBlock, ↓reduceIte, Nat.reduceEqDiff])
          refine hKL1 _ _ _ (by omega) ⟨(n - 1), o, rfl, hf.sub ⟨rfl, rfl, rfl, rfl, (some_int (by first | rfl | omega)), trivial⟩, hb, hkb1, by omega, (by rw [show 255 - (n - 1) = (255 - n) + 1 by omega, ofF, show ((255 - (255 - n) : Nat) : Int) = ((n : Nat) : Int) by omega, if_neg (by have h := hqt37_1; simpa using h)]; exact Ho)⟩
      · have hqt27_1b := hqt27_1
        replace hqt27_1 := Bool.eq_false_iff.1 hqt27_1
        try simp only [ne_eq, decide_eq_true_eq, Bool.and_eq_true, Bool.or_eq_true, Bool.not_eq_true', decide_eq_false_iff_not] at hqt27_1
        refine wp_exit ?_
        (try simp only [Exit.then, Exit.inBlock, ↓reduceIte, Nat.reduceEqDiff])
        refine hK8 _ _ ?_
        refine wp_seq_k (fun K14 hK14 => ?_)
        have hof : o = byteP s := by rw [Ho, show 255 - n = 255 by omega]; exact of_eq s
        refine wp_region_un (fun wq => Below w3.heap.size w3 wq) (fun w w' => Below w.heap.size w w')
          (fun V => [(fun x _ => x = (.agg #[(.string t.1), (.string t.2.1)])), (fun x _ => x = (.int .i64 ((tfuncP t)))), (fun x _ => x = (.agg #[(.string t.1), (.string t.2.1)])), (fun x _ => x = (.int .i64 ((tfuncP t)))), (fun x _ => x = (.bool true)), (fun x _ => x = (.bool true)), (fun x _ => x = (.pointer (some ⟨b1, 0, none⟩))), (fun x _ => x = (.string t.1)), (fun x _ => x = (.int .i64 ((valsP t.1)))), (fun x _ => x = (.pointer (some ⟨b1, 0, none⟩))), (fun x _ => x = (.string t.1)), (fun x _ => x = (.int .i64 ((valsP t.1)))), (fun x _ => x = (.bool true)), (fun x _ => x = (.bool true)), (fun x _ => x = (.bool true)), (fun x _ => x = (.int .u8 b)), (fun x _ => x = (.int .i64 ((tvalP b)))), (fun x _ => x = (.int .u8 b)), (fun x _ => x = (.int .i64 b)), (fun x _ => x = (.int .i64 ((tvalP b)))), (fun x _ => x = (.bool true)), (fun x _ => x = (.bool true)), (fun x _ => x = (.bool true)), (fun x _ => x = (.agg #[(.string t.1), (.string t.2.1)])), (fun x wq => ∃ b, (∃ c, x = .slice (some ⟨b, 0, none⟩) (((encF t)).length) c) ∧ w3.heap.size ≤ b ∧ Row 1 (vInt .u8) 5 w3.heap.size wq x (encF t)), (fun x _ => x = (.string (strOfNums (encF t)))), (fun x _ => x = (.agg #[(.string t.1), (.string t.2.1)])), (fun x _ => x = (.string (strOfNums (encF t)))), (fun x _ => x = (.bool true)), (fun x _ => x = (.bool true)), (fun x _ => x = (.bool true)), (fun x _ => x = (.agg #[(.string t.1), (.string t.2.1)])), (fun x _ => x = (.string (textP t))), (fun x _ => x = (.agg #[(.string t.1), (.string t.2.1)])), (fun x _ => x = (.string (textP t))), (fun x _ => x = (.bool true)), (fun x _ => x = (.bool true)), (fun x _ => x = (.bool true)), (fun x _ => x = (.int .u8 b)), (fun x _ => x = (.string (tnameP b))), (fun x _ => x = (.int .u8 b)), (fun x _ => x = (.int .i64 b)), (fun x _ => x = (.string (tnameP b))), (fun x _ => x = (.bool true)), (fun x _ => x = (.bool true)), (fun x _ => x = (.bool true)), (fun x _ => x = (.string s)), (fun x _ => x = (.int .u8 ((byteP s)))), (fun x _ => x = (.int .i64 ((byteP s)))), (fun x _ => x = (.int .i64 o)), (fun x _ => x = (.bool true)), (fun x _ => x = (.bool true)), (fun x _ => x = (.bool true))])
          [24]
          [[], [0], [], [1, 2], [1, 3], [3, 4], [5], [5, 6], [5, 7], [5], [5, 9], [5, 8, 10], [5, 8, 11], [5, 12], [11, 13], [14], [14, 15], [14], [14, 17], [14, 16, 18], [14, 16, 19], [14, 20], [19, 21], [22], [22, 23], [22, 24], [22], [22, 24, 26], [22, 25, 27], [22, 28], [27, 29], [30], [30, 31], [30], [30, 32, 33], [30, 32, 34], [30, 35], [34, 36], [37], [37, 38], [37], [37, 40], [37, 39, 41], [37, 39, 42], [37, 43], [42, 44], [45], [45, 46], [45, 47], [45], [45, 48, 49], [45, 50], [0, 1, 2, 3, 4, 5, 6, 7, 8, 9, 10, 11, 12, 13, 14, 15, 16, 17, 18, 19, 20, 21, 22, 23, 24, 25, 26, 27, 28, 29, 30, 31, 32, 33, 34, 35, 36, 37, 38, 39, 40, 41, 42, 43, 44, 45, 46, 47, 48, 49, 50, 51]]
          hf (by kernel_rfl) (by kernel_rfl) (fun _ => rfl) ((Below.refl _ _).drew) (fun a b h1 h2 => h1.trans (h2.mono h1.size)) (fun _ _ h => h.size) (fun V => ⟨kept_eq, kept_eq, kept_eq, kept_eq, kept_eq, kept_eq, kept_eq, kept_eq, kept_eq, kept_eq, kept_eq, kept_eq, kept_eq, kept_eq, kept_eq, kept_eq, kept_eq, kept_eq, kept_eq, kept_eq, kept_eq, kept_eq, kept_eq, kept_eq, keptX, kept_eq, kept_eq, kept_eq, kept_eq, kept_eq, kept_eq, kept_eq, kept_eq, kept_eq, kept_eq, kept_eq, kept_eq, kept_eq, kept_eq, kept_eq, kept_eq, kept_eq, kept_eq, kept_eq, kept_eq, kept_eq, kept_eq, kept_eq, kept_eq, kept_eq, kept_eq, kept_eq, kept_eq, trivial⟩) (fun _ _ _ _ _ => rfl) ?_ ?_
        · skip
          intro V
          refine ⟨fun wu0 hC hd => ?_, ?_⟩
          · clear hd
            replace hb := hb.trans (hC.mono hb.size)
            replace hkb1 := blk_ext hkb1 hC
            exact Runs.does (r_loadA (cs := [(.string t.1), (.string t.2.1)]) rfl Try.underlying67 rfl (by kernel_rfl) (cellsAt_blk hkb1)) ⟨Below.refl _ _, rfl, nofr rfl⟩
          refine ⟨fun wu1 hC hd => ?_, ?_⟩
          · obtain ⟨h0, _⟩ := hd
            skip
            replace h0 : V 0 = (.agg #[(.string t.1), (.string t.2.1)]) := h0
            replace hb := hb.trans (hC.mono hb.size)
            replace hkb1 := blk_ext hkb1 hC
            refine Does.mono (d_callB (vs := [(.agg #[(.string t.1), (.string t.2.1)])]) (show [some (V 0)] = [some (.agg #[(.string t.1), (.string t.2.1)])] from by rw [h0]) Try.func42 (by kernel_rfl) (by kernel_rfl) (tfunc_any t _ z1 z2)) (fun _ _ h => ⟨h.2, h.1, nofr rfl⟩)
          refine ⟨fun wu2 hC hd => ?_, ?_⟩
          · clear hd
            replace hb := hb.trans (hC.mono hb.size)
            replace hkb1 := blk_ext hkb1 hC
            exact Runs.does (r_loadA (cs := [(.string t.1), (.string t.2.1)]) rfl Try.underlying67 rfl (by kernel_rfl) (cellsAt_blk hkb1)) ⟨Below.refl _ _, rfl, nofr rfl⟩
          refine ⟨fun wu3 hC hd => ?_, ?_⟩
          · obtain ⟨h1, h2, _⟩ := hd
            skip
            skip
            replace h1 : V 1 = (.int .i64 ((tfuncP t))) := h1
            replace h2 : V 2 = (.agg #[(.string t.1), (.string t.2.1)]) := h2
            replace hb := hb.trans (hC.mono hb.size)
            replace hkb1 := blk_ext hkb1 hC
            refine Does.mono (d_callB (vs := [(.agg #[(.string t.1), (.string t.2.1)])]) (show [some (V 2)] = [some (.agg #[(.string t.1), (.string t.2.1)])] from by rw [h2]) Try.func43 (by kernel_rfl) (by kernel_rfl) (rfunc2_any t _ z1 z2)) (fun _ _ h => ⟨h.2, h.1, nofr rfl⟩)
          refine ⟨fun wu4 hC hd => ?_, ?_⟩
          · obtain ⟨h1, h3, _⟩ := hd
            skip
            skip
            replace h1 : V 1 = (.int .i64 ((tfuncP t))) := h1
            replace h3 : V 3 = (.int .i64 ((tfuncP t))) := h3
            replace hb := hb.trans (hC.mono hb.size)
            replace hkb1 := blk_ext hkb1 hC
            exact Runs.does (Runs.veq (r_eq (congrArg some h1) (congrArg some h3)) (congrArg Value.bool (show _ = true from (by simp)))) ⟨Below.refl _ _, rfl, nofr rfl⟩
          refine ⟨fun wu5 hC hd => ?_, ?_⟩
          · obtain ⟨h3, h4, _⟩ := hd
            skip
            skip
            replace h3 : V 3 = (.int .i64 ((tfuncP t))) := h3
            replace h4 : V 4 = (.bool true) := h4
            replace hb := hb.trans (hC.mono hb.size)
            replace hkb1 := blk_ext hkb1 hC
            exact Runs.does (r_move (congrArg some h4)) ⟨Below.refl _ _, rfl, nofr rfl⟩
          refine ⟨fun wu6 hC hd => ?_, ?_⟩
          · obtain ⟨h5, _⟩ := hd
            skip
            replace h5 : V 5 = (.bool true) := h5
            replace hb := hb.trans (hC.mono hb.size)
            replace hkb1 := blk_ext hkb1 hC
            refine ⟨true, true, congrArg some h5, fun hact => ?_, fun hact => ?_⟩
            · exact Runs.does (r_fa rfl Try.underlying67 (f := 0) (q := 0) rfl (by kernel_rfl) rfl) ⟨Below.refl _ _, rfl, nofr rfl⟩
            · exfalso; simp at hact
          refine ⟨fun wu7 hC hd => ?_, ?_⟩
          · obtain ⟨h5, h6, _⟩ := hd
            skip
            skip
            replace h5 : V 5 = (.bool true) := h5
            replace h6 : V 6 = (.pointer (some ⟨b1, 0, none⟩)) := h6
            replace hb := hb.trans (hC.mono hb.size)
            replace hkb1 := blk_ext hkb1 hC
            refine ⟨true, true, congrArg some h5, fun hact => ?_, fun hact => ?_⟩
            · exact Runs.does (r_load (v := (.string t.1)) (congrArg some h6) Try.underlying9 rfl (cell_blk hkb1 rfl)) ⟨Below.refl _ _, rfl, nofr rfl⟩
            · exfalso; simp at hact
          refine ⟨fun wu8 hC hd => ?_, ?_⟩
          · obtain ⟨h5, h7, _⟩ := hd
            skip
            skip
            replace h5 : V 5 = (.bool true) := h5
            replace h7 : V 7 = (.string t.1) := h7
            replace hb := hb.trans (hC.mono hb.size)
            replace hkb1 := blk_ext hkb1 hC
            refine ⟨true, true, congrArg some h5, fun hact => ?_, fun hact => ?_⟩
            · refine Does.mono (d_callB (vs := [(.string t.1)]) (show [some (V 7)] = [some (.string t.1)] from by rw [h7]) Try.func44 (by kernel_rfl) (by kernel_rfl) (values_any t.1 _ (by omega))) (fun _ _ h => ⟨h.2, h.1, nofr rfl⟩)
            · exfalso; simp at hact
          refine ⟨fun wu9 hC hd => ?_, ?_⟩
          · obtain ⟨h5, _⟩ := hd
            skip
            replace h5 : V 5 = (.bool true) := h5
            replace hb := hb.trans (hC.mono hb.size)
            replace hkb1 := blk_ext hkb1 hC
            refine ⟨true, true, congrArg some h5, fun hact => ?_, fun hact => ?_⟩
            · exact Runs.does (r_fa rfl Try.underlying67 (f := 0) (q := 0) rfl (by kernel_rfl) rfl) ⟨Below.refl _ _, rfl, nofr rfl⟩
            · exfalso; simp at hact
          refine ⟨fun wu10 hC hd => ?_, ?_⟩
          · obtain ⟨h5, h9, _⟩ := hd
            skip
            skip
            replace h5 : V 5 = (.bool true) := h5
            replace h9 : V 9 = (.pointer (some ⟨b1, 0, none⟩)) := h9
            replace hb := hb.trans (hC.mono hb.size)
            replace hkb1 := blk_ext hkb1 hC
            refine ⟨true, true, congrArg some h5, fun hact => ?_, fun hact => ?_⟩
            · exact Runs.does (r_load (v := (.string t.1)) (congrArg some h9) Try.underlying9 rfl (cell_blk hkb1 rfl)) ⟨Below.refl _ _, rfl, nofr rfl⟩
            · exfalso; simp at hact
          refine ⟨fun wu11 hC hd => ?_, ?_⟩
          · obtain ⟨h5, h8, h10, _⟩ := hd
            skip
            skip
            skip
            replace h5 : V 5 = (.bool true) := h5
            replace h8 : V 8 = (.int .i64 ((valsP t.1))) := h8
            replace h10 : V 10 = (.string t.1) := h10
            replace hb := hb.trans (hC.mono hb.size)
            replace hkb1 := blk_ext hkb1 hC
            refine ⟨true, true, congrArg some h5, fun hact => ?_, fun hact => ?_⟩
            · refine Does.mono (d_callB (vs := [(.string t.1)]) (show [some (V 10)] = [some (.string t.1)] from by rw [h10]) Try.func45 (by kernel_rfl) (by kernel_rfl) (rvalues_any t.1 _ (by omega))) (fun _ _ h => ⟨h.2, h.1, nofr rfl⟩)
            · exfalso; simp at hact
          refine ⟨fun wu12 hC hd => ?_, ?_⟩
          · obtain ⟨h5, h8, h11, _⟩ := hd
            skip
            skip
            skip
            replace h5 : V 5 = (.bool true) := h5
            replace h8 : V 8 = (.int .i64 ((valsP t.1))) := h8
            replace h11 : V 11 = (.int .i64 ((valsP t.1))) := h11
            replace hb := hb.trans (hC.mono hb.size)
            replace hkb1 := blk_ext hkb1 hC
            refine ⟨true, true, congrArg some h5, fun hact => ?_, fun hact => ?_⟩
            · exact Runs.does (Runs.veq (r_eq (congrArg some h8) (congrArg some h11)) (congrArg Value.bool (show _ = true from (by simp)))) ⟨Below.refl _ _, rfl, nofr rfl⟩
            · exfalso; simp at hact
          refine ⟨fun wu13 hC hd => ?_, ?_⟩
          · obtain ⟨h5, h12, _⟩ := hd
            skip
            skip
            replace h5 : V 5 = (.bool true) := h5
            replace h12 : V 12 = (.bool true) := h12
            replace hb := hb.trans (hC.mono hb.size)
            replace hkb1 := blk_ext hkb1 hC
            exact Runs.does (r_pick (b := true) (congrArg some h5) (congrArg some h12) rfl rfl) ⟨Below.refl _ _, rfl, nofr rfl⟩
          refine ⟨fun wu14 hC hd => ?_, ?_⟩
          · obtain ⟨h11, h13, _⟩ := hd
            skip
            skip
            replace h11 : V 11 = (.int .i64 ((valsP t.1))) := h11
            replace h13 : V 13 = (.bool true) := h13
            replace hb := hb.trans (hC.mono hb.size)
            replace hkb1 := blk_ext hkb1 hC
            exact Runs.does (r_move (congrArg some h13)) ⟨Below.refl _ _, rfl, nofr rfl⟩
          refine ⟨fun wu15 hC hd => ?_, ?_⟩
          · obtain ⟨h14, _⟩ := hd
            skip
            replace h14 : V 14 = (.bool true) := h14
            replace hb := hb.trans (hC.mono hb.size)
            replace hkb1 := blk_ext hkb1 hC
            refine ⟨true, true, congrArg some h14, fun hact => ?_, fun hact => ?_⟩
            · exact Runs.does (r_move rfl) ⟨Below.refl _ _, rfl, nofr rfl⟩
            · exfalso; simp at hact
          refine ⟨fun wu16 hC hd => ?_, ?_⟩
          · obtain ⟨h14, h15, _⟩ := hd
            skip
            skip
            replace h14 : V 14 = (.bool true) := h14
            replace h15 : V 15 = (.int .u8 b) := h15
            replace hb := hb.trans (hC.mono hb.size)
            replace hkb1 := blk_ext hkb1 hC
            refine ⟨true, true, congrArg some h14, fun hact => ?_, fun hact => ?_⟩
            · refine Does.mono (d_callS (vs := [(.int .u8 b)]) (show [some (V 15)] = [some (.int .u8 b)] from by rw [h15]) Try.func46 (by kernel_rfl) (by kernel_rfl) (tval_any b _)) (fun _ _ h => ⟨h.2 ▸ Below.refl _ _, h.1, nofr rfl⟩)
            · exfalso; simp at hact
          refine ⟨fun wu17 hC hd => ?_, ?_⟩
          · obtain ⟨h14, _⟩ := hd
            skip
            replace h14 : V 14 = (.bool true) := h14
            replace hb := hb.trans (hC.mono hb.size)
            replace hkb1 := blk_ext hkb1 hC
            refine ⟨true, true, congrArg some h14, fun hact => ?_, fun hact => ?_⟩
            · exact Runs.does (r_move rfl) ⟨Below.refl _ _, rfl, nofr rfl⟩
            · exfalso; simp at hact
          refine ⟨fun wu18 hC hd => ?_, ?_⟩
          · obtain ⟨h14, h17, _⟩ := hd
            skip
            skip
            replace h14 : V 14 = (.bool true) := h14
            replace h17 : V 17 = (.int .u8 b) := h17
            replace hb := hb.trans (hC.mono hb.size)
            replace hkb1 := blk_ext hkb1 hC
            refine ⟨true, true, congrArg some h14, fun hact => ?_, fun hact => ?_⟩
            · exact Runs.does (r_conv (C := b) (congrArg some h17) Try.underlying5 Try.underlying3 (by rw [IntKind.wrap_i64]; omega)) ⟨Below.refl _ _, rfl, nofr rfl⟩
            · exfalso; simp at hact
          refine ⟨fun wu19 hC hd => ?_, ?_⟩
          · obtain ⟨h14, h16, h18, _⟩ := hd
            skip
            skip
            skip
            replace h14 : V 14 = (.bool true) := h14
            replace h16 : V 16 = (.int .i64 ((tvalP b))) := h16
            replace h18 : V 18 = (.int .i64 b) := h18
            replace hb := hb.trans (hC.mono hb.size)
            replace hkb1 := blk_ext hkb1 hC
            refine ⟨true, true, congrArg some h14, fun hact => ?_, fun hact => ?_⟩
            · refine Does.mono (d_callS (vs := [(.int .i64 b)]) (show [some (V 18)] = [some (.int .i64 b)] from by rw [h18]) Try.func35 (by kernel_rfl) (by kernel_rfl) (rval2_any b _)) (fun _ _ h => ⟨h.2 ▸ Below.refl _ _, h.1, nofr rfl⟩)
            · exfalso; simp at hact
          refine ⟨fun wu20 hC hd => ?_, ?_⟩
          · obtain ⟨h14, h16, h19, _⟩ := hd
            skip
            skip
            skip
            replace h14 : V 14 = (.bool true) := h14
            replace h16 : V 16 = (.int .i64 ((tvalP b))) := h16
            replace h19 : V 19 = (.int .i64 ((tvalP b))) := h19
            replace hb := hb.trans (hC.mono hb.size)
            replace hkb1 := blk_ext hkb1 hC
            refine ⟨true, true, congrArg some h14, fun hact => ?_, fun hact => ?_⟩
            · exact Runs.does (Runs.veq (r_eq (congrArg some h16) (congrArg some h19)) (congrArg Value.bool (show _ = true from (by simp)))) ⟨Below.refl _ _, rfl, nofr rfl⟩
            · exfalso; simp at hact
          refine ⟨fun wu21 hC hd => ?_, ?_⟩
          · obtain ⟨h14, h20, _⟩ := hd
            skip
            skip
            replace h14 : V 14 = (.bool true) := h14
            replace h20 : V 20 = (.bool true) := h20
            replace hb := hb.trans (hC.mono hb.size)
            replace hkb1 := blk_ext hkb1 hC
            exact Runs.does (r_pick (b := true) (congrArg some h14) (congrArg some h20) rfl rfl) ⟨Below.refl _ _, rfl, nofr rfl⟩
          refine ⟨fun wu22 hC hd => ?_, ?_⟩
          · obtain ⟨h19, h21, _⟩ := hd
            skip
            skip
            replace h19 : V 19 = (.int .i64 ((tvalP b))) := h19
            replace h21 : V 21 = (.bool true) := h21
            replace hb := hb.trans (hC.mono hb.size)
            replace hkb1 := blk_ext hkb1 hC
            exact Runs.does (r_move (congrArg some h21)) ⟨Below.refl _ _, rfl, nofr rfl⟩
          refine ⟨fun wu23 hC hd => ?_, ?_⟩
          · obtain ⟨h22, _⟩ := hd
            skip
            replace h22 : V 22 = (.bool true) := h22
            replace hb := hb.trans (hC.mono hb.size)
            replace hkb1 := blk_ext hkb1 hC
            refine ⟨true, true, congrArg some h22, fun hact => ?_, fun hact => ?_⟩
            · exact Runs.does (r_loadA (cs := [(.string t.1), (.string t.2.1)]) rfl Try.underlying67 rfl (by kernel_rfl) (cellsAt_blk hkb1)) ⟨Below.refl _ _, rfl, nofr rfl⟩
            · exfalso; simp at hact
          refine ⟨fun wu24 hC hd => ?_, ?_⟩
          · obtain ⟨h22, h23, _⟩ := hd
            skip
            skip
            replace h22 : V 22 = (.bool true) := h22
            replace h23 : V 23 = (.agg #[(.string t.1), (.string t.2.1)]) := h23
            replace hb := hb.trans (hC.mono hb.size)
            replace hkb1 := blk_ext hkb1 hC
            refine ⟨true, true, congrArg some h22, fun hact => ?_, fun hact => ?_⟩
            · refine Does.mono (d_callX (vs := [(.agg #[(.string t.1), (.string t.2.1)])]) (show [some (V 23)] = [some (.agg #[(.string t.1), (.string t.2.1)])] from by rw [h23]) Try.func47 (by kernel_rfl) (by kernel_rfl) (encf_any t _ z1 z2)) ?_
              rintro _ w' ⟨hF2, hF3⟩
              obtain ⟨ra, rc, rfl, _, _⟩ := Row.slice hF2
              obtain ⟨b, rfl, hF, hF4⟩ := Row.some hF2 (by first | omega | (simp only [Sl.list_length, List.length_set, List.length_take, List.length_append, List.length_replicate, List.length_cons, List.length_nil, List.length_map, nums_len]; omega))
              exact ⟨hF3, ⟨b, ⟨rc, rfl⟩, Nat.le_trans hC.size hF, hF2.rebase hC.size⟩, isfr rfl hF (Row.lt hF2 _ rfl).2⟩
            · exfalso; simp at hact
          refine ⟨fun wu25 hC hd => ?_, ?_⟩
          · obtain ⟨h22, h24, _⟩ := hd
            skip
            skip
            replace h22 : V 22 = (.bool true) := h22
            obtain ⟨mb1, ⟨mc1, h24⟩, hle2, hr1⟩ := h24
            rw [h24] at hr1
            replace hb := hb.trans (hC.mono hb.size)
            replace hkb1 := blk_ext hkb1 hC
            refine ⟨true, true, congrArg some h22, fun hact => ?_, fun hact => ?_⟩
            · exact Runs.does (r_rowstr (congrArg some h24) Try.underlying47 Try.underlying5 Try.underlying9 hr1) ⟨Below.refl _ _, rfl, nofr rfl⟩
            · exfalso; simp at hact
          refine ⟨fun wu26 hC hd => ?_, ?_⟩
          · obtain ⟨h22, _⟩ := hd
            skip
            replace h22 : V 22 = (.bool true) := h22
            replace hb := hb.trans (hC.mono hb.size)
            replace hkb1 := blk_ext hkb1 hC
            refine ⟨true, true, congrArg some h22, fun hact => ?_, fun hact => ?_⟩
            · exact Runs.does (r_loadA (cs := [(.string t.1), (.string t.2.1)]) rfl Try.underlying67 rfl (by kernel_rfl) (cellsAt_blk hkb1)) ⟨Below.refl _ _, rfl, nofr rfl⟩
            · exfalso; simp at hact
          refine ⟨fun wu27 hC hd => ?_, ?_⟩
          · obtain ⟨h22, h24, h26, _⟩ := hd
            skip
            skip
            skip
            replace h22 : V 22 = (.bool true) := h22
            obtain ⟨mb1, ⟨mc1, h24⟩, hle2, hr1⟩ := h24
            rw [h24] at hr1
            replace h26 : V 26 = (.agg #[(.string t.1), (.string t.2.1)]) := h26
            replace hb := hb.trans (hC.mono hb.size)
            replace hkb1 := blk_ext hkb1 hC
            refine ⟨true, true, congrArg some h22, fun hact => ?_, fun hact => ?_⟩
            · refine Does.mono (d_callB (vs := [(.agg #[(.string t.1), (.string t.2.1)])]) (show [some (V 26)] = [some (.agg #[(.string t.1), (.string t.2.1)])] from by rw [h26]) Try.func48 (by kernel_rfl) (by kernel_rfl) (rencf_any t _ z1 z2)) (fun _ _ h => ⟨h.2, h.1, nofr rfl⟩)
            · exfalso; simp at hact
          refine ⟨fun wu28 hC hd => ?_, ?_⟩
          · obtain ⟨h22, h25, h27, _⟩ := hd
            skip
            skip
            skip
            replace h22 : V 22 = (.bool true) := h22
            replace h25 : V 25 = (.string (strOfNums (encF t))) := h25
            replace h27 : V 27 = (.string (strOfNums (encF t))) := h27
            replace hb := hb.trans (hC.mono hb.size)
            replace hkb1 := blk_ext hkb1 hC
            refine ⟨true, true, congrArg some h22, fun hact => ?_, fun hact => ?_⟩
            · exact Runs.does (Runs.veq (r_seq (congrArg some h25) (congrArg some h27)) (congrArg Value.bool (show _ = true from (by simp)))) ⟨Below.refl _ _, rfl, nofr rfl⟩
            · exfalso; simp at hact
          refine ⟨fun wu29 hC hd => ?_, ?_⟩
          · obtain ⟨h22, h28, _⟩ := hd
            skip
            skip
            replace h22 : V 22 = (.bool true) := h22
            replace h28 : V 28 = (.bool true) := h28
            replace hb := hb.trans (hC.mono hb.size)
            replace hkb1 := blk_ext hkb1 hC
            exact Runs.does (r_pick (b := true) (congrArg some h22) (congrArg some h28) rfl rfl) ⟨Below.refl _ _, rfl, nofr rfl⟩
          refine ⟨fun wu30 hC hd => ?_, ?_⟩
          · obtain ⟨h27, h29, _⟩ := hd
            skip
            skip
            replace h27 : V 27 = (.string (strOfNums (encF t))) := h27
            replace h29 : V 29 = (.bool true) := h29
            replace hb := hb.trans (hC.mono hb.size)
            replace hkb1 := blk_ext hkb1 hC
            exact Runs.does (r_move (congrArg some h29)) ⟨Below.refl _ _, rfl, nofr rfl⟩
          refine ⟨fun wu31 hC hd => ?_, ?_⟩
          · obtain ⟨h30, _⟩ := hd
            skip
            replace h30 : V 30 = (.bool true) := h30
            replace hb := hb.trans (hC.mono hb.size)
            replace hkb1 := blk_ext hkb1 hC
            refine ⟨true, true, congrArg some h30, fun hact => ?_, fun hact => ?_⟩
            · exact Runs.does (r_loadA (cs := [(.string t.1), (.string t.2.1)]) rfl Try.underlying67 rfl (by kernel_rfl) (cellsAt_blk hkb1)) ⟨Below.refl _ _, rfl, nofr rfl⟩
            · exfalso; simp at hact
          refine ⟨fun wu32 hC hd => ?_, ?_⟩
          · obtain ⟨h30, h31, _⟩ := hd
            skip
            skip
            replace h30 : V 30 = (.bool true) := h30
            replace h31 : V 31 = (.agg #[(.string t.1), (.string t.2.1)]) := h31
            replace hb := hb.trans (hC.mono hb.size)
            replace hkb1 := blk_ext hkb1 hC
            refine ⟨true, true, congrArg some h30, fun hact => ?_, fun hact => ?_⟩
            · refine Does.mono (d_callB (vs := [(.agg #[(.string t.1), (.string t.2.1)])]) (show [some (V 31)] = [some (.agg #[(.string t.1), (.string t.2.1)])] from by rw [h31]) Try.func49 (by kernel_rfl) (by kernel_rfl) (text_any t _ z1 z2)) (fun _ _ h => ⟨h.2, h.1, nofr rfl⟩)
            · exfalso; simp at hact
          refine ⟨fun wu33 hC hd => ?_, ?_⟩
          · obtain ⟨h30, _⟩ := hd
            skip
            replace h30 : V 30 = (.bool true) := h30
            replace hb := hb.trans (hC.mono hb.size)
            replace hkb1 := blk_ext hkb1 hC
            refine ⟨true, true, congrArg some h30, fun hact => ?_, fun hact => ?_⟩
            · exact Runs.does (r_loadA (cs := [(.string t.1), (.string t.2.1)]) rfl Try.underlying67 rfl (by kernel_rfl) (cellsAt_blk hkb1)) ⟨Below.refl _ _, rfl, nofr rfl⟩
            · exfalso; simp at hact
          refine ⟨fun wu34 hC hd => ?_, ?_⟩
          · obtain ⟨h30, h32, h33, _⟩ := hd
            skip
            skip
            skip
            replace h30 : V 30 = (.bool true) := h30
            replace h32 : V 32 = (.string (textP t)) := h32
            replace h33 : V 33 = (.agg #[(.string t.1), (.string t.2.1)]) := h33
            replace hb := hb.trans (hC.mono hb.size)
            replace hkb1 := blk_ext hkb1 hC
            refine ⟨true, true, congrArg some h30, fun hact => ?_, fun hact => ?_⟩
            · refine Does.mono (d_callB (vs := [(.agg #[(.string t.1), (.string t.2.1)])]) (show [some (V 33)] = [some (.agg #[(.string t.1), (.string t.2.1)])] from by rw [h33]) Try.func50 (by kernel_rfl) (by kernel_rfl) (rtext_any t _ z1 z2)) (fun _ _ h => ⟨h.2, h.1, nofr rfl⟩)
            · exfalso; simp at hact
          refine ⟨fun wu35 hC hd => ?_, ?_⟩
          · obtain ⟨h30, h32, h34, _⟩ := hd
            skip
            skip
            skip
            replace h30 : V 30 = (.bool true) := h30
            replace h32 : V 32 = (.string (textP t)) := h32
            replace h34 : V 34 = (.string (textP t)) := h34
            replace hb := hb.trans (hC.mono hb.size)
            replace hkb1 := blk_ext hkb1 hC
            refine ⟨true, true, congrArg some h30, fun hact => ?_, fun hact => ?_⟩
            · exact Runs.does (Runs.veq (r_seq (congrArg some h32) (congrArg some h34)) (congrArg Value.bool (show _ = true from (by simp)))) ⟨Below.refl _ _, rfl, nofr rfl⟩
            · exfalso; simp at hact
          refine ⟨fun wu36 hC hd => ?_, ?_⟩
          · obtain ⟨h30, h35, _⟩ := hd
            skip
            skip
            replace h30 : V 30 = (.bool true) := h30
            replace h35 : V 35 = (.bool true) := h35
            replace hb := hb.trans (hC.mono hb.size)
            replace hkb1 := blk_ext hkb1 hC
            exact Runs.does (r_pick (b := true) (congrArg some h30) (congrArg some h35) rfl rfl) ⟨Below.refl _ _, rfl, nofr rfl⟩
          refine ⟨fun wu37 hC hd => ?_, ?_⟩
          · obtain ⟨h34, h36, _⟩ := hd
            skip
            skip
            replace h34 : V 34 = (.string (textP t)) := h34
            replace h36 : V 36 = (.bool true) := h36
            replace hb := hb.trans (hC.mono hb.size)
            replace hkb1 := blk_ext hkb1 hC
            exact Runs.does (r_move (congrArg some h36)) ⟨Below.refl _ _, rfl, nofr rfl⟩
          refine ⟨fun wu38 hC hd => ?_, ?_⟩
          · obtain ⟨h37, _⟩ := hd
            skip
            replace h37 : V 37 = (.bool true) := h37
            replace hb := hb.trans (hC.mono hb.size)
            replace hkb1 := blk_ext hkb1 hC
            refine ⟨true, true, congrArg some h37, fun hact => ?_, fun hact => ?_⟩
            · exact Runs.does (r_move rfl) ⟨Below.refl _ _, rfl, nofr rfl⟩
            · exfalso; simp at hact
          refine ⟨fun wu39 hC hd => ?_, ?_⟩
          · obtain ⟨h37, h38, _⟩ := hd
            skip
            skip
            replace h37 : V 37 = (.bool true) := h37
            replace h38 : V 38 = (.int .u8 b) := h38
            replace hb := hb.trans (hC.mono hb.size)
            replace hkb1 := blk_ext hkb1 hC
            refine ⟨true, true, congrArg some h37, fun hact => ?_, fun hact => ?_⟩
            · refine Does.mono (d_callS (vs := [(.int .u8 b)]) (show [some (V 38)] = [some (.int .u8 b)] from by rw [h38]) Try.func51 (by kernel_rfl) (by kernel_rfl) (tname_any b _)) (fun _ _ h => ⟨h.2 ▸ Below.refl _ _, h.1, nofr rfl⟩)
            · exfalso; simp at hact
          refine ⟨fun wu40 hC hd => ?_, ?_⟩
          · obtain ⟨h37, _⟩ := hd
            skip
            replace h37 : V 37 = (.bool true) := h37
            replace hb := hb.trans (hC.mono hb.size)
            replace hkb1 := blk_ext hkb1 hC
            refine ⟨true, true, congrArg some h37, fun hact => ?_, fun hact => ?_⟩
            · exact Runs.does (r_move rfl) ⟨Below.refl _ _, rfl, nofr rfl⟩
            · exfalso; simp at hact
          refine ⟨fun wu41 hC hd => ?_, ?_⟩
          · obtain ⟨h37, h40, _⟩ := hd
            skip
            skip
            replace h37 : V 37 = (.bool true) := h37
            replace h40 : V 40 = (.int .u8 b) := h40
            replace hb := hb.trans (hC.mono hb.size)
            replace hkb1 := blk_ext hkb1 hC
            refine ⟨true, true, congrArg some h37, fun hact => ?_, fun hact => ?_⟩
            · exact Runs.does (r_conv (C := b) (congrArg some h40) Try.underlying5 Try.underlying3 (by rw [IntKind.wrap_i64]; omega)) ⟨Below.refl _ _, rfl, nofr rfl⟩
            · exfalso; simp at hact
          refine ⟨fun wu42 hC hd => ?_, ?_⟩
          · obtain ⟨h37, h39, h41, _⟩ := hd
            skip
            skip
            skip
            replace h37 : V 37 = (.bool true) := h37
            replace h39 : V 39 = (.string (tnameP b)) := h39
            replace h41 : V 41 = (.int .i64 b) := h41
            replace hb := hb.trans (hC.mono hb.size)
            replace hkb1 := blk_ext hkb1 hC
            refine ⟨true, true, congrArg some h37, fun hact => ?_, fun hact => ?_⟩
            · refine Does.mono (d_callB (vs := [(.int .i64 b)]) (show [some (V 41)] = [some (.int .i64 b)] from by rw [h41]) Try.func41 (by kernel_rfl) (by kernel_rfl) (rname2_any b _ (by omega))) (fun _ _ h => ⟨h.2, h.1, nofr rfl⟩)
            · exfalso; simp at hact
          refine ⟨fun wu43 hC hd => ?_, ?_⟩
          · obtain ⟨h37, h39, h42, _⟩ := hd
            skip
            skip
            skip
            replace h37 : V 37 = (.bool true) := h37
            replace h39 : V 39 = (.string (tnameP b)) := h39
            replace h42 : V 42 = (.string (tnameP b)) := h42
            replace hb := hb.trans (hC.mono hb.size)
            replace hkb1 := blk_ext hkb1 hC
            refine ⟨true, true, congrArg some h37, fun hact => ?_, fun hact => ?_⟩
            · exact Runs.does (Runs.veq (r_seq (congrArg some h39) (congrArg some h42)) (congrArg Value.bool (show _ = true from (by simp)))) ⟨Below.refl _ _, rfl, nofr rfl⟩
            · exfalso; simp at hact
          refine ⟨fun wu44 hC hd => ?_, ?_⟩
          · obtain ⟨h37, h43, _⟩ := hd
            skip
            skip
            replace h37 : V 37 = (.bool true) := h37
            replace h43 : V 43 = (.bool true) := h43
            replace hb := hb.trans (hC.mono hb.size)
            replace hkb1 := blk_ext hkb1 hC
            exact Runs.does (r_pick (b := true) (congrArg some h37) (congrArg some h43) rfl rfl) ⟨Below.refl _ _, rfl, nofr rfl⟩
          refine ⟨fun wu45 hC hd => ?_, ?_⟩
          · obtain ⟨h42, h44, _⟩ := hd
            skip
            skip
            replace h42 : V 42 = (.string (tnameP b)) := h42
            replace h44 : V 44 = (.bool true) := h44
            replace hb := hb.trans (hC.mono hb.size)
            replace hkb1 := blk_ext hkb1 hC
            exact Runs.does (r_move (congrArg some h44)) ⟨Below.refl _ _, rfl, nofr rfl⟩
          refine ⟨fun wu46 hC hd => ?_, ?_⟩
          · obtain ⟨h45, _⟩ := hd
            skip
            replace h45 : V 45 = (.bool true) := h45
            replace hb := hb.trans (hC.mono hb.size)
            replace hkb1 := blk_ext hkb1 hC
            refine ⟨true, true, congrArg some h45, fun hact => ?_, fun hact => ?_⟩
            · exact Runs.does (r_move rfl) ⟨Below.refl _ _, rfl, nofr rfl⟩
            · exfalso; simp at hact
          refine ⟨fun wu47 hC hd => ?_, ?_⟩
          · obtain ⟨h45, h46, _⟩ := hd
            skip
            skip
            replace h45 : V 45 = (.bool true) := h45
            replace h46 : V 46 = (.string s) := h46
            replace hb := hb.trans (hC.mono hb.size)
            replace hkb1 := blk_ext hkb1 hC
            refine ⟨true, true, congrArg some h45, fun hact => ?_, fun hact => ?_⟩
            · refine Does.mono (d_callB (vs := [(.string s)]) (show [some (V 46)] = [some (.string s)] from by rw [h46]) Try.func52 (by kernel_rfl) (by kernel_rfl) (byte_any s _)) (fun _ _ h => ⟨h.2, h.1, nofr rfl⟩)
            · exfalso; simp at hact
          refine ⟨fun wu48 hC hd => ?_, ?_⟩
          · obtain ⟨h45, h47, _⟩ := hd
            skip
            skip
            replace h45 : V 45 = (.bool true) := h45
            replace h47 : V 47 = (.int .u8 ((byteP s))) := h47
            replace hb := hb.trans (hC.mono hb.size)
            replace hkb1 := blk_ext hkb1 hC
            refine ⟨true, true, congrArg some h45, fun hact => ?_, fun hact => ?_⟩
            · exact Runs.does (r_conv (C := ((byteP s))) (congrArg some h47) Try.underlying5 Try.underlying3 (by rw [IntKind.wrap_i64]; omega)) ⟨Below.refl _ _, rfl, nofr rfl⟩
            · exfalso; simp at hact
          refine ⟨fun wu49 hC hd => ?_, ?_⟩
          · obtain ⟨h45, _⟩ := hd
            skip
            replace h45 : V 45 = (.bool true) := h45
            replace hb := hb.trans (hC.mono hb.size)
            replace hkb1 := blk_ext hkb1 hC
            refine ⟨true, true, congrArg some h45, fun hact => ?_, fun hact => ?_⟩
            · exact Runs.does (r_move rfl) ⟨Below.refl _ _, rfl, nofr rfl⟩
            · exfalso; simp at hact
          refine ⟨fun wu50 hC hd => ?_, ?_⟩
          · obtain ⟨h45, h48, h49, _⟩ := hd
            skip
            skip
            skip
            replace h45 : V 45 = (.bool true) := h45
            replace h48 : V 48 = (.int .i64 ((byteP s))) := h48
            replace h49 : V 49 = (.int .i64 o) := h49
            replace hb := hb.trans (hC.mono hb.size)
            replace hkb1 := blk_ext hkb1 hC
            refine ⟨true, true, congrArg some h45, fun hact => ?_, fun hact => ?_⟩
            · exact Runs.does (Runs.veq (r_eq (congrArg some h48) (congrArg some h49)) (congrArg Value.bool (show _ = true from (by rw [hof]; simp)))) ⟨Below.refl _ _, rfl, nofr rfl⟩
            · exfalso; simp at hact
          refine ⟨fun wu51 hC hd => ?_, ?_⟩
          · obtain ⟨h45, h50, _⟩ := hd
            skip
            skip
            replace h45 : V 45 = (.bool true) := h45
            replace h50 : V 50 = (.bool true) := h50
            replace hb := hb.trans (hC.mono hb.size)
            replace hkb1 := blk_ext hkb1 hC
            exact Runs.does (r_pick (b := true) (congrArg some h45) (congrArg some h50) rfl rfl) ⟨Below.refl _ _, rfl, nofr rfl⟩
          refine ⟨fun wu52 hC hd => ?_, ?_⟩
          · obtain ⟨h0, h1, h2, h3, h4, h5, h6, h7, h8, h9, h10, h11, h12, h13, h14, h15, h16, h17, h18, h19, h20, h21, h22, h23, h24, h25, h26, h27, h28, h29, h30, h31, h32, h33, h34, h35, h36, h37, h38, h39, h40, h41, h42, h43, h44, h45, h46, h47, h48, h49, h50, h51, _⟩ := hd
            skip
            skip
            skip
            skip
            skip
            skip
            skip
            skip
            skip
            skip
            skip
            skip
            skip
            skip
            skip
            skip
            skip
            skip
            skip
            skip
            skip
            skip
            skip
            skip
            skip
            skip
            skip
            skip
            skip
            skip
            skip
            skip
            skip
            skip
            skip
            skip
            skip
            skip
            skip
            skip
            skip
            skip
            skip
            skip
            skip
            skip
            skip
            skip
            skip
            skip
            skip
            skip
            replace h0 : V 0 = (.agg #[(.string t.1), (.string t.2.1)]) := h0
            replace h1 : V 1 = (.int .i64 ((tfuncP t))) := h1
            replace h2 : V 2 = (.agg #[(.string t.1), (.string t.2.1)]) := h2
            replace h3 : V 3 = (.int .i64 ((tfuncP t))) := h3
            replace h4 : V 4 = (.bool true) := h4
            replace h5 : V 5 = (.bool true) := h5
            replace h6 : V 6 = (.pointer (some ⟨b1, 0, none⟩)) := h6
            replace h7 : V 7 = (.string t.1) := h7
            replace h8 : V 8 = (.int .i64 ((valsP t.1))) := h8
            replace h9 : V 9 = (.pointer (some ⟨b1, 0, none⟩)) := h9
            replace h10 : V 10 = (.string t.1) := h10
            replace h11 : V 11 = (.int .i64 ((valsP t.1))) := h11
            replace h12 : V 12 = (.bool true) := h12
            replace h13 : V 13 = (.bool true) := h13
            replace h14 : V 14 = (.bool true) := h14
            replace h15 : V 15 = (.int .u8 b) := h15
            replace h16 : V 16 = (.int .i64 ((tvalP b))) := h16
            replace h17 : V 17 = (.int .u8 b) := h17
            replace h18 : V 18 = (.int .i64 b) := h18
            replace h19 : V 19 = (.int .i64 ((tvalP b))) := h19
            replace h20 : V 20 = (.bool true) := h20
            replace h21 : V 21 = (.bool true) := h21
            replace h22 : V 22 = (.bool true) := h22
            replace h23 : V 23 = (.agg #[(.string t.1), (.string t.2.1)]) := h23
            obtain ⟨mb1, ⟨mc1, h24⟩, hle2, hr1⟩ := h24
            rw [h24] at hr1
            replace h25 : V 25 = (.string (strOfNums (encF t))) := h25
            replace h26 : V 26 = (.agg #[(.string t.1), (.string t.2.1)]) := h26
            replace h27 : V 27 = (.string (strOfNums (encF t))) := h27
            replace h28 : V 28 = (.bool true) := h28
            replace h29 : V 29 = (.bool true) := h29
            replace h30 : V 30 = (.bool true) := h30
            replace h31 : V 31 = (.agg #[(.string t.1), (.string t.2.1)]) := h31
            replace h32 : V 32 = (.string (textP t)) := h32
            replace h33 : V 33 = (.agg #[(.string t.1), (.string t.2.1)]) := h33
            replace h34 : V 34 = (.string (textP t)) := h34
            replace h35 : V 35 = (.bool true) := h35
            replace h36 : V 36 = (.bool true) := h36
            replace h37 : V 37 = (.bool true) := h37
            replace h38 : V 38 = (.int .u8 b) := h38
            replace h39 : V 39 = (.string (tnameP b)) := h39
            replace h40 : V 40 = (.int .u8 b) := h40
            replace h41 : V 41 = (.int .i64 b) := h41
            replace h42 : V 42 = (.string (tnameP b)) := h42
            replace h43 : V 43 = (.bool true) := h43
            replace h44 : V 44 = (.bool true) := h44
            replace h45 : V 45 = (.bool true) := h45
            replace h46 : V 46 = (.string s) := h46
            replace h47 : V 47 = (.int .u8 ((byteP s))) := h47
            replace h48 : V 48 = (.int .i64 ((byteP s))) := h48
            replace h49 : V 49 = (.int .i64 o) := h49
            replace h50 : V 50 = (.bool true) := h50
            replace h51 : V 51 = (.bool true) := h51
            replace hb := hb.trans (hC.mono hb.size)
            replace hkb1 := blk_ext hkb1 hC
            exact Runs.does (r_assign (congrArg some h51)) ⟨Below.refl _ _, rfl, nofr rfl⟩
          trivial
        · skip
          clear hf fa; intro V w5 fa he4 hp hnb hf
          have hv0 : V 0 = (.agg #[(.string t.1), (.string t.2.1)]) := postsHold_at hp 0 rfl
          have hv1 : V 1 = (.int .i64 ((tfuncP t))) := postsHold_at hp 1 rfl
          have hv2 : V 2 = (.agg #[(.string t.1), (.string t.2.1)]) := postsHold_at hp 2 rfl
          have hv3 : V 3 = (.int .i64 ((tfuncP t))) := postsHold_at hp 3 rfl
          have hv4 : V 4 = (.bool true) := postsHold_at hp 4 rfl
          have hv5 : V 5 = (.bool true) := postsHold_at hp 5 rfl
          have hv6 : V 6 = (.pointer (some ⟨b1, 0, none⟩)) := postsHold_at hp 6 rfl
          have hv7 : V 7 = (.string t.1) := postsHold_at hp 7 rfl
          have hv8 : V 8 = (.int .i64 ((valsP t.1))) := postsHold_at hp 8 rfl
          have hv9 : V 9 = (.pointer (some ⟨b1, 0, none⟩)) := postsHold_at hp 9 rfl
          have hv10 : V 10 = (.string t.1) := postsHold_at hp 10 rfl
          have hv11 : V 11 = (.int .i64 ((valsP t.1))) := postsHold_at hp 11 rfl
          have hv12 : V 12 = (.bool true) := postsHold_at hp 12 rfl
          have hv13 : V 13 = (.bool true) := postsHold_at hp 13 rfl
          have hv14 : V 14 = (.bool true) := postsHold_at hp 14 rfl
          have hv15 : V 15 = (.int .u8 b) := postsHold_at hp 15 rfl
          have hv16 : V 16 = (.int .i64 ((tvalP b))) := postsHold_at hp 16 rfl
          have hv17 : V 17 = (.int .u8 b) := postsHold_at hp 17 rfl
          have hv18 : V 18 = (.int .i64 b) := postsHold_at hp 18 rfl
          have hv19 : V 19 = (.int .i64 ((tvalP b))) := postsHold_at hp 19 rfl
          have hv20 : V 20 = (.bool true) := postsHold_at hp 20 rfl
          have hv21 : V 21 = (.bool true) := postsHold_at hp 21 rfl
          have hv22 : V 22 = (.bool true) := postsHold_at hp 22 rfl
          have hv23 : V 23 = (.agg #[(.string t.1), (.string t.2.1)]) := postsHold_at hp 23 rfl
          have hv24 := postsHold_at hp 24 rfl
          obtain ⟨mb1, ⟨mc1, hv24⟩, hle2, hr1⟩ := hv24
          rw [hv24] at hr1
          replace hr1 := Row.rebase hr1 hb.size
          have hcmc1 := Row.caps hr1
          have hBmb1 : w.heap.size ≤ mb1 := Nat.le_trans hb.size hle2
          have hv25 : V 25 = (.string (strOfNums (encF t))) := postsHold_at hp 25 rfl
          have hv26 : V 26 = (.agg #[(.string t.1), (.string t.2.1)]) := postsHold_at hp 26 rfl
          have hv27 : V 27 = (.string (strOfNums (encF t))) := postsHold_at hp 27 rfl
          have hv28 : V 28 = (.bool true) := postsHold_at hp 28 rfl
          have hv29 : V 29 = (.bool true) := postsHold_at hp 29 rfl
          have hv30 : V 30 = (.bool true) := postsHold_at hp 30 rfl
          have hv31 : V 31 = (.agg #[(.string t.1), (.string t.2.1)]) := postsHold_at hp 31 rfl
          have hv32 : V 32 = (.string (textP t)) := postsHold_at hp 32 rfl
          have hv33 : V 33 = (.agg #[(.string t.1), (.string t.2.1)]) := postsHold_at hp 33 rfl
          have hv34 : V 34 = (.string (textP t)) := postsHold_at hp 34 rfl
          have hv35 : V 35 = (.bool true) := postsHold_at hp 35 rfl
          have hv36 : V 36 = (.bool true) := postsHold_at hp 36 rfl
          have hv37 : V 37 = (.bool true) := postsHold_at hp 37 rfl
          have hv38 : V 38 = (.int .u8 b) := postsHold_at hp 38 rfl
          have hv39 : V 39 = (.string (tnameP b)) := postsHold_at hp 39 rfl
          have hv40 : V 40 = (.int .u8 b) := postsHold_at hp 40 rfl
          have hv41 : V 41 = (.int .i64 b) := postsHold_at hp 41 rfl
          have hv42 : V 42 = (.string (tnameP b)) := postsHold_at hp 42 rfl
          have hv43 : V 43 = (.bool true) := postsHold_at hp 43 rfl
          have hv44 : V 44 = (.bool true) := postsHold_at hp 44 rfl
          have hv45 : V 45 = (.bool true) := postsHold_at hp 45 rfl
          have hv46 : V 46 = (.string s) := postsHold_at hp 46 rfl
          have hv47 : V 47 = (.int .u8 ((byteP s))) := postsHold_at hp 47 rfl
          have hv48 : V 48 = (.int .i64 ((byteP s))) := postsHold_at hp 48 rfl
          have hv49 : V 49 = (.int .i64 o) := postsHold_at hp 49 rfl
          have hv50 : V 50 = (.bool true) := postsHold_at hp 50 rfl
          have hv51 : V 51 = (.bool true) := postsHold_at hp 51 rfl
          have hv52 : V 52 = (.bool true) := postsHold_at hp 52 rfl
          simp only [List.take_succ_cons, List.take_zero, insAll, ins, hv0, hv1, hv2, hv3, hv4, hv5, hv6, hv7, hv8, hv9, hv10, hv11, hv12, hv13, hv14, hv15, hv16, hv17, hv18, hv19, hv20, hv21, hv22, hv23, hv24, hv25, hv26, hv27, hv28, hv29, hv30, hv31, hv32, hv33, hv34, hv35, hv36, hv37, hv38, hv39, hv40, hv41, hv42, hv43, hv44, hv45, hv46, hv47, hv48, hv49, hv50, hv51, hv52] at hf
          have : b1 < mb1 := Nat.lt_of_lt_of_le (blk_lt hkb1) hle2
          clear hp hnb hv0 hv1 hv2 hv3 hv4 hv5 hv6 hv7 hv8 hv9 hv10 hv11 hv12 hv13 hv14 hv15 hv16 hv17 hv18 hv19 hv20 hv21 hv22 hv23 hv24 hv25 hv26 hv27 hv28 hv29 hv30 hv31 hv32 hv33 hv34 hv35 hv36 hv37 hv38 hv39 hv40 hv41 hv42 hv43 hv44 hv45 hv46 hv47 hv48 hv49 hv50 hv51 hv52
          replace hkb1 := blk_ext hkb1 he4
          replace hb := hb.trans (Below.mono he4 hb.size)
          (try simp only [Exit.then, Exit.inBlock, ↓reduceIte, Nat.reduceEqDiff])
          refine hK14 _ _ ?_
          refine wp_ret ?_
          (try simp only [Exit.then, Exit.inBlock])
          refine ret1 hf rfl rfl ?_
          exact ⟨rfl, hb⟩
end Go.Proofs.Ytcmdajkkdognfaa
