/- What is proved here: what the document's functions of bits come to. -/
import Derived.Test.YtahgkfekggkjnaaAlP
namespace Go.Proofs.Ytahgkfekggkjnaa
open Go.RowKit
set_option linter.unusedVariables false
set_option linter.unusedSimpArgs false
set_option maxHeartbeats 1000000 in
set_option maxRecDepth 100000 in
theorem rtruth_any (b : Bool) (w : World) : Calls Try.prog 95 #[(.bool b)] w fun e w' => e = .returned (.int .u64 (tz b)) ∧ w = w' := by
  refine sx_enter (L := [(0, (.bool b))]) Try.func95 rfl rfl rfl rfl (fun fa hf => ?_)
  have hb : Below w.heap.size w w := Below.refl _ _
  refine wp_seq_k (fun K1 hK1 => ?_)
  refine wp_region_lit ?_
  refine sqv hf (r_assign rfl) rfl rfl rfl ?_; clear hf fa; intro fa hf
  apply wpList_nil
  (try simp only [Exit.then, Exit.inBlock, ↓reduceIte, Nat.reduceEqDiff])
  refine hK1 _ _ ?_
  refine wp_seq_k (fun K2 hK2 => ?_)
  refine wp_seq_k (fun K3 hK3 => ?_)
  refine wp_region_lit ?_
  refine sqv hf (r_move rfl) rfl rfl rfl ?_; clear hf fa; intro fa hf
  apply wpList_nil
  (try simp only [Exit.then, Exit.inBlock, ↓reduceIte, Nat.reduceEqDiff])
  refine hK3 _ _ ?_
  refine wp_cond_split (t := b) (hf.ev rfl) (fun hqt3_1 => ?_) (fun hqt3_1 => ?_)
  · have hqt3_1b := hqt3_1
    try simp only [decide_eq_true_eq, Bool.and_eq_true, Bool.or_eq_true, Bool.not_eq_true', decide_eq_false_iff_not, ne_eq, Bool.not_eq_true] at hqt3_1
    refine wp_seq_k (fun K4 hK4 => ?_)
    refine wp_region_lit ?_
    refine sqv hf (r_assign rfl) rfl rfl rfl ?_; clear hf fa; intro fa hf
    apply wpList_nil
    (try simp only [Exit.then, Exit.inBlock, ↓reduceIte, Nat.reduceEqDiff])
    refine hK4 _ _ ?_
    refine wp_ret ?_
    (try simp only [Exit.then, Exit.inBlock])
    refine ret1 hf rfl rfl ?_
    unfold tz; rw [if_pos hqt3_1]; exact ⟨rfl, rfl⟩
  · have hqt3_1b := hqt3_1
    replace hqt3_1 := Bool.eq_false_iff.1 hqt3_1
    try simp only [ne_eq, decide_eq_true_eq, Bool.and_eq_true, Bool.or_eq_true, Bool.not_eq_true', decide_eq_false_iff_not] at hqt3_1
    refine wp_skip ?_
    (try simp only [Exit.then, Exit.inBlock, ↓reduceIte, Nat.reduceEqDiff])
    refine hK2 _ _ ?_
    refine wp_seq_k (fun K5 hK5 => ?_)
    refine wp_region_lit ?_
    refine sqv hf (r_assign rfl) rfl rfl rfl ?_; clear hf fa; intro fa hf
    apply wpList_nil
    (try simp only [Exit.then, Exit.inBlock, ↓reduceIte, Nat.reduceEqDiff])
    refine hK5 _ _ ?_
    refine wp_ret ?_
    (try simp only [Exit.then, Exit.inBlock])
    refine ret1 hf rfl rfl ?_
    unfold tz; rw [if_neg hqt3_1]; exact ⟨rfl, rfl⟩

set_option maxHeartbeats 1000000 in
set_option maxRecDepth 100000 in
theorem bits_any (A : Nat) (w : World) (hA : A < 4294967296) : Calls Try.prog 81 #[(.int .u64 ((A : Nat) : Int))] w fun e w' => ∃ v, e = .returned v ∧ Row 1 vBool 4 w.heap.size w' v (bitsK A 32) ∧ Below w.heap.size w w' := by
  refine sx_enter (L := [(0, (.int .u64 ((A : Nat) : Int)))]) Try.func81 rfl rfl rfl rfl (fun fa hf => ?_)
  have hb : Below w.heap.size w w := Below.refl _ _
  refine wp_seq_k (fun K1 hK1 => ?_)
  refine wp_region_lit ?_
  refine sqv hf (r_assign rfl) rfl rfl rfl ?_; clear hf fa; intro fa hf
  apply wpList_nil
  (try simp only [Exit.then, Exit.inBlock, ↓reduceIte, Nat.reduceEqDiff])
  refine hK1 _ _ ?_
  refine wp_seq_k (fun K2 hK2 => ?_)
  refine wp_region_lit ?_
  refine sqv hf (r_assign rfl) rfl rfl rfl ?_; clear hf fa; intro fa hf
  apply wpList_nil
  (try simp only [Exit.then, Exit.inBlock, ↓reduceIte, Nat.reduceEqDiff])
  refine hK2 _ _ ?_
  refine wp_seq_k (fun K3 hK3 => ?_)
  refine wp_seq_k (fun K4 hK4 => ?_)
  refine wp_region_lit ?_
  refine sqv hf (r_assign rfl) rfl rfl rfl ?_; clear hf fa; intro fa hf
  apply wpList_nil
  (try simp only [Exit.then, Exit.inBlock, ↓reduceIte, Nat.reduceEqDiff])
  refine hK4 _ _ ?_
  refine wp_block ?_
  refine wp_loop_k (fun m fa wr => ∃ (i : Nat) (v : Nat) (rwa : Option Addr) (rwc : Nat), m = 32 - i ∧ Fr 18 fa [(0, (.int .u64 ((v : Nat) : Int))), (4, (.int .i64 ((i : Nat) : Int))), (3, (.slice rwa (((bitsK A i)).length) rwc))] ∧ Below w.heap.size w wr ∧ Row 1 vBool 4 (w.heap.size) wr (.slice rwa (((bitsK A i)).length) rwc) (bitsK A i) ∧ (i ≤ 32) ∧ (v = A / 2 ^ i) ∧ (v < 4294967296)) ?_ ?_
  · skip
    exact ⟨_, 0, A, none, 0, rfl, hf.sub ⟨rfl, (some_int (by first | rfl | omega)), (some_sl (by simp <;> omega) rfl), trivial⟩, hb, Row.nil, by omega, by simp, by omega⟩
  · skip
    clear hf fa; intro m1 fa w1 hI KL1 hKL1
    clear hb
    obtain ⟨i, v, rwa, rwc, hm1, hf, hb, hrw, hi, hv, hvl⟩ := hI
    have hcrw := Row.caps hrw
    have hbl0 : (bitsK A i).length = i := bitsK_length _ _
    refine wp_seq_k (fun K5 hK5 => ?_)
    refine wp_seq_k (fun K6 hK6 => ?_)
    refine wp_region_lit ?_
    refine sqv hf (r_move rfl) rfl rfl rfl ?_; clear hf fa; intro fa hf
    refine sqv hf (r_lt rfl rfl) rfl rfl rfl ?_; clear hf fa; intro fa hf
    apply wpList_nil
    (try simp only [Exit.then, Exit.inBlock, ↓reduceIte, Nat.reduceEqDiff])
    refine hK6 _ _ ?_
    refine wp_cond_split (t := (decide (((i : Nat) : Int) < (32 : Int)))) (hf.ev rfl) (fun hqt6_1 => ?_) (fun hqt6_1 => ?_)
    · have hqt6_1b := hqt6_1
      try simp only [decide_eq_true_eq, Bool.and_eq_true, Bool.or_eq_true, Bool.not_eq_true', decide_eq_false_iff_not, ne_eq, Bool.not_eq_true] at hqt6_1
      refine wp_skip ?_
      (try simp only [Exit.then, Exit.inBlock, ↓reduceIte, Nat.reduceEqDiff])
      refine hK5 _ _ ?_
      refine wp_seq_k (fun K7 hK7 => ?_)
      refine wp_block ?_
      refine wp_seq_k (fun K8 hK8 => ?_)
      refine wp_region_lit ?_
      refine sqv hf (r_move rfl) rfl rfl rfl ?_; clear hf fa; intro fa hf
      refine sqv hf (r_move rfl) rfl rfl rfl ?_; clear hf fa; intro fa hf
      refine sqv hf (r_rem (C := (((v : Nat) : Int) % (2 : Int))) rfl rfl (by omega) (Int.tmod_eq_emod_of_nonneg (by omega))) rfl rfl rfl ?_; clear hf fa; intro fa hf
      refine sqv hf (r_eq rfl rfl) rfl rfl rfl ?_; clear hf fa; intro fa hf
      refine sqdt hf (d_bslice (z := (.bool false)) (sz := 1) (vs := [(0, (.bool (decide ((((v : Nat) : Int) % (2 : Int)) = (1 : Int)))))]) (cs := #[(.bool (decide ((((v : Nat) : Int) % (2 : Int)) = (1 : Int))))]) rfl Try.underlying162 (by kernel_rfl) rfl (by kernel_rfl)) rfl rfl rfl ?_; clear hf fa; rintro fa _ w2 ⟨b1, rfl, hle1, hk1, he1⟩ hf
      have hBb1 : w.heap.size ≤ b1 := Nat.le_trans hb.size hle1
      replace hrw := Row.ext hrw he1
      replace hb := hb.trans (Below.mono he1 hb.size)
      have hs1 := Row.rd (by intros; rfl) (Row.of_new (k := 1) (V := vBool) (l := [(decide ((((v : Nat) : Int) % (2 : Int)) = (1 : Int)))]) hk1 (Nat.le_refl _) rfl rfl (Nat.le_of_ble_eq_true rfl))
      refine sqdt hf (d_append (V := vBool) (k := 1) (e := 4) (bytes := 1) (z := (.bool false)) (news := [(decide ((((v : Nat) : Int) % (2 : Int)) = (1 : Int)))]) (base := w.heap.size) (by intros; rfl) (by intro x u hu; simp only [vBool, List.mem_singleton] at hu; subst hu; rfl) rfl rfl Try.underlying162 (by kernel_rfl) rfl rfl rfl hrw hs1 rfl (fun h => by cases h) (by simp only [List.length_cons, List.length_nil, List.length_append]; omega) (by have := hb.size; omega)) rfl rfl rfl ?_; clear hf fa; rintro fa v w3 ⟨hr1, hg1⟩ hf; obtain ⟨ra1, rc1, rfl, hcrc1, hmrc1⟩ := Row.slice hr1
      replace hb := hb.trans (row_below hrw hg1 hb.size (by have := hb.size; omega))
      refine sqv hf (r_assign rfl) rfl rfl rfl ?_; clear hf fa; intro fa hf
      apply wpList_nil
      (try simp only [Exit.then, Exit.inBlock, ↓reduceIte, Nat.reduceEqDiff])
      refine hK8 _ _ ?_
      refine wp_region_lit ?_
      refine sqv hf (r_move rfl) rfl rfl rfl ?_; clear hf fa; intro fa hf
      refine sqv hf (r_quo (C := (((v : Nat) : Int) / (2 : Int))) rfl rfl (by omega) (by rw [Int.tdiv_eq_ediv_of_nonneg (by omega), IntKind.wrap_u64]; omega)) rfl rfl rfl ?_; clear hf fa; intro fa hf
      refine sqv hf (r_assign rfl) rfl rfl rfl ?_; clear hf fa; intro fa hf
      apply wpList_nil
      (try simp only [Exit.then, Exit.inBlock, ↓reduceIte, Nat.reduceEqDiff])
      refine hK7 _ _ ?_
      refine wp_region_lit ?_
      refine sqv hf (r_move rfl) rfl rfl rfl ?_; clear hf fa; intro fa hf
      refine sqv hf (r_add (C := (((i : Nat) : Int) + (1 : Int))) rfl rfl (by rw [IntKind.wrap_i64]; omega)) rfl rfl rfl ?_; clear hf fa; intro fa hf
      refine sqv hf (r_assign rfl) rfl rfl rfl ?_; clear hf fa; intro fa hf
      apply wpList_nil
      (try simp only [Exit.then, Exit.inBlock, ↓reduceIte, Nat.reduceEqDiff])
      refine hKL1 _ _ _ (by omega) ⟨(i + 1), (v / 2), ra1, rc1, rfl, hf.sub ⟨(some_int (by first | rfl | omega)), (some_int (by first | rfl | omega)), (some_sl (by simp <;> omega) rfl), trivial⟩, hb, (Row.tol hr1 (bits_snoc (by rw [hv]; exact bit_at A i))), by omega, (by rw [hv, Nat.pow_succ, Nat.div_div_eq_div_mul]), by omega⟩
    · have hqt6_1b := hqt6_1
      replace hqt6_1 := Bool.eq_false_iff.1 hqt6_1
      try simp only [ne_eq, decide_eq_true_eq, Bool.and_eq_true, Bool.or_eq_true, Bool.not_eq_true', decide_eq_false_iff_not] at hqt6_1
      refine wp_exit ?_
      (try simp only [Exit.then, Exit.inBlock, ↓reduceIte, Nat.reduceEqDiff])
      refine hK3 _ _ ?_
      refine wp_seq_k (fun K9 hK9 => ?_)
      refine wp_region_lit ?_
      refine sqv hf (r_move rfl) rfl rfl rfl ?_; clear hf fa; intro fa hf
      refine sqv hf (r_assign rfl) rfl rfl rfl ?_; clear hf fa; intro fa hf
      apply wpList_nil
      (try simp only [Exit.then, Exit.inBlock, ↓reduceIte, Nat.reduceEqDiff])
      refine hK9 _ _ ?_
      refine wp_ret ?_
      (try simp only [Exit.then, Exit.inBlock])
      refine ret1 hf rfl rfl ?_
      obtain rfl : i = 32 := by omega
      exact ⟨_, rfl, hrw, hb⟩

set_option maxHeartbeats 1000000 in
set_option maxRecDepth 100000 in
theorem number_any (A : Nat) (a : Option Addr) (n c : Nat) (w : World) (hA : A < 4294967296) (h : RdS 1 vBool w a (bitsK A 32)) (e : n = 32) : Calls Try.prog 82 #[(.slice a n c)] w fun e w' => e = .returned (.int .u64 (A : Nat)) ∧ Below w.heap.size w w' := by
  refine sx_enter (L := [(0, (.slice a n c))]) Try.func82 rfl rfl rfl rfl (fun fa hf => ?_)
  have hb : Below w.heap.size w w := Below.refl _ _
  refine wp_seq_k (fun K1 hK1 => ?_)
  refine wp_region_lit ?_
  refine sqv hf (r_assign rfl) rfl rfl rfl ?_; clear hf fa; intro fa hf
  apply wpList_nil
  (try simp only [Exit.then, Exit.inBlock, ↓reduceIte, Nat.reduceEqDiff])
  refine hK1 _ _ ?_
  refine wp_seq_k (fun K2 hK2 => ?_)
  refine wp_region_lit ?_
  refine sqv hf (r_assign rfl) rfl rfl rfl ?_; clear hf fa; intro fa hf
  apply wpList_nil
  (try simp only [Exit.then, Exit.inBlock, ↓reduceIte, Nat.reduceEqDiff])
  refine hK2 _ _ ?_
  refine wp_seq_k (fun K3 hK3 => ?_)
  refine wp_seq_k (fun K4 hK4 => ?_)
  refine wp_region_lit ?_
  refine sqv hf (r_move rfl) rfl rfl rfl ?_; clear hf fa; intro fa hf
  refine sqv hf (r_lensl rfl Try.underlying162) rfl rfl rfl ?_; clear hf fa; intro fa hf
  refine sqv hf (r_sub (C := (((n : Nat) : Int) - (1 : Int))) rfl rfl (by rw [IntKind.wrap_i64]; omega)) rfl rfl rfl ?_; clear hf fa; intro fa hf
  refine sqv hf (r_assign rfl) rfl rfl rfl ?_; clear hf fa; intro fa hf
  apply wpList_nil
  (try simp only [Exit.then, Exit.inBlock, ↓reduceIte, Nat.reduceEqDiff])
  refine hK4 _ _ ?_
  refine wp_block ?_
  refine wp_loop_k (fun m fa wr => ∃ (j : Nat) (v : Nat), m = j ∧ Fr 21 fa [(0, (.slice a n c)), (3, (.int .u64 ((v : Nat) : Int))), (4, (.int .i64 (((j : Nat) : Int) - (1 : Int))))] ∧ Below w.heap.size w wr ∧ (j ≤ 32) ∧ (v = A / 2 ^ j) ∧ (v < 4294967296)) ?_ ?_
  · skip
    exact ⟨_, 32, 0, rfl, hf.sub ⟨rfl, (some_int (by first | rfl | omega)), (some_int (by first | rfl | omega)), trivial⟩, hb, by omega, by omega, by omega⟩
  · skip
    clear hf fa; intro m1 fa w1 hI KL1 hKL1
    clear hb
    obtain ⟨j, v, hm1, hf, hb, hj, hv, hvl⟩ := hI
    refine wp_seq_k (fun K5 hK5 => ?_)
    refine wp_seq_k (fun K6 hK6 => ?_)
    refine wp_region_lit ?_
    refine sqv hf (r_move rfl) rfl rfl rfl ?_; clear hf fa; intro fa hf
    refine sqv hf (r_ge rfl rfl) rfl rfl rfl ?_; clear hf fa; intro fa hf
    apply wpList_nil
    (try simp only [Exit.then, Exit.inBlock, ↓reduceIte, Nat.reduceEqDiff])
    refine hK6 _ _ ?_
    refine wp_cond_split (t := (decide ((0 : Int) ≤ (((j : Nat) : Int) - (1 : Int))))) (hf.ev rfl) (fun hqt9_1 => ?_) (fun hqt9_1 => ?_)
    · have hqt9_1b := hqt9_1
      try simp only [decide_eq_true_eq, Bool.and_eq_true, Bool.or_eq_true, Bool.not_eq_true', decide_eq_false_iff_not, ne_eq, Bool.not_eq_true] at hqt9_1
      refine wp_skip ?_
      (try simp only [Exit.then, Exit.inBlock, ↓reduceIte, Nat.reduceEqDiff])
      refine hK5 _ _ ?_
      refine wp_seq_k (fun K7 hK7 => ?_)
      refine wp_block ?_
      refine wp_seq_k (fun K8 hK8 => ?_)
      refine wp_region_lit ?_
      refine sqv hf (r_move rfl) rfl rfl rfl ?_; clear hf fa; intro fa hf
      refine sqv hf (r_mul (C := (((v : Nat) : Int) * (2 : Int))) rfl rfl (by rw [IntKind.wrap_u64]; omega)) rfl rfl rfl ?_; clear hf fa; intro fa hf
      refine sqv hf (r_assign rfl) rfl rfl rfl ?_; clear hf fa; intro fa hf
      apply wpList_nil
      (try simp only [Exit.then, Exit.inBlock, ↓reduceIte, Nat.reduceEqDiff])
      refine hK8 _ _ ?_
      refine wp_seq_k (fun K9 hK9 => ?_)
      refine wp_region_lit ?_
      refine sqv hf (r_move rfl) rfl rfl rfl ?_; clear hf fa; intro fa hf
      refine sqv hf (r_move rfl) rfl rfl rfl ?_; clear hf fa; intro fa hf
      have hy1 : ((bitsK A 32))[(j - 1)]? = some ((A).testBit (j - 1)) := (bitsK_get (n := A) (k := 32) (i := (j - 1)) (by omega))
      obtain ⟨ab1, aoff1, rfl, hlb1, hel1⟩ := RdS.at h hy1
      refine sqv hf (r_ixa (sz := 1) (j := (j - 1)) rfl rfl Try.underlying162 (by kernel_rfl) (by omega) (by omega) rfl) rfl rfl rfl ?_; clear hf fa; intro fa hf
      refine sqv hf (r_load (v := (.bool ((A).testBit (j - 1)))) rfl Try.underlying4 rfl (cellsAt_cell (cellsAt_below hel1 hb hlb1) (i := 0) rfl rfl)) rfl rfl rfl ?_; clear hf fa; intro fa hf
      apply wpList_nil
      (try simp only [Exit.then, Exit.inBlock, ↓reduceIte, Nat.reduceEqDiff])
      refine hK9 _ _ ?_
      refine wp_cond_split (t := ((A).testBit (j - 1))) (hf.ev rfl) (fun hqt17_1 => ?_) (fun hqt17_1 => ?_)
      · have hqt17_1b := hqt17_1
        try simp only [decide_eq_true_eq, Bool.and_eq_true, Bool.or_eq_true, Bool.not_eq_true', decide_eq_false_iff_not, ne_eq, Bool.not_eq_true] at hqt17_1
        refine wp_region_lit ?_
        refine sqv hf (r_move rfl) rfl rfl rfl ?_; clear hf fa; intro fa hf
        refine sqv hf (r_add (C := ((((v : Nat) : Int) * (2 : Int)) + (1 : Int))) rfl rfl (by rw [IntKind.wrap_u64]; omega)) rfl rfl rfl ?_; clear hf fa; intro fa hf
        refine sqv hf (r_assign rfl) rfl rfl rfl ?_; clear hf fa; intro fa hf
        apply wpList_nil
        (try simp only [Exit.then, Exit.inBlock, ↓reduceIte, Nat.reduceEqDiff])
        refine hK7 _ _ ?_
        refine wp_region_lit ?_
        refine sqv hf (r_move rfl) rfl rfl rfl ?_; clear hf fa; intro fa hf
        refine sqv hf (r_sub (C := ((((j : Nat) : Int) - (1 : Int)) - (1 : Int))) rfl rfl (by rw [IntKind.wrap_i64]; omega)) rfl rfl rfl ?_; clear hf fa; intro fa hf
        refine sqv hf (r_assign rfl) rfl rfl rfl ?_; clear hf fa; intro fa hf
        apply wpList_nil
        (try simp only [Exit.then, Exit.inBlock, ↓reduceIte, Nat.reduceEqDiff])
        have hd := div_step A (j - 1)
        rw [show j - 1 + 1 = j by omega, ← hv, if_pos hqt17_1] at hd
        have hd2 := Nat.div_le_self A (2 ^ (j - 1))
        refine hKL1 _ _ _ (by omega) ⟨(j - 1), (v * 2 + 1), rfl, hf.sub ⟨rfl, (some_int (by first | rfl | omega)), (some_int (by first | rfl | omega)), trivial⟩, hb, by omega, by omega, by omega⟩
      · have hqt17_1b := hqt17_1
        replace hqt17_1 := Bool.eq_false_iff.1 hqt17_1
        try simp only [ne_eq, decide_eq_true_eq, Bool.and_eq_true, Bool.or_eq_true, Bool.not_eq_true', decide_eq_false_iff_not] at hqt17_1
        refine wp_skip ?_
        (try simp only [Exit.then, Exit.inBlock, ↓reduceIte, Nat.reduceEqDiff])
        refine hK7 _ _ ?_
        refine wp_region_lit ?_
        refine sqv hf (r_move rfl) rfl rfl rfl ?_; clear hf fa; intro fa hf
        refine sqv hf (r_sub (C := ((((j : Nat) : Int) - (1 : Int)) - (1 : Int))) rfl rfl (by rw [IntKind.wrap_i64]; omega)) rfl rfl rfl ?_; clear hf fa; intro fa hf
        refine sqv hf (r_assign rfl) rfl rfl rfl ?_; clear hf fa; intro fa hf
        apply wpList_nil
        (try simp only [Exit.then, Exit.inBlock, ↓reduceIte, Nat.reduceEqDiff])
        have hd := div_step A (j - 1)
        rw [show j - 1 + 1 = j by omega, ← hv, if_neg hqt17_1] at hd
        have hd2 := Nat.div_le_self A (2 ^ (j - 1))
        refine hKL1 _ _ _ (by omega) ⟨(j - 1), (v * 2), rfl, hf.sub ⟨rfl, (some_int (by first | rfl | omega)), (some_int (by first | rfl | omega)), trivial⟩, hb, by omega, by omega, by omega⟩
    · have hqt9_1b := hqt9_1
      replace hqt9_1 := Bool.eq_false_iff.1 hqt9_1
      try simp only [ne_eq, decide_eq_true_eq, Bool.and_eq_true, Bool.or_eq_true, Bool.not_eq_true', decide_eq_false_iff_not] at hqt9_1
      refine wp_exit ?_
      (try simp only [Exit.then, Exit.inBlock, ↓reduceIte, Nat.reduceEqDiff])
      refine hK3 _ _ ?_
      refine wp_seq_k (fun K10 hK10 => ?_)
      refine wp_region_lit ?_
      refine sqv hf (r_move rfl) rfl rfl rfl ?_; clear hf fa; intro fa hf
      refine sqv hf (r_assign rfl) rfl rfl rfl ?_; clear hf fa; intro fa hf
      apply wpList_nil
      (try simp only [Exit.then, Exit.inBlock, ↓reduceIte, Nat.reduceEqDiff])
      refine hK10 _ _ ?_
      refine wp_ret ?_
      (try simp only [Exit.then, Exit.inBlock])
      refine ret1 hf rfl rfl ?_
      obtain rfl : j = 0 := by omega
      rw [Nat.pow_zero, Nat.div_one] at hv
      subst hv
      exact ⟨rfl, hb⟩

set_option maxHeartbeats 1000000 in
set_option maxRecDepth 100000 in
theorem radd_any (A B cb : Nat) (c : Bool) (a1 : Option Addr) (n1 c1 : Nat) (a2 : Option Addr) (n2 c2 : Nat) (w : World) (hc : tn c = cb) (h1 : RdS 1 vBool w a1 (bitsK A 32)) (e1 : n1 = 32) (h2 : RdS 1 vBool w a2 (bitsK B 32)) (e2 : n2 = 32) : Calls Try.prog 83 #[(.slice a1 n1 c1), (.slice a2 n2 c2), (.bool c)] w fun e w' => ∃ v, e = .returned v ∧ Row 1 vBool 4 w.heap.size w' v (bitsK ((A + B + cb) % 4294967296) 32) ∧ Below w.heap.size w w' := by
  have hcb : cb ≤ 1 := by rw [← hc]; cases c <;> decide
  refine sx_enter (L := [(0, (.slice a1 n1 c1)), (1, (.slice a2 n2 c2)), (2, (.bool c))]) Try.func83 rfl rfl rfl rfl (fun fa hf => ?_)
  have hb : Below w.heap.size w w := Below.refl _ _
  refine wp_seq_k (fun K1 hK1 => ?_)
  refine wp_region_lit ?_
  refine sqv hf (r_assign rfl) rfl rfl rfl ?_; clear hf fa; intro fa hf
  apply wpList_nil
  (try simp only [Exit.then, Exit.inBlock, ↓reduceIte, Nat.reduceEqDiff])
  refine hK1 _ _ ?_
  refine wp_seq_k (fun K2 hK2 => ?_)
  refine wp_region_lit ?_
  refine sqv hf (r_assign rfl) rfl rfl rfl ?_; clear hf fa; intro fa hf
  apply wpList_nil
  (try simp only [Exit.then, Exit.inBlock, ↓reduceIte, Nat.reduceEqDiff])
  refine hK2 _ _ ?_
  refine wp_seq_k (fun K3 hK3 => ?_)
  refine wp_seq_k (fun K4 hK4 => ?_)
  refine wp_region_lit ?_
  refine sqv hf (r_assign rfl) rfl rfl rfl ?_; clear hf fa; intro fa hf
  apply wpList_nil
  (try simp only [Exit.then, Exit.inBlock, ↓reduceIte, Nat.reduceEqDiff])
  refine hK4 _ _ ?_
  refine wp_block ?_
  refine wp_loop_k (fun m fa wr => ∃ (i : Nat) (cy : Bool) (rwa : Option Addr) (rwc : Nat), m = 32 - i ∧ Fr 37 fa [(0, (.slice a1 n1 c1)), (1, (.slice a2 n2 c2)), (2, (.bool cy)), (8, (.int .i64 ((i : Nat) : Int))), (7, (.slice rwa (((bitsK (A + B + cb) i)).length) rwc))] ∧ Below w.heap.size w wr ∧ Row 1 vBool 4 (w.heap.size) wr (.slice rwa (((bitsK (A + B + cb) i)).length) rwc) (bitsK (A + B + cb) i) ∧ (i ≤ 32) ∧ (tn cy = carryAt A B cb i)) ?_ ?_
  · skip
    exact ⟨_, 0, c, none, 0, rfl, hf.sub ⟨rfl, rfl, rfl, (some_int (by first | rfl | omega)), (some_sl (by simp <;> omega) rfl), trivial⟩, hb, Row.nil, by omega, (by rw [carry_zero]; exact hc)⟩
  · skip
    clear hf fa; intro m1 fa w1 hI KL1 hKL1
    clear hb
    obtain ⟨i, cy, rwa, rwc, hm1, hf, hb, hrw, hi, hcy⟩ := hI
    have hcrw := Row.caps hrw
    have hbl0 : (bitsK (A + B + cb) i).length = i := bitsK_length _ _
    refine wp_seq_k (fun K5 hK5 => ?_)
    refine wp_seq_k (fun K6 hK6 => ?_)
    refine wp_region_lit ?_
    refine sqv hf (r_move rfl) rfl rfl rfl ?_; clear hf fa; intro fa hf
    refine sqv hf (r_lt rfl rfl) rfl rfl rfl ?_; clear hf fa; intro fa hf
    apply wpList_nil
    (try simp only [Exit.then, Exit.inBlock, ↓reduceIte, Nat.reduceEqDiff])
    refine hK6 _ _ ?_
    refine wp_cond_split (t := (decide (((i : Nat) : Int) < (32 : Int)))) (hf.ev rfl) (fun hqt11_1 => ?_) (fun hqt11_1 => ?_)
    · have hqt11_1b := hqt11_1
      try simp only [decide_eq_true_eq, Bool.and_eq_true, Bool.or_eq_true, Bool.not_eq_true', decide_eq_false_iff_not, ne_eq, Bool.not_eq_true] at hqt11_1
      refine wp_skip ?_
      (try simp only [Exit.then, Exit.inBlock, ↓reduceIte, Nat.reduceEqDiff])
      refine hK5 _ _ ?_
      refine wp_seq_k (fun K7 hK7 => ?_)
      refine wp_block ?_
      refine wp_seq_k (fun K8 hK8 => ?_)
      have ht1 := tz_le ((A).testBit i); have ht2 := tz_le ((B).testBit i); have ht3 := tz_le cy
      have hy1 : ((bitsK A 32))[i]? = some ((A).testBit i) := (bitsK_get (n := A) (k := 32) (i := i) (by omega))
      obtain ⟨ab1, aoff1, rfl, hlb1, hel1⟩ := RdS.at h1 hy1
      have hy2 : ((bitsK B 32))[i]? = some ((B).testBit i) := (bitsK_get (n := B) (k := 32) (i := i) (by omega))
      obtain ⟨ab2, aoff2, rfl, hlb2, hel2⟩ := RdS.at h2 hy2
      refine wp_region_un (fun wq => Below w1.heap.size w1 wq) (fun w w' => Below w.heap.size w w')
        (fun V => [(fun x _ => x = (.slice (some ⟨ab1, aoff1, none⟩) n1 c1)), (fun x _ => x = (.int .i64 ((i : Nat) : Int))), (fun x _ => x = (.pointer (some ⟨ab1, (aoff1 + i * 1), none⟩))), (fun x _ => x = (.bool ((A).testBit i))), (fun x _ => x = (.int .u64 (tz ((A).testBit i)))), (fun x _ => x = (.slice (some ⟨ab2, aoff2, none⟩) n2 c2)), (fun x _ => x = (.int .i64 ((i : Nat) : Int))), (fun x _ => x = (.pointer (some ⟨ab2, (aoff2 + i * 1), none⟩))), (fun x _ => x = (.bool ((B).testBit i))), (fun x _ => x = (.int .u64 (tz ((B).testBit i)))), (fun x _ => x = (.int .u64 ((tz ((A).testBit i)) + (tz ((B).testBit i))))), (fun x _ => x = (.bool cy)), (fun x _ => x = (.int .u64 (tz cy))), (fun x _ => x = (.int .u64 (((tz ((A).testBit i)) + (tz ((B).testBit i))) + (tz cy)))), (fun x _ => x = (.int .u64 (((tz ((A).testBit i)) + (tz ((B).testBit i))) + (tz cy))))])
        []
        [[], [], [0, 1], [2], [3], [], [], [5, 6], [7], [4, 8], [4, 9], [], [9, 11], [10, 12], [0, 1, 2, 3, 4, 5, 6, 7, 8, 9, 10, 11, 12, 13]]
        hf (by kernel_rfl) (by kernel_rfl) (fun _ => rfl) ((Below.refl _ _).drew) (fun a b h1 h2 => h1.trans (h2.mono h1.size)) (fun _ _ h => h.size) (fun V => ⟨kept_eq, kept_eq, kept_eq, kept_eq, kept_eq, kept_eq, kept_eq, kept_eq, kept_eq, kept_eq, kept_eq, kept_eq, kept_eq, kept_eq, kept_eq, trivial⟩) (fun _ _ _ _ _ => rfl) ?_ ?_
      · skip
        intro V
        refine ⟨fun wu0 hC hd => ?_, ?_⟩
        · clear hd
          replace hb := hb.trans (hC.mono hb.size)
          replace hrw := Row.ext hrw hC
          exact Runs.does (r_move rfl) ⟨Below.refl _ _, rfl, nofr rfl⟩
        refine ⟨fun wu1 hC hd => ?_, ?_⟩
        · clear hd
          replace hb := hb.trans (hC.mono hb.size)
          replace hrw := Row.ext hrw hC
          exact Runs.does (r_move rfl) ⟨Below.refl _ _, rfl, nofr rfl⟩
        refine ⟨fun wu2 hC hd => ?_, ?_⟩
        · obtain ⟨h0, h1, _⟩ := hd
          skip
          skip
          replace h0 : V 0 = (.slice (some ⟨ab1, aoff1, none⟩) n1 c1) := h0
          replace h1 : V 1 = (.int .i64 ((i : Nat) : Int)) := h1
          replace hb := hb.trans (hC.mono hb.size)
          replace hrw := Row.ext hrw hC
          exact Runs.does (r_ixa (sz := 1) (j := i) (congrArg some h0) (congrArg some h1) Try.underlying162 (by kernel_rfl) rfl (by omega) rfl) ⟨Below.refl _ _, rfl, nofr rfl⟩
        refine ⟨fun wu3 hC hd => ?_, ?_⟩
        · obtain ⟨h2, _⟩ := hd
          skip
          replace h2 : V 2 = (.pointer (some ⟨ab1, (aoff1 + i * 1), none⟩)) := h2
          replace hb := hb.trans (hC.mono hb.size)
          replace hrw := Row.ext hrw hC
          exact Runs.does (r_load (v := (.bool ((A).testBit i))) (congrArg some h2) Try.underlying4 rfl (cellsAt_cell (cellsAt_below hel1 hb hlb1) (i := 0) rfl rfl)) ⟨Below.refl _ _, rfl, nofr rfl⟩
        refine ⟨fun wu4 hC hd => ?_, ?_⟩
        · obtain ⟨h3, _⟩ := hd
          skip
          replace h3 : V 3 = (.bool ((A).testBit i)) := h3
          replace hb := hb.trans (hC.mono hb.size)
          replace hrw := Row.ext hrw hC
          refine Does.mono (d_callS (vs := [(.bool ((A).testBit i))]) (show [some (V 3)] = [some (.bool ((A).testBit i))] from by rw [h3]) Try.func95 (by kernel_rfl) (by kernel_rfl) (rtruth_any ((A).testBit i) _)) (fun _ _ h => ⟨h.2 ▸ Below.refl _ _, h.1, nofr rfl⟩)
        refine ⟨fun wu5 hC hd => ?_, ?_⟩
        · clear hd
          replace hb := hb.trans (hC.mono hb.size)
          replace hrw := Row.ext hrw hC
          exact Runs.does (r_move rfl) ⟨Below.refl _ _, rfl, nofr rfl⟩
        refine ⟨fun wu6 hC hd => ?_, ?_⟩
        · clear hd
          replace hb := hb.trans (hC.mono hb.size)
          replace hrw := Row.ext hrw hC
          exact Runs.does (r_move rfl) ⟨Below.refl _ _, rfl, nofr rfl⟩
        refine ⟨fun wu7 hC hd => ?_, ?_⟩
        · obtain ⟨h5, h6, _⟩ := hd
          skip
          skip
          replace h5 : V 5 = (.slice (some ⟨ab2, aoff2, none⟩) n2 c2) := h5
          replace h6 : V 6 = (.int .i64 ((i : Nat) : Int)) := h6
          replace hb := hb.trans (hC.mono hb.size)
          replace hrw := Row.ext hrw hC
          exact Runs.does (r_ixa (sz := 1) (j := i) (congrArg some h5) (congrArg some h6) Try.underlying162 (by kernel_rfl) rfl (by omega) rfl) ⟨Below.refl _ _, rfl, nofr rfl⟩
        refine ⟨fun wu8 hC hd => ?_, ?_⟩
        · obtain ⟨h7, _⟩ := hd
          skip
          replace h7 : V 7 = (.pointer (some ⟨ab2, (aoff2 + i * 1), none⟩)) := h7
          replace hb := hb.trans (hC.mono hb.size)
          replace hrw := Row.ext hrw hC
          exact Runs.does (r_load (v := (.bool ((B).testBit i))) (congrArg some h7) Try.underlying4 rfl (cellsAt_cell (cellsAt_below hel2 hb hlb2) (i := 0) rfl rfl)) ⟨Below.refl _ _, rfl, nofr rfl⟩
        refine ⟨fun wu9 hC hd => ?_, ?_⟩
        · obtain ⟨h4, h8, _⟩ := hd
          skip
          skip
          replace h4 : V 4 = (.int .u64 (tz ((A).testBit i))) := h4
          replace h8 : V 8 = (.bool ((B).testBit i)) := h8
          replace hb := hb.trans (hC.mono hb.size)
          replace hrw := Row.ext hrw hC
          refine Does.mono (d_callS (vs := [(.bool ((B).testBit i))]) (show [some (V 8)] = [some (.bool ((B).testBit i))] from by rw [h8]) Try.func95 (by kernel_rfl) (by kernel_rfl) (rtruth_any ((B).testBit i) _)) (fun _ _ h => ⟨h.2 ▸ Below.refl _ _, h.1, nofr rfl⟩)
        refine ⟨fun wu10 hC hd => ?_, ?_⟩
        · obtain ⟨h4, h9, _⟩ := hd
          skip
          skip
          replace h4 : V 4 = (.int .u64 (tz ((A).testBit i))) := h4
          replace h9 : V 9 = (.int .u64 (tz ((B).testBit i))) := h9
          replace hb := hb.trans (hC.mono hb.size)
          replace hrw := Row.ext hrw hC
          exact Runs.does (r_add (C := ((tz ((A).testBit i)) + (tz ((B).testBit i)))) (congrArg some h4) (congrArg some h9) (by rw [IntKind.wrap_u64]; omega)) ⟨Below.refl _ _, rfl, nofr rfl⟩
        refine ⟨fun wu11 hC hd => ?_, ?_⟩
        · clear hd
          replace hb := hb.trans (hC.mono hb.size)
          replace hrw := Row.ext hrw hC
          exact Runs.does (r_move rfl) ⟨Below.refl _ _, rfl, nofr rfl⟩
        refine ⟨fun wu12 hC hd => ?_, ?_⟩
        · obtain ⟨h9, h11, _⟩ := hd
          skip
          skip
          replace h9 : V 9 = (.int .u64 (tz ((B).testBit i))) := h9
          replace h11 : V 11 = (.bool cy) := h11
          replace hb := hb.trans (hC.mono hb.size)
          replace hrw := Row.ext hrw hC
          refine Does.mono (d_callS (vs := [(.bool cy)]) (show [some (V 11)] = [some (.bool cy)] from by rw [h11]) Try.func95 (by kernel_rfl) (by kernel_rfl) (rtruth_any cy _)) (fun _ _ h => ⟨h.2 ▸ Below.refl _ _, h.1, nofr rfl⟩)
        refine ⟨fun wu13 hC hd => ?_, ?_⟩
        · obtain ⟨h10, h12, _⟩ := hd
          skip
          skip
          replace h10 : V 10 = (.int .u64 ((tz ((A).testBit i)) + (tz ((B).testBit i)))) := h10
          replace h12 : V 12 = (.int .u64 (tz cy)) := h12
          replace hb := hb.trans (hC.mono hb.size)
          replace hrw := Row.ext hrw hC
          exact Runs.does (r_add (C := (((tz ((A).testBit i)) + (tz ((B).testBit i))) + (tz cy))) (congrArg some h10) (congrArg some h12) (by rw [IntKind.wrap_u64]; omega)) ⟨Below.refl _ _, rfl, nofr rfl⟩
        refine ⟨fun wu14 hC hd => ?_, ?_⟩
        · obtain ⟨h0, h1, h2, h3, h4, h5, h6, h7, h8, h9, h10, h11, h12, h13, _⟩ := hd
          skip
          skip
          skip
          skip
          skip
          skip
          skip
          skip
          skip
          skip
          skip
          skip
          skip
          skip
          replace h0 : V 0 = (.slice (some ⟨ab1, aoff1, none⟩) n1 c1) := h0
          replace h1 : V 1 = (.int .i64 ((i : Nat) : Int)) := h1
          replace h2 : V 2 = (.pointer (some ⟨ab1, (aoff1 + i * 1), none⟩)) := h2
          replace h3 : V 3 = (.bool ((A).testBit i)) := h3
          replace h4 : V 4 = (.int .u64 (tz ((A).testBit i))) := h4
          replace h5 : V 5 = (.slice (some ⟨ab2, aoff2, none⟩) n2 c2) := h5
          replace h6 : V 6 = (.int .i64 ((i : Nat) : Int)) := h6
          replace h7 : V 7 = (.pointer (some ⟨ab2, (aoff2 + i * 1), none⟩)) := h7
          replace h8 : V 8 = (.bool ((B).testBit i)) := h8
          replace h9 : V 9 = (.int .u64 (tz ((B).testBit i))) := h9
          replace h10 : V 10 = (.int .u64 ((tz ((A).testBit i)) + (tz ((B).testBit i)))) := h10
          replace h11 : V 11 = (.bool cy) := h11
          replace h12 : V 12 = (.int .u64 (tz cy)) := h12
          replace h13 : V 13 = (.int .u64 (((tz ((A).testBit i)) + (tz ((B).testBit i))) + (tz cy))) := h13
          replace hb := hb.trans (hC.mono hb.size)
          replace hrw := Row.ext hrw hC
          exact Runs.does (r_assign (congrArg some h13)) ⟨Below.refl _ _, rfl, nofr rfl⟩
        trivial
      · skip
        clear hf fa; intro V w2 fa he1 hp hnb hf
        have hv0 : V 0 = (.slice (some ⟨ab1, aoff1, none⟩) n1 c1) := postsHold_at hp 0 rfl
        have hv1 : V 1 = (.int .i64 ((i : Nat) : Int)) := postsHold_at hp 1 rfl
        have hv2 : V 2 = (.pointer (some ⟨ab1, (aoff1 + i * 1), none⟩)) := postsHold_at hp 2 rfl
        have hv3 : V 3 = (.bool ((A).testBit i)) := postsHold_at hp 3 rfl
        have hv4 : V 4 = (.int .u64 (tz ((A).testBit i))) := postsHold_at hp 4 rfl
        have hv5 : V 5 = (.slice (some ⟨ab2, aoff2, none⟩) n2 c2) := postsHold_at hp 5 rfl
        have hv6 : V 6 = (.int .i64 ((i : Nat) : Int)) := postsHold_at hp 6 rfl
        have hv7 : V 7 = (.pointer (some ⟨ab2, (aoff2 + i * 1), none⟩)) := postsHold_at hp 7 rfl
        have hv8 : V 8 = (.bool ((B).testBit i)) := postsHold_at hp 8 rfl
        have hv9 : V 9 = (.int .u64 (tz ((B).testBit i))) := postsHold_at hp 9 rfl
        have hv10 : V 10 = (.int .u64 ((tz ((A).testBit i)) + (tz ((B).testBit i)))) := postsHold_at hp 10 rfl
        have hv11 : V 11 = (.bool cy) := postsHold_at hp 11 rfl
        have hv12 : V 12 = (.int .u64 (tz cy)) := postsHold_at hp 12 rfl
        have hv13 : V 13 = (.int .u64 (((tz ((A).testBit i)) + (tz ((B).testBit i))) + (tz cy))) := postsHold_at hp 13 rfl
        have hv14 : V 14 = (.int .u64 (((tz ((A).testBit i)) + (tz ((B).testBit i))) + (tz cy))) := postsHold_at hp 14 rfl
        simp only [List.take_succ_cons, List.take_zero, insAll, ins, hv0, hv1, hv2, hv3, hv4, hv5, hv6, hv7, hv8, hv9, hv10, hv11, hv12, hv13, hv14] at hf
        clear hp hnb hv0 hv1 hv2 hv3 hv4 hv5 hv6 hv7 hv8 hv9 hv10 hv11 hv12 hv13 hv14
        replace hrw := Row.ext hrw he1
        replace hb := hb.trans (Below.mono he1 hb.size)
        (try simp only [Exit.then, Exit.inBlock, ↓reduceIte, Nat.reduceEqDiff])
        refine hK8 _ _ ?_
        refine wp_seq_k (fun K9 hK9 => ?_)
        refine wp_region_lit ?_
        refine sqv hf (r_move rfl) rfl rfl rfl ?_; clear hf fa; intro fa hf
        refine sqv hf (r_move rfl) rfl rfl rfl ?_; clear hf fa; intro fa hf
        refine sqv hf (r_rem (C := ((((tz ((A).testBit i)) + (tz ((B).testBit i))) + (tz cy)) % (2 : Int))) rfl rfl (by omega) (Int.tmod_eq_emod_of_nonneg (by omega))) rfl rfl rfl ?_; clear hf fa; intro fa hf
        refine sqv hf (r_eq rfl rfl) rfl rfl rfl ?_; clear hf fa; intro fa hf
        refine sqdt hf (d_bslice (z := (.bool false)) (sz := 1) (vs := [(0, (.bool (decide (((((tz ((A).testBit i)) + (tz ((B).testBit i))) + (tz cy)) % (2 : Int)) = (1 : Int)))))]) (cs := #[(.bool (decide (((((tz ((A).testBit i)) + (tz ((B).testBit i))) + (tz cy)) % (2 : Int)) = (1 : Int))))]) rfl Try.underlying162 (by kernel_rfl) rfl (by kernel_rfl)) rfl rfl rfl ?_; clear hf fa; rintro fa _ w3 ⟨b1, rfl, hle1, hk1, he2⟩ hf
        have hBb1 : w.heap.size ≤ b1 := Nat.le_trans hb.size hle1
        replace hrw := Row.ext hrw he2
        replace hb := hb.trans (Below.mono he2 hb.size)
        have hs1 := Row.rd (by intros; rfl) (Row.of_new (k := 1) (V := vBool) (l := [(decide (((((tz ((A).testBit i)) + (tz ((B).testBit i))) + (tz cy)) % (2 : Int)) = (1 : Int)))]) hk1 (Nat.le_refl _) rfl rfl (Nat.le_of_ble_eq_true rfl))
        refine sqdt hf (d_append (V := vBool) (k := 1) (e := 4) (bytes := 1) (z := (.bool false)) (news := [(decide (((((tz ((A).testBit i)) + (tz ((B).testBit i))) + (tz cy)) % (2 : Int)) = (1 : Int)))]) (base := w.heap.size) (by intros; rfl) (by intro x u hu; simp only [vBool, List.mem_singleton] at hu; subst hu; rfl) rfl rfl Try.underlying162 (by kernel_rfl) rfl rfl rfl hrw hs1 rfl (fun h => by cases h) (by simp only [List.length_cons, List.length_nil, List.length_append]; omega) (by have := hb.size; omega)) rfl rfl rfl ?_; clear hf fa; rintro fa v w4 ⟨hr1, hg1⟩ hf; obtain ⟨ra1, rc1, rfl, hcrc1, hmrc1⟩ := Row.slice hr1
        replace hb := hb.trans (row_below hrw hg1 hb.size (by have := hb.size; omega))
        refine sqv hf (r_assign rfl) rfl rfl rfl ?_; clear hf fa; intro fa hf
        apply wpList_nil
        (try simp only [Exit.then, Exit.inBlock, ↓reduceIte, Nat.reduceEqDiff])
        refine hK9 _ _ ?_
        refine wp_region_lit ?_
        refine sqv hf (r_move rfl) rfl rfl rfl ?_; clear hf fa; intro fa hf
        refine sqv hf (r_gt rfl rfl) rfl rfl rfl ?_; clear hf fa; intro fa hf
        refine sqv hf (r_assign rfl) rfl rfl rfl ?_; clear hf fa; intro fa hf
        apply wpList_nil
        (try simp only [Exit.then, Exit.inBlock, ↓reduceIte, Nat.reduceEqDiff])
        refine hK7 _ _ ?_
        refine wp_region_lit ?_
        refine sqv hf (r_move rfl) rfl rfl rfl ?_; clear hf fa; intro fa hf
        refine sqv hf (r_add (C := (((i : Nat) : Int) + (1 : Int))) rfl rfl (by rw [IntKind.wrap_i64]; omega)) rfl rfl rfl ?_; clear hf fa; intro fa hf
        refine sqv hf (r_assign rfl) rfl rfl rfl ?_; clear hf fa; intro fa hf
        apply wpList_nil
        (try simp only [Exit.then, Exit.inBlock, ↓reduceIte, Nat.reduceEqDiff])
        refine hKL1 _ _ _ (by omega) ⟨(i + 1), (decide ((1 : Int) < (((tz ((A).testBit i)) + (tz ((B).testBit i))) + (tz cy)))), ra1, rc1, rfl, hf.sub ⟨rfl, rfl, rfl, (some_int (by first | rfl | omega)), (some_sl (by simp <;> omega) rfl), trivial⟩, hb, (Row.tol hr1 (bits_snoc (add_bit hcy))), by omega, (add_carry hcy hcb)⟩
    · have hqt11_1b := hqt11_1
      replace hqt11_1 := Bool.eq_false_iff.1 hqt11_1
      try simp only [ne_eq, decide_eq_true_eq, Bool.and_eq_true, Bool.or_eq_true, Bool.not_eq_true', decide_eq_false_iff_not] at hqt11_1
      refine wp_exit ?_
      (try simp only [Exit.then, Exit.inBlock, ↓reduceIte, Nat.reduceEqDiff])
      refine hK3 _ _ ?_
      refine wp_seq_k (fun K10 hK10 => ?_)
      refine wp_region_lit ?_
      refine sqv hf (r_move rfl) rfl rfl rfl ?_; clear hf fa; intro fa hf
      refine sqv hf (r_assign rfl) rfl rfl rfl ?_; clear hf fa; intro fa hf
      apply wpList_nil
      (try simp only [Exit.then, Exit.inBlock, ↓reduceIte, Nat.reduceEqDiff])
      refine hK10 _ _ ?_
      refine wp_ret ?_
      (try simp only [Exit.then, Exit.inBlock])
      refine ret1 hf rfl rfl ?_
      obtain rfl : i = 32 := by omega
      exact ⟨_, rfl, Row.to hrw (bitsK_mod _ _ _ (Nat.le_refl 32)).symm, hb⟩

set_option maxHeartbeats 1000000 in
set_option maxRecDepth 100000 in
theorem rnot_any (A : Nat) (a : Option Addr) (n c : Nat) (w : World) (hA : A < 4294967296) (h : RdS 1 vBool w a (bitsK A 32)) (e : n = 32) : Calls Try.prog 84 #[(.slice a n c)] w fun e w' => ∃ v, e = .returned v ∧ Row 1 vBool 4 w.heap.size w' v (bitsK (4294967295 - A) 32) ∧ Below w.heap.size w w' := by
  refine sx_enter (L := [(0, (.slice a n c))]) Try.func84 rfl rfl rfl rfl (fun fa hf => ?_)
  have hb : Below w.heap.size w w := Below.refl _ _
  refine wp_seq_k (fun K1 hK1 => ?_)
  refine wp_region_lit ?_
  refine sqv hf (r_assign rfl) rfl rfl rfl ?_; clear hf fa; intro fa hf
  apply wpList_nil
  (try simp only [Exit.then, Exit.inBlock, ↓reduceIte, Nat.reduceEqDiff])
  refine hK1 _ _ ?_
  refine wp_seq_k (fun K2 hK2 => ?_)
  refine wp_region_lit ?_
  refine sqv hf (r_assign rfl) rfl rfl rfl ?_; clear hf fa; intro fa hf
  apply wpList_nil
  (try simp only [Exit.then, Exit.inBlock, ↓reduceIte, Nat.reduceEqDiff])
  refine hK2 _ _ ?_
  refine wp_seq_k (fun K3 hK3 => ?_)
  refine wp_seq_k (fun K4 hK4 => ?_)
  refine wp_region_lit ?_
  refine sqv hf (r_assign rfl) rfl rfl rfl ?_; clear hf fa; intro fa hf
  apply wpList_nil
  (try simp only [Exit.then, Exit.inBlock, ↓reduceIte, Nat.reduceEqDiff])
  refine hK4 _ _ ?_
  refine wp_block ?_
  refine wp_loop_k (fun m fa wr => ∃ (i : Nat) (rwa : Option Addr) (rwc : Nat), m = 32 - i ∧ Fr 18 fa [(0, (.slice a n c)), (4, (.int .i64 ((i : Nat) : Int))), (3, (.slice rwa (((bitsK (4294967295 - A) i)).length) rwc))] ∧ Below w.heap.size w wr ∧ Row 1 vBool 4 (w.heap.size) wr (.slice rwa (((bitsK (4294967295 - A) i)).length) rwc) (bitsK (4294967295 - A) i) ∧ (i ≤ 32)) ?_ ?_
  · skip
    exact ⟨_, 0, none, 0, rfl, hf.sub ⟨rfl, (some_int (by first | rfl | omega)), (some_sl (by simp <;> omega) rfl), trivial⟩, hb, Row.nil, by omega⟩
  · skip
    clear hf fa; intro m1 fa w1 hI KL1 hKL1
    clear hb
    obtain ⟨i, rwa, rwc, hm1, hf, hb, hrw, hi⟩ := hI
    have hcrw := Row.caps hrw
    have hbl0 : (bitsK (4294967295 - A) i).length = i := bitsK_length _ _
    refine wp_seq_k (fun K5 hK5 => ?_)
    refine wp_seq_k (fun K6 hK6 => ?_)
    refine wp_region_lit ?_
    refine sqv hf (r_move rfl) rfl rfl rfl ?_; clear hf fa; intro fa hf
    refine sqv hf (r_lt rfl rfl) rfl rfl rfl ?_; clear hf fa; intro fa hf
    apply wpList_nil
    (try simp only [Exit.then, Exit.inBlock, ↓reduceIte, Nat.reduceEqDiff])
    refine hK6 _ _ ?_
    refine wp_cond_split (t := (decide (((i : Nat) : Int) < (32 : Int)))) (hf.ev rfl) (fun hqt6_1 => ?_) (fun hqt6_1 => ?_)
    · have hqt6_1b := hqt6_1
      try simp only [decide_eq_true_eq, Bool.and_eq_true, Bool.or_eq_true, Bool.not_eq_true', decide_eq_false_iff_not, ne_eq, Bool.not_eq_true] at hqt6_1
      refine wp_skip ?_
      (try simp only [Exit.then, Exit.inBlock, ↓reduceIte, Nat.reduceEqDiff])
      refine hK5 _ _ ?_
      refine wp_seq_k (fun K7 hK7 => ?_)
      refine wp_block ?_
      refine wp_region_lit ?_
      refine sqv hf (r_move rfl) rfl rfl rfl ?_; clear hf fa; intro fa hf
      refine sqv hf (r_move rfl) rfl rfl rfl ?_; clear hf fa; intro fa hf
      refine sqv hf (r_move rfl) rfl rfl rfl ?_; clear hf fa; intro fa hf
      have hy1 : ((bitsK A 32))[i]? = some ((A).testBit i) := (bitsK_get (n := A) (k := 32) (i := i) (by omega))
      obtain ⟨ab1, aoff1, rfl, hlb1, hel1⟩ := RdS.at h hy1
      refine sqv hf (r_ixa (sz := 1) (j := i) rfl rfl Try.underlying162 (by kernel_rfl) rfl (by omega) rfl) rfl rfl rfl ?_; clear hf fa; intro fa hf
      refine sqv hf (r_load (v := (.bool ((A).testBit i))) rfl Try.underlying4 rfl (cellsAt_cell (cellsAt_below hel1 hb hlb1) (i := 0) rfl rfl)) rfl rfl rfl ?_; clear hf fa; intro fa hf
      refine sqv hf (r_not rfl) rfl rfl rfl ?_; clear hf fa; intro fa hf
      refine sqdt hf (d_bslice (z := (.bool false)) (sz := 1) (vs := [(0, (.bool (!((A).testBit i))))]) (cs := #[(.bool (!((A).testBit i)))]) rfl Try.underlying162 (by kernel_rfl) rfl (by kernel_rfl)) rfl rfl rfl ?_; clear hf fa; rintro fa _ w2 ⟨b1, rfl, hle1, hk1, he1⟩ hf
      have hBb1 : w.heap.size ≤ b1 := Nat.le_trans hb.size hle1
      replace hrw := Row.ext hrw he1
      replace hb := hb.trans (Below.mono he1 hb.size)
      have hs1 := Row.rd (by intros; rfl) (Row.of_new (k := 1) (V := vBool) (l := [(!((A).testBit i))]) hk1 (Nat.le_refl _) rfl rfl (Nat.le_of_ble_eq_true rfl))
      refine sqdt hf (d_append (V := vBool) (k := 1) (e := 4) (bytes := 1) (z := (.bool false)) (news := [(!((A).testBit i))]) (base := w.heap.size) (by intros; rfl) (by intro x u hu; simp only [vBool, List.mem_singleton] at hu; subst hu; rfl) rfl rfl Try.underlying162 (by kernel_rfl) rfl rfl rfl hrw hs1 rfl (fun h => by cases h) (by simp only [List.length_cons, List.length_nil, List.length_append]; omega) (by have := hb.size; omega)) rfl rfl rfl ?_; clear hf fa; rintro fa v w3 ⟨hr1, hg1⟩ hf; obtain ⟨ra1, rc1, rfl, hcrc1, hmrc1⟩ := Row.slice hr1
      replace hb := hb.trans (row_below hrw hg1 hb.size (by have := hb.size; omega))
      refine sqv hf (r_assign rfl) rfl rfl rfl ?_; clear hf fa; intro fa hf
      apply wpList_nil
      (try simp only [Exit.then, Exit.inBlock, ↓reduceIte, Nat.reduceEqDiff])
      refine hK7 _ _ ?_
      refine wp_region_lit ?_
      refine sqv hf (r_move rfl) rfl rfl rfl ?_; clear hf fa; intro fa hf
      refine sqv hf (r_add (C := (((i : Nat) : Int) + (1 : Int))) rfl rfl (by rw [IntKind.wrap_i64]; omega)) rfl rfl rfl ?_; clear hf fa; intro fa hf
      refine sqv hf (r_assign rfl) rfl rfl rfl ?_; clear hf fa; intro fa hf
      apply wpList_nil
      (try simp only [Exit.then, Exit.inBlock, ↓reduceIte, Nat.reduceEqDiff])
      refine hKL1 _ _ _ (by omega) ⟨(i + 1), ra1, rc1, rfl, hf.sub ⟨rfl, (some_int (by first | rfl | omega)), (some_sl (by simp <;> omega) rfl), trivial⟩, hb, (Row.tol hr1 (bits_snoc (not_bit' hA (by omega)))), by omega⟩
    · have hqt6_1b := hqt6_1
      replace hqt6_1 := Bool.eq_false_iff.1 hqt6_1
      try simp only [ne_eq, decide_eq_true_eq, Bool.and_eq_true, Bool.or_eq_true, Bool.not_eq_true', decide_eq_false_iff_not] at hqt6_1
      refine wp_exit ?_
      (try simp only [Exit.then, Exit.inBlock, ↓reduceIte, Nat.reduceEqDiff])
      refine hK3 _ _ ?_
      refine wp_seq_k (fun K8 hK8 => ?_)
      refine wp_region_lit ?_
      refine sqv hf (r_move rfl) rfl rfl rfl ?_; clear hf fa; intro fa hf
      refine sqv hf (r_assign rfl) rfl rfl rfl ?_; clear hf fa; intro fa hf
      apply wpList_nil
      (try simp only [Exit.then, Exit.inBlock, ↓reduceIte, Nat.reduceEqDiff])
      refine hK8 _ _ ?_
      refine wp_ret ?_
      (try simp only [Exit.then, Exit.inBlock])
      refine ret1 hf rfl rfl ?_
      obtain rfl : i = 32 := by omega
      exact ⟨_, rfl, hrw, hb⟩

set_option maxHeartbeats 1000000 in
set_option maxRecDepth 100000 in
theorem rless_any (A B : Nat) (a1 : Option Addr) (n1 c1 : Nat) (a2 : Option Addr) (n2 c2 : Nat) (w : World) (hA : A < 4294967296) (hB : B < 4294967296) (h1 : RdS 1 vBool w a1 (bitsK A 32)) (e1 : n1 = 32) (h2 : RdS 1 vBool w a2 (bitsK B 32)) (e2 : n2 = 32) : Calls Try.prog 96 #[(.slice a1 n1 c1), (.slice a2 n2 c2)] w fun e w' => e = .returned (.bool (decide (A < B))) ∧ Below w.heap.size w w' := by
  refine sx_enter (L := [(0, (.slice a1 n1 c1)), (1, (.slice a2 n2 c2))]) Try.func96 rfl rfl rfl rfl (fun fa hf => ?_)
  have hb : Below w.heap.size w w := Below.refl _ _
  refine wp_seq_k (fun K1 hK1 => ?_)
  refine wp_region_lit ?_
  refine sqv hf (r_assign rfl) rfl rfl rfl ?_; clear hf fa; intro fa hf
  apply wpList_nil
  (try simp only [Exit.then, Exit.inBlock, ↓reduceIte, Nat.reduceEqDiff])
  refine hK1 _ _ ?_
  refine wp_seq_k (fun K2 hK2 => ?_)
  refine wp_seq_k (fun K3 hK3 => ?_)
  refine wp_region_lit ?_
  refine sqv hf (r_assign rfl) rfl rfl rfl ?_; clear hf fa; intro fa hf
  apply wpList_nil
  (try simp only [Exit.then, Exit.inBlock, ↓reduceIte, Nat.reduceEqDiff])
  refine hK3 _ _ ?_
  refine wp_block ?_
  refine wp_loop_k (fun m fa wr => ∃ (j : Nat), m = j ∧ Fr 23 fa [(0, (.slice a1 n1 c1)), (1, (.slice a2 n2 c2)), (5, (.int .i64 (((j : Nat) : Int) - (1 : Int))))] ∧ Below w.heap.size w wr ∧ (j ≤ 32) ∧ (A / 2 ^ j = B / 2 ^ j)) ?_ ?_
  · skip
    exact ⟨_, 32, rfl, hf.sub ⟨rfl, rfl, (some_int (by first | rfl | omega)), trivial⟩, hb, by omega, (by omega)⟩
  · skip
    clear hf fa; intro m1 fa w1 hI KL1 hKL1
    clear hb
    obtain ⟨j, hm1, hf, hb, hj, heq⟩ := hI
    refine wp_seq_k (fun K4 hK4 => ?_)
    refine wp_seq_k (fun K5 hK5 => ?_)
    refine wp_region_lit ?_
    refine sqv hf (r_move rfl) rfl rfl rfl ?_; clear hf fa; intro fa hf
    refine sqv hf (r_ge rfl rfl) rfl rfl rfl ?_; clear hf fa; intro fa hf
    apply wpList_nil
    (try simp only [Exit.then, Exit.inBlock, ↓reduceIte, Nat.reduceEqDiff])
    refine hK5 _ _ ?_
    refine wp_cond_split (t := (decide ((0 : Int) ≤ (((j : Nat) : Int) - (1 : Int))))) (hf.ev rfl) (fun hqt7_1 => ?_) (fun hqt7_1 => ?_)
    · have hqt7_1b := hqt7_1
      try simp only [decide_eq_true_eq, Bool.and_eq_true, Bool.or_eq_true, Bool.not_eq_true', decide_eq_false_iff_not, ne_eq, Bool.not_eq_true] at hqt7_1
      refine wp_skip ?_
      (try simp only [Exit.then, Exit.inBlock, ↓reduceIte, Nat.reduceEqDiff])
      refine hK4 _ _ ?_
      refine wp_seq_k (fun K6 hK6 => ?_)
      refine wp_block ?_
      refine wp_seq_k (fun K7 hK7 => ?_)
      have hy1 : ((bitsK A 32))[(j - 1)]? = some ((A).testBit (j - 1)) := (bitsK_get (n := A) (k := 32) (i := (j - 1)) (by omega))
      obtain ⟨ab1, aoff1, rfl, hlb1, hel1⟩ := RdS.at h1 hy1
      have hy2 : ((bitsK B 32))[(j - 1)]? = some ((B).testBit (j - 1)) := (bitsK_get (n := B) (k := 32) (i := (j - 1)) (by omega))
      obtain ⟨ab2, aoff2, rfl, hlb2, hel2⟩ := RdS.at h2 hy2
      refine wp_region_un (fun wq => Below w1.heap.size w1 wq) (fun w w' => Below w.heap.size w w')
        (fun V => [(fun x _ => x = (.slice (some ⟨ab1, aoff1, none⟩) n1 c1)), (fun x _ => x = (.int .i64 (((j : Nat) : Int) - (1 : Int)))), (fun x _ => x = (.pointer (some ⟨ab1, (aoff1 + (j - 1) * 1), none⟩))), (fun x _ => x = (.bool ((A).testBit (j - 1)))), (fun x _ => x = (.slice (some ⟨ab2, aoff2, none⟩) n2 c2)), (fun x _ => x = (.int .i64 (((j : Nat) : Int) - (1 : Int)))), (fun x _ => x = (.pointer (some ⟨ab2, (aoff2 + (j - 1) * 1), none⟩))), (fun x _ => x = (.bool ((B).testBit (j - 1)))), (fun x _ => x = (.bool (!(((A).testBit (j - 1)) == ((B).testBit (j - 1))))))])
        []
        [[], [], [0, 1], [2], [], [], [4, 5], [6], [3, 7]]
        hf (by kernel_rfl) (by kernel_rfl) (fun _ => rfl) ((Below.refl _ _).drew) (fun a b h1 h2 => h1.trans (h2.mono h1.size)) (fun _ _ h => h.size) (fun V => ⟨kept_eq, kept_eq, kept_eq, kept_eq, kept_eq, kept_eq, kept_eq, kept_eq, kept_eq, trivial⟩) (fun _ _ _ _ _ => rfl) ?_ ?_
      · skip
        intro V
        refine ⟨fun wu0 hC hd => ?_, ?_⟩
        · clear hd
          replace hb := hb.trans (hC.mono hb.size)
          exact Runs.does (r_move rfl) ⟨Below.refl _ _, rfl, nofr rfl⟩
        refine ⟨fun wu1 hC hd => ?_, ?_⟩
        · clear hd
          replace hb := hb.trans (hC.mono hb.size)
          exact Runs.does (r_move rfl) ⟨Below.refl _ _, rfl, nofr rfl⟩
        refine ⟨fun wu2 hC hd => ?_, ?_⟩
        · obtain ⟨h0, h1, _⟩ := hd
          skip
          skip
          replace h0 : V 0 = (.slice (some ⟨ab1, aoff1, none⟩) n1 c1) := h0
          replace h1 : V 1 = (.int .i64 (((j : Nat) : Int) - (1 : Int))) := h1
          replace hb := hb.trans (hC.mono hb.size)
          exact Runs.does (r_ixa (sz := 1) (j := (j - 1)) (congrArg some h0) (congrArg some h1) Try.underlying162 (by kernel_rfl) (by omega) (by omega) rfl) ⟨Below.refl _ _, rfl, nofr rfl⟩
        refine ⟨fun wu3 hC hd => ?_, ?_⟩
        · obtain ⟨h2, _⟩ := hd
          skip
          replace h2 : V 2 = (.pointer (some ⟨ab1, (aoff1 + (j - 1) * 1), none⟩)) := h2
          replace hb := hb.trans (hC.mono hb.size)
          exact Runs.does (r_load (v := (.bool ((A).testBit (j - 1)))) (congrArg some h2) Try.underlying4 rfl (cellsAt_cell (cellsAt_below hel1 hb hlb1) (i := 0) rfl rfl)) ⟨Below.refl _ _, rfl, nofr rfl⟩
        refine ⟨fun wu4 hC hd => ?_, ?_⟩
        · clear hd
          replace hb := hb.trans (hC.mono hb.size)
          exact Runs.does (r_move rfl) ⟨Below.refl _ _, rfl, nofr rfl⟩
        refine ⟨fun wu5 hC hd => ?_, ?_⟩
        · clear hd
          replace hb := hb.trans (hC.mono hb.size)
          exact Runs.does (r_move rfl) ⟨Below.refl _ _, rfl, nofr rfl⟩
        refine ⟨fun wu6 hC hd => ?_, ?_⟩
        · obtain ⟨h4, h5, _⟩ := hd
          skip
          skip
          replace h4 : V 4 = (.slice (some ⟨ab2, aoff2, none⟩) n2 c2) := h4
          replace h5 : V 5 = (.int .i64 (((j : Nat) : Int) - (1 : Int))) := h5
          replace hb := hb.trans (hC.mono hb.size)
          exact Runs.does (r_ixa (sz := 1) (j := (j - 1)) (congrArg some h4) (congrArg some h5) Try.underlying162 (by kernel_rfl) (by omega) (by omega) rfl) ⟨Below.refl _ _, rfl, nofr rfl⟩
        refine ⟨fun wu7 hC hd => ?_, ?_⟩
        · obtain ⟨h6, _⟩ := hd
          skip
          replace h6 : V 6 = (.pointer (some ⟨ab2, (aoff2 + (j - 1) * 1), none⟩)) := h6
          replace hb := hb.trans (hC.mono hb.size)
          exact Runs.does (r_load (v := (.bool ((B).testBit (j - 1)))) (congrArg some h6) Try.underlying4 rfl (cellsAt_cell (cellsAt_below hel2 hb hlb2) (i := 0) rfl rfl)) ⟨Below.refl _ _, rfl, nofr rfl⟩
        refine ⟨fun wu8 hC hd => ?_, ?_⟩
        · obtain ⟨h3, h7, _⟩ := hd
          skip
          skip
          replace h3 : V 3 = (.bool ((A).testBit (j - 1))) := h3
          replace h7 : V 7 = (.bool ((B).testBit (j - 1))) := h7
          replace hb := hb.trans (hC.mono hb.size)
          exact Runs.does (r_bne Try.underlying4 (congrArg some h3) (congrArg some h7)) ⟨Below.refl _ _, rfl, nofr rfl⟩
        trivial
      · skip
        clear hf fa; intro V w2 fa he1 hp hnb hf
        have hv0 : V 0 = (.slice (some ⟨ab1, aoff1, none⟩) n1 c1) := postsHold_at hp 0 rfl
        have hv1 : V 1 = (.int .i64 (((j : Nat) : Int) - (1 : Int))) := postsHold_at hp 1 rfl
        have hv2 : V 2 = (.pointer (some ⟨ab1, (aoff1 + (j - 1) * 1), none⟩)) := postsHold_at hp 2 rfl
        have hv3 : V 3 = (.bool ((A).testBit (j - 1))) := postsHold_at hp 3 rfl
        have hv4 : V 4 = (.slice (some ⟨ab2, aoff2, none⟩) n2 c2) := postsHold_at hp 4 rfl
        have hv5 : V 5 = (.int .i64 (((j : Nat) : Int) - (1 : Int))) := postsHold_at hp 5 rfl
        have hv6 : V 6 = (.pointer (some ⟨ab2, (aoff2 + (j - 1) * 1), none⟩)) := postsHold_at hp 6 rfl
        have hv7 : V 7 = (.bool ((B).testBit (j - 1))) := postsHold_at hp 7 rfl
        have hv8 : V 8 = (.bool (!(((A).testBit (j - 1)) == ((B).testBit (j - 1))))) := postsHold_at hp 8 rfl
        simp only [List.take_succ_cons, List.take_zero, insAll, ins, hv0, hv1, hv2, hv3, hv4, hv5, hv6, hv7, hv8] at hf
        clear hp hnb hv0 hv1 hv2 hv3 hv4 hv5 hv6 hv7 hv8
        replace hb := hb.trans (Below.mono he1 hb.size)
        (try simp only [Exit.then, Exit.inBlock, ↓reduceIte, Nat.reduceEqDiff])
        refine hK7 _ _ ?_
        refine wp_cond_split (t := (!(((A).testBit (j - 1)) == ((B).testBit (j - 1))))) (hf.ev rfl) (fun hqt18_1 => ?_) (fun hqt18_1 => ?_)
        · have hqt18_1b := hqt18_1
          try simp only [decide_eq_true_eq, Bool.and_eq_true, Bool.or_eq_true, Bool.not_eq_true', decide_eq_false_iff_not, ne_eq, Bool.not_eq_true] at hqt18_1
          refine wp_seq_k (fun K8 hK8 => ?_)
          refine wp_region_lit ?_
          refine sqv hf (r_move rfl) rfl rfl rfl ?_; clear hf fa; intro fa hf
          refine sqv hf (r_move rfl) rfl rfl rfl ?_; clear hf fa; intro fa hf
          refine sqv hf (r_ixa (sz := 1) (j := (j - 1)) rfl rfl Try.underlying162 (by kernel_rfl) (by omega) (by omega) rfl) rfl rfl rfl ?_; clear hf fa; intro fa hf
          refine sqv hf (r_load (v := (.bool ((B).testBit (j - 1)))) rfl Try.underlying4 rfl (cellsAt_cell (cellsAt_below hel2 hb hlb2) (i := 0) rfl rfl)) rfl rfl rfl ?_; clear hf fa; intro fa hf
          refine sqv hf (r_assign rfl) rfl rfl rfl ?_; clear hf fa; intro fa hf
          apply wpList_nil
          (try simp only [Exit.then, Exit.inBlock, ↓reduceIte, Nat.reduceEqDiff])
          refine hK8 _ _ ?_
          refine wp_ret ?_
          (try simp only [Exit.then, Exit.inBlock])
          refine ret1 hf rfl rfl ?_
          refine ⟨congrArg (fun b => Ending.returned (.bool b)) (less_at (i := j - 1) (by rw [show j - 1 + 1 = j by omega]; exact heq) (by have h := hqt18_1b; revert h; cases A.testBit (j - 1) <;> cases B.testBit (j - 1) <;> simp)).symm, hb⟩
        · have hqt18_1b := hqt18_1
          replace hqt18_1 := Bool.eq_false_iff.1 hqt18_1
          try simp only [ne_eq, decide_eq_true_eq, Bool.and_eq_true, Bool.or_eq_true, Bool.not_eq_true', decide_eq_false_iff_not] at hqt18_1
          refine wp_skip ?_
          (try simp only [Exit.then, Exit.inBlock, ↓reduceIte, Nat.reduceEqDiff])
          refine hK6 _ _ ?_
          refine wp_region_lit ?_
          refine sqv hf (r_move rfl) rfl rfl rfl ?_; clear hf fa; intro fa hf
          refine sqv hf (r_sub (C := ((((j : Nat) : Int) - (1 : Int)) - (1 : Int))) rfl rfl (by rw [IntKind.wrap_i64]; omega)) rfl rfl rfl ?_; clear hf fa; intro fa hf
          refine sqv hf (r_assign rfl) rfl rfl rfl ?_; clear hf fa; intro fa hf
          apply wpList_nil
          (try simp only [Exit.then, Exit.inBlock, ↓reduceIte, Nat.reduceEqDiff])
          refine hKL1 _ _ _ (by omega) ⟨(j - 1), rfl, hf.sub ⟨rfl, rfl, (some_int (by first | rfl | omega)), trivial⟩, hb, by omega, (less_next (by rw [show j - 1 + 1 = j by omega]; exact heq) (by have h := hqt18_1b; revert h; cases A.testBit (j - 1) <;> cases B.testBit (j - 1) <;> simp))⟩
    · have hqt7_1b := hqt7_1
      replace hqt7_1 := Bool.eq_false_iff.1 hqt7_1
      try simp only [ne_eq, decide_eq_true_eq, Bool.and_eq_true, Bool.or_eq_true, Bool.not_eq_true', decide_eq_false_iff_not] at hqt7_1
      refine wp_exit ?_
      (try simp only [Exit.then, Exit.inBlock, ↓reduceIte, Nat.reduceEqDiff])
      refine hK2 _ _ ?_
      refine wp_seq_k (fun K9 hK9 => ?_)
      refine wp_region_lit ?_
      refine sqv hf (r_assign rfl) rfl rfl rfl ?_; clear hf fa; intro fa hf
      apply wpList_nil
      (try simp only [Exit.then, Exit.inBlock, ↓reduceIte, Nat.reduceEqDiff])
      refine hK9 _ _ ?_
      refine wp_ret ?_
      (try simp only [Exit.then, Exit.inBlock])
      refine ret1 hf rfl rfl ?_
      obtain rfl : j = 0 := by omega
      rw [Nat.pow_zero, Nat.div_one, Nat.div_one] at heq
      subst heq
      exact ⟨by simp, hb⟩

set_option maxHeartbeats 1000000 in
set_option maxRecDepth 100000 in
theorem rshift_any (A mm : Nat) (s : Int) (fl : Bool) (a : Option Addr) (n c : Nat) (w : World) (hs : -31 ≤ s ∧ s ≤ 31) (hm : ∀ i, i < 32 → mm.testBit i = ((decide (0 ≤ ((i : Nat) : Int) - s) && decide (((i : Nat) : Int) - s < 32) && A.testBit (((i : Nat) : Int) - s).toNat) || ((decide (((i : Nat) : Int) - s < 0) || decide (32 ≤ ((i : Nat) : Int) - s)) && fl))) (h : RdS 1 vBool w a (bitsK A 32)) (e : n = 32) : Calls Try.prog 88 #[(.slice a n c), (.int .i64 s), (.bool fl)] w fun e w' => ∃ v, e = .returned v ∧ Row 1 vBool 4 w.heap.size w' v (bitsK mm 32) ∧ Below w.heap.size w w' := by
  refine sx_enter (L := [(0, (.slice a n c)), (1, (.int .i64 s)), (2, (.bool fl))]) Try.func88 rfl rfl rfl rfl (fun fa hf => ?_)
  have hb : Below w.heap.size w w := Below.refl _ _
  refine wp_seq_k (fun K1 hK1 => ?_)
  refine wp_region_lit ?_
  refine sqv hf (r_assign rfl) rfl rfl rfl ?_; clear hf fa; intro fa hf
  apply wpList_nil
  (try simp only [Exit.then, Exit.inBlock, ↓reduceIte, Nat.reduceEqDiff])
  refine hK1 _ _ ?_
  refine wp_seq_k (fun K2 hK2 => ?_)
  refine wp_region_lit ?_
  refine sqv hf (r_assign rfl) rfl rfl rfl ?_; clear hf fa; intro fa hf
  apply wpList_nil
  (try simp only [Exit.then, Exit.inBlock, ↓reduceIte, Nat.reduceEqDiff])
  refine hK2 _ _ ?_
  refine wp_seq_k (fun K3 hK3 => ?_)
  refine wp_seq_k (fun K4 hK4 => ?_)
  refine wp_region_lit ?_
  refine sqv hf (r_assign rfl) rfl rfl rfl ?_; clear hf fa; intro fa hf
  apply wpList_nil
  (try simp only [Exit.then, Exit.inBlock, ↓reduceIte, Nat.reduceEqDiff])
  refine hK4 _ _ ?_
  refine wp_block ?_
  refine wp_loop_k (fun m fa wr => ∃ (i : Nat) (rwa : Option Addr) (rwc : Nat), m = 32 - i ∧ Fr 44 fa [(0, (.slice a n c)), (1, (.int .i64 s)), (2, (.bool fl)), (8, (.int .i64 ((i : Nat) : Int))), (7, (.slice rwa (((bitsK mm i)).length) rwc))] ∧ Below w.heap.size w wr ∧ Row 1 vBool 4 (w.heap.size) wr (.slice rwa (((bitsK mm i)).length) rwc) (bitsK mm i) ∧ (i ≤ 32)) ?_ ?_
  · skip
    exact ⟨_, 0, none, 0, rfl, hf.sub ⟨rfl, rfl, rfl, (some_int (by first | rfl | omega)), (some_sl (by simp <;> omega) rfl), trivial⟩, hb, Row.nil, by omega⟩
  · skip
    clear hf fa; intro m1 fa w1 hI KL1 hKL1
    clear hb
    obtain ⟨i, rwa, rwc, hm1, hf, hb, hrw, hi⟩ := hI
    have hcrw := Row.caps hrw
    have hbl0 : (bitsK mm i).length = i := bitsK_length _ _
    refine wp_seq_k (fun K5 hK5 => ?_)
    refine wp_seq_k (fun K6 hK6 => ?_)
    refine wp_region_lit ?_
    refine sqv hf (r_move rfl) rfl rfl rfl ?_; clear hf fa; intro fa hf
    refine sqv hf (r_lt rfl rfl) rfl rfl rfl ?_; clear hf fa; intro fa hf
    apply wpList_nil
    (try simp only [Exit.then, Exit.inBlock, ↓reduceIte, Nat.reduceEqDiff])
    refine hK6 _ _ ?_
    refine wp_cond_split (t := (decide (((i : Nat) : Int) < (32 : Int)))) (hf.ev rfl) (fun hqt11_1 => ?_) (fun hqt11_1 => ?_)
    · have hqt11_1b := hqt11_1
      try simp only [decide_eq_true_eq, Bool.and_eq_true, Bool.or_eq_true, Bool.not_eq_true', decide_eq_false_iff_not, ne_eq, Bool.not_eq_true] at hqt11_1
      refine wp_skip ?_
      (try simp only [Exit.then, Exit.inBlock, ↓reduceIte, Nat.reduceEqDiff])
      refine hK5 _ _ ?_
      refine wp_seq_k (fun K7 hK7 => ?_)
      refine wp_block ?_
      refine wp_seq_k (fun K8 hK8 => ?_)
      refine wp_region_lit ?_
      refine sqv hf (r_move rfl) rfl rfl rfl ?_; clear hf fa; intro fa hf
      refine sqv hf (r_move rfl) rfl rfl rfl ?_; clear hf fa; intro fa hf
      refine sqv hf (r_sub (C := (((i : Nat) : Int) - s)) rfl rfl (by rw [IntKind.wrap_i64]; omega)) rfl rfl rfl ?_; clear hf fa; intro fa hf
      refine sqv hf (r_assign rfl) rfl rfl rfl ?_; clear hf fa; intro fa hf
      apply wpList_nil
      (try simp only [Exit.then, Exit.inBlock, ↓reduceIte, Nat.reduceEqDiff])
      refine hK8 _ _ ?_
      refine wp_region_lit ?_
      refine sqv hf (r_move rfl) rfl rfl rfl ?_; clear hf fa; intro fa hf
      refine sqv hf (r_move rfl) rfl rfl rfl ?_; clear hf fa; intro fa hf
      refine sqv hf (r_ge rfl rfl) rfl rfl rfl ?_; clear hf fa; intro fa hf
      refine sqv hf (r_move rfl) rfl rfl rfl ?_; clear hf fa; intro fa hf
      refine sqgT (act := (decide ((0 : Int) ≤ (((i : Nat) : Int) - s)))) (ag := true) (c := (decide ((0 : Int) ≤ (((i : Nat) : Int) - s)))) (v := (.int .i64 (((i : Nat) : Int) - s))) hf rfl rfl rfl (fun hact => (r_move rfl)) rfl rfl ?_; clear hf fa; intro fa hf
      refine sqgT (act := (decide ((0 : Int) ≤ (((i : Nat) : Int) - s)))) (ag := true) (c := (decide ((0 : Int) ≤ (((i : Nat) : Int) - s)))) (v := (.bool (decide ((((i : Nat) : Int) - s) < (32 : Int))))) hf rfl rfl rfl (fun hact => (r_lt (gb_ev hact rfl) rfl)) rfl rfl ?_; clear hf fa; intro fa hf
      refine sqv hf (r_pickA (b := (decide ((0 : Int) ≤ (((i : Nat) : Int) - s)))) (e := (decide ((((i : Nat) : Int) - s) < (32 : Int)))) rfl rfl rfl) rfl rfl rfl ?_; clear hf fa; intro fa hf
      refine sqv hf (r_move rfl) rfl rfl rfl ?_; clear hf fa; intro fa hf
      refine sqgT (act := ((decide ((0 : Int) ≤ (((i : Nat) : Int) - s))) && (decide ((((i : Nat) : Int) - s) < (32 : Int))))) (ag := true) (c := ((decide ((0 : Int) ≤ (((i : Nat) : Int) - s))) && (decide ((((i : Nat) : Int) - s) < (32 : Int))))) (v := (.slice a n c)) hf rfl rfl rfl (fun hact => (r_move rfl)) rfl rfl ?_; clear hf fa; intro fa hf
      refine sqgT (act := ((decide ((0 : Int) ≤ (((i : Nat) : Int) - s))) && (decide ((((i : Nat) : Int) - s) < (32 : Int))))) (ag := true) (c := ((decide ((0 : Int) ≤ (((i : Nat) : Int) - s))) && (decide ((((i : Nat) : Int) - s) < (32 : Int))))) (v := (.int .i64 (((i : Nat) : Int) - s))) hf rfl rfl rfl (fun hact => (r_move rfl)) rfl rfl ?_; clear hf fa; intro fa hf
      obtain ⟨ab1, aoff1, rfl, _, _⟩ := RdS.at h (show ((bitsK A 32))[0]? = some ((A).testBit 0) from (bitsK_get (n := A) (k := 32) (i := 0) (by omega)))
      refine sqgT (act := ((decide ((0 : Int) ≤ (((i : Nat) : Int) - s))) && (decide ((((i : Nat) : Int) - s) < (32 : Int))))) (ag := true) (c := ((decide ((0 : Int) ≤ (((i : Nat) : Int) - s))) && (decide ((((i : Nat) : Int) - s) < (32 : Int))))) (v := (.pointer (some ⟨ab1, (aoff1 + (((i : Nat) : Int) - s).toNat * 1), none⟩))) hf rfl rfl rfl (fun hact => (by have hact0 := hact; simp only [Bool.and_eq_true, Bool.not_eq_true', Bool.or_eq_false_iff, Bool.or_eq_true, Bool.and_eq_false_iff, ne_eq, decide_eq_true_eq, decide_eq_false_iff_not] at hact0; exact (r_ixa (sz := 1) (j := (((i : Nat) : Int) - s).toNat) (gb_ev hact rfl) (gb_ev hact rfl) Try.underlying162 (by kernel_rfl) (by omega) (by omega) rfl))) rfl rfl ?_; clear hf fa; intro fa hf
      refine sqgT (act := ((decide ((0 : Int) ≤ (((i : Nat) : Int) - s))) && (decide ((((i : Nat) : Int) - s) < (32 : Int))))) (ag := true) (c := ((decide ((0 : Int) ≤ (((i : Nat) : Int) - s))) && (decide ((((i : Nat) : Int) - s) < (32 : Int))))) (v := (.bool ((A).testBit (((i : Nat) : Int) - s).toNat))) hf rfl rfl rfl (fun hact => (by have hact0 := hact; simp only [Bool.and_eq_true, Bool.not_eq_true', Bool.or_eq_false_iff, Bool.or_eq_true, Bool.and_eq_false_iff, ne_eq, decide_eq_true_eq, decide_eq_false_iff_not] at hact0; exact (r_load (v := (.bool ((A).testBit (((i : Nat) : Int) - s).toNat))) (gb_ev hact rfl) Try.underlying4 rfl (cellsAt_cell (cellsAt_below (RdS.cell h (bitsK_get (n := A) (k := 32) (i := (((i : Nat) : Int) - s).toNat) (by omega))).1 hb (RdS.cell h (bitsK_get (n := A) (k := 32) (i := (((i : Nat) : Int) - s).toNat) (by omega))).2) (i := 0) rfl rfl)))) rfl rfl ?_; clear hf fa; intro fa hf
      refine sqv hf (r_pickA (b := ((decide ((0 : Int) ≤ (((i : Nat) : Int) - s))) && (decide ((((i : Nat) : Int) - s) < (32 : Int))))) (e := ((A).testBit (((i : Nat) : Int) - s).toNat)) rfl rfl rfl) rfl rfl rfl ?_; clear hf fa; intro fa hf
      refine sqv hf (r_move rfl) rfl rfl rfl ?_; clear hf fa; intro fa hf
      refine sqgF (act := (!(((decide ((0 : Int) ≤ (((i : Nat) : Int) - s))) && (decide ((((i : Nat) : Int) - s) < (32 : Int)))) && ((A).testBit (((i : Nat) : Int) - s).toNat)))) (ag := true) (c := (((decide ((0 : Int) ≤ (((i : Nat) : Int) - s))) && (decide ((((i : Nat) : Int) - s) < (32 : Int)))) && ((A).testBit (((i : Nat) : Int) - s).toNat))) (v := (.int .i64 (((i : Nat) : Int) - s))) hf rfl rfl rfl (fun hact => (r_move rfl)) rfl rfl ?_; clear hf fa; intro fa hf
      refine sqgF (act := (!(((decide ((0 : Int) ≤ (((i : Nat) : Int) - s))) && (decide ((((i : Nat) : Int) - s) < (32 : Int)))) && ((A).testBit (((i : Nat) : Int) - s).toNat)))) (ag := true) (c := (((decide ((0 : Int) ≤ (((i : Nat) : Int) - s))) && (decide ((((i : Nat) : Int) - s) < (32 : Int)))) && ((A).testBit (((i : Nat) : Int) - s).toNat))) (v := (.bool (decide ((((i : Nat) : Int) - s) < (0 : Int))))) hf rfl rfl rfl (fun hact => (r_lt (gb_ev hact rfl) rfl)) rfl rfl ?_; clear hf fa; intro fa hf
      refine sqgF (act := (!(((decide ((0 : Int) ≤ (((i : Nat) : Int) - s))) && (decide ((((i : Nat) : Int) - s) < (32 : Int)))) && ((A).testBit (((i : Nat) : Int) - s).toNat)))) (ag := true) (c := (((decide ((0 : Int) ≤ (((i : Nat) : Int) - s))) && (decide ((((i : Nat) : Int) - s) < (32 : Int)))) && ((A).testBit (((i : Nat) : Int) - s).toNat))) (v := (.bool (decide ((((i : Nat) : Int) - s) < (0 : Int))))) hf rfl rfl rfl (fun hact => (r_move (gb_ev hact rfl))) rfl rfl ?_; clear hf fa; intro fa hf
      refine sqgF (act := ((!(((decide ((0 : Int) ≤ (((i : Nat) : Int) - s))) && (decide ((((i : Nat) : Int) - s) < (32 : Int)))) && ((A).testBit (((i : Nat) : Int) - s).toNat))) && !(decide ((((i : Nat) : Int) - s) < (0 : Int))))) (ag := (!(((decide ((0 : Int) ≤ (((i : Nat) : Int) - s))) && (decide ((((i : Nat) : Int) - s) < (32 : Int)))) && ((A).testBit (((i : Nat) : Int) - s).toNat)))) (c := (decide ((((i : Nat) : Int) - s) < (0 : Int)))) (v := (.int .i64 (((i : Nat) : Int) - s))) hf rfl rfl rfl (fun hact => (r_move rfl)) rfl rfl ?_; clear hf fa; intro fa hf
      refine sqgF (act := ((!(((decide ((0 : Int) ≤ (((i : Nat) : Int) - s))) && (decide ((((i : Nat) : Int) - s) < (32 : Int)))) && ((A).testBit (((i : Nat) : Int) - s).toNat))) && !(decide ((((i : Nat) : Int) - s) < (0 : Int))))) (ag := (!(((decide ((0 : Int) ≤ (((i : Nat) : Int) - s))) && (decide ((((i : Nat) : Int) - s) < (32 : Int)))) && ((A).testBit (((i : Nat) : Int) - s).toNat)))) (c := (decide ((((i : Nat) : Int) - s) < (0 : Int)))) (v := (.bool (decide ((32 : Int) ≤ (((i : Nat) : Int) - s))))) hf rfl rfl rfl (fun hact => (r_ge (gb_ev hact rfl) rfl)) rfl rfl ?_; clear hf fa; intro fa hf
      refine sqgF (act := (!(((decide ((0 : Int) ≤ (((i : Nat) : Int) - s))) && (decide ((((i : Nat) : Int) - s) < (32 : Int)))) && ((A).testBit (((i : Nat) : Int) - s).toNat)))) (ag := true) (c := (((decide ((0 : Int) ≤ (((i : Nat) : Int) - s))) && (decide ((((i : Nat) : Int) - s) < (32 : Int)))) && ((A).testBit (((i : Nat) : Int) - s).toNat))) (v := (.bool ((decide ((((i : Nat) : Int) - s) < (0 : Int))) || (decide ((32 : Int) ≤ (((i : Nat) : Int) - s)))))) hf rfl rfl rfl (fun hact => (r_pickO2 (q := (!(((decide ((0 : Int) ≤ (((i : Nat) : Int) - s))) && (decide ((((i : Nat) : Int) - s) < (32 : Int)))) && ((A).testBit (((i : Nat) : Int) - s).toNat)))) (b := (decide ((((i : Nat) : Int) - s) < (0 : Int)))) (e := (decide ((32 : Int) ≤ (((i : Nat) : Int) - s)))) hact rfl rfl rfl)) rfl rfl ?_; clear hf fa; intro fa hf
      refine sqgF (act := (!(((decide ((0 : Int) ≤ (((i : Nat) : Int) - s))) && (decide ((((i : Nat) : Int) - s) < (32 : Int)))) && ((A).testBit (((i : Nat) : Int) - s).toNat)))) (ag := true) (c := (((decide ((0 : Int) ≤ (((i : Nat) : Int) - s))) && (decide ((((i : Nat) : Int) - s) < (32 : Int)))) && ((A).testBit (((i : Nat) : Int) - s).toNat))) (v := (.bool ((decide ((((i : Nat) : Int) - s) < (0 : Int))) || (decide ((32 : Int) ≤ (((i : Nat) : Int) - s)))))) hf rfl rfl rfl (fun hact => (r_move (gb_ev hact rfl))) rfl rfl ?_; clear hf fa; intro fa hf
      refine sqgT (act := ((!(((decide ((0 : Int) ≤ (((i : Nat) : Int) - s))) && (decide ((((i : Nat) : Int) - s) < (32 : Int)))) && ((A).testBit (((i : Nat) : Int) - s).toNat))) && ((decide ((((i : Nat) : Int) - s) < (0 : Int))) || (decide ((32 : Int) ≤ (((i : Nat) : Int) - s)))))) (ag := (!(((decide ((0 : Int) ≤ (((i : Nat) : Int) - s))) && (decide ((((i : Nat) : Int) - s) < (32 : Int)))) && ((A).testBit (((i : Nat) : Int) - s).toNat)))) (c := ((decide ((((i : Nat) : Int) - s) < (0 : Int))) || (decide ((32 : Int) ≤ (((i : Nat) : Int) - s))))) (v := (.bool fl)) hf rfl rfl rfl (fun hact => (r_move rfl)) rfl rfl ?_; clear hf fa; intro fa hf
      refine sqgF (act := (!(((decide ((0 : Int) ≤ (((i : Nat) : Int) - s))) && (decide ((((i : Nat) : Int) - s) < (32 : Int)))) && ((A).testBit (((i : Nat) : Int) - s).toNat)))) (ag := true) (c := (((decide ((0 : Int) ≤ (((i : Nat) : Int) - s))) && (decide ((((i : Nat) : Int) - s) < (32 : Int)))) && ((A).testBit (((i : Nat) : Int) - s).toNat))) (v := (.bool (((decide ((((i : Nat) : Int) - s) < (0 : Int))) || (decide ((32 : Int) ≤ (((i : Nat) : Int) - s)))) && fl))) hf rfl rfl rfl (fun hact => (r_pickA2 (q := (!(((decide ((0 : Int) ≤ (((i : Nat) : Int) - s))) && (decide ((((i : Nat) : Int) - s) < (32 : Int)))) && ((A).testBit (((i : Nat) : Int) - s).toNat)))) (b := ((decide ((((i : Nat) : Int) - s) < (0 : Int))) || (decide ((32 : Int) ≤ (((i : Nat) : Int) - s))))) (e := fl) hact rfl rfl rfl)) rfl rfl ?_; clear hf fa; intro fa hf
      refine sqv hf (r_pickO (b := (((decide ((0 : Int) ≤ (((i : Nat) : Int) - s))) && (decide ((((i : Nat) : Int) - s) < (32 : Int)))) && ((A).testBit (((i : Nat) : Int) - s).toNat))) (e := (((decide ((((i : Nat) : Int) - s) < (0 : Int))) || (decide ((32 : Int) ≤ (((i : Nat) : Int) - s)))) && fl)) rfl rfl rfl) rfl rfl rfl ?_; clear hf fa; intro fa hf
      refine sqdt hf (d_bslice (z := (.bool false)) (sz := 1) (vs := [(0, (.bool ((((decide ((0 : Int) ≤ (((i : Nat) : Int) - s))) && (decide ((((i : Nat) : Int) - s) < (32 : Int)))) && ((A).testBit (((i : Nat) : Int) - s).toNat)) || (((decide ((((i : Nat) : Int) - s) < (0 : Int))) || (decide ((32 : Int) ≤ (((i : Nat) : Int) - s)))) && fl))))]) (cs := #[(.bool ((((decide ((0 : Int) ≤ (((i : Nat) : Int) - s))) && (decide ((((i : Nat) : Int) - s) < (32 : Int)))) && ((A).testBit (((i : Nat) : Int) - s).toNat)) || (((decide ((((i : Nat) : Int) - s) < (0 : Int))) || (decide ((32 : Int) ≤ (((i : Nat) : Int) - s)))) && fl)))]) rfl Try.underlying162 (by kernel_rfl) rfl (by kernel_rfl)) rfl rfl rfl ?_; clear hf fa; rintro fa _ w2 ⟨b1, rfl, hle1, hk1, he1⟩ hf
      have hBb1 : w.heap.size ≤ b1 := Nat.le_trans hb.size hle1
      replace hrw := Row.ext hrw he1
      replace hb := hb.trans (Below.mono he1 hb.size)
      have hs1 := Row.rd (by intros; rfl) (Row.of_new (k := 1) (V := vBool) (l := [((((decide ((0 : Int) ≤ (((i : Nat) : Int) - s))) && (decide ((((i : Nat) : Int) - s) < (32 : Int)))) && ((A).testBit (((i : Nat) : Int) - s).toNat)) || (((decide ((((i : Nat) : Int) - s) < (0 : Int))) || (decide ((32 : Int) ≤ (((i : Nat) : Int) - s)))) && fl))]) hk1 (Nat.le_refl _) rfl rfl (Nat.le_of_ble_eq_true rfl))
      refine sqdt hf (d_append (V := vBool) (k := 1) (e := 4) (bytes := 1) (z := (.bool false)) (news := [((((decide ((0 : Int) ≤ (((i : Nat) : Int) - s))) && (decide ((((i : Nat) : Int) - s) < (32 : Int)))) && ((A).testBit (((i : Nat) : Int) - s).toNat)) || (((decide ((((i : Nat) : Int) - s) < (0 : Int))) || (decide ((32 : Int) ≤ (((i : Nat) : Int) - s)))) && fl))]) (base := w.heap.size) (by intros; rfl) (by intro x u hu; simp only [vBool, List.mem_singleton] at hu; subst hu; rfl) rfl rfl Try.underlying162 (by kernel_rfl) rfl rfl rfl hrw hs1 rfl (fun h => by cases h) (by simp only [List.length_cons, List.length_nil, List.length_append]; omega) (by have := hb.size; omega)) rfl rfl rfl ?_; clear hf fa; rintro fa v w3 ⟨hr1, hg1⟩ hf; obtain ⟨ra1, rc1, rfl, hcrc1, hmrc1⟩ := Row.slice hr1
      replace hb := hb.trans (row_below hrw hg1 hb.size (by have := hb.size; omega))
      refine sqv hf (r_assign rfl) rfl rfl rfl ?_; clear hf fa; intro fa hf
      apply wpList_nil
      (try simp only [Exit.then, Exit.inBlock, ↓reduceIte, Nat.reduceEqDiff])
      refine hK7 _ _ ?_
      refine wp_region_lit ?_
      refine sqv hf (r_move rfl) rfl rfl rfl ?_; clear hf fa; intro fa hf
      refine sqv hf (r_add (C := (((i : Nat) : Int) + (1 : Int))) rfl rfl (by rw [IntKind.wrap_i64]; omega)) rfl rfl rfl ?_; clear hf fa; intro fa hf
      refine sqv hf (r_assign rfl) rfl rfl rfl ?_; clear hf fa; intro fa hf
      apply wpList_nil
      (try simp only [Exit.then, Exit.inBlock, ↓reduceIte, Nat.reduceEqDiff])
      refine hKL1 _ _ _ (by omega) ⟨(i + 1), ra1, rc1, rfl, hf.sub ⟨rfl, rfl, rfl, (some_int (by first | rfl | omega)), (some_sl (by simp <;> omega) rfl), trivial⟩, hb, (Row.tol hr1 (bits_snoc (hm i (by omega)).symm)), by omega⟩
    · have hqt11_1b := hqt11_1
      replace hqt11_1 := Bool.eq_false_iff.1 hqt11_1
      try simp only [ne_eq, decide_eq_true_eq, Bool.and_eq_true, Bool.or_eq_true, Bool.not_eq_true', decide_eq_false_iff_not] at hqt11_1
      refine wp_exit ?_
      (try simp only [Exit.then, Exit.inBlock, ↓reduceIte, Nat.reduceEqDiff])
      refine hK3 _ _ ?_
      refine wp_seq_k (fun K9 hK9 => ?_)
      refine wp_region_lit ?_
      refine sqv hf (r_move rfl) rfl rfl rfl ?_; clear hf fa; intro fa hf
      refine sqv hf (r_assign rfl) rfl rfl rfl ?_; clear hf fa; intro fa hf
      apply wpList_nil
      (try simp only [Exit.then, Exit.inBlock, ↓reduceIte, Nat.reduceEqDiff])
      refine hK9 _ _ ?_
      refine wp_ret ?_
      (try simp only [Exit.then, Exit.inBlock])
      refine ret1 hf rfl rfl ?_
      obtain rfl : i = 32 := by omega
      exact ⟨_, rfl, hrw, hb⟩

set_option maxHeartbeats 1000000 in
set_option maxRecDepth 100000 in
theorem rrotate_any (A mm : Nat) (s : Int) (a : Option Addr) (n c : Nat) (w : World) (hs : -31 ≤ s ∧ s ≤ 31) (hm : ∀ i, i < 32 → mm.testBit i = A.testBit ((((i : Nat) : Int) - s) % 32).toNat) (h : RdS 1 vBool w a (bitsK A 32)) (e : n = 32) : Calls Try.prog 89 #[(.slice a n c), (.int .i64 s)] w fun e w' => ∃ v, e = .returned v ∧ Row 1 vBool 4 w.heap.size w' v (bitsK mm 32) ∧ Below w.heap.size w w' := by
  refine sx_enter (L := [(0, (.slice a n c)), (1, (.int .i64 s))]) Try.func89 rfl rfl rfl rfl (fun fa hf => ?_)
  have hb : Below w.heap.size w w := Below.refl _ _
  refine wp_seq_k (fun K1 hK1 => ?_)
  refine wp_region_lit ?_
  refine sqv hf (r_assign rfl) rfl rfl rfl ?_; clear hf fa; intro fa hf
  apply wpList_nil
  (try simp only [Exit.then, Exit.inBlock, ↓reduceIte, Nat.reduceEqDiff])
  refine hK1 _ _ ?_
  refine wp_seq_k (fun K2 hK2 => ?_)
  refine wp_region_lit ?_
  refine sqv hf (r_assign rfl) rfl rfl rfl ?_; clear hf fa; intro fa hf
  apply wpList_nil
  (try simp only [Exit.then, Exit.inBlock, ↓reduceIte, Nat.reduceEqDiff])
  refine hK2 _ _ ?_
  refine wp_seq_k (fun K3 hK3 => ?_)
  refine wp_seq_k (fun K4 hK4 => ?_)
  refine wp_region_lit ?_
  refine sqv hf (r_assign rfl) rfl rfl rfl ?_; clear hf fa; intro fa hf
  apply wpList_nil
  (try simp only [Exit.then, Exit.inBlock, ↓reduceIte, Nat.reduceEqDiff])
  refine hK4 _ _ ?_
  refine wp_block ?_
  refine wp_loop_k (fun m fa wr => ∃ (i : Nat) (rwa : Option Addr) (rwc : Nat), m = 32 - i ∧ Fr 24 fa [(0, (.slice a n c)), (1, (.int .i64 s)), (6, (.int .i64 ((i : Nat) : Int))), (5, (.slice rwa (((bitsK mm i)).length) rwc))] ∧ Below w.heap.size w wr ∧ Row 1 vBool 4 (w.heap.size) wr (.slice rwa (((bitsK mm i)).length) rwc) (bitsK mm i) ∧ (i ≤ 32)) ?_ ?_
  · skip
    exact ⟨_, 0, none, 0, rfl, hf.sub ⟨rfl, rfl, (some_int (by first | rfl | omega)), (some_sl (by simp <;> omega) rfl), trivial⟩, hb, Row.nil, by omega⟩
  · skip
    clear hf fa; intro m1 fa w1 hI KL1 hKL1
    clear hb
    obtain ⟨i, rwa, rwc, hm1, hf, hb, hrw, hi⟩ := hI
    have hcrw := Row.caps hrw
    have hbl0 : (bitsK mm i).length = i := bitsK_length _ _
    refine wp_seq_k (fun K5 hK5 => ?_)
    refine wp_seq_k (fun K6 hK6 => ?_)
    refine wp_region_lit ?_
    refine sqv hf (r_move rfl) rfl rfl rfl ?_; clear hf fa; intro fa hf
    refine sqv hf (r_lt rfl rfl) rfl rfl rfl ?_; clear hf fa; intro fa hf
    apply wpList_nil
    (try simp only [Exit.then, Exit.inBlock, ↓reduceIte, Nat.reduceEqDiff])
    refine hK6 _ _ ?_
    refine wp_cond_split (t := (decide (((i : Nat) : Int) < (32 : Int)))) (hf.ev rfl) (fun hqt8_1 => ?_) (fun hqt8_1 => ?_)
    · have hqt8_1b := hqt8_1
      try simp only [decide_eq_true_eq, Bool.and_eq_true, Bool.or_eq_true, Bool.not_eq_true', decide_eq_false_iff_not, ne_eq, Bool.not_eq_true] at hqt8_1
      refine wp_skip ?_
      (try simp only [Exit.then, Exit.inBlock, ↓reduceIte, Nat.reduceEqDiff])
      refine hK5 _ _ ?_
      refine wp_seq_k (fun K7 hK7 => ?_)
      refine wp_block ?_
      have hrm := Int.emod_nonneg (((i : Nat) : Int) - s) (show (32 : Int) ≠ 0 by decide); have hrm2 := Int.emod_lt_of_pos (((i : Nat) : Int) - s) (show (0 : Int) < 32 by decide); have htm := tmod_bd (((i : Nat) : Int) - s)
      refine wp_region_lit ?_
      refine sqv hf (r_move rfl) rfl rfl rfl ?_; clear hf fa; intro fa hf
      refine sqv hf (r_move rfl) rfl rfl rfl ?_; clear hf fa; intro fa hf
      refine sqv hf (r_move rfl) rfl rfl rfl ?_; clear hf fa; intro fa hf
      refine sqv hf (r_move rfl) rfl rfl rfl ?_; clear hf fa; intro fa hf
      refine sqv hf (r_sub (C := (((i : Nat) : Int) - s)) rfl rfl (by rw [IntKind.wrap_i64]; omega)) rfl rfl rfl ?_; clear hf fa; intro fa hf
      refine sqv hf (r_rem (C := (((((i : Nat) : Int) - s).tmod 32))) rfl rfl (by omega) rfl) rfl rfl rfl ?_; clear hf fa; intro fa hf
      refine sqv hf (r_add (C := ((((((i : Nat) : Int) - s).tmod 32)) + (32 : Int))) rfl rfl (by rw [IntKind.wrap_i64]; omega)) rfl rfl rfl ?_; clear hf fa; intro fa hf
      refine sqv hf (r_rem (C := (((((i : Nat) : Int) - s) % 32))) rfl rfl (by omega) (rot_mod _)) rfl rfl rfl ?_; clear hf fa; intro fa hf
      have hy1 : ((bitsK A 32))[(((((i : Nat) : Int) - s) % 32)).toNat]? = some ((A).testBit (((((i : Nat) : Int) - s) % 32)).toNat) := (bitsK_get (n := A) (k := 32) (i := (((((i : Nat) : Int) - s) % 32)).toNat) (by omega))
      obtain ⟨ab1, aoff1, rfl, hlb1, hel1⟩ := RdS.at h hy1
      refine sqv hf (r_ixa (sz := 1) (j := (((((i : Nat) : Int) - s) % 32)).toNat) rfl rfl Try.underlying162 (by kernel_rfl) (by omega) (by omega) rfl) rfl rfl rfl ?_; clear hf fa; intro fa hf
      refine sqv hf (r_load (v := (.bool ((A).testBit (((((i : Nat) : Int) - s) % 32)).toNat))) rfl Try.underlying4 rfl (cellsAt_cell (cellsAt_below hel1 hb hlb1) (i := 0) rfl rfl)) rfl rfl rfl ?_; clear hf fa; intro fa hf
      refine sqdt hf (d_bslice (z := (.bool false)) (sz := 1) (vs := [(0, (.bool ((A).testBit (((((i : Nat) : Int) - s) % 32)).toNat)))]) (cs := #[(.bool ((A).testBit (((((i : Nat) : Int) - s) % 32)).toNat))]) rfl Try.underlying162 (by kernel_rfl) rfl (by kernel_rfl)) rfl rfl rfl ?_; clear hf fa; rintro fa _ w2 ⟨b1, rfl, hle1, hk1, he1⟩ hf
      have hBb1 : w.heap.size ≤ b1 := Nat.le_trans hb.size hle1
      replace hrw := Row.ext hrw he1
      replace hb := hb.trans (Below.mono he1 hb.size)
      have hs1 := Row.rd (by intros; rfl) (Row.of_new (k := 1) (V := vBool) (l := [((A).testBit (((((i : Nat) : Int) - s) % 32)).toNat)]) hk1 (Nat.le_refl _) rfl rfl (Nat.le_of_ble_eq_true rfl))
      refine sqdt hf (d_append (V := vBool) (k := 1) (e := 4) (bytes := 1) (z := (.bool false)) (news := [((A).testBit (((((i : Nat) : Int) - s) % 32)).toNat)]) (base := w.heap.size) (by intros; rfl) (by intro x u hu; simp only [vBool, List.mem_singleton] at hu; subst hu; rfl) rfl rfl Try.underlying162 (by kernel_rfl) rfl rfl rfl hrw hs1 rfl (fun h => by cases h) (by simp only [List.length_cons, List.length_nil, List.length_append]; omega) (by have := hb.size; omega)) rfl rfl rfl ?_; clear hf fa; rintro fa v w3 ⟨hr1, hg1⟩ hf; obtain ⟨ra1, rc1, rfl, hcrc1, hmrc1⟩ := Row.slice hr1
      replace hb := hb.trans (row_below hrw hg1 hb.size (by have := hb.size; omega))
      refine sqv hf (r_assign rfl) rfl rfl rfl ?_; clear hf fa; intro fa hf
      apply wpList_nil
      (try simp only [Exit.then, Exit.inBlock, ↓reduceIte, Nat.reduceEqDiff])
      refine hK7 _ _ ?_
      refine wp_region_lit ?_
      refine sqv hf (r_move rfl) rfl rfl rfl ?_; clear hf fa; intro fa hf
      refine sqv hf (r_add (C := (((i : Nat) : Int) + (1 : Int))) rfl rfl (by rw [IntKind.wrap_i64]; omega)) rfl rfl rfl ?_; clear hf fa; intro fa hf
      refine sqv hf (r_assign rfl) rfl rfl rfl ?_; clear hf fa; intro fa hf
      apply wpList_nil
      (try simp only [Exit.then, Exit.inBlock, ↓reduceIte, Nat.reduceEqDiff])
      refine hKL1 _ _ _ (by omega) ⟨(i + 1), ra1, rc1, rfl, hf.sub ⟨rfl, rfl, (some_int (by first | rfl | omega)), (some_sl (by simp <;> omega) rfl), trivial⟩, hb, (Row.tol hr1 (bits_snoc (hm i (by omega)).symm)), by omega⟩
    · have hqt8_1b := hqt8_1
      replace hqt8_1 := Bool.eq_false_iff.1 hqt8_1
      try simp only [ne_eq, decide_eq_true_eq, Bool.and_eq_true, Bool.or_eq_true, Bool.not_eq_true', decide_eq_false_iff_not] at hqt8_1
      refine wp_exit ?_
      (try simp only [Exit.then, Exit.inBlock, ↓reduceIte, Nat.reduceEqDiff])
      refine hK3 _ _ ?_
      refine wp_seq_k (fun K8 hK8 => ?_)
      refine wp_region_lit ?_
      refine sqv hf (r_move rfl) rfl rfl rfl ?_; clear hf fa; intro fa hf
      refine sqv hf (r_assign rfl) rfl rfl rfl ?_; clear hf fa; intro fa hf
      apply wpList_nil
      (try simp only [Exit.then, Exit.inBlock, ↓reduceIte, Nat.reduceEqDiff])
      refine hK8 _ _ ?_
      refine wp_ret ?_
      (try simp only [Exit.then, Exit.inBlock])
      refine ret1 hf rfl rfl ?_
      obtain rfl : i = 32 := by omega
      exact ⟨_, rfl, hrw, hb⟩

set_option maxHeartbeats 1000000 in
set_option maxRecDepth 100000 in
theorem rturned_any (A : Nat) (a : Option Addr) (n c : Nat) (w : World) (hA : A < 4294967296) (h : RdS 1 vBool w a (bitsK A 32)) (e : n = 32) : Calls Try.prog 100 #[(.slice a n c)] w fun e w' => ∃ v, e = .returned v ∧ Row 1 vBool 4 w.heap.size w' v (bitsK (negN A) 32) ∧ Below w.heap.size w w' := by
  refine sx_enter (L := [(0, (.slice a n c))]) Try.func100 rfl rfl rfl rfl (fun fa hf => ?_)
  have hb : Below w.heap.size w w := Below.refl _ _
  refine wp_seq_k (fun K1 hK1 => ?_)
  refine wp_region_lit ?_
  refine sqv hf (r_assign rfl) rfl rfl rfl ?_; clear hf fa; intro fa hf
  apply wpList_nil
  (try simp only [Exit.then, Exit.inBlock, ↓reduceIte, Nat.reduceEqDiff])
  refine hK1 _ _ ?_
  refine wp_seq_k (fun K2 hK2 => ?_)
  refine wp_region_unT 3 (fun wq => Below w.heap.size w wq) (fun w w' => Below w.heap.size w w')
    (fun V => [(fun x _ => x = (.slice a n c)), (fun x wq => ∃ b, (∃ c, x = .slice (some ⟨b, 0, none⟩) (((bitsK (4294967295 - A) 32)).length) c) ∧ w.heap.size ≤ b ∧ Row 1 vBool 4 w.heap.size wq x (bitsK (4294967295 - A) 32)), (fun x wq => ∃ b, x = .slice (some ⟨b, 0, none⟩) 32 32 ∧ w.heap.size ≤ b ∧ Row 1 vBool 4 w.heap.size wq x (List.replicate 32 false))])
    [1, 2]
    [[], [0], [], [], []]
    hf (by kernel_rfl) (by kernel_rfl) (by kernel_rfl) (fun _ => rfl) ((Below.refl _ _).drew) (fun a b h1 h2 => h1.trans (h2.mono h1.size)) (fun _ _ h => h.size) (fun V => ⟨kept_eq, keptX, keptR, trivial⟩) (fun _ _ _ _ _ => rfl) ?_ ?_
  · skip
    intro V
    refine ⟨fun wu0 hC hd => ?_, ?_⟩
    · clear hd
      replace hb := hb.trans (hC.mono hb.size)
      exact Runs.does (r_move rfl) ⟨Below.refl _ _, rfl, nofr rfl⟩
    refine ⟨fun wu1 hC hd => ?_, ?_⟩
    · obtain ⟨h0, _⟩ := hd
      skip
      replace h0 : V 0 = (.slice a n c) := h0
      replace hb := hb.trans (hC.mono hb.size)
      refine Does.mono (d_callX (vs := [(.slice a n c)]) (show [some (V 0)] = [some (.slice a n c)] from by rw [h0]) Try.func84 (by kernel_rfl) (by kernel_rfl) (rnot_any A _ _ _ _ (by omega) (RdS.ext h hb) (by first | rfl | assumption | simp))) ?_
      rintro _ w' ⟨hF2, hF3⟩
      obtain ⟨ra, rc, rfl, _, _⟩ := Row.slice hF2
      obtain ⟨b, rfl, hF, hF4⟩ := Row.some hF2 (by first | omega | (simp only [bitsK_length, List.length_set, List.length_take, List.length_append, List.length_replicate, List.length_cons, List.length_nil]; omega))
      exact ⟨hF3, ⟨b, ⟨rc, rfl⟩, Nat.le_trans hC.size hF, hF2.rebase hC.size⟩, isfr rfl hF (Row.lt hF2 _ rfl).2⟩
    refine ⟨fun wu2 hC hd => ?_, ?_⟩
    · clear hd
      replace hb := hb.trans (hC.mono hb.size)
      refine Does.mono (d_make (V := vBool) (bytes := 1) (z := (.bool false)) (n := 32) (zr := false) rfl rfl Try.underlying162 (by kernel_rfl) rfl (by intros; rfl) (by omega) (by unfold maxLen; omega)) ?_
      rintro _ w' ⟨b, rfl, hF, hF2, hF3⟩
      exact ⟨hF3, ⟨b, rfl, Nat.le_trans hC.size hF, hF2.rebase hC.size⟩, isfr rfl hF (Row.lt hF2 _ rfl).2⟩
    trivial
  · skip
    clear hf fa; intro V w1 fa he1 hp hnb hf
    have hv0 : V 0 = (.slice a n c) := postsHold_at hp 0 rfl
    have hv1 := postsHold_at hp 1 rfl
    obtain ⟨mb1, ⟨mc1, hv1⟩, hle1, hr1⟩ := hv1
    rw [hv1] at hr1
    replace hr1 := Row.rebase hr1 hb.size
    have hcmc1 := Row.caps hr1
    have hBmb1 : w.heap.size ≤ mb1 := Nat.le_trans hb.size hle1
    have hv2 := postsHold_at hp 2 rfl
    obtain ⟨mb2, hv2, hle2, hr2⟩ := hv2
    rw [hv2] at hr2
    replace hr2 := Row.rebase hr2 hb.size
    have hBmb2 : w.heap.size ≤ mb2 := Nat.le_trans hb.size hle2
    simp only [List.take_succ_cons, List.take_zero, insAll, ins, hv0, hv1, hv2] at hf
    have : mb1 ≠ mb2 := two_blk (i := 1) (j := 2) hnb rfl rfl rfl rfl rfl (by rw [hv1]; rfl) (by rw [hv2]; rfl)
    clear hp hnb hv0 hv1 hv2
    replace hb := hb.trans (Below.mono he1 hb.size)
    simp only [List.drop_succ_cons, List.drop_zero]
    replace hr2 := Row.to hr2 (bits_zeros (n := 0) rfl)
    refine sqdt hf (d_callX (vs := [(.slice (some ⟨mb1, 0, none⟩) (((bitsK (4294967295 - A) 32)).length) mc1), (.slice (some ⟨mb2, 0, none⟩) 32 32), (.bool true)]) rfl Try.func83 (by kernel_rfl) (by kernel_rfl) (radd_any (4294967295 - A) 0 1 true _ _ _ _ _ _ _ rfl (Row.rd (by intros; rfl) hr1) (by first | rfl | assumption | simp) (Row.rd (by intros; rfl) hr2) (by first | rfl | assumption | simp))) rfl rfl rfl ?_; clear hf fa; rintro fa v w2 ⟨hr3, he2⟩ hf; obtain ⟨ra1, rc1, rfl, hcrc1, hmrc1⟩ := Row.slice hr3
    replace hr3 := Row.rebase hr3 hb.size
    replace hr1 := Row.ext hr1 he2
    replace hr2 := Row.ext hr2 he2
    replace hb := hb.trans (Below.mono he2 hb.size)
    refine sqv hf (r_assign rfl) rfl rfl rfl ?_; clear hf fa; intro fa hf
    apply wpList_nil
    (try simp only [Exit.then, Exit.inBlock, ↓reduceIte, Nat.reduceEqDiff])
    refine hK2 _ _ ?_
    refine wp_ret ?_
    (try simp only [Exit.then, Exit.inBlock])
    refine ret1 hf rfl rfl ?_
    exact ⟨_, rfl, hr3, hb⟩
end Go.Proofs.Ytahgkfekggkjnaa
