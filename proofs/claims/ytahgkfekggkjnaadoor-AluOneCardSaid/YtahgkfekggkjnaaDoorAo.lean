/- What is proved here: operators of one number of 32 bits, the program's and the document's, walked; the law AluOne is true. -/
import Derived.Test.YtahgkfekggkjnaaDoorAoN
namespace Go.Proofs.YtahgkfekggkjnaaDoor
open Go.RowKit
set_option linter.unusedVariables false
set_option linter.unusedSimpArgs false
def bigS0 : ByteArray := ⟨(([0, 1, 2, 2, 3, 3, 3, 3, 4, 4, 4, 4, 4, 4, 4, 4, 5, 5, 5, 5, 5, 5, 5, 5, 5, 5, 5, 5, 5, 5, 5, 5, 6, 6, 6, 6, 6, 6, 6, 6, 6, 6, 6, 6, 6, 6, 6, 6, 6, 6, 6, 6, 6, 6, 6, 6, 6, 6, 6, 6, 6, 6, 6, 6].append [7, 7, 7, 7, 7, 7, 7, 7, 7, 7, 7, 7, 7, 7, 7, 7, 7, 7, 7, 7, 7, 7, 7, 7, 7, 7, 7, 7, 7, 7, 7, 7, 7, 7, 7, 7, 7, 7, 7, 7, 7, 7, 7, 7, 7, 7, 7, 7, 7, 7, 7, 7, 7, 7, 7, 7, 7, 7, 7, 7, 7, 7, 7, 7]).append ([8, 8, 8, 8, 8, 8, 8, 8, 8, 8, 8, 8, 8, 8, 8, 8, 8, 8, 8, 8, 8, 8, 8, 8, 8, 8, 8, 8, 8, 8, 8, 8, 8, 8, 8, 8, 8, 8, 8, 8, 8, 8, 8, 8, 8, 8, 8, 8, 8, 8, 8, 8, 8, 8, 8, 8, 8, 8, 8, 8, 8, 8, 8, 8].append [8, 8, 8, 8, 8, 8, 8, 8, 8, 8, 8, 8, 8, 8, 8, 8, 8, 8, 8, 8, 8, 8, 8, 8, 8, 8, 8, 8, 8, 8, 8, 8, 8, 8, 8, 8, 8, 8, 8, 8, 8, 8, 8, 8, 8, 8, 8, 8, 8, 8, 8, 8, 8, 8, 8, 8, 8, 8, 8, 8, 8, 8, 8, 8])).toArray⟩
def bigS1 : ByteArray := ⟨(([0, 1, 1, 2, 1, 2, 2, 3, 1, 2, 2, 3, 2, 3, 3, 4, 1, 2, 2, 3, 2, 3, 3, 4, 2, 3, 3, 4, 3, 4, 4, 5, 1, 2, 2, 3, 2, 3, 3, 4, 2, 3, 3, 4, 3, 4, 4, 5, 2, 3, 3, 4, 3, 4, 4, 5, 3, 4, 4, 5, 4, 5, 5, 6].append [1, 2, 2, 3, 2, 3, 3, 4, 2, 3, 3, 4, 3, 4, 4, 5, 2, 3, 3, 4, 3, 4, 4, 5, 3, 4, 4, 5, 4, 5, 5, 6, 2, 3, 3, 4, 3, 4, 4, 5, 3, 4, 4, 5, 4, 5, 5, 6, 3, 4, 4, 5, 4, 5, 5, 6, 4, 5, 5, 6, 5, 6, 6, 7]).append ([1, 2, 2, 3, 2, 3, 3, 4, 2, 3, 3, 4, 3, 4, 4, 5, 2, 3, 3, 4, 3, 4, 4, 5, 3, 4, 4, 5, 4, 5, 5, 6, 2, 3, 3, 4, 3, 4, 4, 5, 3, 4, 4, 5, 4, 5, 5, 6, 3, 4, 4, 5, 4, 5, 5, 6, 4, 5, 5, 6, 5, 6, 6, 7].append [2, 3, 3, 4, 3, 4, 4, 5, 3, 4, 4, 5, 4, 5, 5, 6, 3, 4, 4, 5, 4, 5, 5, 6, 4, 5, 5, 6, 5, 6, 6, 7, 3, 4, 4, 5, 4, 5, 5, 6, 4, 5, 5, 6, 5, 6, 6, 7, 4, 5, 5, 6, 5, 6, 6, 7, 5, 6, 6, 7, 6, 7, 7, 8])).toArray⟩
theorem bigS0_size : bigS0.size = 256 := by decide +kernel
theorem bigS1_size : bigS1.size = 256 := by decide +kernel
theorem len8_fin : ∀ j : Fin 256, lenN j.val = sbt bigS0 j.val := by decide +kernel
theorem pop8_fin : ∀ j : Fin 256, sbt bigS1 j.val = popK j.val 8 := by decide +kernel
theorem pop8 {x : Nat} (h : x < 256) : sbt bigS1 x = popK x 8 := pop8_fin ⟨x, h⟩
theorem and255 (n : Nat) : n &&& 255 = n % 256 := Nat.and_two_pow_sub_one_eq_mod n 8
set_option maxHeartbeats 1000000 in
set_option maxRecDepth 100000 in
theorem rtruth_any (b : Bool) (w : World) : Calls Tryd.prog 13 #[(.bool b)] w fun e w' => e = .returned (.int .u64 (tz b)) ∧ w = w' := by
  refine sx_enter (L := [(0, (.bool b))]) Tryd.func13 rfl rfl rfl rfl (fun fa hf => ?_)
  have hb : Below w.heap.size w w := Below.refl _ _
  refine wp_seq_k (fun K1 hK1 => ?_)
  refine wp_region_lit ?_
  refine sqv hf (r_assign rfl) rfl rfl rfl ?_; clear hf fa; intro fa hf
  apply wpList_nil
  (try simp only [Exit.then, Exit.inBlock, ↓reduceIte, Nat.reduceEqDiff])
  refine hK1 _ _ ?_
  refine wp_seq_k (fun K2 hK2 => ?_)
  refine wp_seq_k (fun K3 hK3 => ?_)
  refine wp_region_lit ?_
  refine sqv hf (r_move rfl) rfl rfl rfl ?_; clear hf fa; intro fa hf
  apply wpList_nil
  (try simp only [Exit.then, Exit.inBlock, ↓reduceIte, Nat.reduceEqDiff])
  refine hK3 _ _ ?_
  refine wp_cond_split (t := b) (hf.ev rfl) (fun hqt3_1 => ?_) (fun hqt3_1 => ?_)
  · have hqt3_1b := hqt3_1
    try simp only [decide_eq_true_eq, Bool.and_eq_true, Bool.or_eq_true, Bool.not_eq_true', decide_eq_false_iff_not, ne_eq, Bool.not_eq_true] at hqt3_1
    refine wp_seq_k (fun K4 hK4 => ?_)
    refine wp_region_lit ?_
    refine sqv hf (r_assign rfl) rfl rfl rfl ?_; clear hf fa; intro fa hf
    apply wpList_nil
    (try simp only [Exit.then, Exit.inBlock, ↓reduceIte, Nat.reduceEqDiff])
    refine hK4 _ _ ?_
    refine wp_ret ?_
    (try simp only [Exit.then, Exit.inBlock])
    refine ret1 hf rfl rfl ?_
    unfold tz; rw [if_pos hqt3_1]; exact ⟨rfl, rfl⟩
  · have hqt3_1b := hqt3_1
    replace hqt3_1 := Bool.eq_false_iff.1 hqt3_1
    try simp only [ne_eq, decide_eq_true_eq, Bool.and_eq_true, Bool.or_eq_true, Bool.not_eq_true', decide_eq_false_iff_not] at hqt3_1
    refine wp_skip ?_
    (try simp only [Exit.then, Exit.inBlock, ↓reduceIte, Nat.reduceEqDiff])
    refine hK2 _ _ ?_
    refine wp_seq_k (fun K5 hK5 => ?_)
    refine wp_region_lit ?_
    refine sqv hf (r_assign rfl) rfl rfl rfl ?_; clear hf fa; intro fa hf
    apply wpList_nil
    (try simp only [Exit.then, Exit.inBlock, ↓reduceIte, Nat.reduceEqDiff])
    refine hK5 _ _ ?_
    refine wp_ret ?_
    (try simp only [Exit.then, Exit.inBlock])
    refine ret1 hf rfl rfl ?_
    unfold tz; rw [if_neg hqt3_1]; exact ⟨rfl, rfl⟩

set_option maxHeartbeats 1000000 in
set_option maxRecDepth 100000 in
theorem bits_any (A : Nat) (w : World) (hA : A < 4294967296) : Calls Tryd.prog 12 #[(.int .u64 ((A : Nat) : Int))] w fun e w' => ∃ v, e = .returned v ∧ Row 1 vBool 4 w.heap.size w' v (bitsK A 32) ∧ Below w.heap.size w w' := by
  refine sx_enter (L := [(0, (.int .u64 ((A : Nat) : Int)))]) Tryd.func12 rfl rfl rfl rfl (fun fa hf => ?_)
  have hb : Below w.heap.size w w := Below.refl _ _
  refine wp_seq_k (fun K1 hK1 => ?_)
  refine wp_region_lit ?_
  refine sqv hf (r_assign rfl) rfl rfl rfl ?_; clear hf fa; intro fa hf
  apply wpList_nil
  (try simp only [Exit.then, Exit.inBlock, ↓reduceIte, Nat.reduceEqDiff])
  refine hK1 _ _ ?_
  refine wp_seq_k (fun K2 hK2 => ?_)
  refine wp_region_lit ?_
  refine sqv hf (r_assign rfl) rfl rfl rfl ?_; clear hf fa; intro fa hf
  apply wpList_nil
  (try simp only [Exit.then, Exit.inBlock, ↓reduceIte, Nat.reduceEqDiff])
  refine hK2 _ _ ?_
  refine wp_seq_k (fun K3 hK3 => ?_)
  refine wp_seq_k (fun K4 hK4 => ?_)
  refine wp_region_lit ?_
  refine sqv hf (r_assign rfl) rfl rfl rfl ?_; clear hf fa; intro fa hf
  apply wpList_nil
  (try simp only [Exit.then, Exit.inBlock, ↓reduceIte, Nat.reduceEqDiff])
  refine hK4 _ _ ?_
  refine wp_block ?_
  refine wp_loop_k (fun mq fa wr => ∃ (i : Nat) (v : Nat) (rwa : Option Addr) (rwc : Nat), mq = 32 - i ∧ Fr 18 fa [(0, (.int .u64 ((v : Nat) : Int))), (4, (.int .i64 ((i : Nat) : Int))), (3, (.slice rwa (((bitsK A i)).length) rwc))] ∧ Below w.heap.size w wr ∧ Row 1 vBool 4 (w.heap.size) wr (.slice rwa (((bitsK A i)).length) rwc) (bitsK A i) ∧ (i ≤ 32) ∧ (v = A / 2 ^ i) ∧ (v < 4294967296)) ?_ ?_
  · skip
    exact ⟨_, 0, A, none, 0, rfl, hf.sub ⟨rfl, (some_int (by first | rfl | omega)), (some_sl (by first | omega | (simp only [List.length_append, List.length_cons, List.length_nil]; omega) | (simp <;> omega)) rfl), trivial⟩, hb, Row.nil, by omega, by simp, by omega⟩
  · skip
    clear hf fa; intro mq1 fa w1 hI KL1 hKL1
    clear hb
    obtain ⟨i, v, rwa, rwc, hmq1, hf, hb, hrw, hi, hv, hvl⟩ := hI
    have hcrw := Row.caps hrw
    have hbl0 : (bitsK A i).length = i := bitsK_length _ _
    refine wp_seq_k (fun K5 hK5 => ?_)
    refine wp_seq_k (fun K6 hK6 => ?_)
    refine wp_region_lit ?_
    refine sqv hf (r_move rfl) rfl rfl rfl ?_; clear hf fa; intro fa hf
    refine sqv hf (r_lt rfl rfl) rfl rfl rfl ?_; clear hf fa; intro fa hf
    apply wpList_nil
    (try simp only [Exit.then, Exit.inBlock, ↓reduceIte, Nat.reduceEqDiff])
    refine hK6 _ _ ?_
    refine wp_cond_split (t := (decide (((i : Nat) : Int) < (32 : Int)))) (hf.ev rfl) (fun hqt6_1 => ?_) (fun hqt6_1 => ?_)
    · have hqt6_1b := hqt6_1
      try simp only [decide_eq_true_eq, Bool.and_eq_true, Bool.or_eq_true, Bool.not_eq_true', decide_eq_false_iff_not, ne_eq, Bool.not_eq_true] at hqt6_1
      refine wp_skip ?_
      (try simp only [Exit.then, Exit.inBlock, ↓reduceIte, Nat.reduceEqDiff])
      refine hK5 _ _ ?_
      refine wp_seq_k (fun K7 hK7 => ?_)
      refine wp_block ?_
      refine wp_seq_k (fun K8 hK8 => ?_)
      refine wp_region_lit ?_
      refine sqv hf (r_move rfl) rfl rfl rfl ?_; clear hf fa; intro fa hf
      refine sqv hf (r_move rfl) rfl rfl rfl ?_; clear hf fa; intro fa hf
      refine sqv hf (r_rem (C := (((v : Nat) : Int) % (2 : Int))) rfl rfl (by omega) (Int.tmod_eq_emod_of_nonneg (by omega))) rfl rfl rfl ?_; clear hf fa; intro fa hf
      refine sqv hf (r_eq rfl rfl) rfl rfl rfl ?_; clear hf fa; intro fa hf
      refine sqdt hf (d_bslice (z := (.bool false)) (sz := 1) (vs := [(0, (.bool (decide ((((v : Nat) : Int) % (2 : Int)) = (1 : Int)))))]) (cs := #[(.bool (decide ((((v : Nat) : Int) % (2 : Int)) = (1 : Int))))]) rfl Tryd.underlying35 (by kernel_rfl) rfl (by kernel_rfl)) rfl rfl rfl ?_; clear hf fa; rintro fa _ w2 ⟨b1, rfl, hle1, hk1, he1⟩ hf
      have hBb1 : w.heap.size ≤ b1 := Nat.le_trans hb.size hle1
      have hnr1 : (Value.slice rwa ((((bitsK A i)).length)) rwc).ownBlock ≠ some b1 := fun hq => by have := (Row.lt hrw _ hq).2; omega
      replace hrw := Row.ext hrw he1
      replace hb := hb.trans (Below.mono he1 hb.size)
      have hs1 := Row.rd (by intros; rfl) (Row.of_new (k := 1) (V := vBool) (l := [(decide ((((v : Nat) : Int) % (2 : Int)) = (1 : Int)))]) hk1 (Nat.le_refl _) rfl rfl (Nat.le_of_ble_eq_true rfl))
      refine sqdt hf (d_append (V := vBool) (k := 1) (e := 4) (bytes := 1) (z := (.bool false)) (news := [(decide ((((v : Nat) : Int) % (2 : Int)) = (1 : Int)))]) (base := w.heap.size) (by intros; rfl) (by intro x u hu; simp only [vBool, List.mem_singleton] at hu; subst hu; rfl) rfl rfl Tryd.underlying35 (by kernel_rfl) rfl rfl rfl hrw hs1 rfl (fun h => by cases h) (by first | omega | (simp only [List.length_cons, List.length_nil, List.length_append]; omega)) (by have := hb.size; omega)) rfl rfl rfl ?_; clear hf fa; rintro fa v w3 ⟨hr1, hg1⟩ hf; obtain ⟨ra1, rc1, rfl, hcrc1, hmrc1⟩ := Row.slice hr1
      replace hb := hb.trans (row_below hrw hg1 hb.size (by have := hb.size; omega))
      refine sqv hf (r_assign rfl) rfl rfl rfl ?_; clear hf fa; intro fa hf
      apply wpList_nil
      (try simp only [Exit.then, Exit.inBlock, ↓reduceIte, Nat.reduceEqDiff])
      refine hK8 _ _ ?_
      refine wp_region_lit ?_
      refine sqv hf (r_move rfl) rfl rfl rfl ?_; clear hf fa; intro fa hf
      refine sqv hf (r_quo (C := (((v : Nat) : Int) / (2 : Int))) rfl rfl (by omega) (by rw [Int.tdiv_eq_ediv_of_nonneg (by omega), IntKind.wrap_u64]; omega)) rfl rfl rfl ?_; clear hf fa; intro fa hf
      refine sqv hf (r_assign rfl) rfl rfl rfl ?_; clear hf fa; intro fa hf
      apply wpList_nil
      (try simp only [Exit.then, Exit.inBlock, ↓reduceIte, Nat.reduceEqDiff])
      refine hK7 _ _ ?_
      refine wp_region_lit ?_
      refine sqv hf (r_move rfl) rfl rfl rfl ?_; clear hf fa; intro fa hf
      refine sqv hf (r_add (C := (((i : Nat) : Int) + (1 : Int))) rfl rfl (by rw [IntKind.wrap_i64]; omega)) rfl rfl rfl ?_; clear hf fa; intro fa hf
      refine sqv hf (r_assign rfl) rfl rfl rfl ?_; clear hf fa; intro fa hf
      apply wpList_nil
      (try simp only [Exit.then, Exit.inBlock, ↓reduceIte, Nat.reduceEqDiff])
      refine hKL1 _ _ _ (by omega) ⟨(i + 1), (v / 2), ra1, rc1, rfl, hf.sub ⟨(some_int (by first | rfl | omega)), (some_int (by first | rfl | omega)), (some_sl (by first | omega | (simp only [List.length_append, List.length_cons, List.length_nil]; omega) | (simp <;> omega)) rfl), trivial⟩, hb, (Row.tol hr1 (bits_snoc (by rw [hv]; exact bit_at A i))), by omega, (by rw [hv, Nat.pow_succ, Nat.div_div_eq_div_mul]), by omega⟩
    · have hqt6_1b := hqt6_1
      replace hqt6_1 := Bool.eq_false_iff.1 hqt6_1
      try simp only [ne_eq, decide_eq_true_eq, Bool.and_eq_true, Bool.or_eq_true, Bool.not_eq_true', decide_eq_false_iff_not] at hqt6_1
      refine wp_exit ?_
      (try simp only [Exit.then, Exit.inBlock, ↓reduceIte, Nat.reduceEqDiff])
      refine hK3 _ _ ?_
      refine wp_seq_k (fun K9 hK9 => ?_)
      refine wp_region_lit ?_
      refine sqv hf (r_move rfl) rfl rfl rfl ?_; clear hf fa; intro fa hf
      refine sqv hf (r_assign rfl) rfl rfl rfl ?_; clear hf fa; intro fa hf
      apply wpList_nil
      (try simp only [Exit.then, Exit.inBlock, ↓reduceIte, Nat.reduceEqDiff])
      refine hK9 _ _ ?_
      refine wp_ret ?_
      (try simp only [Exit.then, Exit.inBlock])
      refine ret1 hf rfl rfl ?_
      obtain rfl : i = 32 := by omega
      exact ⟨_, rfl, hrw, hb⟩

set_option maxHeartbeats 1000000 in
set_option maxRecDepth 100000 in
theorem truth_any (b : Bool) (w : World) : Calls Tryd.prog 8 #[(.bool b)] w fun e w' => e = .returned (.int .u32 (tz b)) ∧ w = w' := by
  refine sx_enter (L := [(0, (.bool b))]) Tryd.func8 rfl rfl rfl rfl (fun fa hf => ?_)
  have hb : Below w.heap.size w w := Below.refl _ _
  refine wp_seq_k (fun K1 hK1 => ?_)
  refine wp_region_lit ?_
  refine sqv hf (r_assign rfl) rfl rfl rfl ?_; clear hf fa; intro fa hf
  apply wpList_nil
  (try simp only [Exit.then, Exit.inBlock, ↓reduceIte, Nat.reduceEqDiff])
  refine hK1 _ _ ?_
  refine wp_seq_k (fun K2 hK2 => ?_)
  refine wp_seq_k (fun K3 hK3 => ?_)
  refine wp_region_lit ?_
  refine sqv hf (r_move rfl) rfl rfl rfl ?_; clear hf fa; intro fa hf
  apply wpList_nil
  (try simp only [Exit.then, Exit.inBlock, ↓reduceIte, Nat.reduceEqDiff])
  refine hK3 _ _ ?_
  refine wp_cond_split (t := b) (hf.ev rfl) (fun hqt3_1 => ?_) (fun hqt3_1 => ?_)
  · have hqt3_1b := hqt3_1
    try simp only [decide_eq_true_eq, Bool.and_eq_true, Bool.or_eq_true, Bool.not_eq_true', decide_eq_false_iff_not, ne_eq, Bool.not_eq_true] at hqt3_1
    refine wp_seq_k (fun K4 hK4 => ?_)
    refine wp_region_lit ?_
    refine sqv hf (r_assign rfl) rfl rfl rfl ?_; clear hf fa; intro fa hf
    apply wpList_nil
    (try simp only [Exit.then, Exit.inBlock, ↓reduceIte, Nat.reduceEqDiff])
    refine hK4 _ _ ?_
    refine wp_ret ?_
    (try simp only [Exit.then, Exit.inBlock])
    refine ret1 hf rfl rfl ?_
    unfold tz; rw [if_pos hqt3_1]; exact ⟨rfl, rfl⟩
  · have hqt3_1b := hqt3_1
    replace hqt3_1 := Bool.eq_false_iff.1 hqt3_1
    try simp only [ne_eq, decide_eq_true_eq, Bool.and_eq_true, Bool.or_eq_true, Bool.not_eq_true', decide_eq_false_iff_not] at hqt3_1
    refine wp_skip ?_
    (try simp only [Exit.then, Exit.inBlock, ↓reduceIte, Nat.reduceEqDiff])
    refine hK2 _ _ ?_
    refine wp_seq_k (fun K5 hK5 => ?_)
    refine wp_region_lit ?_
    refine sqv hf (r_assign rfl) rfl rfl rfl ?_; clear hf fa; intro fa hf
    apply wpList_nil
    (try simp only [Exit.then, Exit.inBlock, ↓reduceIte, Nat.reduceEqDiff])
    refine hK5 _ _ ?_
    refine wp_ret ?_
    (try simp only [Exit.then, Exit.inBlock])
    refine ret1 hf rfl rfl ?_
    unfold tz; rw [if_neg hqt3_1]; exact ⟨rfl, rfl⟩

set_option maxHeartbeats 1000000 in
set_option maxRecDepth 100000 in
theorem len_any (v : Nat) (w : World) (hv : v < 4294967296) : Calls Tryd.prog 17 #[.int .u32 ((v : Nat) : Int)] w fun e w' => e = .returned (.int .i64 ((lenN v : Nat) : Int)) ∧ w = w' := by
  have hsb := fun j => sbt_lt bigS0 j
  refine sx_enter (L := [(0, (.int .u32 ((v : Nat) : Int)))]) Tryd.func17 rfl rfl rfl rfl (fun fa hf => ?_)
  have hb : Below w.heap.size w w := Below.refl _ _
  refine wp_seq_k (fun K1 hK1 => ?_)
  refine wp_region_lit ?_
  refine sqv hf (r_assign rfl) rfl rfl rfl ?_; clear hf fa; intro fa hf
  apply wpList_nil
  (try simp only [Exit.then, Exit.inBlock, ↓reduceIte, Nat.reduceEqDiff])
  refine hK1 _ _ ?_
  refine wp_seq_k (fun K2 hK2 => ?_)
  refine wp_seq_k (fun K3 hK3 => ?_)
  refine wp_region_lit ?_
  refine sqv hf (r_move rfl) rfl rfl rfl ?_; clear hf fa; intro fa hf
  refine sqv hf (r_ge rfl rfl) rfl rfl rfl ?_; clear hf fa; intro fa hf
  apply wpList_nil
  (try simp only [Exit.then, Exit.inBlock, ↓reduceIte, Nat.reduceEqDiff])
  refine hK3 _ _ ?_
  refine wp_cond_split (t := (decide ((65536 : Int) ≤ ((v : Nat) : Int)))) (hf.ev rfl) (fun hqt4_1 => ?_) (fun hqt4_1 => ?_)
  · have hqt4_1b := hqt4_1
    try simp only [decide_eq_true_eq, Bool.and_eq_true, Bool.or_eq_true, Bool.not_eq_true', decide_eq_false_iff_not, ne_eq, Bool.not_eq_true] at hqt4_1
    refine wp_seq_k (fun K4 hK4 => ?_)
    refine wp_region_lit ?_
    refine sqv hf (r_move rfl) rfl rfl rfl ?_; clear hf fa; intro fa hf
    refine sqv hf (r_shr (n := 16) (C := (((v / 65536) : Nat) : Int)) rfl rfl rfl (shr_n v 16 65536 rfl (by decide))) rfl rfl rfl ?_; clear hf fa; intro fa hf
    refine sqv hf (r_assign rfl) rfl rfl rfl ?_; clear hf fa; intro fa hf
    apply wpList_nil
    (try simp only [Exit.then, Exit.inBlock, ↓reduceIte, Nat.reduceEqDiff])
    refine hK4 _ _ ?_
    refine wp_region_lit ?_
    refine sqv hf (r_assign rfl) rfl rfl rfl ?_; clear hf fa; intro fa hf
    apply wpList_nil
    (try simp only [Exit.then, Exit.inBlock, ↓reduceIte, Nat.reduceEqDiff])
    refine hK2 _ _ ?_
    refine wp_seq_k (fun K5 hK5 => ?_)
    refine wp_seq_k (fun K6 hK6 => ?_)
    refine wp_region_lit ?_
    refine sqv hf (r_move rfl) rfl rfl rfl ?_; clear hf fa; intro fa hf
    refine sqv hf (r_ge rfl rfl) rfl rfl rfl ?_; clear hf fa; intro fa hf
    apply wpList_nil
    (try simp only [Exit.then, Exit.inBlock, ↓reduceIte, Nat.reduceEqDiff])
    refine hK6 _ _ ?_
    refine wp_cond_split (t := (decide ((256 : Int) ≤ (((v / 65536) : Nat) : Int)))) (hf.ev rfl) (fun hqt8_1 => ?_) (fun hqt8_1 => ?_)
    · have hqt8_1b := hqt8_1
      try simp only [decide_eq_true_eq, Bool.and_eq_true, Bool.or_eq_true, Bool.not_eq_true', decide_eq_false_iff_not, ne_eq, Bool.not_eq_true] at hqt8_1
      refine wp_seq_k (fun K7 hK7 => ?_)
      refine wp_region_lit ?_
      refine sqv hf (r_move rfl) rfl rfl rfl ?_; clear hf fa; intro fa hf
      refine sqv hf (r_shr (n := 8) (C := (((((v / 65536)) / 256) : Nat) : Int)) rfl rfl rfl (shr_n ((v / 65536)) 8 256 rfl (by decide))) rfl rfl rfl ?_; clear hf fa; intro fa hf
      refine sqv hf (r_assign rfl) rfl rfl rfl ?_; clear hf fa; intro fa hf
      apply wpList_nil
      (try simp only [Exit.then, Exit.inBlock, ↓reduceIte, Nat.reduceEqDiff])
      refine hK7 _ _ ?_
      refine wp_region_lit ?_
      refine sqv hf (r_move rfl) rfl rfl rfl ?_; clear hf fa; intro fa hf
      refine sqv hf (r_add (C := (24 : Int)) rfl rfl (by rw [IntKind.wrap_i64]; omega)) rfl rfl rfl ?_; clear hf fa; intro fa hf
      refine sqv hf (r_assign rfl) rfl rfl rfl ?_; clear hf fa; intro fa hf
      apply wpList_nil
      (try simp only [Exit.then, Exit.inBlock, ↓reduceIte, Nat.reduceEqDiff])
      refine hK5 _ _ ?_
      refine wp_seq_k (fun K8 hK8 => ?_)
      have hsb1 := sbt_lt bigS0 (((((v / 65536)) / 256)) % 256); have hx1 := Nat.mod_lt (((((v / 65536)) / 256))) (show 0 < 256 by decide)
      refine wp_region_lit ?_
      refine sqv hf (r_move rfl) rfl rfl rfl ?_; clear hf fa; intro fa hf
      refine sqv hf (r_move rfl) rfl rfl rfl ?_; clear hf fa; intro fa hf
      refine sqv hf (r_conv (C := (((((((v / 65536)) / 256)) % 256) : Nat) : Int)) rfl Tryd.underlying22 Tryd.underlying5 (by rw [IntKind.wrap_u8]; omega)) rfl rfl rfl ?_; clear hf fa; intro fa hf
      refine sqv hf (r_sindexD (s := bigS0) (j := ((((((v / 65536)) / 256)) % 256))) rfl rfl Tryd.underlying9 rfl (by have := bigS0_size; omega)) rfl rfl rfl ?_; clear hf fa; intro fa hf
      refine sqv hf (r_conv (C := ((sbt bigS0 ((((((v / 65536)) / 256)) % 256)) : Nat) : Int)) rfl Tryd.underlying5 Tryd.underlying3 (by rw [IntKind.wrap_i64]; omega)) rfl rfl rfl ?_; clear hf fa; intro fa hf
      refine sqv hf (r_add (C := ((24 : Int) + ((sbt bigS0 ((((((v / 65536)) / 256)) % 256)) : Nat) : Int))) rfl rfl (by rw [IntKind.wrap_i64]; omega)) rfl rfl rfl ?_; clear hf fa; intro fa hf
      refine sqv hf (r_assign rfl) rfl rfl rfl ?_; clear hf fa; intro fa hf
      apply wpList_nil
      (try simp only [Exit.then, Exit.inBlock, ↓reduceIte, Nat.reduceEqDiff])
      refine hK8 _ _ ?_
      refine wp_ret ?_
      (try simp only [Exit.then, Exit.inBlock])
      refine ret1 hf rfl rfl ?_
      have hx0 : ((((v / 65536)) / 256)) < 256 := (by have h1 := hqt4_1; have h2 := hqt8_1; omega)
      have hl : sbt bigS0 (((((v / 65536)) / 256)) % 256) = lenN ((((v / 65536)) / 256)) := by rw [Nat.mod_eq_of_lt hx0]; exact (len8_fin ⟨((((v / 65536)) / 256)), hx0⟩).symm
      have hs := lenN_shift (v := v) (s := 24) (x := ((((v / 65536)) / 256))) (by first | (rw [show 2 ^ 24 = 16777216 from rfl]; done) | (rw [show 2 ^ 24 = 16777216 from rfl]; omega)) (by have h1 := hqt4_1; have h2 := hqt8_1; omega)
      refine ⟨congrArg (fun n => Ending.returned (.int .i64 n)) ?_, rfl⟩
      rw [hl]; omega
    · have hqt8_1b := hqt8_1
      replace hqt8_1 := Bool.eq_false_iff.1 hqt8_1
      try simp only [ne_eq, decide_eq_true_eq, Bool.and_eq_true, Bool.or_eq_true, Bool.not_eq_true', decide_eq_false_iff_not] at hqt8_1
      refine wp_skip ?_
      (try simp only [Exit.then, Exit.inBlock, ↓reduceIte, Nat.reduceEqDiff])
      refine hK5 _ _ ?_
      refine wp_seq_k (fun K9 hK9 => ?_)
      have hsb1 := sbt_lt bigS0 (((v / 65536)) % 256); have hx1 := Nat.mod_lt (((v / 65536))) (show 0 < 256 by decide)
      refine wp_region_lit ?_
      refine sqv hf (r_move rfl) rfl rfl rfl ?_; clear hf fa; intro fa hf
      refine sqv hf (r_move rfl) rfl rfl rfl ?_; clear hf fa; intro fa hf
      refine sqv hf (r_conv (C := (((((v / 65536)) % 256) : Nat) : Int)) rfl Tryd.underlying22 Tryd.underlying5 (by rw [IntKind.wrap_u8]; omega)) rfl rfl rfl ?_; clear hf fa; intro fa hf
      refine sqv hf (r_sindexD (s := bigS0) (j := ((((v / 65536)) % 256))) rfl rfl Tryd.underlying9 rfl (by have := bigS0_size; omega)) rfl rfl rfl ?_; clear hf fa; intro fa hf
      refine sqv hf (r_conv (C := ((sbt bigS0 ((((v / 65536)) % 256)) : Nat) : Int)) rfl Tryd.underlying5 Tryd.underlying3 (by rw [IntKind.wrap_i64]; omega)) rfl rfl rfl ?_; clear hf fa; intro fa hf
      refine sqv hf (r_add (C := ((16 : Int) + ((sbt bigS0 ((((v / 65536)) % 256)) : Nat) : Int))) rfl rfl (by rw [IntKind.wrap_i64]; omega)) rfl rfl rfl ?_; clear hf fa; intro fa hf
      refine sqv hf (r_assign rfl) rfl rfl rfl ?_; clear hf fa; intro fa hf
      apply wpList_nil
      (try simp only [Exit.then, Exit.inBlock, ↓reduceIte, Nat.reduceEqDiff])
      refine hK9 _ _ ?_
      refine wp_ret ?_
      (try simp only [Exit.then, Exit.inBlock])
      refine ret1 hf rfl rfl ?_
      have hx0 : ((v / 65536)) < 256 := (by have h1 := hqt4_1; have h2 := hqt8_1; omega)
      have hl : sbt bigS0 (((v / 65536)) % 256) = lenN ((v / 65536)) := by rw [Nat.mod_eq_of_lt hx0]; exact (len8_fin ⟨((v / 65536)), hx0⟩).symm
      have hs := lenN_shift (v := v) (s := 16) (x := ((v / 65536))) (by first | (rw [show 2 ^ 16 = 65536 from rfl]; done) | (rw [show 2 ^ 16 = 65536 from rfl]; omega)) (by have h1 := hqt4_1; have h2 := hqt8_1; omega)
      refine ⟨congrArg (fun n => Ending.returned (.int .i64 n)) ?_, rfl⟩
      rw [hl]; omega
  · have hqt4_1b := hqt4_1
    replace hqt4_1 := Bool.eq_false_iff.1 hqt4_1
    try simp only [ne_eq, decide_eq_true_eq, Bool.and_eq_true, Bool.or_eq_true, Bool.not_eq_true', decide_eq_false_iff_not] at hqt4_1
    refine wp_skip ?_
    (try simp only [Exit.then, Exit.inBlock, ↓reduceIte, Nat.reduceEqDiff])
    refine hK2 _ _ ?_
    refine wp_seq_k (fun K10 hK10 => ?_)
    refine wp_seq_k (fun K11 hK11 => ?_)
    refine wp_region_lit ?_
    refine sqv hf (r_move rfl) rfl rfl rfl ?_; clear hf fa; intro fa hf
    refine sqv hf (r_ge rfl rfl) rfl rfl rfl ?_; clear hf fa; intro fa hf
    apply wpList_nil
    (try simp only [Exit.then, Exit.inBlock, ↓reduceIte, Nat.reduceEqDiff])
    refine hK11 _ _ ?_
    refine wp_cond_split (t := (decide ((256 : Int) ≤ ((v : Nat) : Int)))) (hf.ev rfl) (fun hqt8_2 => ?_) (fun hqt8_2 => ?_)
    · have hqt8_2b := hqt8_2
      try simp only [decide_eq_true_eq, Bool.and_eq_true, Bool.or_eq_true, Bool.not_eq_true', decide_eq_false_iff_not, ne_eq, Bool.not_eq_true] at hqt8_2
      refine wp_seq_k (fun K12 hK12 => ?_)
      refine wp_region_lit ?_
      refine sqv hf (r_move rfl) rfl rfl rfl ?_; clear hf fa; intro fa hf
      refine sqv hf (r_shr (n := 8) (C := (((v / 256) : Nat) : Int)) rfl rfl rfl (shr_n v 8 256 rfl (by decide))) rfl rfl rfl ?_; clear hf fa; intro fa hf
      refine sqv hf (r_assign rfl) rfl rfl rfl ?_; clear hf fa; intro fa hf
      apply wpList_nil
      (try simp only [Exit.then, Exit.inBlock, ↓reduceIte, Nat.reduceEqDiff])
      refine hK12 _ _ ?_
      refine wp_region_lit ?_
      refine sqv hf (r_move rfl) rfl rfl rfl ?_; clear hf fa; intro fa hf
      refine sqv hf (r_add (C := (8 : Int)) rfl rfl (by rw [IntKind.wrap_i64]; omega)) rfl rfl rfl ?_; clear hf fa; intro fa hf
      refine sqv hf (r_assign rfl) rfl rfl rfl ?_; clear hf fa; intro fa hf
      apply wpList_nil
      (try simp only [Exit.then, Exit.inBlock, ↓reduceIte, Nat.reduceEqDiff])
      refine hK10 _ _ ?_
      refine wp_seq_k (fun K13 hK13 => ?_)
      have hsb1 := sbt_lt bigS0 (((v / 256)) % 256); have hx1 := Nat.mod_lt (((v / 256))) (show 0 < 256 by decide)
      refine wp_region_lit ?_
      refine sqv hf (r_move rfl) rfl rfl rfl ?_; clear hf fa; intro fa hf
      refine sqv hf (r_move rfl) rfl rfl rfl ?_; clear hf fa; intro fa hf
      refine sqv hf (r_conv (C := (((((v / 256)) % 256) : Nat) : Int)) rfl Tryd.underlying22 Tryd.underlying5 (by rw [IntKind.wrap_u8]; omega)) rfl rfl rfl ?_; clear hf fa; intro fa hf
      refine sqv hf (r_sindexD (s := bigS0) (j := ((((v / 256)) % 256))) rfl rfl Tryd.underlying9 rfl (by have := bigS0_size; omega)) rfl rfl rfl ?_; clear hf fa; intro fa hf
      refine sqv hf (r_conv (C := ((sbt bigS0 ((((v / 256)) % 256)) : Nat) : Int)) rfl Tryd.underlying5 Tryd.underlying3 (by rw [IntKind.wrap_i64]; omega)) rfl rfl rfl ?_; clear hf fa; intro fa hf
      refine sqv hf (r_add (C := ((8 : Int) + ((sbt bigS0 ((((v / 256)) % 256)) : Nat) : Int))) rfl rfl (by rw [IntKind.wrap_i64]; omega)) rfl rfl rfl ?_; clear hf fa; intro fa hf
      refine sqv hf (r_assign rfl) rfl rfl rfl ?_; clear hf fa; intro fa hf
      apply wpList_nil
      (try simp only [Exit.then, Exit.inBlock, ↓reduceIte, Nat.reduceEqDiff])
      refine hK13 _ _ ?_
      refine wp_ret ?_
      (try simp only [Exit.then, Exit.inBlock])
      refine ret1 hf rfl rfl ?_
      have hx0 : ((v / 256)) < 256 := (by have h1 := hqt4_1; have h2 := hqt8_2; omega)
      have hl : sbt bigS0 (((v / 256)) % 256) = lenN ((v / 256)) := by rw [Nat.mod_eq_of_lt hx0]; exact (len8_fin ⟨((v / 256)), hx0⟩).symm
      have hs := lenN_shift (v := v) (s := 8) (x := ((v / 256))) (by first | (rw [show 2 ^ 8 = 256 from rfl]; done) | (rw [show 2 ^ 8 = 256 from rfl]; omega)) (by have h1 := hqt4_1; have h2 := hqt8_2; omega)
      refine ⟨congrArg (fun n => Ending.returned (.int .i64 n)) ?_, rfl⟩
      rw [hl]; omega
    · have hqt8_2b := hqt8_2
      replace hqt8_2 := Bool.eq_false_iff.1 hqt8_2
      try simp only [ne_eq, decide_eq_true_eq, Bool.and_eq_true, Bool.or_eq_true, Bool.not_eq_true', decide_eq_false_iff_not] at hqt8_2
      refine wp_skip ?_
      (try simp only [Exit.then, Exit.inBlock, ↓reduceIte, Nat.reduceEqDiff])
      refine hK10 _ _ ?_
      refine wp_seq_k (fun K14 hK14 => ?_)
      have hsb1 := sbt_lt bigS0 (v % 256); have hx1 := Nat.mod_lt (v) (show 0 < 256 by decide)
      refine wp_region_lit ?_
      refine sqv hf (r_move rfl) rfl rfl rfl ?_; clear hf fa; intro fa hf
      refine sqv hf (r_move rfl) rfl rfl rfl ?_; clear hf fa; intro fa hf
      refine sqv hf (r_conv (C := (((v % 256) : Nat) : Int)) rfl Tryd.underlying22 Tryd.underlying5 (by rw [IntKind.wrap_u8]; omega)) rfl rfl rfl ?_; clear hf fa; intro fa hf
      refine sqv hf (r_sindexD (s := bigS0) (j := ((v % 256))) rfl rfl Tryd.underlying9 rfl (by have := bigS0_size; omega)) rfl rfl rfl ?_; clear hf fa; intro fa hf
      refine sqv hf (r_conv (C := ((sbt bigS0 ((v % 256)) : Nat) : Int)) rfl Tryd.underlying5 Tryd.underlying3 (by rw [IntKind.wrap_i64]; omega)) rfl rfl rfl ?_; clear hf fa; intro fa hf
      refine sqv hf (r_add (C := ((0 : Int) + ((sbt bigS0 ((v % 256)) : Nat) : Int))) rfl rfl (by rw [IntKind.wrap_i64]; omega)) rfl rfl rfl ?_; clear hf fa; intro fa hf
      refine sqv hf (r_assign rfl) rfl rfl rfl ?_; clear hf fa; intro fa hf
      apply wpList_nil
      (try simp only [Exit.then, Exit.inBlock, ↓reduceIte, Nat.reduceEqDiff])
      refine hK14 _ _ ?_
      refine wp_ret ?_
      (try simp only [Exit.then, Exit.inBlock])
      refine ret1 hf rfl rfl ?_
      have hx0 : v < 256 := (by have h1 := hqt4_1; have h2 := hqt8_2; omega)
      have hl : sbt bigS0 (v % 256) = lenN v := by rw [Nat.mod_eq_of_lt hx0]; exact (len8_fin ⟨v, hx0⟩).symm
      have hs := lenN_shift (v := v) (s := 0) (x := v) (by first | (rw [show 2 ^ 0 = 1 from rfl]; done) | (rw [show 2 ^ 0 = 1 from rfl]; omega)) (by have h1 := hqt4_1; have h2 := hqt8_2; omega)
      refine ⟨congrArg (fun n => Ending.returned (.int .i64 n)) ?_, rfl⟩
      rw [hl]; omega

set_option maxHeartbeats 1000000 in
set_option maxRecDepth 100000 in
theorem clz_any (v : Nat) (w : World) (hv : v < 4294967296) : Calls Tryd.prog 9 #[(.int .u32 ((v : Nat) : Int))] w fun e w' => e = .returned (.int .i64 (32 - ((lenN v : Nat) : Int))) ∧ w = w' := by
  have hll := lenN_le hv
  refine sx_enter (L := [(0, (.int .u32 ((v : Nat) : Int)))]) Tryd.func9 rfl rfl rfl rfl (fun fa hf => ?_)
  have hb : Below w.heap.size w w := Below.refl _ _
  refine wp_seq_k (fun K1 hK1 => ?_)
  refine wp_region_lit ?_
  refine sqv hf (r_assign rfl) rfl rfl rfl ?_; clear hf fa; intro fa hf
  apply wpList_nil
  (try simp only [Exit.then, Exit.inBlock, ↓reduceIte, Nat.reduceEqDiff])
  refine hK1 _ _ ?_
  refine wp_seq_k (fun K2 hK2 => ?_)
  refine wp_region_lit ?_
  refine sqv hf (r_move rfl) rfl rfl rfl ?_; clear hf fa; intro fa hf
  refine sqdt hf (d_callS (vs := [(.int .u32 ((v : Nat) : Int))]) rfl Tryd.func17 (by kernel_rfl) (by kernel_rfl) (len_any v _ hv)) rfl rfl rfl ?_; clear hf fa; rintro fa _ _ ⟨rfl, rfl⟩ hf
  refine sqv hf (r_sub (C := ((32 : Int) - ((lenN v : Nat) : Int))) rfl rfl (by rw [IntKind.wrap_i64]; omega)) rfl rfl rfl ?_; clear hf fa; intro fa hf
  refine sqv hf (r_assign rfl) rfl rfl rfl ?_; clear hf fa; intro fa hf
  apply wpList_nil
  (try simp only [Exit.then, Exit.inBlock, ↓reduceIte, Nat.reduceEqDiff])
  refine hK2 _ _ ?_
  refine wp_ret ?_
  (try simp only [Exit.then, Exit.inBlock])
  refine ret1 hf rfl rfl ?_
  exact ⟨rfl, rfl⟩

set_option maxHeartbeats 1000000 in
set_option maxRecDepth 100000 in
theorem ctz_any (v : Nat) (w : World) (hv : v < 4294967296) (hT : RdS 1 (vInt .u8) w (some ⟨0, 0, none⟩) tab32) : Calls Tryd.prog 10 #[(.int .u32 ((v : Nat) : Int))] w fun e w' => e = .returned (.int .i64 ((ctzN v : Nat) : Int)) ∧ w = w' := by
  refine sx_enter (L := [(0, (.int .u32 ((v : Nat) : Int)))]) Tryd.func10 rfl rfl rfl rfl (fun fa hf => ?_)
  have hb : Below w.heap.size w w := Below.refl _ _
  refine wp_seq_k (fun K1 hK1 => ?_)
  refine wp_region_lit ?_
  refine sqv hf (r_assign rfl) rfl rfl rfl ?_; clear hf fa; intro fa hf
  apply wpList_nil
  (try simp only [Exit.then, Exit.inBlock, ↓reduceIte, Nat.reduceEqDiff])
  refine hK1 _ _ ?_
  refine wp_seq_k (fun K2 hK2 => ?_)
  refine wp_seq_k (fun K3 hK3 => ?_)
  refine wp_region_lit ?_
  refine sqv hf (r_move rfl) rfl rfl rfl ?_; clear hf fa; intro fa hf
  refine sqv hf (r_eq rfl rfl) rfl rfl rfl ?_; clear hf fa; intro fa hf
  apply wpList_nil
  (try simp only [Exit.then, Exit.inBlock, ↓reduceIte, Nat.reduceEqDiff])
  refine hK3 _ _ ?_
  refine wp_cond_split (t := (decide (((v : Nat) : Int) = (0 : Int)))) (hf.ev rfl) (fun hqt4_1 => ?_) (fun hqt4_1 => ?_)
  · have hqt4_1b := hqt4_1
    try simp only [decide_eq_true_eq, Bool.and_eq_true, Bool.or_eq_true, Bool.not_eq_true', decide_eq_false_iff_not, ne_eq, Bool.not_eq_true] at hqt4_1
    refine wp_seq_k (fun K4 hK4 => ?_)
    refine wp_region_lit ?_
    refine sqv hf (r_assign rfl) rfl rfl rfl ?_; clear hf fa; intro fa hf
    apply wpList_nil
    (try simp only [Exit.then, Exit.inBlock, ↓reduceIte, Nat.reduceEqDiff])
    refine hK4 _ _ ?_
    refine wp_ret ?_
    (try simp only [Exit.then, Exit.inBlock])
    refine ret1 hf rfl rfl ?_
    have h := hqt4_1
    obtain rfl : v = 0 := by omega
    exact ⟨by rw [ctz_zero]; rfl, rfl⟩
  · have hqt4_1b := hqt4_1
    replace hqt4_1 := Bool.eq_false_iff.1 hqt4_1
    try simp only [ne_eq, decide_eq_true_eq, Bool.and_eq_true, Bool.or_eq_true, Bool.not_eq_true', decide_eq_false_iff_not] at hqt4_1
    refine wp_skip ?_
    (try simp only [Exit.then, Exit.inBlock, ↓reduceIte, Nat.reduceEqDiff])
    refine hK2 _ _ ?_
    refine wp_seq_k (fun K5 hK5 => ?_)
    have hv0 : v ≠ 0 := by have h := hqt4_1; omega
    have hal := and_low hv hv0
    have hcl := ctz_low hv hv0
    have hyt := tab_at hcl
    obtain ⟨z, hz⟩ : ∃ z, ctzN v = z := ⟨_, rfl⟩
    rw [hz] at hal hcl hyt
    obtain ⟨pw, hpw⟩ : ∃ pw, 2 ^ z = pw := ⟨_, rfl⟩
    rw [hpw] at hal hyt
    obtain ⟨mu, hmu⟩ : ∃ mu, pw * 125613361 % 4294967296 = mu := ⟨_, rfl⟩
    rw [hmu] at hyt
    obtain ⟨ix, hix⟩ : ∃ ix, mu / 134217728 = ix := ⟨_, rfl⟩
    rw [hix] at hyt
    have hmm : mu < 4294967296 := by rw [← hmu]; exact Nat.mod_lt _ (by decide)
    have hcx : ix < 32 := by omega
    refine wp_region_lit ?_
    refine sqv hf (r_move rfl) rfl rfl rfl ?_; clear hf fa; intro fa hf
    refine sqv hf (r_move rfl) rfl rfl rfl ?_; clear hf fa; intro fa hf
    refine sqv hf (r_neg (C := (((4294967296 - v) : Nat) : Int)) rfl (by rw [wrap_u32_def]; omega)) rfl rfl rfl ?_; clear hf fa; intro fa hf
    refine sqv hf (r_and (C := ((pw : Nat) : Int)) rfl rfl (by rw [bits_and32 _ _ (by omega) (by omega), hal])) rfl rfl rfl ?_; clear hf fa; intro fa hf
    refine sqv hf (r_mul (C := ((mu : Nat) : Int)) rfl rfl (by rw [← hmu]; exact mul_w _ _)) rfl rfl rfl ?_; clear hf fa; intro fa hf
    refine sqv hf (r_shr (n := 27) (C := ((ix : Nat) : Int)) rfl rfl rfl (by rw [← hix]; exact shr_n _ 27 134217728 rfl (by decide))) rfl rfl rfl ?_; clear hf fa; intro fa hf
    have hy1 : (tab32)[ix]? = some ((z : Nat) : Int) := hyt
    obtain ⟨_, _, hab, hlb1, hel1⟩ := RdS.at hT hy1
    cases hab
    refine sqv hf (r_ixp (sz := 1) (j := ix) (nn := 32) rfl rfl Tryd.underlying40 (by kernel_rfl) rfl (by omega) rfl) rfl rfl rfl ?_; clear hf fa; intro fa hf
    refine sqv hf (r_load (v := (.int .u8 (((z : Nat) : Int)))) rfl Tryd.underlying5 rfl (cellsAt_cell (cellsAt_below hel1 hb hlb1) (i := 0) rfl rfl)) rfl rfl rfl ?_; clear hf fa; intro fa hf
    refine sqv hf (r_conv (C := ((z : Nat) : Int)) rfl Tryd.underlying5 Tryd.underlying3 (by rw [IntKind.wrap_i64]; omega)) rfl rfl rfl ?_; clear hf fa; intro fa hf
    refine sqv hf (r_assign rfl) rfl rfl rfl ?_; clear hf fa; intro fa hf
    apply wpList_nil
    (try simp only [Exit.then, Exit.inBlock, ↓reduceIte, Nat.reduceEqDiff])
    refine hK5 _ _ ?_
    refine wp_ret ?_
    (try simp only [Exit.then, Exit.inBlock])
    refine ret1 hf rfl rfl ?_
    exact ⟨by rw [hz], rfl⟩

set_option maxHeartbeats 1000000 in
set_option maxRecDepth 100000 in
theorem pop_any (v : Nat) (w : World) (hv : v < 4294967296) : Calls Tryd.prog 11 #[(.int .u32 ((v : Nat) : Int))] w fun e w' => e = .returned (.int .i64 ((popK v 32 : Nat) : Int)) ∧ Below w.heap.size w w' := by
  have hp := popK_bytes v hv
  have hp0 := popK_le (v / 16777216) 8; have hp1 := popK_le (v / 65536 % 256) 8; have hp2 := popK_le (v / 256 % 256) 8; have hp3 := popK_le (v % 256) 8
  refine sx_enter (L := [(0, (.int .u32 ((v : Nat) : Int)))]) Tryd.func11 rfl rfl rfl rfl (fun fa hf => ?_)
  have hb : Below w.heap.size w w := Below.refl _ _
  refine wp_seq_k (fun K1 hK1 => ?_)
  refine wp_region_lit ?_
  refine sqv hf (r_assign rfl) rfl rfl rfl ?_; clear hf fa; intro fa hf
  apply wpList_nil
  (try simp only [Exit.then, Exit.inBlock, ↓reduceIte, Nat.reduceEqDiff])
  refine hK1 _ _ ?_
  refine wp_seq_k (fun K2 hK2 => ?_)
  refine wp_region_un (fun wq => Below w.heap.size w wq) (fun w w' => Below w.heap.size w w')
    (fun V => [(fun x _ => x = (.int .u32 ((v : Nat) : Int))), (fun x _ => x = (.int .u32 (((v / 16777216) : Nat) : Int))), (fun x _ => x = (.int .u8 ((popK (v / 16777216) 8 : Nat) : Int))), (fun x _ => x = (.int .u32 ((v : Nat) : Int))), (fun x _ => x = (.int .u32 (((v / 65536) : Nat) : Int))), (fun x _ => x = (.int .u32 (((v / 65536 % 256) : Nat) : Int))), (fun x _ => x = (.int .u8 ((popK (v / 65536 % 256) 8 : Nat) : Int))), (fun x _ => x = (.int .u8 (((popK (v / 16777216) 8 + popK (v / 65536 % 256) 8) : Nat) : Int))), (fun x _ => x = (.int .u32 ((v : Nat) : Int))), (fun x _ => x = (.int .u32 (((v / 256) : Nat) : Int))), (fun x _ => x = (.int .u32 (((v / 256 % 256) : Nat) : Int))), (fun x _ => x = (.int .u8 ((popK (v / 256 % 256) 8 : Nat) : Int))), (fun x _ => x = (.int .u8 (((popK (v / 16777216) 8 + popK (v / 65536 % 256) 8 + popK (v / 256 % 256) 8) : Nat) : Int))), (fun x _ => x = (.int .u32 ((v : Nat) : Int))), (fun x _ => x = (.int .u32 (((v % 256) : Nat) : Int))), (fun x _ => x = (.int .u8 ((popK (v % 256) 8 : Nat) : Int))), (fun x _ => x = (.int .u8 ((popK v 32 : Nat) : Int))), (fun x _ => x = (.int .i64 ((popK v 32 : Nat) : Int))), (fun x _ => x = (.int .i64 ((popK v 32 : Nat) : Int)))])
    []
    [[], [0], [1], [], [3], [4], [5], [2, 6], [], [8], [9], [10], [7, 11], [], [13], [14], [12, 15], [16], [0, 1, 2, 3, 4, 5, 6, 7, 8, 9, 10, 11, 12, 13, 14, 15, 16, 17]]
    hf (by kernel_rfl) (by kernel_rfl) (fun _ => rfl) ((Below.refl _ _).drew) (fun a b h1 h2 => h1.trans (h2.mono h1.size)) (fun _ _ h => h.size) (fun V => ⟨kept_eq, kept_eq, kept_eq, kept_eq, kept_eq, kept_eq, kept_eq, kept_eq, kept_eq, kept_eq, kept_eq, kept_eq, kept_eq, kept_eq, kept_eq, kept_eq, kept_eq, kept_eq, kept_eq, trivial⟩) (fun _ _ _ _ _ => rfl) ?_ ?_
  · skip
    intro V
    refine ⟨fun wu0 hC hd => ?_, ?_⟩
    · clear hd
      replace hb := hb.trans (hC.mono hb.size)
      exact Runs.does (r_move rfl) ⟨Below.refl _ _, rfl, nofr rfl⟩
    refine ⟨fun wu1 hC hd => ?_, ?_⟩
    · obtain ⟨h0, _⟩ := hd
      skip
      replace h0 : V 0 = (.int .u32 ((v : Nat) : Int)) := h0
      replace hb := hb.trans (hC.mono hb.size)
      exact Runs.does (r_shr (n := 24) (C := (((v / 16777216) : Nat) : Int)) (congrArg some h0) rfl rfl (shr_n v 24 16777216 rfl (by decide))) ⟨Below.refl _ _, rfl, nofr rfl⟩
    refine ⟨fun wu2 hC hd => ?_, ?_⟩
    · obtain ⟨h1, _⟩ := hd
      skip
      replace h1 : V 1 = (.int .u32 (((v / 16777216) : Nat) : Int)) := h1
      replace hb := hb.trans (hC.mono hb.size)
      exact Runs.does (Runs.veq (v' := (.int .u8 ((popK (v / 16777216) 8 : Nat) : Int))) (r_sindexD (s := bigS1) (j := ((v / 16777216))) rfl (congrArg some h1) Tryd.underlying9 rfl (by have := bigS1_size; omega)) (by show Value.int .u8 ((sbt bigS1 (v / 16777216) : Nat) : Int) = _; rw [pop8 (by omega)])) ⟨Below.refl _ _, rfl, nofr rfl⟩
    refine ⟨fun wu3 hC hd => ?_, ?_⟩
    · clear hd
      replace hb := hb.trans (hC.mono hb.size)
      exact Runs.does (r_move rfl) ⟨Below.refl _ _, rfl, nofr rfl⟩
    refine ⟨fun wu4 hC hd => ?_, ?_⟩
    · obtain ⟨h3, _⟩ := hd
      skip
      replace h3 : V 3 = (.int .u32 ((v : Nat) : Int)) := h3
      replace hb := hb.trans (hC.mono hb.size)
      exact Runs.does (r_shr (n := 16) (C := (((v / 65536) : Nat) : Int)) (congrArg some h3) rfl rfl (shr_n v 16 65536 rfl (by decide))) ⟨Below.refl _ _, rfl, nofr rfl⟩
    refine ⟨fun wu5 hC hd => ?_, ?_⟩
    · obtain ⟨h4, _⟩ := hd
      skip
      replace h4 : V 4 = (.int .u32 (((v / 65536) : Nat) : Int)) := h4
      replace hb := hb.trans (hC.mono hb.size)
      exact Runs.does (r_and (C := (((v / 65536 % 256) : Nat) : Int)) (congrArg some h4) rfl (by rw [show ((255 : Int)) = ((255 : Nat) : Int) from rfl, bits_and32 _ _ (by omega) (by omega), and255])) ⟨Below.refl _ _, rfl, nofr rfl⟩
    refine ⟨fun wu6 hC hd => ?_, ?_⟩
    · obtain ⟨h5, _⟩ := hd
      skip
      replace h5 : V 5 = (.int .u32 (((v / 65536 % 256) : Nat) : Int)) := h5
      replace hb := hb.trans (hC.mono hb.size)
      exact Runs.does (Runs.veq (v' := (.int .u8 ((popK (v / 65536 % 256) 8 : Nat) : Int))) (r_sindexD (s := bigS1) (j := ((v / 65536 % 256))) rfl (congrArg some h5) Tryd.underlying9 rfl (by have := bigS1_size; omega)) (by show Value.int .u8 ((sbt bigS1 (v / 65536 % 256) : Nat) : Int) = _; rw [pop8 (by omega)])) ⟨Below.refl _ _, rfl, nofr rfl⟩
    refine ⟨fun wu7 hC hd => ?_, ?_⟩
    · obtain ⟨h2, h6, _⟩ := hd
      skip
      skip
      replace h2 : V 2 = (.int .u8 ((popK (v / 16777216) 8 : Nat) : Int)) := h2
      replace h6 : V 6 = (.int .u8 ((popK (v / 65536 % 256) 8 : Nat) : Int)) := h6
      replace hb := hb.trans (hC.mono hb.size)
      exact Runs.does (r_add (C := (((popK (v / 16777216) 8 + popK (v / 65536 % 256) 8) : Nat) : Int)) (congrArg some h2) (congrArg some h6) (by rw [IntKind.wrap_u8]; omega)) ⟨Below.refl _ _, rfl, nofr rfl⟩
    refine ⟨fun wu8 hC hd => ?_, ?_⟩
    · clear hd
      replace hb := hb.trans (hC.mono hb.size)
      exact Runs.does (r_move rfl) ⟨Below.refl _ _, rfl, nofr rfl⟩
    refine ⟨fun wu9 hC hd => ?_, ?_⟩
    · obtain ⟨h8, _⟩ := hd
      skip
      replace h8 : V 8 = (.int .u32 ((v : Nat) : Int)) := h8
      replace hb := hb.trans (hC.mono hb.size)
      exact Runs.does (r_shr (n := 8) (C := (((v / 256) : Nat) : Int)) (congrArg some h8) rfl rfl (shr_n v 8 256 rfl (by decide))) ⟨Below.refl _ _, rfl, nofr rfl⟩
    refine ⟨fun wu10 hC hd => ?_, ?_⟩
    · obtain ⟨h9, _⟩ := hd
      skip
      replace h9 : V 9 = (.int .u32 (((v / 256) : Nat) : Int)) := h9
      replace hb := hb.trans (hC.mono hb.size)
      exact Runs.does (r_and (C := (((v / 256 % 256) : Nat) : Int)) (congrArg some h9) rfl (by rw [show ((255 : Int)) = ((255 : Nat) : Int) from rfl, bits_and32 _ _ (by omega) (by omega), and255])) ⟨Below.refl _ _, rfl, nofr rfl⟩
    refine ⟨fun wu11 hC hd => ?_, ?_⟩
    · obtain ⟨h10, _⟩ := hd
      skip
      replace h10 : V 10 = (.int .u32 (((v / 256 % 256) : Nat) : Int)) := h10
      replace hb := hb.trans (hC.mono hb.size)
      exact Runs.does (Runs.veq (v' := (.int .u8 ((popK (v / 256 % 256) 8 : Nat) : Int))) (r_sindexD (s := bigS1) (j := ((v / 256 % 256))) rfl (congrArg some h10) Tryd.underlying9 rfl (by have := bigS1_size; omega)) (by show Value.int .u8 ((sbt bigS1 (v / 256 % 256) : Nat) : Int) = _; rw [pop8 (by omega)])) ⟨Below.refl _ _, rfl, nofr rfl⟩
    refine ⟨fun wu12 hC hd => ?_, ?_⟩
    · obtain ⟨h7, h11, _⟩ := hd
      skip
      skip
      replace h7 : V 7 = (.int .u8 (((popK (v / 16777216) 8 + popK (v / 65536 % 256) 8) : Nat) : Int)) := h7
      replace h11 : V 11 = (.int .u8 ((popK (v / 256 % 256) 8 : Nat) : Int)) := h11
      replace hb := hb.trans (hC.mono hb.size)
      exact Runs.does (r_add (C := (((popK (v / 16777216) 8 + popK (v / 65536 % 256) 8 + popK (v / 256 % 256) 8) : Nat) : Int)) (congrArg some h7) (congrArg some h11) (by rw [IntKind.wrap_u8]; omega)) ⟨Below.refl _ _, rfl, nofr rfl⟩
    refine ⟨fun wu13 hC hd => ?_, ?_⟩
    · clear hd
      replace hb := hb.trans (hC.mono hb.size)
      exact Runs.does (r_move rfl) ⟨Below.refl _ _, rfl, nofr rfl⟩
    refine ⟨fun wu14 hC hd => ?_, ?_⟩
    · obtain ⟨h13, _⟩ := hd
      skip
      replace h13 : V 13 = (.int .u32 ((v : Nat) : Int)) := h13
      replace hb := hb.trans (hC.mono hb.size)
      exact Runs.does (r_and (C := (((v % 256) : Nat) : Int)) (congrArg some h13) rfl (by rw [show ((255 : Int)) = ((255 : Nat) : Int) from rfl, bits_and32 _ _ (by omega) (by omega), and255])) ⟨Below.refl _ _, rfl, nofr rfl⟩
    refine ⟨fun wu15 hC hd => ?_, ?_⟩
    · obtain ⟨h14, _⟩ := hd
      skip
      replace h14 : V 14 = (.int .u32 (((v % 256) : Nat) : Int)) := h14
      replace hb := hb.trans (hC.mono hb.size)
      exact Runs.does (Runs.veq (v' := (.int .u8 ((popK (v % 256) 8 : Nat) : Int))) (r_sindexD (s := bigS1) (j := ((v % 256))) rfl (congrArg some h14) Tryd.underlying9 rfl (by have := bigS1_size; omega)) (by show Value.int .u8 ((sbt bigS1 (v % 256) : Nat) : Int) = _; rw [pop8 (by omega)])) ⟨Below.refl _ _, rfl, nofr rfl⟩
    refine ⟨fun wu16 hC hd => ?_, ?_⟩
    · obtain ⟨h12, h15, _⟩ := hd
      skip
      skip
      replace h12 : V 12 = (.int .u8 (((popK (v / 16777216) 8 + popK (v / 65536 % 256) 8 + popK (v / 256 % 256) 8) : Nat) : Int)) := h12
      replace h15 : V 15 = (.int .u8 ((popK (v % 256) 8 : Nat) : Int)) := h15
      replace hb := hb.trans (hC.mono hb.size)
      exact Runs.does (r_add (C := ((popK v 32 : Nat) : Int)) (congrArg some h12) (congrArg some h15) (by rw [IntKind.wrap_u8]; omega)) ⟨Below.refl _ _, rfl, nofr rfl⟩
    refine ⟨fun wu17 hC hd => ?_, ?_⟩
    · obtain ⟨h16, _⟩ := hd
      skip
      replace h16 : V 16 = (.int .u8 ((popK v 32 : Nat) : Int)) := h16
      replace hb := hb.trans (hC.mono hb.size)
      exact Runs.does (r_conv (C := ((popK v 32 : Nat) : Int)) (congrArg some h16) Tryd.underlying5 Tryd.underlying3 (by rw [IntKind.wrap_i64]; omega)) ⟨Below.refl _ _, rfl, nofr rfl⟩
    refine ⟨fun wu18 hC hd => ?_, ?_⟩
    · obtain ⟨h0, h1, h2, h3, h4, h5, h6, h7, h8, h9, h10, h11, h12, h13, h14, h15, h16, h17, _⟩ := hd
      skip
      skip
      skip
      skip
      skip
      skip
      skip
      skip
      skip
      skip
      skip
      skip
      skip
      skip
      skip
      skip
      skip
      skip
      replace h0 : V 0 = (.int .u32 ((v : Nat) : Int)) := h0
      replace h1 : V 1 = (.int .u32 (((v / 16777216) : Nat) : Int)) := h1
      replace h2 : V 2 = (.int .u8 ((popK (v / 16777216) 8 : Nat) : Int)) := h2
      replace h3 : V 3 = (.int .u32 ((v : Nat) : Int)) := h3
      replace h4 : V 4 = (.int .u32 (((v / 65536) : Nat) : Int)) := h4
      replace h5 : V 5 = (.int .u32 (((v / 65536 % 256) : Nat) : Int)) := h5
      replace h6 : V 6 = (.int .u8 ((popK (v / 65536 % 256) 8 : Nat) : Int)) := h6
      replace h7 : V 7 = (.int .u8 (((popK (v / 16777216) 8 + popK (v / 65536 % 256) 8) : Nat) : Int)) := h7
      replace h8 : V 8 = (.int .u32 ((v : Nat) : Int)) := h8
      replace h9 : V 9 = (.int .u32 (((v / 256) : Nat) : Int)) := h9
      replace h10 : V 10 = (.int .u32 (((v / 256 % 256) : Nat) : Int)) := h10
      replace h11 : V 11 = (.int .u8 ((popK (v / 256 % 256) 8 : Nat) : Int)) := h11
      replace h12 : V 12 = (.int .u8 (((popK (v / 16777216) 8 + popK (v / 65536 % 256) 8 + popK (v / 256 % 256) 8) : Nat) : Int)) := h12
      replace h13 : V 13 = (.int .u32 ((v : Nat) : Int)) := h13
      replace h14 : V 14 = (.int .u32 (((v % 256) : Nat) : Int)) := h14
      replace h15 : V 15 = (.int .u8 ((popK (v % 256) 8 : Nat) : Int)) := h15
      replace h16 : V 16 = (.int .u8 ((popK v 32 : Nat) : Int)) := h16
      replace h17 : V 17 = (.int .i64 ((popK v 32 : Nat) : Int)) := h17
      replace hb := hb.trans (hC.mono hb.size)
      exact Runs.does (r_assign (congrArg some h17)) ⟨Below.refl _ _, rfl, nofr rfl⟩
    trivial
  · skip
    clear hf fa; intro V w1 fa he1 hp hnb hf
    have hv0 : V 0 = (.int .u32 ((v : Nat) : Int)) := postsHold_at hp 0 rfl
    have hv1 : V 1 = (.int .u32 (((v / 16777216) : Nat) : Int)) := postsHold_at hp 1 rfl
    have hv2 : V 2 = (.int .u8 ((popK (v / 16777216) 8 : Nat) : Int)) := postsHold_at hp 2 rfl
    have hv3 : V 3 = (.int .u32 ((v : Nat) : Int)) := postsHold_at hp 3 rfl
    have hv4 : V 4 = (.int .u32 (((v / 65536) : Nat) : Int)) := postsHold_at hp 4 rfl
    have hv5 : V 5 = (.int .u32 (((v / 65536 % 256) : Nat) : Int)) := postsHold_at hp 5 rfl
    have hv6 : V 6 = (.int .u8 ((popK (v / 65536 % 256) 8 : Nat) : Int)) := postsHold_at hp 6 rfl
    have hv7 : V 7 = (.int .u8 (((popK (v / 16777216) 8 + popK (v / 65536 % 256) 8) : Nat) : Int)) := postsHold_at hp 7 rfl
    have hv8 : V 8 = (.int .u32 ((v : Nat) : Int)) := postsHold_at hp 8 rfl
    have hv9 : V 9 = (.int .u32 (((v / 256) : Nat) : Int)) := postsHold_at hp 9 rfl
    have hv10 : V 10 = (.int .u32 (((v / 256 % 256) : Nat) : Int)) := postsHold_at hp 10 rfl
    have hv11 : V 11 = (.int .u8 ((popK (v / 256 % 256) 8 : Nat) : Int)) := postsHold_at hp 11 rfl
    have hv12 : V 12 = (.int .u8 (((popK (v / 16777216) 8 + popK (v / 65536 % 256) 8 + popK (v / 256 % 256) 8) : Nat) : Int)) := postsHold_at hp 12 rfl
    have hv13 : V 13 = (.int .u32 ((v : Nat) : Int)) := postsHold_at hp 13 rfl
    have hv14 : V 14 = (.int .u32 (((v % 256) : Nat) : Int)) := postsHold_at hp 14 rfl
    have hv15 : V 15 = (.int .u8 ((popK (v % 256) 8 : Nat) : Int)) := postsHold_at hp 15 rfl
    have hv16 : V 16 = (.int .u8 ((popK v 32 : Nat) : Int)) := postsHold_at hp 16 rfl
    have hv17 : V 17 = (.int .i64 ((popK v 32 : Nat) : Int)) := postsHold_at hp 17 rfl
    have hv18 : V 18 = (.int .i64 ((popK v 32 : Nat) : Int)) := postsHold_at hp 18 rfl
    simp only [List.take_succ_cons, List.take_zero, insAll, ins, hv0, hv1, hv2, hv3, hv4, hv5, hv6, hv7, hv8, hv9, hv10, hv11, hv12, hv13, hv14, hv15, hv16, hv17, hv18] at hf
    clear hp hnb hv0 hv1 hv2 hv3 hv4 hv5 hv6 hv7 hv8 hv9 hv10 hv11 hv12 hv13 hv14 hv15 hv16 hv17 hv18
    replace hb := hb.trans (Below.mono he1 hb.size)
    (try simp only [Exit.then, Exit.inBlock, ↓reduceIte, Nat.reduceEqDiff])
    refine hK2 _ _ ?_
    refine wp_ret ?_
    (try simp only [Exit.then, Exit.inBlock])
    refine ret1 hf rfl rfl ?_
    exact ⟨rfl, hb⟩

set_option maxHeartbeats 1000000 in
set_option maxRecDepth 100000 in
theorem one_any (o : Int) (v : Nat) (w : World) (hv : v < 4294967296) (hT : RdS 1 (vInt .u8) w (some ⟨0, 0, none⟩) tab32) : Calls Tryd.prog 5 #[(.int .u8 o), (.int .u32 ((v : Nat) : Int))] w fun e w' => e = .returned (.tuple #[.int .u32 (oneP o v).1, .bool (oneP o v).2]) ∧ Below w.heap.size w w' := by
  have hll := lenN_le hv; have hcl := ctz_le v; have hpl := popK_le v 32
  refine sx_enter (L := [(0, (.int .u8 o)), (1, (.int .u32 ((v : Nat) : Int)))]) Tryd.func5 rfl rfl rfl rfl (fun fa hf => ?_)
  have hb : Below w.heap.size w w := Below.refl _ _
  refine wp_seq_k (fun K1 hK1 => ?_)
  refine wp_region_lit ?_
  refine sqv hf (r_assign rfl) rfl rfl rfl ?_; clear hf fa; intro fa hf
  refine sqv hf (r_assign rfl) rfl rfl rfl ?_; clear hf fa; intro fa hf
  apply wpList_nil
  (try simp only [Exit.then, Exit.inBlock, ↓reduceIte, Nat.reduceEqDiff])
  refine hK1 _ _ ?_
  refine wp_seq_k (fun K2 hK2 => ?_)
  refine wp_seq_k (fun K3 hK3 => ?_)
  refine wp_region_lit ?_
  refine sqv hf (r_move rfl) rfl rfl rfl ?_; clear hf fa; intro fa hf
  apply wpList_nil
  (try simp only [Exit.then, Exit.inBlock, ↓reduceIte, Nat.reduceEqDiff])
  refine hK3 _ _ ?_
  refine wp_block ?_
  refine wp_seq_k (fun K4 hK4 => ?_)
  refine wp_region_lit ?_
  refine sqv hf (r_eq rfl rfl) rfl rfl rfl ?_; clear hf fa; intro fa hf
  refine sqv hf (r_assign rfl) rfl rfl rfl ?_; clear hf fa; intro fa hf
  apply wpList_nil
  (try simp only [Exit.then, Exit.inBlock, ↓reduceIte, Nat.reduceEqDiff])
  refine hK4 _ _ ?_
  refine wp_cond_split (t := (decide (o = (69 : Int)))) (hf.ev rfl) (fun hqt7_1 => ?_) (fun hqt7_1 => ?_)
  · have hqt7_1b := hqt7_1
    try simp only [decide_eq_true_eq, Bool.and_eq_true, Bool.or_eq_true, Bool.not_eq_true', decide_eq_false_iff_not, ne_eq, Bool.not_eq_true] at hqt7_1
    refine wp_seq_k (fun K5 hK5 => ?_)
    refine wp_region_lit ?_
    refine sqv hf (r_move rfl) rfl rfl rfl ?_; clear hf fa; intro fa hf
    refine sqv hf (r_eq rfl rfl) rfl rfl rfl ?_; clear hf fa; intro fa hf
    refine sqdt hf (d_callS (vs := [(.bool (decide (((v : Nat) : Int) = (0 : Int))))]) rfl Tryd.func8 (by kernel_rfl) (by kernel_rfl) (truth_any (decide (((v : Nat) : Int) = (0 : Int))) _)) rfl rfl rfl ?_; clear hf fa; rintro fa _ _ ⟨rfl, rfl⟩ hf
    refine sqv hf (r_assign rfl) rfl rfl rfl ?_; clear hf fa; intro fa hf
    refine sqv hf (r_assign rfl) rfl rfl rfl ?_; clear hf fa; intro fa hf
    apply wpList_nil
    (try simp only [Exit.then, Exit.inBlock, ↓reduceIte, Nat.reduceEqDiff])
    refine hK5 _ _ ?_
    refine wp_ret ?_
    (try simp only [Exit.then, Exit.inBlock])
    refine ret2 hf rfl rfl rfl ?_
    refine ⟨?_, hb⟩; unfold oneP; rw [if_pos hqt7_1]; rw [show decide (((v : Nat) : Int) = 0) = decide (v = 0) from by rw [decide_eq_decide]; omega]
  · have hqt7_1b := hqt7_1
    replace hqt7_1 := Bool.eq_false_iff.1 hqt7_1
    try simp only [ne_eq, decide_eq_true_eq, Bool.and_eq_true, Bool.or_eq_true, Bool.not_eq_true', decide_eq_false_iff_not] at hqt7_1
    refine wp_seq_k (fun K6 hK6 => ?_)
    refine wp_region_lit ?_
    refine sqv hf (r_eq rfl rfl) rfl rfl rfl ?_; clear hf fa; intro fa hf
    refine sqv hf (r_assign rfl) rfl rfl rfl ?_; clear hf fa; intro fa hf
    apply wpList_nil
    (try simp only [Exit.then, Exit.inBlock, ↓reduceIte, Nat.reduceEqDiff])
    refine hK6 _ _ ?_
    refine wp_cond_split (t := (decide (o = (103 : Int)))) (hf.ev rfl) (fun hqt12_1 => ?_) (fun hqt12_1 => ?_)
    · have hqt12_1b := hqt12_1
      try simp only [decide_eq_true_eq, Bool.and_eq_true, Bool.or_eq_true, Bool.not_eq_true', decide_eq_false_iff_not, ne_eq, Bool.not_eq_true] at hqt12_1
      refine wp_seq_k (fun K7 hK7 => ?_)
      refine wp_region_lit ?_
      refine sqv hf (r_move rfl) rfl rfl rfl ?_; clear hf fa; intro fa hf
      refine sqdt hf (d_callS (vs := [(.int .u32 ((v : Nat) : Int))]) rfl Tryd.func9 (by kernel_rfl) (by kernel_rfl) (clz_any v _ hv)) rfl rfl rfl ?_; clear hf fa; rintro fa _ _ ⟨rfl, rfl⟩ hf
      refine sqv hf (r_conv (C := ((32 : Int) - ((lenN v : Nat) : Int))) rfl Tryd.underlying3 Tryd.underlying22 (by rw [IntKind.wrap_u32]; omega)) rfl rfl rfl ?_; clear hf fa; intro fa hf
      refine sqv hf (r_assign rfl) rfl rfl rfl ?_; clear hf fa; intro fa hf
      refine sqv hf (r_assign rfl) rfl rfl rfl ?_; clear hf fa; intro fa hf
      apply wpList_nil
      (try simp only [Exit.then, Exit.inBlock, ↓reduceIte, Nat.reduceEqDiff])
      refine hK7 _ _ ?_
      refine wp_ret ?_
      (try simp only [Exit.then, Exit.inBlock])
      refine ret2 hf rfl rfl rfl ?_
      refine ⟨?_, hb⟩; unfold oneP; rw [if_neg hqt7_1, if_pos hqt12_1]
    · have hqt12_1b := hqt12_1
      replace hqt12_1 := Bool.eq_false_iff.1 hqt12_1
      try simp only [ne_eq, decide_eq_true_eq, Bool.and_eq_true, Bool.or_eq_true, Bool.not_eq_true', decide_eq_false_iff_not] at hqt12_1
      refine wp_seq_k (fun K8 hK8 => ?_)
      refine wp_region_lit ?_
      refine sqv hf (r_eq rfl rfl) rfl rfl rfl ?_; clear hf fa; intro fa hf
      refine sqv hf (r_assign rfl) rfl rfl rfl ?_; clear hf fa; intro fa hf
      apply wpList_nil
      (try simp only [Exit.then, Exit.inBlock, ↓reduceIte, Nat.reduceEqDiff])
      refine hK8 _ _ ?_
      refine wp_cond_split (t := (decide (o = (104 : Int)))) (hf.ev rfl) (fun hqt17_1 => ?_) (fun hqt17_1 => ?_)
      · have hqt17_1b := hqt17_1
        try simp only [decide_eq_true_eq, Bool.and_eq_true, Bool.or_eq_true, Bool.not_eq_true', decide_eq_false_iff_not, ne_eq, Bool.not_eq_true] at hqt17_1
        refine wp_seq_k (fun K9 hK9 => ?_)
        refine wp_region_lit ?_
        refine sqv hf (r_move rfl) rfl rfl rfl ?_; clear hf fa; intro fa hf
        refine sqdt hf (d_callS (vs := [(.int .u32 ((v : Nat) : Int))]) rfl Tryd.func10 (by kernel_rfl) (by kernel_rfl) (ctz_any v _ hv hT)) rfl rfl rfl ?_; clear hf fa; rintro fa _ _ ⟨rfl, rfl⟩ hf
        refine sqv hf (r_conv (C := ((ctzN v : Nat) : Int)) rfl Tryd.underlying3 Tryd.underlying22 (by rw [IntKind.wrap_u32]; omega)) rfl rfl rfl ?_; clear hf fa; intro fa hf
        refine sqv hf (r_assign rfl) rfl rfl rfl ?_; clear hf fa; intro fa hf
        refine sqv hf (r_assign rfl) rfl rfl rfl ?_; clear hf fa; intro fa hf
        apply wpList_nil
        (try simp only [Exit.then, Exit.inBlock, ↓reduceIte, Nat.reduceEqDiff])
        refine hK9 _ _ ?_
        refine wp_ret ?_
        (try simp only [Exit.then, Exit.inBlock])
        refine ret2 hf rfl rfl rfl ?_
        refine ⟨?_, hb⟩; unfold oneP; rw [if_neg hqt7_1, if_neg hqt12_1, if_pos hqt17_1]
      · have hqt17_1b := hqt17_1
        replace hqt17_1 := Bool.eq_false_iff.1 hqt17_1
        try simp only [ne_eq, decide_eq_true_eq, Bool.and_eq_true, Bool.or_eq_true, Bool.not_eq_true', decide_eq_false_iff_not] at hqt17_1
        refine wp_seq_k (fun K10 hK10 => ?_)
        refine wp_region_lit ?_
        refine sqv hf (r_eq rfl rfl) rfl rfl rfl ?_; clear hf fa; intro fa hf
        refine sqv hf (r_assign rfl) rfl rfl rfl ?_; clear hf fa; intro fa hf
        apply wpList_nil
        (try simp only [Exit.then, Exit.inBlock, ↓reduceIte, Nat.reduceEqDiff])
        refine hK10 _ _ ?_
        refine wp_cond_split (t := (decide (o = (105 : Int)))) (hf.ev rfl) (fun hqt22_1 => ?_) (fun hqt22_1 => ?_)
        · have hqt22_1b := hqt22_1
          try simp only [decide_eq_true_eq, Bool.and_eq_true, Bool.or_eq_true, Bool.not_eq_true', decide_eq_false_iff_not, ne_eq, Bool.not_eq_true] at hqt22_1
          refine wp_seq_k (fun K11 hK11 => ?_)
          refine wp_region_lit ?_
          refine sqv hf (r_move rfl) rfl rfl rfl ?_; clear hf fa; intro fa hf
          refine sqdt hf (d_callB (vs := [(.int .u32 ((v : Nat) : Int))]) rfl Tryd.func11 (by kernel_rfl) (by kernel_rfl) (pop_any v _ hv)) rfl rfl rfl ?_; clear hf fa; rintro fa _ w1 ⟨rfl, he1⟩ hf
          replace hb := hb.trans (Below.mono he1 hb.size)
          refine sqv hf (r_conv (C := ((popK v 32 : Nat) : Int)) rfl Tryd.underlying3 Tryd.underlying22 (by rw [IntKind.wrap_u32]; omega)) rfl rfl rfl ?_; clear hf fa; intro fa hf
          refine sqv hf (r_assign rfl) rfl rfl rfl ?_; clear hf fa; intro fa hf
          refine sqv hf (r_assign rfl) rfl rfl rfl ?_; clear hf fa; intro fa hf
          apply wpList_nil
          (try simp only [Exit.then, Exit.inBlock, ↓reduceIte, Nat.reduceEqDiff])
          refine hK11 _ _ ?_
          refine wp_ret ?_
          (try simp only [Exit.then, Exit.inBlock])
          refine ret2 hf rfl rfl rfl ?_
          refine ⟨?_, hb⟩; unfold oneP; rw [if_neg hqt7_1, if_neg hqt12_1, if_neg hqt17_1, if_pos hqt22_1]
        · have hqt22_1b := hqt22_1
          replace hqt22_1 := Bool.eq_false_iff.1 hqt22_1
          try simp only [ne_eq, decide_eq_true_eq, Bool.and_eq_true, Bool.or_eq_true, Bool.not_eq_true', decide_eq_false_iff_not] at hqt22_1
          refine wp_skip ?_
          (try simp only [Exit.then, Exit.inBlock, ↓reduceIte, Nat.reduceEqDiff])
          refine hK2 _ _ ?_
          refine wp_seq_k (fun K12 hK12 => ?_)
          refine wp_region_lit ?_
          refine sqv hf (r_assign rfl) rfl rfl rfl ?_; clear hf fa; intro fa hf
          refine sqv hf (r_assign rfl) rfl rfl rfl ?_; clear hf fa; intro fa hf
          apply wpList_nil
          (try simp only [Exit.then, Exit.inBlock, ↓reduceIte, Nat.reduceEqDiff])
          refine hK12 _ _ ?_
          refine wp_ret ?_
          (try simp only [Exit.then, Exit.inBlock])
          refine ret2 hf rfl rfl rfl ?_
          refine ⟨?_, hb⟩; unfold oneP; rw [if_neg hqt7_1, if_neg hqt12_1, if_neg hqt17_1, if_neg hqt22_1]

theorem rtruthN_any (b : Bool) (w : World) : Calls Tryd.prog 13 #[.bool b] w fun e w' => e = .returned (.int .u64 ((tn b : Nat) : Int)) ∧ w = w' := by
  have h := rtruth_any b w
  rw [show tz b = ((tn b : Nat) : Int) by cases b <;> rfl] at h
  exact h

set_option maxHeartbeats 1000000 in
set_option maxRecDepth 100000 in
theorem rone_any (o : Int) (v : Nat) (w : World) (hv : v < 4294967296) : Calls Tryd.prog 6 #[(.int .i64 o), (.int .u64 ((v : Nat) : Int))] w fun e w' => e = .returned (.tuple #[.int .u64 (oneP o v).1, .bool (oneP o v).2]) ∧ Below w.heap.size w w' := by
  refine sx_enter (L := [(0, (.int .i64 o)), (1, (.int .u64 ((v : Nat) : Int)))]) Tryd.func6 rfl rfl rfl rfl (fun fa hf => ?_)
  have hb : Below w.heap.size w w := Below.refl _ _
  refine wp_seq_k (fun K1 hK1 => ?_)
  refine wp_region_lit ?_
  refine sqv hf (r_assign rfl) rfl rfl rfl ?_; clear hf fa; intro fa hf
  refine sqv hf (r_assign rfl) rfl rfl rfl ?_; clear hf fa; intro fa hf
  apply wpList_nil
  (try simp only [Exit.then, Exit.inBlock, ↓reduceIte, Nat.reduceEqDiff])
  refine hK1 _ _ ?_
  refine wp_seq_k (fun K2 hK2 => ?_)
  refine wp_region_lit ?_
  refine sqv hf (r_move rfl) rfl rfl rfl ?_; clear hf fa; intro fa hf
  refine sqdt hf (d_callX (vs := [(.int .u64 ((v : Nat) : Int))]) rfl Tryd.func12 (by kernel_rfl) (by kernel_rfl) (bits_any v _ hv)) rfl rfl rfl ?_; clear hf fa; rintro fa v w1 ⟨hr1, he1⟩ hf; obtain ⟨ra1, rc1, rfl, hcrc1, hmrc1⟩ := Row.slice hr1
  replace hr1 := Row.rebase hr1 hb.size
  replace hb := hb.trans (Below.mono he1 hb.size)
  have := bitsK_length v 32
  refine sqv hf (r_assign rfl) rfl rfl rfl ?_; clear hf fa; intro fa hf
  apply wpList_nil
  (try simp only [Exit.then, Exit.inBlock, ↓reduceIte, Nat.reduceEqDiff])
  refine hK2 _ _ ?_
  refine wp_seq_k (fun K3 hK3 => ?_)
  refine wp_region_lit ?_
  refine sqv hf (r_assign rfl) rfl rfl rfl ?_; clear hf fa; intro fa hf
  refine sqv hf (r_assign rfl) rfl rfl rfl ?_; clear hf fa; intro fa hf
  apply wpList_nil
  (try simp only [Exit.then, Exit.inBlock, ↓reduceIte, Nat.reduceEqDiff])
  refine hK3 _ _ ?_
  refine wp_seq_k (fun K4 hK4 => ?_)
  refine wp_seq_k (fun K5 hK5 => ?_)
  skip
  refine wp_region_lit ?_
  refine sqv hf (r_assign rfl) rfl rfl rfl ?_; clear hf fa; intro fa hf
  apply wpList_nil
  (try simp only [Exit.then, Exit.inBlock, ↓reduceIte, Nat.reduceEqDiff])
  refine hK5 _ _ ?_
  refine wp_block ?_
  refine wp_loop_k (fun mq fa wr => ∃ (i : Nat), mq = 32 - i ∧ Fr 66 fa [(0, (.int .i64 o)), (7, (.int .u64 (0 : Int))), (8, (.int .u64 ((popK v i : Nat) : Int))), (9, (.int .i64 ((i : Nat) : Int))), (6, (.slice ra1 (((bitsK v 32)).length) rc1))] ∧ Below w.heap.size w wr ∧ Row 1 vBool 4 (w.heap.size) wr (.slice ra1 ((bitsK v 32).length) rc1) (bitsK v 32) ∧ (i ≤ 32)) ?_ ?_
  · skip
    exact ⟨_, 0, rfl, hf.sub ⟨rfl, rfl, (some_int (by first | rfl | omega)), (some_int (by first | rfl | omega)), rfl, trivial⟩, hb, hr1, by omega⟩
  · skip
    clear hf fa; intro mq1 fa w2 hI KL1 hKL1
    clear hb
    clear hr1
    obtain ⟨i, hmq1, hf, hb, hra1, hi⟩ := hI
    have hcra1 := Row.caps hra1
    have hpi := popK_le v i; have htn := tn_le (v.testBit i)
    have hpk : popK v (i + 1) = popK v i + tn (v.testBit i) := rfl
    have hbl := bitsK_length v 32
    refine wp_seq_k (fun K6 hK6 => ?_)
    refine wp_seq_k (fun K7 hK7 => ?_)
    refine wp_region_lit ?_
    refine sqv hf (r_move rfl) rfl rfl rfl ?_; clear hf fa; intro fa hf
    refine sqv hf (r_lt rfl rfl) rfl rfl rfl ?_; clear hf fa; intro fa hf
    apply wpList_nil
    (try simp only [Exit.then, Exit.inBlock, ↓reduceIte, Nat.reduceEqDiff])
    refine hK7 _ _ ?_
    refine wp_cond_split (t := (decide (((i : Nat) : Int) < (32 : Int)))) (hf.ev rfl) (fun hqt15_1 => ?_) (fun hqt15_1 => ?_)
    · have hqt15_1b := hqt15_1
      try simp only [decide_eq_true_eq, Bool.and_eq_true, Bool.or_eq_true, Bool.not_eq_true', decide_eq_false_iff_not, ne_eq, Bool.not_eq_true] at hqt15_1
      refine wp_skip ?_
      (try simp only [Exit.then, Exit.inBlock, ↓reduceIte, Nat.reduceEqDiff])
      refine hK6 _ _ ?_
      refine wp_seq_k (fun K8 hK8 => ?_)
      refine wp_block ?_
      refine wp_region_lit ?_
      refine sqv hf (r_move rfl) rfl rfl rfl ?_; clear hf fa; intro fa hf
      refine sqv hf (r_move rfl) rfl rfl rfl ?_; clear hf fa; intro fa hf
      refine sqv hf (r_move rfl) rfl rfl rfl ?_; clear hf fa; intro fa hf
      obtain ⟨rb1, rfl, hbbrb1, hlbrb1⟩ := Row.some hra1 (by first | omega | (simp only [bitsK_length, List.length_set, List.length_take, List.length_append, List.length_replicate, List.length_cons, List.length_nil]; omega))
      have hy1 : ((bitsK v 32))[i]? = some ((v).testBit i) := (bitsK_get (n := v) (k := 32) (i := i) (by omega))
      have hel1 := RdS.at (Row.rd (by intros; rfl) hra1) hy1
      obtain ⟨_, _, hab, hlr1, hel1⟩ := hel1
      cases hab
      refine sqv hf (r_ixa (sz := 1) (j := i) rfl rfl Tryd.underlying35 (by kernel_rfl) rfl (by omega) rfl) rfl rfl rfl ?_; clear hf fa; intro fa hf
      refine sqv hf (r_load (v := (.bool ((v).testBit i))) rfl Tryd.underlying4 rfl (cellsAt_cell hel1 (i := 0) rfl rfl)) rfl rfl rfl ?_; clear hf fa; intro fa hf
      refine sqdt hf (d_callS (vs := [(.bool ((v).testBit i))]) rfl Tryd.func13 (by kernel_rfl) (by kernel_rfl) (rtruthN_any ((v).testBit i) _)) rfl rfl rfl ?_; clear hf fa; rintro fa _ _ ⟨rfl, rfl⟩ hf
      refine sqv hf (r_add (C := (((popK v i : Nat) : Int) + ((tn (((v).testBit i)) : Nat) : Int))) rfl rfl (by rw [IntKind.wrap_u64]; omega)) rfl rfl rfl ?_; clear hf fa; intro fa hf
      refine sqv hf (r_assign rfl) rfl rfl rfl ?_; clear hf fa; intro fa hf
      apply wpList_nil
      (try simp only [Exit.then, Exit.inBlock, ↓reduceIte, Nat.reduceEqDiff])
      refine hK8 _ _ ?_
      refine wp_region_lit ?_
      refine sqv hf (r_move rfl) rfl rfl rfl ?_; clear hf fa; intro fa hf
      refine sqv hf (r_add (C := (((i : Nat) : Int) + (1 : Int))) rfl rfl (by rw [IntKind.wrap_i64]; omega)) rfl rfl rfl ?_; clear hf fa; intro fa hf
      refine sqv hf (r_assign rfl) rfl rfl rfl ?_; clear hf fa; intro fa hf
      apply wpList_nil
      (try simp only [Exit.then, Exit.inBlock, ↓reduceIte, Nat.reduceEqDiff])
      refine hKL1 _ _ _ (by omega) ⟨(i + 1), rfl, hf.sub ⟨rfl, rfl, (some_int (by first | rfl | omega)), (some_int (by first | rfl | omega)), (some_sl (by first | omega | (simp only [List.length_append, List.length_cons, List.length_nil]; omega) | (simp <;> omega)) rfl), trivial⟩, hb, hra1, by omega⟩
    · have hqt15_1b := hqt15_1
      replace hqt15_1 := Bool.eq_false_iff.1 hqt15_1
      try simp only [ne_eq, decide_eq_true_eq, Bool.and_eq_true, Bool.or_eq_true, Bool.not_eq_true', decide_eq_false_iff_not] at hqt15_1
      refine wp_exit ?_
      (try simp only [Exit.then, Exit.inBlock, ↓reduceIte, Nat.reduceEqDiff])
      refine hK4 _ _ ?_
      refine wp_seq_k (fun K9 hK9 => ?_)
      refine wp_seq_k (fun K10 hK10 => ?_)
      obtain rfl : i = 32 := by omega
      have hpl := popK_le v 32
      refine wp_region_lit ?_
      refine sqv hf (r_move rfl) rfl rfl rfl ?_; clear hf fa; intro fa hf
      apply wpList_nil
      (try simp only [Exit.then, Exit.inBlock, ↓reduceIte, Nat.reduceEqDiff])
      refine hK10 _ _ ?_
      refine wp_block ?_
      refine wp_seq_k (fun K11 hK11 => ?_)
      refine wp_region_lit ?_
      refine sqv hf (r_eq rfl rfl) rfl rfl rfl ?_; clear hf fa; intro fa hf
      refine sqv hf (r_assign rfl) rfl rfl rfl ?_; clear hf fa; intro fa hf
      apply wpList_nil
      (try simp only [Exit.then, Exit.inBlock, ↓reduceIte, Nat.reduceEqDiff])
      refine hK11 _ _ ?_
      refine wp_cond_split (t := (decide (o = (69 : Int)))) (hf.ev rfl) (fun hqt26_1 => ?_) (fun hqt26_1 => ?_)
      · have hqt26_1b := hqt26_1
        try simp only [decide_eq_true_eq, Bool.and_eq_true, Bool.or_eq_true, Bool.not_eq_true', decide_eq_false_iff_not, ne_eq, Bool.not_eq_true] at hqt26_1
        refine wp_seq_k (fun K12 hK12 => ?_)
        refine wp_region_lit ?_
        refine sqv hf (r_move rfl) rfl rfl rfl ?_; clear hf fa; intro fa hf
        refine sqv hf (r_eq rfl rfl) rfl rfl rfl ?_; clear hf fa; intro fa hf
        refine sqdt hf (d_callS (vs := [(.bool (decide (((popK v 32 : Nat) : Int) = (0 : Int))))]) rfl Tryd.func13 (by kernel_rfl) (by kernel_rfl) (rtruth_any (decide (((popK v 32 : Nat) : Int) = (0 : Int))) _)) rfl rfl rfl ?_; clear hf fa; rintro fa _ _ ⟨rfl, rfl⟩ hf
        refine sqv hf (r_assign rfl) rfl rfl rfl ?_; clear hf fa; intro fa hf
        refine sqv hf (r_assign rfl) rfl rfl rfl ?_; clear hf fa; intro fa hf
        apply wpList_nil
        (try simp only [Exit.then, Exit.inBlock, ↓reduceIte, Nat.reduceEqDiff])
        refine hK12 _ _ ?_
        refine wp_ret ?_
        (try simp only [Exit.then, Exit.inBlock])
        refine ret2 hf rfl rfl rfl ?_
        refine ⟨?_, hb⟩; unfold oneP; rw [if_pos hqt26_1]; rw [pop_zero hv]
      · have hqt26_1b := hqt26_1
        replace hqt26_1 := Bool.eq_false_iff.1 hqt26_1
        try simp only [ne_eq, decide_eq_true_eq, Bool.and_eq_true, Bool.or_eq_true, Bool.not_eq_true', decide_eq_false_iff_not] at hqt26_1
        refine wp_seq_k (fun K13 hK13 => ?_)
        refine wp_region_lit ?_
        refine sqv hf (r_eq rfl rfl) rfl rfl rfl ?_; clear hf fa; intro fa hf
        refine sqv hf (r_assign rfl) rfl rfl rfl ?_; clear hf fa; intro fa hf
        apply wpList_nil
        (try simp only [Exit.then, Exit.inBlock, ↓reduceIte, Nat.reduceEqDiff])
        refine hK13 _ _ ?_
        refine wp_cond_split (t := (decide (o = (103 : Int)))) (hf.ev rfl) (fun hqt31_1 => ?_) (fun hqt31_1 => ?_)
        · have hqt31_1b := hqt31_1
          try simp only [decide_eq_true_eq, Bool.and_eq_true, Bool.or_eq_true, Bool.not_eq_true', decide_eq_false_iff_not, ne_eq, Bool.not_eq_true] at hqt31_1
          refine wp_seq_k (fun K14 hK14 => ?_)
          refine wp_seq_k (fun K15 hK15 => ?_)
          skip
          refine wp_region_lit ?_
          refine sqv hf (r_assign rfl) rfl rfl rfl ?_; clear hf fa; intro fa hf
          apply wpList_nil
          (try simp only [Exit.then, Exit.inBlock, ↓reduceIte, Nat.reduceEqDiff])
          refine hK15 _ _ ?_
          refine wp_block ?_
          refine wp_loop_k (fun mq fa wr => ∃ (n : Nat), mq = 32 - n ∧ Fr 66 fa [(7, (.int .u64 ((n : Nat) : Int))), (10, (.int .i64 ((31 : Int) - ((n : Nat) : Int)))), (6, (.slice ra1 ((bitsK v 32).length) rc1))] ∧ Below w.heap.size w wr ∧ Row 1 vBool 4 (w.heap.size) wr (.slice ra1 ((bitsK v 32).length) rc1) (bitsK v 32) ∧ (n ≤ 32) ∧ (∀ j, j < n → v.testBit (31 - j) = false)) ?_ ?_
          · skip
            exact ⟨_, 0, rfl, hf.sub ⟨(some_int (by first | rfl | omega)), (some_int (by first | rfl | omega)), rfl, trivial⟩, hb, hra1, by omega, (fun j hj => absurd hj (by omega))⟩
          · skip
            clear hf fa; intro mq2 fa w3 hI KL2 hKL2
            clear hb
            clear hra1
            obtain ⟨n, hmq2, hf, hb, hra1, hn, Hc⟩ := hI
            have hcra1 := Row.caps hra1
            have hbl := bitsK_length v 32
            refine wp_seq_k (fun K16 hK16 => ?_)
            refine wp_seq_k (fun K17 hK17 => ?_)
            by_cases hsp1 : n < 32
            · have hsp1b : decide (n < 32) = true := decide_eq_true hsp1
              refine wp_region_lit ?_
              refine sqv hf (r_move rfl) rfl rfl rfl ?_; clear hf fa; intro fa hf
              refine sqv hf (Runs.veq (r_ge rfl rfl) (congrArg Value.bool (show _ = true from (decide_eq_true (by omega))))) rfl rfl rfl ?_; clear hf fa; intro fa hf
              refine sqv hf (r_move rfl) rfl rfl rfl ?_; clear hf fa; intro fa hf
              refine sqgd (act := true) (g := 2) (want := true) (ag := true) (c := true) hf (by rfl) (by rfl) rfl (fun _ =>  Runs.does (R := fun vq wq => vq = (.slice ra1 ((bitsK v 32).length) rc1) ∧ w3 = wq) (r_move rfl) ⟨rfl, rfl⟩) (fun h => by cases h) rfl ?_; clear hf fa; rintro fa _ _ ⟨rfl, rfl⟩ hf
              change Fr _ _ ((36, (.slice ra1 ((bitsK v 32).length) rc1)) :: _) at hf
              refine sqgd (act := true) (g := 2) (want := true) (ag := true) (c := true) hf (by rfl) (by rfl) rfl (fun _ =>  Runs.does (R := fun vq wq => vq = (.int .i64 ((31 : Int) - ((n : Nat) : Int))) ∧ w3 = wq) (r_move rfl) ⟨rfl, rfl⟩) (fun h => by cases h) rfl ?_; clear hf fa; rintro fa _ _ ⟨rfl, rfl⟩ hf
              change Fr _ _ ((37, (.int .i64 ((31 : Int) - ((n : Nat) : Int)))) :: _) at hf
              obtain ⟨rb2, rfl, hbbrb2, hlbrb2⟩ := Row.some hra1 (by first | omega | (simp only [bitsK_length, List.length_set, List.length_take, List.length_append, List.length_replicate, List.length_cons, List.length_nil]; omega))
              have hy2 : ((bitsK v 32))[(31 - n)]? = some ((v).testBit (31 - n)) := (bitsK_get (n := v) (k := 32) (i := (31 - n)) (by omega))
              have hel2 := RdS.at (Row.rd (by intros; rfl) hra1) hy2
              obtain ⟨_, _, hab, hlr2, hel2⟩ := hel2
              cases hab
              refine sqgd (act := true) (g := 2) (want := true) (ag := true) (c := true) hf (by rfl) (by rfl) rfl (fun _ =>  Runs.does (R := fun vq wq => vq = (.pointer (some ⟨rb2, (0 + (31 - n) * 1), none⟩)) ∧ w3 = wq) (r_ixa (sz := 1) (j := (31 - n)) rfl rfl Tryd.underlying35 (by kernel_rfl) (by omega) (by omega) rfl) ⟨rfl, rfl⟩) (fun h => by cases h) rfl ?_; clear hf fa; rintro fa _ _ ⟨rfl, rfl⟩ hf
              change Fr _ _ ((38, (.pointer (some ⟨rb2, (0 + (31 - n) * 1), none⟩))) :: _) at hf
              refine sqgd (act := true) (g := 2) (want := true) (ag := true) (c := true) hf (by rfl) (by rfl) rfl (fun _ =>  Runs.does (R := fun vq wq => vq = (.bool ((v).testBit (31 - n))) ∧ w3 = wq) (r_load (v := (.bool ((v).testBit (31 - n)))) rfl Tryd.underlying4 rfl (cellsAt_cell hel2 (i := 0) rfl rfl)) ⟨rfl, rfl⟩) (fun h => by cases h) rfl ?_; clear hf fa; rintro fa _ _ ⟨rfl, rfl⟩ hf
              change Fr _ _ ((39, (.bool ((v).testBit (31 - n)))) :: _) at hf
              refine sqgd (act := true) (g := 2) (want := true) (ag := true) (c := true) hf (by rfl) (by rfl) rfl (fun _ =>  Runs.does (R := fun vq wq => vq = (.bool (!((v).testBit (31 - n)))) ∧ w3 = wq) (r_not rfl) ⟨rfl, rfl⟩) (fun h => by cases h) rfl ?_; clear hf fa; rintro fa _ _ ⟨rfl, rfl⟩ hf
              change Fr _ _ ((40, (.bool (!((v).testBit (31 - n))))) :: _) at hf
              refine sqv hf (r_pick (b := true) rfl rfl rfl rfl) rfl rfl rfl ?_; clear hf fa; intro fa hf
              apply wpList_nil
              (try simp only [Exit.then, Exit.inBlock, ↓reduceIte, Nat.reduceEqDiff])
              refine hK17 _ _ ?_
              refine wp_cond_split (t := (!((v).testBit (31 - n)))) (hf.ev rfl) (fun hqt41_1 => ?_) (fun hqt41_1 => ?_)
              · have hqt41_1b := hqt41_1
                try simp only [decide_eq_true_eq, Bool.and_eq_true, Bool.or_eq_true, Bool.not_eq_true', decide_eq_false_iff_not, ne_eq, Bool.not_eq_true] at hqt41_1
                refine wp_skip ?_
                (try simp only [Exit.then, Exit.inBlock, ↓reduceIte, Nat.reduceEqDiff])
                refine hK16 _ _ ?_
                refine wp_seq_k (fun K18 hK18 => ?_)
                refine wp_block ?_
                refine wp_region_lit ?_
                refine sqv hf (r_move rfl) rfl rfl rfl ?_; clear hf fa; intro fa hf
                refine sqv hf (r_add (C := (((n : Nat) : Int) + (1 : Int))) rfl rfl (by rw [IntKind.wrap_u64]; omega)) rfl rfl rfl ?_; clear hf fa; intro fa hf
                refine sqv hf (r_assign rfl) rfl rfl rfl ?_; clear hf fa; intro fa hf
                apply wpList_nil
                (try simp only [Exit.then, Exit.inBlock, ↓reduceIte, Nat.reduceEqDiff])
                refine hK18 _ _ ?_
                refine wp_region_lit ?_
                refine sqv hf (r_move rfl) rfl rfl rfl ?_; clear hf fa; intro fa hf
                refine sqv hf (r_sub (C := (((31 : Int) - ((n : Nat) : Int)) - (1 : Int))) rfl rfl (by rw [IntKind.wrap_i64]; omega)) rfl rfl rfl ?_; clear hf fa; intro fa hf
                refine sqv hf (r_assign rfl) rfl rfl rfl ?_; clear hf fa; intro fa hf
                apply wpList_nil
                (try simp only [Exit.then, Exit.inBlock, ↓reduceIte, Nat.reduceEqDiff])
                refine hKL2 _ _ _ (by omega) ⟨(n + 1), rfl, hf.sub ⟨(some_int (by first | rfl | omega)), (some_int (by first | rfl | omega)), rfl, trivial⟩, hb, hra1, by omega, (fun j hj => by by_cases he : j = n; (subst he; have h := hqt41_1; simpa using h); exact Hc j (by omega))⟩
              · have hqt41_1b := hqt41_1
                replace hqt41_1 := Bool.eq_false_iff.1 hqt41_1
                try simp only [ne_eq, decide_eq_true_eq, Bool.and_eq_true, Bool.or_eq_true, Bool.not_eq_true', decide_eq_false_iff_not] at hqt41_1
                refine wp_exit ?_
                (try simp only [Exit.then, Exit.inBlock, ↓reduceIte, Nat.reduceEqDiff])
                refine hK14 _ _ ?_
                refine wp_seq_k (fun K19 hK19 => ?_)
                refine wp_region_lit ?_
                refine sqv hf (r_move rfl) rfl rfl rfl ?_; clear hf fa; intro fa hf
                refine sqv hf (r_assign rfl) rfl rfl rfl ?_; clear hf fa; intro fa hf
                refine sqv hf (r_assign rfl) rfl rfl rfl ?_; clear hf fa; intro fa hf
                apply wpList_nil
                (try simp only [Exit.then, Exit.inBlock, ↓reduceIte, Nat.reduceEqDiff])
                refine hK19 _ _ ?_
                refine wp_ret ?_
                (try simp only [Exit.then, Exit.inBlock])
                refine ret2 hf rfl rfl rfl ?_
                have hce := clz_eq hv Hc hn (fun _ => by have h := hqt41_1; simpa using h)
                refine ⟨?_, hb⟩; unfold oneP; rw [if_neg hqt26_1, if_pos hqt31_1]; rw [show ((n : Nat) : Int) = 32 - ((lenN v : Nat) : Int) by omega]
            · have hsp1b : decide (n < 32) = false := decide_eq_false hsp1
              refine wp_region_lit ?_
              refine sqv hf (r_move rfl) rfl rfl rfl ?_; clear hf fa; intro fa hf
              refine sqv hf (Runs.veq (r_ge rfl rfl) (congrArg Value.bool (show _ = false from (decide_eq_false (by omega))))) rfl rfl rfl ?_; clear hf fa; intro fa hf
              refine sqv hf (r_move rfl) rfl rfl rfl ?_; clear hf fa; intro fa hf
              refine sqgT (act := false) (ag := true) (c := false) (v := .bool false) hf rfl rfl rfl (fun hact => by cases hact) rfl rfl ?_; clear hf fa; intro fa hf
              refine sqgT (act := false) (ag := true) (c := false) (v := .bool false) hf rfl rfl rfl (fun hact => by cases hact) rfl rfl ?_; clear hf fa; intro fa hf
              refine sqgT (act := false) (ag := true) (c := false) (v := .bool false) hf rfl rfl rfl (fun hact => by cases hact) rfl rfl ?_; clear hf fa; intro fa hf
              refine sqgT (act := false) (ag := true) (c := false) (v := .bool false) hf rfl rfl rfl (fun hact => by cases hact) rfl rfl ?_; clear hf fa; intro fa hf
              refine sqgT (act := false) (ag := true) (c := false) (v := .bool false) hf rfl rfl rfl (fun hact => by cases hact) rfl rfl ?_; clear hf fa; intro fa hf
              refine sqv hf (r_pick (b := false) rfl rfl rfl rfl) rfl rfl rfl ?_; clear hf fa; intro fa hf
              apply wpList_nil
              (try simp only [Exit.then, Exit.inBlock, ↓reduceIte, Nat.reduceEqDiff])
              refine hK17 _ _ ?_
              refine wp_cond_false (hf.ev rfl) ?_
              refine wp_exit ?_
              (try simp only [Exit.then, Exit.inBlock, ↓reduceIte, Nat.reduceEqDiff])
              refine hK14 _ _ ?_
              refine wp_seq_k (fun K20 hK20 => ?_)
              refine wp_region_lit ?_
              refine sqv hf (r_move rfl) rfl rfl rfl ?_; clear hf fa; intro fa hf
              refine sqv hf (r_assign rfl) rfl rfl rfl ?_; clear hf fa; intro fa hf
              refine sqv hf (r_assign rfl) rfl rfl rfl ?_; clear hf fa; intro fa hf
              apply wpList_nil
              (try simp only [Exit.then, Exit.inBlock, ↓reduceIte, Nat.reduceEqDiff])
              refine hK20 _ _ ?_
              refine wp_ret ?_
              (try simp only [Exit.then, Exit.inBlock])
              refine ret2 hf rfl rfl rfl ?_
              have hce := clz_eq hv Hc hn (fun h => absurd h (by omega))
              refine ⟨?_, hb⟩; unfold oneP; rw [if_neg hqt26_1, if_pos hqt31_1]; rw [show ((n : Nat) : Int) = 32 - ((lenN v : Nat) : Int) by omega]
        · have hqt31_1b := hqt31_1
          replace hqt31_1 := Bool.eq_false_iff.1 hqt31_1
          try simp only [ne_eq, decide_eq_true_eq, Bool.and_eq_true, Bool.or_eq_true, Bool.not_eq_true', decide_eq_false_iff_not] at hqt31_1
          refine wp_seq_k (fun K21 hK21 => ?_)
          refine wp_region_lit ?_
          refine sqv hf (r_eq rfl rfl) rfl rfl rfl ?_; clear hf fa; intro fa hf
          refine sqv hf (r_assign rfl) rfl rfl rfl ?_; clear hf fa; intro fa hf
          apply wpList_nil
          (try simp only [Exit.then, Exit.inBlock, ↓reduceIte, Nat.reduceEqDiff])
          refine hK21 _ _ ?_
          refine wp_cond_split (t := (decide (o = (104 : Int)))) (hf.ev rfl) (fun hqt47_1 => ?_) (fun hqt47_1 => ?_)
          · have hqt47_1b := hqt47_1
            try simp only [decide_eq_true_eq, Bool.and_eq_true, Bool.or_eq_true, Bool.not_eq_true', decide_eq_false_iff_not, ne_eq, Bool.not_eq_true] at hqt47_1
            refine wp_seq_k (fun K22 hK22 => ?_)
            refine wp_seq_k (fun K23 hK23 => ?_)
            skip
            refine wp_region_lit ?_
            refine sqv hf (r_assign rfl) rfl rfl rfl ?_; clear hf fa; intro fa hf
            apply wpList_nil
            (try simp only [Exit.then, Exit.inBlock, ↓reduceIte, Nat.reduceEqDiff])
            refine hK23 _ _ ?_
            refine wp_block ?_
            refine wp_loop_k (fun mq fa wr => ∃ (n : Nat), mq = 32 - n ∧ Fr 66 fa [(7, (.int .u64 ((n : Nat) : Int))), (11, (.int .i64 ((n : Nat) : Int))), (6, (.slice ra1 ((bitsK v 32).length) rc1))] ∧ Below w.heap.size w wr ∧ Row 1 vBool 4 (w.heap.size) wr (.slice ra1 ((bitsK v 32).length) rc1) (bitsK v 32) ∧ (n ≤ 32) ∧ (ctzN v = ctzR v (32 - n) n)) ?_ ?_
            · skip
              exact ⟨_, 0, rfl, hf.sub ⟨(some_int (by first | rfl | omega)), (some_int (by first | rfl | omega)), rfl, trivial⟩, hb, hra1, by omega, rfl⟩
            · skip
              clear hf fa; intro mq3 fa w4 hI KL3 hKL3
              clear hb
              clear hra1
              obtain ⟨n, hmq3, hf, hb, hra1, hn, Hc⟩ := hI
              have hcra1 := Row.caps hra1
              have hbl := bitsK_length v 32
              refine wp_seq_k (fun K24 hK24 => ?_)
              refine wp_seq_k (fun K25 hK25 => ?_)
              by_cases hsp2 : n < 32
              · have hsp2b : decide (n < 32) = true := decide_eq_true hsp2
                refine wp_region_lit ?_
                refine sqv hf (r_move rfl) rfl rfl rfl ?_; clear hf fa; intro fa hf
                refine sqv hf (Runs.veq (r_lt rfl rfl) (congrArg Value.bool (show _ = true from (decide_eq_true (by omega))))) rfl rfl rfl ?_; clear hf fa; intro fa hf
                refine sqv hf (r_move rfl) rfl rfl rfl ?_; clear hf fa; intro fa hf
                refine sqgd (act := true) (g := 2) (want := true) (ag := true) (c := true) hf (by rfl) (by rfl) rfl (fun _ =>  Runs.does (R := fun vq wq => vq = (.slice ra1 ((bitsK v 32).length) rc1) ∧ w4 = wq) (r_move rfl) ⟨rfl, rfl⟩) (fun h => by cases h) rfl ?_; clear hf fa; rintro fa _ _ ⟨rfl, rfl⟩ hf
                change Fr _ _ ((52, (.slice ra1 ((bitsK v 32).length) rc1)) :: _) at hf
                refine sqgd (act := true) (g := 2) (want := true) (ag := true) (c := true) hf (by rfl) (by rfl) rfl (fun _ =>  Runs.does (R := fun vq wq => vq = (.int .i64 ((n : Nat) : Int)) ∧ w4 = wq) (r_move rfl) ⟨rfl, rfl⟩) (fun h => by cases h) rfl ?_; clear hf fa; rintro fa _ _ ⟨rfl, rfl⟩ hf
                change Fr _ _ ((53, (.int .i64 ((n : Nat) : Int))) :: _) at hf
                obtain ⟨rb3, rfl, hbbrb3, hlbrb3⟩ := Row.some hra1 (by first | omega | (simp only [bitsK_length, List.length_set, List.length_take, List.length_append, List.length_replicate, List.length_cons, List.length_nil]; omega))
                have hy3 : ((bitsK v 32))[n]? = some ((v).testBit n) := (bitsK_get (n := v) (k := 32) (i := n) (by omega))
                have hel3 := RdS.at (Row.rd (by intros; rfl) hra1) hy3
                obtain ⟨_, _, hab, hlr3, hel3⟩ := hel3
                cases hab
                refine sqgd (act := true) (g := 2) (want := true) (ag := true) (c := true) hf (by rfl) (by rfl) rfl (fun _ =>  Runs.does (R := fun vq wq => vq = (.pointer (some ⟨rb3, (0 + n * 1), none⟩)) ∧ w4 = wq) (r_ixa (sz := 1) (j := n) rfl rfl Tryd.underlying35 (by kernel_rfl) rfl (by omega) rfl) ⟨rfl, rfl⟩) (fun h => by cases h) rfl ?_; clear hf fa; rintro fa _ _ ⟨rfl, rfl⟩ hf
                change Fr _ _ ((54, (.pointer (some ⟨rb3, (0 + n * 1), none⟩))) :: _) at hf
                refine sqgd (act := true) (g := 2) (want := true) (ag := true) (c := true) hf (by rfl) (by rfl) rfl (fun _ =>  Runs.does (R := fun vq wq => vq = (.bool ((v).testBit n)) ∧ w4 = wq) (r_load (v := (.bool ((v).testBit n))) rfl Tryd.underlying4 rfl (cellsAt_cell hel3 (i := 0) rfl rfl)) ⟨rfl, rfl⟩) (fun h => by cases h) rfl ?_; clear hf fa; rintro fa _ _ ⟨rfl, rfl⟩ hf
                change Fr _ _ ((55, (.bool ((v).testBit n))) :: _) at hf
                refine sqgd (act := true) (g := 2) (want := true) (ag := true) (c := true) hf (by rfl) (by rfl) rfl (fun _ =>  Runs.does (R := fun vq wq => vq = (.bool (!((v).testBit n))) ∧ w4 = wq) (r_not rfl) ⟨rfl, rfl⟩) (fun h => by cases h) rfl ?_; clear hf fa; rintro fa _ _ ⟨rfl, rfl⟩ hf
                change Fr _ _ ((56, (.bool (!((v).testBit n)))) :: _) at hf
                refine sqv hf (r_pick (b := true) rfl rfl rfl rfl) rfl rfl rfl ?_; clear hf fa; intro fa hf
                apply wpList_nil
                (try simp only [Exit.then, Exit.inBlock, ↓reduceIte, Nat.reduceEqDiff])
                refine hK25 _ _ ?_
                refine wp_cond_split (t := (!((v).testBit n))) (hf.ev rfl) (fun hqt57_1 => ?_) (fun hqt57_1 => ?_)
                · have hqt57_1b := hqt57_1
                  try simp only [decide_eq_true_eq, Bool.and_eq_true, Bool.or_eq_true, Bool.not_eq_true', decide_eq_false_iff_not, ne_eq, Bool.not_eq_true] at hqt57_1
                  refine wp_skip ?_
                  (try simp only [Exit.then, Exit.inBlock, ↓reduceIte, Nat.reduceEqDiff])
                  refine hK24 _ _ ?_
                  refine wp_seq_k (fun K26 hK26 => ?_)
                  refine wp_block ?_
                  refine wp_region_lit ?_
                  refine sqv hf (r_move rfl) rfl rfl rfl ?_; clear hf fa; intro fa hf
                  refine sqv hf (r_add (C := (((n : Nat) : Int) + (1 : Int))) rfl rfl (by rw [IntKind.wrap_u64]; omega)) rfl rfl rfl ?_; clear hf fa; intro fa hf
                  refine sqv hf (r_assign rfl) rfl rfl rfl ?_; clear hf fa; intro fa hf
                  apply wpList_nil
                  (try simp only [Exit.then, Exit.inBlock, ↓reduceIte, Nat.reduceEqDiff])
                  refine hK26 _ _ ?_
                  refine wp_region_lit ?_
                  refine sqv hf (r_move rfl) rfl rfl rfl ?_; clear hf fa; intro fa hf
                  refine sqv hf (r_add (C := (((n : Nat) : Int) + (1 : Int))) rfl rfl (by rw [IntKind.wrap_i64]; omega)) rfl rfl rfl ?_; clear hf fa; intro fa hf
                  refine sqv hf (r_assign rfl) rfl rfl rfl ?_; clear hf fa; intro fa hf
                  apply wpList_nil
                  (try simp only [Exit.then, Exit.inBlock, ↓reduceIte, Nat.reduceEqDiff])
                  refine hKL3 _ _ _ (by omega) ⟨(n + 1), rfl, hf.sub ⟨(some_int (by first | rfl | omega)), (some_int (by first | rfl | omega)), rfl, trivial⟩, hb, hra1, by omega, (by rw [Hc, show 32 - n = (32 - (n + 1)) + 1 by omega, ctzR, if_neg (by have h := hqt57_1; simpa using h)])⟩
                · have hqt57_1b := hqt57_1
                  replace hqt57_1 := Bool.eq_false_iff.1 hqt57_1
                  try simp only [ne_eq, decide_eq_true_eq, Bool.and_eq_true, Bool.or_eq_true, Bool.not_eq_true', decide_eq_false_iff_not] at hqt57_1
                  refine wp_exit ?_
                  (try simp only [Exit.then, Exit.inBlock, ↓reduceIte, Nat.reduceEqDiff])
                  refine hK22 _ _ ?_
                  refine wp_seq_k (fun K27 hK27 => ?_)
                  refine wp_region_lit ?_
                  refine sqv hf (r_move rfl) rfl rfl rfl ?_; clear hf fa; intro fa hf
                  refine sqv hf (r_assign rfl) rfl rfl rfl ?_; clear hf fa; intro fa hf
                  refine sqv hf (r_assign rfl) rfl rfl rfl ?_; clear hf fa; intro fa hf
                  apply wpList_nil
                  (try simp only [Exit.then, Exit.inBlock, ↓reduceIte, Nat.reduceEqDiff])
                  refine hK27 _ _ ?_
                  refine wp_ret ?_
                  (try simp only [Exit.then, Exit.inBlock])
                  refine ret2 hf rfl rfl rfl ?_
                  have hce : ctzN v = n := by rw [Hc, show 32 - n = (32 - (n + 1)) + 1 by omega, ctzR, if_pos (by have h := hqt57_1; simpa using h)]
                  refine ⟨?_, hb⟩; unfold oneP; rw [if_neg hqt26_1, if_neg hqt31_1, if_pos hqt47_1]; rw [hce]
              · have hsp2b : decide (n < 32) = false := decide_eq_false hsp2
                refine wp_region_lit ?_
                refine sqv hf (r_move rfl) rfl rfl rfl ?_; clear hf fa; intro fa hf
                refine sqv hf (Runs.veq (r_lt rfl rfl) (congrArg Value.bool (show _ = false from (decide_eq_false (by omega))))) rfl rfl rfl ?_; clear hf fa; intro fa hf
                refine sqv hf (r_move rfl) rfl rfl rfl ?_; clear hf fa; intro fa hf
                refine sqgT (act := false) (ag := true) (c := false) (v := .bool false) hf rfl rfl rfl (fun hact => by cases hact) rfl rfl ?_; clear hf fa; intro fa hf
                refine sqgT (act := false) (ag := true) (c := false) (v := .bool false) hf rfl rfl rfl (fun hact => by cases hact) rfl rfl ?_; clear hf fa; intro fa hf
                refine sqgT (act := false) (ag := true) (c := false) (v := .bool false) hf rfl rfl rfl (fun hact => by cases hact) rfl rfl ?_; clear hf fa; intro fa hf
                refine sqgT (act := false) (ag := true) (c := false) (v := .bool false) hf rfl rfl rfl (fun hact => by cases hact) rfl rfl ?_; clear hf fa; intro fa hf
                refine sqgT (act := false) (ag := true) (c := false) (v := .bool false) hf rfl rfl rfl (fun hact => by cases hact) rfl rfl ?_; clear hf fa; intro fa hf
                refine sqv hf (r_pick (b := false) rfl rfl rfl rfl) rfl rfl rfl ?_; clear hf fa; intro fa hf
                apply wpList_nil
                (try simp only [Exit.then, Exit.inBlock, ↓reduceIte, Nat.reduceEqDiff])
                refine hK25 _ _ ?_
                refine wp_cond_false (hf.ev rfl) ?_
                refine wp_exit ?_
                (try simp only [Exit.then, Exit.inBlock, ↓reduceIte, Nat.reduceEqDiff])
                refine hK22 _ _ ?_
                refine wp_seq_k (fun K28 hK28 => ?_)
                refine wp_region_lit ?_
                refine sqv hf (r_move rfl) rfl rfl rfl ?_; clear hf fa; intro fa hf
                refine sqv hf (r_assign rfl) rfl rfl rfl ?_; clear hf fa; intro fa hf
                refine sqv hf (r_assign rfl) rfl rfl rfl ?_; clear hf fa; intro fa hf
                apply wpList_nil
                (try simp only [Exit.then, Exit.inBlock, ↓reduceIte, Nat.reduceEqDiff])
                refine hK28 _ _ ?_
                refine wp_ret ?_
                (try simp only [Exit.then, Exit.inBlock])
                refine ret2 hf rfl rfl rfl ?_
                have hce : ctzN v = n := by rw [Hc, show 32 - n = 0 by omega, ctzR]
                refine ⟨?_, hb⟩; unfold oneP; rw [if_neg hqt26_1, if_neg hqt31_1, if_pos hqt47_1]; rw [hce]
          · have hqt47_1b := hqt47_1
            replace hqt47_1 := Bool.eq_false_iff.1 hqt47_1
            try simp only [ne_eq, decide_eq_true_eq, Bool.and_eq_true, Bool.or_eq_true, Bool.not_eq_true', decide_eq_false_iff_not] at hqt47_1
            refine wp_seq_k (fun K29 hK29 => ?_)
            refine wp_region_lit ?_
            refine sqv hf (r_eq rfl rfl) rfl rfl rfl ?_; clear hf fa; intro fa hf
            refine sqv hf (r_assign rfl) rfl rfl rfl ?_; clear hf fa; intro fa hf
            apply wpList_nil
            (try simp only [Exit.then, Exit.inBlock, ↓reduceIte, Nat.reduceEqDiff])
            refine hK29 _ _ ?_
            refine wp_cond_split (t := (decide (o = (105 : Int)))) (hf.ev rfl) (fun hqt63_1 => ?_) (fun hqt63_1 => ?_)
            · have hqt63_1b := hqt63_1
              try simp only [decide_eq_true_eq, Bool.and_eq_true, Bool.or_eq_true, Bool.not_eq_true', decide_eq_false_iff_not, ne_eq, Bool.not_eq_true] at hqt63_1
              refine wp_seq_k (fun K30 hK30 => ?_)
              refine wp_region_lit ?_
              refine sqv hf (r_move rfl) rfl rfl rfl ?_; clear hf fa; intro fa hf
              refine sqv hf (r_assign rfl) rfl rfl rfl ?_; clear hf fa; intro fa hf
              refine sqv hf (r_assign rfl) rfl rfl rfl ?_; clear hf fa; intro fa hf
              apply wpList_nil
              (try simp only [Exit.then, Exit.inBlock, ↓reduceIte, Nat.reduceEqDiff])
              refine hK30 _ _ ?_
              refine wp_ret ?_
              (try simp only [Exit.then, Exit.inBlock])
              refine ret2 hf rfl rfl rfl ?_
              refine ⟨?_, hb⟩; unfold oneP; rw [if_neg hqt26_1, if_neg hqt31_1, if_neg hqt47_1, if_pos hqt63_1]
            · have hqt63_1b := hqt63_1
              replace hqt63_1 := Bool.eq_false_iff.1 hqt63_1
              try simp only [ne_eq, decide_eq_true_eq, Bool.and_eq_true, Bool.or_eq_true, Bool.not_eq_true', decide_eq_false_iff_not] at hqt63_1
              refine wp_skip ?_
              (try simp only [Exit.then, Exit.inBlock, ↓reduceIte, Nat.reduceEqDiff])
              refine hK9 _ _ ?_
              refine wp_seq_k (fun K31 hK31 => ?_)
              refine wp_region_lit ?_
              refine sqv hf (r_assign rfl) rfl rfl rfl ?_; clear hf fa; intro fa hf
              refine sqv hf (r_assign rfl) rfl rfl rfl ?_; clear hf fa; intro fa hf
              apply wpList_nil
              (try simp only [Exit.then, Exit.inBlock, ↓reduceIte, Nat.reduceEqDiff])
              refine hK31 _ _ ?_
              refine wp_ret ?_
              (try simp only [Exit.then, Exit.inBlock])
              refine ret2 hf rfl rfl rfl ?_
              refine ⟨?_, hb⟩; unfold oneP; rw [if_neg hqt26_1, if_neg hqt31_1, if_neg hqt47_1, if_neg hqt63_1]

set_option maxRecDepth 100000 in
theorem awake18_any (w : World) : Calls Tryd.prog 4 #[] w fun e w' => e = .returned (.bool true) ∧ w = w' := by
  go_enter Tryd.func4, Tryd.ntmps4
  go_wp2_with fail
  refine (two_109 4294967289 2 _ (by decide) (by decide)).mono ?_
  rintro e w' ⟨rfl, rfl⟩
  rw [show quoF 4294967289 2 = (4294967293, 0) from by decide +kernel]
  go_wp2_with fail
  refine (two_111 4294967289 2 _ (by decide) (by decide)).mono ?_
  rintro e w' ⟨rfl, rfl⟩
  rw [show remF 4294967289 2 = (4294967295, 0) from by decide +kernel]
  go_wp2
  go_ret
  exact ⟨rfl, rfl⟩
theorem oneP_bd (o : Int) {v : Nat} (hv : v < 4294967296) : 0 ≤ (oneP o v).1 ∧ (oneP o v).1 < 4294967296 := by
  have h1 := lenN_le hv; have h2 := ctz_le v; have h3 := popK_le v 32; have h4 := tz_le (decide (v = 0))
  unfold oneP
  split
  · exact ⟨by show (0 : Int) ≤ tz _; omega, by show tz _ < (4294967296 : Int); omega⟩
  · split
    · exact ⟨by show (0 : Int) ≤ 32 - (lenN v : Int); omega, by show 32 - (lenN v : Int) < (4294967296 : Int); omega⟩
    · split
      · exact ⟨by show (0 : Int) ≤ (ctzN v : Int); omega, by show (ctzN v : Int) < (4294967296 : Int); omega⟩
      · split
        · exact ⟨by show (0 : Int) ≤ (popK v 32 : Int); omega, by show (popK v 32 : Int) < (4294967296 : Int); omega⟩
        · exact ⟨by decide, by decide⟩

set_option maxHeartbeats 1000000 in
set_option maxRecDepth 100000 in
theorem aluOne_any (o : Int) (v : Nat) (w : World) (hv : v < 4294967296) (ho : 0 ≤ o ∧ o < 256) (hT : RdS 1 (vInt .u8) w (some ⟨0, 0, none⟩) tab32) : Calls Tryd.prog 3 #[(.int .u8 o), (.int .u32 ((v : Nat) : Int))] w fun e w' => e = .returned (.bool true) ∧ Below w.heap.size w w' := by
  have hbd := oneP_bd o hv
  refine sx_enter (L := [(0, (.int .u8 o)), (1, (.int .u32 ((v : Nat) : Int)))]) Tryd.func3 rfl rfl rfl rfl (fun fa hf => ?_)
  have hb : Below w.heap.size w w := Below.refl _ _
  refine wp_seq_k (fun K1 hK1 => ?_)
  refine wp_region_lit ?_
  refine sqv hf (r_assign rfl) rfl rfl rfl ?_; clear hf fa; intro fa hf
  apply wpList_nil
  (try simp only [Exit.then, Exit.inBlock, ↓reduceIte, Nat.reduceEqDiff])
  refine hK1 _ _ ?_
  refine wp_seq_k (fun K2 hK2 => ?_)
  refine wp_seq_k (fun K3 hK3 => ?_)
  refine wp_region_lit ?_
  refine sqdt hf (d_callS (vs := []) rfl Tryd.func4 (by kernel_rfl) (by kernel_rfl) (awake18_any _)) rfl rfl rfl ?_; clear hf fa; rintro fa _ _ ⟨rfl, rfl⟩ hf
  refine sqv hf (Runs.veq (v' := (.bool false)) (r_not rfl) rfl) rfl rfl rfl ?_; clear hf fa; intro fa hf
  apply wpList_nil
  (try simp only [Exit.then, Exit.inBlock, ↓reduceIte, Nat.reduceEqDiff])
  refine hK3 _ _ ?_
  refine wp_cond_false (hf.ev rfl) ?_
  refine wp_skip ?_
  (try simp only [Exit.then, Exit.inBlock, ↓reduceIte, Nat.reduceEqDiff])
  refine hK2 _ _ ?_
  refine wp_seq_k (fun K4 hK4 => ?_)
  refine wp_region_lit ?_
  refine sqv hf (r_move rfl) rfl rfl rfl ?_; clear hf fa; intro fa hf
  refine sqv hf (r_move rfl) rfl rfl rfl ?_; clear hf fa; intro fa hf
  refine sqdt hf (d_callB (vs := [(.int .u8 o), (.int .u32 ((v : Nat) : Int))]) rfl Tryd.func5 (by kernel_rfl) (by kernel_rfl) (one_any o v _ hv hT)) rfl rfl rfl ?_; clear hf fa; rintro fa _ w1 ⟨rfl, he1⟩ hf
  replace hb := hb.trans (Below.mono he1 hb.size)
  refine sqv hf (r_move rfl) rfl rfl rfl ?_; clear hf fa; intro fa hf
  refine sqv hf (r_extract rfl (i := 0) rfl) rfl rfl rfl ?_; clear hf fa; intro fa hf
  refine sqv hf (r_extract rfl (i := 1) rfl) rfl rfl rfl ?_; clear hf fa; intro fa hf
  refine sqv hf (r_assign rfl) rfl rfl rfl ?_; clear hf fa; intro fa hf
  refine sqv hf (r_assign rfl) rfl rfl rfl ?_; clear hf fa; intro fa hf
  apply wpList_nil
  (try simp only [Exit.then, Exit.inBlock, ↓reduceIte, Nat.reduceEqDiff])
  refine hK4 _ _ ?_
  refine wp_seq_k (fun K5 hK5 => ?_)
  refine wp_region_lit ?_
  refine sqv hf (r_move rfl) rfl rfl rfl ?_; clear hf fa; intro fa hf
  refine sqv hf (r_conv (C := o) rfl Tryd.underlying5 Tryd.underlying3 (by rw [IntKind.wrap_i64]; omega)) rfl rfl rfl ?_; clear hf fa; intro fa hf
  refine sqv hf (r_move rfl) rfl rfl rfl ?_; clear hf fa; intro fa hf
  refine sqv hf (r_conv (C := ((v : Nat) : Int)) rfl Tryd.underlying22 Tryd.underlying26 (by rw [IntKind.wrap_u64]; omega)) rfl rfl rfl ?_; clear hf fa; intro fa hf
  refine sqdt hf (d_callB (vs := [(.int .i64 o), (.int .u64 ((v : Nat) : Int))]) rfl Tryd.func6 (by kernel_rfl) (by kernel_rfl) (rone_any o v _ hv)) rfl rfl rfl ?_; clear hf fa; rintro fa _ w2 ⟨rfl, he2⟩ hf
  replace hb := hb.trans (Below.mono he2 hb.size)
  refine sqv hf (r_move rfl) rfl rfl rfl ?_; clear hf fa; intro fa hf
  refine sqv hf (r_extract rfl (i := 0) rfl) rfl rfl rfl ?_; clear hf fa; intro fa hf
  refine sqv hf (r_extract rfl (i := 1) rfl) rfl rfl rfl ?_; clear hf fa; intro fa hf
  refine sqv hf (r_assign rfl) rfl rfl rfl ?_; clear hf fa; intro fa hf
  refine sqv hf (r_assign rfl) rfl rfl rfl ?_; clear hf fa; intro fa hf
  apply wpList_nil
  (try simp only [Exit.then, Exit.inBlock, ↓reduceIte, Nat.reduceEqDiff])
  refine hK5 _ _ ?_
  refine wp_seq_k (fun K6 hK6 => ?_)
  refine wp_region_lit ?_
  refine sqv hf (r_move rfl) rfl rfl rfl ?_; clear hf fa; intro fa hf
  refine sqv hf (r_conv (C := ((oneP o v).1)) rfl Tryd.underlying22 Tryd.underlying26 (by rw [IntKind.wrap_u64]; omega)) rfl rfl rfl ?_; clear hf fa; intro fa hf
  refine sqv hf (r_move rfl) rfl rfl rfl ?_; clear hf fa; intro fa hf
  refine sqv hf (r_eq rfl rfl) rfl rfl rfl ?_; clear hf fa; intro fa hf
  refine sqv hf (r_move rfl) rfl rfl rfl ?_; clear hf fa; intro fa hf
  refine sqgT (act := (decide (((oneP o v).1) = ((oneP o v).1)))) (ag := true) (c := (decide (((oneP o v).1) = ((oneP o v).1)))) (v := (.bool (oneP o v).2)) hf rfl rfl rfl (fun hact => (r_move rfl)) rfl rfl ?_; clear hf fa; intro fa hf
  refine sqgT (act := (decide (((oneP o v).1) = ((oneP o v).1)))) (ag := true) (c := (decide (((oneP o v).1) = ((oneP o v).1)))) (v := (.bool (oneP o v).2)) hf rfl rfl rfl (fun hact => (r_move rfl)) rfl rfl ?_; clear hf fa; intro fa hf
  refine sqgT (act := (decide (((oneP o v).1) = ((oneP o v).1)))) (ag := true) (c := (decide (((oneP o v).1) = ((oneP o v).1)))) (v := (.bool ((oneP o v).2 == (oneP o v).2))) hf rfl rfl rfl (fun hact => (r_beq Tryd.underlying4 (gb_ev hact rfl) (gb_ev hact rfl))) rfl rfl ?_; clear hf fa; intro fa hf
  refine sqv hf (r_pickA (b := (decide (((oneP o v).1) = ((oneP o v).1)))) (e := ((oneP o v).2 == (oneP o v).2)) rfl rfl rfl) rfl rfl rfl ?_; clear hf fa; intro fa hf
  refine sqv hf (r_assign rfl) rfl rfl rfl ?_; clear hf fa; intro fa hf
  apply wpList_nil
  (try simp only [Exit.then, Exit.inBlock, ↓reduceIte, Nat.reduceEqDiff])
  refine hK6 _ _ ?_
  refine wp_ret ?_
  (try simp only [Exit.then, Exit.inBlock])
  refine ret1 hf rfl rfl ?_
  refine ⟨congrArg (fun b => Ending.returned (.bool b)) ?_, hb⟩; simp
end Go.Proofs.YtahgkfekggkjnaaDoor
