/- What is proved here: products, quotients and comparisons of the document's bits. -/
import Derived.Test.YtahgkfekggkjnaaAlD
namespace Go.Proofs.Ytahgkfekggkjnaa
open Go.RowKit
set_option linter.unusedVariables false
set_option linter.unusedSimpArgs false
set_option maxHeartbeats 1000000 in
set_option maxRecDepth 100000 in
theorem rtimes_any (A B : Nat) (a1 : Option Addr) (n1 c1 : Nat) (a2 : Option Addr) (n2 c2 : Nat) (w : World) (hA : A < 4294967296) (hB : B < 4294967296) (h1 : RdS 1 vBool w a1 (bitsK A 32)) (e1 : n1 = 32) (h2 : RdS 1 vBool w a2 (bitsK B 32)) (e2 : n2 = 32) : Calls Try.prog 85 #[(.slice a1 n1 c1), (.slice a2 n2 c2)] w fun e w' => ∃ v, e = .returned v ∧ Row 1 vBool 4 w.heap.size w' v (bitsK (A * B % 4294967296) 32) ∧ Below w.heap.size w w' := by
  refine sx_enter (L := [(0, (.slice a1 n1 c1)), (1, (.slice a2 n2 c2))]) Try.func85 rfl rfl rfl rfl (fun fa hf => ?_)
  have hb : Below w.heap.size w w := Below.refl _ _
  refine wp_seq_k (fun K1 hK1 => ?_)
  refine wp_region_lit ?_
  refine sqv hf (r_assign rfl) rfl rfl rfl ?_; clear hf fa; intro fa hf
  apply wpList_nil
  (try simp only [Exit.then, Exit.inBlock, ↓reduceIte, Nat.reduceEqDiff])
  refine hK1 _ _ ?_
  refine wp_seq_k (fun K2 hK2 => ?_)
  refine wp_region_lit ?_
  refine sqdt hf (d_make (V := vBool) (bytes := 1) (z := (.bool false)) (n := 32) (zr := false) rfl rfl Try.underlying162 (by kernel_rfl) rfl (by intros; rfl) (by omega) (by unfold maxLen; omega)) rfl rfl rfl ?_; clear hf fa; rintro fa _ w1 ⟨mb1, rfl, hle1, hr1, he1⟩ hf
  have hBmb1 : w.heap.size ≤ mb1 := Nat.le_trans hb.size hle1
  replace hr1 := Row.rebase hr1 hb.size
  replace hb := hb.trans (Below.mono he1 hb.size)
  skip
  refine sqv hf (r_assign rfl) rfl rfl rfl ?_; clear hf fa; intro fa hf
  apply wpList_nil
  (try simp only [Exit.then, Exit.inBlock, ↓reduceIte, Nat.reduceEqDiff])
  refine hK2 _ _ ?_
  refine wp_seq_k (fun K3 hK3 => ?_)
  refine wp_seq_k (fun K4 hK4 => ?_)
  replace hr1 := Row.to hr1 (bits_zeros (n := (A * (B % 2 ^ 0)) % 4294967296) (by simp [Nat.mod_one]))
  refine wp_region_lit ?_
  refine sqv hf (r_assign rfl) rfl rfl rfl ?_; clear hf fa; intro fa hf
  apply wpList_nil
  (try simp only [Exit.then, Exit.inBlock, ↓reduceIte, Nat.reduceEqDiff])
  refine hK4 _ _ ?_
  refine wp_block ?_
  refine wp_loop_k (fun m fa wr => ∃ (i : Nat) (rwa : Option Addr) (rwc : Nat), m = 32 - i ∧ Fr 22 fa [(0, (.slice a1 n1 c1)), (1, (.slice a2 n2 c2)), (6, (.int .i64 ((i : Nat) : Int))), (5, (.slice rwa (((bitsK ((A * (B % 2 ^ i)) % 4294967296) 32)).length) rwc))] ∧ Below w.heap.size w wr ∧ Row 1 vBool 4 (w.heap.size) wr (.slice rwa (((bitsK ((A * (B % 2 ^ i)) % 4294967296) 32)).length) rwc) (bitsK ((A * (B % 2 ^ i)) % 4294967296) 32) ∧ (i ≤ 32)) ?_ ?_
  · skip
    exact ⟨_, 0, (some ⟨mb1, 0, none⟩), 32, rfl, hf.sub ⟨rfl, rfl, (some_int (by first | rfl | omega)), (some_sl (by simp <;> omega) rfl), trivial⟩, hb, (Row.relen hr1), by omega⟩
  · skip
    clear hf fa; intro m1 fa w2 hI KL1 hKL1
    clear hb
    clear hr1
    obtain ⟨i, rwa, rwc, hm1, hf, hb, hrw, hi⟩ := hI
    have hcrw := Row.caps hrw
    have hbl0 : (bitsK ((A * (B % 2 ^ i)) % 4294967296) 32).length = 32 := bitsK_length _ _
    refine wp_seq_k (fun K5 hK5 => ?_)
    refine wp_seq_k (fun K6 hK6 => ?_)
    refine wp_region_lit ?_
    refine sqv hf (r_move rfl) rfl rfl rfl ?_; clear hf fa; intro fa hf
    refine sqv hf (r_lt rfl rfl) rfl rfl rfl ?_; clear hf fa; intro fa hf
    apply wpList_nil
    (try simp only [Exit.then, Exit.inBlock, ↓reduceIte, Nat.reduceEqDiff])
    refine hK6 _ _ ?_
    refine wp_cond_split (t := (decide (((i : Nat) : Int) < (32 : Int)))) (hf.ev rfl) (fun hqt9_1 => ?_) (fun hqt9_1 => ?_)
    · have hqt9_1b := hqt9_1
      try simp only [decide_eq_true_eq, Bool.and_eq_true, Bool.or_eq_true, Bool.not_eq_true', decide_eq_false_iff_not, ne_eq, Bool.not_eq_true] at hqt9_1
      refine wp_skip ?_
      (try simp only [Exit.then, Exit.inBlock, ↓reduceIte, Nat.reduceEqDiff])
      refine hK5 _ _ ?_
      refine wp_seq_k (fun K7 hK7 => ?_)
      refine wp_block ?_
      refine wp_seq_k (fun K8 hK8 => ?_)
      refine wp_region_lit ?_
      refine sqv hf (r_move rfl) rfl rfl rfl ?_; clear hf fa; intro fa hf
      refine sqv hf (r_move rfl) rfl rfl rfl ?_; clear hf fa; intro fa hf
      have hy1 : ((bitsK B 32))[i]? = some ((B).testBit i) := (bitsK_get (n := B) (k := 32) (i := i) (by omega))
      obtain ⟨ab1, aoff1, rfl, hlb1, hel1⟩ := RdS.at h2 hy1
      refine sqv hf (r_ixa (sz := 1) (j := i) rfl rfl Try.underlying162 (by kernel_rfl) rfl (by omega) rfl) rfl rfl rfl ?_; clear hf fa; intro fa hf
      refine sqv hf (r_load (v := (.bool ((B).testBit i))) rfl Try.underlying4 rfl (cellsAt_cell (cellsAt_below hel1 hb hlb1) (i := 0) rfl rfl)) rfl rfl rfl ?_; clear hf fa; intro fa hf
      apply wpList_nil
      (try simp only [Exit.then, Exit.inBlock, ↓reduceIte, Nat.reduceEqDiff])
      refine hK8 _ _ ?_
      refine wp_cond_split (t := ((B).testBit i)) (hf.ev rfl) (fun hqt15_1 => ?_) (fun hqt15_1 => ?_)
      · have hqt15_1b := hqt15_1
        try simp only [decide_eq_true_eq, Bool.and_eq_true, Bool.or_eq_true, Bool.not_eq_true', decide_eq_false_iff_not, ne_eq, Bool.not_eq_true] at hqt15_1
        refine wp_region_lit ?_
        refine sqv hf (r_move rfl) rfl rfl rfl ?_; clear hf fa; intro fa hf
        refine sqv hf (r_move rfl) rfl rfl rfl ?_; clear hf fa; intro fa hf
        refine sqv hf (r_move rfl) rfl rfl rfl ?_; clear hf fa; intro fa hf
        refine sqdt hf (d_callX (vs := [(.slice a1 n1 c1), (.int .i64 ((i : Nat) : Int)), (.bool false)]) rfl Try.func88 (by kernel_rfl) (by kernel_rfl) (rshift_any A ((A * 2 ^ i) % 4294967296) ((i : Nat) : Int) false _ _ _ _ (by omega) (shl_at (by omega)) (RdS.ext h1 hb) (by first | rfl | assumption | simp))) rfl rfl rfl ?_; clear hf fa; rintro fa v w3 ⟨hr2, he2⟩ hf; obtain ⟨ra1, rc1, rfl, hcrc1, hmrc1⟩ := Row.slice hr2
        replace hr2 := Row.rebase hr2 hb.size
        replace hrw := Row.ext hrw he2
        replace hb := hb.trans (Below.mono he2 hb.size)
        have := bitsK_length ((A * 2 ^ i) % 4294967296) 32
        refine sqdt hf (d_callX (vs := [(.slice rwa (((bitsK ((A * (B % 2 ^ i)) % 4294967296) 32)).length) rwc), (.slice ra1 (((bitsK ((A * 2 ^ i) % 4294967296) 32)).length) rc1), (.bool false)]) rfl Try.func83 (by kernel_rfl) (by kernel_rfl) (radd_any ((A * (B % 2 ^ i)) % 4294967296) ((A * 2 ^ i) % 4294967296) 0 false _ _ _ _ _ _ _ rfl (Row.rd (by intros; rfl) hrw) (by first | rfl | assumption | simp) (Row.rd (by intros; rfl) hr2) (by first | rfl | assumption | simp))) rfl rfl rfl ?_; clear hf fa; rintro fa v w4 ⟨hr3, he3⟩ hf; obtain ⟨ra2, rc2, rfl, hcrc2, hmrc2⟩ := Row.slice hr3
        replace hr3 := Row.rebase hr3 hb.size
        replace hrw := Row.ext hrw he3
        replace hr2 := Row.ext hr2 he3
        replace hb := hb.trans (Below.mono he3 hb.size)
        have := bitsK_length ((((A * (B % 2 ^ i)) % 4294967296) + ((A * 2 ^ i) % 4294967296) + 0) % 4294967296) 32
        refine sqv hf (r_assign rfl) rfl rfl rfl ?_; clear hf fa; intro fa hf
        apply wpList_nil
        (try simp only [Exit.then, Exit.inBlock, ↓reduceIte, Nat.reduceEqDiff])
        refine hK7 _ _ ?_
        refine wp_region_lit ?_
        refine sqv hf (r_move rfl) rfl rfl rfl ?_; clear hf fa; intro fa hf
        refine sqv hf (r_add (C := (((i : Nat) : Int) + (1 : Int))) rfl rfl (by rw [IntKind.wrap_i64]; omega)) rfl rfl rfl ?_; clear hf fa; intro fa hf
        refine sqv hf (r_assign rfl) rfl rfl rfl ?_; clear hf fa; intro fa hf
        apply wpList_nil
        (try simp only [Exit.then, Exit.inBlock, ↓reduceIte, Nat.reduceEqDiff])
        refine hKL1 _ _ _ (by omega) ⟨(i + 1), ra2, rc2, rfl, hf.sub ⟨rfl, rfl, (some_int (by first | rfl | omega)), (some_sl (by simp <;> omega) rfl), trivial⟩, hb, (Row.tol hr3 (times_yes hqt15_1)), by omega⟩
      · have hqt15_1b := hqt15_1
        replace hqt15_1 := Bool.eq_false_iff.1 hqt15_1
        try simp only [ne_eq, decide_eq_true_eq, Bool.and_eq_true, Bool.or_eq_true, Bool.not_eq_true', decide_eq_false_iff_not] at hqt15_1
        refine wp_skip ?_
        (try simp only [Exit.then, Exit.inBlock, ↓reduceIte, Nat.reduceEqDiff])
        refine hK7 _ _ ?_
        refine wp_region_lit ?_
        refine sqv hf (r_move rfl) rfl rfl rfl ?_; clear hf fa; intro fa hf
        refine sqv hf (r_add (C := (((i : Nat) : Int) + (1 : Int))) rfl rfl (by rw [IntKind.wrap_i64]; omega)) rfl rfl rfl ?_; clear hf fa; intro fa hf
        refine sqv hf (r_assign rfl) rfl rfl rfl ?_; clear hf fa; intro fa hf
        apply wpList_nil
        (try simp only [Exit.then, Exit.inBlock, ↓reduceIte, Nat.reduceEqDiff])
        refine hKL1 _ _ _ (by omega) ⟨(i + 1), rwa, rwc, rfl, hf.sub ⟨rfl, rfl, (some_int (by first | rfl | omega)), (some_sl (by simp <;> omega) rfl), trivial⟩, hb, (Row.tol hrw (times_no hqt15_1)), by omega⟩
    · have hqt9_1b := hqt9_1
      replace hqt9_1 := Bool.eq_false_iff.1 hqt9_1
      try simp only [ne_eq, decide_eq_true_eq, Bool.and_eq_true, Bool.or_eq_true, Bool.not_eq_true', decide_eq_false_iff_not] at hqt9_1
      refine wp_exit ?_
      (try simp only [Exit.then, Exit.inBlock, ↓reduceIte, Nat.reduceEqDiff])
      refine hK3 _ _ ?_
      refine wp_seq_k (fun K9 hK9 => ?_)
      refine wp_region_lit ?_
      refine sqv hf (r_move rfl) rfl rfl rfl ?_; clear hf fa; intro fa hf
      refine sqv hf (r_assign rfl) rfl rfl rfl ?_; clear hf fa; intro fa hf
      apply wpList_nil
      (try simp only [Exit.then, Exit.inBlock, ↓reduceIte, Nat.reduceEqDiff])
      refine hK9 _ _ ?_
      refine wp_ret ?_
      (try simp only [Exit.then, Exit.inBlock])
      refine ret1 hf rfl rfl ?_
      obtain rfl : i = 32 := by omega
      exact ⟨_, rfl, Row.to hrw (by rw [show B % 2 ^ 32 = B from Nat.mod_eq_of_lt hB]), hb⟩

set_option maxHeartbeats 1000000 in
set_option maxRecDepth 100000 in
theorem rdivide_any (A B : Nat) (a1 : Option Addr) (n1 c1 : Nat) (a2 : Option Addr) (n2 c2 : Nat) (w : World) (hA : A < 4294967296) (hB : B < 4294967296) (hB0 : 0 < B) (h1 : RdS 1 vBool w a1 (bitsK A 32)) (e1 : n1 = 32) (h2 : RdS 1 vBool w a2 (bitsK B 32)) (e2 : n2 = 32) : Calls Try.prog 97 #[(.slice a1 n1 c1), (.slice a2 n2 c2)] w fun e w' => ∃ v, e = .returned v ∧ (∃ a1 c1 a2 c2, v = .tuple #[.slice a1 (bitsK (A / B) 32).length c1, .slice a2 (bitsK (A % B) 32).length c2] ∧ Row 1 vBool 4 w.heap.size w' (.slice a1 (bitsK (A / B) 32).length c1) (bitsK (A / B) 32) ∧ Row 1 vBool 4 w.heap.size w' (.slice a2 (bitsK (A % B) 32).length c2) (bitsK (A % B) 32) ∧ Below w.heap.size w w') := by
  refine sx_enter (L := [(0, (.slice a1 n1 c1)), (1, (.slice a2 n2 c2))]) Try.func97 rfl rfl rfl rfl (fun fa hf => ?_)
  have hb : Below w.heap.size w w := Below.refl _ _
  refine wp_seq_k (fun K1 hK1 => ?_)
  refine wp_region_lit ?_
  refine sqv hf (r_assign rfl) rfl rfl rfl ?_; clear hf fa; intro fa hf
  refine sqv hf (r_assign rfl) rfl rfl rfl ?_; clear hf fa; intro fa hf
  apply wpList_nil
  (try simp only [Exit.then, Exit.inBlock, ↓reduceIte, Nat.reduceEqDiff])
  refine hK1 _ _ ?_
  refine wp_seq_k (fun K2 hK2 => ?_)
  refine wp_region_un (fun wq => Below w.heap.size w wq) (fun w w' => Below w.heap.size w w')
    (fun V => [(fun x wq => ∃ b, x = .slice (some ⟨b, 0, none⟩) 32 32 ∧ w.heap.size ≤ b ∧ Row 1 vBool 4 w.heap.size wq x (List.replicate 32 false)), (fun x wq => ∃ b, x = .slice (some ⟨b, 0, none⟩) 32 32 ∧ w.heap.size ≤ b ∧ Row 1 vBool 4 w.heap.size wq x (List.replicate 32 false)), (fun x _ => x = (.slice (some ⟨(bk (V 0)), 0, none⟩) 32 32)), (fun x _ => x = (.slice (some ⟨(bk (V 1)), 0, none⟩) 32 32))])
    [0, 1]
    [[], [], [0], [0, 1, 2]]
    hf (by kernel_rfl) (by kernel_rfl) (fun _ => rfl) ((Below.refl _ _).drew) (fun a b h1 h2 => h1.trans (h2.mono h1.size)) (fun _ _ h => h.size) (fun V => ⟨keptR, keptR, kept_eq, kept_eq, trivial⟩) (by
       intro V i v j h
       match j with
       | 0 => rfl
       | 1 => rfl
       | 2 => have e0 : ¬ (0 = i) := fun e => h (by rw [← e]; decide); simp only [List.getD_cons_succ, List.getD_cons_zero, e0, if_false]
       | 3 => have e1 : ¬ (1 = i) := fun e => h (by rw [← e]; decide); simp only [List.getD_cons_succ, List.getD_cons_zero, e1, if_false]
       | _ + 4 => rfl) ?_ ?_
  · skip
    intro V
    refine ⟨fun wu0 hC hd => ?_, ?_⟩
    · clear hd
      replace hb := hb.trans (hC.mono hb.size)
      refine Does.mono (d_make (V := vBool) (bytes := 1) (z := (.bool false)) (n := 32) (zr := false) rfl rfl Try.underlying162 (by kernel_rfl) rfl (by intros; rfl) (by omega) (by unfold maxLen; omega)) ?_
      rintro _ w' ⟨b, rfl, hF, hF2, hF3⟩
      exact ⟨hF3, ⟨b, rfl, Nat.le_trans hC.size hF, hF2.rebase hC.size⟩, isfr rfl hF (Row.lt hF2 _ rfl).2⟩
    refine ⟨fun wu1 hC hd => ?_, ?_⟩
    · clear hd
      replace hb := hb.trans (hC.mono hb.size)
      refine Does.mono (d_make (V := vBool) (bytes := 1) (z := (.bool false)) (n := 32) (zr := false) rfl rfl Try.underlying162 (by kernel_rfl) rfl (by intros; rfl) (by omega) (by unfold maxLen; omega)) ?_
      rintro _ w' ⟨b, rfl, hF, hF2, hF3⟩
      exact ⟨hF3, ⟨b, rfl, Nat.le_trans hC.size hF, hF2.rebase hC.size⟩, isfr rfl hF (Row.lt hF2 _ rfl).2⟩
    refine ⟨fun wu2 hC hd => ?_, ?_⟩
    · obtain ⟨h0, _⟩ := hd
      skip
      obtain ⟨mb1, h0, hle1, hr1⟩ := h0
      rw [h0] at hr1
      replace hb := hb.trans (hC.mono hb.size)
      exact Runs.does (r_assign (congrArg some h0)) ⟨Below.refl _ _, (by simp only [h0, bk_slice, bk_ptr]), nofr rfl⟩
    refine ⟨fun wu3 hC hd => ?_, ?_⟩
    · obtain ⟨h0, h1, h2, _⟩ := hd
      skip
      skip
      skip
      obtain ⟨mb1, h0, hle1, hr1⟩ := h0
      rw [h0] at hr1
      obtain ⟨mb2, h1, hle2, hr2⟩ := h1
      rw [h1] at hr2
      replace h2 : V 2 = (.slice (some ⟨(bk (V 0)), 0, none⟩) 32 32) := h2
      simp only [h0, bk_slice, bk_ptr] at h2
      replace hb := hb.trans (hC.mono hb.size)
      exact Runs.does (r_assign (congrArg some h1)) ⟨Below.refl _ _, (by simp only [h1, bk_slice, bk_ptr]), nofr rfl⟩
    trivial
  · skip
    clear hf fa; intro V w1 fa he1 hp hnb hf
    have hv0 := postsHold_at hp 0 rfl
    obtain ⟨mb1, hv0, hle1, hr1⟩ := hv0
    rw [hv0] at hr1
    replace hr1 := Row.rebase hr1 hb.size
    have hBmb1 : w.heap.size ≤ mb1 := Nat.le_trans hb.size hle1
    have hv1 := postsHold_at hp 1 rfl
    obtain ⟨mb2, hv1, hle2, hr2⟩ := hv1
    rw [hv1] at hr2
    replace hr2 := Row.rebase hr2 hb.size
    have hBmb2 : w.heap.size ≤ mb2 := Nat.le_trans hb.size hle2
    have hv2 : V 2 = (.slice (some ⟨(bk (V 0)), 0, none⟩) 32 32) := postsHold_at hp 2 rfl
    simp only [hv0, bk_slice, bk_ptr] at hv2
    have hv3 : V 3 = (.slice (some ⟨(bk (V 1)), 0, none⟩) 32 32) := postsHold_at hp 3 rfl
    simp only [hv1, bk_slice, bk_ptr] at hv3
    simp only [List.take_succ_cons, List.take_zero, insAll, ins, hv0, hv1, hv2, hv3] at hf
    have : mb1 ≠ mb2 := two_blk (i := 0) (j := 1) hnb rfl rfl rfl rfl rfl (by rw [hv0]; rfl) (by rw [hv1]; rfl)
    clear hp hnb hv0 hv1 hv2 hv3
    replace hb := hb.trans (Below.mono he1 hb.size)
    (try simp only [Exit.then, Exit.inBlock, ↓reduceIte, Nat.reduceEqDiff])
    refine hK2 _ _ ?_
    refine wp_seq_k (fun K3 hK3 => ?_)
    refine wp_seq_k (fun K4 hK4 => ?_)
    replace hr1 := Row.to hr1 (bits_zeros (n := (A / B / 2 ^ 32 * 2 ^ 32)) (by have := Nat.div_le_self A B; rw [Nat.div_eq_of_lt (by omega), Nat.zero_mul]))
    replace hr2 := Row.to hr2 (bits_zeros (n := (A / 2 ^ 32 % B)) (by rw [Nat.div_eq_of_lt (by omega), Nat.zero_mod]))
    refine wp_region_lit ?_
    refine sqv hf (r_assign rfl) rfl rfl rfl ?_; clear hf fa; intro fa hf
    apply wpList_nil
    (try simp only [Exit.then, Exit.inBlock, ↓reduceIte, Nat.reduceEqDiff])
    refine hK4 _ _ ?_
    refine wp_block ?_
    refine wp_loop_k (fun m fa wr => ∃ (j : Nat) (rra : Option Addr) (rrc : Nat), m = j ∧ Fr 43 fa [(0, (.slice a1 n1 c1)), (1, (.slice a2 n2 c2)), (6, (.slice (some ⟨mb1, 0, none⟩) 32 32)), (8, (.int .i64 (((j : Nat) : Int) - (1 : Int)))), (7, (.slice rra (((bitsK (A / 2 ^ j % B) 32)).length) rrc))] ∧ Below w.heap.size w wr ∧ Row 1 vBool 4 (w.heap.size) wr (.slice (some ⟨mb1, 0, none⟩) (32) 32) (bitsK (A / B / 2 ^ j * 2 ^ j) 32) ∧ Row 1 vBool 4 (w.heap.size) wr (.slice rra (((bitsK (A / 2 ^ j % B) 32)).length) rrc) (bitsK (A / 2 ^ j % B) 32) ∧ (j ≤ 32)) ?_ ?_
    · skip
      exact ⟨_, 32, (some ⟨mb2, 0, none⟩), 32, rfl, hf.sub ⟨rfl, rfl, rfl, (some_int (by first | rfl | omega)), (some_sl (by simp <;> omega) rfl), trivial⟩, hb, hr1, (Row.relen hr2), by omega⟩
    · skip
      clear hf fa; intro m1 fa w2 hI KL1 hKL1
      clear hb
      clear hr1
      clear hr2
      obtain ⟨j, rra, rrc, hm1, hf, hb, hrq, hrr, hj⟩ := hI
      have hcrq := Row.caps hrq
      have hcrr := Row.caps hrr
      have hbl0 : (bitsK (A / B / 2 ^ j * 2 ^ j) 32).length = 32 := bitsK_length _ _
      have hbl1 : (bitsK (A / 2 ^ j % B) 32).length = 32 := bitsK_length _ _
      refine wp_seq_k (fun K5 hK5 => ?_)
      refine wp_seq_k (fun K6 hK6 => ?_)
      refine wp_region_lit ?_
      refine sqv hf (r_move rfl) rfl rfl rfl ?_; clear hf fa; intro fa hf
      refine sqv hf (r_ge rfl rfl) rfl rfl rfl ?_; clear hf fa; intro fa hf
      apply wpList_nil
      (try simp only [Exit.then, Exit.inBlock, ↓reduceIte, Nat.reduceEqDiff])
      refine hK6 _ _ ?_
      refine wp_cond_split (t := (decide ((0 : Int) ≤ (((j : Nat) : Int) - (1 : Int))))) (hf.ev rfl) (fun hqt13_1 => ?_) (fun hqt13_1 => ?_)
      · have hqt13_1b := hqt13_1
        try simp only [decide_eq_true_eq, Bool.and_eq_true, Bool.or_eq_true, Bool.not_eq_true', decide_eq_false_iff_not, ne_eq, Bool.not_eq_true] at hqt13_1
        refine wp_skip ?_
        (try simp only [Exit.then, Exit.inBlock, ↓reduceIte, Nat.reduceEqDiff])
        refine hK5 _ _ ?_
        refine wp_seq_k (fun K7 hK7 => ?_)
        refine wp_block ?_
        refine wp_seq_k (fun K8 hK8 => ?_)
        refine wp_region_lit ?_
        refine sqv hf (r_move rfl) rfl rfl rfl ?_; clear hf fa; intro fa hf
        obtain ⟨rb1, rfl, hbbrb1, hlbrb1⟩ := Row.some hrr (by first | omega | (simp only [bitsK_length, List.length_set, List.length_take, List.length_append, List.length_replicate, List.length_cons, List.length_nil]; omega))
        have hy1 : ((bitsK (A / 2 ^ j % B) 32))[31]? = some (((A / 2 ^ j % B)).testBit 31) := (bitsK_get (n := (A / 2 ^ j % B)) (k := 32) (i := 31) (by omega))
        have hel1 := RdS.at (Row.rd (by intros; rfl) hrr) hy1
        obtain ⟨_, _, hab, hlr1, hel1⟩ := hel1
        cases hab
        refine sqv hf (r_ixa (sz := 1) (j := 31) rfl rfl Try.underlying162 (by kernel_rfl) rfl (by omega) rfl) rfl rfl rfl ?_; clear hf fa; intro fa hf
        refine sqv hf (r_load (v := (.bool (((A / 2 ^ j % B)).testBit 31))) rfl Try.underlying4 rfl (cellsAt_cell hel1 (i := 0) rfl rfl)) rfl rfl rfl ?_; clear hf fa; intro fa hf
        refine sqv hf (r_assign rfl) rfl rfl rfl ?_; clear hf fa; intro fa hf
        apply wpList_nil
        (try simp only [Exit.then, Exit.inBlock, ↓reduceIte, Nat.reduceEqDiff])
        refine hK8 _ _ ?_
        refine wp_seq_k (fun K9 hK9 => ?_)
        have hqQ1 : mb1 < w2.heap.size := (Row.lt hrq _ rfl).2; have := hb.size
        refine wp_region_lit ?_
        refine sqv hf (r_move rfl) rfl rfl rfl ?_; clear hf fa; intro fa hf
        refine sqdt hf (d_callX (vs := [(.slice (some ⟨rb1, 0, none⟩) (((bitsK (A / 2 ^ j % B) 32)).length) rrc), (.int .i64 (1 : Int)), (.bool false)]) rfl Try.func88 (by kernel_rfl) (by kernel_rfl) (rshift_any (A / 2 ^ j % B) (((A / 2 ^ j % B) * 2 ^ 1) % 4294967296) (1 : Int) false _ _ _ _ (by omega) shl_at1 (Row.rd (by intros; rfl) hrr) (by first | rfl | assumption | simp))) rfl rfl rfl ?_; clear hf fa; rintro fa v w3 ⟨hr3, he2⟩ hf; obtain ⟨ra1, rc1, rfl, hcrc1, hmrc1⟩ := Row.slice hr3
        replace hrq := Row.ext hrq he2
        replace hrr := Row.ext hrr he2
        replace hb := hb.trans (Below.mono he2 hb.size)
        have := bitsK_length (((A / 2 ^ j % B) * 2 ^ 1) % 4294967296) 32
        refine sqv hf (r_assign rfl) rfl rfl rfl ?_; clear hf fa; intro fa hf
        apply wpList_nil
        (try simp only [Exit.then, Exit.inBlock, ↓reduceIte, Nat.reduceEqDiff])
        refine hK9 _ _ ?_
        refine wp_seq_k (fun K10 hK10 => ?_)
        skip
        refine wp_region_lit ?_
        refine sqv hf (r_move rfl) rfl rfl rfl ?_; clear hf fa; intro fa hf
        refine sqv hf (r_move rfl) rfl rfl rfl ?_; clear hf fa; intro fa hf
        refine sqv hf (r_move rfl) rfl rfl rfl ?_; clear hf fa; intro fa hf
        have hy2 : ((bitsK A 32))[(j - 1)]? = some ((A).testBit (j - 1)) := (bitsK_get (n := A) (k := 32) (i := (j - 1)) (by omega))
        obtain ⟨ab1, aoff1, rfl, hlb1, hel2⟩ := RdS.at h1 hy2
        refine sqv hf (r_ixa (sz := 1) (j := (j - 1)) rfl rfl Try.underlying162 (by kernel_rfl) (by omega) (by omega) rfl) rfl rfl rfl ?_; clear hf fa; intro fa hf
        refine sqv hf (r_load (v := (.bool ((A).testBit (j - 1)))) rfl Try.underlying4 rfl (cellsAt_cell (cellsAt_below hel2 hb hlb1) (i := 0) rfl rfl)) rfl rfl rfl ?_; clear hf fa; intro fa hf
        obtain ⟨rb2, rfl, hbbrb2, hlbrb2⟩ := Row.some hr3 (by first | omega | (simp only [bitsK_length, List.length_set, List.length_take, List.length_append, List.length_replicate, List.length_cons, List.length_nil]; omega))
        have hy3 : ((bitsK (((A / 2 ^ j % B) * 2 ^ 1) % 4294967296) 32))[0]? = some (((((A / 2 ^ j % B) * 2 ^ 1) % 4294967296)).testBit 0) := (bitsK_get (n := (((A / 2 ^ j % B) * 2 ^ 1) % 4294967296)) (k := 32) (i := 0) (by omega))
        have hel3 := RdS.at (Row.rd (by intros; rfl) hr3) hy3
        obtain ⟨_, _, hab, hlr2, hel3⟩ := hel3
        cases hab
        refine sqv hf (r_ixa (sz := 1) (j := 0) rfl rfl Try.underlying162 (by kernel_rfl) rfl (by omega) rfl) rfl rfl rfl ?_; clear hf fa; intro fa hf
        refine sqn hf (d_rowset (u := ((A).testBit (j - 1))) (j := 0) (by intros; rfl) (by intro x u hu; simp only [vBool, List.mem_singleton] at hu; subst hu; rfl) rfl rfl (by first | rfl | (simp; done) | (simp; omega)) (by kernel_rfl) hr3 (by first | omega | (simp only [bitsK_length, List.length_set, List.length_take, List.length_append, List.length_replicate, List.length_cons, List.length_nil]; omega)) (by omega)) rfl rfl ?_; clear hf fa; rintro fa _ w4 ⟨hr4, hg1⟩ hf
        replace hrq := Row.grown hrq hg1 (fun e => by have e : mb1 = rb2 := Option.some.inj e; omega)
        replace hb := hb.trans (grown_below hg1 hb.size (by first | omega | (have := Row.lt hr3 _ rfl; omega)))
        apply wpList_nil
        (try simp only [Exit.then, Exit.inBlock, ↓reduceIte, Nat.reduceEqDiff])
        refine hK10 _ _ ?_
        refine wp_seq_k (fun K11 hK11 => ?_)
        replace hr4 := Row.to hr4 shl_set
        have hdl : divR (A / 2 ^ j % B) (tn (A.testBit (j - 1))) < 4294967296 := Nat.mod_lt _ (by decide)
        have hrl : A / 2 ^ j % B < B := Nat.mod_lt _ hB0
        refine wp_region_lit ?_
        refine sqv hf (r_move rfl) rfl rfl rfl ?_; clear hf fa; intro fa hf
        refine sqv hf (r_move rfl) rfl rfl rfl ?_; clear hf fa; intro fa hf
        refine sqgF (act := (!(((A / 2 ^ j % B)).testBit 31))) (ag := true) (c := (((A / 2 ^ j % B)).testBit 31)) (v := (.slice (some ⟨rb2, 0, none⟩) (((bitsK (((A / 2 ^ j % B) * 2 ^ 1) % 4294967296) 32)).length) rc1)) hf rfl rfl rfl (fun hact => (r_move rfl)) rfl rfl ?_; clear hf fa; intro fa hf
        refine sqgF (act := (!(((A / 2 ^ j % B)).testBit 31))) (ag := true) (c := (((A / 2 ^ j % B)).testBit 31)) (v := (.slice a2 n2 c2)) hf rfl rfl rfl (fun hact => (r_move rfl)) rfl rfl ?_; clear hf fa; intro fa hf
        refine sqgd (R := fun vq wq => vq = gb (!(((A / 2 ^ j % B)).testBit 31)) (.bool (decide ((divR (A / 2 ^ j % B) (tn (A.testBit (j - 1)))) < B))) ∧ Below w4.heap.size w4 wq) (act := (!(((A / 2 ^ j % B)).testBit 31))) (g := 1) (want := false) (ag := true) (c := (((A / 2 ^ j % B)).testBit 31)) hf (by rfl) (by rfl) (act_F _ _) (fun hact => (d_callB (vs := [(.slice (some ⟨rb2, 0, none⟩) (((bitsK (((A / 2 ^ j % B) * 2 ^ 1) % 4294967296) 32)).length) rc1), (.slice a2 n2 c2)]) (cons_ev (gb_ev hact rfl) (cons_ev (gb_ev hact rfl) rfl)) Try.func96 (by kernel_rfl) (by kernel_rfl) (rless_any (divR (A / 2 ^ j % B) (tn (A.testBit (j - 1)))) B _ _ _ _ _ _ _ (by omega) (by omega) (Row.rd (by intros; rfl) hr4) (by first | rfl | assumption | simp) (RdS.ext h2 hb) (by first | rfl | assumption | simp))).mono (fun _ _ h => ⟨by rw [h.1, hact]; rfl, h.2⟩)) (fun h => ⟨by rw [h]; rfl, Below.refl _ _⟩) rfl ?_; clear hf fa; rintro fa _ w5 ⟨rfl, he3⟩ hf
        replace hrq := Row.ext hrq he3
        replace hr4 := Row.ext hr4 he3
        replace hb := hb.trans (Below.mono he3 hb.size)
        change Fr _ _ ((31, (gb (!(((A / 2 ^ j % B)).testBit 31)) (.bool (decide ((divR (A / 2 ^ j % B) (tn (A.testBit (j - 1)))) < B))))) :: _) at hf
        refine sqgF (act := (!(((A / 2 ^ j % B)).testBit 31))) (ag := true) (c := (((A / 2 ^ j % B)).testBit 31)) (v := (.bool (!(decide ((divR (A / 2 ^ j % B) (tn (A.testBit (j - 1)))) < B))))) hf rfl rfl rfl (fun hact => (r_not (gb_ev hact rfl))) rfl rfl ?_; clear hf fa; intro fa hf
        refine sqv hf (r_pickO (b := (((A / 2 ^ j % B)).testBit 31)) (e := (!(decide ((divR (A / 2 ^ j % B) (tn (A.testBit (j - 1)))) < B)))) rfl rfl rfl) rfl rfl rfl ?_; clear hf fa; intro fa hf
        apply wpList_nil
        (try simp only [Exit.then, Exit.inBlock, ↓reduceIte, Nat.reduceEqDiff])
        refine hK11 _ _ ?_
        refine wp_cond_split (t := ((((A / 2 ^ j % B)).testBit 31) || (!(decide ((divR (A / 2 ^ j % B) (tn (A.testBit (j - 1)))) < B))))) (hf.ev rfl) (fun hqt33_1 => ?_) (fun hqt33_1 => ?_)
        · have hqt33_1b := hqt33_1
          try simp only [decide_eq_true_eq, Bool.and_eq_true, Bool.or_eq_true, Bool.not_eq_true', decide_eq_false_iff_not, ne_eq, Bool.not_eq_true] at hqt33_1
          refine wp_seq_k (fun K12 hK12 => ?_)
          refine wp_region_lit ?_
          refine sqv hf (r_move rfl) rfl rfl rfl ?_; clear hf fa; intro fa hf
          refine sqv hf (r_move rfl) rfl rfl rfl ?_; clear hf fa; intro fa hf
          refine sqdt hf (d_callX (vs := [(.slice a2 n2 c2)]) rfl Try.func84 (by kernel_rfl) (by kernel_rfl) (rnot_any B _ _ _ _ (by omega) (RdS.ext h2 hb) (by first | rfl | assumption | simp))) rfl rfl rfl ?_; clear hf fa; rintro fa v w6 ⟨hr5, he4⟩ hf; obtain ⟨ra2, rc2, rfl, hcrc2, hmrc2⟩ := Row.slice hr5
          replace hr5 := Row.rebase hr5 hb.size
          replace hrq := Row.ext hrq he4
          replace hr4 := Row.ext hr4 he4
          replace hb := hb.trans (Below.mono he4 hb.size)
          have := bitsK_length (4294967295 - B) 32
          have hqQ2 : mb1 < w6.heap.size := (Row.lt hrq _ rfl).2; have := hb.size
          refine sqdt hf (d_callX (vs := [(.slice (some ⟨rb2, 0, none⟩) (((bitsK (((A / 2 ^ j % B) * 2 ^ 1) % 4294967296) 32)).length) rc1), (.slice ra2 (((bitsK (4294967295 - B) 32)).length) rc2), (.bool true)]) rfl Try.func83 (by kernel_rfl) (by kernel_rfl) (radd_any (divR (A / 2 ^ j % B) (tn (A.testBit (j - 1)))) (4294967295 - B) 1 true _ _ _ _ _ _ _ rfl (Row.rd (by intros; rfl) hr4) (by first | rfl | assumption | simp) (Row.rd (by intros; rfl) hr5) (by first | rfl | assumption | simp))) rfl rfl rfl ?_; clear hf fa; rintro fa v w7 ⟨hr6, he5⟩ hf; obtain ⟨ra3, rc3, rfl, hcrc3, hmrc3⟩ := Row.slice hr6
          replace hrq := Row.ext hrq he5
          replace hr4 := Row.ext hr4 he5
          replace hr5 := Row.ext hr5 he5
          replace hb := hb.trans (Below.mono he5 hb.size)
          have := bitsK_length (((divR (A / 2 ^ j % B) (tn (A.testBit (j - 1)))) + (4294967295 - B) + 1) % 4294967296) 32
          refine sqv hf (r_assign rfl) rfl rfl rfl ?_; clear hf fa; intro fa hf
          apply wpList_nil
          (try simp only [Exit.then, Exit.inBlock, ↓reduceIte, Nat.reduceEqDiff])
          refine hK12 _ _ ?_
          skip
          refine wp_region_lit ?_
          refine sqv hf (r_move rfl) rfl rfl rfl ?_; clear hf fa; intro fa hf
          refine sqv hf (r_move rfl) rfl rfl rfl ?_; clear hf fa; intro fa hf
          have hy4 : ((bitsK (A / B / 2 ^ j * 2 ^ j) 32))[(j - 1)]? = some (((A / B / 2 ^ j * 2 ^ j)).testBit (j - 1)) := (bitsK_get (n := (A / B / 2 ^ j * 2 ^ j)) (k := 32) (i := (j - 1)) (by omega))
          have hel4 := RdS.at (Row.rd (by intros; rfl) hrq) hy4
          obtain ⟨_, _, hab, hlr3, hel4⟩ := hel4
          cases hab
          refine sqv hf (r_ixa (sz := 1) (j := (j - 1)) rfl rfl Try.underlying162 (by kernel_rfl) (by omega) (by omega) rfl) rfl rfl rfl ?_; clear hf fa; intro fa hf
          refine sqn hf (d_rowset (u := true) (j := (j - 1)) (by intros; rfl) (by intro x u hu; simp only [vBool, List.mem_singleton] at hu; subst hu; rfl) rfl rfl (by first | rfl | (simp; done) | (simp; omega)) (by kernel_rfl) hrq (by first | omega | (simp only [bitsK_length, List.length_set, List.length_take, List.length_append, List.length_replicate, List.length_cons, List.length_nil]; omega)) (by omega)) rfl rfl ?_; clear hf fa; rintro fa _ w8 ⟨hr7, hg2⟩ hf
          replace hr6 := Row.grown hr6 hg2 (Row.ne_base hr6 (by omega))
          replace hb := hb.trans (grown_below hg2 hb.size (by first | omega | (have := Row.lt hrq _ rfl; omega)))
          apply wpList_nil
          (try simp only [Exit.then, Exit.inBlock, ↓reduceIte, Nat.reduceEqDiff])
          refine hK7 _ _ ?_
          refine wp_region_lit ?_
          refine sqv hf (r_move rfl) rfl rfl rfl ?_; clear hf fa; intro fa hf
          refine sqv hf (r_sub (C := ((((j : Nat) : Int) - (1 : Int)) - (1 : Int))) rfl rfl (by rw [IntKind.wrap_i64]; omega)) rfl rfl rfl ?_; clear hf fa; intro fa hf
          refine sqv hf (r_assign rfl) rfl rfl rfl ?_; clear hf fa; intro fa hf
          apply wpList_nil
          (try simp only [Exit.then, Exit.inBlock, ↓reduceIte, Nat.reduceEqDiff])
          refine hKL1 _ _ _ (by omega) ⟨(j - 1), ra3, rc3, rfl, hf.sub ⟨rfl, rfl, rfl, (some_int (by first | rfl | omega)), (some_sl (by simp <;> omega) rfl), trivial⟩, hb, (Row.to hr7 (quo_yes (by omega) hB0 hB hqt33_1b).1), (Row.tol (Row.rebase hr6 (by omega)) (quo_yes (by omega) hB0 hB hqt33_1b).2), by omega⟩
        · have hqt33_1b := hqt33_1
          replace hqt33_1 := Bool.eq_false_iff.1 hqt33_1
          try simp only [ne_eq, decide_eq_true_eq, Bool.and_eq_true, Bool.or_eq_true, Bool.not_eq_true', decide_eq_false_iff_not] at hqt33_1
          refine wp_skip ?_
          (try simp only [Exit.then, Exit.inBlock, ↓reduceIte, Nat.reduceEqDiff])
          refine hK7 _ _ ?_
          refine wp_region_lit ?_
          refine sqv hf (r_move rfl) rfl rfl rfl ?_; clear hf fa; intro fa hf
          refine sqv hf (r_sub (C := ((((j : Nat) : Int) - (1 : Int)) - (1 : Int))) rfl rfl (by rw [IntKind.wrap_i64]; omega)) rfl rfl rfl ?_; clear hf fa; intro fa hf
          refine sqv hf (r_assign rfl) rfl rfl rfl ?_; clear hf fa; intro fa hf
          apply wpList_nil
          (try simp only [Exit.then, Exit.inBlock, ↓reduceIte, Nat.reduceEqDiff])
          refine hKL1 _ _ _ (by omega) ⟨(j - 1), (some ⟨rb2, 0, none⟩), rc1, rfl, hf.sub ⟨rfl, rfl, rfl, (some_int (by first | rfl | omega)), (some_sl (by simp <;> omega) rfl), trivial⟩, hb, (Row.to hrq (quo_no (by omega) hB0 hB hqt33_1b).1), (Row.tol (Row.rebase hr4 (by omega)) (quo_no (by omega) hB0 hB hqt33_1b).2), by omega⟩
      · have hqt13_1b := hqt13_1
        replace hqt13_1 := Bool.eq_false_iff.1 hqt13_1
        try simp only [ne_eq, decide_eq_true_eq, Bool.and_eq_true, Bool.or_eq_true, Bool.not_eq_true', decide_eq_false_iff_not] at hqt13_1
        refine wp_exit ?_
        (try simp only [Exit.then, Exit.inBlock, ↓reduceIte, Nat.reduceEqDiff])
        refine hK3 _ _ ?_
        refine wp_seq_k (fun K13 hK13 => ?_)
        refine wp_region_lit ?_
        refine sqv hf (r_move rfl) rfl rfl rfl ?_; clear hf fa; intro fa hf
        refine sqv hf (r_move rfl) rfl rfl rfl ?_; clear hf fa; intro fa hf
        refine sqv hf (r_assign rfl) rfl rfl rfl ?_; clear hf fa; intro fa hf
        refine sqv hf (r_assign rfl) rfl rfl rfl ?_; clear hf fa; intro fa hf
        apply wpList_nil
        (try simp only [Exit.then, Exit.inBlock, ↓reduceIte, Nat.reduceEqDiff])
        refine hK13 _ _ ?_
        refine wp_ret ?_
        (try simp only [Exit.then, Exit.inBlock])
        refine ret2 hf rfl rfl rfl ?_
        obtain rfl : j = 0 := by omega
        exact ⟨_, rfl, (some ⟨mb1, 0, none⟩), 32, rra, rrc, by simp only [bitsK_length], Row.tol hrq (by simp), Row.tol hrr (by simp), hb⟩
end Go.Proofs.Ytahgkfekggkjnaa
