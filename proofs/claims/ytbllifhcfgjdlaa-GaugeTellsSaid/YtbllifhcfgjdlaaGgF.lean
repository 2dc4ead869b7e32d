/- What is proved here: the gauge's methods. -/
import Derived.Test.YtbllifhcfgjdlaaGgE
namespace Go.Proofs.Ytbllifhcfgjdlaa
open Go.RowKit
set_option linter.unusedVariables false
set_option linter.unusedSimpArgs false
set_option maxHeartbeats 1000000 in
set_option maxRecDepth 100000 in
theorem gcount_any (p n o m M s : Nat) (w : World) (hk : w.heap[p]? = some (.cells #[(.int .i64 ((n : Nat) : Int)), (.int .i64 ((o : Nat) : Int)), (.float .f64 m), (.float .f64 M), (.float .f64 s)] 40 (0, 0))) (ho : o ≤ n) (hn : n ≤ 100) (hm : m < 18446744073709551616) (hM : M < 18446744073709551616) (hs : s < 18446744073709551616) : Calls Try.prog 22 #[(.pointer (some ⟨p, 0, none⟩))] w fun e w' => e = .returned (.int .i64 ((n : Nat) : Int)) ∧ Below w.heap.size w w' := by
  refine sx_enter (L := [(0, (.pointer (some ⟨p, 0, none⟩)))]) Try.func22 rfl rfl rfl rfl (fun fa hf => ?_)
  have hb : Below w.heap.size w w := Below.refl _ _
  refine wp_seq_k (fun K1 hK1 => ?_)
  refine wp_region_lit ?_
  refine sqv hf (r_assign rfl) rfl rfl rfl ?_; clear hf fa; intro fa hf
  apply wpList_nil
  (try simp only [Exit.then, Exit.inBlock, ↓reduceIte, Nat.reduceEqDiff])
  refine hK1 _ _ ?_
  refine wp_seq_k (fun K2 hK2 => ?_)
  refine wp_region_lit ?_
  refine sqv hf (r_move rfl) rfl rfl rfl ?_; clear hf fa; intro fa hf
  refine sqv hf (r_nilCheck rfl) rfl rfl rfl ?_; clear hf fa; intro fa hf
  refine sqv hf (r_fa rfl Try.underlying40 (f := 0) (q := 0) rfl (by kernel_rfl) rfl) rfl rfl rfl ?_; clear hf fa; intro fa hf
  refine sqv hf (r_load (v := (.int .i64 ((n : Nat) : Int))) rfl Try.underlying3 rfl (cell_blk hk rfl)) rfl rfl rfl ?_; clear hf fa; intro fa hf
  refine sqv hf (r_assign rfl) rfl rfl rfl ?_; clear hf fa; intro fa hf
  apply wpList_nil
  (try simp only [Exit.then, Exit.inBlock, ↓reduceIte, Nat.reduceEqDiff])
  refine hK2 _ _ ?_
  refine wp_ret ?_
  (try simp only [Exit.then, Exit.inBlock])
  refine ret1 hf rfl rfl ?_
  exact ⟨rfl, hb⟩

set_option maxHeartbeats 1000000 in
set_option maxRecDepth 100000 in
theorem godd_any (p n o m M s : Nat) (w : World) (hk : w.heap[p]? = some (.cells #[(.int .i64 ((n : Nat) : Int)), (.int .i64 ((o : Nat) : Int)), (.float .f64 m), (.float .f64 M), (.float .f64 s)] 40 (0, 0))) (ho : o ≤ n) (hn : n ≤ 100) (hm : m < 18446744073709551616) (hM : M < 18446744073709551616) (hs : s < 18446744073709551616) : Calls Try.prog 23 #[(.pointer (some ⟨p, 0, none⟩))] w fun e w' => e = .returned (.int .i64 ((o : Nat) : Int)) ∧ Below w.heap.size w w' := by
  refine sx_enter (L := [(0, (.pointer (some ⟨p, 0, none⟩)))]) Try.func23 rfl rfl rfl rfl (fun fa hf => ?_)
  have hb : Below w.heap.size w w := Below.refl _ _
  refine wp_seq_k (fun K1 hK1 => ?_)
  refine wp_region_lit ?_
  refine sqv hf (r_assign rfl) rfl rfl rfl ?_; clear hf fa; intro fa hf
  apply wpList_nil
  (try simp only [Exit.then, Exit.inBlock, ↓reduceIte, Nat.reduceEqDiff])
  refine hK1 _ _ ?_
  refine wp_seq_k (fun K2 hK2 => ?_)
  refine wp_region_lit ?_
  refine sqv hf (r_move rfl) rfl rfl rfl ?_; clear hf fa; intro fa hf
  refine sqv hf (r_nilCheck rfl) rfl rfl rfl ?_; clear hf fa; intro fa hf
  refine sqv hf (r_fa rfl Try.underlying40 (f := 1) (q := 1) rfl (by kernel_rfl) rfl) rfl rfl rfl ?_; clear hf fa; intro fa hf
  refine sqv hf (r_load (v := (.int .i64 ((o : Nat) : Int))) rfl Try.underlying3 rfl (cell_blk hk rfl)) rfl rfl rfl ?_; clear hf fa; intro fa hf
  refine sqv hf (r_assign rfl) rfl rfl rfl ?_; clear hf fa; intro fa hf
  apply wpList_nil
  (try simp only [Exit.then, Exit.inBlock, ↓reduceIte, Nat.reduceEqDiff])
  refine hK2 _ _ ?_
  refine wp_ret ?_
  (try simp only [Exit.then, Exit.inBlock])
  refine ret1 hf rfl rfl ?_
  exact ⟨rfl, hb⟩

set_option maxHeartbeats 1000000 in
set_option maxRecDepth 100000 in
theorem gnum_any (p n o m M s : Nat) (w : World) (hk : w.heap[p]? = some (.cells #[(.int .i64 ((n : Nat) : Int)), (.int .i64 ((o : Nat) : Int)), (.float .f64 m), (.float .f64 M), (.float .f64 s)] 40 (0, 0))) (ho : o ≤ n) (hn : n ≤ 100) (hm : m < 18446744073709551616) (hM : M < 18446744073709551616) (hs : s < 18446744073709551616) : Calls Try.prog 24 #[(.pointer (some ⟨p, 0, none⟩))] w fun e w' => e = .returned (.int .i64 (((n - o) : Nat) : Int)) ∧ Below w.heap.size w w' := by
  refine sx_enter (L := [(0, (.pointer (some ⟨p, 0, none⟩)))]) Try.func24 rfl rfl rfl rfl (fun fa hf => ?_)
  have hb : Below w.heap.size w w := Below.refl _ _
  refine wp_seq_k (fun K1 hK1 => ?_)
  refine wp_region_lit ?_
  refine sqv hf (r_assign rfl) rfl rfl rfl ?_; clear hf fa; intro fa hf
  apply wpList_nil
  (try simp only [Exit.then, Exit.inBlock, ↓reduceIte, Nat.reduceEqDiff])
  refine hK1 _ _ ?_
  refine wp_seq_k (fun K2 hK2 => ?_)
  refine wp_region_un (fun wq => Below w.heap.size w wq) (fun w w' => Below w.heap.size w w')
    (fun V => [(fun x _ => x = (.pointer (some ⟨p, 0, none⟩))), (fun x _ => x = (.pointer (some ⟨p, 0, none⟩))), (fun x _ => x = (.pointer (some ⟨p, 0, none⟩))), (fun x _ => x = (.int .i64 ((n : Nat) : Int))), (fun x _ => x = (.pointer (some ⟨p, 0, none⟩))), (fun x _ => x = (.pointer (some ⟨p, 0, none⟩))), (fun x _ => x = (.pointer (some ⟨p, 1, none⟩))), (fun x _ => x = (.int .i64 ((o : Nat) : Int))), (fun x _ => x = (.int .i64 (((n - o) : Nat) : Int))), (fun x _ => x = (.int .i64 (((n - o) : Nat) : Int)))])
    []
    [[], [0], [1], [2], [], [4], [5], [6], [3, 7], [0, 1, 2, 3, 4, 5, 6, 7, 8]]
    hf (by kernel_rfl) (by kernel_rfl) (fun _ => rfl) ((Below.refl _ _).drew) (fun a b h1 h2 => h1.trans (h2.mono h1.size)) (fun _ _ h => h.size) (fun V => ⟨kept_eq, kept_eq, kept_eq, kept_eq, kept_eq, kept_eq, kept_eq, kept_eq, kept_eq, kept_eq, trivial⟩) (fun _ _ _ _ _ => rfl) ?_ ?_
  · skip
    intro V
    refine ⟨fun wu0 hC hd => ?_, ?_⟩
    · clear hd
      replace hb := hb.trans (hC.mono hb.size)
      replace hk := blk_ext hk hC
      exact Runs.does (r_move rfl) ⟨Below.refl _ _, rfl, nofr rfl⟩
    refine ⟨fun wu1 hC hd => ?_, ?_⟩
    · obtain ⟨h0, _⟩ := hd
      skip
      replace h0 : V 0 = (.pointer (some ⟨p, 0, none⟩)) := h0
      replace hb := hb.trans (hC.mono hb.size)
      replace hk := blk_ext hk hC
      exact Runs.does (r_nilCheck (congrArg some h0)) ⟨Below.refl _ _, rfl, nofr rfl⟩
    refine ⟨fun wu2 hC hd => ?_, ?_⟩
    · obtain ⟨h1, _⟩ := hd
      skip
      replace h1 : V 1 = (.pointer (some ⟨p, 0, none⟩)) := h1
      replace hb := hb.trans (hC.mono hb.size)
      replace hk := blk_ext hk hC
      exact Runs.does (r_fa (congrArg some h1) Try.underlying40 (f := 0) (q := 0) rfl (by kernel_rfl) rfl) ⟨Below.refl _ _, rfl, nofr rfl⟩
    refine ⟨fun wu3 hC hd => ?_, ?_⟩
    · obtain ⟨h2, _⟩ := hd
      skip
      replace h2 : V 2 = (.pointer (some ⟨p, 0, none⟩)) := h2
      replace hb := hb.trans (hC.mono hb.size)
      replace hk := blk_ext hk hC
      exact Runs.does (r_load (v := (.int .i64 ((n : Nat) : Int))) (congrArg some h2) Try.underlying3 rfl (cell_blk hk rfl)) ⟨Below.refl _ _, rfl, nofr rfl⟩
    refine ⟨fun wu4 hC hd => ?_, ?_⟩
    · clear hd
      replace hb := hb.trans (hC.mono hb.size)
      replace hk := blk_ext hk hC
      exact Runs.does (r_move rfl) ⟨Below.refl _ _, rfl, nofr rfl⟩
    refine ⟨fun wu5 hC hd => ?_, ?_⟩
    · obtain ⟨h4, _⟩ := hd
      skip
      replace h4 : V 4 = (.pointer (some ⟨p, 0, none⟩)) := h4
      replace hb := hb.trans (hC.mono hb.size)
      replace hk := blk_ext hk hC
      exact Runs.does (r_nilCheck (congrArg some h4)) ⟨Below.refl _ _, rfl, nofr rfl⟩
    refine ⟨fun wu6 hC hd => ?_, ?_⟩
    · obtain ⟨h5, _⟩ := hd
      skip
      replace h5 : V 5 = (.pointer (some ⟨p, 0, none⟩)) := h5
      replace hb := hb.trans (hC.mono hb.size)
      replace hk := blk_ext hk hC
      exact Runs.does (r_fa (congrArg some h5) Try.underlying40 (f := 1) (q := 1) rfl (by kernel_rfl) rfl) ⟨Below.refl _ _, rfl, nofr rfl⟩
    refine ⟨fun wu7 hC hd => ?_, ?_⟩
    · obtain ⟨h6, _⟩ := hd
      skip
      replace h6 : V 6 = (.pointer (some ⟨p, 1, none⟩)) := h6
      replace hb := hb.trans (hC.mono hb.size)
      replace hk := blk_ext hk hC
      exact Runs.does (r_load (v := (.int .i64 ((o : Nat) : Int))) (congrArg some h6) Try.underlying3 rfl (cell_blk hk rfl)) ⟨Below.refl _ _, rfl, nofr rfl⟩
    refine ⟨fun wu8 hC hd => ?_, ?_⟩
    · obtain ⟨h3, h7, _⟩ := hd
      skip
      skip
      replace h3 : V 3 = (.int .i64 ((n : Nat) : Int)) := h3
      replace h7 : V 7 = (.int .i64 ((o : Nat) : Int)) := h7
      replace hb := hb.trans (hC.mono hb.size)
      replace hk := blk_ext hk hC
      exact Runs.does (r_sub (C := (((n - o) : Nat) : Int)) (congrArg some h3) (congrArg some h7) (by rw [IntKind.wrap_i64]; omega)) ⟨Below.refl _ _, rfl, nofr rfl⟩
    refine ⟨fun wu9 hC hd => ?_, ?_⟩
    · obtain ⟨h0, h1, h2, h3, h4, h5, h6, h7, h8, _⟩ := hd
      skip
      skip
      skip
      skip
      skip
      skip
      skip
      skip
      skip
      replace h0 : V 0 = (.pointer (some ⟨p, 0, none⟩)) := h0
      replace h1 : V 1 = (.pointer (some ⟨p, 0, none⟩)) := h1
      replace h2 : V 2 = (.pointer (some ⟨p, 0, none⟩)) := h2
      replace h3 : V 3 = (.int .i64 ((n : Nat) : Int)) := h3
      replace h4 : V 4 = (.pointer (some ⟨p, 0, none⟩)) := h4
      replace h5 : V 5 = (.pointer (some ⟨p, 0, none⟩)) := h5
      replace h6 : V 6 = (.pointer (some ⟨p, 1, none⟩)) := h6
      replace h7 : V 7 = (.int .i64 ((o : Nat) : Int)) := h7
      replace h8 : V 8 = (.int .i64 (((n - o) : Nat) : Int)) := h8
      replace hb := hb.trans (hC.mono hb.size)
      replace hk := blk_ext hk hC
      exact Runs.does (r_assign (congrArg some h8)) ⟨Below.refl _ _, rfl, nofr rfl⟩
    trivial
  · skip
    clear hf fa; intro V w1 fa he1 hp hnb hf
    have hv0 : V 0 = (.pointer (some ⟨p, 0, none⟩)) := postsHold_at hp 0 rfl
    have hv1 : V 1 = (.pointer (some ⟨p, 0, none⟩)) := postsHold_at hp 1 rfl
    have hv2 : V 2 = (.pointer (some ⟨p, 0, none⟩)) := postsHold_at hp 2 rfl
    have hv3 : V 3 = (.int .i64 ((n : Nat) : Int)) := postsHold_at hp 3 rfl
    have hv4 : V 4 = (.pointer (some ⟨p, 0, none⟩)) := postsHold_at hp 4 rfl
    have hv5 : V 5 = (.pointer (some ⟨p, 0, none⟩)) := postsHold_at hp 5 rfl
    have hv6 : V 6 = (.pointer (some ⟨p, 1, none⟩)) := postsHold_at hp 6 rfl
    have hv7 : V 7 = (.int .i64 ((o : Nat) : Int)) := postsHold_at hp 7 rfl
    have hv8 : V 8 = (.int .i64 (((n - o) : Nat) : Int)) := postsHold_at hp 8 rfl
    have hv9 : V 9 = (.int .i64 (((n - o) : Nat) : Int)) := postsHold_at hp 9 rfl
    simp only [List.take_succ_cons, List.take_zero, insAll, ins, hv0, hv1, hv2, hv3, hv4, hv5, hv6, hv7, hv8, hv9] at hf
    clear hp hnb hv0 hv1 hv2 hv3 hv4 hv5 hv6 hv7 hv8 hv9
    replace hk := blk_ext hk he1
    replace hb := hb.trans (Below.mono he1 hb.size)
    (try simp only [Exit.then, Exit.inBlock, ↓reduceIte, Nat.reduceEqDiff])
    refine hK2 _ _ ?_
    refine wp_ret ?_
    (try simp only [Exit.then, Exit.inBlock])
    refine ret1 hf rfl rfl ?_
    exact ⟨rfl, hb⟩

set_option maxHeartbeats 1000000 in
set_option maxRecDepth 100000 in
theorem gsum_any (p n o m M s : Nat) (w : World) (hk : w.heap[p]? = some (.cells #[(.int .i64 ((n : Nat) : Int)), (.int .i64 ((o : Nat) : Int)), (.float .f64 m), (.float .f64 M), (.float .f64 s)] 40 (0, 0))) (ho : o ≤ n) (hn : n ≤ 100) (hm : m < 18446744073709551616) (hM : M < 18446744073709551616) (hs : s < 18446744073709551616) : Calls Try.prog 27 #[(.pointer (some ⟨p, 0, none⟩))] w fun e w' => e = .returned (.float .f64 s) ∧ Below w.heap.size w w' := by
  refine sx_enter (L := [(0, (.pointer (some ⟨p, 0, none⟩)))]) Try.func27 rfl rfl rfl rfl (fun fa hf => ?_)
  have hb : Below w.heap.size w w := Below.refl _ _
  refine wp_seq_k (fun K1 hK1 => ?_)
  refine wp_region_lit ?_
  refine sqv hf (r_assign rfl) rfl rfl rfl ?_; clear hf fa; intro fa hf
  apply wpList_nil
  (try simp only [Exit.then, Exit.inBlock, ↓reduceIte, Nat.reduceEqDiff])
  refine hK1 _ _ ?_
  refine wp_seq_k (fun K2 hK2 => ?_)
  refine wp_region_lit ?_
  refine sqv hf (r_move rfl) rfl rfl rfl ?_; clear hf fa; intro fa hf
  refine sqv hf (r_nilCheck rfl) rfl rfl rfl ?_; clear hf fa; intro fa hf
  refine sqv hf (r_fa rfl Try.underlying40 (f := 4) (q := 4) rfl (by kernel_rfl) rfl) rfl rfl rfl ?_; clear hf fa; intro fa hf
  refine sqv hf (r_load (v := (.float .f64 s)) rfl Try.underlying22 rfl (cell_blk hk rfl)) rfl rfl rfl ?_; clear hf fa; intro fa hf
  refine sqv hf (r_assign rfl) rfl rfl rfl ?_; clear hf fa; intro fa hf
  apply wpList_nil
  (try simp only [Exit.then, Exit.inBlock, ↓reduceIte, Nat.reduceEqDiff])
  refine hK2 _ _ ?_
  refine wp_ret ?_
  (try simp only [Exit.then, Exit.inBlock])
  refine ret1 hf rfl rfl ?_
  exact ⟨rfl, hb⟩

set_option maxHeartbeats 1000000 in
set_option maxRecDepth 100000 in
theorem gleast_any (p n o m M s : Nat) (w : World) (hk : w.heap[p]? = some (.cells #[(.int .i64 ((n : Nat) : Int)), (.int .i64 ((o : Nat) : Int)), (.float .f64 m), (.float .f64 M), (.float .f64 s)] 40 (0, 0))) (ho : o ≤ n) (hn : n ≤ 100) (hm : m < 18446744073709551616) (hM : M < 18446744073709551616) (hs : s < 18446744073709551616) : Calls Try.prog 25 #[(.pointer (some ⟨p, 0, none⟩))] w fun e w' => ∃ v, e = .returned v ∧ ((∃ r, v = .float .f64 r ∧ LR n o m r) ∧ Below w.heap.size w w') := by
  refine sx_enter (L := [(0, (.pointer (some ⟨p, 0, none⟩)))]) Try.func25 rfl rfl rfl rfl (fun fa hf => ?_)
  have hb : Below w.heap.size w w := Below.refl _ _
  refine wp_seq_k (fun K1 hK1 => ?_)
  refine wp_region_lit ?_
  refine sqv hf (r_assign rfl) rfl rfl rfl ?_; clear hf fa; intro fa hf
  apply wpList_nil
  (try simp only [Exit.then, Exit.inBlock, ↓reduceIte, Nat.reduceEqDiff])
  refine hK1 _ _ ?_
  refine wp_seq_k (fun K2 hK2 => ?_)
  refine wp_seq_k (fun K3 hK3 => ?_)
  refine wp_region_lit ?_
  refine sqv hf (r_move rfl) rfl rfl rfl ?_; clear hf fa; intro fa hf
  refine sqdt hf (d_callB (vs := [(.pointer (some ⟨p, 0, none⟩))]) rfl Try.func24 (by kernel_rfl) (by kernel_rfl) (gnum_any p n o m M s _ hk ho hn hm hM hs)) rfl rfl rfl ?_; clear hf fa; rintro fa _ w1 ⟨rfl, he1⟩ hf
  replace hk := blk_ext hk he1
  replace hb := hb.trans (Below.mono he1 hb.size)
  refine sqv hf (r_eq rfl rfl) rfl rfl rfl ?_; clear hf fa; intro fa hf
  apply wpList_nil
  (try simp only [Exit.then, Exit.inBlock, ↓reduceIte, Nat.reduceEqDiff])
  refine hK3 _ _ ?_
  refine wp_cond_split (t := (decide ((((n - o) : Nat) : Int) = (0 : Int)))) (hf.ev rfl) (fun hqt5_1 => ?_) (fun hqt5_1 => ?_)
  · have hqt5_1b := hqt5_1
    try simp only [decide_eq_true_eq, Bool.and_eq_true, Bool.or_eq_true, Bool.not_eq_true', decide_eq_false_iff_not, ne_eq, Bool.not_eq_true] at hqt5_1
    refine wp_seq_k (fun K4 hK4 => ?_)
    refine wp_region_lit ?_
    refine sqdt hf (d_callX (vs := []) rfl Try.func31 (by kernel_rfl) (by kernel_rfl) (none_any _)) rfl rfl rfl ?_; clear hf fa; rintro fa _ w2 ⟨⟨fk1, rfl, hfk1⟩, he2⟩ hf
    replace hk := blk_ext hk he2
    replace hb := hb.trans (Below.mono he2 hb.size)
    refine sqv hf (r_assign rfl) rfl rfl rfl ?_; clear hf fa; intro fa hf
    apply wpList_nil
    (try simp only [Exit.then, Exit.inBlock, ↓reduceIte, Nat.reduceEqDiff])
    refine hK4 _ _ ?_
    refine wp_ret ?_
    (try simp only [Exit.then, Exit.inBlock])
    refine ret1 hf rfl rfl ?_
    exact ⟨_, rfl, ⟨_, rfl, hfk1.1, by rw [if_pos (by omega)]; exact zero_zero hfk1⟩, hb⟩
  · have hqt5_1b := hqt5_1
    replace hqt5_1 := Bool.eq_false_iff.1 hqt5_1
    try simp only [ne_eq, decide_eq_true_eq, Bool.and_eq_true, Bool.or_eq_true, Bool.not_eq_true', decide_eq_false_iff_not] at hqt5_1
    refine wp_skip ?_
    (try simp only [Exit.then, Exit.inBlock, ↓reduceIte, Nat.reduceEqDiff])
    refine hK2 _ _ ?_
    refine wp_seq_k (fun K5 hK5 => ?_)
    refine wp_region_lit ?_
    refine sqv hf (r_move rfl) rfl rfl rfl ?_; clear hf fa; intro fa hf
    refine sqv hf (r_nilCheck rfl) rfl rfl rfl ?_; clear hf fa; intro fa hf
    refine sqv hf (r_fa rfl Try.underlying40 (f := 2) (q := 2) rfl (by kernel_rfl) rfl) rfl rfl rfl ?_; clear hf fa; intro fa hf
    refine sqv hf (r_load (v := (.float .f64 m)) rfl Try.underlying22 rfl (cell_blk hk rfl)) rfl rfl rfl ?_; clear hf fa; intro fa hf
    refine sqv hf (r_assign rfl) rfl rfl rfl ?_; clear hf fa; intro fa hf
    apply wpList_nil
    (try simp only [Exit.then, Exit.inBlock, ↓reduceIte, Nat.reduceEqDiff])
    refine hK5 _ _ ?_
    refine wp_ret ?_
    (try simp only [Exit.then, Exit.inBlock])
    refine ret1 hf rfl rfl ?_
    exact ⟨_, rfl, ⟨m, rfl, hm, by rw [if_neg (by omega)]⟩, hb⟩

set_option maxHeartbeats 1000000 in
set_option maxRecDepth 100000 in
theorem gmost_any (p n o m M s : Nat) (w : World) (hk : w.heap[p]? = some (.cells #[(.int .i64 ((n : Nat) : Int)), (.int .i64 ((o : Nat) : Int)), (.float .f64 m), (.float .f64 M), (.float .f64 s)] 40 (0, 0))) (ho : o ≤ n) (hn : n ≤ 100) (hm : m < 18446744073709551616) (hM : M < 18446744073709551616) (hs : s < 18446744073709551616) : Calls Try.prog 26 #[(.pointer (some ⟨p, 0, none⟩))] w fun e w' => ∃ v, e = .returned v ∧ ((∃ r, v = .float .f64 r ∧ LR n o M r) ∧ Below w.heap.size w w') := by
  refine sx_enter (L := [(0, (.pointer (some ⟨p, 0, none⟩)))]) Try.func26 rfl rfl rfl rfl (fun fa hf => ?_)
  have hb : Below w.heap.size w w := Below.refl _ _
  refine wp_seq_k (fun K1 hK1 => ?_)
  refine wp_region_lit ?_
  refine sqv hf (r_assign rfl) rfl rfl rfl ?_; clear hf fa; intro fa hf
  apply wpList_nil
  (try simp only [Exit.then, Exit.inBlock, ↓reduceIte, Nat.reduceEqDiff])
  refine hK1 _ _ ?_
  refine wp_seq_k (fun K2 hK2 => ?_)
  refine wp_seq_k (fun K3 hK3 => ?_)
  refine wp_region_lit ?_
  refine sqv hf (r_move rfl) rfl rfl rfl ?_; clear hf fa; intro fa hf
  refine sqdt hf (d_callB (vs := [(.pointer (some ⟨p, 0, none⟩))]) rfl Try.func24 (by kernel_rfl) (by kernel_rfl) (gnum_any p n o m M s _ hk ho hn hm hM hs)) rfl rfl rfl ?_; clear hf fa; rintro fa _ w1 ⟨rfl, he1⟩ hf
  replace hk := blk_ext hk he1
  replace hb := hb.trans (Below.mono he1 hb.size)
  refine sqv hf (r_eq rfl rfl) rfl rfl rfl ?_; clear hf fa; intro fa hf
  apply wpList_nil
  (try simp only [Exit.then, Exit.inBlock, ↓reduceIte, Nat.reduceEqDiff])
  refine hK3 _ _ ?_
  refine wp_cond_split (t := (decide ((((n - o) : Nat) : Int) = (0 : Int)))) (hf.ev rfl) (fun hqt5_1 => ?_) (fun hqt5_1 => ?_)
  · have hqt5_1b := hqt5_1
    try simp only [decide_eq_true_eq, Bool.and_eq_true, Bool.or_eq_true, Bool.not_eq_true', decide_eq_false_iff_not, ne_eq, Bool.not_eq_true] at hqt5_1
    refine wp_seq_k (fun K4 hK4 => ?_)
    refine wp_region_lit ?_
    refine sqdt hf (d_callX (vs := []) rfl Try.func31 (by kernel_rfl) (by kernel_rfl) (none_any _)) rfl rfl rfl ?_; clear hf fa; rintro fa _ w2 ⟨⟨fk1, rfl, hfk1⟩, he2⟩ hf
    replace hk := blk_ext hk he2
    replace hb := hb.trans (Below.mono he2 hb.size)
    refine sqv hf (r_assign rfl) rfl rfl rfl ?_; clear hf fa; intro fa hf
    apply wpList_nil
    (try simp only [Exit.then, Exit.inBlock, ↓reduceIte, Nat.reduceEqDiff])
    refine hK4 _ _ ?_
    refine wp_ret ?_
    (try simp only [Exit.then, Exit.inBlock])
    refine ret1 hf rfl rfl ?_
    exact ⟨_, rfl, ⟨_, rfl, hfk1.1, by rw [if_pos (by omega)]; exact zero_zero hfk1⟩, hb⟩
  · have hqt5_1b := hqt5_1
    replace hqt5_1 := Bool.eq_false_iff.1 hqt5_1
    try simp only [ne_eq, decide_eq_true_eq, Bool.and_eq_true, Bool.or_eq_true, Bool.not_eq_true', decide_eq_false_iff_not] at hqt5_1
    refine wp_skip ?_
    (try simp only [Exit.then, Exit.inBlock, ↓reduceIte, Nat.reduceEqDiff])
    refine hK2 _ _ ?_
    refine wp_seq_k (fun K5 hK5 => ?_)
    refine wp_region_lit ?_
    refine sqv hf (r_move rfl) rfl rfl rfl ?_; clear hf fa; intro fa hf
    refine sqv hf (r_nilCheck rfl) rfl rfl rfl ?_; clear hf fa; intro fa hf
    refine sqv hf (r_fa rfl Try.underlying40 (f := 3) (q := 3) rfl (by kernel_rfl) rfl) rfl rfl rfl ?_; clear hf fa; intro fa hf
    refine sqv hf (r_load (v := (.float .f64 M)) rfl Try.underlying22 rfl (cell_blk hk rfl)) rfl rfl rfl ?_; clear hf fa; intro fa hf
    refine sqv hf (r_assign rfl) rfl rfl rfl ?_; clear hf fa; intro fa hf
    apply wpList_nil
    (try simp only [Exit.then, Exit.inBlock, ↓reduceIte, Nat.reduceEqDiff])
    refine hK5 _ _ ?_
    refine wp_ret ?_
    (try simp only [Exit.then, Exit.inBlock])
    refine ret1 hf rfl rfl ?_
    exact ⟨_, rfl, ⟨M, rfl, hM, by rw [if_neg (by omega)]⟩, hb⟩

set_option maxHeartbeats 1000000 in
set_option maxRecDepth 100000 in
theorem gmean_any (p n o m M s : Nat) (w : World) (hk : w.heap[p]? = some (.cells #[(.int .i64 ((n : Nat) : Int)), (.int .i64 ((o : Nat) : Int)), (.float .f64 m), (.float .f64 M), (.float .f64 s)] 40 (0, 0))) (ho : o ≤ n) (hn : n ≤ 100) (hm : m < 18446744073709551616) (hM : M < 18446744073709551616) (hs : s < 18446744073709551616) : Calls Try.prog 28 #[(.pointer (some ⟨p, 0, none⟩))] w fun e w' => ∃ v, e = .returned v ∧ ((∃ r, v = .float .f64 r ∧ FRes .quo s (floatOfInt .f64 (((n - o) : Nat) : Int)) r) ∧ Below w.heap.size w w') := by
  refine sx_enter (L := [(0, (.pointer (some ⟨p, 0, none⟩)))]) Try.func28 rfl rfl rfl rfl (fun fa hf => ?_)
  have hb : Below w.heap.size w w := Below.refl _ _
  refine wp_seq_k (fun K1 hK1 => ?_)
  refine wp_region_lit ?_
  refine sqv hf (r_assign rfl) rfl rfl rfl ?_; clear hf fa; intro fa hf
  apply wpList_nil
  (try simp only [Exit.then, Exit.inBlock, ↓reduceIte, Nat.reduceEqDiff])
  refine hK1 _ _ ?_
  refine wp_seq_k (fun K2 hK2 => ?_)
  refine wp_region_un (fun wq => Below w.heap.size w wq) (fun w w' => Below w.heap.size w w')
    (fun V => [(fun x _ => x = (.pointer (some ⟨p, 0, none⟩))), (fun x _ => x = (.pointer (some ⟨p, 0, none⟩))), (fun x _ => x = (.pointer (some ⟨p, 4, none⟩))), (fun x _ => x = (.float .f64 s)), (fun x _ => x = (.pointer (some ⟨p, 0, none⟩))), (fun x _ => x = (.int .i64 (((n - o) : Nat) : Int))), (fun x _ => x = (.float .f64 (floatOfInt .f64 (((n - o) : Nat) : Int)))), (fun x _ => ∃ r : Nat, x = Value.float .f64 r ∧ FRes .quo s (floatOfInt .f64 (((n - o) : Nat) : Int)) r), (fun x _ => x = V 7)])
    []
    [[], [0], [1], [2], [], [4], [5], [3, 6], [0, 1, 2, 3, 4, 5, 6, 7]]
    hf (by kernel_rfl) (by kernel_rfl) (fun _ => rfl) ((Below.refl _ _).drew) (fun a b h1 h2 => h1.trans (h2.mono h1.size)) (fun _ _ h => h.size) (fun V => ⟨kept_eq, kept_eq, kept_eq, kept_eq, kept_eq, kept_eq, kept_eq, (fun _ _ _ h _ => h), kept_eq, trivial⟩) (by
       intro V i v j h
       match j with
       | 0 => rfl
       | 1 => rfl
       | 2 => rfl
       | 3 => rfl
       | 4 => rfl
       | 5 => rfl
       | 6 => rfl
       | 7 => rfl
       | 8 => have e7 : ¬ (7 = i) := fun e => h (by rw [← e]; decide); simp only [List.getD_cons_succ, List.getD_cons_zero, e7, if_false]
       | _ + 9 => rfl) ?_ ?_
  · skip
    intro V
    refine ⟨fun wu0 hC hd => ?_, ?_⟩
    · clear hd
      replace hb := hb.trans (hC.mono hb.size)
      replace hk := blk_ext hk hC
      exact Runs.does (r_move rfl) ⟨Below.refl _ _, rfl, nofr rfl⟩
    refine ⟨fun wu1 hC hd => ?_, ?_⟩
    · obtain ⟨h0, _⟩ := hd
      skip
      replace h0 : V 0 = (.pointer (some ⟨p, 0, none⟩)) := h0
      replace hb := hb.trans (hC.mono hb.size)
      replace hk := blk_ext hk hC
      exact Runs.does (r_nilCheck (congrArg some h0)) ⟨Below.refl _ _, rfl, nofr rfl⟩
    refine ⟨fun wu2 hC hd => ?_, ?_⟩
    · obtain ⟨h1, _⟩ := hd
      skip
      replace h1 : V 1 = (.pointer (some ⟨p, 0, none⟩)) := h1
      replace hb := hb.trans (hC.mono hb.size)
      replace hk := blk_ext hk hC
      exact Runs.does (r_fa (congrArg some h1) Try.underlying40 (f := 4) (q := 4) rfl (by kernel_rfl) rfl) ⟨Below.refl _ _, rfl, nofr rfl⟩
    refine ⟨fun wu3 hC hd => ?_, ?_⟩
    · obtain ⟨h2, _⟩ := hd
      skip
      replace h2 : V 2 = (.pointer (some ⟨p, 4, none⟩)) := h2
      replace hb := hb.trans (hC.mono hb.size)
      replace hk := blk_ext hk hC
      exact Runs.does (r_load (v := (.float .f64 s)) (congrArg some h2) Try.underlying22 rfl (cell_blk hk rfl)) ⟨Below.refl _ _, rfl, nofr rfl⟩
    refine ⟨fun wu4 hC hd => ?_, ?_⟩
    · clear hd
      replace hb := hb.trans (hC.mono hb.size)
      replace hk := blk_ext hk hC
      exact Runs.does (r_move rfl) ⟨Below.refl _ _, rfl, nofr rfl⟩
    refine ⟨fun wu5 hC hd => ?_, ?_⟩
    · obtain ⟨h4, _⟩ := hd
      skip
      replace h4 : V 4 = (.pointer (some ⟨p, 0, none⟩)) := h4
      replace hb := hb.trans (hC.mono hb.size)
      replace hk := blk_ext hk hC
      refine Does.mono (d_callB (vs := [(.pointer (some ⟨p, 0, none⟩))]) (show [some (V 4)] = [some (.pointer (some ⟨p, 0, none⟩))] from by rw [h4]) Try.func24 (by kernel_rfl) (by kernel_rfl) (gnum_any p n o m M s _ hk ho hn hm hM hs)) (fun _ _ h => ⟨h.2, h.1, nofr rfl⟩)
    refine ⟨fun wu6 hC hd => ?_, ?_⟩
    · obtain ⟨h5, _⟩ := hd
      skip
      replace h5 : V 5 = (.int .i64 (((n - o) : Nat) : Int)) := h5
      replace hb := hb.trans (hC.mono hb.size)
      replace hk := blk_ext hk hC
      exact Runs.does (r_fofint (congrArg some h5) Try.underlying3 Try.underlying22) ⟨Below.refl _ _, rfl, nofr rfl⟩
    refine ⟨fun wu7 hC hd => ?_, ?_⟩
    · obtain ⟨h3, h6, _⟩ := hd
      skip
      skip
      replace h3 : V 3 = (.float .f64 s) := h3
      replace h6 : V 6 = (.float .f64 (floatOfInt .f64 (((n - o) : Nat) : Int))) := h6
      replace hb := hb.trans (hC.mono hb.size)
      replace hk := blk_ext hk hC
      refine Does.mono (d_farith (op := .quo) (a := s) (b := (floatOfInt .f64 (((n - o) : Nat) : Int))) (congrArg some h3) (congrArg some h6) (by simp)) ?_
      rintro _ w' ⟨⟨k, rfl, hF8⟩, hF9⟩
      exact ⟨hF9, ⟨k, rfl, hF8⟩, nofr rfl⟩
    refine ⟨fun wu8 hC hd => ?_, ?_⟩
    · obtain ⟨h0, h1, h2, h3, h4, h5, h6, h7, _⟩ := hd
      skip
      skip
      skip
      skip
      skip
      skip
      skip
      skip
      replace h0 : V 0 = (.pointer (some ⟨p, 0, none⟩)) := h0
      replace h1 : V 1 = (.pointer (some ⟨p, 0, none⟩)) := h1
      replace h2 : V 2 = (.pointer (some ⟨p, 4, none⟩)) := h2
      replace h3 : V 3 = (.float .f64 s) := h3
      replace h4 : V 4 = (.pointer (some ⟨p, 0, none⟩)) := h4
      replace h5 : V 5 = (.int .i64 (((n - o) : Nat) : Int)) := h5
      replace h6 : V 6 = (.float .f64 (floatOfInt .f64 (((n - o) : Nat) : Int))) := h6
      obtain ⟨fr1, h7, hfr1⟩ := h7
      skip
      replace hb := hb.trans (hC.mono hb.size)
      replace hk := blk_ext hk hC
      exact Runs.does (r_assign (v := V 7) rfl) ⟨Below.refl _ _, (by simp only [h7, bk_slice, bk_ptr]), nofr rfl⟩
    trivial
  · skip
    clear hf fa; intro V w1 fa he1 hp hnb hf
    have hv0 : V 0 = (.pointer (some ⟨p, 0, none⟩)) := postsHold_at hp 0 rfl
    have hv1 : V 1 = (.pointer (some ⟨p, 0, none⟩)) := postsHold_at hp 1 rfl
    have hv2 : V 2 = (.pointer (some ⟨p, 4, none⟩)) := postsHold_at hp 2 rfl
    have hv3 : V 3 = (.float .f64 s) := postsHold_at hp 3 rfl
    have hv4 : V 4 = (.pointer (some ⟨p, 0, none⟩)) := postsHold_at hp 4 rfl
    have hv5 : V 5 = (.int .i64 (((n - o) : Nat) : Int)) := postsHold_at hp 5 rfl
    have hv6 : V 6 = (.float .f64 (floatOfInt .f64 (((n - o) : Nat) : Int))) := postsHold_at hp 6 rfl
    have hv7 := postsHold_at hp 7 rfl
    obtain ⟨fr1, hv7, hfr1⟩ := hv7
    skip
    have hv8 : V 8 = V 7 := postsHold_at hp 8 rfl
    simp only [hv7, bk_slice, bk_ptr] at hv8
    simp only [List.take_succ_cons, List.take_zero, insAll, ins, hv0, hv1, hv2, hv3, hv4, hv5, hv6, hv7, hv8] at hf
    clear hp hnb hv0 hv1 hv2 hv3 hv4 hv5 hv6 hv7 hv8
    replace hk := blk_ext hk he1
    replace hb := hb.trans (Below.mono he1 hb.size)
    (try simp only [Exit.then, Exit.inBlock, ↓reduceIte, Nat.reduceEqDiff])
    refine hK2 _ _ ?_
    refine wp_ret ?_
    (try simp only [Exit.then, Exit.inBlock])
    refine ret1 hf rfl rfl ?_
    exact ⟨_, rfl, ⟨_, rfl, hfr1⟩, hb⟩

set_option maxHeartbeats 1000000 in
set_option maxRecDepth 100000 in
theorem gspread_any (p n o m M s : Nat) (w : World) (hk : w.heap[p]? = some (.cells #[(.int .i64 ((n : Nat) : Int)), (.int .i64 ((o : Nat) : Int)), (.float .f64 m), (.float .f64 M), (.float .f64 s)] 40 (0, 0))) (ho : o ≤ n) (hn : n ≤ 100) (hm : m < 18446744073709551616) (hM : M < 18446744073709551616) (hs : s < 18446744073709551616) : Calls Try.prog 29 #[(.pointer (some ⟨p, 0, none⟩))] w fun e w' => ∃ v, e = .returned v ∧ ((∃ r, v = .float .f64 r ∧ ∃ fa fb, LR n o M fa ∧ LR n o m fb ∧ FRes .sub fa fb r) ∧ Below w.heap.size w w') := by
  refine sx_enter (L := [(0, (.pointer (some ⟨p, 0, none⟩)))]) Try.func29 rfl rfl rfl rfl (fun fa hf => ?_)
  have hb : Below w.heap.size w w := Below.refl _ _
  refine wp_seq_k (fun K1 hK1 => ?_)
  refine wp_region_lit ?_
  refine sqv hf (r_assign rfl) rfl rfl rfl ?_; clear hf fa; intro fa hf
  apply wpList_nil
  (try simp only [Exit.then, Exit.inBlock, ↓reduceIte, Nat.reduceEqDiff])
  refine hK1 _ _ ?_
  refine wp_seq_k (fun K2 hK2 => ?_)
  refine wp_region_lit ?_
  refine sqv hf (r_move rfl) rfl rfl rfl ?_; clear hf fa; intro fa hf
  refine sqdt hf (d_callX (vs := [(.pointer (some ⟨p, 0, none⟩))]) rfl Try.func26 (by kernel_rfl) (by kernel_rfl) (gmost_any p n o m M s _ hk ho hn hm hM hs)) rfl rfl rfl ?_; clear hf fa; rintro fa _ w1 ⟨⟨fk1, rfl, hfk1⟩, he1⟩ hf
  replace hk := blk_ext hk he1
  replace hb := hb.trans (Below.mono he1 hb.size)
  refine sqv hf (r_move rfl) rfl rfl rfl ?_; clear hf fa; intro fa hf
  refine sqdt hf (d_callX (vs := [(.pointer (some ⟨p, 0, none⟩))]) rfl Try.func25 (by kernel_rfl) (by kernel_rfl) (gleast_any p n o m M s _ hk ho hn hm hM hs)) rfl rfl rfl ?_; clear hf fa; rintro fa _ w2 ⟨⟨fk2, rfl, hfk2⟩, he2⟩ hf
  replace hk := blk_ext hk he2
  replace hb := hb.trans (Below.mono he2 hb.size)
  refine sqdt hf (d_farith (op := .sub) (a := fk1) (b := fk2) rfl rfl (by simp)) rfl rfl rfl ?_; clear hf fa; rintro fa _ w3 ⟨⟨fr1, rfl, hfr1⟩, he3⟩ hf
  replace hk := blk_ext hk he3
  replace hb := hb.trans (Below.mono he3 hb.size)
  refine sqv hf (r_assign rfl) rfl rfl rfl ?_; clear hf fa; intro fa hf
  apply wpList_nil
  (try simp only [Exit.then, Exit.inBlock, ↓reduceIte, Nat.reduceEqDiff])
  refine hK2 _ _ ?_
  refine wp_ret ?_
  (try simp only [Exit.then, Exit.inBlock])
  refine ret1 hf rfl rfl ?_
  exact ⟨_, rfl, ⟨_, rfl, fk1, fk2, hfk1, hfk2, hfr1⟩, hb⟩

set_option maxHeartbeats 1000000 in
set_option maxRecDepth 100000 in
theorem gadd_any (p n o m M s x : Nat) (w0 w : World) (hb : Below w0.heap.size w0 w) (hBp : w0.heap.size ≤ p) (hk : w.heap[p]? = some (.cells #[(.int .i64 ((n : Nat) : Int)), (.int .i64 ((o : Nat) : Int)), (.float .f64 m), (.float .f64 M), (.float .f64 s)] 40 (0, 0))) (ho : o ≤ n) (hn : n ≤ 100) (hm : m < 18446744073709551616) (hM : M < 18446744073709551616) (hs : s < 18446744073709551616) (hx : x < 18446744073709551616) : Calls Try.prog 19 #[(.pointer (some ⟨p, 0, none⟩)), (.float .f64 x)] w fun e w' => e = .returned (.tuple #[]) ∧ ∃ n2 o2 m2 M2 s2 : Nat, w'.heap[p]? = some (.cells #[(.int .i64 ((n2 : Nat) : Int)), (.int .i64 ((o2 : Nat) : Int)), (.float .f64 m2), (.float .f64 M2), (.float .f64 s2)] 40 (0, 0)) ∧ AddR x n o m M s n2 o2 m2 M2 s2 ∧ Below w0.heap.size w0 w' := by
  refine sx_enter (L := [(0, (.pointer (some ⟨p, 0, none⟩))), (1, (.float .f64 x))]) Try.func19 rfl rfl rfl rfl (fun fa hf => ?_)
  refine wp_seq_k (fun K1 hK1 => ?_)
  refine wp_region_lit ?_
  refine sqv hf (r_move rfl) rfl rfl rfl ?_; clear hf fa; intro fa hf
  refine sqv hf (r_nilCheck rfl) rfl rfl rfl ?_; clear hf fa; intro fa hf
  refine sqv hf (r_fa rfl Try.underlying40 (f := 0) (q := 0) rfl (by kernel_rfl) rfl) rfl rfl rfl ?_; clear hf fa; intro fa hf
  refine sqv hf (r_load (v := (.int .i64 ((n : Nat) : Int))) rfl Try.underlying3 rfl (cell_blk hk rfl)) rfl rfl rfl ?_; clear hf fa; intro fa hf
  refine sqv hf (r_add (C := (((n + 1) : Nat) : Int)) rfl rfl (by rw [IntKind.wrap_i64]; omega)) rfl rfl rfl ?_; clear hf fa; intro fa hf
  refine sqv hf (r_nilCheck rfl) rfl rfl rfl ?_; clear hf fa; intro fa hf
  refine sqv hf (r_fa rfl Try.underlying40 (f := 0) (q := 0) rfl (by kernel_rfl) rfl) rfl rfl rfl ?_; clear hf fa; intro fa hf
  refine sqn hf (d_storeK (T := 40) (v := (.int .i64 (((n + 1) : Nat) : Int))) (cs := #[(.int .i64 ((n : Nat) : Int)), (.int .i64 ((o : Nat) : Int)), (.float .f64 m), (.float .f64 M), (.float .f64 s)]) (cs' := #[(.int .i64 (((n + 1) : Nat) : Int)), (.int .i64 ((o : Nat) : Int)), (.float .f64 m), (.float .f64 M), (.float .f64 s)]) rfl rfl (by kernel_rfl) (by kernel_rfl) hk (by kernel_rfl) (by kernel_rfl)) rfl rfl ?_; clear hf fa; rintro fa _ w1 ⟨hk1, hg1⟩ hf
  replace hb := hb.trans (grown_below hg1 hb.size hBp)
  apply wpList_nil
  (try simp only [Exit.then, Exit.inBlock, ↓reduceIte, Nat.reduceEqDiff])
  refine hK1 _ _ ?_
  refine wp_seq_k (fun K2 hK2 => ?_)
  refine wp_seq_k (fun K3 hK3 => ?_)
  refine wp_region_lit ?_
  refine sqv hf (r_move rfl) rfl rfl rfl ?_; clear hf fa; intro fa hf
  refine sqv hf (r_move rfl) rfl rfl rfl ?_; clear hf fa; intro fa hf
  refine sqv hf (Runs.veq (r_fneq rfl rfl) (congrArg Value.bool (show _ = (decide (FltT.isNan x)) from (fself x)))) rfl rfl rfl ?_; clear hf fa; intro fa hf
  apply wpList_nil
  (try simp only [Exit.then, Exit.inBlock, ↓reduceIte, Nat.reduceEqDiff])
  refine hK3 _ _ ?_
  refine wp_cond_split (t := (decide (FltT.isNan x))) (hf.ev rfl) (fun hqt13_1 => ?_) (fun hqt13_1 => ?_)
  · have hqt13_1b := hqt13_1
    try simp only [decide_eq_true_eq, Bool.and_eq_true, Bool.or_eq_true, Bool.not_eq_true', decide_eq_false_iff_not, ne_eq, Bool.not_eq_true] at hqt13_1
    refine wp_seq_k (fun K4 hK4 => ?_)
    refine wp_region_lit ?_
    refine sqv hf (r_move rfl) rfl rfl rfl ?_; clear hf fa; intro fa hf
    refine sqv hf (r_nilCheck rfl) rfl rfl rfl ?_; clear hf fa; intro fa hf
    refine sqv hf (r_fa rfl Try.underlying40 (f := 1) (q := 1) rfl (by kernel_rfl) rfl) rfl rfl rfl ?_; clear hf fa; intro fa hf
    refine sqv hf (r_load (v := (.int .i64 ((o : Nat) : Int))) rfl Try.underlying3 rfl (cell_blk hk1 rfl)) rfl rfl rfl ?_; clear hf fa; intro fa hf
    refine sqv hf (r_add (C := (((o + 1) : Nat) : Int)) rfl rfl (by rw [IntKind.wrap_i64]; omega)) rfl rfl rfl ?_; clear hf fa; intro fa hf
    refine sqv hf (r_nilCheck rfl) rfl rfl rfl ?_; clear hf fa; intro fa hf
    refine sqv hf (r_fa rfl Try.underlying40 (f := 1) (q := 1) rfl (by kernel_rfl) rfl) rfl rfl rfl ?_; clear hf fa; intro fa hf
    refine sqn hf (d_storeK (T := 40) (v := (.int .i64 (((o + 1) : Nat) : Int))) (cs := #[(.int .i64 (((n + 1) : Nat) : Int)), (.int .i64 ((o : Nat) : Int)), (.float .f64 m), (.float .f64 M), (.float .f64 s)]) (cs' := #[(.int .i64 (((n + 1) : Nat) : Int)), (.int .i64 (((o + 1) : Nat) : Int)), (.float .f64 m), (.float .f64 M), (.float .f64 s)]) rfl rfl (by kernel_rfl) (by kernel_rfl) hk1 (by kernel_rfl) (by kernel_rfl)) rfl rfl ?_; clear hf fa; rintro fa _ w2 ⟨hk2, hg2⟩ hf
    replace hb := hb.trans (grown_below hg2 hb.size hBp)
    apply wpList_nil
    (try simp only [Exit.then, Exit.inBlock, ↓reduceIte, Nat.reduceEqDiff])
    refine hK4 _ _ ?_
    refine wp_ret ?_
    (try simp only [Exit.then, Exit.inBlock])
    refine ret0 hf rfl  ?_
    exact ⟨rfl, (n + 1), (o + 1), m, M, s, hk2, ⟨rfl, by rw [if_pos (by assumption)]; exact ⟨rfl, rfl, rfl, rfl⟩⟩, hb⟩
  · have hqt13_1b := hqt13_1
    replace hqt13_1 := Bool.eq_false_iff.1 hqt13_1
    try simp only [ne_eq, decide_eq_true_eq, Bool.and_eq_true, Bool.or_eq_true, Bool.not_eq_true', decide_eq_false_iff_not] at hqt13_1
    refine wp_skip ?_
    (try simp only [Exit.then, Exit.inBlock, ↓reduceIte, Nat.reduceEqDiff])
    refine hK2 _ _ ?_
    refine wp_seq_k (fun K5 hK5 => ?_)
    refine wp_seq_k (fun K6 hK6 => ?_)
    refine wp_region_un (fun wq => Below w1.heap.size w1 wq) (fun w w' => Below w.heap.size w w')
      (fun V => [(fun x _ => x = (.pointer (some ⟨p, 0, none⟩))), (fun x _ => x = (.pointer (some ⟨p, 0, none⟩))), (fun x _ => x = (.pointer (some ⟨p, 0, none⟩))), (fun x _ => x = (.int .i64 (((n + 1) : Nat) : Int))), (fun x _ => x = (.pointer (some ⟨p, 0, none⟩))), (fun x _ => x = (.pointer (some ⟨p, 0, none⟩))), (fun x _ => x = (.pointer (some ⟨p, 1, none⟩))), (fun x _ => x = (.int .i64 ((o : Nat) : Int))), (fun x _ => x = (.int .i64 ((((n + 1) : Nat) : Int) - ((o : Nat) : Int)))), (fun x _ => x = (.bool (decide (((((n + 1) : Nat) : Int) - ((o : Nat) : Int)) = (1 : Int)))))])
      []
      [[], [0], [1], [2], [], [4], [5], [6], [3, 7], [8]]
      hf (by kernel_rfl) (by kernel_rfl) (fun _ => rfl) ((Below.refl _ _).drew) (fun a b h1 h2 => h1.trans (h2.mono h1.size)) (fun _ _ h => h.size) (fun V => ⟨kept_eq, kept_eq, kept_eq, kept_eq, kept_eq, kept_eq, kept_eq, kept_eq, kept_eq, kept_eq, trivial⟩) (fun _ _ _ _ _ => rfl) ?_ ?_
    · skip
      intro V
      refine ⟨fun wu0 hC hd => ?_, ?_⟩
      · clear hd
        replace hb := hb.trans (hC.mono hb.size)
        replace hk1 := blk_ext hk1 hC
        exact Runs.does (r_move rfl) ⟨Below.refl _ _, rfl, nofr rfl⟩
      refine ⟨fun wu1 hC hd => ?_, ?_⟩
      · obtain ⟨h0, _⟩ := hd
        skip
        replace h0 : V 0 = (.pointer (some ⟨p, 0, none⟩)) := h0
        replace hb := hb.trans (hC.mono hb.size)
        replace hk1 := blk_ext hk1 hC
        exact Runs.does (r_nilCheck (congrArg some h0)) ⟨Below.refl _ _, rfl, nofr rfl⟩
      refine ⟨fun wu2 hC hd => ?_, ?_⟩
      · obtain ⟨h1, _⟩ := hd
        skip
        replace h1 : V 1 = (.pointer (some ⟨p, 0, none⟩)) := h1
        replace hb := hb.trans (hC.mono hb.size)
        replace hk1 := blk_ext hk1 hC
        exact Runs.does (r_fa (congrArg some h1) Try.underlying40 (f := 0) (q := 0) rfl (by kernel_rfl) rfl) ⟨Below.refl _ _, rfl, nofr rfl⟩
      refine ⟨fun wu3 hC hd => ?_, ?_⟩
      · obtain ⟨h2, _⟩ := hd
        skip
        replace h2 : V 2 = (.pointer (some ⟨p, 0, none⟩)) := h2
        replace hb := hb.trans (hC.mono hb.size)
        replace hk1 := blk_ext hk1 hC
        exact Runs.does (r_load (v := (.int .i64 (((n + 1) : Nat) : Int))) (congrArg some h2) Try.underlying3 rfl (cell_blk hk1 rfl)) ⟨Below.refl _ _, rfl, nofr rfl⟩
      refine ⟨fun wu4 hC hd => ?_, ?_⟩
      · clear hd
        replace hb := hb.trans (hC.mono hb.size)
        replace hk1 := blk_ext hk1 hC
        exact Runs.does (r_move rfl) ⟨Below.refl _ _, rfl, nofr rfl⟩
      refine ⟨fun wu5 hC hd => ?_, ?_⟩
      · obtain ⟨h4, _⟩ := hd
        skip
        replace h4 : V 4 = (.pointer (some ⟨p, 0, none⟩)) := h4
        replace hb := hb.trans (hC.mono hb.size)
        replace hk1 := blk_ext hk1 hC
        exact Runs.does (r_nilCheck (congrArg some h4)) ⟨Below.refl _ _, rfl, nofr rfl⟩
      refine ⟨fun wu6 hC hd => ?_, ?_⟩
      · obtain ⟨h5, _⟩ := hd
        skip
        replace h5 : V 5 = (.pointer (some ⟨p, 0, none⟩)) := h5
        replace hb := hb.trans (hC.mono hb.size)
        replace hk1 := blk_ext hk1 hC
        exact Runs.does (r_fa (congrArg some h5) Try.underlying40 (f := 1) (q := 1) rfl (by kernel_rfl) rfl) ⟨Below.refl _ _, rfl, nofr rfl⟩
      refine ⟨fun wu7 hC hd => ?_, ?_⟩
      · obtain ⟨h6, _⟩ := hd
        skip
        replace h6 : V 6 = (.pointer (some ⟨p, 1, none⟩)) := h6
        replace hb := hb.trans (hC.mono hb.size)
        replace hk1 := blk_ext hk1 hC
        exact Runs.does (r_load (v := (.int .i64 ((o : Nat) : Int))) (congrArg some h6) Try.underlying3 rfl (cell_blk hk1 rfl)) ⟨Below.refl _ _, rfl, nofr rfl⟩
      refine ⟨fun wu8 hC hd => ?_, ?_⟩
      · obtain ⟨h3, h7, _⟩ := hd
        skip
        skip
        replace h3 : V 3 = (.int .i64 (((n + 1) : Nat) : Int)) := h3
        replace h7 : V 7 = (.int .i64 ((o : Nat) : Int)) := h7
        replace hb := hb.trans (hC.mono hb.size)
        replace hk1 := blk_ext hk1 hC
        exact Runs.does (r_sub (C := ((((n + 1) : Nat) : Int) - ((o : Nat) : Int))) (congrArg some h3) (congrArg some h7) (by rw [IntKind.wrap_i64]; omega)) ⟨Below.refl _ _, rfl, nofr rfl⟩
      refine ⟨fun wu9 hC hd => ?_, ?_⟩
      · obtain ⟨h8, _⟩ := hd
        skip
        replace h8 : V 8 = (.int .i64 ((((n + 1) : Nat) : Int) - ((o : Nat) : Int))) := h8
        replace hb := hb.trans (hC.mono hb.size)
        replace hk1 := blk_ext hk1 hC
        exact Runs.does (r_eq (congrArg some h8) rfl) ⟨Below.refl _ _, rfl, nofr rfl⟩
      trivial
    · skip
      clear hf fa; intro V w3 fa he1 hp hnb hf
      have hv0 : V 0 = (.pointer (some ⟨p, 0, none⟩)) := postsHold_at hp 0 rfl
      have hv1 : V 1 = (.pointer (some ⟨p, 0, none⟩)) := postsHold_at hp 1 rfl
      have hv2 : V 2 = (.pointer (some ⟨p, 0, none⟩)) := postsHold_at hp 2 rfl
      have hv3 : V 3 = (.int .i64 (((n + 1) : Nat) : Int)) := postsHold_at hp 3 rfl
      have hv4 : V 4 = (.pointer (some ⟨p, 0, none⟩)) := postsHold_at hp 4 rfl
      have hv5 : V 5 = (.pointer (some ⟨p, 0, none⟩)) := postsHold_at hp 5 rfl
      have hv6 : V 6 = (.pointer (some ⟨p, 1, none⟩)) := postsHold_at hp 6 rfl
      have hv7 : V 7 = (.int .i64 ((o : Nat) : Int)) := postsHold_at hp 7 rfl
      have hv8 : V 8 = (.int .i64 ((((n + 1) : Nat) : Int) - ((o : Nat) : Int))) := postsHold_at hp 8 rfl
      have hv9 : V 9 = (.bool (decide (((((n + 1) : Nat) : Int) - ((o : Nat) : Int)) = (1 : Int)))) := postsHold_at hp 9 rfl
      simp only [List.take_succ_cons, List.take_zero, insAll, ins, hv0, hv1, hv2, hv3, hv4, hv5, hv6, hv7, hv8, hv9] at hf
      clear hp hnb hv0 hv1 hv2 hv3 hv4 hv5 hv6 hv7 hv8 hv9
      replace hk1 := blk_ext hk1 he1
      replace hb := hb.trans (Below.mono he1 hb.size)
      (try simp only [Exit.then, Exit.inBlock, ↓reduceIte, Nat.reduceEqDiff])
      refine hK6 _ _ ?_
      refine wp_cond_split (t := (decide (((((n + 1) : Nat) : Int) - ((o : Nat) : Int)) = (1 : Int)))) (hf.ev rfl) (fun hqt30_1 => ?_) (fun hqt30_1 => ?_)
      · have hqt30_1b := hqt30_1
        try simp only [decide_eq_true_eq, Bool.and_eq_true, Bool.or_eq_true, Bool.not_eq_true', decide_eq_false_iff_not, ne_eq, Bool.not_eq_true] at hqt30_1
        refine wp_region_lit ?_
        refine sqv hf (r_move rfl) rfl rfl rfl ?_; clear hf fa; intro fa hf
        refine sqv hf (r_move rfl) rfl rfl rfl ?_; clear hf fa; intro fa hf
        refine sqv hf (r_move rfl) rfl rfl rfl ?_; clear hf fa; intro fa hf
        refine sqv hf (r_move rfl) rfl rfl rfl ?_; clear hf fa; intro fa hf
        refine sqv hf (r_nilCheck rfl) rfl rfl rfl ?_; clear hf fa; intro fa hf
        refine sqv hf (r_fa rfl Try.underlying40 (f := 2) (q := 2) rfl (by kernel_rfl) rfl) rfl rfl rfl ?_; clear hf fa; intro fa hf
        refine sqn hf (d_storeK (T := 40) (v := (.float .f64 x)) (cs := #[(.int .i64 (((n + 1) : Nat) : Int)), (.int .i64 ((o : Nat) : Int)), (.float .f64 m), (.float .f64 M), (.float .f64 s)]) (cs' := #[(.int .i64 (((n + 1) : Nat) : Int)), (.int .i64 ((o : Nat) : Int)), (.float .f64 x), (.float .f64 M), (.float .f64 s)]) rfl rfl (by kernel_rfl) (by kernel_rfl) hk1 (by kernel_rfl) (by kernel_rfl)) rfl rfl ?_; clear hf fa; rintro fa _ w4 ⟨hk3, hg3⟩ hf
        replace hb := hb.trans (grown_below hg3 hb.size hBp)
        refine sqv hf (r_nilCheck rfl) rfl rfl rfl ?_; clear hf fa; intro fa hf
        refine sqv hf (r_fa rfl Try.underlying40 (f := 3) (q := 3) rfl (by kernel_rfl) rfl) rfl rfl rfl ?_; clear hf fa; intro fa hf
        refine sqn hf (d_storeK (T := 40) (v := (.float .f64 x)) (cs := #[(.int .i64 (((n + 1) : Nat) : Int)), (.int .i64 ((o : Nat) : Int)), (.float .f64 x), (.float .f64 M), (.float .f64 s)]) (cs' := #[(.int .i64 (((n + 1) : Nat) : Int)), (.int .i64 ((o : Nat) : Int)), (.float .f64 x), (.float .f64 x), (.float .f64 s)]) rfl rfl (by kernel_rfl) (by kernel_rfl) hk3 (by kernel_rfl) (by kernel_rfl)) rfl rfl ?_; clear hf fa; rintro fa _ w5 ⟨hk4, hg4⟩ hf
        replace hb := hb.trans (grown_below hg4 hb.size hBp)
        apply wpList_nil
        (try simp only [Exit.then, Exit.inBlock, ↓reduceIte, Nat.reduceEqDiff])
        refine hK5 _ _ ?_
        refine wp_seq_k (fun K7 hK7 => ?_)
        refine wp_seq_k (fun K8 hK8 => ?_)
        refine wp_region_lit ?_
        refine sqv hf (r_move rfl) rfl rfl rfl ?_; clear hf fa; intro fa hf
        refine sqv hf (r_move rfl) rfl rfl rfl ?_; clear hf fa; intro fa hf
        refine sqv hf (r_nilCheck rfl) rfl rfl rfl ?_; clear hf fa; intro fa hf
        refine sqv hf (r_fa rfl Try.underlying40 (f := 2) (q := 2) rfl (by kernel_rfl) rfl) rfl rfl rfl ?_; clear hf fa; intro fa hf
        refine sqv hf (r_load (v := (.float .f64 x)) rfl Try.underlying22 rfl (cell_blk hk4 rfl)) rfl rfl rfl ?_; clear hf fa; intro fa hf
        refine sqdt hf (d_callB (vs := [(.float .f64 x), (.float .f64 x)]) rfl Try.func9 (by kernel_rfl) (by kernel_rfl) (order_any x x (by first | assumption | omega) (by first | assumption | omega) _)) rfl rfl rfl ?_; clear hf fa; rintro fa _ w6 ⟨rfl, he2⟩ hf
        replace hk4 := blk_ext hk4 he2
        replace hb := hb.trans (Below.mono he2 hb.size)
        refine sqv hf (r_lt rfl rfl) rfl rfl rfl ?_; clear hf fa; intro fa hf
        apply wpList_nil
        (try simp only [Exit.then, Exit.inBlock, ↓reduceIte, Nat.reduceEqDiff])
        refine hK8 _ _ ?_
        refine wp_cond_split (t := (decide ((ordN x x) < (0 : Int)))) (hf.ev rfl) (fun hqt45_1 => ?_) (fun hqt45_1 => ?_)
        · have hqt45_1b := hqt45_1
          try simp only [decide_eq_true_eq, Bool.and_eq_true, Bool.or_eq_true, Bool.not_eq_true', decide_eq_false_iff_not, ne_eq, Bool.not_eq_true] at hqt45_1
          refine wp_region_lit ?_
          refine sqv hf (r_move rfl) rfl rfl rfl ?_; clear hf fa; intro fa hf
          refine sqv hf (r_move rfl) rfl rfl rfl ?_; clear hf fa; intro fa hf
          refine sqv hf (r_nilCheck rfl) rfl rfl rfl ?_; clear hf fa; intro fa hf
          refine sqv hf (r_fa rfl Try.underlying40 (f := 2) (q := 2) rfl (by kernel_rfl) rfl) rfl rfl rfl ?_; clear hf fa; intro fa hf
          refine sqn hf (d_storeK (T := 40) (v := (.float .f64 x)) (cs := #[(.int .i64 (((n + 1) : Nat) : Int)), (.int .i64 ((o : Nat) : Int)), (.float .f64 x), (.float .f64 x), (.float .f64 s)]) (cs' := #[(.int .i64 (((n + 1) : Nat) : Int)), (.int .i64 ((o : Nat) : Int)), (.float .f64 x), (.float .f64 x), (.float .f64 s)]) rfl rfl (by kernel_rfl) (by kernel_rfl) hk4 (by kernel_rfl) (by kernel_rfl)) rfl rfl ?_; clear hf fa; rintro fa _ w7 ⟨hk5, hg5⟩ hf
          replace hb := hb.trans (grown_below hg5 hb.size hBp)
          apply wpList_nil
          (try simp only [Exit.then, Exit.inBlock, ↓reduceIte, Nat.reduceEqDiff])
          refine hK7 _ _ ?_
          refine wp_seq_k (fun K9 hK9 => ?_)
          refine wp_seq_k (fun K10 hK10 => ?_)
          refine wp_region_lit ?_
          refine sqv hf (r_move rfl) rfl rfl rfl ?_; clear hf fa; intro fa hf
          refine sqv hf (r_move rfl) rfl rfl rfl ?_; clear hf fa; intro fa hf
          refine sqv hf (r_nilCheck rfl) rfl rfl rfl ?_; clear hf fa; intro fa hf
          refine sqv hf (r_fa rfl Try.underlying40 (f := 3) (q := 3) rfl (by kernel_rfl) rfl) rfl rfl rfl ?_; clear hf fa; intro fa hf
          refine sqv hf (r_load (v := (.float .f64 x)) rfl Try.underlying22 rfl (cell_blk hk5 rfl)) rfl rfl rfl ?_; clear hf fa; intro fa hf
          refine sqdt hf (d_callB (vs := [(.float .f64 x), (.float .f64 x)]) rfl Try.func9 (by kernel_rfl) (by kernel_rfl) (order_any x x (by first | assumption | omega) (by first | assumption | omega) _)) rfl rfl rfl ?_; clear hf fa; rintro fa _ w8 ⟨rfl, he3⟩ hf
          replace hk5 := blk_ext hk5 he3
          replace hb := hb.trans (Below.mono he3 hb.size)
          refine sqv hf (r_gt rfl rfl) rfl rfl rfl ?_; clear hf fa; intro fa hf
          apply wpList_nil
          (try simp only [Exit.then, Exit.inBlock, ↓reduceIte, Nat.reduceEqDiff])
          refine hK10 _ _ ?_
          refine wp_cond_split (t := (decide ((0 : Int) < (ordN x x)))) (hf.ev rfl) (fun hqt56_1 => ?_) (fun hqt56_1 => ?_)
          · have hqt56_1b := hqt56_1
            try simp only [decide_eq_true_eq, Bool.and_eq_true, Bool.or_eq_true, Bool.not_eq_true', decide_eq_false_iff_not, ne_eq, Bool.not_eq_true] at hqt56_1
            refine wp_region_lit ?_
            refine sqv hf (r_move rfl) rfl rfl rfl ?_; clear hf fa; intro fa hf
            refine sqv hf (r_move rfl) rfl rfl rfl ?_; clear hf fa; intro fa hf
            refine sqv hf (r_nilCheck rfl) rfl rfl rfl ?_; clear hf fa; intro fa hf
            refine sqv hf (r_fa rfl Try.underlying40 (f := 3) (q := 3) rfl (by kernel_rfl) rfl) rfl rfl rfl ?_; clear hf fa; intro fa hf
            refine sqn hf (d_storeK (T := 40) (v := (.float .f64 x)) (cs := #[(.int .i64 (((n + 1) : Nat) : Int)), (.int .i64 ((o : Nat) : Int)), (.float .f64 x), (.float .f64 x), (.float .f64 s)]) (cs' := #[(.int .i64 (((n + 1) : Nat) : Int)), (.int .i64 ((o : Nat) : Int)), (.float .f64 x), (.float .f64 x), (.float .f64 s)]) rfl rfl (by kernel_rfl) (by kernel_rfl) hk5 (by kernel_rfl) (by kernel_rfl)) rfl rfl ?_; clear hf fa; rintro fa _ w9 ⟨hk6, hg6⟩ hf
            replace hb := hb.trans (grown_below hg6 hb.size hBp)
            apply wpList_nil
            (try simp only [Exit.then, Exit.inBlock, ↓reduceIte, Nat.reduceEqDiff])
            refine hK9 _ _ ?_
            refine wp_region_lit ?_
            refine sqv hf (r_move rfl) rfl rfl rfl ?_; clear hf fa; intro fa hf
            refine sqv hf (r_nilCheck rfl) rfl rfl rfl ?_; clear hf fa; intro fa hf
            refine sqv hf (r_fa rfl Try.underlying40 (f := 4) (q := 4) rfl (by kernel_rfl) rfl) rfl rfl rfl ?_; clear hf fa; intro fa hf
            refine sqv hf (r_load (v := (.float .f64 s)) rfl Try.underlying22 rfl (cell_blk hk6 rfl)) rfl rfl rfl ?_; clear hf fa; intro fa hf
            refine sqv hf (r_move rfl) rfl rfl rfl ?_; clear hf fa; intro fa hf
            refine sqdt hf (d_farith (op := .add) (a := s) (b := x) rfl rfl (by simp)) rfl rfl rfl ?_; clear hf fa; rintro fa _ w10 ⟨⟨fr1, rfl, hfr1⟩, he4⟩ hf
            replace hk6 := blk_ext hk6 he4
            replace hb := hb.trans (Below.mono he4 hb.size)
            refine sqv hf (r_nilCheck rfl) rfl rfl rfl ?_; clear hf fa; intro fa hf
            refine sqv hf (r_fa rfl Try.underlying40 (f := 4) (q := 4) rfl (by kernel_rfl) rfl) rfl rfl rfl ?_; clear hf fa; intro fa hf
            refine sqn hf (d_storeK (T := 40) (v := (.float .f64 fr1)) (cs := #[(.int .i64 (((n + 1) : Nat) : Int)), (.int .i64 ((o : Nat) : Int)), (.float .f64 x), (.float .f64 x), (.float .f64 s)]) (cs' := #[(.int .i64 (((n + 1) : Nat) : Int)), (.int .i64 ((o : Nat) : Int)), (.float .f64 x), (.float .f64 x), (.float .f64 fr1)]) rfl rfl (by kernel_rfl) (by kernel_rfl) hk6 (by kernel_rfl) (by kernel_rfl)) rfl rfl ?_; clear hf fa; rintro fa _ w11 ⟨hk7, hg7⟩ hf
            replace hb := hb.trans (grown_below hg7 hb.size hBp)
            apply wpList_nil
            (try simp only [Exit.then, Exit.inBlock, ↓reduceIte, Nat.reduceEqDiff])
            refine end0 hf rfl ?_
            exact ⟨rfl, (n + 1), o, x, x, fr1, hk7, ⟨rfl, by rw [if_neg (by assumption)]; have hos := ord_self x; refine ⟨rfl, ?_, ?_, hfr1⟩ <;> (split <;> first | rfl | omega)⟩, hb⟩
          · have hqt56_1b := hqt56_1
            replace hqt56_1 := Bool.eq_false_iff.1 hqt56_1
            try simp only [ne_eq, decide_eq_true_eq, Bool.and_eq_true, Bool.or_eq_true, Bool.not_eq_true', decide_eq_false_iff_not] at hqt56_1
            refine wp_skip ?_
            (try simp only [Exit.then, Exit.inBlock, ↓reduceIte, Nat.reduceEqDiff])
            refine hK9 _ _ ?_
            refine wp_region_lit ?_
            refine sqv hf (r_move rfl) rfl rfl rfl ?_; clear hf fa; intro fa hf
            refine sqv hf (r_nilCheck rfl) rfl rfl rfl ?_; clear hf fa; intro fa hf
            refine sqv hf (r_fa rfl Try.underlying40 (f := 4) (q := 4) rfl (by kernel_rfl) rfl) rfl rfl rfl ?_; clear hf fa; intro fa hf
            refine sqv hf (r_load (v := (.float .f64 s)) rfl Try.underlying22 rfl (cell_blk hk5 rfl)) rfl rfl rfl ?_; clear hf fa; intro fa hf
            refine sqv hf (r_move rfl) rfl rfl rfl ?_; clear hf fa; intro fa hf
            refine sqdt hf (d_farith (op := .add) (a := s) (b := x) rfl rfl (by simp)) rfl rfl rfl ?_; clear hf fa; rintro fa _ w12 ⟨⟨fr2, rfl, hfr2⟩, he5⟩ hf
            replace hk5 := blk_ext hk5 he5
            replace hb := hb.trans (Below.mono he5 hb.size)
            refine sqv hf (r_nilCheck rfl) rfl rfl rfl ?_; clear hf fa; intro fa hf
            refine sqv hf (r_fa rfl Try.underlying40 (f := 4) (q := 4) rfl (by kernel_rfl) rfl) rfl rfl rfl ?_; clear hf fa; intro fa hf
            refine sqn hf (d_storeK (T := 40) (v := (.float .f64 fr2)) (cs := #[(.int .i64 (((n + 1) : Nat) : Int)), (.int .i64 ((o : Nat) : Int)), (.float .f64 x), (.float .f64 x), (.float .f64 s)]) (cs' := #[(.int .i64 (((n + 1) : Nat) : Int)), (.int .i64 ((o : Nat) : Int)), (.float .f64 x), (.float .f64 x), (.float .f64 fr2)]) rfl rfl (by kernel_rfl) (by kernel_rfl) hk5 (by kernel_rfl) (by kernel_rfl)) rfl rfl ?_; clear hf fa; rintro fa _ w13 ⟨hk8, hg8⟩ hf
            replace hb := hb.trans (grown_below hg8 hb.size hBp)
            apply wpList_nil
            (try simp only [Exit.then, Exit.inBlock, ↓reduceIte, Nat.reduceEqDiff])
            refine end0 hf rfl ?_
            exact ⟨rfl, (n + 1), o, x, x, fr2, hk8, ⟨rfl, by rw [if_neg (by assumption)]; have hos := ord_self x; refine ⟨rfl, ?_, ?_, hfr2⟩ <;> (split <;> first | rfl | omega)⟩, hb⟩
        · have hqt45_1b := hqt45_1
          replace hqt45_1 := Bool.eq_false_iff.1 hqt45_1
          try simp only [ne_eq, decide_eq_true_eq, Bool.and_eq_true, Bool.or_eq_true, Bool.not_eq_true', decide_eq_false_iff_not] at hqt45_1
          refine wp_skip ?_
          (try simp only [Exit.then, Exit.inBlock, ↓reduceIte, Nat.reduceEqDiff])
          refine hK7 _ _ ?_
          refine wp_seq_k (fun K11 hK11 => ?_)
          refine wp_seq_k (fun K12 hK12 => ?_)
          refine wp_region_lit ?_
          refine sqv hf (r_move rfl) rfl rfl rfl ?_; clear hf fa; intro fa hf
          refine sqv hf (r_move rfl) rfl rfl rfl ?_; clear hf fa; intro fa hf
          refine sqv hf (r_nilCheck rfl) rfl rfl rfl ?_; clear hf fa; intro fa hf
          refine sqv hf (r_fa rfl Try.underlying40 (f := 3) (q := 3) rfl (by kernel_rfl) rfl) rfl rfl rfl ?_; clear hf fa; intro fa hf
          refine sqv hf (r_load (v := (.float .f64 x)) rfl Try.underlying22 rfl (cell_blk hk4 rfl)) rfl rfl rfl ?_; clear hf fa; intro fa hf
          refine sqdt hf (d_callB (vs := [(.float .f64 x), (.float .f64 x)]) rfl Try.func9 (by kernel_rfl) (by kernel_rfl) (order_any x x (by first | assumption | omega) (by first | assumption | omega) _)) rfl rfl rfl ?_; clear hf fa; rintro fa _ w14 ⟨rfl, he6⟩ hf
          replace hk4 := blk_ext hk4 he6
          replace hb := hb.trans (Below.mono he6 hb.size)
          refine sqv hf (r_gt rfl rfl) rfl rfl rfl ?_; clear hf fa; intro fa hf
          apply wpList_nil
          (try simp only [Exit.then, Exit.inBlock, ↓reduceIte, Nat.reduceEqDiff])
          refine hK12 _ _ ?_
          refine wp_cond_split (t := (decide ((0 : Int) < (ordN x x)))) (hf.ev rfl) (fun hqt56_2 => ?_) (fun hqt56_2 => ?_)
          · have hqt56_2b := hqt56_2
            try simp only [decide_eq_true_eq, Bool.and_eq_true, Bool.or_eq_true, Bool.not_eq_true', decide_eq_false_iff_not, ne_eq, Bool.not_eq_true] at hqt56_2
            refine wp_region_lit ?_
            refine sqv hf (r_move rfl) rfl rfl rfl ?_; clear hf fa; intro fa hf
            refine sqv hf (r_move rfl) rfl rfl rfl ?_; clear hf fa; intro fa hf
            refine sqv hf (r_nilCheck rfl) rfl rfl rfl ?_; clear hf fa; intro fa hf
            refine sqv hf (r_fa rfl Try.underlying40 (f := 3) (q := 3) rfl (by kernel_rfl) rfl) rfl rfl rfl ?_; clear hf fa; intro fa hf
            refine sqn hf (d_storeK (T := 40) (v := (.float .f64 x)) (cs := #[(.int .i64 (((n + 1) : Nat) : Int)), (.int .i64 ((o : Nat) : Int)), (.float .f64 x), (.float .f64 x), (.float .f64 s)]) (cs' := #[(.int .i64 (((n + 1) : Nat) : Int)), (.int .i64 ((o : Nat) : Int)), (.float .f64 x), (.float .f64 x), (.float .f64 s)]) rfl rfl (by kernel_rfl) (by kernel_rfl) hk4 (by kernel_rfl) (by kernel_rfl)) rfl rfl ?_; clear hf fa; rintro fa _ w15 ⟨hk9, hg9⟩ hf
            replace hb := hb.trans (grown_below hg9 hb.size hBp)
            apply wpList_nil
            (try simp only [Exit.then, Exit.inBlock, ↓reduceIte, Nat.reduceEqDiff])
            refine hK11 _ _ ?_
            refine wp_region_lit ?_
            refine sqv hf (r_move rfl) rfl rfl rfl ?_; clear hf fa; intro fa hf
            refine sqv hf (r_nilCheck rfl) rfl rfl rfl ?_; clear hf fa; intro fa hf
            refine sqv hf (r_fa rfl Try.underlying40 (f := 4) (q := 4) rfl (by kernel_rfl) rfl) rfl rfl rfl ?_; clear hf fa; intro fa hf
            refine sqv hf (r_load (v := (.float .f64 s)) rfl Try.underlying22 rfl (cell_blk hk9 rfl)) rfl rfl rfl ?_; clear hf fa; intro fa hf
            refine sqv hf (r_move rfl) rfl rfl rfl ?_; clear hf fa; intro fa hf
            refine sqdt hf (d_farith (op := .add) (a := s) (b := x) rfl rfl (by simp)) rfl rfl rfl ?_; clear hf fa; rintro fa _ w16 ⟨⟨fr3, rfl, hfr3⟩, he7⟩ hf
            replace hk9 := blk_ext hk9 he7
            replace hb := hb.trans (Below.mono he7 hb.size)
            refine sqv hf (r_nilCheck rfl) rfl rfl rfl ?_; clear hf fa; intro fa hf
            refine sqv hf (r_fa rfl Try.underlying40 (f := 4) (q := 4) rfl (by kernel_rfl) rfl) rfl rfl rfl ?_; clear hf fa; intro fa hf
            refine sqn hf (d_storeK (T := 40) (v := (.float .f64 fr3)) (cs := #[(.int .i64 (((n + 1) : Nat) : Int)), (.int .i64 ((o : Nat) : Int)), (.float .f64 x), (.float .f64 x), (.float .f64 s)]) (cs' := #[(.int .i64 (((n + 1) : Nat) : Int)), (.int .i64 ((o : Nat) : Int)), (.float .f64 x), (.float .f64 x), (.float .f64 fr3)]) rfl rfl (by kernel_rfl) (by kernel_rfl) hk9 (by kernel_rfl) (by kernel_rfl)) rfl rfl ?_; clear hf fa; rintro fa _ w17 ⟨hk10, hg10⟩ hf
            replace hb := hb.trans (grown_below hg10 hb.size hBp)
            apply wpList_nil
            (try simp only [Exit.then, Exit.inBlock, ↓reduceIte, Nat.reduceEqDiff])
            refine end0 hf rfl ?_
            exact ⟨rfl, (n + 1), o, x, x, fr3, hk10, ⟨rfl, by rw [if_neg (by assumption)]; have hos := ord_self x; refine ⟨rfl, ?_, ?_, hfr3⟩ <;> (split <;> first | rfl | omega)⟩, hb⟩
          · have hqt56_2b := hqt56_2
            replace hqt56_2 := Bool.eq_false_iff.1 hqt56_2
            try simp only [ne_eq, decide_eq_true_eq, Bool.and_eq_true, Bool.or_eq_true, Bool.not_eq_true', decide_eq_false_iff_not] at hqt56_2
            refine wp_skip ?_
            (try simp only [Exit.then, Exit.inBlock, ↓reduceIte, Nat.reduceEqDiff])
            refine hK11 _ _ ?_
            refine wp_region_lit ?_
            refine sqv hf (r_move rfl) rfl rfl rfl ?_; clear hf fa; intro fa hf
            refine sqv hf (r_nilCheck rfl) rfl rfl rfl ?_; clear hf fa; intro fa hf
            refine sqv hf (r_fa rfl Try.underlying40 (f := 4) (q := 4) rfl (by kernel_rfl) rfl) rfl rfl rfl ?_; clear hf fa; intro fa hf
            refine sqv hf (r_load (v := (.float .f64 s)) rfl Try.underlying22 rfl (cell_blk hk4 rfl)) rfl rfl rfl ?_; clear hf fa; intro fa hf
            refine sqv hf (r_move rfl) rfl rfl rfl ?_; clear hf fa; intro fa hf
            refine sqdt hf (d_farith (op := .add) (a := s) (b := x) rfl rfl (by simp)) rfl rfl rfl ?_; clear hf fa; rintro fa _ w18 ⟨⟨fr4, rfl, hfr4⟩, he8⟩ hf
            replace hk4 := blk_ext hk4 he8
            replace hb := hb.trans (Below.mono he8 hb.size)
            refine sqv hf (r_nilCheck rfl) rfl rfl rfl ?_; clear hf fa; intro fa hf
            refine sqv hf (r_fa rfl Try.underlying40 (f := 4) (q := 4) rfl (by kernel_rfl) rfl) rfl rfl rfl ?_; clear hf fa; intro fa hf
            refine sqn hf (d_storeK (T := 40) (v := (.float .f64 fr4)) (cs := #[(.int .i64 (((n + 1) : Nat) : Int)), (.int .i64 ((o : Nat) : Int)), (.float .f64 x), (.float .f64 x), (.float .f64 s)]) (cs' := #[(.int .i64 (((n + 1) : Nat) : Int)), (.int .i64 ((o : Nat) : Int)), (.float .f64 x), (.float .f64 x), (.float .f64 fr4)]) rfl rfl (by kernel_rfl) (by kernel_rfl) hk4 (by kernel_rfl) (by kernel_rfl)) rfl rfl ?_; clear hf fa; rintro fa _ w19 ⟨hk11, hg11⟩ hf
            replace hb := hb.trans (grown_below hg11 hb.size hBp)
            apply wpList_nil
            (try simp only [Exit.then, Exit.inBlock, ↓reduceIte, Nat.reduceEqDiff])
            refine end0 hf rfl ?_
            exact ⟨rfl, (n + 1), o, x, x, fr4, hk11, ⟨rfl, by rw [if_neg (by assumption)]; have hos := ord_self x; refine ⟨rfl, ?_, ?_, hfr4⟩ <;> (split <;> first | rfl | omega)⟩, hb⟩
      · have hqt30_1b := hqt30_1
        replace hqt30_1 := Bool.eq_false_iff.1 hqt30_1
        try simp only [ne_eq, decide_eq_true_eq, Bool.and_eq_true, Bool.or_eq_true, Bool.not_eq_true', decide_eq_false_iff_not] at hqt30_1
        refine wp_skip ?_
        (try simp only [Exit.then, Exit.inBlock, ↓reduceIte, Nat.reduceEqDiff])
        refine hK5 _ _ ?_
        refine wp_seq_k (fun K13 hK13 => ?_)
        refine wp_seq_k (fun K14 hK14 => ?_)
        refine wp_region_lit ?_
        refine sqv hf (r_move rfl) rfl rfl rfl ?_; clear hf fa; intro fa hf
        refine sqv hf (r_move rfl) rfl rfl rfl ?_; clear hf fa; intro fa hf
        refine sqv hf (r_nilCheck rfl) rfl rfl rfl ?_; clear hf fa; intro fa hf
        refine sqv hf (r_fa rfl Try.underlying40 (f := 2) (q := 2) rfl (by kernel_rfl) rfl) rfl rfl rfl ?_; clear hf fa; intro fa hf
        refine sqv hf (r_load (v := (.float .f64 m)) rfl Try.underlying22 rfl (cell_blk hk1 rfl)) rfl rfl rfl ?_; clear hf fa; intro fa hf
        refine sqdt hf (d_callB (vs := [(.float .f64 x), (.float .f64 m)]) rfl Try.func9 (by kernel_rfl) (by kernel_rfl) (order_any x m (by first | assumption | omega) (by first | assumption | omega) _)) rfl rfl rfl ?_; clear hf fa; rintro fa _ w20 ⟨rfl, he9⟩ hf
        replace hk1 := blk_ext hk1 he9
        replace hb := hb.trans (Below.mono he9 hb.size)
        refine sqv hf (r_lt rfl rfl) rfl rfl rfl ?_; clear hf fa; intro fa hf
        apply wpList_nil
        (try simp only [Exit.then, Exit.inBlock, ↓reduceIte, Nat.reduceEqDiff])
        refine hK14 _ _ ?_
        refine wp_cond_split (t := (decide ((ordN x m) < (0 : Int)))) (hf.ev rfl) (fun hqt45_2 => ?_) (fun hqt45_2 => ?_)
        · have hqt45_2b := hqt45_2
          try simp only [decide_eq_true_eq, Bool.and_eq_true, Bool.or_eq_true, Bool.not_eq_true', decide_eq_false_iff_not, ne_eq, Bool.not_eq_true] at hqt45_2
          refine wp_region_lit ?_
          refine sqv hf (r_move rfl) rfl rfl rfl ?_; clear hf fa; intro fa hf
          refine sqv hf (r_move rfl) rfl rfl rfl ?_; clear hf fa; intro fa hf
          refine sqv hf (r_nilCheck rfl) rfl rfl rfl ?_; clear hf fa; intro fa hf
          refine sqv hf (r_fa rfl Try.underlying40 (f := 2) (q := 2) rfl (by kernel_rfl) rfl) rfl rfl rfl ?_; clear hf fa; intro fa hf
          refine sqn hf (d_storeK (T := 40) (v := (.float .f64 x)) (cs := #[(.int .i64 (((n + 1) : Nat) : Int)), (.int .i64 ((o : Nat) : Int)), (.float .f64 m), (.float .f64 M), (.float .f64 s)]) (cs' := #[(.int .i64 (((n + 1) : Nat) : Int)), (.int .i64 ((o : Nat) : Int)), (.float .f64 x), (.float .f64 M), (.float .f64 s)]) rfl rfl (by kernel_rfl) (by kernel_rfl) hk1 (by kernel_rfl) (by kernel_rfl)) rfl rfl ?_; clear hf fa; rintro fa _ w21 ⟨hk12, hg12⟩ hf
          replace hb := hb.trans (grown_below hg12 hb.size hBp)
          apply wpList_nil
          (try simp only [Exit.then, Exit.inBlock, ↓reduceIte, Nat.reduceEqDiff])
          refine hK13 _ _ ?_
          refine wp_seq_k (fun K15 hK15 => ?_)
          refine wp_seq_k (fun K16 hK16 => ?_)
          refine wp_region_lit ?_
          refine sqv hf (r_move rfl) rfl rfl rfl ?_; clear hf fa; intro fa hf
          refine sqv hf (r_move rfl) rfl rfl rfl ?_; clear hf fa; intro fa hf
          refine sqv hf (r_nilCheck rfl) rfl rfl rfl ?_; clear hf fa; intro fa hf
          refine sqv hf (r_fa rfl Try.underlying40 (f := 3) (q := 3) rfl (by kernel_rfl) rfl) rfl rfl rfl ?_; clear hf fa; intro fa hf
          refine sqv hf (r_load (v := (.float .f64 M)) rfl Try.underlying22 rfl (cell_blk hk12 rfl)) rfl rfl rfl ?_; clear hf fa; intro fa hf
          refine sqdt hf (d_callB (vs := [(.float .f64 x), (.float .f64 M)]) rfl Try.func9 (by kernel_rfl) (by kernel_rfl) (order_any x M (by first | assumption | omega) (by first | assumption | omega) _)) rfl rfl rfl ?_; clear hf fa; rintro fa _ w22 ⟨rfl, he10⟩ hf
          replace hk12 := blk_ext hk12 he10
          replace hb := hb.trans (Below.mono he10 hb.size)
          refine sqv hf (r_gt rfl rfl) rfl rfl rfl ?_; clear hf fa; intro fa hf
          apply wpList_nil
          (try simp only [Exit.then, Exit.inBlock, ↓reduceIte, Nat.reduceEqDiff])
          refine hK16 _ _ ?_
          refine wp_cond_split (t := (decide ((0 : Int) < (ordN x M)))) (hf.ev rfl) (fun hqt56_3 => ?_) (fun hqt56_3 => ?_)
          · have hqt56_3b := hqt56_3
            try simp only [decide_eq_true_eq, Bool.and_eq_true, Bool.or_eq_true, Bool.not_eq_true', decide_eq_false_iff_not, ne_eq, Bool.not_eq_true] at hqt56_3
            refine wp_region_lit ?_
            refine sqv hf (r_move rfl) rfl rfl rfl ?_; clear hf fa; intro fa hf
            refine sqv hf (r_move rfl) rfl rfl rfl ?_; clear hf fa; intro fa hf
            refine sqv hf (r_nilCheck rfl) rfl rfl rfl ?_; clear hf fa; intro fa hf
            refine sqv hf (r_fa rfl Try.underlying40 (f := 3) (q := 3) rfl (by kernel_rfl) rfl) rfl rfl rfl ?_; clear hf fa; intro fa hf
            refine sqn hf (d_storeK (T := 40) (v := (.float .f64 x)) (cs := #[(.int .i64 (((n + 1) : Nat) : Int)), (.int .i64 ((o : Nat) : Int)), (.float .f64 x), (.float .f64 M), (.float .f64 s)]) (cs' := #[(.int .i64 (((n + 1) : Nat) : Int)), (.int .i64 ((o : Nat) : Int)), (.float .f64 x), (.float .f64 x), (.float .f64 s)]) rfl rfl (by kernel_rfl) (by kernel_rfl) hk12 (by kernel_rfl) (by kernel_rfl)) rfl rfl ?_; clear hf fa; rintro fa _ w23 ⟨hk13, hg13⟩ hf
            replace hb := hb.trans (grown_below hg13 hb.size hBp)
            apply wpList_nil
            (try simp only [Exit.then, Exit.inBlock, ↓reduceIte, Nat.reduceEqDiff])
            refine hK15 _ _ ?_
            refine wp_region_lit ?_
            refine sqv hf (r_move rfl) rfl rfl rfl ?_; clear hf fa; intro fa hf
            refine sqv hf (r_nilCheck rfl) rfl rfl rfl ?_; clear hf fa; intro fa hf
            refine sqv hf (r_fa rfl Try.underlying40 (f := 4) (q := 4) rfl (by kernel_rfl) rfl) rfl rfl rfl ?_; clear hf fa; intro fa hf
            refine sqv hf (r_load (v := (.float .f64 s)) rfl Try.underlying22 rfl (cell_blk hk13 rfl)) rfl rfl rfl ?_; clear hf fa; intro fa hf
            refine sqv hf (r_move rfl) rfl rfl rfl ?_; clear hf fa; intro fa hf
            refine sqdt hf (d_farith (op := .add) (a := s) (b := x) rfl rfl (by simp)) rfl rfl rfl ?_; clear hf fa; rintro fa _ w24 ⟨⟨fr5, rfl, hfr5⟩, he11⟩ hf
            replace hk13 := blk_ext hk13 he11
            replace hb := hb.trans (Below.mono he11 hb.size)
            refine sqv hf (r_nilCheck rfl) rfl rfl rfl ?_; clear hf fa; intro fa hf
            refine sqv hf (r_fa rfl Try.underlying40 (f := 4) (q := 4) rfl (by kernel_rfl) rfl) rfl rfl rfl ?_; clear hf fa; intro fa hf
            refine sqn hf (d_storeK (T := 40) (v := (.float .f64 fr5)) (cs := #[(.int .i64 (((n + 1) : Nat) : Int)), (.int .i64 ((o : Nat) : Int)), (.float .f64 x), (.float .f64 x), (.float .f64 s)]) (cs' := #[(.int .i64 (((n + 1) : Nat) : Int)), (.int .i64 ((o : Nat) : Int)), (.float .f64 x), (.float .f64 x), (.float .f64 fr5)]) rfl rfl (by kernel_rfl) (by kernel_rfl) hk13 (by kernel_rfl) (by kernel_rfl)) rfl rfl ?_; clear hf fa; rintro fa _ w25 ⟨hk14, hg14⟩ hf
            replace hb := hb.trans (grown_below hg14 hb.size hBp)
            apply wpList_nil
            (try simp only [Exit.then, Exit.inBlock, ↓reduceIte, Nat.reduceEqDiff])
            refine end0 hf rfl ?_
            exact ⟨rfl, (n + 1), o, x, x, fr5, hk14, ⟨rfl, by rw [if_neg (by assumption)]; have hos := ord_self x; refine ⟨rfl, ?_, ?_, hfr5⟩ <;> (split <;> first | rfl | omega)⟩, hb⟩
          · have hqt56_3b := hqt56_3
            replace hqt56_3 := Bool.eq_false_iff.1 hqt56_3
            try simp only [ne_eq, decide_eq_true_eq, Bool.and_eq_true, Bool.or_eq_true, Bool.not_eq_true', decide_eq_false_iff_not] at hqt56_3
            refine wp_skip ?_
            (try simp only [Exit.then, Exit.inBlock, ↓reduceIte, Nat.reduceEqDiff])
            refine hK15 _ _ ?_
            refine wp_region_lit ?_
            refine sqv hf (r_move rfl) rfl rfl rfl ?_; clear hf fa; intro fa hf
            refine sqv hf (r_nilCheck rfl) rfl rfl rfl ?_; clear hf fa; intro fa hf
            refine sqv hf (r_fa rfl Try.underlying40 (f := 4) (q := 4) rfl (by kernel_rfl) rfl) rfl rfl rfl ?_; clear hf fa; intro fa hf
            refine sqv hf (r_load (v := (.float .f64 s)) rfl Try.underlying22 rfl (cell_blk hk12 rfl)) rfl rfl rfl ?_; clear hf fa; intro fa hf
            refine sqv hf (r_move rfl) rfl rfl rfl ?_; clear hf fa; intro fa hf
            refine sqdt hf (d_farith (op := .add) (a := s) (b := x) rfl rfl (by simp)) rfl rfl rfl ?_; clear hf fa; rintro fa _ w26 ⟨⟨fr6, rfl, hfr6⟩, he12⟩ hf
            replace hk12 := blk_ext hk12 he12
            replace hb := hb.trans (Below.mono he12 hb.size)
            refine sqv hf (r_nilCheck rfl) rfl rfl rfl ?_; clear hf fa; intro fa hf
            refine sqv hf (r_fa rfl Try.underlying40 (f := 4) (q := 4) rfl (by kernel_rfl) rfl) rfl rfl rfl ?_; clear hf fa; intro fa hf
            refine sqn hf (d_storeK (T := 40) (v := (.float .f64 fr6)) (cs := #[(.int .i64 (((n + 1) : Nat) : Int)), (.int .i64 ((o : Nat) : Int)), (.float .f64 x), (.float .f64 M), (.float .f64 s)]) (cs' := #[(.int .i64 (((n + 1) : Nat) : Int)), (.int .i64 ((o : Nat) : Int)), (.float .f64 x), (.float .f64 M), (.float .f64 fr6)]) rfl rfl (by kernel_rfl) (by kernel_rfl) hk12 (by kernel_rfl) (by kernel_rfl)) rfl rfl ?_; clear hf fa; rintro fa _ w27 ⟨hk15, hg15⟩ hf
            replace hb := hb.trans (grown_below hg15 hb.size hBp)
            apply wpList_nil
            (try simp only [Exit.then, Exit.inBlock, ↓reduceIte, Nat.reduceEqDiff])
            refine end0 hf rfl ?_
            exact ⟨rfl, (n + 1), o, x, M, fr6, hk15, ⟨rfl, by rw [if_neg (by assumption)]; have hos := ord_self x; refine ⟨rfl, ?_, ?_, hfr6⟩ <;> (split <;> first | rfl | omega)⟩, hb⟩
        · have hqt45_2b := hqt45_2
          replace hqt45_2 := Bool.eq_false_iff.1 hqt45_2
          try simp only [ne_eq, decide_eq_true_eq, Bool.and_eq_true, Bool.or_eq_true, Bool.not_eq_true', decide_eq_false_iff_not] at hqt45_2
          refine wp_skip ?_
          (try simp only [Exit.then, Exit.inBlock, ↓reduceIte, Nat.reduceEqDiff])
          refine hK13 _ _ ?_
          refine wp_seq_k (fun K17 hK17 => ?_)
          refine wp_seq_k (fun K18 hK18 => ?_)
          refine wp_region_lit ?_
          refine sqv hf (r_move rfl) rfl rfl rfl ?_; clear hf fa; intro fa hf
          refine sqv hf (r_move rfl) rfl rfl rfl ?_; clear hf fa; intro fa hf
          refine sqv hf (r_nilCheck rfl) rfl rfl rfl ?_; clear hf fa; intro fa hf
          refine sqv hf (r_fa rfl Try.underlying40 (f := 3) (q := 3) rfl (by kernel_rfl) rfl) rfl rfl rfl ?_; clear hf fa; intro fa hf
          refine sqv hf (r_load (v := (.float .f64 M)) rfl Try.underlying22 rfl (cell_blk hk1 rfl)) rfl rfl rfl ?_; clear hf fa; intro fa hf
          refine sqdt hf (d_callB (vs := [(.float .f64 x), (.float .f64 M)]) rfl Try.func9 (by kernel_rfl) (by kernel_rfl) (order_any x M (by first | assumption | omega) (by first | assumption | omega) _)) rfl rfl rfl ?_; clear hf fa; rintro fa _ w28 ⟨rfl, he13⟩ hf
          replace hk1 := blk_ext hk1 he13
          replace hb := hb.trans (Below.mono he13 hb.size)
          refine sqv hf (r_gt rfl rfl) rfl rfl rfl ?_; clear hf fa; intro fa hf
          apply wpList_nil
          (try simp only [Exit.then, Exit.inBlock, ↓reduceIte, Nat.reduceEqDiff])
          refine hK18 _ _ ?_
          refine wp_cond_split (t := (decide ((0 : Int) < (ordN x M)))) (hf.ev rfl) (fun hqt56_4 => ?_) (fun hqt56_4 => ?_)
          · have hqt56_4b := hqt56_4
            try simp only [decide_eq_true_eq, Bool.and_eq_true, Bool.or_eq_true, Bool.not_eq_true', decide_eq_false_iff_not, ne_eq, Bool.not_eq_true] at hqt56_4
            refine wp_region_lit ?_
            refine sqv hf (r_move rfl) rfl rfl rfl ?_; clear hf fa; intro fa hf
            refine sqv hf (r_move rfl) rfl rfl rfl ?_; clear hf fa; intro fa hf
            refine sqv hf (r_nilCheck rfl) rfl rfl rfl ?_; clear hf fa; intro fa hf
            refine sqv hf (r_fa rfl Try.underlying40 (f := 3) (q := 3) rfl (by kernel_rfl) rfl) rfl rfl rfl ?_; clear hf fa; intro fa hf
            refine sqn hf (d_storeK (T := 40) (v := (.float .f64 x)) (cs := #[(.int .i64 (((n + 1) : Nat) : Int)), (.int .i64 ((o : Nat) : Int)), (.float .f64 m), (.float .f64 M), (.float .f64 s)]) (cs' := #[(.int .i64 (((n + 1) : Nat) : Int)), (.int .i64 ((o : Nat) : Int)), (.float .f64 m), (.float .f64 x), (.float .f64 s)]) rfl rfl (by kernel_rfl) (by kernel_rfl) hk1 (by kernel_rfl) (by kernel_rfl)) rfl rfl ?_; clear hf fa; rintro fa _ w29 ⟨hk16, hg16⟩ hf
            replace hb := hb.trans (grown_below hg16 hb.size hBp)
            apply wpList_nil
            (try simp only [Exit.then, Exit.inBlock, ↓reduceIte, Nat.reduceEqDiff])
            refine hK17 _ _ ?_
            refine wp_region_lit ?_
            refine sqv hf (r_move rfl) rfl rfl rfl ?_; clear hf fa; intro fa hf
            refine sqv hf (r_nilCheck rfl) rfl rfl rfl ?_; clear hf fa; intro fa hf
            refine sqv hf (r_fa rfl Try.underlying40 (f := 4) (q := 4) rfl (by kernel_rfl) rfl) rfl rfl rfl ?_; clear hf fa; intro fa hf
            refine sqv hf (r_load (v := (.float .f64 s)) rfl Try.underlying22 rfl (cell_blk hk16 rfl)) rfl rfl rfl ?_; clear hf fa; intro fa hf
            refine sqv hf (r_move rfl) rfl rfl rfl ?_; clear hf fa; intro fa hf
            refine sqdt hf (d_farith (op := .add) (a := s) (b := x) rfl rfl (by simp)) rfl rfl rfl ?_; clear hf fa; rintro fa _ w30 ⟨⟨fr7, rfl, hfr7⟩, he14⟩ hf
            replace hk16 := blk_ext hk16 he14
            replace hb := hb.trans (Below.mono he14 hb.size)
            refine sqv hf (r_nilCheck rfl) rfl rfl rfl ?_; clear hf fa; intro fa hf
            refine sqv hf (r_fa rfl Try.underlying40 (f := 4) (q := 4) rfl (by kernel_rfl) rfl) rfl rfl rfl ?_; clear hf fa; intro fa hf
            refine sqn hf (d_storeK (T := 40) (v := (.float .f64 fr7)) (cs := #[(.int .i64 (((n + 1) : Nat) : Int)), (.int .i64 ((o : Nat) : Int)), (.float .f64 m), (.float .f64 x), (.float .f64 s)]) (cs' := #[(.int .i64 (((n + 1) : Nat) : Int)), (.int .i64 ((o : Nat) : Int)), (.float .f64 m), (.float .f64 x), (.float .f64 fr7)]) rfl rfl (by kernel_rfl) (by kernel_rfl) hk16 (by kernel_rfl) (by kernel_rfl)) rfl rfl ?_; clear hf fa; rintro fa _ w31 ⟨hk17, hg17⟩ hf
            replace hb := hb.trans (grown_below hg17 hb.size hBp)
            apply wpList_nil
            (try simp only [Exit.then, Exit.inBlock, ↓reduceIte, Nat.reduceEqDiff])
            refine end0 hf rfl ?_
            exact ⟨rfl, (n + 1), o, m, x, fr7, hk17, ⟨rfl, by rw [if_neg (by assumption)]; have hos := ord_self x; refine ⟨rfl, ?_, ?_, hfr7⟩ <;> (split <;> first | rfl | omega)⟩, hb⟩
          · have hqt56_4b := hqt56_4
            replace hqt56_4 := Bool.eq_false_iff.1 hqt56_4
            try simp only [ne_eq, decide_eq_true_eq, Bool.and_eq_true, Bool.or_eq_true, Bool.not_eq_true', decide_eq_false_iff_not] at hqt56_4
            refine wp_skip ?_
            (try simp only [Exit.then, Exit.inBlock, ↓reduceIte, Nat.reduceEqDiff])
            refine hK17 _ _ ?_
            refine wp_region_lit ?_
            refine sqv hf (r_move rfl) rfl rfl rfl ?_; clear hf fa; intro fa hf
            refine sqv hf (r_nilCheck rfl) rfl rfl rfl ?_; clear hf fa; intro fa hf
            refine sqv hf (r_fa rfl Try.underlying40 (f := 4) (q := 4) rfl (by kernel_rfl) rfl) rfl rfl rfl ?_; clear hf fa; intro fa hf
            refine sqv hf (r_load (v := (.float .f64 s)) rfl Try.underlying22 rfl (cell_blk hk1 rfl)) rfl rfl rfl ?_; clear hf fa; intro fa hf
            refine sqv hf (r_move rfl) rfl rfl rfl ?_; clear hf fa; intro fa hf
            refine sqdt hf (d_farith (op := .add) (a := s) (b := x) rfl rfl (by simp)) rfl rfl rfl ?_; clear hf fa; rintro fa _ w32 ⟨⟨fr8, rfl, hfr8⟩, he15⟩ hf
            replace hk1 := blk_ext hk1 he15
            replace hb := hb.trans (Below.mono he15 hb.size)
            refine sqv hf (r_nilCheck rfl) rfl rfl rfl ?_; clear hf fa; intro fa hf
            refine sqv hf (r_fa rfl Try.underlying40 (f := 4) (q := 4) rfl (by kernel_rfl) rfl) rfl rfl rfl ?_; clear hf fa; intro fa hf
            refine sqn hf (d_storeK (T := 40) (v := (.float .f64 fr8)) (cs := #[(.int .i64 (((n + 1) : Nat) : Int)), (.int .i64 ((o : Nat) : Int)), (.float .f64 m), (.float .f64 M), (.float .f64 s)]) (cs' := #[(.int .i64 (((n + 1) : Nat) : Int)), (.int .i64 ((o : Nat) : Int)), (.float .f64 m), (.float .f64 M), (.float .f64 fr8)]) rfl rfl (by kernel_rfl) (by kernel_rfl) hk1 (by kernel_rfl) (by kernel_rfl)) rfl rfl ?_; clear hf fa; rintro fa _ w33 ⟨hk18, hg18⟩ hf
            replace hb := hb.trans (grown_below hg18 hb.size hBp)
            apply wpList_nil
            (try simp only [Exit.then, Exit.inBlock, ↓reduceIte, Nat.reduceEqDiff])
            refine end0 hf rfl ?_
            exact ⟨rfl, (n + 1), o, m, M, fr8, hk18, ⟨rfl, by rw [if_neg (by assumption)]; have hos := ord_self x; refine ⟨rfl, ?_, ?_, hfr8⟩ <;> (split <;> first | rfl | omega)⟩, hb⟩
end Go.Proofs.Ytbllifhcfgjdlaa
