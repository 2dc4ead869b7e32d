/- What is proved here: ConvDoes, walked. -/
import Derived.Test.YtmcmickgllffoaaCwD
namespace Go.Proofs.Ytmcmickgllffoaa
open Go.RowKit
set_option linter.unusedVariables false
set_option linter.unusedSimpArgs false
set_option maxHeartbeats 1000000 in
set_option maxRecDepth 100000 in
theorem does_any (op v : Nat) (n : Int) (w : World) (hop : op < 256) (hv : v < 18446744073709551616) : Calls Try.prog 8 #[(.int .u8 ((op : Nat) : Int)), (.int .u64 ((v : Nat) : Int)), (.int .i64 n)] w fun e w' => e = .returned (.bool true) ∧ Below w.heap.size w w' := by
  refine sx_enter (L := [(0, (.int .u8 ((op : Nat) : Int))), (1, (.int .u64 ((v : Nat) : Int))), (2, (.int .i64 n))]) Try.func8 rfl rfl rfl rfl (fun fa hf => ?_)
  have hb : Below w.heap.size w w := Below.refl _ _
  refine wp_seq_k (fun K1 hK1 => ?_)
  refine wp_region_lit ?_
  refine sqv hf (r_assign rfl) rfl rfl rfl ?_; clear hf fa; intro fa hf
  apply wpList_nil
  (try simp only [Exit.then, Exit.inBlock, ↓reduceIte, Nat.reduceEqDiff])
  refine hK1 _ _ ?_
  refine wp_seq_k (fun K2 hK2 => ?_)
  refine wp_seq_k (fun K3 hK3 => ?_)
  refine wp_region_lit ?_
  refine sqdt hf (d_callB (vs := []) rfl Try.func43 (by kernel_rfl) (by kernel_rfl) (awake_any _)) rfl rfl rfl ?_; clear hf fa; rintro fa _ w1 ⟨rfl, he1⟩ hf
  replace hb := hb.trans (Below.mono he1 hb.size)
  refine sqv hf (Runs.veq (v' := (.bool false)) (r_not rfl) rfl) rfl rfl rfl ?_; clear hf fa; intro fa hf
  apply wpList_nil
  (try simp only [Exit.then, Exit.inBlock, ↓reduceIte, Nat.reduceEqDiff])
  refine hK3 _ _ ?_
  refine wp_cond_false (hf.ev rfl) ?_
  refine wp_skip ?_
  (try simp only [Exit.then, Exit.inBlock, ↓reduceIte, Nat.reduceEqDiff])
  refine hK2 _ _ ?_
  refine wp_seq_k (fun K4 hK4 => ?_)
  refine wp_region_lit ?_
  refine sqv hf (r_move rfl) rfl rfl rfl ?_; clear hf fa; intro fa hf
  refine sqv hf (r_move rfl) rfl rfl rfl ?_; clear hf fa; intro fa hf
  refine sqdt hf (d_callB (vs := [(.int .u8 ((op : Nat) : Int)), (.int .u64 ((v : Nat) : Int))]) rfl Try.func51 (by kernel_rfl) (by kernel_rfl) (do_any op v _ hop hv)) rfl rfl rfl ?_; clear hf fa; rintro fa _ w2 ⟨rfl, he2⟩ hf
  replace hb := hb.trans (Below.mono he2 hb.size)
  refine sqv hf (r_move rfl) rfl rfl rfl ?_; clear hf fa; intro fa hf
  refine sqv hf (r_extract rfl (i := 0) rfl) rfl rfl rfl ?_; clear hf fa; intro fa hf
  refine sqv hf (r_extract rfl (i := 1) rfl) rfl rfl rfl ?_; clear hf fa; intro fa hf
  refine sqdt hf (d_alloc (z := (.agg #[(.int .u8 (0 : Int)), (.int .u64 (0 : Int))])) (cs := #[(.int .u8 (0 : Int)), (.int .u64 (0 : Int))]) (by kernel_rfl) rfl) rfl rfl rfl ?_; clear hf fa; rintro fa _ w3 ⟨b1, rfl, hle1, hk1, he3⟩ hf
  have hBb1 : w.heap.size ≤ b1 := Nat.le_trans hb.size hle1
  replace hb := hb.trans (Below.mono he3 hb.size)
  refine sqn hf (d_storeK (T := 86) (v := (.agg #[(.int .u8 ((doT op v).1)), (.int .u64 (((doT op v).2.1 : Nat) : Int))])) (cs := #[(.int .u8 (0 : Int)), (.int .u64 (0 : Int))]) (cs' := #[(.int .u8 ((doT op v).1)), (.int .u64 (((doT op v).2.1 : Nat) : Int))]) rfl rfl (by kernel_rfl) (by kernel_rfl) hk1 (by kernel_rfl) (by kernel_rfl)) rfl rfl ?_; clear hf fa; rintro fa _ w4 ⟨hk2, hg1⟩ hf
  replace hb := hb.trans (grown_below hg1 hb.size hBb1)
  refine sqv hf (r_assign rfl) rfl rfl rfl ?_; clear hf fa; intro fa hf
  apply wpList_nil
  (try simp only [Exit.then, Exit.inBlock, ↓reduceIte, Nat.reduceEqDiff])
  refine hK4 _ _ ?_
  refine wp_seq_k (fun K5 hK5 => ?_)
  refine wp_region_lit ?_
  refine sqv hf (r_move rfl) rfl rfl rfl ?_; clear hf fa; intro fa hf
  refine sqv hf (r_conv (C := ((op : Nat) : Int)) rfl Try.underlying5 Try.underlying3 (by rw [IntKind.wrap_i64]; omega)) rfl rfl rfl ?_; clear hf fa; intro fa hf
  refine sqv hf (r_move rfl) rfl rfl rfl ?_; clear hf fa; intro fa hf
  refine sqdt hf (d_callB (vs := [(.int .i64 ((op : Nat) : Int)), (.int .u64 ((v : Nat) : Int))]) rfl Try.func52 (by kernel_rfl) (by kernel_rfl) (rdo_any op v _ hop hv)) rfl rfl rfl ?_; clear hf fa; rintro fa _ w5 ⟨rfl, he4⟩ hf
  replace hk2 := blk_ext hk2 he4
  replace hb := hb.trans (Below.mono he4 hb.size)
  refine sqv hf (r_move rfl) rfl rfl rfl ?_; clear hf fa; intro fa hf
  refine sqv hf (r_extract rfl (i := 0) rfl) rfl rfl rfl ?_; clear hf fa; intro fa hf
  refine sqv hf (r_extract rfl (i := 1) rfl) rfl rfl rfl ?_; clear hf fa; intro fa hf
  refine sqdt hf (d_alloc (z := (.agg #[(.int .u8 (0 : Int)), (.int .u64 (0 : Int))])) (cs := #[(.int .u8 (0 : Int)), (.int .u64 (0 : Int))]) (by kernel_rfl) rfl) rfl rfl rfl ?_; clear hf fa; rintro fa _ w6 ⟨b2, rfl, hle2, hk3, he5⟩ hf
  have hBb2 : w.heap.size ≤ b2 := Nat.le_trans hb.size hle2
  have : b1 < b2 := Nat.lt_of_lt_of_le (blk_lt hk2) hle2
  replace hk2 := blk_ext hk2 he5
  replace hb := hb.trans (Below.mono he5 hb.size)
  refine sqn hf (d_storeK (T := 86) (v := (.agg #[(.int .u8 ((doT op v).1)), (.int .u64 (((doT op v).2.1 : Nat) : Int))])) (cs := #[(.int .u8 (0 : Int)), (.int .u64 (0 : Int))]) (cs' := #[(.int .u8 ((doT op v).1)), (.int .u64 (((doT op v).2.1 : Nat) : Int))]) rfl rfl (by kernel_rfl) (by kernel_rfl) hk3 (by kernel_rfl) (by kernel_rfl)) rfl rfl ?_; clear hf fa; rintro fa _ w7 ⟨hk4, hg2⟩ hf
  replace hk2 := blk_grown hk2 hg2 (by omega)
  replace hb := hb.trans (grown_below hg2 hb.size hBb2)
  refine sqv hf (r_assign rfl) rfl rfl rfl ?_; clear hf fa; intro fa hf
  apply wpList_nil
  (try simp only [Exit.then, Exit.inBlock, ↓reduceIte, Nat.reduceEqDiff])
  refine hK5 _ _ ?_
  refine wp_seq_k (fun K6 hK6 => ?_)
  refine wp_region_lit ?_
  refine sqv hf (r_move rfl) rfl rfl rfl ?_; clear hf fa; intro fa hf
  refine sqv hf (r_move rfl) rfl rfl rfl ?_; clear hf fa; intro fa hf
  refine sqdt hf (d_callX (vs := [(.int .u64 ((v : Nat) : Int)), (.int .i64 n)]) rfl Try.func53 (by kernel_rfl) (by kernel_rfl) (bytes_any v n _ hv)) rfl rfl rfl ?_; clear hf fa; rintro fa v w8 ⟨hr1, he6⟩ hf; obtain ⟨ra1, rc1, rfl, hcrc1, hmrc1⟩ := Row.slice hr1
  replace hr1 := Row.rebase hr1 hb.size
  replace hk2 := blk_ext hk2 he6
  replace hk4 := blk_ext hk4 he6
  replace hb := hb.trans (Below.mono he6 hb.size)
  refine sqv hf (r_assign rfl) rfl rfl rfl ?_; clear hf fa; intro fa hf
  apply wpList_nil
  (try simp only [Exit.then, Exit.inBlock, ↓reduceIte, Nat.reduceEqDiff])
  refine hK6 _ _ ?_
  refine wp_seq_k (fun K7 hK7 => ?_)
  refine wp_region_un (fun wq => Below w8.heap.size w8 wq) (fun w w' => Below w.heap.size w w')
    (fun V => [(fun x _ => x = (.agg #[(.int .u8 ((doT op v).1)), (.int .u64 (((doT op v).2.1 : Nat) : Int))])), (fun x _ => x = (.agg #[(.int .u8 ((doT op v).1)), (.int .u64 (((doT op v).2.1 : Nat) : Int))])), (fun x _ => x = (.bool true)), (fun x _ => x = (.bool true)), (fun x _ => x = (.bool (doT op v).2.2)), (fun x _ => x = (.bool (doT op v).2.2)), (fun x _ => x = (.bool true)), (fun x _ => x = (.bool true)), (fun x _ => x = (.bool true)), (fun x _ => x = (.int .u64 ((v : Nat) : Int))), (fun x _ => x = (.int .i64 n)), (fun x _ => x = (.int .u64 (((extP v n) : Nat) : Int))), (fun x _ => x = (.int .u64 ((v : Nat) : Int))), (fun x _ => x = (.int .i64 n)), (fun x _ => x = (.int .u64 (((extP v n) : Nat) : Int))), (fun x _ => x = (.bool true)), (fun x _ => x = (.bool true)), (fun x _ => x = (.bool true)), (fun x _ => x = (.slice ra1 (((bytesN (capN n) v)).length) rc1)), (fun x _ => x = (.string (strOfNums (bytesN (capN n) v)))), (fun x _ => x = (.int .u64 ((v : Nat) : Int))), (fun x _ => x = (.int .i64 n)), (fun x _ => x = (.string (strOfNums (bytesN (capN n) v)))), (fun x _ => x = (.bool true)), (fun x _ => x = (.bool true)), (fun x _ => x = (.bool true)), (fun x _ => x = (.slice ra1 (((bytesN (capN n) v)).length) rc1)), (fun x _ => x = (.int .u64 (((numL (((bytesN (capN n) v)).take 8)) : Nat) : Int))), (fun x _ => x = (.slice ra1 (((bytesN (capN n) v)).length) rc1)), (fun x _ => x = (.string (strOfNums (bytesN (capN n) v)))), (fun x _ => x = (.int .u64 (((numL ((nums (strOfNums (bytesN (capN n) v))).take 8)) : Nat) : Int))), (fun x _ => x = (.bool true)), (fun x _ => x = (.bool true)), (fun x _ => x = (.bool true))])
    []
    [[], [], [0, 1], [2], [3], [3], [3, 4, 5], [3, 6], [3, 7], [8], [8], [8, 9, 10], [8], [8], [8, 11, 12, 13], [8, 11, 14], [8, 15], [14, 16], [17], [17, 18], [17], [17], [17, 20, 21], [17, 19, 22], [17, 23], [22, 24], [25], [25, 26], [25], [25, 28], [25, 27, 29], [25, 27, 30], [25, 31], [0, 1, 2, 3, 4, 5, 6, 7, 8, 9, 10, 11, 12, 13, 14, 15, 16, 17, 18, 19, 20, 21, 22, 23, 24, 25, 26, 27, 28, 29, 30, 31, 32]]
    hf (by kernel_rfl) (by kernel_rfl) (fun _ => rfl) ((Below.refl _ _).drew) (fun a b h1 h2 => h1.trans (h2.mono h1.size)) (fun _ _ h => h.size) (fun V => ⟨kept_eq, kept_eq, kept_eq, kept_eq, kept_eq, kept_eq, kept_eq, kept_eq, kept_eq, kept_eq, kept_eq, kept_eq, kept_eq, kept_eq, kept_eq, kept_eq, kept_eq, kept_eq, kept_eq, kept_eq, kept_eq, kept_eq, kept_eq, kept_eq, kept_eq, kept_eq, kept_eq, kept_eq, kept_eq, kept_eq, kept_eq, kept_eq, kept_eq, kept_eq, trivial⟩) (fun _ _ _ _ _ => rfl) ?_ ?_
  · skip
    intro V
    refine ⟨fun wu0 hC hd => ?_, ?_⟩
    · clear hd
      replace hb := hb.trans (hC.mono hb.size)
      replace hk2 := blk_ext hk2 hC
      replace hk4 := blk_ext hk4 hC
      replace hr1 := Row.ext hr1 hC
      exact Runs.does (r_loadA (cs := [(.int .u8 ((doT op v).1)), (.int .u64 (((doT op v).2.1 : Nat) : Int))]) rfl Try.underlying86 rfl (by kernel_rfl) (cellsAt_blk hk2)) ⟨Below.refl _ _, rfl, nofr rfl⟩
    refine ⟨fun wu1 hC hd => ?_, ?_⟩
    · clear hd
      replace hb := hb.trans (hC.mono hb.size)
      replace hk2 := blk_ext hk2 hC
      replace hk4 := blk_ext hk4 hC
      replace hr1 := Row.ext hr1 hC
      exact Runs.does (r_loadA (cs := [(.int .u8 ((doT op v).1)), (.int .u64 (((doT op v).2.1 : Nat) : Int))]) rfl Try.underlying86 rfl (by kernel_rfl) (cellsAt_blk hk4)) ⟨Below.refl _ _, rfl, nofr rfl⟩
    refine ⟨fun wu2 hC hd => ?_, ?_⟩
    · obtain ⟨h0, h1, _⟩ := hd
      skip
      skip
      replace h0 : V 0 = (.agg #[(.int .u8 ((doT op v).1)), (.int .u64 (((doT op v).2.1 : Nat) : Int))]) := h0
      replace h1 : V 1 = (.agg #[(.int .u8 ((doT op v).1)), (.int .u64 (((doT op v).2.1 : Nat) : Int))]) := h1
      replace hb := hb.trans (hC.mono hb.size)
      replace hk2 := blk_ext hk2 hC
      replace hk4 := blk_ext hk4 hC
      replace hr1 := Row.ext hr1 hC
      exact Runs.does (Runs.veq (r_aeq (k := 5) (congrArg some h0) (congrArg some h1) (by kernel_rfl) (eqt_struct (xs := #[(.int .u8 ((doT op v).1)), (.int .u64 (((doT op v).2.1 : Nat) : Int))]) (ys := #[(.int .u8 ((doT op v).1)), (.int .u64 (((doT op v).2.1 : Nat) : Int))]) Try.underlying86 (by kernel_rfl) (eqf_cons (by kernel_rfl) (fun _ => by kernel_rfl) (fun _ => by kernel_rfl) (eqt_int (kk := .u8) (a := ((doT op v).1)) (b := ((doT op v).1)) Try.underlying5) (eqf_one (by kernel_rfl) (fun _ => by kernel_rfl) (fun _ => by kernel_rfl) (eqt_int (kk := .u64) (a := (((doT op v).2.1 : Nat) : Int)) (b := (((doT op v).2.1 : Nat) : Int)) Try.underlying26)))) rfl) (congrArg Value.bool (show _ = true from (by simp)))) ⟨Below.refl _ _, rfl, nofr rfl⟩
    refine ⟨fun wu3 hC hd => ?_, ?_⟩
    · obtain ⟨h2, _⟩ := hd
      skip
      replace h2 : V 2 = (.bool true) := h2
      replace hb := hb.trans (hC.mono hb.size)
      replace hk2 := blk_ext hk2 hC
      replace hk4 := blk_ext hk4 hC
      replace hr1 := Row.ext hr1 hC
      exact Runs.does (r_move (congrArg some h2)) ⟨Below.refl _ _, rfl, nofr rfl⟩
    refine ⟨fun wu4 hC hd => ?_, ?_⟩
    · obtain ⟨h3, _⟩ := hd
      skip
      replace h3 : V 3 = (.bool true) := h3
      replace hb := hb.trans (hC.mono hb.size)
      replace hk2 := blk_ext hk2 hC
      replace hk4 := blk_ext hk4 hC
      replace hr1 := Row.ext hr1 hC
      refine ⟨true, true, congrArg some h3, fun hact => ?_, fun hact => ?_⟩
      · exact Runs.does (r_move rfl) ⟨Below.refl _ _, rfl, nofr rfl⟩
      · exfalso; simp at hact
    refine ⟨fun wu5 hC hd => ?_, ?_⟩
    · obtain ⟨h3, _⟩ := hd
      skip
      replace h3 : V 3 = (.bool true) := h3
      replace hb := hb.trans (hC.mono hb.size)
      replace hk2 := blk_ext hk2 hC
      replace hk4 := blk_ext hk4 hC
      replace hr1 := Row.ext hr1 hC
      refine ⟨true, true, congrArg some h3, fun hact => ?_, fun hact => ?_⟩
      · exact Runs.does (r_move rfl) ⟨Below.refl _ _, rfl, nofr rfl⟩
      · exfalso; simp at hact
    refine ⟨fun wu6 hC hd => ?_, ?_⟩
    · obtain ⟨h3, h4, h5, _⟩ := hd
      skip
      skip
      skip
      replace h3 : V 3 = (.bool true) := h3
      replace h4 : V 4 = (.bool (doT op v).2.2) := h4
      replace h5 : V 5 = (.bool (doT op v).2.2) := h5
      replace hb := hb.trans (hC.mono hb.size)
      replace hk2 := blk_ext hk2 hC
      replace hk4 := blk_ext hk4 hC
      replace hr1 := Row.ext hr1 hC
      refine ⟨true, true, congrArg some h3, fun hact => ?_, fun hact => ?_⟩
      · exact Runs.does (Runs.veq (r_beq Try.underlying4 (congrArg some h4) (congrArg some h5)) (congrArg Value.bool (show _ = true from (by simp)))) ⟨Below.refl _ _, rfl, nofr rfl⟩
      · exfalso; simp at hact
    refine ⟨fun wu7 hC hd => ?_, ?_⟩
    · obtain ⟨h3, h6, _⟩ := hd
      skip
      skip
      replace h3 : V 3 = (.bool true) := h3
      replace h6 : V 6 = (.bool true) := h6
      replace hb := hb.trans (hC.mono hb.size)
      replace hk2 := blk_ext hk2 hC
      replace hk4 := blk_ext hk4 hC
      replace hr1 := Row.ext hr1 hC
      exact Runs.does (r_pick (b := true) (congrArg some h3) (congrArg some h6) rfl rfl) ⟨Below.refl _ _, rfl, nofr rfl⟩
    refine ⟨fun wu8 hC hd => ?_, ?_⟩
    · obtain ⟨h3, h7, _⟩ := hd
      skip
      skip
      replace h3 : V 3 = (.bool true) := h3
      replace h7 : V 7 = (.bool true) := h7
      replace hb := hb.trans (hC.mono hb.size)
      replace hk2 := blk_ext hk2 hC
      replace hk4 := blk_ext hk4 hC
      replace hr1 := Row.ext hr1 hC
      exact Runs.does (r_move (congrArg some h7)) ⟨Below.refl _ _, rfl, nofr rfl⟩
    refine ⟨fun wu9 hC hd => ?_, ?_⟩
    · obtain ⟨h8, _⟩ := hd
      skip
      replace h8 : V 8 = (.bool true) := h8
      replace hb := hb.trans (hC.mono hb.size)
      replace hk2 := blk_ext hk2 hC
      replace hk4 := blk_ext hk4 hC
      replace hr1 := Row.ext hr1 hC
      refine ⟨true, true, congrArg some h8, fun hact => ?_, fun hact => ?_⟩
      · exact Runs.does (r_move rfl) ⟨Below.refl _ _, rfl, nofr rfl⟩
      · exfalso; simp at hact
    refine ⟨fun wu10 hC hd => ?_, ?_⟩
    · obtain ⟨h8, _⟩ := hd
      skip
      replace h8 : V 8 = (.bool true) := h8
      replace hb := hb.trans (hC.mono hb.size)
      replace hk2 := blk_ext hk2 hC
      replace hk4 := blk_ext hk4 hC
      replace hr1 := Row.ext hr1 hC
      refine ⟨true, true, congrArg some h8, fun hact => ?_, fun hact => ?_⟩
      · exact Runs.does (r_move rfl) ⟨Below.refl _ _, rfl, nofr rfl⟩
      · exfalso; simp at hact
    refine ⟨fun wu11 hC hd => ?_, ?_⟩
    · obtain ⟨h8, h9, h10, _⟩ := hd
      skip
      skip
      skip
      replace h8 : V 8 = (.bool true) := h8
      replace h9 : V 9 = (.int .u64 ((v : Nat) : Int)) := h9
      replace h10 : V 10 = (.int .i64 n) := h10
      replace hb := hb.trans (hC.mono hb.size)
      replace hk2 := blk_ext hk2 hC
      replace hk4 := blk_ext hk4 hC
      replace hr1 := Row.ext hr1 hC
      refine ⟨true, true, congrArg some h8, fun hact => ?_, fun hact => ?_⟩
      · refine Does.mono (d_callB (vs := [(.int .u64 ((v : Nat) : Int)), (.int .i64 n)]) (show [some (V 9), some (V 10)] = [some (.int .u64 ((v : Nat) : Int)), some (.int .i64 n)] from by rw [h9, h10]) Try.func54 (by kernel_rfl) (by kernel_rfl) (extend_any v n _ hv)) (fun _ _ h => ⟨h.2, h.1, nofr rfl⟩)
      · exfalso; simp at hact
    refine ⟨fun wu12 hC hd => ?_, ?_⟩
    · obtain ⟨h8, _⟩ := hd
      skip
      replace h8 : V 8 = (.bool true) := h8
      replace hb := hb.trans (hC.mono hb.size)
      replace hk2 := blk_ext hk2 hC
      replace hk4 := blk_ext hk4 hC
      replace hr1 := Row.ext hr1 hC
      refine ⟨true, true, congrArg some h8, fun hact => ?_, fun hact => ?_⟩
      · exact Runs.does (r_move rfl) ⟨Below.refl _ _, rfl, nofr rfl⟩
      · exfalso; simp at hact
    refine ⟨fun wu13 hC hd => ?_, ?_⟩
    · obtain ⟨h8, _⟩ := hd
      skip
      replace h8 : V 8 = (.bool true) := h8
      replace hb := hb.trans (hC.mono hb.size)
      replace hk2 := blk_ext hk2 hC
      replace hk4 := blk_ext hk4 hC
      replace hr1 := Row.ext hr1 hC
      refine ⟨true, true, congrArg some h8, fun hact => ?_, fun hact => ?_⟩
      · exact Runs.does (r_move rfl) ⟨Below.refl _ _, rfl, nofr rfl⟩
      · exfalso; simp at hact
    refine ⟨fun wu14 hC hd => ?_, ?_⟩
    · obtain ⟨h8, h11, h12, h13, _⟩ := hd
      skip
      skip
      skip
      skip
      replace h8 : V 8 = (.bool true) := h8
      replace h11 : V 11 = (.int .u64 (((extP v n) : Nat) : Int)) := h11
      replace h12 : V 12 = (.int .u64 ((v : Nat) : Int)) := h12
      replace h13 : V 13 = (.int .i64 n) := h13
      replace hb := hb.trans (hC.mono hb.size)
      replace hk2 := blk_ext hk2 hC
      replace hk4 := blk_ext hk4 hC
      replace hr1 := Row.ext hr1 hC
      refine ⟨true, true, congrArg some h8, fun hact => ?_, fun hact => ?_⟩
      · refine Does.mono (d_callB (vs := [(.int .u64 ((v : Nat) : Int)), (.int .i64 n)]) (show [some (V 12), some (V 13)] = [some (.int .u64 ((v : Nat) : Int)), some (.int .i64 n)] from by rw [h12, h13]) Try.func55 (by kernel_rfl) (by kernel_rfl) (rextend_any v n _ hv)) (fun _ _ h => ⟨h.2, h.1, nofr rfl⟩)
      · exfalso; simp at hact
    refine ⟨fun wu15 hC hd => ?_, ?_⟩
    · obtain ⟨h8, h11, h14, _⟩ := hd
      skip
      skip
      skip
      replace h8 : V 8 = (.bool true) := h8
      replace h11 : V 11 = (.int .u64 (((extP v n) : Nat) : Int)) := h11
      replace h14 : V 14 = (.int .u64 (((extP v n) : Nat) : Int)) := h14
      replace hb := hb.trans (hC.mono hb.size)
      replace hk2 := blk_ext hk2 hC
      replace hk4 := blk_ext hk4 hC
      replace hr1 := Row.ext hr1 hC
      refine ⟨true, true, congrArg some h8, fun hact => ?_, fun hact => ?_⟩
      · exact Runs.does (Runs.veq (r_eq (congrArg some h11) (congrArg some h14)) (congrArg Value.bool (show _ = true from (by simp)))) ⟨Below.refl _ _, rfl, nofr rfl⟩
      · exfalso; simp at hact
    refine ⟨fun wu16 hC hd => ?_, ?_⟩
    · obtain ⟨h8, h15, _⟩ := hd
      skip
      skip
      replace h8 : V 8 = (.bool true) := h8
      replace h15 : V 15 = (.bool true) := h15
      replace hb := hb.trans (hC.mono hb.size)
      replace hk2 := blk_ext hk2 hC
      replace hk4 := blk_ext hk4 hC
      replace hr1 := Row.ext hr1 hC
      exact Runs.does (r_pick (b := true) (congrArg some h8) (congrArg some h15) rfl rfl) ⟨Below.refl _ _, rfl, nofr rfl⟩
    refine ⟨fun wu17 hC hd => ?_, ?_⟩
    · obtain ⟨h14, h16, _⟩ := hd
      skip
      skip
      replace h14 : V 14 = (.int .u64 (((extP v n) : Nat) : Int)) := h14
      replace h16 : V 16 = (.bool true) := h16
      replace hb := hb.trans (hC.mono hb.size)
      replace hk2 := blk_ext hk2 hC
      replace hk4 := blk_ext hk4 hC
      replace hr1 := Row.ext hr1 hC
      exact Runs.does (r_move (congrArg some h16)) ⟨Below.refl _ _, rfl, nofr rfl⟩
    refine ⟨fun wu18 hC hd => ?_, ?_⟩
    · obtain ⟨h17, _⟩ := hd
      skip
      replace h17 : V 17 = (.bool true) := h17
      replace hb := hb.trans (hC.mono hb.size)
      replace hk2 := blk_ext hk2 hC
      replace hk4 := blk_ext hk4 hC
      replace hr1 := Row.ext hr1 hC
      refine ⟨true, true, congrArg some h17, fun hact => ?_, fun hact => ?_⟩
      · exact Runs.does (r_move rfl) ⟨Below.refl _ _, rfl, nofr rfl⟩
      · exfalso; simp at hact
    refine ⟨fun wu19 hC hd => ?_, ?_⟩
    · obtain ⟨h17, h18, _⟩ := hd
      skip
      skip
      replace h17 : V 17 = (.bool true) := h17
      replace h18 : V 18 = (.slice ra1 (((bytesN (capN n) v)).length) rc1) := h18
      replace hb := hb.trans (hC.mono hb.size)
      replace hk2 := blk_ext hk2 hC
      replace hk4 := blk_ext hk4 hC
      replace hr1 := Row.ext hr1 hC
      refine ⟨true, true, congrArg some h17, fun hact => ?_, fun hact => ?_⟩
      · exact Runs.does (r_rowstr (congrArg some h18) Try.underlying84 Try.underlying5 Try.underlying9 hr1) ⟨Below.refl _ _, rfl, nofr rfl⟩
      · exfalso; simp at hact
    refine ⟨fun wu20 hC hd => ?_, ?_⟩
    · obtain ⟨h17, _⟩ := hd
      skip
      replace h17 : V 17 = (.bool true) := h17
      replace hb := hb.trans (hC.mono hb.size)
      replace hk2 := blk_ext hk2 hC
      replace hk4 := blk_ext hk4 hC
      replace hr1 := Row.ext hr1 hC
      refine ⟨true, true, congrArg some h17, fun hact => ?_, fun hact => ?_⟩
      · exact Runs.does (r_move rfl) ⟨Below.refl _ _, rfl, nofr rfl⟩
      · exfalso; simp at hact
    refine ⟨fun wu21 hC hd => ?_, ?_⟩
    · obtain ⟨h17, _⟩ := hd
      skip
      replace h17 : V 17 = (.bool true) := h17
      replace hb := hb.trans (hC.mono hb.size)
      replace hk2 := blk_ext hk2 hC
      replace hk4 := blk_ext hk4 hC
      replace hr1 := Row.ext hr1 hC
      refine ⟨true, true, congrArg some h17, fun hact => ?_, fun hact => ?_⟩
      · exact Runs.does (r_move rfl) ⟨Below.refl _ _, rfl, nofr rfl⟩
      · exfalso; simp at hact
    refine ⟨fun wu22 hC hd => ?_, ?_⟩
    · obtain ⟨h17, h20, h21, _⟩ := hd
      skip
      skip
      skip
      replace h17 : V 17 = (.bool true) := h17
      replace h20 : V 20 = (.int .u64 ((v : Nat) : Int)) := h20
      replace h21 : V 21 = (.int .i64 n) := h21
      replace hb := hb.trans (hC.mono hb.size)
      replace hk2 := blk_ext hk2 hC
      replace hk4 := blk_ext hk4 hC
      replace hr1 := Row.ext hr1 hC
      refine ⟨true, true, congrArg some h17, fun hact => ?_, fun hact => ?_⟩
      · refine Does.mono (d_callB (vs := [(.int .u64 ((v : Nat) : Int)), (.int .i64 n)]) (show [some (V 20), some (V 21)] = [some (.int .u64 ((v : Nat) : Int)), some (.int .i64 n)] from by rw [h20, h21]) Try.func50 (by kernel_rfl) (by kernel_rfl) (dbytes_any v n _ hv)) (fun _ _ h => ⟨h.2, h.1, nofr rfl⟩)
      · exfalso; simp at hact
    refine ⟨fun wu23 hC hd => ?_, ?_⟩
    · obtain ⟨h17, h19, h22, _⟩ := hd
      skip
      skip
      skip
      replace h17 : V 17 = (.bool true) := h17
      replace h19 : V 19 = (.string (strOfNums (bytesN (capN n) v))) := h19
      replace h22 : V 22 = (.string (strOfNums (bytesN (capN n) v))) := h22
      replace hb := hb.trans (hC.mono hb.size)
      replace hk2 := blk_ext hk2 hC
      replace hk4 := blk_ext hk4 hC
      replace hr1 := Row.ext hr1 hC
      refine ⟨true, true, congrArg some h17, fun hact => ?_, fun hact => ?_⟩
      · exact Runs.does (Runs.veq (r_seq (congrArg some h19) (congrArg some h22)) (congrArg Value.bool (show _ = true from (by simp)))) ⟨Below.refl _ _, rfl, nofr rfl⟩
      · exfalso; simp at hact
    refine ⟨fun wu24 hC hd => ?_, ?_⟩
    · obtain ⟨h17, h23, _⟩ := hd
      skip
      skip
      replace h17 : V 17 = (.bool true) := h17
      replace h23 : V 23 = (.bool true) := h23
      replace hb := hb.trans (hC.mono hb.size)
      replace hk2 := blk_ext hk2 hC
      replace hk4 := blk_ext hk4 hC
      replace hr1 := Row.ext hr1 hC
      exact Runs.does (r_pick (b := true) (congrArg some h17) (congrArg some h23) rfl rfl) ⟨Below.refl _ _, rfl, nofr rfl⟩
    refine ⟨fun wu25 hC hd => ?_, ?_⟩
    · obtain ⟨h22, h24, _⟩ := hd
      skip
      skip
      replace h22 : V 22 = (.string (strOfNums (bytesN (capN n) v))) := h22
      replace h24 : V 24 = (.bool true) := h24
      replace hb := hb.trans (hC.mono hb.size)
      replace hk2 := blk_ext hk2 hC
      replace hk4 := blk_ext hk4 hC
      replace hr1 := Row.ext hr1 hC
      exact Runs.does (r_move (congrArg some h24)) ⟨Below.refl _ _, rfl, nofr rfl⟩
    refine ⟨fun wu26 hC hd => ?_, ?_⟩
    · obtain ⟨h25, _⟩ := hd
      skip
      replace h25 : V 25 = (.bool true) := h25
      replace hb := hb.trans (hC.mono hb.size)
      replace hk2 := blk_ext hk2 hC
      replace hk4 := blk_ext hk4 hC
      replace hr1 := Row.ext hr1 hC
      refine ⟨true, true, congrArg some h25, fun hact => ?_, fun hact => ?_⟩
      · exact Runs.does (r_move rfl) ⟨Below.refl _ _, rfl, nofr rfl⟩
      · exfalso; simp at hact
    refine ⟨fun wu27 hC hd => ?_, ?_⟩
    · obtain ⟨h25, h26, _⟩ := hd
      skip
      skip
      replace h25 : V 25 = (.bool true) := h25
      replace h26 : V 26 = (.slice ra1 (((bytesN (capN n) v)).length) rc1) := h26
      replace hb := hb.trans (hC.mono hb.size)
      replace hk2 := blk_ext hk2 hC
      replace hk4 := blk_ext hk4 hC
      replace hr1 := Row.ext hr1 hC
      refine ⟨true, true, congrArg some h25, fun hact => ?_, fun hact => ?_⟩
      · refine Does.mono (d_callB (vs := [(.slice ra1 (((bytesN (capN n) v)).length) rc1)]) (show [some (V 26)] = [some (.slice ra1 (((bytesN (capN n) v)).length) rc1)] from by rw [h26]) Try.func48 (by kernel_rfl) (by kernel_rfl) (number_any _ (bytesN (capN n) v) _ _ (Row.rd (by intros; rfl) hr1) (bytesN_rng _ _) (by rw [bytesN_len]; have := capN_le n; omega))) (fun _ _ h => ⟨h.2, h.1, nofr rfl⟩)
      · exfalso; simp at hact
    refine ⟨fun wu28 hC hd => ?_, ?_⟩
    · obtain ⟨h25, _⟩ := hd
      skip
      replace h25 : V 25 = (.bool true) := h25
      replace hb := hb.trans (hC.mono hb.size)
      replace hk2 := blk_ext hk2 hC
      replace hk4 := blk_ext hk4 hC
      replace hr1 := Row.ext hr1 hC
      refine ⟨true, true, congrArg some h25, fun hact => ?_, fun hact => ?_⟩
      · exact Runs.does (r_move rfl) ⟨Below.refl _ _, rfl, nofr rfl⟩
      · exfalso; simp at hact
    refine ⟨fun wu29 hC hd => ?_, ?_⟩
    · obtain ⟨h25, h28, _⟩ := hd
      skip
      skip
      replace h25 : V 25 = (.bool true) := h25
      replace h28 : V 28 = (.slice ra1 (((bytesN (capN n) v)).length) rc1) := h28
      replace hb := hb.trans (hC.mono hb.size)
      replace hk2 := blk_ext hk2 hC
      replace hk4 := blk_ext hk4 hC
      replace hr1 := Row.ext hr1 hC
      refine ⟨true, true, congrArg some h25, fun hact => ?_, fun hact => ?_⟩
      · exact Runs.does (r_rowstr (congrArg some h28) Try.underlying84 Try.underlying5 Try.underlying9 hr1) ⟨Below.refl _ _, rfl, nofr rfl⟩
      · exfalso; simp at hact
    refine ⟨fun wu30 hC hd => ?_, ?_⟩
    · obtain ⟨h25, h27, h29, _⟩ := hd
      skip
      skip
      skip
      replace h25 : V 25 = (.bool true) := h25
      replace h27 : V 27 = (.int .u64 (((numL (((bytesN (capN n) v)).take 8)) : Nat) : Int)) := h27
      replace h29 : V 29 = (.string (strOfNums (bytesN (capN n) v))) := h29
      replace hb := hb.trans (hC.mono hb.size)
      replace hk2 := blk_ext hk2 hC
      replace hk4 := blk_ext hk4 hC
      replace hr1 := Row.ext hr1 hC
      refine ⟨true, true, congrArg some h25, fun hact => ?_, fun hact => ?_⟩
      · refine Does.mono (d_callB (vs := [(.string (strOfNums (bytesN (capN n) v)))]) (show [some (V 29)] = [some (.string (strOfNums (bytesN (capN n) v)))] from by rw [h29]) Try.func49 (by kernel_rfl) (by kernel_rfl) (dnumber_any _ _ (by rw [strOfNums_size, bytesN_len]; have := capN_le n; omega))) (fun _ _ h => ⟨h.2, h.1, nofr rfl⟩)
      · exfalso; simp at hact
    refine ⟨fun wu31 hC hd => ?_, ?_⟩
    · obtain ⟨h25, h27, h30, _⟩ := hd
      skip
      skip
      skip
      replace h25 : V 25 = (.bool true) := h25
      replace h27 : V 27 = (.int .u64 (((numL (((bytesN (capN n) v)).take 8)) : Nat) : Int)) := h27
      replace h30 : V 30 = (.int .u64 (((numL ((nums (strOfNums (bytesN (capN n) v))).take 8)) : Nat) : Int)) := h30
      replace hb := hb.trans (hC.mono hb.size)
      replace hk2 := blk_ext hk2 hC
      replace hk4 := blk_ext hk4 hC
      replace hr1 := Row.ext hr1 hC
      refine ⟨true, true, congrArg some h25, fun hact => ?_, fun hact => ?_⟩
      · exact Runs.does (Runs.veq (r_eq (congrArg some h27) (congrArg some h30)) (congrArg Value.bool (show _ = true from (by simp [nums_str (bytesN_rng _ _)])))) ⟨Below.refl _ _, rfl, nofr rfl⟩
      · exfalso; simp at hact
    refine ⟨fun wu32 hC hd => ?_, ?_⟩
    · obtain ⟨h25, h31, _⟩ := hd
      skip
      skip
      replace h25 : V 25 = (.bool true) := h25
      replace h31 : V 31 = (.bool true) := h31
      replace hb := hb.trans (hC.mono hb.size)
      replace hk2 := blk_ext hk2 hC
      replace hk4 := blk_ext hk4 hC
      replace hr1 := Row.ext hr1 hC
      exact Runs.does (r_pick (b := true) (congrArg some h25) (congrArg some h31) rfl rfl) ⟨Below.refl _ _, rfl, nofr rfl⟩
    refine ⟨fun wu33 hC hd => ?_, ?_⟩
    · obtain ⟨h0, h1, h2, h3, h4, h5, h6, h7, h8, h9, h10, h11, h12, h13, h14, h15, h16, h17, h18, h19, h20, h21, h22, h23, h24, h25, h26, h27, h28, h29, h30, h31, h32, _⟩ := hd
      skip
      skip
      skip
      skip
      skip
      skip
      skip
      skip
      skip
      skip
      skip
      skip
      skip
      skip
      skip
      skip
      skip
      skip
      skip
      skip
      skip
      skip
      skip
      skip
      skip
      skip
      skip
      skip
      skip
      skip
      skip
      skip
      skip
      replace h0 : V 0 = (.agg #[(.int .u8 ((doT op v).1)), (.int .u64 (((doT op v).2.1 : Nat) : Int))]) := h0
      replace h1 : V 1 = (.agg #[(.int .u8 ((doT op v).1)), (.int .u64 (((doT op v).2.1 : Nat) : Int))]) := h1
      replace h2 : V 2 = (.bool true) := h2
      replace h3 : V 3 = (.bool true) := h3
      replace h4 : V 4 = (.bool (doT op v).2.2) := h4
      replace h5 : V 5 = (.bool (doT op v).2.2) := h5
      replace h6 : V 6 = (.bool true) := h6
      replace h7 : V 7 = (.bool true) := h7
      replace h8 : V 8 = (.bool true) := h8
      replace h9 : V 9 = (.int .u64 ((v : Nat) : Int)) := h9
      replace h10 : V 10 = (.int .i64 n) := h10
      replace h11 : V 11 = (.int .u64 (((extP v n) : Nat) : Int)) := h11
      replace h12 : V 12 = (.int .u64 ((v : Nat) : Int)) := h12
      replace h13 : V 13 = (.int .i64 n) := h13
      replace h14 : V 14 = (.int .u64 (((extP v n) : Nat) : Int)) := h14
      replace h15 : V 15 = (.bool true) := h15
      replace h16 : V 16 = (.bool true) := h16
      replace h17 : V 17 = (.bool true) := h17
      replace h18 : V 18 = (.slice ra1 (((bytesN (capN n) v)).length) rc1) := h18
      replace h19 : V 19 = (.string (strOfNums (bytesN (capN n) v))) := h19
      replace h20 : V 20 = (.int .u64 ((v : Nat) : Int)) := h20
      replace h21 : V 21 = (.int .i64 n) := h21
      replace h22 : V 22 = (.string (strOfNums (bytesN (capN n) v))) := h22
      replace h23 : V 23 = (.bool true) := h23
      replace h24 : V 24 = (.bool true) := h24
      replace h25 : V 25 = (.bool true) := h25
      replace h26 : V 26 = (.slice ra1 (((bytesN (capN n) v)).length) rc1) := h26
      replace h27 : V 27 = (.int .u64 (((numL (((bytesN (capN n) v)).take 8)) : Nat) : Int)) := h27
      replace h28 : V 28 = (.slice ra1 (((bytesN (capN n) v)).length) rc1) := h28
      replace h29 : V 29 = (.string (strOfNums (bytesN (capN n) v))) := h29
      replace h30 : V 30 = (.int .u64 (((numL ((nums (strOfNums (bytesN (capN n) v))).take 8)) : Nat) : Int)) := h30
      replace h31 : V 31 = (.bool true) := h31
      replace h32 : V 32 = (.bool true) := h32
      replace hb := hb.trans (hC.mono hb.size)
      replace hk2 := blk_ext hk2 hC
      replace hk4 := blk_ext hk4 hC
      replace hr1 := Row.ext hr1 hC
      exact Runs.does (r_assign (congrArg some h32)) ⟨Below.refl _ _, rfl, nofr rfl⟩
    trivial
  · skip
    clear hf fa; intro V w9 fa he7 hp hnb hf
    have hv0 : V 0 = (.agg #[(.int .u8 ((doT op v).1)), (.int .u64 (((doT op v).2.1 : Nat) : Int))]) := postsHold_at hp 0 rfl
    have hv1 : V 1 = (.agg #[(.int .u8 ((doT op v).1)), (.int .u64 (((doT op v).2.1 : Nat) : Int))]) := postsHold_at hp 1 rfl
    have hv2 : V 2 = (.bool true) := postsHold_at hp 2 rfl
    have hv3 : V 3 = (.bool true) := postsHold_at hp 3 rfl
    have hv4 : V 4 = (.bool (doT op v).2.2) := postsHold_at hp 4 rfl
    have hv5 : V 5 = (.bool (doT op v).2.2) := postsHold_at hp 5 rfl
    have hv6 : V 6 = (.bool true) := postsHold_at hp 6 rfl
    have hv7 : V 7 = (.bool true) := postsHold_at hp 7 rfl
    have hv8 : V 8 = (.bool true) := postsHold_at hp 8 rfl
    have hv9 : V 9 = (.int .u64 ((v : Nat) : Int)) := postsHold_at hp 9 rfl
    have hv10 : V 10 = (.int .i64 n) := postsHold_at hp 10 rfl
    have hv11 : V 11 = (.int .u64 (((extP v n) : Nat) : Int)) := postsHold_at hp 11 rfl
    have hv12 : V 12 = (.int .u64 ((v : Nat) : Int)) := postsHold_at hp 12 rfl
    have hv13 : V 13 = (.int .i64 n) := postsHold_at hp 13 rfl
    have hv14 : V 14 = (.int .u64 (((extP v n) : Nat) : Int)) := postsHold_at hp 14 rfl
    have hv15 : V 15 = (.bool true) := postsHold_at hp 15 rfl
    have hv16 : V 16 = (.bool true) := postsHold_at hp 16 rfl
    have hv17 : V 17 = (.bool true) := postsHold_at hp 17 rfl
    have hv18 : V 18 = (.slice ra1 (((bytesN (capN n) v)).length) rc1) := postsHold_at hp 18 rfl
    have hv19 : V 19 = (.string (strOfNums (bytesN (capN n) v))) := postsHold_at hp 19 rfl
    have hv20 : V 20 = (.int .u64 ((v : Nat) : Int)) := postsHold_at hp 20 rfl
    have hv21 : V 21 = (.int .i64 n) := postsHold_at hp 21 rfl
    have hv22 : V 22 = (.string (strOfNums (bytesN (capN n) v))) := postsHold_at hp 22 rfl
    have hv23 : V 23 = (.bool true) := postsHold_at hp 23 rfl
    have hv24 : V 24 = (.bool true) := postsHold_at hp 24 rfl
    have hv25 : V 25 = (.bool true) := postsHold_at hp 25 rfl
    have hv26 : V 26 = (.slice ra1 (((bytesN (capN n) v)).length) rc1) := postsHold_at hp 26 rfl
    have hv27 : V 27 = (.int .u64 (((numL (((bytesN (capN n) v)).take 8)) : Nat) : Int)) := postsHold_at hp 27 rfl
    have hv28 : V 28 = (.slice ra1 (((bytesN (capN n) v)).length) rc1) := postsHold_at hp 28 rfl
    have hv29 : V 29 = (.string (strOfNums (bytesN (capN n) v))) := postsHold_at hp 29 rfl
    have hv30 : V 30 = (.int .u64 (((numL ((nums (strOfNums (bytesN (capN n) v))).take 8)) : Nat) : Int)) := postsHold_at hp 30 rfl
    have hv31 : V 31 = (.bool true) := postsHold_at hp 31 rfl
    have hv32 : V 32 = (.bool true) := postsHold_at hp 32 rfl
    have hv33 : V 33 = (.bool true) := postsHold_at hp 33 rfl
    simp only [List.take_succ_cons, List.take_zero, insAll, ins, hv0, hv1, hv2, hv3, hv4, hv5, hv6, hv7, hv8, hv9, hv10, hv11, hv12, hv13, hv14, hv15, hv16, hv17, hv18, hv19, hv20, hv21, hv22, hv23, hv24, hv25, hv26, hv27, hv28, hv29, hv30, hv31, hv32, hv33] at hf
    clear hp hnb hv0 hv1 hv2 hv3 hv4 hv5 hv6 hv7 hv8 hv9 hv10 hv11 hv12 hv13 hv14 hv15 hv16 hv17 hv18 hv19 hv20 hv21 hv22 hv23 hv24 hv25 hv26 hv27 hv28 hv29 hv30 hv31 hv32 hv33
    replace hk2 := blk_ext hk2 he7
    replace hk4 := blk_ext hk4 he7
    replace hr1 := Row.ext hr1 he7
    replace hb := hb.trans (Below.mono he7 hb.size)
    (try simp only [Exit.then, Exit.inBlock, ↓reduceIte, Nat.reduceEqDiff])
    refine hK7 _ _ ?_
    refine wp_ret ?_
    (try simp only [Exit.then, Exit.inBlock])
    refine ret1 hf rfl rfl ?_
    exact ⟨rfl, hb⟩
end Go.Proofs.Ytmcmickgllffoaa
