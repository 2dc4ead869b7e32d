/- What is proved here: GaugeOrders walked. -/
import Derived.Test.YtbllifhcfgjdlaaGgC
namespace Go.Proofs.Ytbllifhcfgjdlaa
open Go.RowKit
set_option linter.unusedVariables false
set_option linter.unusedSimpArgs false
set_option maxHeartbeats 1000000 in
set_option maxRecDepth 100000 in
theorem orders_any (ff gg : Nat) (hx : ff < 18446744073709551616) (hy : gg < 18446744073709551616) (n0 n1 : Int) (w : World) : Calls Try.prog 3 #[(.float .f64 ff), (.float .f64 gg), (.agg #[(.int .i64 n0), (.int .i64 n1)])] w fun e w' => e = .returned (.bool true) ∧ Below w.heap.size w w' := by
  refine sx_enter (L := [(0, (.float .f64 ff)), (1, (.float .f64 gg)), (2, (.agg #[(.int .i64 n0), (.int .i64 n1)]))]) Try.func3 rfl rfl rfl rfl (fun fa hf => ?_)
  have hb : Below w.heap.size w w := Below.refl _ _
  refine wp_seq_k (fun K1 hK1 => ?_)
  refine wp_region_lit ?_
  refine sqdt hf (d_box (cs := #[(.int .i64 n0), (.int .i64 n1)]) rfl rfl) rfl rfl rfl ?_; clear hf fa; rintro fa _ w1 ⟨b1, rfl, hle1, hk1, he1⟩ hf
  have hBb1 : w.heap.size ≤ b1 := Nat.le_trans hb.size hle1
  replace hb := hb.trans (Below.mono he1 hb.size)
  refine sqv hf (r_assign rfl) rfl rfl rfl ?_; clear hf fa; intro fa hf
  apply wpList_nil
  (try simp only [Exit.then, Exit.inBlock, ↓reduceIte, Nat.reduceEqDiff])
  refine hK1 _ _ ?_
  refine wp_seq_k (fun K2 hK2 => ?_)
  refine wp_seq_k (fun K3 hK3 => ?_)
  refine wp_region_lit ?_
  refine sqdt hf (d_callB (vs := []) rfl Try.func6 (by kernel_rfl) (by kernel_rfl) (awake48_any _)) rfl rfl rfl ?_; clear hf fa; rintro fa _ w2 ⟨rfl, he2⟩ hf
  replace hk1 := blk_ext hk1 he2
  replace hb := hb.trans (Below.mono he2 hb.size)
  refine sqv hf (Runs.veq (v' := (.bool false)) (r_not rfl) rfl) rfl rfl rfl ?_; clear hf fa; intro fa hf
  apply wpList_nil
  (try simp only [Exit.then, Exit.inBlock, ↓reduceIte, Nat.reduceEqDiff])
  refine hK3 _ _ ?_
  refine wp_cond_false (hf.ev rfl) ?_
  refine wp_skip ?_
  (try simp only [Exit.then, Exit.inBlock, ↓reduceIte, Nat.reduceEqDiff])
  refine hK2 _ _ ?_
  refine wp_seq_k (fun K4 hK4 => ?_)
  have hrg := ord_range ff gg
  have hrg2 := ord_range gg ff
  refine wp_region_un (fun wq => Below w2.heap.size w2 wq) (fun w w' => Below w.heap.size w w')
    (fun V => [(fun x _ => x = (.float .f64 ff)), (fun x _ => x = (.int .i64 (kindN ff))), (fun x _ => x = (.float .f64 ff)), (fun x _ => x = (.int .i64 (kindN ff))), (fun x _ => x = (.bool true)), (fun x _ => x = (.bool true)), (fun x _ => x = (.float .f64 ff)), (fun x _ => x = (.float .f64 gg)), (fun x _ => x = (.int .i64 (ordN ff gg))), (fun x _ => x = (.float .f64 ff)), (fun x _ => x = (.float .f64 gg)), (fun x _ => x = (.int .i64 (ordN ff gg))), (fun x _ => x = (.bool true)), (fun x _ => x = (.bool true)), (fun x _ => x = (.bool true)), (fun x _ => x = (.float .f64 gg)), (fun x _ => x = (.float .f64 ff)), (fun x _ => x = (.int .i64 (ordN gg ff))), (fun x _ => x = (.float .f64 ff)), (fun x _ => x = (.float .f64 gg)), (fun x _ => x = (.int .i64 (ordN ff gg))), (fun x _ => x = (.int .i64 ((0 : Int) - (ordN ff gg)))), (fun x _ => x = (.bool true)), (fun x _ => x = (.bool true)), (fun x _ => x = (.bool true)), (fun x _ => x = (.float .f64 ff)), (fun x _ => x = (.float .f64 ff)), (fun x _ => x = (.int .i64 (ordN ff ff))), (fun x _ => x = (.bool true)), (fun x _ => x = (.bool true)), (fun x _ => x = (.bool true)), (fun x _ => x = (.pointer (some ⟨b1, 0, none⟩))), (fun x _ => x = (.int .i64 n0)), (fun x _ => x = (.pointer (some ⟨b1, 1, none⟩))), (fun x _ => x = (.int .i64 n1)), (fun x _ => ∃ kq : Nat, x = (Value.float .f64 kq) ∧ FRes .quo (floatOfInt .f64 n0) (floatOfInt .f64 n1) kq), (fun x _ => x = (.pointer (some ⟨b1, 0, none⟩))), (fun x _ => x = (.int .i64 n0)), (fun x _ => x = (.float .f64 (floatOfInt .f64 n0))), (fun x _ => x = (.pointer (some ⟨b1, 1, none⟩))), (fun x _ => x = (.int .i64 n1)), (fun x _ => x = (.float .f64 (floatOfInt .f64 n1))), (fun x _ => ∃ r : Nat, x = Value.float .f64 r ∧ FRes .quo (floatOfInt .f64 n0) (floatOfInt .f64 n1) r), (fun x _ => x = (.bool true)), (fun x _ => x = (.bool true)), (fun x _ => x = (.bool true))])
    []
    [[], [0], [], [1, 2], [1, 3], [3, 4], [5], [5], [5, 6, 7], [5], [5], [5, 8, 9, 10], [5, 8, 11], [5, 12], [11, 13], [14], [14], [14, 15, 16], [14], [14], [14, 17, 18, 19], [14, 20], [14, 17, 21], [14, 22], [20, 23], [24], [24], [24, 25, 26], [24, 27], [24, 28], [27, 29], [30], [30, 31], [30], [30, 33], [30, 32, 34], [30], [30, 36], [30, 37], [30], [30, 39], [30, 40], [30, 38, 41], [30, 35, 42], [30, 43], [0, 1, 2, 3, 4, 5, 6, 7, 8, 9, 10, 11, 12, 13, 14, 15, 16, 17, 18, 19, 20, 21, 22, 23, 24, 25, 26, 27, 28, 29, 30, 31, 32, 33, 34, 35, 36, 37, 38, 39, 40, 41, 42, 43, 44]]
    hf (by kernel_rfl) (by kernel_rfl) (fun _ => rfl) ((Below.refl _ _).drew) (fun a b h1 h2 => h1.trans (h2.mono h1.size)) (fun _ _ h => h.size) (fun V => ⟨kept_eq, kept_eq, kept_eq, kept_eq, kept_eq, kept_eq, kept_eq, kept_eq, kept_eq, kept_eq, kept_eq, kept_eq, kept_eq, kept_eq, kept_eq, kept_eq, kept_eq, kept_eq, kept_eq, kept_eq, kept_eq, kept_eq, kept_eq, kept_eq, kept_eq, kept_eq, kept_eq, kept_eq, kept_eq, kept_eq, kept_eq, kept_eq, kept_eq, kept_eq, kept_eq, (fun _ _ _ h _ => h), kept_eq, kept_eq, kept_eq, kept_eq, kept_eq, kept_eq, (fun _ _ _ h _ => h), kept_eq, kept_eq, kept_eq, trivial⟩) (fun _ _ _ _ _ => rfl) ?_ ?_
  · skip
    intro V
    refine ⟨fun wu0 hC hd => ?_, ?_⟩
    · clear hd
      replace hb := hb.trans (hC.mono hb.size)
      replace hk1 := blk_ext hk1 hC
      exact Runs.does (r_move rfl) ⟨Below.refl _ _, rfl, nofr rfl⟩
    refine ⟨fun wu1 hC hd => ?_, ?_⟩
    · obtain ⟨h0, _⟩ := hd
      skip
      replace h0 : V 0 = (.float .f64 ff) := h0
      replace hb := hb.trans (hC.mono hb.size)
      replace hk1 := blk_ext hk1 hC
      refine Does.mono (d_callB (vs := [(.float .f64 ff)]) (show [some (V 0)] = [some (.float .f64 ff)] from by rw [h0]) Try.func7 (by kernel_rfl) (by kernel_rfl) (kind_any ff (by first | assumption | omega) _)) (fun _ _ h => ⟨h.2, h.1, nofr rfl⟩)
    refine ⟨fun wu2 hC hd => ?_, ?_⟩
    · clear hd
      replace hb := hb.trans (hC.mono hb.size)
      replace hk1 := blk_ext hk1 hC
      exact Runs.does (r_move rfl) ⟨Below.refl _ _, rfl, nofr rfl⟩
    refine ⟨fun wu3 hC hd => ?_, ?_⟩
    · obtain ⟨h1, h2, _⟩ := hd
      skip
      skip
      replace h1 : V 1 = (.int .i64 (kindN ff)) := h1
      replace h2 : V 2 = (.float .f64 ff) := h2
      replace hb := hb.trans (hC.mono hb.size)
      replace hk1 := blk_ext hk1 hC
      refine Does.mono (d_callB (vs := [(.float .f64 ff)]) (show [some (V 2)] = [some (.float .f64 ff)] from by rw [h2]) Try.func8 (by kernel_rfl) (by kernel_rfl) (rkind_any ff (by first | assumption | omega) _)) (fun _ _ h => ⟨h.2, h.1, nofr rfl⟩)
    refine ⟨fun wu4 hC hd => ?_, ?_⟩
    · obtain ⟨h1, h3, _⟩ := hd
      skip
      skip
      replace h1 : V 1 = (.int .i64 (kindN ff)) := h1
      replace h3 : V 3 = (.int .i64 (kindN ff)) := h3
      replace hb := hb.trans (hC.mono hb.size)
      replace hk1 := blk_ext hk1 hC
      exact Runs.does (Runs.veq (r_eq (congrArg some h1) (congrArg some h3)) (congrArg Value.bool (show _ = true from (by simp)))) ⟨Below.refl _ _, rfl, nofr rfl⟩
    refine ⟨fun wu5 hC hd => ?_, ?_⟩
    · obtain ⟨h3, h4, _⟩ := hd
      skip
      skip
      replace h3 : V 3 = (.int .i64 (kindN ff)) := h3
      replace h4 : V 4 = (.bool true) := h4
      replace hb := hb.trans (hC.mono hb.size)
      replace hk1 := blk_ext hk1 hC
      exact Runs.does (r_move (congrArg some h4)) ⟨Below.refl _ _, rfl, nofr rfl⟩
    refine ⟨fun wu6 hC hd => ?_, ?_⟩
    · obtain ⟨h5, _⟩ := hd
      skip
      replace h5 : V 5 = (.bool true) := h5
      replace hb := hb.trans (hC.mono hb.size)
      replace hk1 := blk_ext hk1 hC
      refine ⟨true, true, congrArg some h5, fun hact => ?_, fun hact => ?_⟩
      · exact Runs.does (r_move rfl) ⟨Below.refl _ _, rfl, nofr rfl⟩
      · exfalso; simp at hact
    refine ⟨fun wu7 hC hd => ?_, ?_⟩
    · obtain ⟨h5, _⟩ := hd
      skip
      replace h5 : V 5 = (.bool true) := h5
      replace hb := hb.trans (hC.mono hb.size)
      replace hk1 := blk_ext hk1 hC
      refine ⟨true, true, congrArg some h5, fun hact => ?_, fun hact => ?_⟩
      · exact Runs.does (r_move rfl) ⟨Below.refl _ _, rfl, nofr rfl⟩
      · exfalso; simp at hact
    refine ⟨fun wu8 hC hd => ?_, ?_⟩
    · obtain ⟨h5, h6, h7, _⟩ := hd
      skip
      skip
      skip
      replace h5 : V 5 = (.bool true) := h5
      replace h6 : V 6 = (.float .f64 ff) := h6
      replace h7 : V 7 = (.float .f64 gg) := h7
      replace hb := hb.trans (hC.mono hb.size)
      replace hk1 := blk_ext hk1 hC
      refine ⟨true, true, congrArg some h5, fun hact => ?_, fun hact => ?_⟩
      · refine Does.mono (d_callB (vs := [(.float .f64 ff), (.float .f64 gg)]) (show [some (V 6), some (V 7)] = [some (.float .f64 ff), some (.float .f64 gg)] from by rw [h6, h7]) Try.func9 (by kernel_rfl) (by kernel_rfl) (order_any ff gg (by first | assumption | omega) (by first | assumption | omega) _)) (fun _ _ h => ⟨h.2, h.1, nofr rfl⟩)
      · exfalso; simp at hact
    refine ⟨fun wu9 hC hd => ?_, ?_⟩
    · obtain ⟨h5, _⟩ := hd
      skip
      replace h5 : V 5 = (.bool true) := h5
      replace hb := hb.trans (hC.mono hb.size)
      replace hk1 := blk_ext hk1 hC
      refine ⟨true, true, congrArg some h5, fun hact => ?_, fun hact => ?_⟩
      · exact Runs.does (r_move rfl) ⟨Below.refl _ _, rfl, nofr rfl⟩
      · exfalso; simp at hact
    refine ⟨fun wu10 hC hd => ?_, ?_⟩
    · obtain ⟨h5, _⟩ := hd
      skip
      replace h5 : V 5 = (.bool true) := h5
      replace hb := hb.trans (hC.mono hb.size)
      replace hk1 := blk_ext hk1 hC
      refine ⟨true, true, congrArg some h5, fun hact => ?_, fun hact => ?_⟩
      · exact Runs.does (r_move rfl) ⟨Below.refl _ _, rfl, nofr rfl⟩
      · exfalso; simp at hact
    refine ⟨fun wu11 hC hd => ?_, ?_⟩
    · obtain ⟨h5, h8, h9, h10, _⟩ := hd
      skip
      skip
      skip
      skip
      replace h5 : V 5 = (.bool true) := h5
      replace h8 : V 8 = (.int .i64 (ordN ff gg)) := h8
      replace h9 : V 9 = (.float .f64 ff) := h9
      replace h10 : V 10 = (.float .f64 gg) := h10
      replace hb := hb.trans (hC.mono hb.size)
      replace hk1 := blk_ext hk1 hC
      refine ⟨true, true, congrArg some h5, fun hact => ?_, fun hact => ?_⟩
      · refine Does.mono (d_callB (vs := [(.float .f64 ff), (.float .f64 gg)]) (show [some (V 9), some (V 10)] = [some (.float .f64 ff), some (.float .f64 gg)] from by rw [h9, h10]) Try.func10 (by kernel_rfl) (by kernel_rfl) (rorder_any ff gg (by first | assumption | omega) (by first | assumption | omega) _)) (fun _ _ h => ⟨h.2, h.1, nofr rfl⟩)
      · exfalso; simp at hact
    refine ⟨fun wu12 hC hd => ?_, ?_⟩
    · obtain ⟨h5, h8, h11, _⟩ := hd
      skip
      skip
      skip
      replace h5 : V 5 = (.bool true) := h5
      replace h8 : V 8 = (.int .i64 (ordN ff gg)) := h8
      replace h11 : V 11 = (.int .i64 (ordN ff gg)) := h11
      replace hb := hb.trans (hC.mono hb.size)
      replace hk1 := blk_ext hk1 hC
      refine ⟨true, true, congrArg some h5, fun hact => ?_, fun hact => ?_⟩
      · exact Runs.does (Runs.veq (r_eq (congrArg some h8) (congrArg some h11)) (congrArg Value.bool (show _ = true from (by simp)))) ⟨Below.refl _ _, rfl, nofr rfl⟩
      · exfalso; simp at hact
    refine ⟨fun wu13 hC hd => ?_, ?_⟩
    · obtain ⟨h5, h12, _⟩ := hd
      skip
      skip
      replace h5 : V 5 = (.bool true) := h5
      replace h12 : V 12 = (.bool true) := h12
      replace hb := hb.trans (hC.mono hb.size)
      replace hk1 := blk_ext hk1 hC
      exact Runs.does (r_pick (b := true) (congrArg some h5) (congrArg some h12) rfl rfl) ⟨Below.refl _ _, rfl, nofr rfl⟩
    refine ⟨fun wu14 hC hd => ?_, ?_⟩
    · obtain ⟨h11, h13, _⟩ := hd
      skip
      skip
      replace h11 : V 11 = (.int .i64 (ordN ff gg)) := h11
      replace h13 : V 13 = (.bool true) := h13
      replace hb := hb.trans (hC.mono hb.size)
      replace hk1 := blk_ext hk1 hC
      exact Runs.does (r_move (congrArg some h13)) ⟨Below.refl _ _, rfl, nofr rfl⟩
    refine ⟨fun wu15 hC hd => ?_, ?_⟩
    · obtain ⟨h14, _⟩ := hd
      skip
      replace h14 : V 14 = (.bool true) := h14
      replace hb := hb.trans (hC.mono hb.size)
      replace hk1 := blk_ext hk1 hC
      refine ⟨true, true, congrArg some h14, fun hact => ?_, fun hact => ?_⟩
      · exact Runs.does (r_move rfl) ⟨Below.refl _ _, rfl, nofr rfl⟩
      · exfalso; simp at hact
    refine ⟨fun wu16 hC hd => ?_, ?_⟩
    · obtain ⟨h14, _⟩ := hd
      skip
      replace h14 : V 14 = (.bool true) := h14
      replace hb := hb.trans (hC.mono hb.size)
      replace hk1 := blk_ext hk1 hC
      refine ⟨true, true, congrArg some h14, fun hact => ?_, fun hact => ?_⟩
      · exact Runs.does (r_move rfl) ⟨Below.refl _ _, rfl, nofr rfl⟩
      · exfalso; simp at hact
    refine ⟨fun wu17 hC hd => ?_, ?_⟩
    · obtain ⟨h14, h15, h16, _⟩ := hd
      skip
      skip
      skip
      replace h14 : V 14 = (.bool true) := h14
      replace h15 : V 15 = (.float .f64 gg) := h15
      replace h16 : V 16 = (.float .f64 ff) := h16
      replace hb := hb.trans (hC.mono hb.size)
      replace hk1 := blk_ext hk1 hC
      refine ⟨true, true, congrArg some h14, fun hact => ?_, fun hact => ?_⟩
      · refine Does.mono (d_callB (vs := [(.float .f64 gg), (.float .f64 ff)]) (show [some (V 15), some (V 16)] = [some (.float .f64 gg), some (.float .f64 ff)] from by rw [h15, h16]) Try.func9 (by kernel_rfl) (by kernel_rfl) (order_any gg ff (by first | assumption | omega) (by first | assumption | omega) _)) (fun _ _ h => ⟨h.2, h.1, nofr rfl⟩)
      · exfalso; simp at hact
    refine ⟨fun wu18 hC hd => ?_, ?_⟩
    · obtain ⟨h14, _⟩ := hd
      skip
      replace h14 : V 14 = (.bool true) := h14
      replace hb := hb.trans (hC.mono hb.size)
      replace hk1 := blk_ext hk1 hC
      refine ⟨true, true, congrArg some h14, fun hact => ?_, fun hact => ?_⟩
      · exact Runs.does (r_move rfl) ⟨Below.refl _ _, rfl, nofr rfl⟩
      · exfalso; simp at hact
    refine ⟨fun wu19 hC hd => ?_, ?_⟩
    · obtain ⟨h14, _⟩ := hd
      skip
      replace h14 : V 14 = (.bool true) := h14
      replace hb := hb.trans (hC.mono hb.size)
      replace hk1 := blk_ext hk1 hC
      refine ⟨true, true, congrArg some h14, fun hact => ?_, fun hact => ?_⟩
      · exact Runs.does (r_move rfl) ⟨Below.refl _ _, rfl, nofr rfl⟩
      · exfalso; simp at hact
    refine ⟨fun wu20 hC hd => ?_, ?_⟩
    · obtain ⟨h14, h17, h18, h19, _⟩ := hd
      skip
      skip
      skip
      skip
      replace h14 : V 14 = (.bool true) := h14
      replace h17 : V 17 = (.int .i64 (ordN gg ff)) := h17
      replace h18 : V 18 = (.float .f64 ff) := h18
      replace h19 : V 19 = (.float .f64 gg) := h19
      replace hb := hb.trans (hC.mono hb.size)
      replace hk1 := blk_ext hk1 hC
      refine ⟨true, true, congrArg some h14, fun hact => ?_, fun hact => ?_⟩
      · refine Does.mono (d_callB (vs := [(.float .f64 ff), (.float .f64 gg)]) (show [some (V 18), some (V 19)] = [some (.float .f64 ff), some (.float .f64 gg)] from by rw [h18, h19]) Try.func9 (by kernel_rfl) (by kernel_rfl) (order_any ff gg (by first | assumption | omega) (by first | assumption | omega) _)) (fun _ _ h => ⟨h.2, h.1, nofr rfl⟩)
      · exfalso; simp at hact
    refine ⟨fun wu21 hC hd => ?_, ?_⟩
    · obtain ⟨h14, h20, _⟩ := hd
      skip
      skip
      replace h14 : V 14 = (.bool true) := h14
      replace h20 : V 20 = (.int .i64 (ordN ff gg)) := h20
      replace hb := hb.trans (hC.mono hb.size)
      replace hk1 := blk_ext hk1 hC
      refine ⟨true, true, congrArg some h14, fun hact => ?_, fun hact => ?_⟩
      · exact Runs.does (r_neg (C := ((0 : Int) - (ordN ff gg))) (congrArg some h20) (by rw [IntKind.wrap_i64]; omega)) ⟨Below.refl _ _, rfl, nofr rfl⟩
      · exfalso; simp at hact
    refine ⟨fun wu22 hC hd => ?_, ?_⟩
    · obtain ⟨h14, h17, h21, _⟩ := hd
      skip
      skip
      skip
      replace h14 : V 14 = (.bool true) := h14
      replace h17 : V 17 = (.int .i64 (ordN gg ff)) := h17
      replace h21 : V 21 = (.int .i64 ((0 : Int) - (ordN ff gg))) := h21
      replace hb := hb.trans (hC.mono hb.size)
      replace hk1 := blk_ext hk1 hC
      refine ⟨true, true, congrArg some h14, fun hact => ?_, fun hact => ?_⟩
      · exact Runs.does (Runs.veq (r_eq (congrArg some h17) (congrArg some h21)) (congrArg Value.bool (show _ = true from (decide_eq_true (by have := ord_anti ff gg; omega))))) ⟨Below.refl _ _, rfl, nofr rfl⟩
      · exfalso; simp at hact
    refine ⟨fun wu23 hC hd => ?_, ?_⟩
    · obtain ⟨h14, h22, _⟩ := hd
      skip
      skip
      replace h14 : V 14 = (.bool true) := h14
      replace h22 : V 22 = (.bool true) := h22
      replace hb := hb.trans (hC.mono hb.size)
      replace hk1 := blk_ext hk1 hC
      exact Runs.does (r_pick (b := true) (congrArg some h14) (congrArg some h22) rfl rfl) ⟨Below.refl _ _, rfl, nofr rfl⟩
    refine ⟨fun wu24 hC hd => ?_, ?_⟩
    · obtain ⟨h20, h23, _⟩ := hd
      skip
      skip
      replace h20 : V 20 = (.int .i64 (ordN ff gg)) := h20
      replace h23 : V 23 = (.bool true) := h23
      replace hb := hb.trans (hC.mono hb.size)
      replace hk1 := blk_ext hk1 hC
      exact Runs.does (r_move (congrArg some h23)) ⟨Below.refl _ _, rfl, nofr rfl⟩
    refine ⟨fun wu25 hC hd => ?_, ?_⟩
    · obtain ⟨h24, _⟩ := hd
      skip
      replace h24 : V 24 = (.bool true) := h24
      replace hb := hb.trans (hC.mono hb.size)
      replace hk1 := blk_ext hk1 hC
      refine ⟨true, true, congrArg some h24, fun hact => ?_, fun hact => ?_⟩
      · exact Runs.does (r_move rfl) ⟨Below.refl _ _, rfl, nofr rfl⟩
      · exfalso; simp at hact
    refine ⟨fun wu26 hC hd => ?_, ?_⟩
    · obtain ⟨h24, _⟩ := hd
      skip
      replace h24 : V 24 = (.bool true) := h24
      replace hb := hb.trans (hC.mono hb.size)
      replace hk1 := blk_ext hk1 hC
      refine ⟨true, true, congrArg some h24, fun hact => ?_, fun hact => ?_⟩
      · exact Runs.does (r_move rfl) ⟨Below.refl _ _, rfl, nofr rfl⟩
      · exfalso; simp at hact
    refine ⟨fun wu27 hC hd => ?_, ?_⟩
    · obtain ⟨h24, h25, h26, _⟩ := hd
      skip
      skip
      skip
      replace h24 : V 24 = (.bool true) := h24
      replace h25 : V 25 = (.float .f64 ff) := h25
      replace h26 : V 26 = (.float .f64 ff) := h26
      replace hb := hb.trans (hC.mono hb.size)
      replace hk1 := blk_ext hk1 hC
      refine ⟨true, true, congrArg some h24, fun hact => ?_, fun hact => ?_⟩
      · refine Does.mono (d_callB (vs := [(.float .f64 ff), (.float .f64 ff)]) (show [some (V 25), some (V 26)] = [some (.float .f64 ff), some (.float .f64 ff)] from by rw [h25, h26]) Try.func9 (by kernel_rfl) (by kernel_rfl) (order_any ff ff (by first | assumption | omega) (by first | assumption | omega) _)) (fun _ _ h => ⟨h.2, h.1, nofr rfl⟩)
      · exfalso; simp at hact
    refine ⟨fun wu28 hC hd => ?_, ?_⟩
    · obtain ⟨h24, h27, _⟩ := hd
      skip
      skip
      replace h24 : V 24 = (.bool true) := h24
      replace h27 : V 27 = (.int .i64 (ordN ff ff)) := h27
      replace hb := hb.trans (hC.mono hb.size)
      replace hk1 := blk_ext hk1 hC
      refine ⟨true, true, congrArg some h24, fun hact => ?_, fun hact => ?_⟩
      · exact Runs.does (Runs.veq (r_eq (congrArg some h27) rfl) (congrArg Value.bool (show _ = true from (decide_eq_true (ord_self ff))))) ⟨Below.refl _ _, rfl, nofr rfl⟩
      · exfalso; simp at hact
    refine ⟨fun wu29 hC hd => ?_, ?_⟩
    · obtain ⟨h24, h28, _⟩ := hd
      skip
      skip
      replace h24 : V 24 = (.bool true) := h24
      replace h28 : V 28 = (.bool true) := h28
      replace hb := hb.trans (hC.mono hb.size)
      replace hk1 := blk_ext hk1 hC
      exact Runs.does (r_pick (b := true) (congrArg some h24) (congrArg some h28) rfl rfl) ⟨Below.refl _ _, rfl, nofr rfl⟩
    refine ⟨fun wu30 hC hd => ?_, ?_⟩
    · obtain ⟨h27, h29, _⟩ := hd
      skip
      skip
      replace h27 : V 27 = (.int .i64 (ordN ff ff)) := h27
      replace h29 : V 29 = (.bool true) := h29
      replace hb := hb.trans (hC.mono hb.size)
      replace hk1 := blk_ext hk1 hC
      exact Runs.does (r_move (congrArg some h29)) ⟨Below.refl _ _, rfl, nofr rfl⟩
    refine ⟨fun wu31 hC hd => ?_, ?_⟩
    · obtain ⟨h30, _⟩ := hd
      skip
      replace h30 : V 30 = (.bool true) := h30
      replace hb := hb.trans (hC.mono hb.size)
      replace hk1 := blk_ext hk1 hC
      refine ⟨true, true, congrArg some h30, fun hact => ?_, fun hact => ?_⟩
      · exact Runs.does (r_ixp (sz := 1) (j := 0) (nn := 2) (q := 0) rfl rfl Try.underlying23 (by kernel_rfl) rfl (by decide) rfl) ⟨Below.refl _ _, rfl, nofr rfl⟩
      · exfalso; simp at hact
    refine ⟨fun wu32 hC hd => ?_, ?_⟩
    · obtain ⟨h30, h31, _⟩ := hd
      skip
      skip
      replace h30 : V 30 = (.bool true) := h30
      replace h31 : V 31 = (.pointer (some ⟨b1, 0, none⟩)) := h31
      replace hb := hb.trans (hC.mono hb.size)
      replace hk1 := blk_ext hk1 hC
      refine ⟨true, true, congrArg some h30, fun hact => ?_, fun hact => ?_⟩
      · exact Runs.does (r_load (v := (.int .i64 n0)) (congrArg some h31) Try.underlying3 rfl (cell_blk hk1 rfl)) ⟨Below.refl _ _, rfl, nofr rfl⟩
      · exfalso; simp at hact
    refine ⟨fun wu33 hC hd => ?_, ?_⟩
    · obtain ⟨h30, _⟩ := hd
      skip
      replace h30 : V 30 = (.bool true) := h30
      replace hb := hb.trans (hC.mono hb.size)
      replace hk1 := blk_ext hk1 hC
      refine ⟨true, true, congrArg some h30, fun hact => ?_, fun hact => ?_⟩
      · exact Runs.does (r_ixp (sz := 1) (j := 1) (nn := 2) (q := 1) rfl rfl Try.underlying23 (by kernel_rfl) rfl (by decide) rfl) ⟨Below.refl _ _, rfl, nofr rfl⟩
      · exfalso; simp at hact
    refine ⟨fun wu34 hC hd => ?_, ?_⟩
    · obtain ⟨h30, h33, _⟩ := hd
      skip
      skip
      replace h30 : V 30 = (.bool true) := h30
      replace h33 : V 33 = (.pointer (some ⟨b1, 1, none⟩)) := h33
      replace hb := hb.trans (hC.mono hb.size)
      replace hk1 := blk_ext hk1 hC
      refine ⟨true, true, congrArg some h30, fun hact => ?_, fun hact => ?_⟩
      · exact Runs.does (r_load (v := (.int .i64 n1)) (congrArg some h33) Try.underlying3 rfl (cell_blk hk1 rfl)) ⟨Below.refl _ _, rfl, nofr rfl⟩
      · exfalso; simp at hact
    refine ⟨fun wu35 hC hd => ?_, ?_⟩
    · obtain ⟨h30, h32, h34, _⟩ := hd
      skip
      skip
      skip
      replace h30 : V 30 = (.bool true) := h30
      replace h32 : V 32 = (.int .i64 n0) := h32
      replace h34 : V 34 = (.int .i64 n1) := h34
      replace hb := hb.trans (hC.mono hb.size)
      replace hk1 := blk_ext hk1 hC
      refine ⟨true, true, congrArg some h30, fun hact => ?_, fun hact => ?_⟩
      · refine Does.mono (d_callX (vs := [(.int .i64 n0), (.int .i64 n1)]) (show [some (V 32), some (V 34)] = [some (.int .i64 n0), some (.int .i64 n1)] from by rw [h32, h34]) Try.func12 (by kernel_rfl) (by kernel_rfl) (part_any n0 n1 _)) ?_
        rintro _ w' ⟨⟨k, rfl, hF8⟩, hF9⟩
        exact ⟨hF9, ⟨k, rfl, hF8⟩, nofr rfl⟩
      · exfalso; simp at hact
    refine ⟨fun wu36 hC hd => ?_, ?_⟩
    · obtain ⟨h30, _⟩ := hd
      skip
      replace h30 : V 30 = (.bool true) := h30
      replace hb := hb.trans (hC.mono hb.size)
      replace hk1 := blk_ext hk1 hC
      refine ⟨true, true, congrArg some h30, fun hact => ?_, fun hact => ?_⟩
      · exact Runs.does (r_ixp (sz := 1) (j := 0) (nn := 2) (q := 0) rfl rfl Try.underlying23 (by kernel_rfl) rfl (by decide) rfl) ⟨Below.refl _ _, rfl, nofr rfl⟩
      · exfalso; simp at hact
    refine ⟨fun wu37 hC hd => ?_, ?_⟩
    · obtain ⟨h30, h36, _⟩ := hd
      skip
      skip
      replace h30 : V 30 = (.bool true) := h30
      replace h36 : V 36 = (.pointer (some ⟨b1, 0, none⟩)) := h36
      replace hb := hb.trans (hC.mono hb.size)
      replace hk1 := blk_ext hk1 hC
      refine ⟨true, true, congrArg some h30, fun hact => ?_, fun hact => ?_⟩
      · exact Runs.does (r_load (v := (.int .i64 n0)) (congrArg some h36) Try.underlying3 rfl (cell_blk hk1 rfl)) ⟨Below.refl _ _, rfl, nofr rfl⟩
      · exfalso; simp at hact
    refine ⟨fun wu38 hC hd => ?_, ?_⟩
    · obtain ⟨h30, h37, _⟩ := hd
      skip
      skip
      replace h30 : V 30 = (.bool true) := h30
      replace h37 : V 37 = (.int .i64 n0) := h37
      replace hb := hb.trans (hC.mono hb.size)
      replace hk1 := blk_ext hk1 hC
      refine ⟨true, true, congrArg some h30, fun hact => ?_, fun hact => ?_⟩
      · exact Runs.does (r_fofint (congrArg some h37) Try.underlying3 Try.underlying22) ⟨Below.refl _ _, rfl, nofr rfl⟩
      · exfalso; simp at hact
    refine ⟨fun wu39 hC hd => ?_, ?_⟩
    · obtain ⟨h30, _⟩ := hd
      skip
      replace h30 : V 30 = (.bool true) := h30
      replace hb := hb.trans (hC.mono hb.size)
      replace hk1 := blk_ext hk1 hC
      refine ⟨true, true, congrArg some h30, fun hact => ?_, fun hact => ?_⟩
      · exact Runs.does (r_ixp (sz := 1) (j := 1) (nn := 2) (q := 1) rfl rfl Try.underlying23 (by kernel_rfl) rfl (by decide) rfl) ⟨Below.refl _ _, rfl, nofr rfl⟩
      · exfalso; simp at hact
    refine ⟨fun wu40 hC hd => ?_, ?_⟩
    · obtain ⟨h30, h39, _⟩ := hd
      skip
      skip
      replace h30 : V 30 = (.bool true) := h30
      replace h39 : V 39 = (.pointer (some ⟨b1, 1, none⟩)) := h39
      replace hb := hb.trans (hC.mono hb.size)
      replace hk1 := blk_ext hk1 hC
      refine ⟨true, true, congrArg some h30, fun hact => ?_, fun hact => ?_⟩
      · exact Runs.does (r_load (v := (.int .i64 n1)) (congrArg some h39) Try.underlying3 rfl (cell_blk hk1 rfl)) ⟨Below.refl _ _, rfl, nofr rfl⟩
      · exfalso; simp at hact
    refine ⟨fun wu41 hC hd => ?_, ?_⟩
    · obtain ⟨h30, h40, _⟩ := hd
      skip
      skip
      replace h30 : V 30 = (.bool true) := h30
      replace h40 : V 40 = (.int .i64 n1) := h40
      replace hb := hb.trans (hC.mono hb.size)
      replace hk1 := blk_ext hk1 hC
      refine ⟨true, true, congrArg some h30, fun hact => ?_, fun hact => ?_⟩
      · exact Runs.does (r_fofint (congrArg some h40) Try.underlying3 Try.underlying22) ⟨Below.refl _ _, rfl, nofr rfl⟩
      · exfalso; simp at hact
    refine ⟨fun wu42 hC hd => ?_, ?_⟩
    · obtain ⟨h30, h38, h41, _⟩ := hd
      skip
      skip
      skip
      replace h30 : V 30 = (.bool true) := h30
      replace h38 : V 38 = (.float .f64 (floatOfInt .f64 n0)) := h38
      replace h41 : V 41 = (.float .f64 (floatOfInt .f64 n1)) := h41
      replace hb := hb.trans (hC.mono hb.size)
      replace hk1 := blk_ext hk1 hC
      refine ⟨true, true, congrArg some h30, fun hact => ?_, fun hact => ?_⟩
      · refine Does.mono (d_farith (op := .quo) (a := (floatOfInt .f64 n0)) (b := (floatOfInt .f64 n1)) (congrArg some h38) (congrArg some h41) (by simp)) ?_
        rintro _ w' ⟨⟨k, rfl, hF8⟩, hF9⟩
        exact ⟨hF9, ⟨k, rfl, hF8⟩, nofr rfl⟩
      · exfalso; simp at hact
    refine ⟨fun wu43 hC hd => ?_, ?_⟩
    · obtain ⟨h30, h35, h42, _⟩ := hd
      skip
      skip
      skip
      replace h30 : V 30 = (.bool true) := h30
      obtain ⟨fk1, h35, hfk1⟩ := h35
      skip
      obtain ⟨fr1, h42, hfr1⟩ := h42
      skip
      replace hb := hb.trans (hC.mono hb.size)
      replace hk1 := blk_ext hk1 hC
      refine ⟨true, true, congrArg some h30, fun hact => ?_, fun hact => ?_⟩
      · refine Does.mono (d_callB (vs := [(.float .f64 fk1), (.float .f64 fr1)]) (show [some (V 35), some (V 42)] = [some (.float .f64 fk1), some (.float .f64 fr1)] from by rw [h35, h42]) Try.func11 (by kernel_rfl) (by kernel_rfl) (Calls.mono (rsame_any fk1 fr1 hfk1.1 hfr1.1 _) (fun e w2 h => ⟨by rw [h.1, same_res hfk1 hfr1], h.2⟩))) (fun _ _ h => ⟨h.2, h.1, nofr rfl⟩)
      · exfalso; simp at hact
    refine ⟨fun wu44 hC hd => ?_, ?_⟩
    · obtain ⟨h30, h43, _⟩ := hd
      skip
      skip
      replace h30 : V 30 = (.bool true) := h30
      replace h43 : V 43 = (.bool true) := h43
      replace hb := hb.trans (hC.mono hb.size)
      replace hk1 := blk_ext hk1 hC
      exact Runs.does (r_pick (b := true) (congrArg some h30) (congrArg some h43) rfl rfl) ⟨Below.refl _ _, rfl, nofr rfl⟩
    refine ⟨fun wu45 hC hd => ?_, ?_⟩
    · obtain ⟨h0, h1, h2, h3, h4, h5, h6, h7, h8, h9, h10, h11, h12, h13, h14, h15, h16, h17, h18, h19, h20, h21, h22, h23, h24, h25, h26, h27, h28, h29, h30, h31, h32, h33, h34, h35, h36, h37, h38, h39, h40, h41, h42, h43, h44, _⟩ := hd
      skip
      skip
      skip
      skip
      skip
      skip
      skip
      skip
      skip
      skip
      skip
      skip
      skip
      skip
      skip
      skip
      skip
      skip
      skip
      skip
      skip
      skip
      skip
      skip
      skip
      skip
      skip
      skip
      skip
      skip
      skip
      skip
      skip
      skip
      skip
      skip
      skip
      skip
      skip
      skip
      skip
      skip
      skip
      skip
      skip
      replace h0 : V 0 = (.float .f64 ff) := h0
      replace h1 : V 1 = (.int .i64 (kindN ff)) := h1
      replace h2 : V 2 = (.float .f64 ff) := h2
      replace h3 : V 3 = (.int .i64 (kindN ff)) := h3
      replace h4 : V 4 = (.bool true) := h4
      replace h5 : V 5 = (.bool true) := h5
      replace h6 : V 6 = (.float .f64 ff) := h6
      replace h7 : V 7 = (.float .f64 gg) := h7
      replace h8 : V 8 = (.int .i64 (ordN ff gg)) := h8
      replace h9 : V 9 = (.float .f64 ff) := h9
      replace h10 : V 10 = (.float .f64 gg) := h10
      replace h11 : V 11 = (.int .i64 (ordN ff gg)) := h11
      replace h12 : V 12 = (.bool true) := h12
      replace h13 : V 13 = (.bool true) := h13
      replace h14 : V 14 = (.bool true) := h14
      replace h15 : V 15 = (.float .f64 gg) := h15
      replace h16 : V 16 = (.float .f64 ff) := h16
      replace h17 : V 17 = (.int .i64 (ordN gg ff)) := h17
      replace h18 : V 18 = (.float .f64 ff) := h18
      replace h19 : V 19 = (.float .f64 gg) := h19
      replace h20 : V 20 = (.int .i64 (ordN ff gg)) := h20
      replace h21 : V 21 = (.int .i64 ((0 : Int) - (ordN ff gg))) := h21
      replace h22 : V 22 = (.bool true) := h22
      replace h23 : V 23 = (.bool true) := h23
      replace h24 : V 24 = (.bool true) := h24
      replace h25 : V 25 = (.float .f64 ff) := h25
      replace h26 : V 26 = (.float .f64 ff) := h26
      replace h27 : V 27 = (.int .i64 (ordN ff ff)) := h27
      replace h28 : V 28 = (.bool true) := h28
      replace h29 : V 29 = (.bool true) := h29
      replace h30 : V 30 = (.bool true) := h30
      replace h31 : V 31 = (.pointer (some ⟨b1, 0, none⟩)) := h31
      replace h32 : V 32 = (.int .i64 n0) := h32
      replace h33 : V 33 = (.pointer (some ⟨b1, 1, none⟩)) := h33
      replace h34 : V 34 = (.int .i64 n1) := h34
      obtain ⟨fk1, h35, hfk1⟩ := h35
      skip
      replace h36 : V 36 = (.pointer (some ⟨b1, 0, none⟩)) := h36
      replace h37 : V 37 = (.int .i64 n0) := h37
      replace h38 : V 38 = (.float .f64 (floatOfInt .f64 n0)) := h38
      replace h39 : V 39 = (.pointer (some ⟨b1, 1, none⟩)) := h39
      replace h40 : V 40 = (.int .i64 n1) := h40
      replace h41 : V 41 = (.float .f64 (floatOfInt .f64 n1)) := h41
      obtain ⟨fr1, h42, hfr1⟩ := h42
      skip
      replace h43 : V 43 = (.bool true) := h43
      replace h44 : V 44 = (.bool true) := h44
      replace hb := hb.trans (hC.mono hb.size)
      replace hk1 := blk_ext hk1 hC
      exact Runs.does (r_assign (congrArg some h44)) ⟨Below.refl _ _, rfl, nofr rfl⟩
    trivial
  · skip
    clear hf fa; intro V w3 fa he3 hp hnb hf
    have hv0 : V 0 = (.float .f64 ff) := postsHold_at hp 0 rfl
    have hv1 : V 1 = (.int .i64 (kindN ff)) := postsHold_at hp 1 rfl
    have hv2 : V 2 = (.float .f64 ff) := postsHold_at hp 2 rfl
    have hv3 : V 3 = (.int .i64 (kindN ff)) := postsHold_at hp 3 rfl
    have hv4 : V 4 = (.bool true) := postsHold_at hp 4 rfl
    have hv5 : V 5 = (.bool true) := postsHold_at hp 5 rfl
    have hv6 : V 6 = (.float .f64 ff) := postsHold_at hp 6 rfl
    have hv7 : V 7 = (.float .f64 gg) := postsHold_at hp 7 rfl
    have hv8 : V 8 = (.int .i64 (ordN ff gg)) := postsHold_at hp 8 rfl
    have hv9 : V 9 = (.float .f64 ff) := postsHold_at hp 9 rfl
    have hv10 : V 10 = (.float .f64 gg) := postsHold_at hp 10 rfl
    have hv11 : V 11 = (.int .i64 (ordN ff gg)) := postsHold_at hp 11 rfl
    have hv12 : V 12 = (.bool true) := postsHold_at hp 12 rfl
    have hv13 : V 13 = (.bool true) := postsHold_at hp 13 rfl
    have hv14 : V 14 = (.bool true) := postsHold_at hp 14 rfl
    have hv15 : V 15 = (.float .f64 gg) := postsHold_at hp 15 rfl
    have hv16 : V 16 = (.float .f64 ff) := postsHold_at hp 16 rfl
    have hv17 : V 17 = (.int .i64 (ordN gg ff)) := postsHold_at hp 17 rfl
    have hv18 : V 18 = (.float .f64 ff) := postsHold_at hp 18 rfl
    have hv19 : V 19 = (.float .f64 gg) := postsHold_at hp 19 rfl
    have hv20 : V 20 = (.int .i64 (ordN ff gg)) := postsHold_at hp 20 rfl
    have hv21 : V 21 = (.int .i64 ((0 : Int) - (ordN ff gg))) := postsHold_at hp 21 rfl
    have hv22 : V 22 = (.bool true) := postsHold_at hp 22 rfl
    have hv23 : V 23 = (.bool true) := postsHold_at hp 23 rfl
    have hv24 : V 24 = (.bool true) := postsHold_at hp 24 rfl
    have hv25 : V 25 = (.float .f64 ff) := postsHold_at hp 25 rfl
    have hv26 : V 26 = (.float .f64 ff) := postsHold_at hp 26 rfl
    have hv27 : V 27 = (.int .i64 (ordN ff ff)) := postsHold_at hp 27 rfl
    have hv28 : V 28 = (.bool true) := postsHold_at hp 28 rfl
    have hv29 : V 29 = (.bool true) := postsHold_at hp 29 rfl
    have hv30 : V 30 = (.bool true) := postsHold_at hp 30 rfl
    have hv31 : V 31 = (.pointer (some ⟨b1, 0, none⟩)) := postsHold_at hp 31 rfl
    have hv32 : V 32 = (.int .i64 n0) := postsHold_at hp 32 rfl
    have hv33 : V 33 = (.pointer (some ⟨b1, 1, none⟩)) := postsHold_at hp 33 rfl
    have hv34 : V 34 = (.int .i64 n1) := postsHold_at hp 34 rfl
    have hv35 := postsHold_at hp 35 rfl
    obtain ⟨fk1, hv35, hfk1⟩ := hv35
    skip
    have hv36 : V 36 = (.pointer (some ⟨b1, 0, none⟩)) := postsHold_at hp 36 rfl
    have hv37 : V 37 = (.int .i64 n0) := postsHold_at hp 37 rfl
    have hv38 : V 38 = (.float .f64 (floatOfInt .f64 n0)) := postsHold_at hp 38 rfl
    have hv39 : V 39 = (.pointer (some ⟨b1, 1, none⟩)) := postsHold_at hp 39 rfl
    have hv40 : V 40 = (.int .i64 n1) := postsHold_at hp 40 rfl
    have hv41 : V 41 = (.float .f64 (floatOfInt .f64 n1)) := postsHold_at hp 41 rfl
    have hv42 := postsHold_at hp 42 rfl
    obtain ⟨fr1, hv42, hfr1⟩ := hv42
    skip
    have hv43 : V 43 = (.bool true) := postsHold_at hp 43 rfl
    have hv44 : V 44 = (.bool true) := postsHold_at hp 44 rfl
    have hv45 : V 45 = (.bool true) := postsHold_at hp 45 rfl
    simp only [List.take_succ_cons, List.take_zero, insAll, ins, hv0, hv1, hv2, hv3, hv4, hv5, hv6, hv7, hv8, hv9, hv10, hv11, hv12, hv13, hv14, hv15, hv16, hv17, hv18, hv19, hv20, hv21, hv22, hv23, hv24, hv25, hv26, hv27, hv28, hv29, hv30, hv31, hv32, hv33, hv34, hv35, hv36, hv37, hv38, hv39, hv40, hv41, hv42, hv43, hv44, hv45] at hf
    clear hp hnb hv0 hv1 hv2 hv3 hv4 hv5 hv6 hv7 hv8 hv9 hv10 hv11 hv12 hv13 hv14 hv15 hv16 hv17 hv18 hv19 hv20 hv21 hv22 hv23 hv24 hv25 hv26 hv27 hv28 hv29 hv30 hv31 hv32 hv33 hv34 hv35 hv36 hv37 hv38 hv39 hv40 hv41 hv42 hv43 hv44 hv45
    replace hk1 := blk_ext hk1 he3
    replace hb := hb.trans (Below.mono he3 hb.size)
    (try simp only [Exit.then, Exit.inBlock, ↓reduceIte, Nat.reduceEqDiff])
    refine hK4 _ _ ?_
    refine wp_ret ?_
    (try simp only [Exit.then, Exit.inBlock])
    refine ret1 hf rfl rfl ?_
    exact ⟨rfl, hb⟩
end Go.Proofs.Ytbllifhcfgjdlaa
