/- What is proved here: the law TypesValues is true. -/
import Derived.Test.YtcmdajkkdognfaaTyV
import Derived.Test.YtcmdajkkdognfaaTyK
namespace Go.Proofs.Ytcmdajkkdognfaa
open Go.RowKit
set_option linter.unusedVariables false
set_option linter.unusedSimpArgs false
theorem fSlV_kept {w w' : World} {d : Sl MVal} (h : fSl 2 vMVal fMVal w d) (hb : Below w.heap.size w w') : fSl 2 vMVal fMVal w' d :=
  ⟨h.1, h.2.1, h.2.2.1, fun j hj => by
    obtain ⟨g, b, off, ha, hl, hc⟩ := h.2.2.2 j hj
    exact ⟨rdMVal.kept _ _ _ hb g, b, off, ha, Nat.lt_of_lt_of_le hl hb.size, fun i u hu => (hb.cell (p := ⟨b, off + j * 2 + i, none⟩) hl).trans (hc i u hu)⟩⟩
theorem encG_len (t : MGt) : (encG t).length = 2 := rfl

set_option maxHeartbeats 1000000 in
set_option maxRecDepth 100000 in
theorem typesValues_any (d : Sl MVal) (s : ByteArray) (t : MGt) (w : World) (g : fSlW 2 16 vMVal fMVal w d) (hg : 0 ≤ t.1 ∧ t.1 < 256) : Calls Try.prog 6 #[(.slice d.at' d.len d.cap), (.string s), (.agg #[(.int .u8 t.1), (.bool t.2.1)])] w fun e w' => e = .returned (.bool true) ∧ Below w.heap.size w w' := by
  have hdl := g.2.1; have hdc := g.2.2.1; unfold maxLen at hdc
  refine sx_enter (L := [(0, (.slice d.at' d.len d.cap)), (1, (.string s)), (2, (.agg #[(.int .u8 t.1), (.bool t.2.1)]))]) Try.func6 rfl rfl rfl rfl (fun fa hf => ?_)
  have hb : Below w.heap.size w w := Below.refl _ _
  refine wp_seq_k (fun K1 hK1 => ?_)
  refine wp_region_lit ?_
  refine sqdt hf (d_box (cs := #[(.int .u8 t.1), (.bool t.2.1)]) rfl rfl) rfl rfl rfl ?_; clear hf fa; rintro fa _ w1 ⟨b1, rfl, hle1, hk1, he1⟩ hf
  have hBb1 : w.heap.size ≤ b1 := Nat.le_trans hb.size hle1
  replace hb := hb.trans (Below.mono he1 hb.size)
  refine sqv hf (r_assign rfl) rfl rfl rfl ?_; clear hf fa; intro fa hf
  apply wpList_nil
  (try simp only [Exit.then, Exit.inBlock, ↓reduceIte, Nat.reduceEqDiff])
  refine hK1 _ _ ?_
  refine wp_seq_k (fun K2 hK2 => ?_)
  refine wp_seq_k (fun K3 hK3 => ?_)
  refine wp_region_lit ?_
  refine sqdt hf (d_callB (vs := []) rfl Try.func26 (by kernel_rfl) (by kernel_rfl) (awake04_any _)) rfl rfl rfl ?_; clear hf fa; rintro fa _ w2 ⟨rfl, he2⟩ hf
  replace hk1 := blk_ext hk1 he2
  replace hb := hb.trans (Below.mono he2 hb.size)
  refine sqv hf (Runs.veq (v' := (.bool false)) (r_not rfl) rfl) rfl rfl rfl ?_; clear hf fa; intro fa hf
  apply wpList_nil
  (try simp only [Exit.then, Exit.inBlock, ↓reduceIte, Nat.reduceEqDiff])
  refine hK3 _ _ ?_
  refine wp_cond_false (hf.ev rfl) ?_
  refine wp_skip ?_
  (try simp only [Exit.then, Exit.inBlock, ↓reduceIte, Nat.reduceEqDiff])
  refine hK2 _ _ ?_
  refine wp_seq_k (fun K4 hK4 => ?_)
  refine wp_seq_k (fun K5 hK5 => ?_)
  refine wp_region_lit ?_
  refine sqv hf (r_move rfl) rfl rfl rfl ?_; clear hf fa; intro fa hf
  refine sqv hf (r_lensl rfl Try.underlying52) rfl rfl rfl ?_; clear hf fa; intro fa hf
  refine sqv hf (r_gt rfl rfl) rfl rfl rfl ?_; clear hf fa; intro fa hf
  refine sqv hf (r_move rfl) rfl rfl rfl ?_; clear hf fa; intro fa hf
  refine sqgF (act := (!(decide ((100 : Int) < ((d.len : Nat) : Int))))) (ag := true) (c := (decide ((100 : Int) < ((d.len : Nat) : Int)))) (v := (.string s)) hf rfl rfl rfl (fun hact => (r_move rfl)) rfl rfl ?_; clear hf fa; intro fa hf
  refine sqgF (act := (!(decide ((100 : Int) < ((d.len : Nat) : Int))))) (ag := true) (c := (decide ((100 : Int) < ((d.len : Nat) : Int)))) (v := (.int .i64 ((s.size : Nat) : Int))) hf rfl rfl rfl (fun hact => (r_lens (gb_ev hact rfl) Try.underlying9)) rfl rfl ?_; clear hf fa; intro fa hf
  refine sqgF (act := (!(decide ((100 : Int) < ((d.len : Nat) : Int))))) (ag := true) (c := (decide ((100 : Int) < ((d.len : Nat) : Int)))) (v := (.bool (decide ((100 : Int) < ((s.size : Nat) : Int))))) hf rfl rfl rfl (fun hact => (r_gt (gb_ev hact rfl) rfl)) rfl rfl ?_; clear hf fa; intro fa hf
  refine sqv hf (r_pickO (b := (decide ((100 : Int) < ((d.len : Nat) : Int)))) (e := (decide ((100 : Int) < ((s.size : Nat) : Int)))) rfl rfl rfl) rfl rfl rfl ?_; clear hf fa; intro fa hf
  apply wpList_nil
  (try simp only [Exit.then, Exit.inBlock, ↓reduceIte, Nat.reduceEqDiff])
  refine hK5 _ _ ?_
  refine wp_cond_split (t := ((decide ((100 : Int) < ((d.len : Nat) : Int))) || (decide ((100 : Int) < ((s.size : Nat) : Int))))) (hf.ev rfl) (fun hqt18_1 => ?_) (fun hqt18_1 => ?_)
  · have hqt18_1b := hqt18_1
    try simp only [decide_eq_true_eq, Bool.and_eq_true, Bool.or_eq_true, Bool.not_eq_true', decide_eq_false_iff_not, ne_eq, Bool.not_eq_true] at hqt18_1
    refine wp_seq_k (fun K6 hK6 => ?_)
    refine wp_region_lit ?_
    refine sqv hf (r_assign rfl) rfl rfl rfl ?_; clear hf fa; intro fa hf
    apply wpList_nil
    (try simp only [Exit.then, Exit.inBlock, ↓reduceIte, Nat.reduceEqDiff])
    refine hK6 _ _ ?_
    refine wp_ret ?_
    (try simp only [Exit.then, Exit.inBlock])
    refine ret1 hf rfl rfl ?_
    exact ⟨rfl, hb⟩
  · have hqt18_1b := hqt18_1
    replace hqt18_1 := Bool.eq_false_iff.1 hqt18_1
    try simp only [ne_eq, decide_eq_true_eq, Bool.and_eq_true, Bool.or_eq_true, Bool.not_eq_true', decide_eq_false_iff_not] at hqt18_1
    refine wp_skip ?_
    (try simp only [Exit.then, Exit.inBlock, ↓reduceIte, Nat.reduceEqDiff])
    refine hK4 _ _ ?_
    refine wp_seq_k (fun K7 hK7 => ?_)
    refine wp_seq_k (fun K8 hK8 => ?_)
    have hd : d.len ≤ 100 := by have h := hqt18_1; omega
    have hs : s.size ≤ 100 := by have h := hqt18_1; omega
    refine wp_region_lit ?_
    refine sqv hf (r_assign rfl) rfl rfl rfl ?_; clear hf fa; intro fa hf
    apply wpList_nil
    (try simp only [Exit.then, Exit.inBlock, ↓reduceIte, Nat.reduceEqDiff])
    refine hK8 _ _ ?_
    refine wp_block ?_
    refine wp_loop_k (fun mq fa wr => ∃ (k : Nat), mq = d.len - k ∧ Fr 91 fa [(0, (.slice d.at' d.len d.cap)), (1, (.string s)), (5, (.pointer (some ⟨b1, 0, none⟩))), (7, (.int .i64 ((k : Nat) : Int)))] ∧ Below w.heap.size w wr ∧ wr.heap[b1]? = some (.cells #[(.int .u8 t.1), (.bool t.2.1)] 54 (0, 0)) ∧ (k ≤ d.len)) ?_ ?_
    · skip
      exact ⟨_, 0, rfl, hf.sub ⟨rfl, rfl, rfl, (some_int (by first | rfl | omega)), trivial⟩, hb, hk1, by omega⟩
    · skip
      clear hf fa; intro mq1 fa w3 hI KL1 hKL1
      clear hb
      clear hk1
      obtain ⟨k, hmq1, hf, hb, hkb1, hk⟩ := hI
      refine wp_seq_k (fun K9 hK9 => ?_)
      refine wp_seq_k (fun K10 hK10 => ?_)
      refine wp_region_lit ?_
      refine sqv hf (r_move rfl) rfl rfl rfl ?_; clear hf fa; intro fa hf
      refine sqv hf (r_move rfl) rfl rfl rfl ?_; clear hf fa; intro fa hf
      refine sqv hf (r_lensl rfl Try.underlying52) rfl rfl rfl ?_; clear hf fa; intro fa hf
      refine sqv hf (r_lt rfl rfl) rfl rfl rfl ?_; clear hf fa; intro fa hf
      apply wpList_nil
      (try simp only [Exit.then, Exit.inBlock, ↓reduceIte, Nat.reduceEqDiff])
      refine hK10 _ _ ?_
      refine wp_cond_split (t := (decide (((k : Nat) : Int) < ((d.len : Nat) : Int)))) (hf.ev rfl) (fun hqt22_1 => ?_) (fun hqt22_1 => ?_)
      · have hqt22_1b := hqt22_1
        try simp only [decide_eq_true_eq, Bool.and_eq_true, Bool.or_eq_true, Bool.not_eq_true', decide_eq_false_iff_not, ne_eq, Bool.not_eq_true] at hqt22_1
        refine wp_skip ?_
        (try simp only [Exit.then, Exit.inBlock, ↓reduceIte, Nat.reduceEqDiff])
        refine hK9 _ _ ?_
        refine wp_seq_k (fun K11 hK11 => ?_)
        refine wp_block ?_
        refine wp_seq_k (fun K12 hK12 => ?_)
        obtain ⟨y, hy⟩ : ∃ x, d.list[k]? = some x := ⟨_, List.getElem?_eq_getElem (by rw [Sl.list_length]; omega)⟩
        have gy := fSl_el g.2 hy
        have hz1 := fInt_u8 (w := w) gy.1
        have hz2 := fInt_u64 (w := w) gy.2.1
        refine wp_region_lit ?_
        refine sqv hf (r_move rfl) rfl rfl rfl ?_; clear hf fa; intro fa hf
        refine sqv hf (r_move rfl) rfl rfl rfl ?_; clear hf fa; intro fa hf
        have hy1 : (d.list)[k]? = some y := hy
        obtain ⟨ab1, aoff1, hat1, hlb1, hel1⟩ := RdS.at (RdS.of_arg g.2) hy1
        refine sqv hf (r_ixa (sz := 2) (j := k) (evAt rfl hat1) rfl Try.underlying52 (by kernel_rfl) rfl (by omega) rfl) rfl rfl rfl ?_; clear hf fa; intro fa hf
        refine sqv hf (r_loadA (cs := [(.int .u8 y.1), (.int .u64 y.2.1)]) rfl Try.underlying57 rfl (by kernel_rfl) (cellsAt_below hel1 hb hlb1)) rfl rfl rfl ?_; clear hf fa; intro fa hf
        refine sqdt hf (d_callB (vs := [(.agg #[(.int .u8 y.1), (.int .u64 y.2.1)])]) rfl Try.func32 (by kernel_rfl) (by kernel_rfl) (rcut2_any y _ hz1 hz2)) rfl rfl rfl ?_; clear hf fa; rintro fa _ w4 ⟨rfl, he3⟩ hf
        replace hkb1 := blk_ext hkb1 he3
        replace hb := hb.trans (Below.mono he3 hb.size)
        refine sqdt hf (d_alloc (z := (.agg #[(.int .u8 (0 : Int)), (.int .u64 (0 : Int))])) (cs := #[(.int .u8 (0 : Int)), (.int .u64 (0 : Int))]) (by kernel_rfl) rfl) rfl rfl rfl ?_; clear hf fa; rintro fa _ w5 ⟨b2, rfl, hle2, hk2, he4⟩ hf
        have hBb2 : w.heap.size ≤ b2 := Nat.le_trans hb.size hle2
        have : b1 < b2 := Nat.lt_of_lt_of_le (blk_lt hkb1) hle2
        replace hkb1 := blk_ext hkb1 he4
        replace hb := hb.trans (Below.mono he4 hb.size)
        refine sqn hf (d_storeK (T := 57) (v := (.agg #[(.int .u8 ((tcutP y).1)), (.int .u64 ((tcutP y).2.1))])) (cs := #[(.int .u8 (0 : Int)), (.int .u64 (0 : Int))]) (cs' := #[(.int .u8 ((tcutP y).1)), (.int .u64 ((tcutP y).2.1))]) rfl rfl (by kernel_rfl) (by kernel_rfl) hk2 (by kernel_rfl) (by kernel_rfl)) rfl rfl ?_; clear hf fa; rintro fa _ w6 ⟨hk3, hg1⟩ hf
        replace hkb1 := blk_grown hkb1 hg1 (by omega)
        replace hb := hb.trans (grown_below hg1 hb.size hBb2)
        apply wpList_nil
        (try simp only [Exit.then, Exit.inBlock, ↓reduceIte, Nat.reduceEqDiff])
        refine hK12 _ _ ?_
        refine wp_seq_k (fun K13 hK13 => ?_)
        refine wp_region_un (fun wq => Below w6.heap.size w6 wq) (fun w w' => Below w.heap.size w w')
          (fun V => [(fun x _ => x = (.slice d.at' d.len d.cap)), (fun x _ => x = (.int .i64 ((k : Nat) : Int))), (fun x _ => x = (.pointer (some ⟨ab1, (aoff1 + k * 2), none⟩))), (fun x _ => x = (.agg #[(.int .u8 y.1), (.int .u64 y.2.1)])), (fun x _ => x = (.agg #[(.int .u8 ((tcutP y).1)), (.int .u64 ((tcutP y).2.1))])), (fun x _ => x = (.agg #[(.int .u8 ((tcutP y).1)), (.int .u64 ((tcutP y).2.1))])), (fun x _ => x = (.bool false)), (fun x _ => x = (.bool false)), (fun x _ => x = (.slice d.at' d.len d.cap)), (fun x _ => x = (.int .i64 ((k : Nat) : Int))), (fun x _ => x = (.pointer (some ⟨ab1, (aoff1 + k * 2), none⟩))), (fun x _ => x = (.agg #[(.int .u8 y.1), (.int .u64 y.2.1)])), (fun x _ => x = (.bool (vrightP y))), (fun x _ => x = (.slice d.at' d.len d.cap)), (fun x _ => x = (.int .i64 ((k : Nat) : Int))), (fun x _ => x = (.pointer (some ⟨ab1, (aoff1 + k * 2), none⟩))), (fun x _ => x = (.pointer (some ⟨ab1, (aoff1 + k * 2), none⟩))), (fun x _ => x = (.int .u8 y.1)), (fun x _ => x = (.int .i64 y.1)), (fun x _ => x = (.int .i64 ((tvalP y.1)))), (fun x _ => x = (.bool (decide (((tvalP y.1)) = (0 : Int))))), (fun x _ => x = (.bool (decide (((tvalP y.1)) = (0 : Int))))), (fun x _ => x = (gb (decide (((tvalP y.1)) = (0 : Int))) (.agg #[(.int .u8 ((tcutP y).1)), (.int .u64 ((tcutP y).2.1))]))), (fun x _ => x = (gb (decide (((tvalP y.1)) = (0 : Int))) (.slice d.at' d.len d.cap))), (fun x _ => x = (gb (decide (((tvalP y.1)) = (0 : Int))) (.int .i64 ((k : Nat) : Int)))), (fun x _ => x = (gb (decide (((tvalP y.1)) = (0 : Int))) (.pointer (some ⟨ab1, (aoff1 + k * 2), none⟩)))), (fun x _ => x = (gb (decide (((tvalP y.1)) = (0 : Int))) (.agg #[(.int .u8 y.1), (.int .u64 y.2.1)]))), (fun x _ => x = (gb (decide (((tvalP y.1)) = (0 : Int))) (.bool ((decide (((tcutP y).1) = y.1)) && (decide (((tcutP y).2.1) = y.2.1)))))), (fun x _ => x = (.bool ((decide (((tvalP y.1)) = (0 : Int))) && ((decide (((tcutP y).1) = y.1)) && (decide (((tcutP y).2.1) = y.2.1)))))), (fun x _ => x = (.bool false)), (fun x _ => x = (.bool false)), (fun x _ => x = (.bool false)), (fun x _ => x = (.slice d.at' d.len d.cap)), (fun x _ => x = (.int .i64 ((k : Nat) : Int))), (fun x _ => x = (.pointer (some ⟨ab1, (aoff1 + k * 2), none⟩))), (fun x _ => x = (.pointer (some ⟨ab1, (aoff1 + k * 2), none⟩))), (fun x _ => x = (.int .u8 y.1)), (fun x _ => x = (.agg #[(.int .u8 ((zeroP y.1).1)), (.int .u64 ((zeroP y.1).2.1))])), (fun x _ => x = (.slice d.at' d.len d.cap)), (fun x _ => x = (.int .i64 ((k : Nat) : Int))), (fun x _ => x = (.pointer (some ⟨ab1, (aoff1 + k * 2), none⟩))), (fun x _ => x = (.pointer (some ⟨ab1, (aoff1 + k * 2), none⟩))), (fun x _ => x = (.int .u8 y.1)), (fun x _ => x = (.agg #[(.int .u8 y.1), (.int .u64 (0 : Int))])), (fun x _ => x = (.bool false)), (fun x _ => x = (.bool false))])
          []
          [[], [], [0, 1], [2], [3], [], [4, 5], [4, 6], [7], [7], [7, 8, 9], [7, 10], [7, 11], [7], [7], [7, 13, 14], [7, 15], [7, 16], [7, 17], [7, 12, 18], [7, 19], [7, 19, 20], [21], [21], [21], [21, 23, 24], [21, 25], [21, 22, 26], [7, 21, 27], [7, 12, 28], [7, 29], [21, 30], [31], [31], [31, 32, 33], [31, 34], [31, 35], [31, 36], [31], [31], [31, 38, 39], [31, 40], [31, 41], [31, 42], [31, 37, 43], [31, 44]]
          hf (by kernel_rfl) (by kernel_rfl) (fun _ => rfl) ((Below.refl _ _).drew) (fun a b h1 h2 => h1.trans (h2.mono h1.size)) (fun _ _ h => h.size) (fun V => ⟨kept_eq, kept_eq, kept_eq, kept_eq, kept_eq, kept_eq, kept_eq, kept_eq, kept_eq, kept_eq, kept_eq, kept_eq, kept_eq, kept_eq, kept_eq, kept_eq, kept_eq, kept_eq, kept_eq, kept_eq, kept_eq, kept_eq, kept_eq, kept_eq, kept_eq, kept_eq, kept_eq, kept_eq, kept_eq, kept_eq, kept_eq, kept_eq, kept_eq, kept_eq, kept_eq, kept_eq, kept_eq, kept_eq, kept_eq, kept_eq, kept_eq, kept_eq, kept_eq, kept_eq, kept_eq, kept_eq, trivial⟩) (fun _ _ _ _ _ => rfl) ?_ ?_
        · skip
          intro V
          refine ⟨fun wu0 hC hd => ?_, ?_⟩
          · clear hd
            replace hb := hb.trans (hC.mono hb.size)
            replace hkb1 := blk_ext hkb1 hC
            replace hk3 := blk_ext hk3 hC
            exact Runs.does (r_move rfl) ⟨Below.refl _ _, rfl, nofr rfl⟩
          refine ⟨fun wu1 hC hd => ?_, ?_⟩
          · clear hd
            replace hb := hb.trans (hC.mono hb.size)
            replace hkb1 := blk_ext hkb1 hC
            replace hk3 := blk_ext hk3 hC
            exact Runs.does (r_move rfl) ⟨Below.refl _ _, rfl, nofr rfl⟩
          refine ⟨fun wu2 hC hd => ?_, ?_⟩
          · obtain ⟨h0, h1, _⟩ := hd
            skip
            skip
            replace h0 : V 0 = (.slice d.at' d.len d.cap) := h0
            replace h1 : V 1 = (.int .i64 ((k : Nat) : Int)) := h1
            replace hb := hb.trans (hC.mono hb.size)
            replace hkb1 := blk_ext hkb1 hC
            replace hk3 := blk_ext hk3 hC
            exact Runs.does (r_ixa (sz := 2) (j := k) (evAt (congrArg some h0) hat1) (congrArg some h1) Try.underlying52 (by kernel_rfl) rfl (by omega) rfl) ⟨Below.refl _ _, rfl, nofr rfl⟩
          refine ⟨fun wu3 hC hd => ?_, ?_⟩
          · obtain ⟨h2, _⟩ := hd
            skip
            replace h2 : V 2 = (.pointer (some ⟨ab1, (aoff1 + k * 2), none⟩)) := h2
            replace hb := hb.trans (hC.mono hb.size)
            replace hkb1 := blk_ext hkb1 hC
            replace hk3 := blk_ext hk3 hC
            exact Runs.does (r_loadA (cs := [(.int .u8 y.1), (.int .u64 y.2.1)]) (congrArg some h2) Try.underlying57 rfl (by kernel_rfl) (cellsAt_below hel1 hb hlb1)) ⟨Below.refl _ _, rfl, nofr rfl⟩
          refine ⟨fun wu4 hC hd => ?_, ?_⟩
          · obtain ⟨h3, _⟩ := hd
            skip
            replace h3 : V 3 = (.agg #[(.int .u8 y.1), (.int .u64 y.2.1)]) := h3
            replace hb := hb.trans (hC.mono hb.size)
            replace hkb1 := blk_ext hkb1 hC
            replace hk3 := blk_ext hk3 hC
            refine Does.mono (d_callB (vs := [(.agg #[(.int .u8 y.1), (.int .u64 y.2.1)])]) (show [some (V 3)] = [some (.agg #[(.int .u8 y.1), (.int .u64 y.2.1)])] from by rw [h3]) Try.func33 (by kernel_rfl) (by kernel_rfl) (tcut_any y _ hz1 hz2)) (fun _ _ h => ⟨h.2, h.1, nofr rfl⟩)
          refine ⟨fun wu5 hC hd => ?_, ?_⟩
          · clear hd
            replace hb := hb.trans (hC.mono hb.size)
            replace hkb1 := blk_ext hkb1 hC
            replace hk3 := blk_ext hk3 hC
            exact Runs.does (r_loadA (cs := [(.int .u8 ((tcutP y).1)), (.int .u64 ((tcutP y).2.1))]) rfl Try.underlying57 rfl (by kernel_rfl) (cellsAt_blk hk3)) ⟨Below.refl _ _, rfl, nofr rfl⟩
          refine ⟨fun wu6 hC hd => ?_, ?_⟩
          · obtain ⟨h4, h5, _⟩ := hd
            skip
            skip
            replace h4 : V 4 = (.agg #[(.int .u8 ((tcutP y).1)), (.int .u64 ((tcutP y).2.1))]) := h4
            replace h5 : V 5 = (.agg #[(.int .u8 ((tcutP y).1)), (.int .u64 ((tcutP y).2.1))]) := h5
            replace hb := hb.trans (hC.mono hb.size)
            replace hkb1 := blk_ext hkb1 hC
            replace hk3 := blk_ext hk3 hC
            exact Runs.does (Runs.veq (r_ane (k := 5) (congrArg some h4) (congrArg some h5) (by kernel_rfl) (eqt_struct (xs := #[(.int .u8 ((tcutP y).1)), (.int .u64 ((tcutP y).2.1))]) (ys := #[(.int .u8 ((tcutP y).1)), (.int .u64 ((tcutP y).2.1))]) Try.underlying57 (by kernel_rfl) (eqf_cons (by kernel_rfl) (fun _ => by kernel_rfl) (fun _ => by kernel_rfl) (eqt_int (kk := .u8) (a := ((tcutP y).1)) (b := ((tcutP y).1)) Try.underlying5) (eqf_one (by kernel_rfl) (fun _ => by kernel_rfl) (fun _ => by kernel_rfl) (eqt_int (kk := .u64) (a := ((tcutP y).2.1)) (b := ((tcutP y).2.1)) Try.underlying55)))) rfl) (congrArg Value.bool (show _ = false from (by simp)))) ⟨Below.refl _ _, rfl, nofr rfl⟩
          refine ⟨fun wu7 hC hd => ?_, ?_⟩
          · obtain ⟨h4, h6, _⟩ := hd
            skip
            skip
            replace h4 : V 4 = (.agg #[(.int .u8 ((tcutP y).1)), (.int .u64 ((tcutP y).2.1))]) := h4
            replace h6 : V 6 = (.bool false) := h6
            replace hb := hb.trans (hC.mono hb.size)
            replace hkb1 := blk_ext hkb1 hC
            replace hk3 := blk_ext hk3 hC
            exact Runs.does (r_move (congrArg some h6)) ⟨Below.refl _ _, rfl, nofr rfl⟩
          refine ⟨fun wu8 hC hd => ?_, ?_⟩
          · obtain ⟨h7, _⟩ := hd
            skip
            replace h7 : V 7 = (.bool false) := h7
            replace hb := hb.trans (hC.mono hb.size)
            replace hkb1 := blk_ext hkb1 hC
            replace hk3 := blk_ext hk3 hC
            refine ⟨true, false, congrArg some h7, fun hact => ?_, fun hact => ?_⟩
            · exact Runs.does (r_move rfl) ⟨Below.refl _ _, rfl, nofr rfl⟩
            · exfalso; simp at hact
          refine ⟨fun wu9 hC hd => ?_, ?_⟩
          · obtain ⟨h7, _⟩ := hd
            skip
            replace h7 : V 7 = (.bool false) := h7
            replace hb := hb.trans (hC.mono hb.size)
            replace hkb1 := blk_ext hkb1 hC
            replace hk3 := blk_ext hk3 hC
            refine ⟨true, false, congrArg some h7, fun hact => ?_, fun hact => ?_⟩
            · exact Runs.does (r_move rfl) ⟨Below.refl _ _, rfl, nofr rfl⟩
            · exfalso; simp at hact
          refine ⟨fun wu10 hC hd => ?_, ?_⟩
          · obtain ⟨h7, h8, h9, _⟩ := hd
            skip
            skip
            skip
            replace h7 : V 7 = (.bool false) := h7
            replace h8 : V 8 = (.slice d.at' d.len d.cap) := h8
            replace h9 : V 9 = (.int .i64 ((k : Nat) : Int)) := h9
            replace hb := hb.trans (hC.mono hb.size)
            replace hkb1 := blk_ext hkb1 hC
            replace hk3 := blk_ext hk3 hC
            refine ⟨true, false, congrArg some h7, fun hact => ?_, fun hact => ?_⟩
            · exact Runs.does (r_ixa (sz := 2) (j := k) (evAt (congrArg some h8) hat1) (congrArg some h9) Try.underlying52 (by kernel_rfl) rfl (by omega) rfl) ⟨Below.refl _ _, rfl, nofr rfl⟩
            · exfalso; simp at hact
          refine ⟨fun wu11 hC hd => ?_, ?_⟩
          · obtain ⟨h7, h10, _⟩ := hd
            skip
            skip
            replace h7 : V 7 = (.bool false) := h7
            replace h10 : V 10 = (.pointer (some ⟨ab1, (aoff1 + k * 2), none⟩)) := h10
            replace hb := hb.trans (hC.mono hb.size)
            replace hkb1 := blk_ext hkb1 hC
            replace hk3 := blk_ext hk3 hC
            refine ⟨true, false, congrArg some h7, fun hact => ?_, fun hact => ?_⟩
            · exact Runs.does (r_loadA (cs := [(.int .u8 y.1), (.int .u64 y.2.1)]) (congrArg some h10) Try.underlying57 rfl (by kernel_rfl) (cellsAt_below hel1 hb hlb1)) ⟨Below.refl _ _, rfl, nofr rfl⟩
            · exfalso; simp at hact
          refine ⟨fun wu12 hC hd => ?_, ?_⟩
          · obtain ⟨h7, h11, _⟩ := hd
            skip
            skip
            replace h7 : V 7 = (.bool false) := h7
            replace h11 : V 11 = (.agg #[(.int .u8 y.1), (.int .u64 y.2.1)]) := h11
            replace hb := hb.trans (hC.mono hb.size)
            replace hkb1 := blk_ext hkb1 hC
            replace hk3 := blk_ext hk3 hC
            refine ⟨true, false, congrArg some h7, fun hact => ?_, fun hact => ?_⟩
            · refine Does.mono (d_callB (vs := [(.agg #[(.int .u8 y.1), (.int .u64 y.2.1)])]) (show [some (V 11)] = [some (.agg #[(.int .u8 y.1), (.int .u64 y.2.1)])] from by rw [h11]) Try.func34 (by kernel_rfl) (by kernel_rfl) (vright_any y _ hz1 hz2)) (fun _ _ h => ⟨h.2, h.1, nofr rfl⟩)
            · exfalso; simp at hact
          refine ⟨fun wu13 hC hd => ?_, ?_⟩
          · obtain ⟨h7, _⟩ := hd
            skip
            replace h7 : V 7 = (.bool false) := h7
            replace hb := hb.trans (hC.mono hb.size)
            replace hkb1 := blk_ext hkb1 hC
            replace hk3 := blk_ext hk3 hC
            refine ⟨true, false, congrArg some h7, fun hact => ?_, fun hact => ?_⟩
            · exact Runs.does (r_move rfl) ⟨Below.refl _ _, rfl, nofr rfl⟩
            · exfalso; simp at hact
          refine ⟨fun wu14 hC hd => ?_, ?_⟩
          · obtain ⟨h7, _⟩ := hd
            skip
            replace h7 : V 7 = (.bool false) := h7
            replace hb := hb.trans (hC.mono hb.size)
            replace hkb1 := blk_ext hkb1 hC
            replace hk3 := blk_ext hk3 hC
            refine ⟨true, false, congrArg some h7, fun hact => ?_, fun hact => ?_⟩
            · exact Runs.does (r_move rfl) ⟨Below.refl _ _, rfl, nofr rfl⟩
            · exfalso; simp at hact
          refine ⟨fun wu15 hC hd => ?_, ?_⟩
          · obtain ⟨h7, h13, h14, _⟩ := hd
            skip
            skip
            skip
            replace h7 : V 7 = (.bool false) := h7
            replace h13 : V 13 = (.slice d.at' d.len d.cap) := h13
            replace h14 : V 14 = (.int .i64 ((k : Nat) : Int)) := h14
            replace hb := hb.trans (hC.mono hb.size)
            replace hkb1 := blk_ext hkb1 hC
            replace hk3 := blk_ext hk3 hC
            refine ⟨true, false, congrArg some h7, fun hact => ?_, fun hact => ?_⟩
            · exact Runs.does (r_ixa (sz := 2) (j := k) (evAt (congrArg some h13) hat1) (congrArg some h14) Try.underlying52 (by kernel_rfl) rfl (by omega) rfl) ⟨Below.refl _ _, rfl, nofr rfl⟩
            · exfalso; simp at hact
          refine ⟨fun wu16 hC hd => ?_, ?_⟩
          · obtain ⟨h7, h15, _⟩ := hd
            skip
            skip
            replace h7 : V 7 = (.bool false) := h7
            replace h15 : V 15 = (.pointer (some ⟨ab1, (aoff1 + k * 2), none⟩)) := h15
            replace hb := hb.trans (hC.mono hb.size)
            replace hkb1 := blk_ext hkb1 hC
            replace hk3 := blk_ext hk3 hC
            refine ⟨true, false, congrArg some h7, fun hact => ?_, fun hact => ?_⟩
            · exact Runs.does (r_fa (congrArg some h15) Try.underlying57 (f := 0) (q := (aoff1 + k * 2)) rfl (by kernel_rfl) rfl) ⟨Below.refl _ _, rfl, nofr rfl⟩
            · exfalso; simp at hact
          refine ⟨fun wu17 hC hd => ?_, ?_⟩
          · obtain ⟨h7, h16, _⟩ := hd
            skip
            skip
            replace h7 : V 7 = (.bool false) := h7
            replace h16 : V 16 = (.pointer (some ⟨ab1, (aoff1 + k * 2), none⟩)) := h16
            replace hb := hb.trans (hC.mono hb.size)
            replace hkb1 := blk_ext hkb1 hC
            replace hk3 := blk_ext hk3 hC
            refine ⟨true, false, congrArg some h7, fun hact => ?_, fun hact => ?_⟩
            · exact Runs.does (r_load (v := (.int .u8 y.1)) (congrArg some h16) Try.underlying5 rfl (cellsAt_cell (cellsAt_below hel1 hb hlb1) (i := 0) rfl rfl)) ⟨Below.refl _ _, rfl, nofr rfl⟩
            · exfalso; simp at hact
          refine ⟨fun wu18 hC hd => ?_, ?_⟩
          · obtain ⟨h7, h17, _⟩ := hd
            skip
            skip
            replace h7 : V 7 = (.bool false) := h7
            replace h17 : V 17 = (.int .u8 y.1) := h17
            replace hb := hb.trans (hC.mono hb.size)
            replace hkb1 := blk_ext hkb1 hC
            replace hk3 := blk_ext hk3 hC
            refine ⟨true, false, congrArg some h7, fun hact => ?_, fun hact => ?_⟩
            · exact Runs.does (r_conv (C := y.1) (congrArg some h17) Try.underlying5 Try.underlying3 (by rw [IntKind.wrap_i64]; omega)) ⟨Below.refl _ _, rfl, nofr rfl⟩
            · exfalso; simp at hact
          refine ⟨fun wu19 hC hd => ?_, ?_⟩
          · obtain ⟨h7, h12, h18, _⟩ := hd
            skip
            skip
            skip
            replace h7 : V 7 = (.bool false) := h7
            replace h12 : V 12 = (.bool (vrightP y)) := h12
            replace h18 : V 18 = (.int .i64 y.1) := h18
            replace hb := hb.trans (hC.mono hb.size)
            replace hkb1 := blk_ext hkb1 hC
            replace hk3 := blk_ext hk3 hC
            refine ⟨true, false, congrArg some h7, fun hact => ?_, fun hact => ?_⟩
            · refine Does.mono (d_callS (vs := [(.int .i64 y.1)]) (show [some (V 18)] = [some (.int .i64 y.1)] from by rw [h18]) Try.func35 (by kernel_rfl) (by kernel_rfl) (rval2_any y.1 _)) (fun _ _ h => ⟨h.2 ▸ Below.refl _ _, h.1, nofr rfl⟩)
            · exfalso; simp at hact
          refine ⟨fun wu20 hC hd => ?_, ?_⟩
          · obtain ⟨h7, h19, _⟩ := hd
            skip
            skip
            replace h7 : V 7 = (.bool false) := h7
            replace h19 : V 19 = (.int .i64 ((tvalP y.1))) := h19
            replace hb := hb.trans (hC.mono hb.size)
            replace hkb1 := blk_ext hkb1 hC
            replace hk3 := blk_ext hk3 hC
            refine ⟨true, false, congrArg some h7, fun hact => ?_, fun hact => ?_⟩
            · exact Runs.does (r_eq (congrArg some h19) rfl) ⟨Below.refl _ _, rfl, nofr rfl⟩
            · exfalso; simp at hact
          refine ⟨fun wu21 hC hd => ?_, ?_⟩
          · obtain ⟨h7, h19, h20, _⟩ := hd
            skip
            skip
            skip
            replace h7 : V 7 = (.bool false) := h7
            replace h19 : V 19 = (.int .i64 ((tvalP y.1))) := h19
            replace h20 : V 20 = (.bool (decide (((tvalP y.1)) = (0 : Int)))) := h20
            replace hb := hb.trans (hC.mono hb.size)
            replace hkb1 := blk_ext hkb1 hC
            replace hk3 := blk_ext hk3 hC
            refine ⟨true, false, congrArg some h7, fun hact => ?_, fun hact => ?_⟩
            · exact Runs.does (r_move (congrArg some h20)) ⟨Below.refl _ _, rfl, nofr rfl⟩
            · exfalso; simp at hact
          refine ⟨fun wu22 hC hd => ?_, ?_⟩
          · obtain ⟨h21, _⟩ := hd
            skip
            replace h21 : V 21 = (.bool (decide (((tvalP y.1)) = (0 : Int)))) := h21
            replace hb := hb.trans (hC.mono hb.size)
            replace hkb1 := blk_ext hkb1 hC
            replace hk3 := blk_ext hk3 hC
            refine ⟨true, (decide (((tvalP y.1)) = (0 : Int))), congrArg some h21, fun hact => ?_, fun hact => ?_⟩
            · replace hact : (decide (((tvalP y.1)) = (0 : Int))) = true := by simpa using hact
              refine Runs.does (v := (.agg #[(.int .u8 ((tcutP y).1)), (.int .u64 ((tcutP y).2.1))])) (r_loadA (cs := [(.int .u8 ((tcutP y).1)), (.int .u64 ((tcutP y).2.1))]) rfl Try.underlying57 rfl (by kernel_rfl) (cellsAt_blk hk3)) ⟨Below.refl _ _, ?_, nofr rfl⟩
              show _ = gb _ _; rw [hact]; rfl
            · replace hact : (decide (((tvalP y.1)) = (0 : Int))) = false := by simpa using hact
              refine ⟨Below.refl _ _, ?_, nofr rfl⟩
              show _ = gb _ _; rw [hact]; rfl
          refine ⟨fun wu23 hC hd => ?_, ?_⟩
          · obtain ⟨h21, _⟩ := hd
            skip
            replace h21 : V 21 = (.bool (decide (((tvalP y.1)) = (0 : Int)))) := h21
            replace hb := hb.trans (hC.mono hb.size)
            replace hkb1 := blk_ext hkb1 hC
            replace hk3 := blk_ext hk3 hC
            refine ⟨true, (decide (((tvalP y.1)) = (0 : Int))), congrArg some h21, fun hact => ?_, fun hact => ?_⟩
            · replace hact : (decide (((tvalP y.1)) = (0 : Int))) = true := by simpa using hact
              refine Runs.does (v := (.slice d.at' d.len d.cap)) (r_move rfl) ⟨Below.refl _ _, ?_, nofr rfl⟩
              show _ = gb _ _; rw [hact]; rfl
            · replace hact : (decide (((tvalP y.1)) = (0 : Int))) = false := by simpa using hact
              refine ⟨Below.refl _ _, ?_, nofr rfl⟩
              show _ = gb _ _; rw [hact]; rfl
          refine ⟨fun wu24 hC hd => ?_, ?_⟩
          · obtain ⟨h21, _⟩ := hd
            skip
            replace h21 : V 21 = (.bool (decide (((tvalP y.1)) = (0 : Int)))) := h21
            replace hb := hb.trans (hC.mono hb.size)
            replace hkb1 := blk_ext hkb1 hC
            replace hk3 := blk_ext hk3 hC
            refine ⟨true, (decide (((tvalP y.1)) = (0 : Int))), congrArg some h21, fun hact => ?_, fun hact => ?_⟩
            · replace hact : (decide (((tvalP y.1)) = (0 : Int))) = true := by simpa using hact
              refine Runs.does (v := (.int .i64 ((k : Nat) : Int))) (r_move rfl) ⟨Below.refl _ _, ?_, nofr rfl⟩
              show _ = gb _ _; rw [hact]; rfl
            · replace hact : (decide (((tvalP y.1)) = (0 : Int))) = false := by simpa using hact
              refine ⟨Below.refl _ _, ?_, nofr rfl⟩
              show _ = gb _ _; rw [hact]; rfl
          refine ⟨fun wu25 hC hd => ?_, ?_⟩
          · obtain ⟨h21, h23, h24, _⟩ := hd
            skip
            skip
            skip
            replace h21 : V 21 = (.bool (decide (((tvalP y.1)) = (0 : Int)))) := h21
            replace h23 : V 23 = (gb (decide (((tvalP y.1)) = (0 : Int))) (.slice d.at' d.len d.cap)) := h23
            replace h24 : V 24 = (gb (decide (((tvalP y.1)) = (0 : Int))) (.int .i64 ((k : Nat) : Int))) := h24
            replace hb := hb.trans (hC.mono hb.size)
            replace hkb1 := blk_ext hkb1 hC
            replace hk3 := blk_ext hk3 hC
            refine ⟨true, (decide (((tvalP y.1)) = (0 : Int))), congrArg some h21, fun hact => ?_, fun hact => ?_⟩
            · replace hact : (decide (((tvalP y.1)) = (0 : Int))) = true := by simpa using hact
              refine Runs.does (v := (.pointer (some ⟨ab1, (aoff1 + k * 2), none⟩))) (by have hact0 := hact; (try simp only [Bool.and_eq_true, Bool.not_eq_true', Bool.or_eq_false_iff, Bool.or_eq_true, Bool.and_eq_false_iff, ne_eq, decide_eq_true_eq, decide_eq_false_iff_not] at hact0); exact (r_ixa (sz := 2) (j := k) (evAt (gb_ev hact (congrArg some h23)) hat1) (gb_ev hact (congrArg some h24)) Try.underlying52 (by kernel_rfl) rfl (by omega) rfl)) ⟨Below.refl _ _, ?_, nofr rfl⟩
              show _ = gb _ _; rw [hact]; rfl
            · replace hact : (decide (((tvalP y.1)) = (0 : Int))) = false := by simpa using hact
              refine ⟨Below.refl _ _, ?_, nofr rfl⟩
              show _ = gb _ _; rw [hact]; rfl
          refine ⟨fun wu26 hC hd => ?_, ?_⟩
          · obtain ⟨h21, h25, _⟩ := hd
            skip
            skip
            replace h21 : V 21 = (.bool (decide (((tvalP y.1)) = (0 : Int)))) := h21
            replace h25 : V 25 = (gb (decide (((tvalP y.1)) = (0 : Int))) (.pointer (some ⟨ab1, (aoff1 + k * 2), none⟩))) := h25
            replace hb := hb.trans (hC.mono hb.size)
            replace hkb1 := blk_ext hkb1 hC
            replace hk3 := blk_ext hk3 hC
            refine ⟨true, (decide (((tvalP y.1)) = (0 : Int))), congrArg some h21, fun hact => ?_, fun hact => ?_⟩
            · replace hact : (decide (((tvalP y.1)) = (0 : Int))) = true := by simpa using hact
              refine Runs.does (v := (.agg #[(.int .u8 y.1), (.int .u64 y.2.1)])) (r_loadA (cs := [(.int .u8 y.1), (.int .u64 y.2.1)]) (gb_ev hact (congrArg some h25)) Try.underlying57 rfl (by kernel_rfl) (cellsAt_below hel1 hb hlb1)) ⟨Below.refl _ _, ?_, nofr rfl⟩
              show _ = gb _ _; rw [hact]; rfl
            · replace hact : (decide (((tvalP y.1)) = (0 : Int))) = false := by simpa using hact
              refine ⟨Below.refl _ _, ?_, nofr rfl⟩
              show _ = gb _ _; rw [hact]; rfl
          refine ⟨fun wu27 hC hd => ?_, ?_⟩
          · obtain ⟨h21, h22, h26, _⟩ := hd
            skip
            skip
            skip
            replace h21 : V 21 = (.bool (decide (((tvalP y.1)) = (0 : Int)))) := h21
            replace h22 : V 22 = (gb (decide (((tvalP y.1)) = (0 : Int))) (.agg #[(.int .u8 ((tcutP y).1)), (.int .u64 ((tcutP y).2.1))])) := h22
            replace h26 : V 26 = (gb (decide (((tvalP y.1)) = (0 : Int))) (.agg #[(.int .u8 y.1), (.int .u64 y.2.1)])) := h26
            replace hb := hb.trans (hC.mono hb.size)
            replace hkb1 := blk_ext hkb1 hC
            replace hk3 := blk_ext hk3 hC
            refine ⟨true, (decide (((tvalP y.1)) = (0 : Int))), congrArg some h21, fun hact => ?_, fun hact => ?_⟩
            · replace hact : (decide (((tvalP y.1)) = (0 : Int))) = true := by simpa using hact
              refine Runs.does (v := (.bool ((decide (((tcutP y).1) = y.1)) && (decide (((tcutP y).2.1) = y.2.1))))) (r_aeq (k := 5) (gb_ev hact (congrArg some h22)) (gb_ev hact (congrArg some h26)) (by kernel_rfl) (eqt_struct (xs := #[(.int .u8 ((tcutP y).1)), (.int .u64 ((tcutP y).2.1))]) (ys := #[(.int .u8 y.1), (.int .u64 y.2.1)]) Try.underlying57 (by kernel_rfl) (eqf_cons (by kernel_rfl) (fun _ => by kernel_rfl) (fun _ => by kernel_rfl) (eqt_int (kk := .u8) (a := ((tcutP y).1)) (b := y.1) Try.underlying5) (eqf_one (by kernel_rfl) (fun _ => by kernel_rfl) (fun _ => by kernel_rfl) (eqt_int (kk := .u64) (a := ((tcutP y).2.1)) (b := y.2.1) Try.underlying55)))) rfl) ⟨Below.refl _ _, ?_, nofr rfl⟩
              show _ = gb _ _; rw [hact]; rfl
            · replace hact : (decide (((tvalP y.1)) = (0 : Int))) = false := by simpa using hact
              refine ⟨Below.refl _ _, ?_, nofr rfl⟩
              show _ = gb _ _; rw [hact]; rfl
          refine ⟨fun wu28 hC hd => ?_, ?_⟩
          · obtain ⟨h7, h21, h27, _⟩ := hd
            skip
            skip
            skip
            replace h7 : V 7 = (.bool false) := h7
            replace h21 : V 21 = (.bool (decide (((tvalP y.1)) = (0 : Int)))) := h21
            replace h27 : V 27 = (gb (decide (((tvalP y.1)) = (0 : Int))) (.bool ((decide (((tcutP y).1) = y.1)) && (decide (((tcutP y).2.1) = y.2.1))))) := h27
            replace hb := hb.trans (hC.mono hb.size)
            replace hkb1 := blk_ext hkb1 hC
            replace hk3 := blk_ext hk3 hC
            refine ⟨true, false, congrArg some h7, fun hact => ?_, fun hact => ?_⟩
            · exact Runs.does (r_pickA (b := (decide (((tvalP y.1)) = (0 : Int)))) (e := ((decide (((tcutP y).1) = y.1)) && (decide (((tcutP y).2.1) = y.2.1)))) (congrArg some h21) (congrArg some h27) rfl) ⟨Below.refl _ _, rfl, nofr rfl⟩
            · exfalso; simp at hact
          refine ⟨fun wu29 hC hd => ?_, ?_⟩
          · obtain ⟨h7, h12, h28, _⟩ := hd
            skip
            skip
            skip
            replace h7 : V 7 = (.bool false) := h7
            replace h12 : V 12 = (.bool (vrightP y)) := h12
            replace h28 : V 28 = (.bool ((decide (((tvalP y.1)) = (0 : Int))) && ((decide (((tcutP y).1) = y.1)) && (decide (((tcutP y).2.1) = y.2.1))))) := h28
            replace hb := hb.trans (hC.mono hb.size)
            replace hkb1 := blk_ext hkb1 hC
            replace hk3 := blk_ext hk3 hC
            refine ⟨true, false, congrArg some h7, fun hact => ?_, fun hact => ?_⟩
            · exact Runs.does (Runs.veq (r_bne Try.underlying4 (congrArg some h12) (congrArg some h28)) (congrArg Value.bool (show _ = false from (by rw [vright_def]; simp)))) ⟨Below.refl _ _, rfl, nofr rfl⟩
            · exfalso; simp at hact
          refine ⟨fun wu30 hC hd => ?_, ?_⟩
          · obtain ⟨h7, h29, _⟩ := hd
            skip
            skip
            replace h7 : V 7 = (.bool false) := h7
            replace h29 : V 29 = (.bool false) := h29
            replace hb := hb.trans (hC.mono hb.size)
            replace hkb1 := blk_ext hkb1 hC
            replace hk3 := blk_ext hk3 hC
            exact Runs.does (r_pick (b := false) (congrArg some h7) rfl (congrArg some h29) rfl) ⟨Below.refl _ _, rfl, nofr rfl⟩
          refine ⟨fun wu31 hC hd => ?_, ?_⟩
          · obtain ⟨h21, h30, _⟩ := hd
            skip
            skip
            replace h21 : V 21 = (.bool (decide (((tvalP y.1)) = (0 : Int)))) := h21
            replace h30 : V 30 = (.bool false) := h30
            replace hb := hb.trans (hC.mono hb.size)
            replace hkb1 := blk_ext hkb1 hC
            replace hk3 := blk_ext hk3 hC
            exact Runs.does (r_move (congrArg some h30)) ⟨Below.refl _ _, rfl, nofr rfl⟩
          refine ⟨fun wu32 hC hd => ?_, ?_⟩
          · obtain ⟨h31, _⟩ := hd
            skip
            replace h31 : V 31 = (.bool false) := h31
            replace hb := hb.trans (hC.mono hb.size)
            replace hkb1 := blk_ext hkb1 hC
            replace hk3 := blk_ext hk3 hC
            refine ⟨true, false, congrArg some h31, fun hact => ?_, fun hact => ?_⟩
            · exact Runs.does (r_move rfl) ⟨Below.refl _ _, rfl, nofr rfl⟩
            · exfalso; simp at hact
          refine ⟨fun wu33 hC hd => ?_, ?_⟩
          · obtain ⟨h31, _⟩ := hd
            skip
            replace h31 : V 31 = (.bool false) := h31
            replace hb := hb.trans (hC.mono hb.size)
            replace hkb1 := blk_ext hkb1 hC
            replace hk3 := blk_ext hk3 hC
            refine ⟨true, false, congrArg some h31, fun hact => ?_, fun hact => ?_⟩
            · exact Runs.does (r_move rfl) ⟨Below.refl _ _, rfl, nofr rfl⟩
            · exfalso; simp at hact
          refine ⟨fun wu34 hC hd => ?_, ?_⟩
          · obtain ⟨h31, h32, h33, _⟩ := hd
            skip
            skip
            skip
            replace h31 : V 31 = (.bool false) := h31
            replace h32 : V 32 = (.slice d.at' d.len d.cap) := h32
            replace h33 : V 33 = (.int .i64 ((k : Nat) : Int)) := h33
            replace hb := hb.trans (hC.mono hb.size)
            replace hkb1 := blk_ext hkb1 hC
            replace hk3 := blk_ext hk3 hC
            refine ⟨true, false, congrArg some h31, fun hact => ?_, fun hact => ?_⟩
            · exact Runs.does (r_ixa (sz := 2) (j := k) (evAt (congrArg some h32) hat1) (congrArg some h33) Try.underlying52 (by kernel_rfl) rfl (by omega) rfl) ⟨Below.refl _ _, rfl, nofr rfl⟩
            · exfalso; simp at hact
          refine ⟨fun wu35 hC hd => ?_, ?_⟩
          · obtain ⟨h31, h34, _⟩ := hd
            skip
            skip
            replace h31 : V 31 = (.bool false) := h31
            replace h34 : V 34 = (.pointer (some ⟨ab1, (aoff1 + k * 2), none⟩)) := h34
            replace hb := hb.trans (hC.mono hb.size)
            replace hkb1 := blk_ext hkb1 hC
            replace hk3 := blk_ext hk3 hC
            refine ⟨true, false, congrArg some h31, fun hact => ?_, fun hact => ?_⟩
            · exact Runs.does (r_fa (congrArg some h34) Try.underlying57 (f := 0) (q := (aoff1 + k * 2)) rfl (by kernel_rfl) rfl) ⟨Below.refl _ _, rfl, nofr rfl⟩
            · exfalso; simp at hact
          refine ⟨fun wu36 hC hd => ?_, ?_⟩
          · obtain ⟨h31, h35, _⟩ := hd
            skip
            skip
            replace h31 : V 31 = (.bool false) := h31
            replace h35 : V 35 = (.pointer (some ⟨ab1, (aoff1 + k * 2), none⟩)) := h35
            replace hb := hb.trans (hC.mono hb.size)
            replace hkb1 := blk_ext hkb1 hC
            replace hk3 := blk_ext hk3 hC
            refine ⟨true, false, congrArg some h31, fun hact => ?_, fun hact => ?_⟩
            · exact Runs.does (r_load (v := (.int .u8 y.1)) (congrArg some h35) Try.underlying5 rfl (cellsAt_cell (cellsAt_below hel1 hb hlb1) (i := 0) rfl rfl)) ⟨Below.refl _ _, rfl, nofr rfl⟩
            · exfalso; simp at hact
          refine ⟨fun wu37 hC hd => ?_, ?_⟩
          · obtain ⟨h31, h36, _⟩ := hd
            skip
            skip
            replace h31 : V 31 = (.bool false) := h31
            replace h36 : V 36 = (.int .u8 y.1) := h36
            replace hb := hb.trans (hC.mono hb.size)
            replace hkb1 := blk_ext hkb1 hC
            replace hk3 := blk_ext hk3 hC
            refine ⟨true, false, congrArg some h31, fun hact => ?_, fun hact => ?_⟩
            · refine Does.mono (d_callB (vs := [(.int .u8 y.1)]) (show [some (V 36)] = [some (.int .u8 y.1)] from by rw [h36]) Try.func36 (by kernel_rfl) (by kernel_rfl) (zero_any y.1 _)) (fun _ _ h => ⟨h.2, h.1, nofr rfl⟩)
            · exfalso; simp at hact
          refine ⟨fun wu38 hC hd => ?_, ?_⟩
          · obtain ⟨h31, _⟩ := hd
            skip
            replace h31 : V 31 = (.bool false) := h31
            replace hb := hb.trans (hC.mono hb.size)
            replace hkb1 := blk_ext hkb1 hC
            replace hk3 := blk_ext hk3 hC
            refine ⟨true, false, congrArg some h31, fun hact => ?_, fun hact => ?_⟩
            · exact Runs.does (r_move rfl) ⟨Below.refl _ _, rfl, nofr rfl⟩
            · exfalso; simp at hact
          refine ⟨fun wu39 hC hd => ?_, ?_⟩
          · obtain ⟨h31, _⟩ := hd
            skip
            replace h31 : V 31 = (.bool false) := h31
            replace hb := hb.trans (hC.mono hb.size)
            replace hkb1 := blk_ext hkb1 hC
            replace hk3 := blk_ext hk3 hC
            refine ⟨true, false, congrArg some h31, fun hact => ?_, fun hact => ?_⟩
            · exact Runs.does (r_move rfl) ⟨Below.refl _ _, rfl, nofr rfl⟩
            · exfalso; simp at hact
          refine ⟨fun wu40 hC hd => ?_, ?_⟩
          · obtain ⟨h31, h38, h39, _⟩ := hd
            skip
            skip
            skip
            replace h31 : V 31 = (.bool false) := h31
            replace h38 : V 38 = (.slice d.at' d.len d.cap) := h38
            replace h39 : V 39 = (.int .i64 ((k : Nat) : Int)) := h39
            replace hb := hb.trans (hC.mono hb.size)
            replace hkb1 := blk_ext hkb1 hC
            replace hk3 := blk_ext hk3 hC
            refine ⟨true, false, congrArg some h31, fun hact => ?_, fun hact => ?_⟩
            · exact Runs.does (r_ixa (sz := 2) (j := k) (evAt (congrArg some h38) hat1) (congrArg some h39) Try.underlying52 (by kernel_rfl) rfl (by omega) rfl) ⟨Below.refl _ _, rfl, nofr rfl⟩
            · exfalso; simp at hact
          refine ⟨fun wu41 hC hd => ?_, ?_⟩
          · obtain ⟨h31, h40, _⟩ := hd
            skip
            skip
            replace h31 : V 31 = (.bool false) := h31
            replace h40 : V 40 = (.pointer (some ⟨ab1, (aoff1 + k * 2), none⟩)) := h40
            replace hb := hb.trans (hC.mono hb.size)
            replace hkb1 := blk_ext hkb1 hC
            replace hk3 := blk_ext hk3 hC
            refine ⟨true, false, congrArg some h31, fun hact => ?_, fun hact => ?_⟩
            · exact Runs.does (r_fa (congrArg some h40) Try.underlying57 (f := 0) (q := (aoff1 + k * 2)) rfl (by kernel_rfl) rfl) ⟨Below.refl _ _, rfl, nofr rfl⟩
            · exfalso; simp at hact
          refine ⟨fun wu42 hC hd => ?_, ?_⟩
          · obtain ⟨h31, h41, _⟩ := hd
            skip
            skip
            replace h31 : V 31 = (.bool false) := h31
            replace h41 : V 41 = (.pointer (some ⟨ab1, (aoff1 + k * 2), none⟩)) := h41
            replace hb := hb.trans (hC.mono hb.size)
            replace hkb1 := blk_ext hkb1 hC
            replace hk3 := blk_ext hk3 hC
            refine ⟨true, false, congrArg some h31, fun hact => ?_, fun hact => ?_⟩
            · exact Runs.does (r_load (v := (.int .u8 y.1)) (congrArg some h41) Try.underlying5 rfl (cellsAt_cell (cellsAt_below hel1 hb hlb1) (i := 0) rfl rfl)) ⟨Below.refl _ _, rfl, nofr rfl⟩
            · exfalso; simp at hact
          refine ⟨fun wu43 hC hd => ?_, ?_⟩
          · obtain ⟨h31, h42, _⟩ := hd
            skip
            skip
            replace h31 : V 31 = (.bool false) := h31
            replace h42 : V 42 = (.int .u8 y.1) := h42
            replace hb := hb.trans (hC.mono hb.size)
            replace hkb1 := blk_ext hkb1 hC
            replace hk3 := blk_ext hk3 hC
            refine ⟨true, false, congrArg some h31, fun hact => ?_, fun hact => ?_⟩
            · exact Runs.does (r_build (vs := [(0, (.int .u8 y.1))]) (cs := #[(.int .u8 y.1), (.int .u64 (0 : Int))]) (show [(0, some (V 42))] = [(0, some (.int .u8 y.1))] from by rw [h42]) (fun _ => by kernel_rfl)) ⟨Below.refl _ _, rfl, nofr rfl⟩
            · exfalso; simp at hact
          refine ⟨fun wu44 hC hd => ?_, ?_⟩
          · obtain ⟨h31, h37, h43, _⟩ := hd
            skip
            skip
            skip
            replace h31 : V 31 = (.bool false) := h31
            replace h37 : V 37 = (.agg #[(.int .u8 ((zeroP y.1).1)), (.int .u64 ((zeroP y.1).2.1))]) := h37
            replace h43 : V 43 = (.agg #[(.int .u8 y.1), (.int .u64 (0 : Int))]) := h43
            replace hb := hb.trans (hC.mono hb.size)
            replace hkb1 := blk_ext hkb1 hC
            replace hk3 := blk_ext hk3 hC
            refine ⟨true, false, congrArg some h31, fun hact => ?_, fun hact => ?_⟩
            · exact Runs.does (Runs.veq (r_ane (k := 5) (congrArg some h37) (congrArg some h43) (by kernel_rfl) (eqt_struct (xs := #[(.int .u8 ((zeroP y.1).1)), (.int .u64 ((zeroP y.1).2.1))]) (ys := #[(.int .u8 y.1), (.int .u64 (0 : Int))]) Try.underlying57 (by kernel_rfl) (eqf_cons (by kernel_rfl) (fun _ => by kernel_rfl) (fun _ => by kernel_rfl) (eqt_int (kk := .u8) (a := ((zeroP y.1).1)) (b := y.1) Try.underlying5) (eqf_one (by kernel_rfl) (fun _ => by kernel_rfl) (fun _ => by kernel_rfl) (eqt_int (kk := .u64) (a := ((zeroP y.1).2.1)) (b := (0 : Int)) Try.underlying55)))) rfl) (congrArg Value.bool (show _ = false from (by simp [zeroP])))) ⟨Below.refl _ _, rfl, nofr rfl⟩
            · exfalso; simp at hact
          refine ⟨fun wu45 hC hd => ?_, ?_⟩
          · obtain ⟨h31, h44, _⟩ := hd
            skip
            skip
            replace h31 : V 31 = (.bool false) := h31
            replace h44 : V 44 = (.bool false) := h44
            replace hb := hb.trans (hC.mono hb.size)
            replace hkb1 := blk_ext hkb1 hC
            replace hk3 := blk_ext hk3 hC
            exact Runs.does (r_pick (b := false) (congrArg some h31) rfl (congrArg some h44) rfl) ⟨Below.refl _ _, rfl, nofr rfl⟩
          trivial
        · skip
          clear hf fa; intro V w7 fa he5 hp hnb hf
          have hv0 : V 0 = (.slice d.at' d.len d.cap) := postsHold_at hp 0 rfl
          have hv1 : V 1 = (.int .i64 ((k : Nat) : Int)) := postsHold_at hp 1 rfl
          have hv2 : V 2 = (.pointer (some ⟨ab1, (aoff1 + k * 2), none⟩)) := postsHold_at hp 2 rfl
          have hv3 : V 3 = (.agg #[(.int .u8 y.1), (.int .u64 y.2.1)]) := postsHold_at hp 3 rfl
          have hv4 : V 4 = (.agg #[(.int .u8 ((tcutP y).1)), (.int .u64 ((tcutP y).2.1))]) := postsHold_at hp 4 rfl
          have hv5 : V 5 = (.agg #[(.int .u8 ((tcutP y).1)), (.int .u64 ((tcutP y).2.1))]) := postsHold_at hp 5 rfl
          have hv6 : V 6 = (.bool false) := postsHold_at hp 6 rfl
          have hv7 : V 7 = (.bool false) := postsHold_at hp 7 rfl
          have hv8 : V 8 = (.slice d.at' d.len d.cap) := postsHold_at hp 8 rfl
          have hv9 : V 9 = (.int .i64 ((k : Nat) : Int)) := postsHold_at hp 9 rfl
          have hv10 : V 10 = (.pointer (some ⟨ab1, (aoff1 + k * 2), none⟩)) := postsHold_at hp 10 rfl
          have hv11 : V 11 = (.agg #[(.int .u8 y.1), (.int .u64 y.2.1)]) := postsHold_at hp 11 rfl
          have hv12 : V 12 = (.bool (vrightP y)) := postsHold_at hp 12 rfl
          have hv13 : V 13 = (.slice d.at' d.len d.cap) := postsHold_at hp 13 rfl
          have hv14 : V 14 = (.int .i64 ((k : Nat) : Int)) := postsHold_at hp 14 rfl
          have hv15 : V 15 = (.pointer (some ⟨ab1, (aoff1 + k * 2), none⟩)) := postsHold_at hp 15 rfl
          have hv16 : V 16 = (.pointer (some ⟨ab1, (aoff1 + k * 2), none⟩)) := postsHold_at hp 16 rfl
          have hv17 : V 17 = (.int .u8 y.1) := postsHold_at hp 17 rfl
          have hv18 : V 18 = (.int .i64 y.1) := postsHold_at hp 18 rfl
          have hv19 : V 19 = (.int .i64 ((tvalP y.1))) := postsHold_at hp 19 rfl
          have hv20 : V 20 = (.bool (decide (((tvalP y.1)) = (0 : Int)))) := postsHold_at hp 20 rfl
          have hv21 : V 21 = (.bool (decide (((tvalP y.1)) = (0 : Int)))) := postsHold_at hp 21 rfl
          have hv22 : V 22 = (gb (decide (((tvalP y.1)) = (0 : Int))) (.agg #[(.int .u8 ((tcutP y).1)), (.int .u64 ((tcutP y).2.1))])) := postsHold_at hp 22 rfl
          have hv23 : V 23 = (gb (decide (((tvalP y.1)) = (0 : Int))) (.slice d.at' d.len d.cap)) := postsHold_at hp 23 rfl
          have hv24 : V 24 = (gb (decide (((tvalP y.1)) = (0 : Int))) (.int .i64 ((k : Nat) : Int))) := postsHold_at hp 24 rfl
          have hv25 : V 25 = (gb (decide (((tvalP y.1)) = (0 : Int))) (.pointer (some ⟨ab1, (aoff1 + k * 2), none⟩))) := postsHold_at hp 25 rfl
          have hv26 : V 26 = (gb (decide (((tvalP y.1)) = (0 : Int))) (.agg #[(.int .u8 y.1), (.int .u64 y.2.1)])) := postsHold_at hp 26 rfl
          have hv27 : V 27 = (gb (decide (((tvalP y.1)) = (0 : Int))) (.bool ((decide (((tcutP y).1) = y.1)) && (decide (((tcutP y).2.1) = y.2.1))))) := postsHold_at hp 27 rfl
          have hv28 : V 28 = (.bool ((decide (((tvalP y.1)) = (0 : Int))) && ((decide (((tcutP y).1) = y.1)) && (decide (((tcutP y).2.1) = y.2.1))))) := postsHold_at hp 28 rfl
          have hv29 : V 29 = (.bool false) := postsHold_at hp 29 rfl
          have hv30 : V 30 = (.bool false) := postsHold_at hp 30 rfl
          have hv31 : V 31 = (.bool false) := postsHold_at hp 31 rfl
          have hv32 : V 32 = (.slice d.at' d.len d.cap) := postsHold_at hp 32 rfl
          have hv33 : V 33 = (.int .i64 ((k : Nat) : Int)) := postsHold_at hp 33 rfl
          have hv34 : V 34 = (.pointer (some ⟨ab1, (aoff1 + k * 2), none⟩)) := postsHold_at hp 34 rfl
          have hv35 : V 35 = (.pointer (some ⟨ab1, (aoff1 + k * 2), none⟩)) := postsHold_at hp 35 rfl
          have hv36 : V 36 = (.int .u8 y.1) := postsHold_at hp 36 rfl
          have hv37 : V 37 = (.agg #[(.int .u8 ((zeroP y.1).1)), (.int .u64 ((zeroP y.1).2.1))]) := postsHold_at hp 37 rfl
          have hv38 : V 38 = (.slice d.at' d.len d.cap) := postsHold_at hp 38 rfl
          have hv39 : V 39 = (.int .i64 ((k : Nat) : Int)) := postsHold_at hp 39 rfl
          have hv40 : V 40 = (.pointer (some ⟨ab1, (aoff1 + k * 2), none⟩)) := postsHold_at hp 40 rfl
          have hv41 : V 41 = (.pointer (some ⟨ab1, (aoff1 + k * 2), none⟩)) := postsHold_at hp 41 rfl
          have hv42 : V 42 = (.int .u8 y.1) := postsHold_at hp 42 rfl
          have hv43 : V 43 = (.agg #[(.int .u8 y.1), (.int .u64 (0 : Int))]) := postsHold_at hp 43 rfl
          have hv44 : V 44 = (.bool false) := postsHold_at hp 44 rfl
          have hv45 : V 45 = (.bool false) := postsHold_at hp 45 rfl
          simp only [List.take_succ_cons, List.take_zero, insAll, ins, hv0, hv1, hv2, hv3, hv4, hv5, hv6, hv7, hv8, hv9, hv10, hv11, hv12, hv13, hv14, hv15, hv16, hv17, hv18, hv19, hv20, hv21, hv22, hv23, hv24, hv25, hv26, hv27, hv28, hv29, hv30, hv31, hv32, hv33, hv34, hv35, hv36, hv37, hv38, hv39, hv40, hv41, hv42, hv43, hv44, hv45] at hf
          clear hp hnb hv0 hv1 hv2 hv3 hv4 hv5 hv6 hv7 hv8 hv9 hv10 hv11 hv12 hv13 hv14 hv15 hv16 hv17 hv18 hv19 hv20 hv21 hv22 hv23 hv24 hv25 hv26 hv27 hv28 hv29 hv30 hv31 hv32 hv33 hv34 hv35 hv36 hv37 hv38 hv39 hv40 hv41 hv42 hv43 hv44 hv45
          replace hkb1 := blk_ext hkb1 he5
          replace hk3 := blk_ext hk3 he5
          replace hb := hb.trans (Below.mono he5 hb.size)
          (try simp only [Exit.then, Exit.inBlock, ↓reduceIte, Nat.reduceEqDiff])
          refine hK13 _ _ ?_
          refine wp_cond_false (hf.ev rfl) ?_
          refine wp_skip ?_
          (try simp only [Exit.then, Exit.inBlock, ↓reduceIte, Nat.reduceEqDiff])
          refine hK11 _ _ ?_
          refine wp_region_lit ?_
          refine sqv hf (r_move rfl) rfl rfl rfl ?_; clear hf fa; intro fa hf
          refine sqv hf (r_add (C := (((k : Nat) : Int) + (1 : Int))) rfl rfl (by rw [IntKind.wrap_i64]; omega)) rfl rfl rfl ?_; clear hf fa; intro fa hf
          refine sqv hf (r_assign rfl) rfl rfl rfl ?_; clear hf fa; intro fa hf
          apply wpList_nil
          (try simp only [Exit.then, Exit.inBlock, ↓reduceIte, Nat.reduceEqDiff])
          refine hKL1 _ _ _ (by omega) ⟨(k + 1), rfl, hf.sub ⟨rfl, rfl, rfl, (some_int (by first | rfl | omega)), trivial⟩, hb, hkb1, by omega⟩
      · have hqt22_1b := hqt22_1
        replace hqt22_1 := Bool.eq_false_iff.1 hqt22_1
        try simp only [ne_eq, decide_eq_true_eq, Bool.and_eq_true, Bool.or_eq_true, Bool.not_eq_true', decide_eq_false_iff_not] at hqt22_1
        refine wp_exit ?_
        (try simp only [Exit.then, Exit.inBlock, ↓reduceIte, Nat.reduceEqDiff])
        refine hK7 _ _ ?_
        refine wp_seq_k (fun K14 hK14 => ?_)
        have hel := encG_len t
        refine wp_region_un (fun wq => Below w3.heap.size w3 wq) (fun w w' => Below w.heap.size w w')
          (fun V => [(fun x _ => x = (.slice d.at' d.len d.cap)), (fun x _ => x = (.string s)), (fun x _ => x = (.bool (takeP d s))), (fun x _ => x = (.slice d.at' d.len d.cap)), (fun x _ => x = (.string s)), (fun x _ => x = (.bool (takeP d s))), (fun x _ => x = (.bool true)), (fun x _ => x = (.bool true)), (fun x _ => x = (.agg #[(.int .u8 t.1), (.bool t.2.1)])), (fun x wq => ∃ b, (∃ c, x = .slice (some ⟨b, 0, none⟩) (((encG t)).length) c) ∧ w3.heap.size ≤ b ∧ Row 1 (vInt .u8) 5 w3.heap.size wq x (encG t)), (fun x _ => x = (.string (strOfNums (encG t)))), (fun x _ => x = (.agg #[(.int .u8 t.1), (.bool t.2.1)])), (fun x _ => x = (.string (strOfNums (encG t)))), (fun x _ => x = (.bool true)), (fun x _ => x = (.bool true)), (fun x _ => x = (.bool true))])
          [9]
          [[], [], [0, 1], [], [], [2, 3, 4], [2, 5], [5, 6], [7], [7, 8], [7, 9], [7], [7, 9, 11], [7, 10, 12], [7, 13], [0, 1, 2, 3, 4, 5, 6, 7, 8, 9, 10, 11, 12, 13, 14]]
          hf (by kernel_rfl) (by kernel_rfl) (fun _ => rfl) ((Below.refl _ _).drew) (fun a b h1 h2 => h1.trans (h2.mono h1.size)) (fun _ _ h => h.size) (fun V => ⟨kept_eq, kept_eq, kept_eq, kept_eq, kept_eq, kept_eq, kept_eq, kept_eq, kept_eq, keptX, kept_eq, kept_eq, kept_eq, kept_eq, kept_eq, kept_eq, trivial⟩) (fun _ _ _ _ _ => rfl) ?_ ?_
        · skip
          intro V
          refine ⟨fun wu0 hC hd => ?_, ?_⟩
          · clear hd
            replace hb := hb.trans (hC.mono hb.size)
            replace hkb1 := blk_ext hkb1 hC
            exact Runs.does (r_move rfl) ⟨Below.refl _ _, rfl, nofr rfl⟩
          refine ⟨fun wu1 hC hd => ?_, ?_⟩
          · clear hd
            replace hb := hb.trans (hC.mono hb.size)
            replace hkb1 := blk_ext hkb1 hC
            exact Runs.does (r_move rfl) ⟨Below.refl _ _, rfl, nofr rfl⟩
          refine ⟨fun wu2 hC hd => ?_, ?_⟩
          · obtain ⟨h0, h1, _⟩ := hd
            skip
            skip
            replace h0 : V 0 = (.slice d.at' d.len d.cap) := h0
            replace h1 : V 1 = (.string s) := h1
            replace hb := hb.trans (hC.mono hb.size)
            replace hkb1 := blk_ext hkb1 hC
            refine Does.mono (d_callB (vs := [(.slice d.at' d.len d.cap), (.string s)]) (show [some (V 0), some (V 1)] = [some (.slice d.at' d.len d.cap), some (.string s)] from by rw [h0, h1]) Try.func37 (by kernel_rfl) (by kernel_rfl) (take_any d s _ ⟨g.1, fSlV_kept g.2 hb⟩ hd hs)) (fun _ _ h => ⟨h.2, h.1, nofr rfl⟩)
          refine ⟨fun wu3 hC hd => ?_, ?_⟩
          · clear hd
            replace hb := hb.trans (hC.mono hb.size)
            replace hkb1 := blk_ext hkb1 hC
            exact Runs.does (r_move rfl) ⟨Below.refl _ _, rfl, nofr rfl⟩
          refine ⟨fun wu4 hC hd => ?_, ?_⟩
          · clear hd
            replace hb := hb.trans (hC.mono hb.size)
            replace hkb1 := blk_ext hkb1 hC
            exact Runs.does (r_move rfl) ⟨Below.refl _ _, rfl, nofr rfl⟩
          refine ⟨fun wu5 hC hd => ?_, ?_⟩
          · obtain ⟨h2, h3, h4, _⟩ := hd
            skip
            skip
            skip
            replace h2 : V 2 = (.bool (takeP d s)) := h2
            replace h3 : V 3 = (.slice d.at' d.len d.cap) := h3
            replace h4 : V 4 = (.string s) := h4
            replace hb := hb.trans (hC.mono hb.size)
            replace hkb1 := blk_ext hkb1 hC
            refine Does.mono (d_callB (vs := [(.slice d.at' d.len d.cap), (.string s)]) (show [some (V 3), some (V 4)] = [some (.slice d.at' d.len d.cap), some (.string s)] from by rw [h3, h4]) Try.func38 (by kernel_rfl) (by kernel_rfl) (rtake_any d s _ ⟨g.1, fSlV_kept g.2 hb⟩ hd hs)) (fun _ _ h => ⟨h.2, h.1, nofr rfl⟩)
          refine ⟨fun wu6 hC hd => ?_, ?_⟩
          · obtain ⟨h2, h5, _⟩ := hd
            skip
            skip
            replace h2 : V 2 = (.bool (takeP d s)) := h2
            replace h5 : V 5 = (.bool (takeP d s)) := h5
            replace hb := hb.trans (hC.mono hb.size)
            replace hkb1 := blk_ext hkb1 hC
            exact Runs.does (Runs.veq (r_beq Try.underlying4 (congrArg some h2) (congrArg some h5)) (congrArg Value.bool (show _ = true from (by simp)))) ⟨Below.refl _ _, rfl, nofr rfl⟩
          refine ⟨fun wu7 hC hd => ?_, ?_⟩
          · obtain ⟨h5, h6, _⟩ := hd
            skip
            skip
            replace h5 : V 5 = (.bool (takeP d s)) := h5
            replace h6 : V 6 = (.bool true) := h6
            replace hb := hb.trans (hC.mono hb.size)
            replace hkb1 := blk_ext hkb1 hC
            exact Runs.does (r_move (congrArg some h6)) ⟨Below.refl _ _, rfl, nofr rfl⟩
          refine ⟨fun wu8 hC hd => ?_, ?_⟩
          · obtain ⟨h7, _⟩ := hd
            skip
            replace h7 : V 7 = (.bool true) := h7
            replace hb := hb.trans (hC.mono hb.size)
            replace hkb1 := blk_ext hkb1 hC
            refine ⟨true, true, congrArg some h7, fun hact => ?_, fun hact => ?_⟩
            · exact Runs.does (r_loadA (cs := [(.int .u8 t.1), (.bool t.2.1)]) rfl Try.underlying54 rfl (by kernel_rfl) (cellsAt_blk hkb1)) ⟨Below.refl _ _, rfl, nofr rfl⟩
            · exfalso; simp at hact
          refine ⟨fun wu9 hC hd => ?_, ?_⟩
          · obtain ⟨h7, h8, _⟩ := hd
            skip
            skip
            replace h7 : V 7 = (.bool true) := h7
            replace h8 : V 8 = (.agg #[(.int .u8 t.1), (.bool t.2.1)]) := h8
            replace hb := hb.trans (hC.mono hb.size)
            replace hkb1 := blk_ext hkb1 hC
            refine ⟨true, true, congrArg some h7, fun hact => ?_, fun hact => ?_⟩
            · refine Does.mono (d_callX (vs := [(.agg #[(.int .u8 t.1), (.bool t.2.1)])]) (show [some (V 8)] = [some (.agg #[(.int .u8 t.1), (.bool t.2.1)])] from by rw [h8]) Try.func39 (by kernel_rfl) (by kernel_rfl) (encg_any t _ hg)) ?_
              rintro _ w' ⟨hF2, hF3⟩
              obtain ⟨ra, rc, rfl, _, _⟩ := Row.slice hF2
              obtain ⟨b, rfl, hF, hF4⟩ := Row.some hF2 (by first | omega | (simp only [Sl.list_length, List.length_set, List.length_take, List.length_append, List.length_replicate, List.length_cons, List.length_nil, List.length_map, nums_len]; omega))
              exact ⟨hF3, ⟨b, ⟨rc, rfl⟩, Nat.le_trans hC.size hF, hF2.rebase hC.size⟩, isfr rfl hF (Row.lt hF2 _ rfl).2⟩
            · exfalso; simp at hact
          refine ⟨fun wu10 hC hd => ?_, ?_⟩
          · obtain ⟨h7, h9, _⟩ := hd
            skip
            skip
            replace h7 : V 7 = (.bool true) := h7
            obtain ⟨mb1, ⟨mc1, h9⟩, hle3, hr1⟩ := h9
            rw [h9] at hr1
            replace hb := hb.trans (hC.mono hb.size)
            replace hkb1 := blk_ext hkb1 hC
            refine ⟨true, true, congrArg some h7, fun hact => ?_, fun hact => ?_⟩
            · exact Runs.does (r_rowstr (congrArg some h9) Try.underlying47 Try.underlying5 Try.underlying9 hr1) ⟨Below.refl _ _, rfl, nofr rfl⟩
            · exfalso; simp at hact
          refine ⟨fun wu11 hC hd => ?_, ?_⟩
          · obtain ⟨h7, _⟩ := hd
            skip
            replace h7 : V 7 = (.bool true) := h7
            replace hb := hb.trans (hC.mono hb.size)
            replace hkb1 := blk_ext hkb1 hC
            refine ⟨true, true, congrArg some h7, fun hact => ?_, fun hact => ?_⟩
            · exact Runs.does (r_loadA (cs := [(.int .u8 t.1), (.bool t.2.1)]) rfl Try.underlying54 rfl (by kernel_rfl) (cellsAt_blk hkb1)) ⟨Below.refl _ _, rfl, nofr rfl⟩
            · exfalso; simp at hact
          refine ⟨fun wu12 hC hd => ?_, ?_⟩
          · obtain ⟨h7, h9, h11, _⟩ := hd
            skip
            skip
            skip
            replace h7 : V 7 = (.bool true) := h7
            obtain ⟨mb1, ⟨mc1, h9⟩, hle3, hr1⟩ := h9
            rw [h9] at hr1
            replace h11 : V 11 = (.agg #[(.int .u8 t.1), (.bool t.2.1)]) := h11
            replace hb := hb.trans (hC.mono hb.size)
            replace hkb1 := blk_ext hkb1 hC
            refine ⟨true, true, congrArg some h7, fun hact => ?_, fun hact => ?_⟩
            · refine Does.mono (d_callB (vs := [(.agg #[(.int .u8 t.1), (.bool t.2.1)])]) (show [some (V 11)] = [some (.agg #[(.int .u8 t.1), (.bool t.2.1)])] from by rw [h11]) Try.func40 (by kernel_rfl) (by kernel_rfl) (rencg_any t _ hg)) (fun _ _ h => ⟨h.2, h.1, nofr rfl⟩)
            · exfalso; simp at hact
          refine ⟨fun wu13 hC hd => ?_, ?_⟩
          · obtain ⟨h7, h10, h12, _⟩ := hd
            skip
            skip
            skip
            replace h7 : V 7 = (.bool true) := h7
            replace h10 : V 10 = (.string (strOfNums (encG t))) := h10
            replace h12 : V 12 = (.string (strOfNums (encG t))) := h12
            replace hb := hb.trans (hC.mono hb.size)
            replace hkb1 := blk_ext hkb1 hC
            refine ⟨true, true, congrArg some h7, fun hact => ?_, fun hact => ?_⟩
            · exact Runs.does (Runs.veq (r_seq (congrArg some h10) (congrArg some h12)) (congrArg Value.bool (show _ = true from (by simp)))) ⟨Below.refl _ _, rfl, nofr rfl⟩
            · exfalso; simp at hact
          refine ⟨fun wu14 hC hd => ?_, ?_⟩
          · obtain ⟨h7, h13, _⟩ := hd
            skip
            skip
            replace h7 : V 7 = (.bool true) := h7
            replace h13 : V 13 = (.bool true) := h13
            replace hb := hb.trans (hC.mono hb.size)
            replace hkb1 := blk_ext hkb1 hC
            exact Runs.does (r_pick (b := true) (congrArg some h7) (congrArg some h13) rfl rfl) ⟨Below.refl _ _, rfl, nofr rfl⟩
          refine ⟨fun wu15 hC hd => ?_, ?_⟩
          · obtain ⟨h0, h1, h2, h3, h4, h5, h6, h7, h8, h9, h10, h11, h12, h13, h14, _⟩ := hd
            skip
            skip
            skip
            skip
            skip
            skip
            skip
            skip
            skip
            skip
            skip
            skip
            skip
            skip
            skip
            replace h0 : V 0 = (.slice d.at' d.len d.cap) := h0
            replace h1 : V 1 = (.string s) := h1
            replace h2 : V 2 = (.bool (takeP d s)) := h2
            replace h3 : V 3 = (.slice d.at' d.len d.cap) := h3
            replace h4 : V 4 = (.string s) := h4
            replace h5 : V 5 = (.bool (takeP d s)) := h5
            replace h6 : V 6 = (.bool true) := h6
            replace h7 : V 7 = (.bool true) := h7
            replace h8 : V 8 = (.agg #[(.int .u8 t.1), (.bool t.2.1)]) := h8
            obtain ⟨mb1, ⟨mc1, h9⟩, hle3, hr1⟩ := h9
            rw [h9] at hr1
            replace h10 : V 10 = (.string (strOfNums (encG t))) := h10
            replace h11 : V 11 = (.agg #[(.int .u8 t.1), (.bool t.2.1)]) := h11
            replace h12 : V 12 = (.string (strOfNums (encG t))) := h12
            replace h13 : V 13 = (.bool true) := h13
            replace h14 : V 14 = (.bool true) := h14
            replace hb := hb.trans (hC.mono hb.size)
            replace hkb1 := blk_ext hkb1 hC
            exact Runs.does (r_assign (congrArg some h14)) ⟨Below.refl _ _, rfl, nofr rfl⟩
          trivial
        · skip
          clear hf fa; intro V w8 fa he6 hp hnb hf
          have hv0 : V 0 = (.slice d.at' d.len d.cap) := postsHold_at hp 0 rfl
          have hv1 : V 1 = (.string s) := postsHold_at hp 1 rfl
          have hv2 : V 2 = (.bool (takeP d s)) := postsHold_at hp 2 rfl
          have hv3 : V 3 = (.slice d.at' d.len d.cap) := postsHold_at hp 3 rfl
          have hv4 : V 4 = (.string s) := postsHold_at hp 4 rfl
          have hv5 : V 5 = (.bool (takeP d s)) := postsHold_at hp 5 rfl
          have hv6 : V 6 = (.bool true) := postsHold_at hp 6 rfl
          have hv7 : V 7 = (.bool true) := postsHold_at hp 7 rfl
          have hv8 : V 8 = (.agg #[(.int .u8 t.1), (.bool t.2.1)]) := postsHold_at hp 8 rfl
          have hv9 := postsHold_at hp 9 rfl
          obtain ⟨mb1, ⟨mc1, hv9⟩, hle3, hr1⟩ := hv9
          rw [hv9] at hr1
          replace hr1 := Row.rebase hr1 hb.size
          have hcmc1 := Row.caps hr1
          have hBmb1 : w.heap.size ≤ mb1 := Nat.le_trans hb.size hle3
          have hv10 : V 10 = (.string (strOfNums (encG t))) := postsHold_at hp 10 rfl
          have hv11 : V 11 = (.agg #[(.int .u8 t.1), (.bool t.2.1)]) := postsHold_at hp 11 rfl
          have hv12 : V 12 = (.string (strOfNums (encG t))) := postsHold_at hp 12 rfl
          have hv13 : V 13 = (.bool true) := postsHold_at hp 13 rfl
          have hv14 : V 14 = (.bool true) := postsHold_at hp 14 rfl
          have hv15 : V 15 = (.bool true) := postsHold_at hp 15 rfl
          simp only [List.take_succ_cons, List.take_zero, insAll, ins, hv0, hv1, hv2, hv3, hv4, hv5, hv6, hv7, hv8, hv9, hv10, hv11, hv12, hv13, hv14, hv15] at hf
          have : b1 < mb1 := Nat.lt_of_lt_of_le (blk_lt hkb1) hle3
          clear hp hnb hv0 hv1 hv2 hv3 hv4 hv5 hv6 hv7 hv8 hv9 hv10 hv11 hv12 hv13 hv14 hv15
          replace hkb1 := blk_ext hkb1 he6
          replace hb := hb.trans (Below.mono he6 hb.size)
          (try simp only [Exit.then, Exit.inBlock, ↓reduceIte, Nat.reduceEqDiff])
          refine hK14 _ _ ?_
          refine wp_ret ?_
          (try simp only [Exit.then, Exit.inBlock])
          refine ret1 hf rfl rfl ?_
          exact ⟨rfl, hb⟩
end Go.Proofs.Ytcmdajkkdognfaa
