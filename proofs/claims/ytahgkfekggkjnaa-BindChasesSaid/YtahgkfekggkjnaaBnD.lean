/- What is proved here: bind.Chase, and the document's. -/
import Derived.Test.YtahgkfekggkjnaaBnC
namespace Go.Proofs.Ytahgkfekggkjnaa
open Go.RowKit
set_option linter.unusedVariables false
set_option linter.unusedSimpArgs false
set_option maxHeartbeats 1000000 in
set_option maxRecDepth 100000 in
theorem chase_any (d : Sl MMd) (l : List MUn) (u0 i0 : Int) (w : World) (g : fSlW 17 296 vMMd fMMd w d) (hS : ∀ m ∈ d.list, smallP m) (a : Option Addr) (n c : Nat) (hl : RdS 18 vMUn w a l) (hn : l.length = n) (hnd : n = d.len) (hnm0 : n ≤ 1000) (hU : ∀ (j : Nat) (m : MMd), d.list[j]? = some m → l[j]? = some (unitU j m)) (hi0 : 0 ≤ i0 ∧ i0 < 4294967296) : Calls Try.prog 28 #[(.slice a n c), (.agg #[(.int .i64 u0), (.int .u32 i0)])] w fun e w' => e = .returned (.tuple #[.agg #[.int .i64 (chaseR d (1 + n) u0 i0).1, .int .u32 (chaseR d (1 + n) u0 i0).2.1], .int .i64 (chaseR d (1 + n) u0 i0).2.2]) ∧ Below w.heap.size w w' := by
  have hnm : n ≤ 9223372036854775807 := by omega
  have hum : l.map modU = d.list := units_map (by rw [Sl.list_length]; omega) hU
  refine sx_enter (L := [(0, (.slice a n c)), (1, (.agg #[(.int .i64 u0), (.int .u32 i0)]))]) Try.func28 rfl rfl rfl rfl (fun fa hf => ?_)
  have hb : Below w.heap.size w w := Below.refl _ _
  refine wp_seq_k (fun K1 hK1 => ?_)
  refine wp_region_lit ?_
  refine sqdt hf (d_box (cs := #[(.int .i64 u0), (.int .u32 i0)]) rfl rfl) rfl rfl rfl ?_; clear hf fa; rintro fa _ w1 ⟨b1, rfl, hle1, hk1, he1⟩ hf
  have hBb1 : w.heap.size ≤ b1 := Nat.le_trans hb.size hle1
  replace hb := hb.trans (Below.mono he1 hb.size)
  refine sqdt hf (d_alloc (z := (.agg #[(.int .i64 (0 : Int)), (.int .u32 (0 : Int))])) (cs := #[(.int .i64 (0 : Int)), (.int .u32 (0 : Int))]) (by kernel_rfl) rfl) rfl rfl rfl ?_; clear hf fa; rintro fa _ w2 ⟨b2, rfl, hle2, hk2, he2⟩ hf
  have hBb2 : w.heap.size ≤ b2 := Nat.le_trans hb.size hle2
  have : b1 < b2 := Nat.lt_of_lt_of_le (blk_lt hk1) hle2
  replace hk1 := blk_ext hk1 he2
  replace hb := hb.trans (Below.mono he2 hb.size)
  refine sqv hf (r_assign rfl) rfl rfl rfl ?_; clear hf fa; intro fa hf
  apply wpList_nil
  (try simp only [Exit.then, Exit.inBlock, ↓reduceIte, Nat.reduceEqDiff])
  refine hK1 _ _ ?_
  refine wp_seq_k (fun K2 hK2 => ?_)
  refine wp_seq_k (fun K3 hK3 => ?_)
  refine wp_region_lit ?_
  refine sqv hf (r_move rfl) rfl rfl rfl ?_; clear hf fa; intro fa hf
  refine sqv hf (r_lensl rfl Try.underlying45) rfl rfl rfl ?_; clear hf fa; intro fa hf
  refine sqv hf (r_add (C := ((1 : Int) + ((n : Nat) : Int))) rfl rfl (by rw [IntKind.wrap_i64]; omega)) rfl rfl rfl ?_; clear hf fa; intro fa hf
  refine sqv hf (r_move rfl) rfl rfl rfl ?_; clear hf fa; intro fa hf
  apply wpList_nil
  (try simp only [Exit.then, Exit.inBlock, ↓reduceIte, Nat.reduceEqDiff])
  refine hK3 _ _ ?_
  refine wp_block ?_
  refine wp_loop_k (fun mq fa wr => ∃ (k : Nat) (f : Nat) (u : Int) (i : Int), mq = f ∧ Fr 77 fa [(0, (.slice a n c)), (3, (.pointer (some ⟨b1, 0, none⟩))), (4, (.pointer (some ⟨b2, 0, none⟩))), (15, (.int .i64 ((1 : Int) + ((n : Nat) : Int)))), (16, (.int .i64 ((k : Nat) : Int)))] ∧ Below w.heap.size w wr ∧ wr.heap[b1]? = some (.cells #[(.int .i64 u), (.int .u32 i)] 49 (0, 0)) ∧ wr.heap[b2]? = some (.cells #[(.int .i64 (0 : Int)), (.int .u32 (0 : Int))] 49 (0, 0)) ∧ (k + f = 1 + n) ∧ ((chaseR d (1 + n) u0 i0) = chaseR d f u i) ∧ (0 ≤ i ∧ i < 4294967296)) ?_ ?_
  · skip
    exact ⟨_, 0, (1 + n), u0, i0, rfl, hf.sub ⟨rfl, rfl, rfl, rfl, (some_int (by first | rfl | omega)), trivial⟩, hb, hk1, hk2, by omega, rfl, hi0⟩
  · skip
    clear hf fa; intro mq1 fa w3 hI KL1 hKL1
    clear hb
    clear hk1
    clear hk2
    obtain ⟨k, f, u, i, hmq1, hf, hb, hkb1, hkb2, hkf, Hs, hi⟩ := hI
    refine wp_seq_k (fun K4 hK4 => ?_)
    refine wp_region_lit ?_
    refine sqv hf (r_lt rfl rfl) rfl rfl rfl ?_; clear hf fa; intro fa hf
    apply wpList_nil
    (try simp only [Exit.then, Exit.inBlock, ↓reduceIte, Nat.reduceEqDiff])
    refine hK4 _ _ ?_
    refine wp_seq_k (fun K5 hK5 => ?_)
    refine wp_cond_split (t := (decide (((k : Nat) : Int) < ((1 : Int) + ((n : Nat) : Int))))) (hf.ev rfl) (fun hqt17_1 => ?_) (fun hqt17_1 => ?_)
    · have hqt17_1b := hqt17_1
      try simp only [decide_eq_true_eq, Bool.and_eq_true, Bool.or_eq_true, Bool.not_eq_true', decide_eq_false_iff_not, ne_eq, Bool.not_eq_true] at hqt17_1
      refine wp_skip ?_
      (try simp only [Exit.then, Exit.inBlock, ↓reduceIte, Nat.reduceEqDiff])
      refine hK5 _ _ ?_
      refine wp_seq_k (fun K6 hK6 => ?_)
      refine wp_block ?_
      refine wp_seq_k (fun K7 hK7 => ?_)
      refine wp_seq_k (fun K8 hK8 => ?_)
      obtain ⟨f, rfl⟩ : ∃ f2, f = f2 + 1 := ⟨f - 1, by omega⟩
      refine wp_region_lit ?_
      refine sqv hf (r_fa rfl Try.underlying49 (f := 0) (q := 0) rfl (by kernel_rfl) rfl) rfl rfl rfl ?_; clear hf fa; intro fa hf
      refine sqv hf (r_load (v := (.int .i64 u)) rfl Try.underlying3 rfl (cell_blk hkb1 rfl)) rfl rfl rfl ?_; clear hf fa; intro fa hf
      refine sqv hf (r_lt rfl rfl) rfl rfl rfl ?_; clear hf fa; intro fa hf
      refine sqv hf (r_move rfl) rfl rfl rfl ?_; clear hf fa; intro fa hf
      refine sqgF (act := (!(decide (u < (0 : Int))))) (ag := true) (c := (decide (u < (0 : Int)))) (v := (.pointer (some ⟨b1, 0, none⟩))) hf rfl rfl rfl (fun hact => (r_fa rfl Try.underlying49 (f := 0) (q := 0) rfl (by kernel_rfl) rfl)) rfl rfl ?_; clear hf fa; intro fa hf
      refine sqgF (act := (!(decide (u < (0 : Int))))) (ag := true) (c := (decide (u < (0 : Int)))) (v := (.int .i64 u)) hf rfl rfl rfl (fun hact => (r_load (v := (.int .i64 u)) (gb_ev hact rfl) Try.underlying3 rfl (cell_blk hkb1 rfl))) rfl rfl ?_; clear hf fa; intro fa hf
      refine sqgF (act := (!(decide (u < (0 : Int))))) (ag := true) (c := (decide (u < (0 : Int)))) (v := (.slice a n c)) hf rfl rfl rfl (fun hact => (r_move rfl)) rfl rfl ?_; clear hf fa; intro fa hf
      refine sqgF (act := (!(decide (u < (0 : Int))))) (ag := true) (c := (decide (u < (0 : Int)))) (v := (.int .i64 ((n : Nat) : Int))) hf rfl rfl rfl (fun hact => (r_lensl (gb_ev hact rfl) Try.underlying45)) rfl rfl ?_; clear hf fa; intro fa hf
      refine sqgF (act := (!(decide (u < (0 : Int))))) (ag := true) (c := (decide (u < (0 : Int)))) (v := (.bool (decide (((n : Nat) : Int) ≤ u)))) hf rfl rfl rfl (fun hact => (r_ge (gb_ev hact rfl) (gb_ev hact rfl))) rfl rfl ?_; clear hf fa; intro fa hf
      refine sqv hf (r_pickO (b := (decide (u < (0 : Int)))) (e := (decide (((n : Nat) : Int) ≤ u))) rfl rfl rfl) rfl rfl rfl ?_; clear hf fa; intro fa hf
      apply wpList_nil
      (try simp only [Exit.then, Exit.inBlock, ↓reduceIte, Nat.reduceEqDiff])
      refine hK8 _ _ ?_
      refine wp_cond_split (t := ((decide (u < (0 : Int))) || (decide (((n : Nat) : Int) ≤ u)))) (hf.ev rfl) (fun hqt27_1 => ?_) (fun hqt27_1 => ?_)
      · have hqt27_1b := hqt27_1
        try simp only [decide_eq_true_eq, Bool.and_eq_true, Bool.or_eq_true, Bool.not_eq_true', decide_eq_false_iff_not, ne_eq, Bool.not_eq_true] at hqt27_1
        refine wp_seq_k (fun K9 hK9 => ?_)
        refine wp_region_lit ?_
        refine sqv hf (r_build (vs := []) (cs := #[(.int .i64 (0 : Int)), (.int .u32 (0 : Int))]) rfl (fun _ => by kernel_rfl)) rfl rfl rfl ?_; clear hf fa; intro fa hf
        refine sqn hf (d_storeK (T := 49) (v := (.agg #[(.int .i64 (0 : Int)), (.int .u32 (0 : Int))])) (cs := #[(.int .i64 (0 : Int)), (.int .u32 (0 : Int))]) (cs' := #[(.int .i64 (0 : Int)), (.int .u32 (0 : Int))]) rfl rfl (by kernel_rfl) (by kernel_rfl) hkb2 (by kernel_rfl) (by kernel_rfl)) rfl rfl ?_; clear hf fa; rintro fa _ w4 ⟨hk3, hg1⟩ hf
        replace hkb1 := blk_grown hkb1 hg1 (by omega)
        replace hb := hb.trans (grown_below hg1 hb.size hBb2)
        refine sqv hf (r_assign rfl) rfl rfl rfl ?_; clear hf fa; intro fa hf
        apply wpList_nil
        (try simp only [Exit.then, Exit.inBlock, ↓reduceIte, Nat.reduceEqDiff])
        refine hK9 _ _ ?_
        refine wp_ret ?_
        (try simp only [Exit.then, Exit.inBlock])
        refine retCT hf rfl rfl hk3 Try.underlying49 rfl (by kernel_rfl) rfl ?_
        have hP : (chaseR d (1 + n) u0 i0) = ((0 : Int), (0 : Int), (20 : Int)) := by rw [Hs, chaseR, if_pos (by have := hqt27_1; omega)]
        rw [hP]; exact ⟨rfl, hb⟩
      · have hqt27_1b := hqt27_1
        replace hqt27_1 := Bool.eq_false_iff.1 hqt27_1
        try simp only [ne_eq, decide_eq_true_eq, Bool.and_eq_true, Bool.or_eq_true, Bool.not_eq_true', decide_eq_false_iff_not] at hqt27_1
        refine wp_skip ?_
        (try simp only [Exit.then, Exit.inBlock, ↓reduceIte, Nat.reduceEqDiff])
        refine hK7 _ _ ?_
        refine wp_seq_k (fun K10 hK10 => ?_)
        have hmm : (d.list.getD (u).toNat zMMd) ∈ d.list := getD_memL (by rw [Sl.list_length]; omega)
        have gM := fSl_mem g.2 hmm
        have hSm := hS _ hmm
        have hIl : (d.list.getD (u).toNat zMMd).2.1.len ≤ 40 := by have := hSm.1; omega
        have hIc := gM.2.1.2.1
        have hIm := gM.2.1.2.2.1
        unfold maxLen at hIm
        refine wp_region_lit ?_
        refine sqv hf (r_move rfl) rfl rfl rfl ?_; clear hf fa; intro fa hf
        refine sqv hf (r_fa rfl Try.underlying49 (f := 0) (q := 0) rfl (by kernel_rfl) rfl) rfl rfl rfl ?_; clear hf fa; intro fa hf
        refine sqv hf (r_load (v := (.int .i64 u)) rfl Try.underlying3 rfl (cell_blk hkb1 rfl)) rfl rfl rfl ?_; clear hf fa; intro fa hf
        have hy1 : (l)[(u).toNat]? = some (unitU (u).toNat (d.list.getD (u).toNat zMMd)) := (hU _ _ (getD_at zMMd (by rw [Sl.list_length]; omega)))
        obtain ⟨ab1, aoff1, rfl, hlb1, hel1⟩ := RdS.at hl hy1
        refine sqv hf (r_ixa (sz := 18) (j := (u).toNat) rfl rfl Try.underlying45 (by kernel_rfl) (by omega) (by omega) rfl) rfl rfl rfl ?_; clear hf fa; intro fa hf
        refine sqv hf (r_fa rfl Try.underlying132 (f := 1) (q := ((aoff1 + (u).toNat * 18) + 1)) rfl (by kernel_rfl) rfl) rfl rfl rfl ?_; clear hf fa; intro fa hf
        refine sqv hf (r_loadA (cs := [(.slice (d.list.getD (u).toNat zMMd).1.at' ((d.list.getD (u).toNat zMMd).1.len) (d.list.getD (u).toNat zMMd).1.cap), (.slice (d.list.getD (u).toNat zMMd).2.1.at' ((d.list.getD (u).toNat zMMd).2.1.len) (d.list.getD (u).toNat zMMd).2.1.cap), (.slice (d.list.getD (u).toNat zMMd).2.2.1.at' ((d.list.getD (u).toNat zMMd).2.2.1.len) (d.list.getD (u).toNat zMMd).2.2.1.cap), (.slice (d.list.getD (u).toNat zMMd).2.2.2.1.at' ((d.list.getD (u).toNat zMMd).2.2.2.1.len) (d.list.getD (u).toNat zMMd).2.2.2.1.cap), (.slice (d.list.getD (u).toNat zMMd).2.2.2.2.1.at' ((d.list.getD (u).toNat zMMd).2.2.2.2.1.len) (d.list.getD (u).toNat zMMd).2.2.2.2.1.cap), (.slice (d.list.getD (u).toNat zMMd).2.2.2.2.2.1.at' ((d.list.getD (u).toNat zMMd).2.2.2.2.2.1.len) (d.list.getD (u).toNat zMMd).2.2.2.2.2.1.cap), (.slice (d.list.getD (u).toNat zMMd).2.2.2.2.2.2.1.at' ((d.list.getD (u).toNat zMMd).2.2.2.2.2.2.1.len) (d.list.getD (u).toNat zMMd).2.2.2.2.2.2.1.cap), (.int .i64 ((d.list.getD (u).toNat zMMd).2.2.2.2.2.2.2.1)), (.slice (d.list.getD (u).toNat zMMd).2.2.2.2.2.2.2.2.1.at' ((d.list.getD (u).toNat zMMd).2.2.2.2.2.2.2.2.1.len) (d.list.getD (u).toNat zMMd).2.2.2.2.2.2.2.2.1.cap), (.slice (d.list.getD (u).toNat zMMd).2.2.2.2.2.2.2.2.2.1.at' ((d.list.getD (u).toNat zMMd).2.2.2.2.2.2.2.2.2.1.len) (d.list.getD (u).toNat zMMd).2.2.2.2.2.2.2.2.2.1.cap), (.slice (d.list.getD (u).toNat zMMd).2.2.2.2.2.2.2.2.2.2.1.at' ((d.list.getD (u).toNat zMMd).2.2.2.2.2.2.2.2.2.2.1.len) (d.list.getD (u).toNat zMMd).2.2.2.2.2.2.2.2.2.2.1.cap), (.bool (d.list.getD (u).toNat zMMd).2.2.2.2.2.2.2.2.2.2.2.1.1), (.int .u32 ((d.list.getD (u).toNat zMMd).2.2.2.2.2.2.2.2.2.2.2.1.2.1)), (.int .u32 ((d.list.getD (u).toNat zMMd).2.2.2.2.2.2.2.2.2.2.2.1.2.2.1)), (.int .u32 ((d.list.getD (u).toNat zMMd).2.2.2.2.2.2.2.2.2.2.2.1.2.2.2.1)), (.int .u32 ((d.list.getD (u).toNat zMMd).2.2.2.2.2.2.2.2.2.2.2.1.2.2.2.2.1)), (.slice (d.list.getD (u).toNat zMMd).2.2.2.2.2.2.2.2.2.2.2.1.2.2.2.2.2.1.at' ((d.list.getD (u).toNat zMMd).2.2.2.2.2.2.2.2.2.2.2.1.2.2.2.2.2.1.len) (d.list.getD (u).toNat zMMd).2.2.2.2.2.2.2.2.2.2.2.1.2.2.2.2.2.1.cap)]) rfl Try.underlying67 rfl (by kernel_rfl) (cellsAt_part (d := 1) (n := 17) (cellsAt_below hel1 hb hlb1) rfl rfl)) rfl rfl rfl ?_; clear hf fa; intro fa hf
        refine sqdt hf (d_alloc (z := (.agg #[(.slice none 0 0), (.slice none 0 0), (.slice none 0 0), (.slice none 0 0), (.slice none 0 0), (.slice none 0 0), (.slice none 0 0), (.int .i64 (0 : Int)), (.slice none 0 0), (.slice none 0 0), (.slice none 0 0), (.bool false), (.int .u32 (0 : Int)), (.int .u32 (0 : Int)), (.int .u32 (0 : Int)), (.int .u32 (0 : Int)), (.slice none 0 0)])) (cs := #[(.slice none 0 0), (.slice none 0 0), (.slice none 0 0), (.slice none 0 0), (.slice none 0 0), (.slice none 0 0), (.slice none 0 0), (.int .i64 (0 : Int)), (.slice none 0 0), (.slice none 0 0), (.slice none 0 0), (.bool false), (.int .u32 (0 : Int)), (.int .u32 (0 : Int)), (.int .u32 (0 : Int)), (.int .u32 (0 : Int)), (.slice none 0 0)]) (by kernel_rfl) rfl) rfl rfl rfl ?_; clear hf fa; rintro fa _ w5 ⟨b3, rfl, hle3, hk4, he3⟩ hf
        have hBb3 : w.heap.size ≤ b3 := Nat.le_trans hb.size hle3
        have : b1 < b3 := Nat.lt_of_lt_of_le (blk_lt hkb1) hle3
        have : b2 < b3 := Nat.lt_of_lt_of_le (blk_lt hkb2) hle3
        replace hkb1 := blk_ext hkb1 he3
        replace hkb2 := blk_ext hkb2 he3
        replace hb := hb.trans (Below.mono he3 hb.size)
        refine sqn hf (d_storeK (T := 67) (v := (.agg #[(.slice (d.list.getD (u).toNat zMMd).1.at' ((d.list.getD (u).toNat zMMd).1.len) (d.list.getD (u).toNat zMMd).1.cap), (.slice (d.list.getD (u).toNat zMMd).2.1.at' ((d.list.getD (u).toNat zMMd).2.1.len) (d.list.getD (u).toNat zMMd).2.1.cap), (.slice (d.list.getD (u).toNat zMMd).2.2.1.at' ((d.list.getD (u).toNat zMMd).2.2.1.len) (d.list.getD (u).toNat zMMd).2.2.1.cap), (.slice (d.list.getD (u).toNat zMMd).2.2.2.1.at' ((d.list.getD (u).toNat zMMd).2.2.2.1.len) (d.list.getD (u).toNat zMMd).2.2.2.1.cap), (.slice (d.list.getD (u).toNat zMMd).2.2.2.2.1.at' ((d.list.getD (u).toNat zMMd).2.2.2.2.1.len) (d.list.getD (u).toNat zMMd).2.2.2.2.1.cap), (.slice (d.list.getD (u).toNat zMMd).2.2.2.2.2.1.at' ((d.list.getD (u).toNat zMMd).2.2.2.2.2.1.len) (d.list.getD (u).toNat zMMd).2.2.2.2.2.1.cap), (.slice (d.list.getD (u).toNat zMMd).2.2.2.2.2.2.1.at' ((d.list.getD (u).toNat zMMd).2.2.2.2.2.2.1.len) (d.list.getD (u).toNat zMMd).2.2.2.2.2.2.1.cap), (.int .i64 ((d.list.getD (u).toNat zMMd).2.2.2.2.2.2.2.1)), (.slice (d.list.getD (u).toNat zMMd).2.2.2.2.2.2.2.2.1.at' ((d.list.getD (u).toNat zMMd).2.2.2.2.2.2.2.2.1.len) (d.list.getD (u).toNat zMMd).2.2.2.2.2.2.2.2.1.cap), (.slice (d.list.getD (u).toNat zMMd).2.2.2.2.2.2.2.2.2.1.at' ((d.list.getD (u).toNat zMMd).2.2.2.2.2.2.2.2.2.1.len) (d.list.getD (u).toNat zMMd).2.2.2.2.2.2.2.2.2.1.cap), (.slice (d.list.getD (u).toNat zMMd).2.2.2.2.2.2.2.2.2.2.1.at' ((d.list.getD (u).toNat zMMd).2.2.2.2.2.2.2.2.2.2.1.len) (d.list.getD (u).toNat zMMd).2.2.2.2.2.2.2.2.2.2.1.cap), (.bool (d.list.getD (u).toNat zMMd).2.2.2.2.2.2.2.2.2.2.2.1.1), (.int .u32 ((d.list.getD (u).toNat zMMd).2.2.2.2.2.2.2.2.2.2.2.1.2.1)), (.int .u32 ((d.list.getD (u).toNat zMMd).2.2.2.2.2.2.2.2.2.2.2.1.2.2.1)), (.int .u32 ((d.list.getD (u).toNat zMMd).2.2.2.2.2.2.2.2.2.2.2.1.2.2.2.1)), (.int .u32 ((d.list.getD (u).toNat zMMd).2.2.2.2.2.2.2.2.2.2.2.1.2.2.2.2.1)), (.slice (d.list.getD (u).toNat zMMd).2.2.2.2.2.2.2.2.2.2.2.1.2.2.2.2.2.1.at' ((d.list.getD (u).toNat zMMd).2.2.2.2.2.2.2.2.2.2.2.1.2.2.2.2.2.1.len) (d.list.getD (u).toNat zMMd).2.2.2.2.2.2.2.2.2.2.2.1.2.2.2.2.2.1.cap)])) (cs := #[(.slice none 0 0), (.slice none 0 0), (.slice none 0 0), (.slice none 0 0), (.slice none 0 0), (.slice none 0 0), (.slice none 0 0), (.int .i64 (0 : Int)), (.slice none 0 0), (.slice none 0 0), (.slice none 0 0), (.bool false), (.int .u32 (0 : Int)), (.int .u32 (0 : Int)), (.int .u32 (0 : Int)), (.int .u32 (0 : Int)), (.slice none 0 0)]) (cs' := #[(.slice (d.list.getD (u).toNat zMMd).1.at' ((d.list.getD (u).toNat zMMd).1.len) (d.list.getD (u).toNat zMMd).1.cap), (.slice (d.list.getD (u).toNat zMMd).2.1.at' ((d.list.getD (u).toNat zMMd).2.1.len) (d.list.getD (u).toNat zMMd).2.1.cap), (.slice (d.list.getD (u).toNat zMMd).2.2.1.at' ((d.list.getD (u).toNat zMMd).2.2.1.len) (d.list.getD (u).toNat zMMd).2.2.1.cap), (.slice (d.list.getD (u).toNat zMMd).2.2.2.1.at' ((d.list.getD (u).toNat zMMd).2.2.2.1.len) (d.list.getD (u).toNat zMMd).2.2.2.1.cap), (.slice (d.list.getD (u).toNat zMMd).2.2.2.2.1.at' ((d.list.getD (u).toNat zMMd).2.2.2.2.1.len) (d.list.getD (u).toNat zMMd).2.2.2.2.1.cap), (.slice (d.list.getD (u).toNat zMMd).2.2.2.2.2.1.at' ((d.list.getD (u).toNat zMMd).2.2.2.2.2.1.len) (d.list.getD (u).toNat zMMd).2.2.2.2.2.1.cap), (.slice (d.list.getD (u).toNat zMMd).2.2.2.2.2.2.1.at' ((d.list.getD (u).toNat zMMd).2.2.2.2.2.2.1.len) (d.list.getD (u).toNat zMMd).2.2.2.2.2.2.1.cap), (.int .i64 ((d.list.getD (u).toNat zMMd).2.2.2.2.2.2.2.1)), (.slice (d.list.getD (u).toNat zMMd).2.2.2.2.2.2.2.2.1.at' ((d.list.getD (u).toNat zMMd).2.2.2.2.2.2.2.2.1.len) (d.list.getD (u).toNat zMMd).2.2.2.2.2.2.2.2.1.cap), (.slice (d.list.getD (u).toNat zMMd).2.2.2.2.2.2.2.2.2.1.at' ((d.list.getD (u).toNat zMMd).2.2.2.2.2.2.2.2.2.1.len) (d.list.getD (u).toNat zMMd).2.2.2.2.2.2.2.2.2.1.cap), (.slice (d.list.getD (u).toNat zMMd).2.2.2.2.2.2.2.2.2.2.1.at' ((d.list.getD (u).toNat zMMd).2.2.2.2.2.2.2.2.2.2.1.len) (d.list.getD (u).toNat zMMd).2.2.2.2.2.2.2.2.2.2.1.cap), (.bool (d.list.getD (u).toNat zMMd).2.2.2.2.2.2.2.2.2.2.2.1.1), (.int .u32 ((d.list.getD (u).toNat zMMd).2.2.2.2.2.2.2.2.2.2.2.1.2.1)), (.int .u32 ((d.list.getD (u).toNat zMMd).2.2.2.2.2.2.2.2.2.2.2.1.2.2.1)), (.int .u32 ((d.list.getD (u).toNat zMMd).2.2.2.2.2.2.2.2.2.2.2.1.2.2.2.1)), (.int .u32 ((d.list.getD (u).toNat zMMd).2.2.2.2.2.2.2.2.2.2.2.1.2.2.2.2.1)), (.slice (d.list.getD (u).toNat zMMd).2.2.2.2.2.2.2.2.2.2.2.1.2.2.2.2.2.1.at' ((d.list.getD (u).toNat zMMd).2.2.2.2.2.2.2.2.2.2.2.1.2.2.2.2.2.1.len) (d.list.getD (u).toNat zMMd).2.2.2.2.2.2.2.2.2.2.2.1.2.2.2.2.2.1.cap)]) rfl rfl (by kernel_rfl) (by kernel_rfl) hk4 (by kernel_rfl) (by kernel_rfl)) rfl rfl ?_; clear hf fa; rintro fa _ w6 ⟨hk5, hg2⟩ hf
        replace hkb1 := blk_grown hkb1 hg2 (by omega)
        replace hkb2 := blk_grown hkb2 hg2 (by omega)
        replace hb := hb.trans (grown_below hg2 hb.size hBb3)
        apply wpList_nil
        (try simp only [Exit.then, Exit.inBlock, ↓reduceIte, Nat.reduceEqDiff])
        refine hK10 _ _ ?_
        refine wp_seq_k (fun K11 hK11 => ?_)
        refine wp_region_lit ?_
        refine sqv hf (r_assign rfl) rfl rfl rfl ?_; clear hf fa; intro fa hf
        apply wpList_nil
        (try simp only [Exit.then, Exit.inBlock, ↓reduceIte, Nat.reduceEqDiff])
        refine hK11 _ _ ?_
        refine wp_seq_k (fun K12 hK12 => ?_)
        refine wp_seq_k (fun K13 hK13 => ?_)
        skip
        refine wp_region_lit ?_
        refine sqv hf (r_fa rfl Try.underlying67 (f := 1) (q := 1) rfl (by kernel_rfl) rfl) rfl rfl rfl ?_; clear hf fa; intro fa hf
        refine sqv hf (r_load (v := (.slice (d.list.getD (u).toNat zMMd).2.1.at' ((d.list.getD (u).toNat zMMd).2.1.len) (d.list.getD (u).toNat zMMd).2.1.cap)) rfl Try.underlying57 rfl (cell_blk hk5 rfl)) rfl rfl rfl ?_; clear hf fa; intro fa hf
        refine sqv hf (r_lensl rfl Try.underlying57) rfl rfl rfl ?_; clear hf fa; intro fa hf
        refine sqv hf (r_move rfl) rfl rfl rfl ?_; clear hf fa; intro fa hf
        apply wpList_nil
        (try simp only [Exit.then, Exit.inBlock, ↓reduceIte, Nat.reduceEqDiff])
        refine hK13 _ _ ?_
        refine wp_block ?_
        refine wp_loop_k (fun mq fa wr => ∃ (q : Nat) (rta : Option Addr) (rtc : Nat), mq = (d.list.getD (u).toNat zMMd).2.1.len - q ∧ Fr 77 fa [(0, (.slice (some ⟨ab1, aoff1, none⟩) n c)), (3, (.pointer (some ⟨b1, 0, none⟩))), (4, (.pointer (some ⟨b2, 0, none⟩))), (15, (.int .i64 ((1 : Int) + ((n : Nat) : Int)))), (16, (.int .i64 ((k : Nat) : Int))), (36, (.slice (d.list.getD (u).toNat zMMd).2.1.at' ((d.list.getD (u).toNat zMMd).2.1.len) (d.list.getD (u).toNat zMMd).2.1.cap)), (37, (.int .i64 (((d.list.getD (u).toNat zMMd).2.1.len : Nat) : Int))), (38, (.int .i64 ((q : Nat) : Int))), (7, (.slice rta (((takenR ((d.list.getD (u).toNat zMMd).2.1.list.take q))).length) rtc))] ∧ Below w.heap.size w wr ∧ Row 9 vMImp 103 (w.heap.size) wr (.slice rta (((takenR ((d.list.getD (u).toNat zMMd).2.1.list.take q))).length) rtc) (takenR ((d.list.getD (u).toNat zMMd).2.1.list.take q)) ∧ wr.heap[b1]? = some (.cells #[(.int .i64 u), (.int .u32 i)] 49 (0, 0)) ∧ wr.heap[b2]? = some (.cells #[(.int .i64 (0 : Int)), (.int .u32 (0 : Int))] 49 (0, 0)) ∧ (q ≤ (d.list.getD (u).toNat zMMd).2.1.len)) ?_ ?_
        · skip
          exact ⟨_, 0, none, 0, rfl, hf.sub ⟨rfl, rfl, rfl, rfl, rfl, rfl, rfl, (some_int (by first | rfl | omega)), (some_sl (by first | omega | (simp only [List.length_append, List.length_cons, List.length_nil]; omega) | (simp <;> omega)) rfl), trivial⟩, hb, Row.nil, hkb1, hkb2, by omega⟩
        · skip
          clear hf fa; intro mq2 fa w7 hI KL2 hKL2
          clear hb
          clear hkb1
          clear hkb2
          clear hk5
          obtain ⟨q, rta, rtc, hmq2, hf, hb, hrt, hkb1, hkb2, hq⟩ := hI
          have hcrt := Row.caps hrt
          have hbl := taken_len ((d.list.getD (u).toNat zMMd).2.1.list.take q)
          rw [List.length_take, Sl.list_length] at hbl
          refine wp_seq_k (fun K14 hK14 => ?_)
          refine wp_region_lit ?_
          refine sqv hf (r_lt rfl rfl) rfl rfl rfl ?_; clear hf fa; intro fa hf
          apply wpList_nil
          (try simp only [Exit.then, Exit.inBlock, ↓reduceIte, Nat.reduceEqDiff])
          refine hK14 _ _ ?_
          refine wp_seq_k (fun K15 hK15 => ?_)
          refine wp_cond_split (t := (decide (((q : Nat) : Int) < (((d.list.getD (u).toNat zMMd).2.1.len : Nat) : Int)))) (hf.ev rfl) (fun hqt39_1 => ?_) (fun hqt39_1 => ?_)
          · have hqt39_1b := hqt39_1
            try simp only [decide_eq_true_eq, Bool.and_eq_true, Bool.or_eq_true, Bool.not_eq_true', decide_eq_false_iff_not, ne_eq, Bool.not_eq_true] at hqt39_1
            refine wp_skip ?_
            (try simp only [Exit.then, Exit.inBlock, ↓reduceIte, Nat.reduceEqDiff])
            refine hK15 _ _ ?_
            refine wp_seq_k (fun K16 hK16 => ?_)
            refine wp_block ?_
            refine wp_seq_k (fun K17 hK17 => ?_)
            refine wp_region_lit ?_
            obtain ⟨y2, hy2⟩ : ∃ x, ((d.list.getD (u).toNat zMMd).2.1.list)[q]? = some x := ⟨_, List.getElem?_eq_getElem (by (try simp only [Sl.list_length]); omega)⟩
            obtain ⟨ab2, aoff2, hat1, hlb2, hel2⟩ := RdS.at (RdS.of_arg gM.2.1.2) hy2
            refine sqv hf (r_ixa (sz := 9) (j := q) (evAt rfl hat1) rfl Try.underlying57 (by kernel_rfl) rfl (by omega) rfl) rfl rfl rfl ?_; clear hf fa; intro fa hf
            refine sqv hf (r_loadA (cs := [(.string y2.1), (.string y2.2.1), (.int .u8 y2.2.2.1), (.int .u32 y2.2.2.2.1), (.int .u32 y2.2.2.2.2.1.1), (.int .u32 y2.2.2.2.2.1.2.1), (.bool y2.2.2.2.2.1.2.2.1), (.int .u8 y2.2.2.2.2.2.1.1), (.bool y2.2.2.2.2.2.1.2.1)]) rfl Try.underlying103 rfl (by kernel_rfl) (cellsAt_below hel2 hb hlb2)) rfl rfl rfl ?_; clear hf fa; intro fa hf
            refine sqdt hf (d_alloc (z := (.agg #[(.string ⟨#[]⟩), (.string ⟨#[]⟩), (.int .u8 (0 : Int)), (.int .u32 (0 : Int)), (.int .u32 (0 : Int)), (.int .u32 (0 : Int)), (.bool false), (.int .u8 (0 : Int)), (.bool false)])) (cs := #[(.string ⟨#[]⟩), (.string ⟨#[]⟩), (.int .u8 (0 : Int)), (.int .u32 (0 : Int)), (.int .u32 (0 : Int)), (.int .u32 (0 : Int)), (.bool false), (.int .u8 (0 : Int)), (.bool false)]) (by kernel_rfl) rfl) rfl rfl rfl ?_; clear hf fa; rintro fa _ w8 ⟨b4, rfl, hle4, hk6, he4⟩ hf
            have hBb4 : w.heap.size ≤ b4 := Nat.le_trans hb.size hle4
            have : b1 < b4 := Nat.lt_of_lt_of_le (blk_lt hkb1) hle4
            have : b2 < b4 := Nat.lt_of_lt_of_le (blk_lt hkb2) hle4
            have hnr1 : (Value.slice rta ((((takenR ((d.list.getD (u).toNat zMMd).2.1.list.take q))).length)) rtc).ownBlock ≠ some b4 := fun hq => by have := (Row.lt hrt _ hq).2; omega
            replace hkb1 := blk_ext hkb1 he4
            replace hkb2 := blk_ext hkb2 he4
            replace hrt := Row.ext hrt he4
            replace hb := hb.trans (Below.mono he4 hb.size)
            refine sqn hf (d_storeK (T := 103) (v := (.agg #[(.string y2.1), (.string y2.2.1), (.int .u8 y2.2.2.1), (.int .u32 y2.2.2.2.1), (.int .u32 y2.2.2.2.2.1.1), (.int .u32 y2.2.2.2.2.1.2.1), (.bool y2.2.2.2.2.1.2.2.1), (.int .u8 y2.2.2.2.2.2.1.1), (.bool y2.2.2.2.2.2.1.2.1)])) (cs := #[(.string ⟨#[]⟩), (.string ⟨#[]⟩), (.int .u8 (0 : Int)), (.int .u32 (0 : Int)), (.int .u32 (0 : Int)), (.int .u32 (0 : Int)), (.bool false), (.int .u8 (0 : Int)), (.bool false)]) (cs' := #[(.string y2.1), (.string y2.2.1), (.int .u8 y2.2.2.1), (.int .u32 y2.2.2.2.1), (.int .u32 y2.2.2.2.2.1.1), (.int .u32 y2.2.2.2.2.1.2.1), (.bool y2.2.2.2.2.1.2.2.1), (.int .u8 y2.2.2.2.2.2.1.1), (.bool y2.2.2.2.2.2.1.2.1)]) rfl rfl (by kernel_rfl) (by kernel_rfl) hk6 (by kernel_rfl) (by kernel_rfl)) rfl rfl ?_; clear hf fa; rintro fa _ w9 ⟨hk7, hg3⟩ hf
            replace hkb1 := blk_grown hkb1 hg3 (by omega)
            replace hkb2 := blk_grown hkb2 hg3 (by omega)
            replace hrt := Row.grown hrt hg3 hnr1
            replace hb := hb.trans (grown_below hg3 hb.size hBb4)
            apply wpList_nil
            (try simp only [Exit.then, Exit.inBlock, ↓reduceIte, Nat.reduceEqDiff])
            refine hK17 _ _ ?_
            refine wp_seq_k (fun K18 hK18 => ?_)
            refine wp_region_lit ?_
            refine sqv hf (r_fa rfl Try.underlying103 (f := 2) (q := 2) rfl (by kernel_rfl) rfl) rfl rfl rfl ?_; clear hf fa; intro fa hf
            refine sqv hf (r_load (v := (.int .u8 y2.2.2.1)) rfl Try.underlying5 rfl (cell_blk hk7 rfl)) rfl rfl rfl ?_; clear hf fa; intro fa hf
            refine sqv hf (r_eq rfl rfl) rfl rfl rfl ?_; clear hf fa; intro fa hf
            apply wpList_nil
            (try simp only [Exit.then, Exit.inBlock, ↓reduceIte, Nat.reduceEqDiff])
            refine hK18 _ _ ?_
            refine wp_cond_split (t := (decide (y2.2.2.1 = (0 : Int)))) (hf.ev rfl) (fun hqt44_1 => ?_) (fun hqt44_1 => ?_)
            · have hqt44_1b := hqt44_1
              try simp only [decide_eq_true_eq, Bool.and_eq_true, Bool.or_eq_true, Bool.not_eq_true', decide_eq_false_iff_not, ne_eq, Bool.not_eq_true] at hqt44_1
              refine wp_region_lit ?_
              refine sqv hf (r_move rfl) rfl rfl rfl ?_; clear hf fa; intro fa hf
              refine sqv hf (r_loadA (cs := [(.string y2.1), (.string y2.2.1), (.int .u8 y2.2.2.1), (.int .u32 y2.2.2.2.1), (.int .u32 y2.2.2.2.2.1.1), (.int .u32 y2.2.2.2.2.1.2.1), (.bool y2.2.2.2.2.1.2.2.1), (.int .u8 y2.2.2.2.2.2.1.1), (.bool y2.2.2.2.2.2.1.2.1)]) rfl Try.underlying103 rfl (by kernel_rfl) (cellsAt_blk hk7)) rfl rfl rfl ?_; clear hf fa; intro fa hf
              refine sqdt hf (d_bslice (z := (.agg #[(.string ⟨#[]⟩), (.string ⟨#[]⟩), (.int .u8 (0 : Int)), (.int .u32 (0 : Int)), (.int .u32 (0 : Int)), (.int .u32 (0 : Int)), (.bool false), (.int .u8 (0 : Int)), (.bool false)])) (sz := 9) (vs := [(0, (.agg #[(.string y2.1), (.string y2.2.1), (.int .u8 y2.2.2.1), (.int .u32 y2.2.2.2.1), (.int .u32 y2.2.2.2.2.1.1), (.int .u32 y2.2.2.2.2.1.2.1), (.bool y2.2.2.2.2.1.2.2.1), (.int .u8 y2.2.2.2.2.2.1.1), (.bool y2.2.2.2.2.2.1.2.1)]))]) (cs := #[(.string y2.1), (.string y2.2.1), (.int .u8 y2.2.2.1), (.int .u32 y2.2.2.2.1), (.int .u32 y2.2.2.2.2.1.1), (.int .u32 y2.2.2.2.2.1.2.1), (.bool y2.2.2.2.2.1.2.2.1), (.int .u8 y2.2.2.2.2.2.1.1), (.bool y2.2.2.2.2.2.1.2.1)]) rfl Try.underlying57 (by kernel_rfl) rfl (by kernel_rfl)) rfl rfl rfl ?_; clear hf fa; rintro fa _ w10 ⟨b5, rfl, hle5, hk8, he5⟩ hf
              have hBb5 : w.heap.size ≤ b5 := Nat.le_trans hb.size hle5
              have : b1 < b5 := Nat.lt_of_lt_of_le (blk_lt hkb1) hle5
              have : b2 < b5 := Nat.lt_of_lt_of_le (blk_lt hkb2) hle5
              have : b4 < b5 := Nat.lt_of_lt_of_le (blk_lt hk7) hle5
              have hnr2 : (Value.slice rta ((((takenR ((d.list.getD (u).toNat zMMd).2.1.list.take q))).length)) rtc).ownBlock ≠ some b5 := fun hq => by have := (Row.lt hrt _ hq).2; omega
              replace hkb1 := blk_ext hkb1 he5
              replace hkb2 := blk_ext hkb2 he5
              replace hk7 := blk_ext hk7 he5
              replace hrt := Row.ext hrt he5
              replace hb := hb.trans (Below.mono he5 hb.size)
              have hs1 := Row.rd (by intros; rfl) (Row.of_new (k := 9) (V := vMImp) (l := [y2]) hk8 (Nat.le_refl _) rfl rfl (Nat.le_of_ble_eq_true rfl))
              refine sqdt hf (d_append (V := vMImp) (k := 9) (e := 103) (bytes := 56) (z := (.agg #[(.string ⟨#[]⟩), (.string ⟨#[]⟩), (.int .u8 (0 : Int)), (.int .u32 (0 : Int)), (.int .u32 (0 : Int)), (.int .u32 (0 : Int)), (.bool false), (.int .u8 (0 : Int)), (.bool false)])) (news := [y2]) (base := w.heap.size) (by intros; rfl) (by exact oneMImp) rfl rfl Try.underlying57 (by kernel_rfl) rfl rfl rfl hrt hs1 rfl (fun h => by cases h) (by first | omega | (simp only [List.length_cons, List.length_nil, List.length_append]; omega)) (by have := hb.size; omega)) rfl rfl rfl ?_; clear hf fa; rintro fa v w11 ⟨hr1, hg4⟩ hf; obtain ⟨ra1, rc1, rfl, hcrc1, hmrc1⟩ := Row.slice hr1
              replace hkb1 := blk_row' hkb1 hg4 (Row.ne_type hrt hkb1 rfl)
              replace hkb2 := blk_row' hkb2 hg4 (Row.ne_type hrt hkb2 rfl)
              replace hk7 := blk_row' hk7 hg4 hnr1
              replace hb := hb.trans (row_below hrt hg4 hb.size (by have := hb.size; omega))
              refine sqv hf (r_assign rfl) rfl rfl rfl ?_; clear hf fa; intro fa hf
              apply wpList_nil
              (try simp only [Exit.then, Exit.inBlock, ↓reduceIte, Nat.reduceEqDiff])
              refine hK16 _ _ ?_
              refine wp_region_lit ?_
              refine sqv hf (r_add (C := (((q : Nat) : Int) + (1 : Int))) rfl rfl (by rw [IntKind.wrap_i64]; omega)) rfl rfl rfl ?_; clear hf fa; intro fa hf
              refine sqv hf (r_move rfl) rfl rfl rfl ?_; clear hf fa; intro fa hf
              apply wpList_nil
              (try simp only [Exit.then, Exit.inBlock, ↓reduceIte, Nat.reduceEqDiff])
              have hle := congrArg List.length (taken_yes hy2 hqt44_1)
              simp only [List.length_append, List.length_cons, List.length_nil] at hle
              refine hKL2 _ _ _ (by omega) ⟨(q + 1), ra1, rc1, rfl, hf.sub ⟨rfl, rfl, rfl, rfl, rfl, rfl, rfl, (some_int (by first | rfl | omega)), (some_sl (by first | omega | (simp only [List.length_append, List.length_cons, List.length_nil]; omega) | (simp <;> omega)) rfl), trivial⟩, hb, (rowToL hr1 (taken_yes hy2 hqt44_1).symm), hkb1, hkb2, by omega⟩
            · have hqt44_1b := hqt44_1
              replace hqt44_1 := Bool.eq_false_iff.1 hqt44_1
              try simp only [ne_eq, decide_eq_true_eq, Bool.and_eq_true, Bool.or_eq_true, Bool.not_eq_true', decide_eq_false_iff_not] at hqt44_1
              refine wp_skip ?_
              (try simp only [Exit.then, Exit.inBlock, ↓reduceIte, Nat.reduceEqDiff])
              refine hK16 _ _ ?_
              refine wp_region_lit ?_
              refine sqv hf (r_add (C := (((q : Nat) : Int) + (1 : Int))) rfl rfl (by rw [IntKind.wrap_i64]; omega)) rfl rfl rfl ?_; clear hf fa; intro fa hf
              refine sqv hf (r_move rfl) rfl rfl rfl ?_; clear hf fa; intro fa hf
              apply wpList_nil
              (try simp only [Exit.then, Exit.inBlock, ↓reduceIte, Nat.reduceEqDiff])
              have hle := congrArg List.length (taken_no hy2 hqt44_1)
              refine hKL2 _ _ _ (by omega) ⟨(q + 1), rta, rtc, rfl, hf.sub ⟨rfl, rfl, rfl, rfl, rfl, rfl, rfl, (some_int (by first | rfl | omega)), (some_sl (by first | omega | (simp only [List.length_append, List.length_cons, List.length_nil]; omega) | (simp <;> omega)) rfl), trivial⟩, hb, (rowToL hrt (taken_no hy2 hqt44_1).symm), hkb1, hkb2, by omega⟩
          · have hqt39_1b := hqt39_1
            replace hqt39_1 := Bool.eq_false_iff.1 hqt39_1
            try simp only [ne_eq, decide_eq_true_eq, Bool.and_eq_true, Bool.or_eq_true, Bool.not_eq_true', decide_eq_false_iff_not] at hqt39_1
            refine wp_exit ?_
            (try simp only [Exit.then, Exit.inBlock, ↓reduceIte, Nat.reduceEqDiff])
            refine hK12 _ _ ?_
            refine wp_seq_k (fun K19 hK19 => ?_)
            refine wp_seq_k (fun K20 hK20 => ?_)
            have hte : takenR ((d.list.getD (u).toNat zMMd).2.1.list.take q) = takenR (d.list.getD (u).toNat zMMd).2.1.list := by rw [show q = (d.list.getD (u).toNat zMMd).2.1.len by omega, take_list]
            rw [hte] at hf hrt hcrt
            have htl := taken_len (d.list.getD (u).toNat zMMd).2.1.list
            rw [Sl.list_length] at htl
            refine wp_region_lit ?_
            refine sqv hf (r_fa rfl Try.underlying49 (f := 1) (q := 1) rfl (by kernel_rfl) rfl) rfl rfl rfl ?_; clear hf fa; intro fa hf
            refine sqv hf (r_load (v := (.int .u32 i)) rfl Try.underlying44 rfl (cell_blk hkb1 rfl)) rfl rfl rfl ?_; clear hf fa; intro fa hf
            refine sqv hf (r_conv (C := i) rfl Try.underlying44 Try.underlying36 (by rw [IntKind.wrap_u64]; omega)) rfl rfl rfl ?_; clear hf fa; intro fa hf
            refine sqv hf (r_move rfl) rfl rfl rfl ?_; clear hf fa; intro fa hf
            refine sqv hf (r_lensl rfl Try.underlying57) rfl rfl rfl ?_; clear hf fa; intro fa hf
            refine sqv hf (r_conv (C := (((takenR (d.list.getD (u).toNat zMMd).2.1.list).length : Nat) : Int)) rfl Try.underlying3 Try.underlying36 (by rw [IntKind.wrap_u64]; omega)) rfl rfl rfl ?_; clear hf fa; intro fa hf
            refine sqv hf (r_ge rfl rfl) rfl rfl rfl ?_; clear hf fa; intro fa hf
            apply wpList_nil
            (try simp only [Exit.then, Exit.inBlock, ↓reduceIte, Nat.reduceEqDiff])
            refine hK20 _ _ ?_
            refine wp_cond_split (t := (decide ((((takenR (d.list.getD (u).toNat zMMd).2.1.list).length : Nat) : Int) ≤ i))) (hf.ev rfl) (fun hqt56_1 => ?_) (fun hqt56_1 => ?_)
            · have hqt56_1b := hqt56_1
              try simp only [decide_eq_true_eq, Bool.and_eq_true, Bool.or_eq_true, Bool.not_eq_true', decide_eq_false_iff_not, ne_eq, Bool.not_eq_true] at hqt56_1
              refine wp_seq_k (fun K21 hK21 => ?_)
              refine wp_region_lit ?_
              refine sqv hf (r_loadA (cs := [(.int .i64 u), (.int .u32 i)]) rfl Try.underlying49 rfl (by kernel_rfl) (cellsAt_blk hkb1)) rfl rfl rfl ?_; clear hf fa; intro fa hf
              refine sqn hf (d_storeK (T := 49) (v := (.agg #[(.int .i64 u), (.int .u32 i)])) (cs := #[(.int .i64 (0 : Int)), (.int .u32 (0 : Int))]) (cs' := #[(.int .i64 u), (.int .u32 i)]) rfl rfl (by kernel_rfl) (by kernel_rfl) hkb2 (by kernel_rfl) (by kernel_rfl)) rfl rfl ?_; clear hf fa; rintro fa _ w12 ⟨hk9, hg5⟩ hf
              replace hkb1 := blk_grown hkb1 hg5 (by omega)
              replace hrt := Row.grown hrt hg5 (Row.ne_type hrt hkb2 rfl)
              replace hb := hb.trans (grown_below hg5 hb.size hBb2)
              refine sqv hf (r_assign rfl) rfl rfl rfl ?_; clear hf fa; intro fa hf
              apply wpList_nil
              (try simp only [Exit.then, Exit.inBlock, ↓reduceIte, Nat.reduceEqDiff])
              refine hK21 _ _ ?_
              refine wp_ret ?_
              (try simp only [Exit.then, Exit.inBlock])
              refine retCT hf rfl rfl hk9 Try.underlying49 rfl (by kernel_rfl) rfl ?_
              have hP : (chaseR d (1 + n) u0 i0) = (u, i, (0 : Int)) := by rw [Hs, chaseR, if_neg (by have := hqt27_1; omega), show takU d u = (takenR (d.list.getD (u).toNat zMMd).2.1.list) from rfl, if_pos (by have := hqt56_1; omega)]
              rw [hP]; exact ⟨rfl, hb⟩
            · have hqt56_1b := hqt56_1
              replace hqt56_1 := Bool.eq_false_iff.1 hqt56_1
              try simp only [ne_eq, decide_eq_true_eq, Bool.and_eq_true, Bool.or_eq_true, Bool.not_eq_true', decide_eq_false_iff_not] at hqt56_1
              refine wp_skip ?_
              (try simp only [Exit.then, Exit.inBlock, ↓reduceIte, Nat.reduceEqDiff])
              refine hK19 _ _ ?_
              refine wp_seq_k (fun K22 hK22 => ?_)
              refine wp_region_lit ?_
              refine sqv hf (r_move rfl) rfl rfl rfl ?_; clear hf fa; intro fa hf
              refine sqv hf (r_move rfl) rfl rfl rfl ?_; clear hf fa; intro fa hf
              refine sqv hf (r_fa rfl Try.underlying49 (f := 1) (q := 1) rfl (by kernel_rfl) rfl) rfl rfl rfl ?_; clear hf fa; intro fa hf
              refine sqv hf (r_load (v := (.int .u32 i)) rfl Try.underlying44 rfl (cell_blk hkb1 rfl)) rfl rfl rfl ?_; clear hf fa; intro fa hf
              obtain ⟨rb1, rfl, hbbrb1, hlbrb1⟩ := Row.some hrt (by first | omega | (simp only [Sl.list_length, List.length_set, List.length_take, List.length_drop, List.length_append, List.length_replicate, List.length_cons, List.length_nil]; omega))
              have hy3 := getD_at (l := (takenR (d.list.getD (u).toNat zMMd).2.1.list)) (j := (i).toNat) zMImp (by first | omega | (simp only [Sl.list_length, List.length_set, List.length_take, List.length_drop, List.length_append, List.length_replicate, List.length_cons, List.length_nil]; omega))
              have hel3 := RdS.at (Row.rd (by intros; rfl) hrt) hy3
              obtain ⟨_, _, hab, hlr1, hel3⟩ := hel3
              cases hab
              refine sqv hf (r_ixa (sz := 9) (j := (i).toNat) rfl rfl Try.underlying57 (by kernel_rfl) (by omega) (by omega) rfl) rfl rfl rfl ?_; clear hf fa; intro fa hf
              refine sqv hf (r_fa rfl Try.underlying103 (f := 1) (q := ((0 + (i).toNat * 9) + 1)) rfl (by kernel_rfl) rfl) rfl rfl rfl ?_; clear hf fa; intro fa hf
              refine sqv hf (r_load (v := (.string ((takenR (d.list.getD (u).toNat zMMd).2.1.list).getD (i).toNat zMImp).2.1)) rfl Try.underlying9 rfl (cellsAt_cell hel3 (i := 1) rfl rfl)) rfl rfl rfl ?_; clear hf fa; intro fa hf
              refine sqdt hf (d_callB (v := (.tuple #[(.agg #[(.int .i64 ((ranyP d ((takenR (d.list.getD (u).toNat zMMd).2.1.list).getD (i).toNat zMImp).2.1).1)), (.int .u32 ((ranyP d ((takenR (d.list.getD (u).toNat zMMd).2.1.list).getD (i).toNat zMImp).2.1).2.1))]), (.agg #[(.string (ranyP d ((takenR (d.list.getD (u).toNat zMMd).2.1.list).getD (i).toNat zMImp).2.1).2.2.1.1), (.string (ranyP d ((takenR (d.list.getD (u).toNat zMMd).2.1.list).getD (i).toNat zMImp).2.1).2.2.1.2.1)]), (.int .i64 ((ranyP d ((takenR (d.list.getD (u).toNat zMMd).2.1.list).getD (i).toNat zMImp).2.1).2.2.2))])) (vs := [(.slice (some ⟨ab1, aoff1, none⟩) n c), (.string ((takenR (d.list.getD (u).toNat zMMd).2.1.list).getD (i).toNat zMImp).2.1)]) rfl Try.func51 (by kernel_rfl) (by kernel_rfl) (by have h := any_any l ((takenR (d.list.getD (u).toNat zMMd).2.1.list).getD (i).toNat zMImp).2.1 _ _ n c (RdS.ext hl hb) hn hnm (fun u hu => ⟨rdMMd.kept _ _ _ hb (units_M g hS hum u hu).1, (units_M g hS hum u hu).2⟩); rw [any_eq ((takenR (d.list.getD (u).toNat zMMd).2.1.list).getD (i).toNat zMImp).2.1 hum] at h; exact h)) rfl rfl rfl ?_; clear hf fa; rintro fa _ w13 ⟨rfl, he6⟩ hf
              replace hkb1 := blk_ext hkb1 he6
              replace hkb2 := blk_ext hkb2 he6
              replace hrt := Row.ext hrt he6
              replace hb := hb.trans (Below.mono he6 hb.size)
              refine sqv hf (r_move rfl) rfl rfl rfl ?_; clear hf fa; intro fa hf
              refine sqv hf (r_extract rfl (i := 0) rfl) rfl rfl rfl ?_; clear hf fa; intro fa hf
              refine sqv hf (r_extract rfl (i := 1) rfl) rfl rfl rfl ?_; clear hf fa; intro fa hf
              refine sqv hf (r_extract rfl (i := 2) rfl) rfl rfl rfl ?_; clear hf fa; intro fa hf
              refine sqdt hf (d_alloc (z := (.agg #[(.int .i64 (0 : Int)), (.int .u32 (0 : Int))])) (cs := #[(.int .i64 (0 : Int)), (.int .u32 (0 : Int))]) (by kernel_rfl) rfl) rfl rfl rfl ?_; clear hf fa; rintro fa _ w14 ⟨b6, rfl, hle6, hk10, he7⟩ hf
              have hBb6 : w.heap.size ≤ b6 := Nat.le_trans hb.size hle6
              have : b1 < b6 := Nat.lt_of_lt_of_le (blk_lt hkb1) hle6
              have : b2 < b6 := Nat.lt_of_lt_of_le (blk_lt hkb2) hle6
              have : rb1 < b6 := Nat.lt_of_lt_of_le (Row.lt hrt _ rfl).2 hle6
              replace hkb1 := blk_ext hkb1 he7
              replace hkb2 := blk_ext hkb2 he7
              replace hrt := Row.ext hrt he7
              replace hb := hb.trans (Below.mono he7 hb.size)
              refine sqdt hf (d_alloc (z := (.agg #[(.string ⟨#[]⟩), (.string ⟨#[]⟩)])) (cs := #[(.string ⟨#[]⟩), (.string ⟨#[]⟩)]) (by kernel_rfl) rfl) rfl rfl rfl ?_; clear hf fa; rintro fa _ w15 ⟨b7, rfl, hle7, hk11, he8⟩ hf
              have hBb7 : w.heap.size ≤ b7 := Nat.le_trans hb.size hle7
              have : b1 < b7 := Nat.lt_of_lt_of_le (blk_lt hkb1) hle7
              have : b2 < b7 := Nat.lt_of_lt_of_le (blk_lt hkb2) hle7
              have : b6 < b7 := Nat.lt_of_lt_of_le (blk_lt hk10) hle7
              have : rb1 < b7 := Nat.lt_of_lt_of_le (Row.lt hrt _ rfl).2 hle7
              replace hkb1 := blk_ext hkb1 he8
              replace hkb2 := blk_ext hkb2 he8
              replace hk10 := blk_ext hk10 he8
              replace hrt := Row.ext hrt he8
              replace hb := hb.trans (Below.mono he8 hb.size)
              refine sqn hf (d_storeK (T := 49) (v := (.agg #[(.int .i64 ((ranyP d ((takenR (d.list.getD (u).toNat zMMd).2.1.list).getD (i).toNat zMImp).2.1).1)), (.int .u32 ((ranyP d ((takenR (d.list.getD (u).toNat zMMd).2.1.list).getD (i).toNat zMImp).2.1).2.1))])) (cs := #[(.int .i64 (0 : Int)), (.int .u32 (0 : Int))]) (cs' := #[(.int .i64 ((ranyP d ((takenR (d.list.getD (u).toNat zMMd).2.1.list).getD (i).toNat zMImp).2.1).1)), (.int .u32 ((ranyP d ((takenR (d.list.getD (u).toNat zMMd).2.1.list).getD (i).toNat zMImp).2.1).2.1))]) rfl rfl (by kernel_rfl) (by kernel_rfl) hk10 (by kernel_rfl) (by kernel_rfl)) rfl rfl ?_; clear hf fa; rintro fa _ w16 ⟨hk12, hg6⟩ hf
              replace hkb1 := blk_grown hkb1 hg6 (by omega)
              replace hkb2 := blk_grown hkb2 hg6 (by omega)
              replace hk11 := blk_grown hk11 hg6 (by omega)
              replace hrt := Row.grown hrt hg6 (Row.ne_type hrt hk10 rfl)
              replace hb := hb.trans (grown_below hg6 hb.size hBb6)
              refine sqn hf (d_storeK (T := 78) (v := (.agg #[(.string (ranyP d ((takenR (d.list.getD (u).toNat zMMd).2.1.list).getD (i).toNat zMImp).2.1).2.2.1.1), (.string (ranyP d ((takenR (d.list.getD (u).toNat zMMd).2.1.list).getD (i).toNat zMImp).2.1).2.2.1.2.1)])) (cs := #[(.string ⟨#[]⟩), (.string ⟨#[]⟩)]) (cs' := #[(.string (ranyP d ((takenR (d.list.getD (u).toNat zMMd).2.1.list).getD (i).toNat zMImp).2.1).2.2.1.1), (.string (ranyP d ((takenR (d.list.getD (u).toNat zMMd).2.1.list).getD (i).toNat zMImp).2.1).2.2.1.2.1)]) rfl rfl (by kernel_rfl) (by kernel_rfl) hk11 (by kernel_rfl) (by kernel_rfl)) rfl rfl ?_; clear hf fa; rintro fa _ w17 ⟨hk13, hg7⟩ hf
              replace hkb1 := blk_grown hkb1 hg7 (by omega)
              replace hkb2 := blk_grown hkb2 hg7 (by omega)
              replace hk12 := blk_grown hk12 hg7 (by omega)
              replace hrt := Row.grown hrt hg7 (Row.ne_type hrt hk11 rfl)
              replace hb := hb.trans (grown_below hg7 hb.size hBb7)
              refine sqv hf (r_assign rfl) rfl rfl rfl ?_; clear hf fa; intro fa hf
              apply wpList_nil
              (try simp only [Exit.then, Exit.inBlock, ↓reduceIte, Nat.reduceEqDiff])
              refine hK22 _ _ ?_
              refine wp_seq_k (fun K23 hK23 => ?_)
              refine wp_seq_k (fun K24 hK24 => ?_)
              refine wp_region_lit ?_
              refine sqv hf (r_move rfl) rfl rfl rfl ?_; clear hf fa; intro fa hf
              refine sqv hf (r_ne rfl rfl) rfl rfl rfl ?_; clear hf fa; intro fa hf
              apply wpList_nil
              (try simp only [Exit.then, Exit.inBlock, ↓reduceIte, Nat.reduceEqDiff])
              refine hK24 _ _ ?_
              refine wp_cond_split (t := (decide (((ranyP d ((takenR (d.list.getD (u).toNat zMMd).2.1.list).getD (i).toNat zMImp).2.1).2.2.2) ≠ (0 : Int)))) (hf.ev rfl) (fun hqt71_1 => ?_) (fun hqt71_1 => ?_)
              · have hqt71_1b := hqt71_1
                try simp only [decide_eq_true_eq, Bool.and_eq_true, Bool.or_eq_true, Bool.not_eq_true', decide_eq_false_iff_not, ne_eq, Bool.not_eq_true] at hqt71_1
                refine wp_seq_k (fun K25 hK25 => ?_)
                refine wp_region_lit ?_
                refine sqv hf (r_build (vs := []) (cs := #[(.int .i64 (0 : Int)), (.int .u32 (0 : Int))]) rfl (fun _ => by kernel_rfl)) rfl rfl rfl ?_; clear hf fa; intro fa hf
                refine sqv hf (r_move rfl) rfl rfl rfl ?_; clear hf fa; intro fa hf
                refine sqn hf (d_storeK (T := 49) (v := (.agg #[(.int .i64 (0 : Int)), (.int .u32 (0 : Int))])) (cs := #[(.int .i64 (0 : Int)), (.int .u32 (0 : Int))]) (cs' := #[(.int .i64 (0 : Int)), (.int .u32 (0 : Int))]) rfl rfl (by kernel_rfl) (by kernel_rfl) hkb2 (by kernel_rfl) (by kernel_rfl)) rfl rfl ?_; clear hf fa; rintro fa _ w18 ⟨hk14, hg8⟩ hf
                replace hkb1 := blk_grown hkb1 hg8 (by omega)
                replace hk12 := blk_grown hk12 hg8 (by omega)
                replace hk13 := blk_grown hk13 hg8 (by omega)
                replace hrt := Row.grown hrt hg8 (Row.ne_type hrt hkb2 rfl)
                replace hb := hb.trans (grown_below hg8 hb.size hBb2)
                refine sqv hf (r_assign rfl) rfl rfl rfl ?_; clear hf fa; intro fa hf
                apply wpList_nil
                (try simp only [Exit.then, Exit.inBlock, ↓reduceIte, Nat.reduceEqDiff])
                refine hK25 _ _ ?_
                refine wp_ret ?_
                (try simp only [Exit.then, Exit.inBlock])
                refine retCT hf rfl rfl hk14 Try.underlying49 rfl (by kernel_rfl) rfl ?_
                have hP : (chaseR d (1 + n) u0 i0) = ((0 : Int), (0 : Int), ((ranyP d ((takenR (d.list.getD (u).toNat zMMd).2.1.list).getD (i).toNat zMImp).2.1).2.2.2)) := by rw [Hs, chaseR, if_neg (by have := hqt27_1; omega), show takU d u = (takenR (d.list.getD (u).toNat zMMd).2.1.list) from rfl, if_neg (by have := hqt56_1; omega), if_pos hqt71_1]
                rw [hP]; exact ⟨rfl, hb⟩
              · have hqt71_1b := hqt71_1
                replace hqt71_1 := Bool.eq_false_iff.1 hqt71_1
                try simp only [ne_eq, decide_eq_true_eq, Bool.and_eq_true, Bool.or_eq_true, Bool.not_eq_true', decide_eq_false_iff_not] at hqt71_1
                refine wp_skip ?_
                (try simp only [Exit.then, Exit.inBlock, ↓reduceIte, Nat.reduceEqDiff])
                refine hK23 _ _ ?_
                refine wp_region_lit ?_
                refine sqv hf (r_loadA (cs := [(.int .i64 ((ranyP d ((takenR (d.list.getD (u).toNat zMMd).2.1.list).getD (i).toNat zMImp).2.1).1)), (.int .u32 ((ranyP d ((takenR (d.list.getD (u).toNat zMMd).2.1.list).getD (i).toNat zMImp).2.1).2.1))]) rfl Try.underlying49 rfl (by kernel_rfl) (cellsAt_blk hk12)) rfl rfl rfl ?_; clear hf fa; intro fa hf
                refine sqn hf (d_storeK (T := 49) (v := (.agg #[(.int .i64 ((ranyP d ((takenR (d.list.getD (u).toNat zMMd).2.1.list).getD (i).toNat zMImp).2.1).1)), (.int .u32 ((ranyP d ((takenR (d.list.getD (u).toNat zMMd).2.1.list).getD (i).toNat zMImp).2.1).2.1))])) (cs := #[(.int .i64 u), (.int .u32 i)]) (cs' := #[(.int .i64 ((ranyP d ((takenR (d.list.getD (u).toNat zMMd).2.1.list).getD (i).toNat zMImp).2.1).1)), (.int .u32 ((ranyP d ((takenR (d.list.getD (u).toNat zMMd).2.1.list).getD (i).toNat zMImp).2.1).2.1))]) rfl rfl (by kernel_rfl) (by kernel_rfl) hkb1 (by kernel_rfl) (by kernel_rfl)) rfl rfl ?_; clear hf fa; rintro fa _ w19 ⟨hk15, hg9⟩ hf
                replace hkb2 := blk_grown hkb2 hg9 (by omega)
                replace hk12 := blk_grown hk12 hg9 (by omega)
                replace hk13 := blk_grown hk13 hg9 (by omega)
                replace hrt := Row.grown hrt hg9 (Row.ne_type hrt hkb1 rfl)
                replace hb := hb.trans (grown_below hg9 hb.size hBb1)
                apply wpList_nil
                (try simp only [Exit.then, Exit.inBlock, ↓reduceIte, Nat.reduceEqDiff])
                refine hK6 _ _ ?_
                refine wp_region_lit ?_
                refine sqv hf (r_add (C := (((k : Nat) : Int) + (1 : Int))) rfl rfl (by rw [IntKind.wrap_i64]; omega)) rfl rfl rfl ?_; clear hf fa; intro fa hf
                refine sqv hf (r_move rfl) rfl rfl rfl ?_; clear hf fa; intro fa hf
                apply wpList_nil
                (try simp only [Exit.then, Exit.inBlock, ↓reduceIte, Nat.reduceEqDiff])
                refine hKL1 _ _ _ (by omega) ⟨(k + 1), f, (ranyP d ((takenR (d.list.getD (u).toNat zMMd).2.1.list).getD (i).toNat zMImp).2.1).1, (ranyP d ((takenR (d.list.getD (u).toNat zMMd).2.1.list).getD (i).toNat zMImp).2.1).2.1, rfl, hf.sub ⟨rfl, rfl, rfl, rfl, (some_int (by first | rfl | omega)), trivial⟩, hb, hk15, hkb2, by omega, (by have h := Hs; rw [chaseR, if_neg (by have := hqt27_1; omega), show takU d u = (takenR (d.list.getD (u).toNat zMMd).2.1.list) from rfl, if_neg (by have := hqt56_1; omega), if_neg hqt71_1] at h; exact h), (rany_rng g _)⟩
    · have hqt17_1b := hqt17_1
      replace hqt17_1 := Bool.eq_false_iff.1 hqt17_1
      try simp only [ne_eq, decide_eq_true_eq, Bool.and_eq_true, Bool.or_eq_true, Bool.not_eq_true', decide_eq_false_iff_not] at hqt17_1
      refine wp_exit ?_
      (try simp only [Exit.then, Exit.inBlock, ↓reduceIte, Nat.reduceEqDiff])
      refine hK2 _ _ ?_
      refine wp_seq_k (fun K26 hK26 => ?_)
      refine wp_region_lit ?_
      refine sqv hf (r_build (vs := []) (cs := #[(.int .i64 (0 : Int)), (.int .u32 (0 : Int))]) rfl (fun _ => by kernel_rfl)) rfl rfl rfl ?_; clear hf fa; intro fa hf
      refine sqn hf (d_storeK (T := 49) (v := (.agg #[(.int .i64 (0 : Int)), (.int .u32 (0 : Int))])) (cs := #[(.int .i64 (0 : Int)), (.int .u32 (0 : Int))]) (cs' := #[(.int .i64 (0 : Int)), (.int .u32 (0 : Int))]) rfl rfl (by kernel_rfl) (by kernel_rfl) hkb2 (by kernel_rfl) (by kernel_rfl)) rfl rfl ?_; clear hf fa; rintro fa _ w20 ⟨hk16, hg10⟩ hf
      replace hkb1 := blk_grown hkb1 hg10 (by omega)
      replace hb := hb.trans (grown_below hg10 hb.size hBb2)
      refine sqv hf (r_assign rfl) rfl rfl rfl ?_; clear hf fa; intro fa hf
      apply wpList_nil
      (try simp only [Exit.then, Exit.inBlock, ↓reduceIte, Nat.reduceEqDiff])
      refine hK26 _ _ ?_
      refine wp_ret ?_
      (try simp only [Exit.then, Exit.inBlock])
      refine retCT hf rfl rfl hk16 Try.underlying49 rfl (by kernel_rfl) rfl ?_
      have hP : (chaseR d (1 + n) u0 i0) = ((0 : Int), (0 : Int), (41 : Int)) := by rw [Hs, show f = 0 by omega, chaseR]
      rw [hP]; exact ⟨rfl, hb⟩

theorem rany_at {d : Sl MMd} {nm nm2 : ByteArray} (hn : nm = nm2) (w : World) (g : fSlW 17 296 vMMd fMMd w d) (hS : ∀ m ∈ d.list, smallP m) : Calls Try.prog 52 #[(.slice d.at' d.len d.cap), .string nm] w fun e w' => e = .returned (.tuple #[(.int .i64 ((ranyP d nm2).1)), (.int .u32 ((ranyP d nm2).2.1)), (.agg #[(.string (ranyP d nm2).2.2.1.1), (.string (ranyP d nm2).2.2.1.2.1)]), (.int .i64 ((ranyP d nm2).2.2.2))]) ∧ Below w.heap.size w w' := by
  subst hn; exact rany_any d nm w g hS

set_option maxHeartbeats 1000000 in
set_option maxRecDepth 100000 in
theorem rchase_any (d : Sl MMd) (u0 i0 : Int) (w : World) (g : fSlW 17 296 vMMd fMMd w d) (hS : ∀ m ∈ d.list, smallP m) (hd6 : d.len ≤ 6) (hi0 : 0 ≤ i0 ∧ i0 < 4294967296) : Calls Try.prog 29 #[(.slice d.at' d.len d.cap), (.int .i64 u0), (.int .u32 i0)] w fun e w' => e = .returned (.tuple #[.int .i64 (chaseR d (1 + d.len) u0 i0).1, .int .u32 (chaseR d (1 + d.len) u0 i0).2.1, .int .i64 (chaseR d (1 + d.len) u0 i0).2.2]) ∧ Below w.heap.size w w' := by
  have hdl := g.2.1
  refine sx_enter (L := [(0, (.slice d.at' d.len d.cap)), (1, (.int .i64 u0)), (2, (.int .u32 i0))]) Try.func29 rfl rfl rfl rfl (fun fa hf => ?_)
  have hb : Below w.heap.size w w := Below.refl _ _
  refine wp_seq_k (fun K1 hK1 => ?_)
  refine wp_region_lit ?_
  refine sqv hf (r_assign rfl) rfl rfl rfl ?_; clear hf fa; intro fa hf
  refine sqv hf (r_assign rfl) rfl rfl rfl ?_; clear hf fa; intro fa hf
  refine sqv hf (r_assign rfl) rfl rfl rfl ?_; clear hf fa; intro fa hf
  apply wpList_nil
  (try simp only [Exit.then, Exit.inBlock, ↓reduceIte, Nat.reduceEqDiff])
  refine hK1 _ _ ?_
  refine wp_seq_k (fun K2 hK2 => ?_)
  refine wp_seq_k (fun K3 hK3 => ?_)
  refine wp_region_lit ?_
  refine sqv hf (r_assign rfl) rfl rfl rfl ?_; clear hf fa; intro fa hf
  apply wpList_nil
  (try simp only [Exit.then, Exit.inBlock, ↓reduceIte, Nat.reduceEqDiff])
  refine hK3 _ _ ?_
  refine wp_block ?_
  refine wp_loop_k (fun mq fa wr => ∃ (k : Nat) (f : Nat) (u : Int) (i : Int), mq = f ∧ Fr 57 fa [(0, (.slice d.at' d.len d.cap)), (1, (.int .i64 u)), (2, (.int .u32 i)), (9, (.int .i64 ((k : Nat) : Int)))] ∧ Below w.heap.size w wr ∧ (k + f = 1 + d.len) ∧ ((chaseR d (1 + d.len) u0 i0) = chaseR d f u i) ∧ (0 ≤ i ∧ i < 4294967296)) ?_ ?_
  · skip
    exact ⟨_, 0, (1 + d.len), u0, i0, rfl, hf.sub ⟨rfl, rfl, rfl, (some_int (by first | rfl | omega)), trivial⟩, hb, by omega, rfl, hi0⟩
  · skip
    clear hf fa; intro mq1 fa w1 hI KL1 hKL1
    clear hb
    obtain ⟨k, f, u, i, hmq1, hf, hb, hkf, Hs, hi⟩ := hI
    refine wp_seq_k (fun K4 hK4 => ?_)
    refine wp_seq_k (fun K5 hK5 => ?_)
    refine wp_region_lit ?_
    refine sqv hf (r_move rfl) rfl rfl rfl ?_; clear hf fa; intro fa hf
    refine sqv hf (r_move rfl) rfl rfl rfl ?_; clear hf fa; intro fa hf
    refine sqv hf (r_lensl rfl Try.underlying43) rfl rfl rfl ?_; clear hf fa; intro fa hf
    refine sqv hf (r_le rfl rfl) rfl rfl rfl ?_; clear hf fa; intro fa hf
    apply wpList_nil
    (try simp only [Exit.then, Exit.inBlock, ↓reduceIte, Nat.reduceEqDiff])
    refine hK5 _ _ ?_
    refine wp_cond_split (t := (decide (((k : Nat) : Int) ≤ ((d.len : Nat) : Int)))) (hf.ev rfl) (fun hqt18_1 => ?_) (fun hqt18_1 => ?_)
    · have hqt18_1b := hqt18_1
      try simp only [decide_eq_true_eq, Bool.and_eq_true, Bool.or_eq_true, Bool.not_eq_true', decide_eq_false_iff_not, ne_eq, Bool.not_eq_true] at hqt18_1
      refine wp_skip ?_
      (try simp only [Exit.then, Exit.inBlock, ↓reduceIte, Nat.reduceEqDiff])
      refine hK4 _ _ ?_
      refine wp_seq_k (fun K6 hK6 => ?_)
      refine wp_block ?_
      refine wp_seq_k (fun K7 hK7 => ?_)
      refine wp_seq_k (fun K8 hK8 => ?_)
      obtain ⟨f, rfl⟩ : ∃ f2, f = f2 + 1 := ⟨f - 1, by omega⟩
      refine wp_region_lit ?_
      refine sqv hf (r_move rfl) rfl rfl rfl ?_; clear hf fa; intro fa hf
      refine sqv hf (r_lt rfl rfl) rfl rfl rfl ?_; clear hf fa; intro fa hf
      refine sqv hf (r_move rfl) rfl rfl rfl ?_; clear hf fa; intro fa hf
      refine sqgF (act := (!(decide (u < (0 : Int))))) (ag := true) (c := (decide (u < (0 : Int)))) (v := (.int .i64 u)) hf rfl rfl rfl (fun hact => (r_move rfl)) rfl rfl ?_; clear hf fa; intro fa hf
      refine sqgF (act := (!(decide (u < (0 : Int))))) (ag := true) (c := (decide (u < (0 : Int)))) (v := (.slice d.at' d.len d.cap)) hf rfl rfl rfl (fun hact => (r_move rfl)) rfl rfl ?_; clear hf fa; intro fa hf
      refine sqgF (act := (!(decide (u < (0 : Int))))) (ag := true) (c := (decide (u < (0 : Int)))) (v := (.int .i64 ((d.len : Nat) : Int))) hf rfl rfl rfl (fun hact => (r_lensl (gb_ev hact rfl) Try.underlying43)) rfl rfl ?_; clear hf fa; intro fa hf
      refine sqgF (act := (!(decide (u < (0 : Int))))) (ag := true) (c := (decide (u < (0 : Int)))) (v := (.bool (decide (((d.len : Nat) : Int) ≤ u)))) hf rfl rfl rfl (fun hact => (r_ge (gb_ev hact rfl) (gb_ev hact rfl))) rfl rfl ?_; clear hf fa; intro fa hf
      refine sqv hf (r_pickO (b := (decide (u < (0 : Int)))) (e := (decide (((d.len : Nat) : Int) ≤ u))) rfl rfl rfl) rfl rfl rfl ?_; clear hf fa; intro fa hf
      apply wpList_nil
      (try simp only [Exit.then, Exit.inBlock, ↓reduceIte, Nat.reduceEqDiff])
      refine hK8 _ _ ?_
      refine wp_cond_split (t := ((decide (u < (0 : Int))) || (decide (((d.len : Nat) : Int) ≤ u)))) (hf.ev rfl) (fun hqt28_1 => ?_) (fun hqt28_1 => ?_)
      · have hqt28_1b := hqt28_1
        try simp only [decide_eq_true_eq, Bool.and_eq_true, Bool.or_eq_true, Bool.not_eq_true', decide_eq_false_iff_not, ne_eq, Bool.not_eq_true] at hqt28_1
        refine wp_seq_k (fun K9 hK9 => ?_)
        refine wp_region_lit ?_
        refine sqv hf (r_assign rfl) rfl rfl rfl ?_; clear hf fa; intro fa hf
        refine sqv hf (r_assign rfl) rfl rfl rfl ?_; clear hf fa; intro fa hf
        refine sqv hf (r_assign rfl) rfl rfl rfl ?_; clear hf fa; intro fa hf
        apply wpList_nil
        (try simp only [Exit.then, Exit.inBlock, ↓reduceIte, Nat.reduceEqDiff])
        refine hK9 _ _ ?_
        refine wp_ret ?_
        (try simp only [Exit.then, Exit.inBlock])
        refine ret3 hf rfl rfl rfl rfl ?_
        have hP : (chaseR d (1 + d.len) u0 i0) = ((0 : Int), (0 : Int), (20 : Int)) := by rw [Hs, chaseR, if_pos (by have := hqt28_1; omega)]
        rw [hP]; exact ⟨rfl, hb⟩
      · have hqt28_1b := hqt28_1
        replace hqt28_1 := Bool.eq_false_iff.1 hqt28_1
        try simp only [ne_eq, decide_eq_true_eq, Bool.and_eq_true, Bool.or_eq_true, Bool.not_eq_true', decide_eq_false_iff_not] at hqt28_1
        refine wp_skip ?_
        (try simp only [Exit.then, Exit.inBlock, ↓reduceIte, Nat.reduceEqDiff])
        refine hK7 _ _ ?_
        refine wp_seq_k (fun K10 hK10 => ?_)
        have hmm : (d.list.getD (u).toNat zMMd) ∈ d.list := getD_memL (by rw [Sl.list_length]; omega)
        have gM := fSl_mem g.2 hmm
        have hSm := hS _ hmm
        have hIl : (d.list.getD (u).toNat zMMd).2.1.len ≤ 40 := by have := hSm.1; omega
        have htl := taken_len (d.list.getD (u).toNat zMMd).2.1.list
        rw [Sl.list_length] at htl
        have hnt : (namesT (d.list.getD (u).toNat zMMd).2.1.list).length = (takU d u).length := by unfold namesT takU; rw [List.length_map]
        have htk : (takU d u).length ≤ 40 := by show (takenR (d.list.getD (u).toNat zMMd).2.1.list).length ≤ 40; omega
        refine wp_region_lit ?_
        refine sqv hf (r_move rfl) rfl rfl rfl ?_; clear hf fa; intro fa hf
        refine sqv hf (r_move rfl) rfl rfl rfl ?_; clear hf fa; intro fa hf
        have hy1 : (d.list)[(u).toNat]? = some (d.list.getD (u).toNat zMMd) := (getD_at zMMd (by rw [Sl.list_length]; omega))
        obtain ⟨ab1, aoff1, hat1, hlb1, hel1⟩ := RdS.at (RdS.of_arg g.2) hy1
        refine sqv hf (r_ixa (sz := 17) (j := (u).toNat) (evAt rfl hat1) rfl Try.underlying43 (by kernel_rfl) (by omega) (by omega) rfl) rfl rfl rfl ?_; clear hf fa; intro fa hf
        refine sqv hf (r_loadA (cs := [(.slice (d.list.getD (u).toNat zMMd).1.at' ((d.list.getD (u).toNat zMMd).1.len) (d.list.getD (u).toNat zMMd).1.cap), (.slice (d.list.getD (u).toNat zMMd).2.1.at' ((d.list.getD (u).toNat zMMd).2.1.len) (d.list.getD (u).toNat zMMd).2.1.cap), (.slice (d.list.getD (u).toNat zMMd).2.2.1.at' ((d.list.getD (u).toNat zMMd).2.2.1.len) (d.list.getD (u).toNat zMMd).2.2.1.cap), (.slice (d.list.getD (u).toNat zMMd).2.2.2.1.at' ((d.list.getD (u).toNat zMMd).2.2.2.1.len) (d.list.getD (u).toNat zMMd).2.2.2.1.cap), (.slice (d.list.getD (u).toNat zMMd).2.2.2.2.1.at' ((d.list.getD (u).toNat zMMd).2.2.2.2.1.len) (d.list.getD (u).toNat zMMd).2.2.2.2.1.cap), (.slice (d.list.getD (u).toNat zMMd).2.2.2.2.2.1.at' ((d.list.getD (u).toNat zMMd).2.2.2.2.2.1.len) (d.list.getD (u).toNat zMMd).2.2.2.2.2.1.cap), (.slice (d.list.getD (u).toNat zMMd).2.2.2.2.2.2.1.at' ((d.list.getD (u).toNat zMMd).2.2.2.2.2.2.1.len) (d.list.getD (u).toNat zMMd).2.2.2.2.2.2.1.cap), (.int .i64 ((d.list.getD (u).toNat zMMd).2.2.2.2.2.2.2.1)), (.slice (d.list.getD (u).toNat zMMd).2.2.2.2.2.2.2.2.1.at' ((d.list.getD (u).toNat zMMd).2.2.2.2.2.2.2.2.1.len) (d.list.getD (u).toNat zMMd).2.2.2.2.2.2.2.2.1.cap), (.slice (d.list.getD (u).toNat zMMd).2.2.2.2.2.2.2.2.2.1.at' ((d.list.getD (u).toNat zMMd).2.2.2.2.2.2.2.2.2.1.len) (d.list.getD (u).toNat zMMd).2.2.2.2.2.2.2.2.2.1.cap), (.slice (d.list.getD (u).toNat zMMd).2.2.2.2.2.2.2.2.2.2.1.at' ((d.list.getD (u).toNat zMMd).2.2.2.2.2.2.2.2.2.2.1.len) (d.list.getD (u).toNat zMMd).2.2.2.2.2.2.2.2.2.2.1.cap), (.bool (d.list.getD (u).toNat zMMd).2.2.2.2.2.2.2.2.2.2.2.1.1), (.int .u32 ((d.list.getD (u).toNat zMMd).2.2.2.2.2.2.2.2.2.2.2.1.2.1)), (.int .u32 ((d.list.getD (u).toNat zMMd).2.2.2.2.2.2.2.2.2.2.2.1.2.2.1)), (.int .u32 ((d.list.getD (u).toNat zMMd).2.2.2.2.2.2.2.2.2.2.2.1.2.2.2.1)), (.int .u32 ((d.list.getD (u).toNat zMMd).2.2.2.2.2.2.2.2.2.2.2.1.2.2.2.2.1)), (.slice (d.list.getD (u).toNat zMMd).2.2.2.2.2.2.2.2.2.2.2.1.2.2.2.2.2.1.at' ((d.list.getD (u).toNat zMMd).2.2.2.2.2.2.2.2.2.2.2.1.2.2.2.2.2.1.len) (d.list.getD (u).toNat zMMd).2.2.2.2.2.2.2.2.2.2.2.1.2.2.2.2.2.1.cap)]) rfl Try.underlying67 rfl (by kernel_rfl) (cellsAt_below hel1 hb hlb1)) rfl rfl rfl ?_; clear hf fa; intro fa hf
        refine sqdt hf (d_callX (vs := [(.agg #[(.slice (d.list.getD (u).toNat zMMd).1.at' ((d.list.getD (u).toNat zMMd).1.len) (d.list.getD (u).toNat zMMd).1.cap), (.slice (d.list.getD (u).toNat zMMd).2.1.at' ((d.list.getD (u).toNat zMMd).2.1.len) (d.list.getD (u).toNat zMMd).2.1.cap), (.slice (d.list.getD (u).toNat zMMd).2.2.1.at' ((d.list.getD (u).toNat zMMd).2.2.1.len) (d.list.getD (u).toNat zMMd).2.2.1.cap), (.slice (d.list.getD (u).toNat zMMd).2.2.2.1.at' ((d.list.getD (u).toNat zMMd).2.2.2.1.len) (d.list.getD (u).toNat zMMd).2.2.2.1.cap), (.slice (d.list.getD (u).toNat zMMd).2.2.2.2.1.at' ((d.list.getD (u).toNat zMMd).2.2.2.2.1.len) (d.list.getD (u).toNat zMMd).2.2.2.2.1.cap), (.slice (d.list.getD (u).toNat zMMd).2.2.2.2.2.1.at' ((d.list.getD (u).toNat zMMd).2.2.2.2.2.1.len) (d.list.getD (u).toNat zMMd).2.2.2.2.2.1.cap), (.slice (d.list.getD (u).toNat zMMd).2.2.2.2.2.2.1.at' ((d.list.getD (u).toNat zMMd).2.2.2.2.2.2.1.len) (d.list.getD (u).toNat zMMd).2.2.2.2.2.2.1.cap), (.int .i64 ((d.list.getD (u).toNat zMMd).2.2.2.2.2.2.2.1)), (.slice (d.list.getD (u).toNat zMMd).2.2.2.2.2.2.2.2.1.at' ((d.list.getD (u).toNat zMMd).2.2.2.2.2.2.2.2.1.len) (d.list.getD (u).toNat zMMd).2.2.2.2.2.2.2.2.1.cap), (.slice (d.list.getD (u).toNat zMMd).2.2.2.2.2.2.2.2.2.1.at' ((d.list.getD (u).toNat zMMd).2.2.2.2.2.2.2.2.2.1.len) (d.list.getD (u).toNat zMMd).2.2.2.2.2.2.2.2.2.1.cap), (.slice (d.list.getD (u).toNat zMMd).2.2.2.2.2.2.2.2.2.2.1.at' ((d.list.getD (u).toNat zMMd).2.2.2.2.2.2.2.2.2.2.1.len) (d.list.getD (u).toNat zMMd).2.2.2.2.2.2.2.2.2.2.1.cap), (.bool (d.list.getD (u).toNat zMMd).2.2.2.2.2.2.2.2.2.2.2.1.1), (.int .u32 ((d.list.getD (u).toNat zMMd).2.2.2.2.2.2.2.2.2.2.2.1.2.1)), (.int .u32 ((d.list.getD (u).toNat zMMd).2.2.2.2.2.2.2.2.2.2.2.1.2.2.1)), (.int .u32 ((d.list.getD (u).toNat zMMd).2.2.2.2.2.2.2.2.2.2.2.1.2.2.2.1)), (.int .u32 ((d.list.getD (u).toNat zMMd).2.2.2.2.2.2.2.2.2.2.2.1.2.2.2.2.1)), (.slice (d.list.getD (u).toNat zMMd).2.2.2.2.2.2.2.2.2.2.2.1.2.2.2.2.2.1.at' ((d.list.getD (u).toNat zMMd).2.2.2.2.2.2.2.2.2.2.2.1.2.2.2.2.2.1.len) (d.list.getD (u).toNat zMMd).2.2.2.2.2.2.2.2.2.2.2.1.2.2.2.2.2.1.cap)])]) rfl Try.func30 (by kernel_rfl) (by kernel_rfl) (taken_any (d.list.getD (u).toNat zMMd) _ (rdMMd.kept _ _ _ hb gM) hSm)) rfl rfl rfl ?_; clear hf fa; rintro fa v w2 ⟨hr1, he1⟩ hf; obtain ⟨ra1, rc1, rfl, hcrc1, hmrc1⟩ := Row.slice hr1
        replace hr1 := Row.rebase hr1 hb.size
        replace hb := hb.trans (Below.mono he1 hb.size)
        refine sqv hf (r_assign rfl) rfl rfl rfl ?_; clear hf fa; intro fa hf
        apply wpList_nil
        (try simp only [Exit.then, Exit.inBlock, ↓reduceIte, Nat.reduceEqDiff])
        refine hK10 _ _ ?_
        refine wp_seq_k (fun K11 hK11 => ?_)
        refine wp_seq_k (fun K12 hK12 => ?_)
        refine wp_region_lit ?_
        refine sqv hf (r_move rfl) rfl rfl rfl ?_; clear hf fa; intro fa hf
        refine sqv hf (r_conv (C := i) rfl Try.underlying44 Try.underlying3 (by rw [IntKind.wrap_i64]; omega)) rfl rfl rfl ?_; clear hf fa; intro fa hf
        refine sqv hf (r_move rfl) rfl rfl rfl ?_; clear hf fa; intro fa hf
        refine sqv hf (r_lensl rfl Try.underlying54) rfl rfl rfl ?_; clear hf fa; intro fa hf
        refine sqv hf (r_ge rfl rfl) rfl rfl rfl ?_; clear hf fa; intro fa hf
        apply wpList_nil
        (try simp only [Exit.then, Exit.inBlock, ↓reduceIte, Nat.reduceEqDiff])
        refine hK12 _ _ ?_
        refine wp_cond_split (t := (decide (((((namesT (d.list.getD (u).toNat zMMd).2.1.list)).length : Nat) : Int) ≤ i))) (hf.ev rfl) (fun hqt38_1 => ?_) (fun hqt38_1 => ?_)
        · have hqt38_1b := hqt38_1
          try simp only [decide_eq_true_eq, Bool.and_eq_true, Bool.or_eq_true, Bool.not_eq_true', decide_eq_false_iff_not, ne_eq, Bool.not_eq_true] at hqt38_1
          refine wp_seq_k (fun K13 hK13 => ?_)
          refine wp_region_lit ?_
          refine sqv hf (r_move rfl) rfl rfl rfl ?_; clear hf fa; intro fa hf
          refine sqv hf (r_move rfl) rfl rfl rfl ?_; clear hf fa; intro fa hf
          refine sqv hf (r_assign rfl) rfl rfl rfl ?_; clear hf fa; intro fa hf
          refine sqv hf (r_assign rfl) rfl rfl rfl ?_; clear hf fa; intro fa hf
          refine sqv hf (r_assign rfl) rfl rfl rfl ?_; clear hf fa; intro fa hf
          apply wpList_nil
          (try simp only [Exit.then, Exit.inBlock, ↓reduceIte, Nat.reduceEqDiff])
          refine hK13 _ _ ?_
          refine wp_ret ?_
          (try simp only [Exit.then, Exit.inBlock])
          refine ret3 hf rfl rfl rfl rfl ?_
          have hP : (chaseR d (1 + d.len) u0 i0) = (u, i, (0 : Int)) := by rw [Hs, chaseR, if_neg (by have := hqt28_1; omega), if_pos (by have := hqt38_1; omega)]
          rw [hP]; exact ⟨rfl, hb⟩
        · have hqt38_1b := hqt38_1
          replace hqt38_1 := Bool.eq_false_iff.1 hqt38_1
          try simp only [ne_eq, decide_eq_true_eq, Bool.and_eq_true, Bool.or_eq_true, Bool.not_eq_true', decide_eq_false_iff_not] at hqt38_1
          refine wp_skip ?_
          (try simp only [Exit.then, Exit.inBlock, ↓reduceIte, Nat.reduceEqDiff])
          refine hK11 _ _ ?_
          refine wp_seq_k (fun K14 hK14 => ?_)
          have hnm2 : ((namesT (d.list.getD (u).toNat zMMd).2.1.list).getD (i).toNat (⟨#[]⟩ : ByteArray)) = ((takU d u).getD (i).toNat zMImp).2.1 := names_at (d := d) (u := u) (i := (i).toNat) (by have := hqt38_1; omega)
          refine wp_region_lit ?_
          refine sqv hf (r_move rfl) rfl rfl rfl ?_; clear hf fa; intro fa hf
          refine sqv hf (r_move rfl) rfl rfl rfl ?_; clear hf fa; intro fa hf
          refine sqv hf (r_move rfl) rfl rfl rfl ?_; clear hf fa; intro fa hf
          obtain ⟨rb1, rfl, hbbrb1, hlbrb1⟩ := Row.some hr1 (by first | omega | (simp only [Sl.list_length, List.length_set, List.length_take, List.length_drop, List.length_append, List.length_replicate, List.length_cons, List.length_nil]; omega))
          have hy2 := getD_at (l := (namesT (d.list.getD (u).toNat zMMd).2.1.list)) (j := (i).toNat) (⟨#[]⟩ : ByteArray) (by first | omega | (simp only [Sl.list_length, List.length_set, List.length_take, List.length_drop, List.length_append, List.length_replicate, List.length_cons, List.length_nil]; omega))
          have hel2 := RdS.at (Row.rd (by intros; rfl) hr1) hy2
          obtain ⟨_, _, hab, hlr1, hel2⟩ := hel2
          cases hab
          refine sqv hf (r_ixa (sz := 1) (j := (i).toNat) rfl rfl Try.underlying54 (by kernel_rfl) (by omega) (by omega) rfl) rfl rfl rfl ?_; clear hf fa; intro fa hf
          refine sqv hf (r_load (v := (.string ((namesT (d.list.getD (u).toNat zMMd).2.1.list).getD (i).toNat (⟨#[]⟩ : ByteArray)))) rfl Try.underlying9 rfl (cellsAt_cell hel2 (i := 0) rfl rfl)) rfl rfl rfl ?_; clear hf fa; intro fa hf
          refine sqdt hf (d_callB (vs := [(.slice d.at' d.len d.cap), (.string ((namesT (d.list.getD (u).toNat zMMd).2.1.list).getD (i).toNat (⟨#[]⟩ : ByteArray)))]) rfl Try.func52 (by kernel_rfl) (by kernel_rfl) (rany_at hnm2 _ ⟨g.1, fSl_kept g.2 hb⟩ hS)) rfl rfl rfl ?_; clear hf fa; rintro fa _ w3 ⟨rfl, he2⟩ hf
          replace hr1 := Row.ext hr1 he2
          replace hb := hb.trans (Below.mono he2 hb.size)
          refine sqv hf (r_move rfl) rfl rfl rfl ?_; clear hf fa; intro fa hf
          refine sqv hf (r_extract rfl (i := 0) rfl) rfl rfl rfl ?_; clear hf fa; intro fa hf
          refine sqv hf (r_extract rfl (i := 1) rfl) rfl rfl rfl ?_; clear hf fa; intro fa hf
          refine sqv hf (r_extract rfl (i := 2) rfl) rfl rfl rfl ?_; clear hf fa; intro fa hf
          refine sqv hf (r_extract rfl (i := 3) rfl) rfl rfl rfl ?_; clear hf fa; intro fa hf
          refine sqdt hf (d_alloc (z := (.agg #[(.string ⟨#[]⟩), (.string ⟨#[]⟩)])) (cs := #[(.string ⟨#[]⟩), (.string ⟨#[]⟩)]) (by kernel_rfl) rfl) rfl rfl rfl ?_; clear hf fa; rintro fa _ w4 ⟨b1, rfl, hle1, hk1, he3⟩ hf
          have hBb1 : w.heap.size ≤ b1 := Nat.le_trans hb.size hle1
          have : rb1 < b1 := Nat.lt_of_lt_of_le (Row.lt hr1 _ rfl).2 hle1
          replace hr1 := Row.ext hr1 he3
          replace hb := hb.trans (Below.mono he3 hb.size)
          refine sqv hf (r_assign rfl) rfl rfl rfl ?_; clear hf fa; intro fa hf
          refine sqv hf (r_assign rfl) rfl rfl rfl ?_; clear hf fa; intro fa hf
          refine sqn hf (d_storeK (T := 78) (v := (.agg #[(.string (ranyP d ((takU d u).getD (i).toNat zMImp).2.1).2.2.1.1), (.string (ranyP d ((takU d u).getD (i).toNat zMImp).2.1).2.2.1.2.1)])) (cs := #[(.string ⟨#[]⟩), (.string ⟨#[]⟩)]) (cs' := #[(.string (ranyP d ((takU d u).getD (i).toNat zMImp).2.1).2.2.1.1), (.string (ranyP d ((takU d u).getD (i).toNat zMImp).2.1).2.2.1.2.1)]) rfl rfl (by kernel_rfl) (by kernel_rfl) hk1 (by kernel_rfl) (by kernel_rfl)) rfl rfl ?_; clear hf fa; rintro fa _ w5 ⟨hk2, hg1⟩ hf
          replace hr1 := Row.grown hr1 hg1 (Row.ne_type hr1 hk1 rfl)
          replace hb := hb.trans (grown_below hg1 hb.size hBb1)
          refine sqv hf (r_assign rfl) rfl rfl rfl ?_; clear hf fa; intro fa hf
          apply wpList_nil
          (try simp only [Exit.then, Exit.inBlock, ↓reduceIte, Nat.reduceEqDiff])
          refine hK14 _ _ ?_
          refine wp_seq_k (fun K15 hK15 => ?_)
          refine wp_seq_k (fun K16 hK16 => ?_)
          refine wp_region_lit ?_
          refine sqv hf (r_move rfl) rfl rfl rfl ?_; clear hf fa; intro fa hf
          refine sqv hf (r_ne rfl rfl) rfl rfl rfl ?_; clear hf fa; intro fa hf
          apply wpList_nil
          (try simp only [Exit.then, Exit.inBlock, ↓reduceIte, Nat.reduceEqDiff])
          refine hK16 _ _ ?_
          refine wp_cond_split (t := (decide (((ranyP d ((takU d u).getD (i).toNat zMImp).2.1).2.2.2) ≠ (0 : Int)))) (hf.ev rfl) (fun hqt53_1 => ?_) (fun hqt53_1 => ?_)
          · have hqt53_1b := hqt53_1
            try simp only [decide_eq_true_eq, Bool.and_eq_true, Bool.or_eq_true, Bool.not_eq_true', decide_eq_false_iff_not, ne_eq, Bool.not_eq_true] at hqt53_1
            refine wp_seq_k (fun K17 hK17 => ?_)
            refine wp_region_lit ?_
            refine sqv hf (r_move rfl) rfl rfl rfl ?_; clear hf fa; intro fa hf
            refine sqv hf (r_assign rfl) rfl rfl rfl ?_; clear hf fa; intro fa hf
            refine sqv hf (r_assign rfl) rfl rfl rfl ?_; clear hf fa; intro fa hf
            refine sqv hf (r_assign rfl) rfl rfl rfl ?_; clear hf fa; intro fa hf
            apply wpList_nil
            (try simp only [Exit.then, Exit.inBlock, ↓reduceIte, Nat.reduceEqDiff])
            refine hK17 _ _ ?_
            refine wp_ret ?_
            (try simp only [Exit.then, Exit.inBlock])
            refine ret3 hf rfl rfl rfl rfl ?_
            have hP : (chaseR d (1 + d.len) u0 i0) = ((0 : Int), (0 : Int), (ranyP d ((takU d u).getD (i).toNat zMImp).2.1).2.2.2) := by rw [Hs, chaseR, if_neg (by have := hqt28_1; omega), if_neg (by have := hqt38_1; omega), if_pos hqt53_1]
            rw [hP]; exact ⟨rfl, hb⟩
          · have hqt53_1b := hqt53_1
            replace hqt53_1 := Bool.eq_false_iff.1 hqt53_1
            try simp only [ne_eq, decide_eq_true_eq, Bool.and_eq_true, Bool.or_eq_true, Bool.not_eq_true', decide_eq_false_iff_not] at hqt53_1
            refine wp_skip ?_
            (try simp only [Exit.then, Exit.inBlock, ↓reduceIte, Nat.reduceEqDiff])
            refine hK15 _ _ ?_
            refine wp_region_lit ?_
            refine sqv hf (r_move rfl) rfl rfl rfl ?_; clear hf fa; intro fa hf
            refine sqv hf (r_move rfl) rfl rfl rfl ?_; clear hf fa; intro fa hf
            refine sqv hf (r_assign rfl) rfl rfl rfl ?_; clear hf fa; intro fa hf
            refine sqv hf (r_assign rfl) rfl rfl rfl ?_; clear hf fa; intro fa hf
            apply wpList_nil
            (try simp only [Exit.then, Exit.inBlock, ↓reduceIte, Nat.reduceEqDiff])
            refine hK6 _ _ ?_
            refine wp_region_lit ?_
            refine sqv hf (r_move rfl) rfl rfl rfl ?_; clear hf fa; intro fa hf
            refine sqv hf (r_add (C := (((k : Nat) : Int) + (1 : Int))) rfl rfl (by rw [IntKind.wrap_i64]; omega)) rfl rfl rfl ?_; clear hf fa; intro fa hf
            refine sqv hf (r_assign rfl) rfl rfl rfl ?_; clear hf fa; intro fa hf
            apply wpList_nil
            (try simp only [Exit.then, Exit.inBlock, ↓reduceIte, Nat.reduceEqDiff])
            refine hKL1 _ _ _ (by omega) ⟨(k + 1), f, (ranyP d ((takU d u).getD (i).toNat zMImp).2.1).1, (ranyP d ((takU d u).getD (i).toNat zMImp).2.1).2.1, rfl, hf.sub ⟨rfl, (some_int (by first | rfl | omega)), (some_int (by first | rfl | omega)), (some_int (by first | rfl | omega)), trivial⟩, hb, by omega, (by have h := Hs; rw [chaseR, if_neg (by have := hqt28_1; omega), if_neg (by have := hqt38_1; omega), if_neg hqt53_1] at h; exact h), (rany_rng g _)⟩
    · have hqt18_1b := hqt18_1
      replace hqt18_1 := Bool.eq_false_iff.1 hqt18_1
      try simp only [ne_eq, decide_eq_true_eq, Bool.and_eq_true, Bool.or_eq_true, Bool.not_eq_true', decide_eq_false_iff_not] at hqt18_1
      refine wp_exit ?_
      (try simp only [Exit.then, Exit.inBlock, ↓reduceIte, Nat.reduceEqDiff])
      refine hK2 _ _ ?_
      refine wp_seq_k (fun K18 hK18 => ?_)
      refine wp_region_lit ?_
      refine sqv hf (r_assign rfl) rfl rfl rfl ?_; clear hf fa; intro fa hf
      refine sqv hf (r_assign rfl) rfl rfl rfl ?_; clear hf fa; intro fa hf
      refine sqv hf (r_assign rfl) rfl rfl rfl ?_; clear hf fa; intro fa hf
      apply wpList_nil
      (try simp only [Exit.then, Exit.inBlock, ↓reduceIte, Nat.reduceEqDiff])
      refine hK18 _ _ ?_
      refine wp_ret ?_
      (try simp only [Exit.then, Exit.inBlock])
      refine ret3 hf rfl rfl rfl rfl ?_
      have hP : (chaseR d (1 + d.len) u0 i0) = ((0 : Int), (0 : Int), (41 : Int)) := by rw [Hs, show f = 0 by omega, chaseR]
      rw [hP]; exact ⟨rfl, hb⟩
end Go.Proofs.Ytahgkfekggkjnaa
