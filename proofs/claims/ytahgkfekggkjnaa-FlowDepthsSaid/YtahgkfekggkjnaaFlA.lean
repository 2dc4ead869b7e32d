/- What is proved here: what the functions of blocks (flow, instr.Shape), and the document's of them, come to. -/
import Derived.Test.YtahgkfekggkjnaaSxM
import Derived.Test.YtahgkfekggkjnaaFlN
namespace Go.Proofs.Ytahgkfekggkjnaa
open Go.RowKit
set_option linter.unusedVariables false
set_option linter.unusedSimpArgs false
set_option maxHeartbeats 1000000 in
set_option maxRecDepth 100000 in
theorem opens_any (x : Int) (w : World) : Calls Try.prog 64 #[(.int .u8 x)] w fun e w' => e = .returned (.bool (opensI x)) ∧ w = w' := by
  refine sx_enter (L := [(0, (.int .u8 x))]) Try.func64 rfl rfl rfl rfl (fun fa hf => ?_)
  have hb : Below w.heap.size w w := Below.refl _ _
  refine wp_seq_k (fun K1 hK1 => ?_)
  refine wp_region_lit ?_
  refine sqv hf (r_assign rfl) rfl rfl rfl ?_; clear hf fa; intro fa hf
  apply wpList_nil
  (try simp only [Exit.then, Exit.inBlock, ↓reduceIte, Nat.reduceEqDiff])
  refine hK1 _ _ ?_
  refine wp_seq_k (fun K2 hK2 => ?_)
  refine wp_region_lit ?_
  refine sqv hf (r_move rfl) rfl rfl rfl ?_; clear hf fa; intro fa hf
  refine sqv hf (r_eq rfl rfl) rfl rfl rfl ?_; clear hf fa; intro fa hf
  refine sqv hf (r_move rfl) rfl rfl rfl ?_; clear hf fa; intro fa hf
  refine sqgF (act := (!(decide (x = (2 : Int))))) (ag := true) (c := (decide (x = (2 : Int)))) (v := (.int .u8 x)) hf rfl rfl rfl (fun hact => (r_move rfl)) rfl rfl ?_; clear hf fa; intro fa hf
  refine sqgF (act := (!(decide (x = (2 : Int))))) (ag := true) (c := (decide (x = (2 : Int)))) (v := (.bool (decide (x = (3 : Int))))) hf rfl rfl rfl (fun hact => (r_eq (gb_ev hact rfl) rfl)) rfl rfl ?_; clear hf fa; intro fa hf
  refine sqv hf (r_pickO (b := (decide (x = (2 : Int)))) (e := (decide (x = (3 : Int)))) rfl rfl rfl) rfl rfl rfl ?_; clear hf fa; intro fa hf
  refine sqv hf (r_move rfl) rfl rfl rfl ?_; clear hf fa; intro fa hf
  refine sqgF (act := (!((decide (x = (2 : Int))) || (decide (x = (3 : Int)))))) (ag := true) (c := ((decide (x = (2 : Int))) || (decide (x = (3 : Int))))) (v := (.int .u8 x)) hf rfl rfl rfl (fun hact => (r_move rfl)) rfl rfl ?_; clear hf fa; intro fa hf
  refine sqgF (act := (!((decide (x = (2 : Int))) || (decide (x = (3 : Int)))))) (ag := true) (c := ((decide (x = (2 : Int))) || (decide (x = (3 : Int))))) (v := (.bool (decide (x = (4 : Int))))) hf rfl rfl rfl (fun hact => (r_eq (gb_ev hact rfl) rfl)) rfl rfl ?_; clear hf fa; intro fa hf
  refine sqv hf (r_pickO (b := ((decide (x = (2 : Int))) || (decide (x = (3 : Int))))) (e := (decide (x = (4 : Int)))) rfl rfl rfl) rfl rfl rfl ?_; clear hf fa; intro fa hf
  refine sqv hf (r_assign rfl) rfl rfl rfl ?_; clear hf fa; intro fa hf
  apply wpList_nil
  (try simp only [Exit.then, Exit.inBlock, ↓reduceIte, Nat.reduceEqDiff])
  refine hK2 _ _ ?_
  refine wp_ret ?_
  (try simp only [Exit.then, Exit.inBlock])
  refine ret1 hf rfl rfl ?_
  exact ⟨rfl, rfl⟩

set_option maxHeartbeats 1000000 in
set_option maxRecDepth 100000 in
theorem ropens_any (d : Ins) (w : World) : Calls Try.prog 24 #[(.agg #[(.int .u8 d.1), (.int .u64 d.2.1), (.int .u64 d.2.2.1), (.slice d.2.2.2.1.at' d.2.2.2.1.len d.2.2.2.1.cap)])] w fun e w' => e = .returned (.bool (opensI d.1)) ∧ Below w.heap.size w w' := by
  refine sx_enter (L := [(0, (.agg #[(.int .u8 d.1), (.int .u64 d.2.1), (.int .u64 d.2.2.1), (.slice d.2.2.2.1.at' d.2.2.2.1.len d.2.2.2.1.cap)]))]) Try.func24 rfl rfl rfl rfl (fun fa hf => ?_)
  have hb : Below w.heap.size w w := Below.refl _ _
  refine wp_seq_k (fun K1 hK1 => ?_)
  refine wp_region_lit ?_
  refine sqdt hf (d_box (cs := #[(.int .u8 d.1), (.int .u64 d.2.1), (.int .u64 d.2.2.1), (.slice d.2.2.2.1.at' d.2.2.2.1.len d.2.2.2.1.cap)]) rfl rfl) rfl rfl rfl ?_; clear hf fa; rintro fa _ w1 ⟨b1, rfl, hle1, hk1, he1⟩ hf
  have hBb1 : w.heap.size ≤ b1 := Nat.le_trans hb.size hle1
  replace hb := hb.trans (Below.mono he1 hb.size)
  refine sqv hf (r_assign rfl) rfl rfl rfl ?_; clear hf fa; intro fa hf
  apply wpList_nil
  (try simp only [Exit.then, Exit.inBlock, ↓reduceIte, Nat.reduceEqDiff])
  refine hK1 _ _ ?_
  refine wp_seq_k (fun K2 hK2 => ?_)
  refine wp_region_lit ?_
  refine sqv hf (r_fa rfl Try.underlying39 (f := 0) (q := 0) rfl (by kernel_rfl) rfl) rfl rfl rfl ?_; clear hf fa; intro fa hf
  refine sqv hf (r_load (v := (.int .u8 d.1)) rfl Try.underlying5 rfl (cell_blk hk1 rfl)) rfl rfl rfl ?_; clear hf fa; intro fa hf
  refine sqv hf (r_eq rfl rfl) rfl rfl rfl ?_; clear hf fa; intro fa hf
  refine sqv hf (r_move rfl) rfl rfl rfl ?_; clear hf fa; intro fa hf
  refine sqgF (act := (!(decide (d.1 = (2 : Int))))) (ag := true) (c := (decide (d.1 = (2 : Int)))) (v := (.pointer (some ⟨b1, 0, none⟩))) hf rfl rfl rfl (fun hact => (r_fa rfl Try.underlying39 (f := 0) (q := 0) rfl (by kernel_rfl) rfl)) rfl rfl ?_; clear hf fa; intro fa hf
  refine sqgF (act := (!(decide (d.1 = (2 : Int))))) (ag := true) (c := (decide (d.1 = (2 : Int)))) (v := (.int .u8 d.1)) hf rfl rfl rfl (fun hact => (r_load (v := (.int .u8 d.1)) (gb_ev hact rfl) Try.underlying5 rfl (cell_blk hk1 rfl))) rfl rfl ?_; clear hf fa; intro fa hf
  refine sqgF (act := (!(decide (d.1 = (2 : Int))))) (ag := true) (c := (decide (d.1 = (2 : Int)))) (v := (.bool (decide (d.1 = (3 : Int))))) hf rfl rfl rfl (fun hact => (r_eq (gb_ev hact rfl) rfl)) rfl rfl ?_; clear hf fa; intro fa hf
  refine sqv hf (r_pickO (b := (decide (d.1 = (2 : Int)))) (e := (decide (d.1 = (3 : Int)))) rfl rfl rfl) rfl rfl rfl ?_; clear hf fa; intro fa hf
  refine sqv hf (r_move rfl) rfl rfl rfl ?_; clear hf fa; intro fa hf
  refine sqgF (act := (!((decide (d.1 = (2 : Int))) || (decide (d.1 = (3 : Int)))))) (ag := true) (c := ((decide (d.1 = (2 : Int))) || (decide (d.1 = (3 : Int))))) (v := (.pointer (some ⟨b1, 0, none⟩))) hf rfl rfl rfl (fun hact => (r_fa rfl Try.underlying39 (f := 0) (q := 0) rfl (by kernel_rfl) rfl)) rfl rfl ?_; clear hf fa; intro fa hf
  refine sqgF (act := (!((decide (d.1 = (2 : Int))) || (decide (d.1 = (3 : Int)))))) (ag := true) (c := ((decide (d.1 = (2 : Int))) || (decide (d.1 = (3 : Int))))) (v := (.int .u8 d.1)) hf rfl rfl rfl (fun hact => (r_load (v := (.int .u8 d.1)) (gb_ev hact rfl) Try.underlying5 rfl (cell_blk hk1 rfl))) rfl rfl ?_; clear hf fa; intro fa hf
  refine sqgF (act := (!((decide (d.1 = (2 : Int))) || (decide (d.1 = (3 : Int)))))) (ag := true) (c := ((decide (d.1 = (2 : Int))) || (decide (d.1 = (3 : Int))))) (v := (.bool (decide (d.1 = (4 : Int))))) hf rfl rfl rfl (fun hact => (r_eq (gb_ev hact rfl) rfl)) rfl rfl ?_; clear hf fa; intro fa hf
  refine sqv hf (r_pickO (b := ((decide (d.1 = (2 : Int))) || (decide (d.1 = (3 : Int))))) (e := (decide (d.1 = (4 : Int)))) rfl rfl rfl) rfl rfl rfl ?_; clear hf fa; intro fa hf
  refine sqv hf (r_assign rfl) rfl rfl rfl ?_; clear hf fa; intro fa hf
  apply wpList_nil
  (try simp only [Exit.then, Exit.inBlock, ↓reduceIte, Nat.reduceEqDiff])
  refine hK2 _ _ ?_
  refine wp_ret ?_
  (try simp only [Exit.then, Exit.inBlock])
  refine ret1 hf rfl rfl ?_
  exact ⟨rfl, hb⟩

set_option maxHeartbeats 1000000 in
set_option maxRecDepth 100000 in
theorem seek_any (l : List Ins) (a : Option Addr) (c : Nat) (at0 : Nat) (w : World) (hr : RdS 4 vIns w a l) (hlc : l.length ≤ c) (hlm : l.length ≤ 100000) (hat : at0 < l.length) : Calls Try.prog 25 #[(.slice a l.length c), (.int .i64 ((at0 : Nat) : Int))] w fun e w' => e = .returned (.tuple #[.int .i64 (seekP (opl l) at0).1, .int .i64 (seekP (opl l) at0).2]) ∧ Below w.heap.size w w' := by
  refine sx_enter (L := [(0, (.slice a l.length c)), (1, (.int .i64 ((at0 : Nat) : Int)))]) Try.func25 rfl rfl rfl rfl (fun fa hf => ?_)
  have hb : Below w.heap.size w w := Below.refl _ _
  refine wp_seq_k (fun K1 hK1 => ?_)
  refine wp_region_lit ?_
  refine sqv hf (r_assign rfl) rfl rfl rfl ?_; clear hf fa; intro fa hf
  refine sqv hf (r_assign rfl) rfl rfl rfl ?_; clear hf fa; intro fa hf
  apply wpList_nil
  (try simp only [Exit.then, Exit.inBlock, ↓reduceIte, Nat.reduceEqDiff])
  refine hK1 _ _ ?_
  refine wp_seq_k (fun K2 hK2 => ?_)
  refine wp_region_lit ?_
  refine sqv hf (r_assign rfl) rfl rfl rfl ?_; clear hf fa; intro fa hf
  refine sqv hf (r_assign rfl) rfl rfl rfl ?_; clear hf fa; intro fa hf
  apply wpList_nil
  (try simp only [Exit.then, Exit.inBlock, ↓reduceIte, Nat.reduceEqDiff])
  refine hK2 _ _ ?_
  refine wp_seq_k (fun K3 hK3 => ?_)
  refine wp_seq_k (fun K4 hK4 => ?_)
  refine wp_region_lit ?_
  refine sqv hf (r_move rfl) rfl rfl rfl ?_; clear hf fa; intro fa hf
  refine sqv hf (r_add (C := (((at0 : Nat) : Int) + (1 : Int))) rfl rfl (by rw [IntKind.wrap_i64]; omega)) rfl rfl rfl ?_; clear hf fa; intro fa hf
  refine sqv hf (r_assign rfl) rfl rfl rfl ?_; clear hf fa; intro fa hf
  apply wpList_nil
  (try simp only [Exit.then, Exit.inBlock, ↓reduceIte, Nat.reduceEqDiff])
  refine hK4 _ _ ?_
  refine wp_block ?_
  refine wp_loop_k (fun m fa wr => ∃ (n : Nat) (dp : Nat) (ot : Int), m = l.length - n ∧ Fr 50 fa [(0, (.slice a l.length c)), (8, (.int .i64 ((n : Nat) : Int))), (6, (.int .i64 ((dp : Nat) : Int))), (7, (.int .i64 ot))] ∧ Below w.heap.size w wr ∧ n ≤ l.length ∧ dp ≤ n ∧ seekP (opl l) at0 = seekR ((opl l).drop n) n dp ot) ?_ ?_
  · skip
    exact ⟨_, (at0 + 1), 0, -1, rfl, hf.sub ⟨rfl, (some_int (by first | rfl | omega)), (some_int (by first | rfl | omega)), (some_int (by first | rfl | omega)), trivial⟩, hb, by omega, by omega, rfl⟩
  · skip
    clear hf fa; intro m1 fa w1 hI KL1 hKL1
    clear hb
    obtain ⟨n, dp, ot, hm1, hf, hb, hn, hd, Hs⟩ := hI
    refine wp_seq_k (fun K5 hK5 => ?_)
    refine wp_seq_k (fun K6 hK6 => ?_)
    refine wp_region_lit ?_
    refine sqv hf (r_move rfl) rfl rfl rfl ?_; clear hf fa; intro fa hf
    refine sqv hf (r_move rfl) rfl rfl rfl ?_; clear hf fa; intro fa hf
    refine sqv hf (r_lensl rfl Try.underlying27) rfl rfl rfl ?_; clear hf fa; intro fa hf
    refine sqv hf (r_lt rfl rfl) rfl rfl rfl ?_; clear hf fa; intro fa hf
    apply wpList_nil
    (try simp only [Exit.then, Exit.inBlock, ↓reduceIte, Nat.reduceEqDiff])
    refine hK6 _ _ ?_
    refine wp_cond_split (t := (decide (((n : Nat) : Int) < ((l.length : Nat) : Int)))) (hf.ev rfl) (fun hqt14_1 => ?_) (fun hqt14_1 => ?_)
    · have hqt14_1b := hqt14_1
      try simp only [decide_eq_true_eq, Bool.and_eq_true, Bool.or_eq_true, Bool.not_eq_true', decide_eq_false_iff_not, ne_eq, Bool.not_eq_true] at hqt14_1
      refine wp_skip ?_
      (try simp only [Exit.then, Exit.inBlock, ↓reduceIte, Nat.reduceEqDiff])
      refine hK5 _ _ ?_
      refine wp_seq_k (fun K7 hK7 => ?_)
      refine wp_block ?_
      refine wp_block ?_
      refine wp_seq_k (fun K8 hK8 => ?_)
      refine wp_region_lit ?_
      refine sqv hf (r_move rfl) rfl rfl rfl ?_; clear hf fa; intro fa hf
      refine sqv hf (r_move rfl) rfl rfl rfl ?_; clear hf fa; intro fa hf
      obtain ⟨y1, hy1⟩ : ∃ x, (l)[n]? = some x := ⟨_, List.getElem?_eq_getElem (by omega)⟩
      obtain ⟨ab1, aoff1, rfl, hlb1, hel1⟩ := RdS.at hr hy1
      refine sqv hf (r_ixa (sz := 4) (j := n) rfl rfl Try.underlying27 (by kernel_rfl) rfl (by omega) rfl) rfl rfl rfl ?_; clear hf fa; intro fa hf
      refine sqv hf (r_loadA (cs := [(.int .u8 y1.1), (.int .u64 y1.2.1), (.int .u64 y1.2.2.1), (.slice y1.2.2.2.1.at' y1.2.2.2.1.len y1.2.2.2.1.cap)]) rfl Try.underlying39 rfl (by kernel_rfl) (cellsAt_below hel1 hb hlb1)) rfl rfl rfl ?_; clear hf fa; intro fa hf
      refine sqdt hf (d_callB (vs := [(.agg #[(.int .u8 y1.1), (.int .u64 y1.2.1), (.int .u64 y1.2.2.1), (.slice y1.2.2.2.1.at' y1.2.2.2.1.len y1.2.2.2.1.cap)])]) rfl Try.func24 (by kernel_rfl) (by kernel_rfl) (ropens_any y1 _)) rfl rfl rfl ?_; clear hf fa; rintro fa _ w2 ⟨rfl, he1⟩ hf
      replace hb := hb.trans (Below.mono he1 hb.size)
      refine sqv hf (r_assign rfl) rfl rfl rfl ?_; clear hf fa; intro fa hf
      apply wpList_nil
      (try simp only [Exit.then, Exit.inBlock, ↓reduceIte, Nat.reduceEqDiff])
      refine hK8 _ _ ?_
      refine wp_cond_split (t := (opensI y1.1)) (hf.ev rfl) (fun hqt17_1 => ?_) (fun hqt17_1 => ?_)
      · have hqt17_1b := hqt17_1
        try simp only [decide_eq_true_eq, Bool.and_eq_true, Bool.or_eq_true, Bool.not_eq_true', decide_eq_false_iff_not, ne_eq, Bool.not_eq_true] at hqt17_1
        refine wp_region_lit ?_
        refine sqv hf (r_move rfl) rfl rfl rfl ?_; clear hf fa; intro fa hf
        refine sqv hf (r_add (C := (((dp : Nat) : Int) + (1 : Int))) rfl rfl (by rw [IntKind.wrap_i64]; omega)) rfl rfl rfl ?_; clear hf fa; intro fa hf
        refine sqv hf (r_assign rfl) rfl rfl rfl ?_; clear hf fa; intro fa hf
        apply wpList_nil
        (try simp only [Exit.then, Exit.inBlock, ↓reduceIte, Nat.reduceEqDiff])
        refine hK7 _ _ ?_
        refine wp_region_lit ?_
        refine sqv hf (r_move rfl) rfl rfl rfl ?_; clear hf fa; intro fa hf
        refine sqv hf (r_add (C := (((n : Nat) : Int) + (1 : Int))) rfl rfl (by rw [IntKind.wrap_i64]; omega)) rfl rfl rfl ?_; clear hf fa; intro fa hf
        refine sqv hf (r_assign rfl) rfl rfl rfl ?_; clear hf fa; intro fa hf
        apply wpList_nil
        (try simp only [Exit.then, Exit.inBlock, ↓reduceIte, Nat.reduceEqDiff])
        refine hKL1 _ _ _ (by omega) ⟨(n + 1), (dp + 1), ot, rfl, hf.sub ⟨rfl, (some_int (by first | rfl | omega)), (some_int (by first | rfl | omega)), rfl, trivial⟩, hb, by omega, by omega, (by have h := Hs; rw [opl_drop hy1, seekR] at h; simp only [if_pos hqt14_1, if_pos hqt17_1] at h; exact h)⟩
      · have hqt17_1b := hqt17_1
        replace hqt17_1 := Bool.eq_false_iff.1 hqt17_1
        try simp only [ne_eq, decide_eq_true_eq, Bool.and_eq_true, Bool.or_eq_true, Bool.not_eq_true', decide_eq_false_iff_not] at hqt17_1
        refine wp_seq_k (fun K9 hK9 => ?_)
        refine wp_region_lit ?_
        refine sqv hf (r_move rfl) rfl rfl rfl ?_; clear hf fa; intro fa hf
        refine sqv hf (r_move rfl) rfl rfl rfl ?_; clear hf fa; intro fa hf
        refine sqv hf (r_ixa (sz := 4) (j := n) rfl rfl Try.underlying27 (by kernel_rfl) rfl (by omega) rfl) rfl rfl rfl ?_; clear hf fa; intro fa hf
        refine sqv hf (r_fa rfl Try.underlying39 (f := 0) (q := (aoff1 + n * 4)) rfl (by kernel_rfl) rfl) rfl rfl rfl ?_; clear hf fa; intro fa hf
        refine sqv hf (r_load (v := (.int .u8 y1.1)) rfl Try.underlying5 rfl (cellsAt_cell (cellsAt_below hel1 hb hlb1) (i := 0) rfl rfl)) rfl rfl rfl ?_; clear hf fa; intro fa hf
        refine sqv hf (r_eq rfl rfl) rfl rfl rfl ?_; clear hf fa; intro fa hf
        refine sqv hf (r_move rfl) rfl rfl rfl ?_; clear hf fa; intro fa hf
        refine sqgT (act := (decide (y1.1 = (5 : Int)))) (ag := true) (c := (decide (y1.1 = (5 : Int)))) (v := (.int .i64 ((dp : Nat) : Int))) hf rfl rfl rfl (fun hact => (r_move rfl)) rfl rfl ?_; clear hf fa; intro fa hf
        refine sqgT (act := (decide (y1.1 = (5 : Int)))) (ag := true) (c := (decide (y1.1 = (5 : Int)))) (v := (.bool (decide (((dp : Nat) : Int) = (0 : Int))))) hf rfl rfl rfl (fun hact => (r_eq (gb_ev hact rfl) rfl)) rfl rfl ?_; clear hf fa; intro fa hf
        refine sqv hf (r_pickA (b := (decide (y1.1 = (5 : Int)))) (e := (decide (((dp : Nat) : Int) = (0 : Int)))) rfl rfl rfl) rfl rfl rfl ?_; clear hf fa; intro fa hf
        refine sqv hf (r_assign rfl) rfl rfl rfl ?_; clear hf fa; intro fa hf
        apply wpList_nil
        (try simp only [Exit.then, Exit.inBlock, ↓reduceIte, Nat.reduceEqDiff])
        refine hK9 _ _ ?_
        refine wp_cond_split (t := ((decide (y1.1 = (5 : Int))) && (decide (((dp : Nat) : Int) = (0 : Int))))) (hf.ev rfl) (fun hqt25_1 => ?_) (fun hqt25_1 => ?_)
        · have hqt25_1b := hqt25_1
          try simp only [decide_eq_true_eq, Bool.and_eq_true, Bool.or_eq_true, Bool.not_eq_true', decide_eq_false_iff_not, ne_eq, Bool.not_eq_true] at hqt25_1
          refine wp_region_lit ?_
          refine sqv hf (r_move rfl) rfl rfl rfl ?_; clear hf fa; intro fa hf
          refine sqv hf (r_assign rfl) rfl rfl rfl ?_; clear hf fa; intro fa hf
          apply wpList_nil
          (try simp only [Exit.then, Exit.inBlock, ↓reduceIte, Nat.reduceEqDiff])
          refine hK7 _ _ ?_
          refine wp_region_lit ?_
          refine sqv hf (r_move rfl) rfl rfl rfl ?_; clear hf fa; intro fa hf
          refine sqv hf (r_add (C := (((n : Nat) : Int) + (1 : Int))) rfl rfl (by rw [IntKind.wrap_i64]; omega)) rfl rfl rfl ?_; clear hf fa; intro fa hf
          refine sqv hf (r_assign rfl) rfl rfl rfl ?_; clear hf fa; intro fa hf
          apply wpList_nil
          (try simp only [Exit.then, Exit.inBlock, ↓reduceIte, Nat.reduceEqDiff])
          refine hKL1 _ _ _ (by omega) ⟨(n + 1), dp, ((n : Nat) : Int), rfl, hf.sub ⟨rfl, (some_int (by first | rfl | omega)), rfl, rfl, trivial⟩, hb, by omega, by omega, (by have h := Hs; rw [opl_drop hy1, seekR] at h; simp only [if_pos hqt14_1, if_neg hqt17_1, if_pos hqt25_1] at h; exact h)⟩
        · have hqt25_1b := hqt25_1
          replace hqt25_1 := Bool.eq_false_iff.1 hqt25_1
          try simp only [ne_eq, decide_eq_true_eq, Bool.and_eq_true, Bool.or_eq_true, Bool.not_eq_true', decide_eq_false_iff_not] at hqt25_1
          refine wp_seq_k (fun K10 hK10 => ?_)
          refine wp_region_lit ?_
          refine sqv hf (r_move rfl) rfl rfl rfl ?_; clear hf fa; intro fa hf
          refine sqv hf (r_move rfl) rfl rfl rfl ?_; clear hf fa; intro fa hf
          refine sqv hf (r_ixa (sz := 4) (j := n) rfl rfl Try.underlying27 (by kernel_rfl) rfl (by omega) rfl) rfl rfl rfl ?_; clear hf fa; intro fa hf
          refine sqv hf (r_fa rfl Try.underlying39 (f := 0) (q := (aoff1 + n * 4)) rfl (by kernel_rfl) rfl) rfl rfl rfl ?_; clear hf fa; intro fa hf
          refine sqv hf (r_load (v := (.int .u8 y1.1)) rfl Try.underlying5 rfl (cellsAt_cell (cellsAt_below hel1 hb hlb1) (i := 0) rfl rfl)) rfl rfl rfl ?_; clear hf fa; intro fa hf
          refine sqv hf (r_eq rfl rfl) rfl rfl rfl ?_; clear hf fa; intro fa hf
          refine sqv hf (r_assign rfl) rfl rfl rfl ?_; clear hf fa; intro fa hf
          apply wpList_nil
          (try simp only [Exit.then, Exit.inBlock, ↓reduceIte, Nat.reduceEqDiff])
          refine hK10 _ _ ?_
          refine wp_cond_split (t := (decide (y1.1 = (11 : Int)))) (hf.ev rfl) (fun hqt37_1 => ?_) (fun hqt37_1 => ?_)
          · have hqt37_1b := hqt37_1
            try simp only [decide_eq_true_eq, Bool.and_eq_true, Bool.or_eq_true, Bool.not_eq_true', decide_eq_false_iff_not, ne_eq, Bool.not_eq_true] at hqt37_1
            refine wp_seq_k (fun K11 hK11 => ?_)
            refine wp_seq_k (fun K12 hK12 => ?_)
            refine wp_region_lit ?_
            refine sqv hf (r_move rfl) rfl rfl rfl ?_; clear hf fa; intro fa hf
            refine sqv hf (r_eq rfl rfl) rfl rfl rfl ?_; clear hf fa; intro fa hf
            apply wpList_nil
            (try simp only [Exit.then, Exit.inBlock, ↓reduceIte, Nat.reduceEqDiff])
            refine hK12 _ _ ?_
            refine wp_cond_split (t := (decide (((dp : Nat) : Int) = (0 : Int)))) (hf.ev rfl) (fun hqt45_1 => ?_) (fun hqt45_1 => ?_)
            · have hqt45_1b := hqt45_1
              try simp only [decide_eq_true_eq, Bool.and_eq_true, Bool.or_eq_true, Bool.not_eq_true', decide_eq_false_iff_not, ne_eq, Bool.not_eq_true] at hqt45_1
              refine wp_seq_k (fun K13 hK13 => ?_)
              refine wp_region_lit ?_
              refine sqv hf (r_move rfl) rfl rfl rfl ?_; clear hf fa; intro fa hf
              refine sqv hf (r_move rfl) rfl rfl rfl ?_; clear hf fa; intro fa hf
              refine sqv hf (r_assign rfl) rfl rfl rfl ?_; clear hf fa; intro fa hf
              refine sqv hf (r_assign rfl) rfl rfl rfl ?_; clear hf fa; intro fa hf
              apply wpList_nil
              (try simp only [Exit.then, Exit.inBlock, ↓reduceIte, Nat.reduceEqDiff])
              refine hK13 _ _ ?_
              refine wp_ret ?_
              (try simp only [Exit.then, Exit.inBlock])
              refine ret2 hf rfl rfl rfl ?_
              have h := Hs; rw [opl_drop hy1, seekR] at h; simp only [if_pos hqt14_1, if_neg hqt17_1, if_neg hqt25_1, if_pos hqt37_1, if_pos hqt45_1] at h
              rw [h]; exact ⟨rfl, hb⟩
            · have hqt45_1b := hqt45_1
              replace hqt45_1 := Bool.eq_false_iff.1 hqt45_1
              try simp only [ne_eq, decide_eq_true_eq, Bool.and_eq_true, Bool.or_eq_true, Bool.not_eq_true', decide_eq_false_iff_not] at hqt45_1
              refine wp_skip ?_
              (try simp only [Exit.then, Exit.inBlock, ↓reduceIte, Nat.reduceEqDiff])
              refine hK11 _ _ ?_
              refine wp_region_lit ?_
              refine sqv hf (r_move rfl) rfl rfl rfl ?_; clear hf fa; intro fa hf
              refine sqv hf (r_sub (C := (((dp : Nat) : Int) - (1 : Int))) rfl rfl (by rw [IntKind.wrap_i64]; omega)) rfl rfl rfl ?_; clear hf fa; intro fa hf
              refine sqv hf (r_assign rfl) rfl rfl rfl ?_; clear hf fa; intro fa hf
              apply wpList_nil
              (try simp only [Exit.then, Exit.inBlock, ↓reduceIte, Nat.reduceEqDiff])
              refine hK7 _ _ ?_
              refine wp_region_lit ?_
              refine sqv hf (r_move rfl) rfl rfl rfl ?_; clear hf fa; intro fa hf
              refine sqv hf (r_add (C := (((n : Nat) : Int) + (1 : Int))) rfl rfl (by rw [IntKind.wrap_i64]; omega)) rfl rfl rfl ?_; clear hf fa; intro fa hf
              refine sqv hf (r_assign rfl) rfl rfl rfl ?_; clear hf fa; intro fa hf
              apply wpList_nil
              (try simp only [Exit.then, Exit.inBlock, ↓reduceIte, Nat.reduceEqDiff])
              refine hKL1 _ _ _ (by omega) ⟨(n + 1), (dp - 1), ot, rfl, hf.sub ⟨rfl, (some_int (by first | rfl | omega)), (some_int (by first | rfl | omega)), rfl, trivial⟩, hb, by omega, by omega, (by have h := Hs; rw [opl_drop hy1, seekR] at h; simp only [if_pos hqt14_1, if_neg hqt17_1, if_neg hqt25_1, if_pos hqt37_1, if_neg hqt45_1] at h; exact h)⟩
          · have hqt37_1b := hqt37_1
            replace hqt37_1 := Bool.eq_false_iff.1 hqt37_1
            try simp only [ne_eq, decide_eq_true_eq, Bool.and_eq_true, Bool.or_eq_true, Bool.not_eq_true', decide_eq_false_iff_not] at hqt37_1
            refine wp_skip ?_
            (try simp only [Exit.then, Exit.inBlock, ↓reduceIte, Nat.reduceEqDiff])
            refine hK7 _ _ ?_
            refine wp_region_lit ?_
            refine sqv hf (r_move rfl) rfl rfl rfl ?_; clear hf fa; intro fa hf
            refine sqv hf (r_add (C := (((n : Nat) : Int) + (1 : Int))) rfl rfl (by rw [IntKind.wrap_i64]; omega)) rfl rfl rfl ?_; clear hf fa; intro fa hf
            refine sqv hf (r_assign rfl) rfl rfl rfl ?_; clear hf fa; intro fa hf
            apply wpList_nil
            (try simp only [Exit.then, Exit.inBlock, ↓reduceIte, Nat.reduceEqDiff])
            refine hKL1 _ _ _ (by omega) ⟨(n + 1), dp, ot, rfl, hf.sub ⟨rfl, (some_int (by first | rfl | omega)), rfl, rfl, trivial⟩, hb, by omega, by omega, (by have h := Hs; rw [opl_drop hy1, seekR] at h; simp only [if_pos hqt14_1, if_neg hqt17_1, if_neg hqt25_1, if_neg hqt37_1] at h; exact h)⟩
    · have hqt14_1b := hqt14_1
      replace hqt14_1 := Bool.eq_false_iff.1 hqt14_1
      try simp only [ne_eq, decide_eq_true_eq, Bool.and_eq_true, Bool.or_eq_true, Bool.not_eq_true', decide_eq_false_iff_not] at hqt14_1
      refine wp_exit ?_
      (try simp only [Exit.then, Exit.inBlock, ↓reduceIte, Nat.reduceEqDiff])
      refine hK3 _ _ ?_
      refine wp_seq_k (fun K14 hK14 => ?_)
      refine wp_region_lit ?_
      refine sqv hf (r_assign rfl) rfl rfl rfl ?_; clear hf fa; intro fa hf
      refine sqv hf (r_assign rfl) rfl rfl rfl ?_; clear hf fa; intro fa hf
      apply wpList_nil
      (try simp only [Exit.then, Exit.inBlock, ↓reduceIte, Nat.reduceEqDiff])
      refine hK14 _ _ ?_
      refine wp_ret ?_
      (try simp only [Exit.then, Exit.inBlock])
      refine ret2 hf rfl rfl rfl ?_
      have h := Hs; rw [opl_end (by omega), seekR] at h
      rw [h]; exact ⟨rfl, hb⟩

set_option maxHeartbeats 1000000 in
set_option maxRecDepth 100000 in
theorem rwalk_any (l : List Ins) (a : Option Addr) (c : Nat) (w : World) (hr : RdS 4 vIns w a l) (hlc : l.length ≤ c) (hlm : l.length ≤ 100000) : Calls Try.prog 65 #[(.slice a l.length c)] w fun e w' => e = .returned (.tuple #[.int .i64 (walkR (opl l) ⟨#[]⟩ 0).1, .int .i64 (walkR (opl l) ⟨#[]⟩ 0).2]) ∧ Below w.heap.size w w' := by
  refine sx_enter (L := [(0, (.slice a l.length c))]) Try.func65 rfl rfl rfl rfl (fun fa hf => ?_)
  have hb : Below w.heap.size w w := Below.refl _ _
  refine wp_seq_k (fun K1 hK1 => ?_)
  refine wp_region_lit ?_
  refine sqv hf (r_assign rfl) rfl rfl rfl ?_; clear hf fa; intro fa hf
  refine sqv hf (r_assign rfl) rfl rfl rfl ?_; clear hf fa; intro fa hf
  apply wpList_nil
  (try simp only [Exit.then, Exit.inBlock, ↓reduceIte, Nat.reduceEqDiff])
  refine hK1 _ _ ?_
  refine wp_seq_k (fun K2 hK2 => ?_)
  refine wp_region_lit ?_
  refine sqv hf (r_assign rfl) rfl rfl rfl ?_; clear hf fa; intro fa hf
  apply wpList_nil
  (try simp only [Exit.then, Exit.inBlock, ↓reduceIte, Nat.reduceEqDiff])
  refine hK2 _ _ ?_
  refine wp_seq_k (fun K3 hK3 => ?_)
  refine wp_seq_k (fun K4 hK4 => ?_)
  refine wp_region_lit ?_
  refine sqv hf (r_assign rfl) rfl rfl rfl ?_; clear hf fa; intro fa hf
  apply wpList_nil
  (try simp only [Exit.then, Exit.inBlock, ↓reduceIte, Nat.reduceEqDiff])
  refine hK4 _ _ ?_
  refine wp_block ?_
  refine wp_loop_k (fun m fa wr => ∃ (n : Nat) (s : ByteArray), m = l.length - n ∧ Fr 56 fa [(0, (.slice a l.length c)), (5, (.int .i64 ((n : Nat) : Int))), (4, (.string s))] ∧ Below w.heap.size w wr ∧ n ≤ l.length ∧ s.size ≤ n ∧ walkR (opl l) ⟨#[]⟩ 0 = walkR ((opl l).drop n) s n) ?_ ?_
  · skip
    exact ⟨_, 0, ⟨#[]⟩, rfl, hf.sub ⟨rfl, (some_int (by first | rfl | omega)), rfl, trivial⟩, hb, by omega, Nat.le_refl _, rfl⟩
  · skip
    clear hf fa; intro m1 fa w1 hI KL1 hKL1
    clear hb
    obtain ⟨n, s, hm1, hf, hb, hn, hs, Hs⟩ := hI
    refine wp_seq_k (fun K5 hK5 => ?_)
    refine wp_seq_k (fun K6 hK6 => ?_)
    refine wp_region_lit ?_
    refine sqv hf (r_move rfl) rfl rfl rfl ?_; clear hf fa; intro fa hf
    refine sqv hf (r_move rfl) rfl rfl rfl ?_; clear hf fa; intro fa hf
    refine sqv hf (r_lensl rfl Try.underlying27) rfl rfl rfl ?_; clear hf fa; intro fa hf
    refine sqv hf (r_lt rfl rfl) rfl rfl rfl ?_; clear hf fa; intro fa hf
    apply wpList_nil
    (try simp only [Exit.then, Exit.inBlock, ↓reduceIte, Nat.reduceEqDiff])
    refine hK6 _ _ ?_
    refine wp_cond_split (t := (decide (((n : Nat) : Int) < ((l.length : Nat) : Int)))) (hf.ev rfl) (fun hqt9_1 => ?_) (fun hqt9_1 => ?_)
    · have hqt9_1b := hqt9_1
      try simp only [decide_eq_true_eq, Bool.and_eq_true, Bool.or_eq_true, Bool.not_eq_true', decide_eq_false_iff_not, ne_eq, Bool.not_eq_true] at hqt9_1
      refine wp_skip ?_
      (try simp only [Exit.then, Exit.inBlock, ↓reduceIte, Nat.reduceEqDiff])
      refine hK5 _ _ ?_
      refine wp_seq_k (fun K7 hK7 => ?_)
      refine wp_block ?_
      refine wp_seq_k (fun K8 hK8 => ?_)
      refine wp_region_lit ?_
      refine sqv hf (r_move rfl) rfl rfl rfl ?_; clear hf fa; intro fa hf
      refine sqv hf (r_move rfl) rfl rfl rfl ?_; clear hf fa; intro fa hf
      obtain ⟨y1, hy1⟩ : ∃ x, (l)[n]? = some x := ⟨_, List.getElem?_eq_getElem (by omega)⟩
      obtain ⟨ab1, aoff1, rfl, hlb1, hel1⟩ := RdS.at hr hy1
      refine sqv hf (r_ixa (sz := 4) (j := n) rfl rfl Try.underlying27 (by kernel_rfl) rfl (by omega) rfl) rfl rfl rfl ?_; clear hf fa; intro fa hf
      refine sqv hf (r_fa rfl Try.underlying39 (f := 0) (q := (aoff1 + n * 4)) rfl (by kernel_rfl) rfl) rfl rfl rfl ?_; clear hf fa; intro fa hf
      refine sqv hf (r_load (v := (.int .u8 y1.1)) rfl Try.underlying5 rfl (cellsAt_cell (cellsAt_below hel1 hb hlb1) (i := 0) rfl rfl)) rfl rfl rfl ?_; clear hf fa; intro fa hf
      apply wpList_nil
      (try simp only [Exit.then, Exit.inBlock, ↓reduceIte, Nat.reduceEqDiff])
      refine hK8 _ _ ?_
      refine wp_block ?_
      refine wp_seq_k (fun K9 hK9 => ?_)
      refine wp_seq_k (fun K10 hK10 => ?_)
      refine wp_region_lit ?_
      refine sqv hf (r_eq rfl rfl) rfl rfl rfl ?_; clear hf fa; intro fa hf
      refine sqv hf (r_assign rfl) rfl rfl rfl ?_; clear hf fa; intro fa hf
      apply wpList_nil
      (try simp only [Exit.then, Exit.inBlock, ↓reduceIte, Nat.reduceEqDiff])
      refine hK10 _ _ ?_
      refine wp_cond_split (t := (decide (y1.1 = (2 : Int)))) (hf.ev rfl) (fun hqt17_1 => ?_) (fun hqt17_1 => ?_)
      · have hqt17_1b := hqt17_1
        try simp only [decide_eq_true_eq, Bool.and_eq_true, Bool.or_eq_true, Bool.not_eq_true', decide_eq_false_iff_not, ne_eq, Bool.not_eq_true] at hqt17_1
        refine wp_skip ?_
        (try simp only [Exit.then, Exit.inBlock, ↓reduceIte, Nat.reduceEqDiff])
        refine hK9 _ _ ?_
        refine wp_cond_true ((hf.ev rfl).trans (congrArg Value.bool (show (decide (y1.1 = (2 : Int))) = true from hqt17_1b))) ?_
        refine wp_region_lit ?_
        refine sqv hf (r_move rfl) rfl rfl rfl ?_; clear hf fa; intro fa hf
        refine sqv hf (r_sadd rfl rfl (by have : ((⟨#[98]⟩) : ByteArray).size = 1 := rfl; omega)) rfl rfl rfl ?_; clear hf fa; intro fa hf
        refine sqv hf (r_assign rfl) rfl rfl rfl ?_; clear hf fa; intro fa hf
        apply wpList_nil
        (try simp only [Exit.then, Exit.inBlock, ↓reduceIte, Nat.reduceEqDiff])
        refine hK7 _ _ ?_
        refine wp_region_lit ?_
        refine sqv hf (r_move rfl) rfl rfl rfl ?_; clear hf fa; intro fa hf
        refine sqv hf (r_add (C := (((n : Nat) : Int) + (1 : Int))) rfl rfl (by rw [IntKind.wrap_i64]; omega)) rfl rfl rfl ?_; clear hf fa; intro fa hf
        refine sqv hf (r_assign rfl) rfl rfl rfl ?_; clear hf fa; intro fa hf
        apply wpList_nil
        (try simp only [Exit.then, Exit.inBlock, ↓reduceIte, Nat.reduceEqDiff])
        refine hKL1 _ _ _ (by omega) ⟨(n + 1), (s ++ ⟨#[98]⟩), rfl, hf.sub ⟨rfl, (some_int (by first | rfl | omega)), rfl, trivial⟩, hb, by omega, (by have : ((⟨#[98]⟩) : ByteArray).size = 1 := rfl; have := sz_app s ⟨#[98]⟩; omega), (by have h := Hs; rw [opl_drop hy1, walkR] at h; simp only [if_pos hqt9_1, if_pos hqt17_1] at h; exact h)⟩
      · have hqt17_1b := hqt17_1
        replace hqt17_1 := Bool.eq_false_iff.1 hqt17_1
        try simp only [ne_eq, decide_eq_true_eq, Bool.and_eq_true, Bool.or_eq_true, Bool.not_eq_true', decide_eq_false_iff_not] at hqt17_1
        refine wp_region_lit ?_
        refine sqv hf (r_eq rfl rfl) rfl rfl rfl ?_; clear hf fa; intro fa hf
        refine sqv hf (r_assign rfl) rfl rfl rfl ?_; clear hf fa; intro fa hf
        apply wpList_nil
        (try simp only [Exit.then, Exit.inBlock, ↓reduceIte, Nat.reduceEqDiff])
        refine hK9 _ _ ?_
        refine wp_cond_split (t := (decide (y1.1 = (3 : Int)))) (hf.ev rfl) (fun hqt17_3 => ?_) (fun hqt17_3 => ?_)
        · have hqt17_3b := hqt17_3
          try simp only [decide_eq_true_eq, Bool.and_eq_true, Bool.or_eq_true, Bool.not_eq_true', decide_eq_false_iff_not, ne_eq, Bool.not_eq_true] at hqt17_3
          refine wp_region_lit ?_
          refine sqv hf (r_move rfl) rfl rfl rfl ?_; clear hf fa; intro fa hf
          refine sqv hf (r_sadd rfl rfl (by have : ((⟨#[98]⟩) : ByteArray).size = 1 := rfl; omega)) rfl rfl rfl ?_; clear hf fa; intro fa hf
          refine sqv hf (r_assign rfl) rfl rfl rfl ?_; clear hf fa; intro fa hf
          apply wpList_nil
          (try simp only [Exit.then, Exit.inBlock, ↓reduceIte, Nat.reduceEqDiff])
          refine hK7 _ _ ?_
          refine wp_region_lit ?_
          refine sqv hf (r_move rfl) rfl rfl rfl ?_; clear hf fa; intro fa hf
          refine sqv hf (r_add (C := (((n : Nat) : Int) + (1 : Int))) rfl rfl (by rw [IntKind.wrap_i64]; omega)) rfl rfl rfl ?_; clear hf fa; intro fa hf
          refine sqv hf (r_assign rfl) rfl rfl rfl ?_; clear hf fa; intro fa hf
          apply wpList_nil
          (try simp only [Exit.then, Exit.inBlock, ↓reduceIte, Nat.reduceEqDiff])
          refine hKL1 _ _ _ (by omega) ⟨(n + 1), (s ++ ⟨#[98]⟩), rfl, hf.sub ⟨rfl, (some_int (by first | rfl | omega)), rfl, trivial⟩, hb, by omega, (by have : ((⟨#[98]⟩) : ByteArray).size = 1 := rfl; have := sz_app s ⟨#[98]⟩; omega), (by have h := Hs; rw [opl_drop hy1, walkR] at h; simp only [if_pos hqt9_1, if_neg hqt17_1, if_pos hqt17_3] at h; exact h)⟩
        · have hqt17_3b := hqt17_3
          replace hqt17_3 := Bool.eq_false_iff.1 hqt17_3
          try simp only [ne_eq, decide_eq_true_eq, Bool.and_eq_true, Bool.or_eq_true, Bool.not_eq_true', decide_eq_false_iff_not] at hqt17_3
          refine wp_seq_k (fun K11 hK11 => ?_)
          refine wp_region_lit ?_
          refine sqv hf (r_eq rfl rfl) rfl rfl rfl ?_; clear hf fa; intro fa hf
          refine sqv hf (r_assign rfl) rfl rfl rfl ?_; clear hf fa; intro fa hf
          apply wpList_nil
          (try simp only [Exit.then, Exit.inBlock, ↓reduceIte, Nat.reduceEqDiff])
          refine hK11 _ _ ?_
          refine wp_cond_split (t := (decide (y1.1 = (4 : Int)))) (hf.ev rfl) (fun hqt22_1 => ?_) (fun hqt22_1 => ?_)
          · have hqt22_1b := hqt22_1
            try simp only [decide_eq_true_eq, Bool.and_eq_true, Bool.or_eq_true, Bool.not_eq_true', decide_eq_false_iff_not, ne_eq, Bool.not_eq_true] at hqt22_1
            refine wp_region_lit ?_
            refine sqv hf (r_move rfl) rfl rfl rfl ?_; clear hf fa; intro fa hf
            refine sqv hf (r_sadd rfl rfl (by have : ((⟨#[105]⟩) : ByteArray).size = 1 := rfl; omega)) rfl rfl rfl ?_; clear hf fa; intro fa hf
            refine sqv hf (r_assign rfl) rfl rfl rfl ?_; clear hf fa; intro fa hf
            apply wpList_nil
            (try simp only [Exit.then, Exit.inBlock, ↓reduceIte, Nat.reduceEqDiff])
            refine hK7 _ _ ?_
            refine wp_region_lit ?_
            refine sqv hf (r_move rfl) rfl rfl rfl ?_; clear hf fa; intro fa hf
            refine sqv hf (r_add (C := (((n : Nat) : Int) + (1 : Int))) rfl rfl (by rw [IntKind.wrap_i64]; omega)) rfl rfl rfl ?_; clear hf fa; intro fa hf
            refine sqv hf (r_assign rfl) rfl rfl rfl ?_; clear hf fa; intro fa hf
            apply wpList_nil
            (try simp only [Exit.then, Exit.inBlock, ↓reduceIte, Nat.reduceEqDiff])
            refine hKL1 _ _ _ (by omega) ⟨(n + 1), (s ++ ⟨#[105]⟩), rfl, hf.sub ⟨rfl, (some_int (by first | rfl | omega)), rfl, trivial⟩, hb, by omega, (by have : ((⟨#[105]⟩) : ByteArray).size = 1 := rfl; have := sz_app s ⟨#[105]⟩; omega), (by have h := Hs; rw [opl_drop hy1, walkR] at h; simp only [if_pos hqt9_1, if_neg hqt17_1, if_neg hqt17_3, if_pos hqt22_1] at h; exact h)⟩
          · have hqt22_1b := hqt22_1
            replace hqt22_1 := Bool.eq_false_iff.1 hqt22_1
            try simp only [ne_eq, decide_eq_true_eq, Bool.and_eq_true, Bool.or_eq_true, Bool.not_eq_true', decide_eq_false_iff_not] at hqt22_1
            refine wp_seq_k (fun K12 hK12 => ?_)
            refine wp_region_lit ?_
            refine sqv hf (r_eq rfl rfl) rfl rfl rfl ?_; clear hf fa; intro fa hf
            refine sqv hf (r_assign rfl) rfl rfl rfl ?_; clear hf fa; intro fa hf
            apply wpList_nil
            (try simp only [Exit.then, Exit.inBlock, ↓reduceIte, Nat.reduceEqDiff])
            refine hK12 _ _ ?_
            refine wp_cond_split (t := (decide (y1.1 = (5 : Int)))) (hf.ev rfl) (fun hqt26_1 => ?_) (fun hqt26_1 => ?_)
            · have hqt26_1b := hqt26_1
              try simp only [decide_eq_true_eq, Bool.and_eq_true, Bool.or_eq_true, Bool.not_eq_true', decide_eq_false_iff_not, ne_eq, Bool.not_eq_true] at hqt26_1
              refine wp_seq_k (fun K13 hK13 => ?_)
              refine wp_seq_k (fun K14 hK14 => ?_)
              refine wp_region_lit ?_
              refine sqv hf (r_move rfl) rfl rfl rfl ?_; clear hf fa; intro fa hf
              refine sqv hf (r_seq rfl rfl) rfl rfl rfl ?_; clear hf fa; intro fa hf
              refine sqv hf (r_move rfl) rfl rfl rfl ?_; clear hf fa; intro fa hf
              refine sqgF (act := (!(decide (s = ⟨#[]⟩)))) (ag := true) (c := (decide (s = ⟨#[]⟩))) (v := (.string s)) hf rfl rfl rfl (fun hact => (by have hact0 := hact; have := ne_size (s := s) (by revert hact; simp +contextual); exact (r_move rfl))) rfl rfl ?_; clear hf fa; intro fa hf
              refine sqgF (act := (!(decide (s = ⟨#[]⟩)))) (ag := true) (c := (decide (s = ⟨#[]⟩))) (v := (.string s)) hf rfl rfl rfl (fun hact => (by have hact0 := hact; have := ne_size (s := s) (by revert hact; simp +contextual); exact (r_move rfl))) rfl rfl ?_; clear hf fa; intro fa hf
              refine sqgF (act := (!(decide (s = ⟨#[]⟩)))) (ag := true) (c := (decide (s = ⟨#[]⟩))) (v := (.int .i64 ((s.size : Nat) : Int))) hf rfl rfl rfl (fun hact => (by have hact0 := hact; have := ne_size (s := s) (by revert hact; simp +contextual); exact (r_lens (gb_ev hact rfl) Try.underlying9))) rfl rfl ?_; clear hf fa; intro fa hf
              refine sqgF (act := (!(decide (s = ⟨#[]⟩)))) (ag := true) (c := (decide (s = ⟨#[]⟩))) (v := (.int .i64 (((s.size : Nat) : Int) - (1 : Int)))) hf rfl rfl rfl (fun hact => (by have hact0 := hact; have := ne_size (s := s) (by revert hact; simp +contextual); exact (r_sub (C := (((s.size : Nat) : Int) - (1 : Int))) (gb_ev hact rfl) rfl (by rw [IntKind.wrap_i64]; omega)))) rfl rfl ?_; clear hf fa; intro fa hf
              refine sqgF (act := (!(decide (s = ⟨#[]⟩)))) (ag := true) (c := (decide (s = ⟨#[]⟩))) (v := (.int .u8 ((sbt s (s.size - 1) : Nat) : Int))) hf rfl rfl rfl (fun hact => (by have hact0 := hact; have := ne_size (s := s) (by revert hact; simp +contextual); exact (r_sindexD (j := (s.size - 1)) (gb_ev hact rfl) (gb_ev hact rfl) Try.underlying9 (by omega) (by omega)))) rfl rfl ?_; clear hf fa; intro fa hf
              refine sqgF (act := (!(decide (s = ⟨#[]⟩)))) (ag := true) (c := (decide (s = ⟨#[]⟩))) (v := (.bool (decide (((sbt s (s.size - 1) : Nat) : Int) ≠ (105 : Int))))) hf rfl rfl rfl (fun hact => (by have hact0 := hact; have := ne_size (s := s) (by revert hact; simp +contextual); exact (r_ne (gb_ev hact rfl) rfl))) rfl rfl ?_; clear hf fa; intro fa hf
              refine sqv hf (r_pickO (b := (decide (s = ⟨#[]⟩))) (e := (decide (((sbt s (s.size - 1) : Nat) : Int) ≠ (105 : Int)))) rfl rfl rfl) rfl rfl rfl ?_; clear hf fa; intro fa hf
              apply wpList_nil
              (try simp only [Exit.then, Exit.inBlock, ↓reduceIte, Nat.reduceEqDiff])
              refine hK14 _ _ ?_
              refine wp_cond_split (t := ((decide (s = ⟨#[]⟩)) || (decide (((sbt s (s.size - 1) : Nat) : Int) ≠ (105 : Int))))) (hf.ev rfl) (fun hqt37_1 => ?_) (fun hqt37_1 => ?_)
              · have hqt37_1b := hqt37_1
                try simp only [decide_eq_true_eq, Bool.and_eq_true, Bool.or_eq_true, Bool.not_eq_true', decide_eq_false_iff_not, ne_eq, Bool.not_eq_true] at hqt37_1
                refine wp_seq_k (fun K15 hK15 => ?_)
                refine wp_region_lit ?_
                refine sqv hf (r_move rfl) rfl rfl rfl ?_; clear hf fa; intro fa hf
                refine sqv hf (r_assign rfl) rfl rfl rfl ?_; clear hf fa; intro fa hf
                refine sqv hf (r_assign rfl) rfl rfl rfl ?_; clear hf fa; intro fa hf
                apply wpList_nil
                (try simp only [Exit.then, Exit.inBlock, ↓reduceIte, Nat.reduceEqDiff])
                refine hK15 _ _ ?_
                refine wp_ret ?_
                (try simp only [Exit.then, Exit.inBlock])
                refine ret2 hf rfl rfl rfl ?_
                have h := Hs; rw [opl_drop hy1, walkR] at h; simp only [if_pos hqt9_1, if_neg hqt17_1, if_neg hqt17_3, if_neg hqt22_1, if_pos hqt26_1, if_pos hqt37_1] at h
                rw [h]; exact ⟨rfl, hb⟩
              · have hqt37_1b := hqt37_1
                replace hqt37_1 := Bool.eq_false_iff.1 hqt37_1
                try simp only [ne_eq, decide_eq_true_eq, Bool.and_eq_true, Bool.or_eq_true, Bool.not_eq_true', decide_eq_false_iff_not] at hqt37_1
                try (have hzhqt37_1 : 0 < s.size := ne_size (fun e => by simp [e] at hqt37_1))
                refine wp_skip ?_
                (try simp only [Exit.then, Exit.inBlock, ↓reduceIte, Nat.reduceEqDiff])
                refine hK13 _ _ ?_
                refine wp_region_lit ?_
                refine sqv hf (r_move rfl) rfl rfl rfl ?_; clear hf fa; intro fa hf
                refine sqv hf (r_move rfl) rfl rfl rfl ?_; clear hf fa; intro fa hf
                refine sqv hf (r_lens rfl Try.underlying9) rfl rfl rfl ?_; clear hf fa; intro fa hf
                refine sqv hf (r_sub (C := (((s.size : Nat) : Int) - (1 : Int))) rfl rfl (by rw [IntKind.wrap_i64]; omega)) rfl rfl rfl ?_; clear hf fa; intro fa hf
                refine sqv hf (r_sslice (a := 0) (b := (s.size - 1)) (k1 := .i64) (k2 := .i64) (A := 0) (B := (((s.size : Nat) : Int) - (1 : Int))) rfl Try.underlying9 (.inl ⟨rfl, rfl⟩) (.inr ⟨_, rfl, rfl, (by omega)⟩) (by omega) (by omega)) rfl rfl rfl ?_; clear hf fa; intro fa hf
                refine sqv hf (r_sadd rfl rfl (by have := sz_ext s 0 (s.size - 1) (by omega) (by omega); have : ((⟨#[101]⟩) : ByteArray).size = 1 := rfl; omega)) rfl rfl rfl ?_; clear hf fa; intro fa hf
                refine sqv hf (r_assign rfl) rfl rfl rfl ?_; clear hf fa; intro fa hf
                apply wpList_nil
                (try simp only [Exit.then, Exit.inBlock, ↓reduceIte, Nat.reduceEqDiff])
                refine hK7 _ _ ?_
                refine wp_region_lit ?_
                refine sqv hf (r_move rfl) rfl rfl rfl ?_; clear hf fa; intro fa hf
                refine sqv hf (r_add (C := (((n : Nat) : Int) + (1 : Int))) rfl rfl (by rw [IntKind.wrap_i64]; omega)) rfl rfl rfl ?_; clear hf fa; intro fa hf
                refine sqv hf (r_assign rfl) rfl rfl rfl ?_; clear hf fa; intro fa hf
                apply wpList_nil
                (try simp only [Exit.then, Exit.inBlock, ↓reduceIte, Nat.reduceEqDiff])
                refine hKL1 _ _ _ (by omega) ⟨(n + 1), ((s.extract 0 (s.size - 1)) ++ ⟨#[101]⟩), rfl, hf.sub ⟨rfl, (some_int (by first | rfl | omega)), rfl, trivial⟩, hb, by omega, (by have := sz_ext s 0 (s.size - 1) (by omega) (by omega); have : ((⟨#[101]⟩) : ByteArray).size = 1 := rfl; have := sz_app (s.extract 0 (s.size - 1)) ⟨#[101]⟩; omega), (by have h := Hs; rw [opl_drop hy1, walkR] at h; simp only [if_pos hqt9_1, if_neg hqt17_1, if_neg hqt17_3, if_neg hqt22_1, if_pos hqt26_1, if_neg hqt37_1] at h; exact h)⟩
            · have hqt26_1b := hqt26_1
              replace hqt26_1 := Bool.eq_false_iff.1 hqt26_1
              try simp only [ne_eq, decide_eq_true_eq, Bool.and_eq_true, Bool.or_eq_true, Bool.not_eq_true', decide_eq_false_iff_not] at hqt26_1
              refine wp_seq_k (fun K16 hK16 => ?_)
              refine wp_region_lit ?_
              refine sqv hf (r_eq rfl rfl) rfl rfl rfl ?_; clear hf fa; intro fa hf
              refine sqv hf (r_assign rfl) rfl rfl rfl ?_; clear hf fa; intro fa hf
              apply wpList_nil
              (try simp only [Exit.then, Exit.inBlock, ↓reduceIte, Nat.reduceEqDiff])
              refine hK16 _ _ ?_
              refine wp_cond_split (t := (decide (y1.1 = (11 : Int)))) (hf.ev rfl) (fun hqt45_1 => ?_) (fun hqt45_1 => ?_)
              · have hqt45_1b := hqt45_1
                try simp only [decide_eq_true_eq, Bool.and_eq_true, Bool.or_eq_true, Bool.not_eq_true', decide_eq_false_iff_not, ne_eq, Bool.not_eq_true] at hqt45_1
                refine wp_seq_k (fun K17 hK17 => ?_)
                refine wp_seq_k (fun K18 hK18 => ?_)
                refine wp_region_lit ?_
                refine sqv hf (r_move rfl) rfl rfl rfl ?_; clear hf fa; intro fa hf
                refine sqv hf (r_seq rfl rfl) rfl rfl rfl ?_; clear hf fa; intro fa hf
                apply wpList_nil
                (try simp only [Exit.then, Exit.inBlock, ↓reduceIte, Nat.reduceEqDiff])
                refine hK18 _ _ ?_
                refine wp_cond_split (t := (decide (s = ⟨#[]⟩))) (hf.ev rfl) (fun hqt48_1 => ?_) (fun hqt48_1 => ?_)
                · have hqt48_1b := hqt48_1
                  try simp only [decide_eq_true_eq, Bool.and_eq_true, Bool.or_eq_true, Bool.not_eq_true', decide_eq_false_iff_not, ne_eq, Bool.not_eq_true] at hqt48_1
                  refine wp_seq_k (fun K19 hK19 => ?_)
                  refine wp_region_lit ?_
                  refine sqv hf (r_move rfl) rfl rfl rfl ?_; clear hf fa; intro fa hf
                  refine sqv hf (r_add (C := (((n : Nat) : Int) + (1 : Int))) rfl rfl (by rw [IntKind.wrap_i64]; omega)) rfl rfl rfl ?_; clear hf fa; intro fa hf
                  refine sqv hf (r_assign rfl) rfl rfl rfl ?_; clear hf fa; intro fa hf
                  refine sqv hf (r_assign rfl) rfl rfl rfl ?_; clear hf fa; intro fa hf
                  apply wpList_nil
                  (try simp only [Exit.then, Exit.inBlock, ↓reduceIte, Nat.reduceEqDiff])
                  refine hK19 _ _ ?_
                  refine wp_ret ?_
                  (try simp only [Exit.then, Exit.inBlock])
                  refine ret2 hf rfl rfl rfl ?_
                  have h := Hs; rw [opl_drop hy1, walkR] at h; simp only [if_pos hqt9_1, if_neg hqt17_1, if_neg hqt17_3, if_neg hqt22_1, if_neg hqt26_1, if_pos hqt45_1, if_pos hqt48_1] at h
                  rw [h]; exact ⟨rfl, hb⟩
                · have hqt48_1b := hqt48_1
                  replace hqt48_1 := Bool.eq_false_iff.1 hqt48_1
                  try simp only [ne_eq, decide_eq_true_eq, Bool.and_eq_true, Bool.or_eq_true, Bool.not_eq_true', decide_eq_false_iff_not] at hqt48_1
                  try (have hzhqt48_1 : 0 < s.size := ne_size (fun e => by simp [e] at hqt48_1))
                  refine wp_skip ?_
                  (try simp only [Exit.then, Exit.inBlock, ↓reduceIte, Nat.reduceEqDiff])
                  refine hK17 _ _ ?_
                  refine wp_region_lit ?_
                  refine sqv hf (r_move rfl) rfl rfl rfl ?_; clear hf fa; intro fa hf
                  refine sqv hf (r_move rfl) rfl rfl rfl ?_; clear hf fa; intro fa hf
                  refine sqv hf (r_lens rfl Try.underlying9) rfl rfl rfl ?_; clear hf fa; intro fa hf
                  refine sqv hf (r_sub (C := (((s.size : Nat) : Int) - (1 : Int))) rfl rfl (by rw [IntKind.wrap_i64]; omega)) rfl rfl rfl ?_; clear hf fa; intro fa hf
                  refine sqv hf (r_sslice (a := 0) (b := (s.size - 1)) (k1 := .i64) (k2 := .i64) (A := 0) (B := (((s.size : Nat) : Int) - (1 : Int))) rfl Try.underlying9 (.inl ⟨rfl, rfl⟩) (.inr ⟨_, rfl, rfl, (by omega)⟩) (by omega) (by omega)) rfl rfl rfl ?_; clear hf fa; intro fa hf
                  refine sqv hf (r_assign rfl) rfl rfl rfl ?_; clear hf fa; intro fa hf
                  apply wpList_nil
                  (try simp only [Exit.then, Exit.inBlock, ↓reduceIte, Nat.reduceEqDiff])
                  refine hK7 _ _ ?_
                  refine wp_region_lit ?_
                  refine sqv hf (r_move rfl) rfl rfl rfl ?_; clear hf fa; intro fa hf
                  refine sqv hf (r_add (C := (((n : Nat) : Int) + (1 : Int))) rfl rfl (by rw [IntKind.wrap_i64]; omega)) rfl rfl rfl ?_; clear hf fa; intro fa hf
                  refine sqv hf (r_assign rfl) rfl rfl rfl ?_; clear hf fa; intro fa hf
                  apply wpList_nil
                  (try simp only [Exit.then, Exit.inBlock, ↓reduceIte, Nat.reduceEqDiff])
                  refine hKL1 _ _ _ (by omega) ⟨(n + 1), (s.extract 0 (s.size - 1)), rfl, hf.sub ⟨rfl, (some_int (by first | rfl | omega)), rfl, trivial⟩, hb, by omega, (by have := sz_ext s 0 (s.size - 1) (by omega) (by omega); omega), (by have h := Hs; rw [opl_drop hy1, walkR] at h; simp only [if_pos hqt9_1, if_neg hqt17_1, if_neg hqt17_3, if_neg hqt22_1, if_neg hqt26_1, if_pos hqt45_1, if_neg hqt48_1] at h; exact h)⟩
              · have hqt45_1b := hqt45_1
                replace hqt45_1 := Bool.eq_false_iff.1 hqt45_1
                try simp only [ne_eq, decide_eq_true_eq, Bool.and_eq_true, Bool.or_eq_true, Bool.not_eq_true', decide_eq_false_iff_not] at hqt45_1
                refine wp_skip ?_
                (try simp only [Exit.then, Exit.inBlock, ↓reduceIte, Nat.reduceEqDiff])
                refine hK7 _ _ ?_
                refine wp_region_lit ?_
                refine sqv hf (r_move rfl) rfl rfl rfl ?_; clear hf fa; intro fa hf
                refine sqv hf (r_add (C := (((n : Nat) : Int) + (1 : Int))) rfl rfl (by rw [IntKind.wrap_i64]; omega)) rfl rfl rfl ?_; clear hf fa; intro fa hf
                refine sqv hf (r_assign rfl) rfl rfl rfl ?_; clear hf fa; intro fa hf
                apply wpList_nil
                (try simp only [Exit.then, Exit.inBlock, ↓reduceIte, Nat.reduceEqDiff])
                refine hKL1 _ _ _ (by omega) ⟨(n + 1), s, rfl, hf.sub ⟨rfl, (some_int (by first | rfl | omega)), rfl, trivial⟩, hb, by omega, (by omega), (by have h := Hs; rw [opl_drop hy1, walkR] at h; simp only [if_pos hqt9_1, if_neg hqt17_1, if_neg hqt17_3, if_neg hqt22_1, if_neg hqt26_1, if_neg hqt45_1] at h; exact h)⟩
    · have hqt9_1b := hqt9_1
      replace hqt9_1 := Bool.eq_false_iff.1 hqt9_1
      try simp only [ne_eq, decide_eq_true_eq, Bool.and_eq_true, Bool.or_eq_true, Bool.not_eq_true', decide_eq_false_iff_not] at hqt9_1
      refine wp_exit ?_
      (try simp only [Exit.then, Exit.inBlock, ↓reduceIte, Nat.reduceEqDiff])
      refine hK3 _ _ ?_
      refine wp_seq_k (fun K20 hK20 => ?_)
      refine wp_region_lit ?_
      refine sqv hf (r_assign rfl) rfl rfl rfl ?_; clear hf fa; intro fa hf
      refine sqv hf (r_assign rfl) rfl rfl rfl ?_; clear hf fa; intro fa hf
      apply wpList_nil
      (try simp only [Exit.then, Exit.inBlock, ↓reduceIte, Nat.reduceEqDiff])
      refine hK20 _ _ ?_
      refine wp_ret ?_
      (try simp only [Exit.then, Exit.inBlock])
      refine ret2 hf rfl rfl rfl ?_
      have h := Hs; rw [opl_end (by omega), walkR] at h
      rw [h]; exact ⟨rfl, hb⟩

set_option maxHeartbeats 1000000 in
set_option maxRecDepth 100000 in
theorem rshape_any (l : List Ins) (a : Option Addr) (c : Nat) (w : World) (hr : RdS 4 vIns w a l) (hlc : l.length ≤ c) (hlm : l.length ≤ 100000) : Calls Try.prog 23 #[(.slice a l.length c)] w fun e w' => e = .returned (.int .i64 (rshapeP (opl l))) ∧ Below w.heap.size w w' := by
  refine sx_enter (L := [(0, (.slice a l.length c))]) Try.func23 rfl rfl rfl rfl (fun fa hf => ?_)
  have hb : Below w.heap.size w w := Below.refl _ _
  refine wp_seq_k (fun K1 hK1 => ?_)
  refine wp_region_lit ?_
  refine sqv hf (r_assign rfl) rfl rfl rfl ?_; clear hf fa; intro fa hf
  apply wpList_nil
  (try simp only [Exit.then, Exit.inBlock, ↓reduceIte, Nat.reduceEqDiff])
  refine hK1 _ _ ?_
  refine wp_seq_k (fun K2 hK2 => ?_)
  refine wp_seq_k (fun K3 hK3 => ?_)
  refine wp_region_lit ?_
  refine sqv hf (r_move rfl) rfl rfl rfl ?_; clear hf fa; intro fa hf
  refine sqv hf (r_lensl rfl Try.underlying27) rfl rfl rfl ?_; clear hf fa; intro fa hf
  refine sqv hf (r_gt rfl rfl) rfl rfl rfl ?_; clear hf fa; intro fa hf
  apply wpList_nil
  (try simp only [Exit.then, Exit.inBlock, ↓reduceIte, Nat.reduceEqDiff])
  refine hK3 _ _ ?_
  refine wp_cond_split (t := (decide ((20000 : Int) < ((l.length : Nat) : Int)))) (hf.ev rfl) (fun hqt7_1 => ?_) (fun hqt7_1 => ?_)
  · have hqt7_1b := hqt7_1
    try simp only [decide_eq_true_eq, Bool.and_eq_true, Bool.or_eq_true, Bool.not_eq_true', decide_eq_false_iff_not, ne_eq, Bool.not_eq_true] at hqt7_1
    refine wp_seq_k (fun K4 hK4 => ?_)
    refine wp_region_lit ?_
    refine sqv hf (r_assign rfl) rfl rfl rfl ?_; clear hf fa; intro fa hf
    apply wpList_nil
    (try simp only [Exit.then, Exit.inBlock, ↓reduceIte, Nat.reduceEqDiff])
    refine hK4 _ _ ?_
    refine wp_ret ?_
    (try simp only [Exit.then, Exit.inBlock])
    refine ret1 hf rfl rfl ?_
    refine ⟨?_, hb⟩; unfold rshapeP; rw [opl_length]; simp only [if_pos hqt7_1]
  · have hqt7_1b := hqt7_1
    replace hqt7_1 := Bool.eq_false_iff.1 hqt7_1
    try simp only [ne_eq, decide_eq_true_eq, Bool.and_eq_true, Bool.or_eq_true, Bool.not_eq_true', decide_eq_false_iff_not] at hqt7_1
    refine wp_skip ?_
    (try simp only [Exit.then, Exit.inBlock, ↓reduceIte, Nat.reduceEqDiff])
    refine hK2 _ _ ?_
    refine wp_seq_k (fun K5 hK5 => ?_)
    refine wp_region_lit ?_
    refine sqv hf (r_move rfl) rfl rfl rfl ?_; clear hf fa; intro fa hf
    refine sqdt hf (d_callB (vs := [(.slice a l.length c)]) rfl Try.func65 (by kernel_rfl) (by kernel_rfl) (rwalk_any l a c _ (RdS.ext hr hb) hlc hlm)) rfl rfl rfl ?_; clear hf fa; rintro fa _ w1 ⟨rfl, he1⟩ hf
    replace hb := hb.trans (Below.mono he1 hb.size)
    refine sqv hf (r_move rfl) rfl rfl rfl ?_; clear hf fa; intro fa hf
    refine sqv hf (r_extract rfl (i := 0) rfl) rfl rfl rfl ?_; clear hf fa; intro fa hf
    refine sqv hf (r_extract rfl (i := 1) rfl) rfl rfl rfl ?_; clear hf fa; intro fa hf
    refine sqv hf (r_assign rfl) rfl rfl rfl ?_; clear hf fa; intro fa hf
    refine sqv hf (r_assign rfl) rfl rfl rfl ?_; clear hf fa; intro fa hf
    apply wpList_nil
    (try simp only [Exit.then, Exit.inBlock, ↓reduceIte, Nat.reduceEqDiff])
    refine hK5 _ _ ?_
    refine wp_seq_k (fun K6 hK6 => ?_)
    refine wp_seq_k (fun K7 hK7 => ?_)
    refine wp_region_lit ?_
    refine sqv hf (r_move rfl) rfl rfl rfl ?_; clear hf fa; intro fa hf
    refine sqv hf (r_eq rfl rfl) rfl rfl rfl ?_; clear hf fa; intro fa hf
    refine sqv hf (r_move rfl) rfl rfl rfl ?_; clear hf fa; intro fa hf
    refine sqgF (act := (!(decide (((walkR (opl l) ⟨#[]⟩ 0).1) = (0 : Int))))) (ag := true) (c := (decide (((walkR (opl l) ⟨#[]⟩ 0).1) = (0 : Int)))) (v := (.int .i64 ((walkR (opl l) ⟨#[]⟩ 0).1))) hf rfl rfl rfl (fun hact => (r_move rfl)) rfl rfl ?_; clear hf fa; intro fa hf
    refine sqgF (act := (!(decide (((walkR (opl l) ⟨#[]⟩ 0).1) = (0 : Int))))) (ag := true) (c := (decide (((walkR (opl l) ⟨#[]⟩ 0).1) = (0 : Int)))) (v := (.slice a l.length c)) hf rfl rfl rfl (fun hact => (r_move rfl)) rfl rfl ?_; clear hf fa; intro fa hf
    refine sqgF (act := (!(decide (((walkR (opl l) ⟨#[]⟩ 0).1) = (0 : Int))))) (ag := true) (c := (decide (((walkR (opl l) ⟨#[]⟩ 0).1) = (0 : Int)))) (v := (.int .i64 ((l.length : Nat) : Int))) hf rfl rfl rfl (fun hact => (r_lensl (gb_ev hact rfl) Try.underlying27)) rfl rfl ?_; clear hf fa; intro fa hf
    refine sqgF (act := (!(decide (((walkR (opl l) ⟨#[]⟩ 0).1) = (0 : Int))))) (ag := true) (c := (decide (((walkR (opl l) ⟨#[]⟩ 0).1) = (0 : Int)))) (v := (.bool (decide (((walkR (opl l) ⟨#[]⟩ 0).1) ≠ ((l.length : Nat) : Int))))) hf rfl rfl rfl (fun hact => (r_ne (gb_ev hact rfl) (gb_ev hact rfl))) rfl rfl ?_; clear hf fa; intro fa hf
    refine sqv hf (r_pickO (b := (decide (((walkR (opl l) ⟨#[]⟩ 0).1) = (0 : Int)))) (e := (decide (((walkR (opl l) ⟨#[]⟩ 0).1) ≠ ((l.length : Nat) : Int)))) rfl rfl rfl) rfl rfl rfl ?_; clear hf fa; intro fa hf
    apply wpList_nil
    (try simp only [Exit.then, Exit.inBlock, ↓reduceIte, Nat.reduceEqDiff])
    refine hK7 _ _ ?_
    refine wp_cond_split (t := ((decide (((walkR (opl l) ⟨#[]⟩ 0).1) = (0 : Int))) || (decide (((walkR (opl l) ⟨#[]⟩ 0).1) ≠ ((l.length : Nat) : Int))))) (hf.ev rfl) (fun hqt20_1 => ?_) (fun hqt20_1 => ?_)
    · have hqt20_1b := hqt20_1
      try simp only [decide_eq_true_eq, Bool.and_eq_true, Bool.or_eq_true, Bool.not_eq_true', decide_eq_false_iff_not, ne_eq, Bool.not_eq_true] at hqt20_1
      refine wp_seq_k (fun K8 hK8 => ?_)
      refine wp_region_lit ?_
      refine sqv hf (r_assign rfl) rfl rfl rfl ?_; clear hf fa; intro fa hf
      apply wpList_nil
      (try simp only [Exit.then, Exit.inBlock, ↓reduceIte, Nat.reduceEqDiff])
      refine hK8 _ _ ?_
      refine wp_ret ?_
      (try simp only [Exit.then, Exit.inBlock])
      refine ret1 hf rfl rfl ?_
      refine ⟨?_, hb⟩; unfold rshapeP; rw [opl_length]; simp only [if_neg hqt7_1, if_pos hqt20_1]
    · have hqt20_1b := hqt20_1
      replace hqt20_1 := Bool.eq_false_iff.1 hqt20_1
      try simp only [ne_eq, decide_eq_true_eq, Bool.and_eq_true, Bool.or_eq_true, Bool.not_eq_true', decide_eq_false_iff_not] at hqt20_1
      refine wp_skip ?_
      (try simp only [Exit.then, Exit.inBlock, ↓reduceIte, Nat.reduceEqDiff])
      refine hK6 _ _ ?_
      refine wp_seq_k (fun K9 hK9 => ?_)
      refine wp_region_lit ?_
      refine sqv hf (r_assign rfl) rfl rfl rfl ?_; clear hf fa; intro fa hf
      apply wpList_nil
      (try simp only [Exit.then, Exit.inBlock, ↓reduceIte, Nat.reduceEqDiff])
      refine hK9 _ _ ?_
      refine wp_ret ?_
      (try simp only [Exit.then, Exit.inBlock])
      refine ret1 hf rfl rfl ?_
      refine ⟨?_, hb⟩; unfold rshapeP; rw [opl_length]; simp only [if_neg hqt7_1, if_neg hqt20_1]

set_option maxHeartbeats 1000000 in
set_option maxRecDepth 100000 in
theorem ended_any (b : Bool) (w : World) : Calls Try.prog 90 #[(.bool b)] w fun e w' => e = .returned (.int .i64 (if b = true then 0 else 30)) ∧ w = w' := by
  refine sx_enter (L := [(0, (.bool b))]) Try.func90 rfl rfl rfl rfl (fun fa hf => ?_)
  have hb : Below w.heap.size w w := Below.refl _ _
  refine wp_seq_k (fun K1 hK1 => ?_)
  refine wp_region_lit ?_
  refine sqv hf (r_assign rfl) rfl rfl rfl ?_; clear hf fa; intro fa hf
  apply wpList_nil
  (try simp only [Exit.then, Exit.inBlock, ↓reduceIte, Nat.reduceEqDiff])
  refine hK1 _ _ ?_
  refine wp_seq_k (fun K2 hK2 => ?_)
  refine wp_seq_k (fun K3 hK3 => ?_)
  refine wp_region_lit ?_
  refine sqv hf (r_move rfl) rfl rfl rfl ?_; clear hf fa; intro fa hf
  apply wpList_nil
  (try simp only [Exit.then, Exit.inBlock, ↓reduceIte, Nat.reduceEqDiff])
  refine hK3 _ _ ?_
  refine wp_cond_split (t := b) (hf.ev rfl) (fun hqt3_1 => ?_) (fun hqt3_1 => ?_)
  · have hqt3_1b := hqt3_1
    try simp only [decide_eq_true_eq, Bool.and_eq_true, Bool.or_eq_true, Bool.not_eq_true', decide_eq_false_iff_not, ne_eq, Bool.not_eq_true] at hqt3_1
    refine wp_seq_k (fun K4 hK4 => ?_)
    refine wp_region_lit ?_
    refine sqv hf (r_assign rfl) rfl rfl rfl ?_; clear hf fa; intro fa hf
    apply wpList_nil
    (try simp only [Exit.then, Exit.inBlock, ↓reduceIte, Nat.reduceEqDiff])
    refine hK4 _ _ ?_
    refine wp_ret ?_
    (try simp only [Exit.then, Exit.inBlock])
    refine ret1 hf rfl rfl ?_
    refine ⟨?_, rfl⟩; simp only [if_pos hqt3_1]
  · have hqt3_1b := hqt3_1
    replace hqt3_1 := Bool.eq_false_iff.1 hqt3_1
    try simp only [ne_eq, decide_eq_true_eq, Bool.and_eq_true, Bool.or_eq_true, Bool.not_eq_true', decide_eq_false_iff_not] at hqt3_1
    refine wp_skip ?_
    (try simp only [Exit.then, Exit.inBlock, ↓reduceIte, Nat.reduceEqDiff])
    refine hK2 _ _ ?_
    refine wp_seq_k (fun K5 hK5 => ?_)
    refine wp_region_lit ?_
    refine sqv hf (r_assign rfl) rfl rfl rfl ?_; clear hf fa; intro fa hf
    apply wpList_nil
    (try simp only [Exit.then, Exit.inBlock, ↓reduceIte, Nat.reduceEqDiff])
    refine hK5 _ _ ?_
    refine wp_ret ?_
    (try simp only [Exit.then, Exit.inBlock])
    refine ret1 hf rfl rfl ?_
    refine ⟨?_, rfl⟩; simp only [if_neg hqt3_1]

set_option maxHeartbeats 1000000 in
set_option maxRecDepth 100000 in
theorem shape_any (l : List Ins) (a : Option Addr) (c : Nat) (w : World) (hr : RdS 4 vIns w a l) (hlc : l.length ≤ c) (hlm : l.length ≤ 100000) : Calls Try.prog 63 #[(.slice a l.length c)] w fun e w' => e = .returned (.int .i64 (shapeP (opl l))) ∧ Below w.heap.size w w' := by
  refine sx_enter (L := [(0, (.slice a l.length c))]) Try.func63 rfl rfl rfl rfl (fun fa hf => ?_)
  have hb : Below w.heap.size w w := Below.refl _ _
  refine wp_seq_k (fun K1 hK1 => ?_)
  refine wp_region_lit ?_
  refine sqv hf (r_assign rfl) rfl rfl rfl ?_; clear hf fa; intro fa hf
  apply wpList_nil
  (try simp only [Exit.then, Exit.inBlock, ↓reduceIte, Nat.reduceEqDiff])
  refine hK1 _ _ ?_
  refine wp_seq_k (fun K2 hK2 => ?_)
  refine wp_seq_k (fun K3 hK3 => ?_)
  refine wp_region_lit ?_
  refine sqv hf (r_move rfl) rfl rfl rfl ?_; clear hf fa; intro fa hf
  refine sqv hf (r_lensl rfl Try.underlying27) rfl rfl rfl ?_; clear hf fa; intro fa hf
  refine sqv hf (r_gt rfl rfl) rfl rfl rfl ?_; clear hf fa; intro fa hf
  apply wpList_nil
  (try simp only [Exit.then, Exit.inBlock, ↓reduceIte, Nat.reduceEqDiff])
  refine hK3 _ _ ?_
  refine wp_cond_split (t := (decide ((20000 : Int) < ((l.length : Nat) : Int)))) (hf.ev rfl) (fun hqt8_1 => ?_) (fun hqt8_1 => ?_)
  · have hqt8_1b := hqt8_1
    try simp only [decide_eq_true_eq, Bool.and_eq_true, Bool.or_eq_true, Bool.not_eq_true', decide_eq_false_iff_not, ne_eq, Bool.not_eq_true] at hqt8_1
    refine wp_seq_k (fun K4 hK4 => ?_)
    refine wp_region_lit ?_
    refine sqv hf (r_assign rfl) rfl rfl rfl ?_; clear hf fa; intro fa hf
    apply wpList_nil
    (try simp only [Exit.then, Exit.inBlock, ↓reduceIte, Nat.reduceEqDiff])
    refine hK4 _ _ ?_
    refine wp_ret ?_
    (try simp only [Exit.then, Exit.inBlock])
    refine ret1 hf rfl rfl ?_
    refine ⟨?_, hb⟩; unfold shapeP; rw [opl_length]
    rw [if_pos hqt8_1]
  · have hqt8_1b := hqt8_1
    replace hqt8_1 := Bool.eq_false_iff.1 hqt8_1
    try simp only [ne_eq, decide_eq_true_eq, Bool.and_eq_true, Bool.or_eq_true, Bool.not_eq_true', decide_eq_false_iff_not] at hqt8_1
    refine wp_skip ?_
    (try simp only [Exit.then, Exit.inBlock, ↓reduceIte, Nat.reduceEqDiff])
    refine hK2 _ _ ?_
    refine wp_seq_k (fun K5 hK5 => ?_)
    refine wp_region_lit ?_
    refine sqdt hf (d_bslice (z := (.int .u8 (0 : Int))) (sz := 1) (vs := [(0, (.int .u8 (0 : Int)))]) (cs := #[(.int .u8 (0 : Int))]) rfl Try.underlying86 (by kernel_rfl) rfl (by kernel_rfl)) rfl rfl rfl ?_; clear hf fa; rintro fa _ w1 ⟨b1, rfl, hle1, hk1, he1⟩ hf
    have hBb1 : w.heap.size ≤ b1 := Nat.le_trans hb.size hle1
    replace hb := hb.trans (Below.mono he1 hb.size)
    refine sqv hf (r_assign rfl) rfl rfl rfl ?_; clear hf fa; intro fa hf
    apply wpList_nil
    (try simp only [Exit.then, Exit.inBlock, ↓reduceIte, Nat.reduceEqDiff])
    refine hK5 _ _ ?_
    refine wp_seq_k (fun K6 hK6 => ?_)
    refine wp_seq_k (fun K7 hK7 => ?_)
    refine wp_region_lit ?_
    refine sqv hf (r_move rfl) rfl rfl rfl ?_; clear hf fa; intro fa hf
    refine sqv hf (r_lensl rfl Try.underlying27) rfl rfl rfl ?_; clear hf fa; intro fa hf
    refine sqv hf (r_move rfl) rfl rfl rfl ?_; clear hf fa; intro fa hf
    apply wpList_nil
    (try simp only [Exit.then, Exit.inBlock, ↓reduceIte, Nat.reduceEqDiff])
    refine hK7 _ _ ?_
    refine wp_block ?_
    refine wp_loop_k (fun m fa wr => ∃ (n : Nat) (xs : List Int) (rwa : Option Addr) (rwc : Nat), m = l.length - n ∧ Fr 61 fa [(0, (.slice a l.length c)), (10, (.slice a l.length c)), (11, (.int .i64 ((l.length : Nat) : Int))), (12, (.int .i64 ((n : Nat) : Int))), (3, (.slice rwa xs.length rwc))] ∧ Below w.heap.size w wr ∧ Row 1 (vInt .u8) 5 (w.heap.size) wr (.slice rwa (xs.length) rwc) xs ∧ n ≤ l.length ∧ 1 ≤ xs.length ∧ xs.length ≤ n + 1 ∧ shR l.length (opl l) [0] 0 = shR l.length ((opl l).drop n) xs n) ?_ ?_
    · skip
      exact ⟨_, 0, [0], (some ⟨b1, 0, none⟩), 1, rfl, hf.sub ⟨rfl, rfl, rfl, (some_int (by first | rfl | omega)), (some_sl (by simp <;> omega) rfl), trivial⟩, hb, (Row.of_new (l := [0]) hk1 (by omega) rfl rfl (Nat.le_of_ble_eq_true rfl)), by omega, by simp, by simp, rfl⟩
    · skip
      clear hf fa; intro m1 fa w2 hI KL1 hKL1
      clear hb
      clear hk1
      obtain ⟨n, xs, rwa, rwc, hm1, hf, hb, hrw, hn, hx, hx2, Hs⟩ := hI
      have hcrw := Row.caps hrw
      refine wp_seq_k (fun K8 hK8 => ?_)
      refine wp_region_lit ?_
      refine sqv hf (r_lt rfl rfl) rfl rfl rfl ?_; clear hf fa; intro fa hf
      apply wpList_nil
      (try simp only [Exit.then, Exit.inBlock, ↓reduceIte, Nat.reduceEqDiff])
      refine hK8 _ _ ?_
      refine wp_seq_k (fun K9 hK9 => ?_)
      refine wp_cond_split (t := (decide (((n : Nat) : Int) < ((l.length : Nat) : Int)))) (hf.ev rfl) (fun hqt13_1 => ?_) (fun hqt13_1 => ?_)
      · have hqt13_1b := hqt13_1
        try simp only [decide_eq_true_eq, Bool.and_eq_true, Bool.or_eq_true, Bool.not_eq_true', decide_eq_false_iff_not, ne_eq, Bool.not_eq_true] at hqt13_1
        refine wp_skip ?_
        (try simp only [Exit.then, Exit.inBlock, ↓reduceIte, Nat.reduceEqDiff])
        refine hK9 _ _ ?_
        refine wp_seq_k (fun K10 hK10 => ?_)
        refine wp_block ?_
        refine wp_seq_k (fun K11 hK11 => ?_)
        refine wp_region_lit ?_
        refine sqv hf (r_move rfl) rfl rfl rfl ?_; clear hf fa; intro fa hf
        obtain ⟨y1, hy1⟩ : ∃ x, (l)[n]? = some x := ⟨_, List.getElem?_eq_getElem (by omega)⟩
        obtain ⟨ab1, aoff1, rfl, hlb1, hel1⟩ := RdS.at hr hy1
        refine sqv hf (r_ixa (sz := 4) (j := n) rfl rfl Try.underlying27 (by kernel_rfl) rfl (by omega) rfl) rfl rfl rfl ?_; clear hf fa; intro fa hf
        refine sqv hf (r_loadA (cs := [(.int .u8 y1.1), (.int .u64 y1.2.1), (.int .u64 y1.2.2.1), (.slice y1.2.2.2.1.at' y1.2.2.2.1.len y1.2.2.2.1.cap)]) rfl Try.underlying39 rfl (by kernel_rfl) (cellsAt_below hel1 hb hlb1)) rfl rfl rfl ?_; clear hf fa; intro fa hf
        refine sqdt hf (d_alloc (z := (.agg #[(.int .u8 (0 : Int)), (.int .u64 (0 : Int)), (.int .u64 (0 : Int)), (.slice none 0 0)])) (cs := #[(.int .u8 (0 : Int)), (.int .u64 (0 : Int)), (.int .u64 (0 : Int)), (.slice none 0 0)]) (by kernel_rfl) rfl) rfl rfl rfl ?_; clear hf fa; rintro fa _ w3 ⟨b2, rfl, hle2, hk2, he2⟩ hf
        have hBb2 : w.heap.size ≤ b2 := Nat.le_trans hb.size hle2
        replace hrw := Row.ext hrw he2
        replace hb := hb.trans (Below.mono he2 hb.size)
        refine sqv hf (r_assign rfl) rfl rfl rfl ?_; clear hf fa; intro fa hf
        refine sqn hf (d_store (T := 39) (v := (.agg #[(.int .u8 y1.1), (.int .u64 y1.2.1), (.int .u64 y1.2.2.1), (.slice y1.2.2.2.1.at' y1.2.2.2.1.len y1.2.2.2.1.cap)])) (cs := #[(.int .u8 (0 : Int)), (.int .u64 (0 : Int)), (.int .u64 (0 : Int)), (.slice none 0 0)]) (cs' := #[(.int .u8 y1.1), (.int .u64 y1.2.1), (.int .u64 y1.2.2.1), (.slice y1.2.2.2.1.at' y1.2.2.2.1.len y1.2.2.2.1.cap)]) rfl rfl (by kernel_rfl) (by intro u hu; simp only [Value.cells, List.mem_cons, List.mem_toArray, List.not_mem_nil, or_false] at hu; rcases hu with rfl | rfl | rfl | rfl <;> rfl) hk2 (Nat.le_of_ble_eq_true rfl) rfl) rfl rfl ?_; clear hf fa; rintro fa _ w4 ⟨hk3, hg1⟩ hf
        replace hrw := Row.grown hrw hg1 (Row.ne_type hrw hk2 rfl)
        replace hb := hb.trans (grown_below hg1 hb.size hBb2)
        apply wpList_nil
        (try simp only [Exit.then, Exit.inBlock, ↓reduceIte, Nat.reduceEqDiff])
        refine hK11 _ _ ?_
        refine wp_block ?_
        refine wp_seq_k (fun K12 hK12 => ?_)
        refine wp_region_lit ?_
        refine sqv hf (r_fa rfl Try.underlying39 (f := 0) (q := 0) rfl (by kernel_rfl) rfl) rfl rfl rfl ?_; clear hf fa; intro fa hf
        refine sqv hf (r_load (v := (.int .u8 y1.1)) rfl Try.underlying5 rfl (cell_blk hk3 rfl)) rfl rfl rfl ?_; clear hf fa; intro fa hf
        refine sqdt hf (d_callS (vs := [(.int .u8 y1.1)]) rfl Try.func64 (by kernel_rfl) (by kernel_rfl) (opens_any y1.1 _)) rfl rfl rfl ?_; clear hf fa; rintro fa _ _ ⟨rfl, rfl⟩ hf
        refine sqv hf (r_assign rfl) rfl rfl rfl ?_; clear hf fa; intro fa hf
        apply wpList_nil
        (try simp only [Exit.then, Exit.inBlock, ↓reduceIte, Nat.reduceEqDiff])
        refine hK12 _ _ ?_
        refine wp_cond_split (t := (opensI y1.1)) (hf.ev rfl) (fun hqt17_1 => ?_) (fun hqt17_1 => ?_)
        · have hqt17_1b := hqt17_1
          try simp only [decide_eq_true_eq, Bool.and_eq_true, Bool.or_eq_true, Bool.not_eq_true', decide_eq_false_iff_not, ne_eq, Bool.not_eq_true] at hqt17_1
          refine wp_region_lit ?_
          refine sqv hf (r_move rfl) rfl rfl rfl ?_; clear hf fa; intro fa hf
          refine sqv hf (r_fa rfl Try.underlying39 (f := 0) (q := 0) rfl (by kernel_rfl) rfl) rfl rfl rfl ?_; clear hf fa; intro fa hf
          refine sqv hf (r_load (v := (.int .u8 y1.1)) rfl Try.underlying5 rfl (cell_blk hk3 rfl)) rfl rfl rfl ?_; clear hf fa; intro fa hf
          refine sqdt hf (d_bslice (z := (.int .u8 (0 : Int))) (sz := 1) (vs := [(0, (.int .u8 y1.1))]) (cs := #[(.int .u8 y1.1)]) rfl Try.underlying86 (by kernel_rfl) rfl (by kernel_rfl)) rfl rfl rfl ?_; clear hf fa; rintro fa _ w5 ⟨b3, rfl, hle3, hk4, he3⟩ hf
          have hBb3 : w.heap.size ≤ b3 := Nat.le_trans hb.size hle3
          have : b2 < b3 := Nat.lt_of_lt_of_le (blk_lt hk3) hle3
          replace hk3 := blk_ext hk3 he3
          replace hrw := Row.ext hrw he3
          replace hb := hb.trans (Below.mono he3 hb.size)
          have hs1 := Row.rd (by intros; rfl) (Row.of_new (k := 1) (V := (vInt .u8)) (l := [y1.1]) hk4 (Nat.le_refl _) rfl rfl (Nat.le_of_ble_eq_true rfl))
          refine sqdt hf (d_append (V := (vInt .u8)) (k := 1) (e := 5) (bytes := 1) (z := (.int .u8 (0 : Int))) (news := [y1.1]) (base := w.heap.size) (by intros; rfl) (by intro x u hu; simp only [vInt, List.mem_singleton] at hu; subst hu; rfl) rfl rfl Try.underlying86 (by kernel_rfl) rfl rfl rfl hrw hs1 rfl (fun h => by cases h) (by simp only [List.length_cons, List.length_nil, List.length_append]; omega) (by have := hb.size; omega)) rfl rfl rfl ?_; clear hf fa; rintro fa v w6 ⟨hr1, hg2⟩ hf; obtain ⟨ra1, rc1, rfl, hcrc1, hmrc1⟩ := Row.slice hr1
          replace hk3 := blk_row' hk3 hg2 (Row.ne_type hrw hk3 rfl)
          replace hb := hb.trans (row_below hrw hg2 hb.size (by have := hb.size; omega))
          refine sqv hf (r_assign rfl) rfl rfl rfl ?_; clear hf fa; intro fa hf
          apply wpList_nil
          (try simp only [Exit.then, Exit.inBlock, ↓reduceIte, Nat.reduceEqDiff])
          refine hK10 _ _ ?_
          refine wp_region_lit ?_
          refine sqv hf (r_add (C := (((n : Nat) : Int) + (1 : Int))) rfl rfl (by rw [IntKind.wrap_i64]; omega)) rfl rfl rfl ?_; clear hf fa; intro fa hf
          refine sqv hf (r_move rfl) rfl rfl rfl ?_; clear hf fa; intro fa hf
          apply wpList_nil
          (try simp only [Exit.then, Exit.inBlock, ↓reduceIte, Nat.reduceEqDiff])
          refine hKL1 _ _ _ (by omega) ⟨(n + 1), (xs ++ [y1.1]), ra1, rc1, rfl, hf.sub ⟨rfl, rfl, rfl, (some_int (by first | rfl | omega)), (some_sl (by simp <;> omega) rfl), trivial⟩, hb, (Row.relen hr1), by omega, (by first | omega | (simp only [List.length_append, List.length_cons, List.length_nil, List.length_set, List.length_take]; omega)), (by first | omega | (simp only [List.length_append, List.length_cons, List.length_nil, List.length_set, List.length_take]; omega)), (by have h := Hs; rw [opl_drop hy1, shR] at h; simp only [if_neg hqt8_1, if_pos hqt13_1, if_pos hqt17_1] at h; exact h)⟩
        · have hqt17_1b := hqt17_1
          replace hqt17_1 := Bool.eq_false_iff.1 hqt17_1
          try simp only [ne_eq, decide_eq_true_eq, Bool.and_eq_true, Bool.or_eq_true, Bool.not_eq_true', decide_eq_false_iff_not] at hqt17_1
          refine wp_seq_k (fun K13 hK13 => ?_)
          refine wp_region_lit ?_
          refine sqv hf (r_fa rfl Try.underlying39 (f := 0) (q := 0) rfl (by kernel_rfl) rfl) rfl rfl rfl ?_; clear hf fa; intro fa hf
          refine sqv hf (r_load (v := (.int .u8 y1.1)) rfl Try.underlying5 rfl (cell_blk hk3 rfl)) rfl rfl rfl ?_; clear hf fa; intro fa hf
          refine sqv hf (r_eq rfl rfl) rfl rfl rfl ?_; clear hf fa; intro fa hf
          refine sqv hf (r_assign rfl) rfl rfl rfl ?_; clear hf fa; intro fa hf
          apply wpList_nil
          (try simp only [Exit.then, Exit.inBlock, ↓reduceIte, Nat.reduceEqDiff])
          refine hK13 _ _ ?_
          refine wp_cond_split (t := (decide (y1.1 = (5 : Int)))) (hf.ev rfl) (fun hqt26_1 => ?_) (fun hqt26_1 => ?_)
          · have hqt26_1b := hqt26_1
            try simp only [decide_eq_true_eq, Bool.and_eq_true, Bool.or_eq_true, Bool.not_eq_true', decide_eq_false_iff_not, ne_eq, Bool.not_eq_true] at hqt26_1
            refine wp_seq_k (fun K14 hK14 => ?_)
            refine wp_seq_k (fun K15 hK15 => ?_)
            refine wp_region_lit ?_
            refine sqv hf (r_move rfl) rfl rfl rfl ?_; clear hf fa; intro fa hf
            refine sqv hf (r_move rfl) rfl rfl rfl ?_; clear hf fa; intro fa hf
            refine sqv hf (r_lensl rfl Try.underlying86) rfl rfl rfl ?_; clear hf fa; intro fa hf
            refine sqv hf (r_sub (C := (((xs.length : Nat) : Int) - (1 : Int))) rfl rfl (by rw [IntKind.wrap_i64]; omega)) rfl rfl rfl ?_; clear hf fa; intro fa hf
            obtain ⟨rb1, rfl, hbbrb1, hlbrb1⟩ := Row.some hrw (by omega)
            have hy2 := getD_at (l := xs) (j := (xs.length - 1)) (0 : Int) (by omega)
            have hel2 := RdS.at (Row.rd (by intros; rfl) hrw) hy2
            obtain ⟨_, _, hab, _, hel2⟩ := hel2
            cases hab
            refine sqv hf (r_ixa (sz := 1) (j := (xs.length - 1)) rfl rfl Try.underlying86 (by kernel_rfl) (by omega) (by omega) rfl) rfl rfl rfl ?_; clear hf fa; intro fa hf
            refine sqv hf (r_load (v := (.int .u8 ((xs.getD (xs.length - 1) (0 : Int))))) rfl Try.underlying5 rfl (cellsAt_cell hel2 (i := 0) rfl rfl)) rfl rfl rfl ?_; clear hf fa; intro fa hf
            refine sqv hf (r_ne rfl rfl) rfl rfl rfl ?_; clear hf fa; intro fa hf
            apply wpList_nil
            (try simp only [Exit.then, Exit.inBlock, ↓reduceIte, Nat.reduceEqDiff])
            refine hK15 _ _ ?_
            refine wp_cond_split (t := (decide (((xs.getD (xs.length - 1) (0 : Int))) ≠ (4 : Int)))) (hf.ev rfl) (fun hqt36_1 => ?_) (fun hqt36_1 => ?_)
            · have hqt36_1b := hqt36_1
              try simp only [decide_eq_true_eq, Bool.and_eq_true, Bool.or_eq_true, Bool.not_eq_true', decide_eq_false_iff_not, ne_eq, Bool.not_eq_true] at hqt36_1
              refine wp_seq_k (fun K16 hK16 => ?_)
              refine wp_region_lit ?_
              refine sqv hf (r_assign rfl) rfl rfl rfl ?_; clear hf fa; intro fa hf
              apply wpList_nil
              (try simp only [Exit.then, Exit.inBlock, ↓reduceIte, Nat.reduceEqDiff])
              refine hK16 _ _ ?_
              refine wp_ret ?_
              (try simp only [Exit.then, Exit.inBlock])
              refine ret1 hf rfl rfl ?_
              refine ⟨?_, hb⟩; unfold shapeP; rw [opl_length]
              rw [if_neg hqt8_1, Hs, opl_drop hy1, shR]; (try simp only [if_neg hqt8_1, if_pos hqt13_1, if_neg hqt17_1, if_pos hqt26_1, if_pos hqt36_1])
            · have hqt36_1b := hqt36_1
              replace hqt36_1 := Bool.eq_false_iff.1 hqt36_1
              try simp only [ne_eq, decide_eq_true_eq, Bool.and_eq_true, Bool.or_eq_true, Bool.not_eq_true', decide_eq_false_iff_not] at hqt36_1
              refine wp_skip ?_
              (try simp only [Exit.then, Exit.inBlock, ↓reduceIte, Nat.reduceEqDiff])
              refine hK14 _ _ ?_
              refine wp_region_lit ?_
              refine sqv hf (r_move rfl) rfl rfl rfl ?_; clear hf fa; intro fa hf
              refine sqv hf (r_move rfl) rfl rfl rfl ?_; clear hf fa; intro fa hf
              refine sqv hf (r_lensl rfl Try.underlying86) rfl rfl rfl ?_; clear hf fa; intro fa hf
              refine sqv hf (r_sub (C := (((xs.length : Nat) : Int) - (1 : Int))) rfl rfl (by rw [IntKind.wrap_i64]; omega)) rfl rfl rfl ?_; clear hf fa; intro fa hf
              have hy3 := getD_at (l := xs) (j := (xs.length - 1)) (0 : Int) (by omega)
              have hel3 := RdS.at (Row.rd (by intros; rfl) hrw) hy3
              obtain ⟨_, _, hab, _, hel3⟩ := hel3
              cases hab
              refine sqv hf (r_ixa (sz := 1) (j := (xs.length - 1)) rfl rfl Try.underlying86 (by kernel_rfl) (by omega) (by omega) rfl) rfl rfl rfl ?_; clear hf fa; intro fa hf
              refine sqn hf (d_rowset (u := (5 : Int)) (j := (xs.length - 1)) (by intros; rfl) (by intro x u hu; simp only [vInt, List.mem_singleton] at hu; subst hu; rfl) rfl rfl (by first | rfl | (simp; done) | (simp; omega)) (by kernel_rfl) hrw (by omega) (by omega)) rfl rfl ?_; clear hf fa; rintro fa _ w7 ⟨hr2, hg3⟩ hf
              replace hk3 := blk_grown hk3 hg3 (fun e => Row.ne_type hrw hk3 rfl (show some rb1 = some b2 by rw [e]))
              replace hb := hb.trans (grown_below hg3 hb.size (by first | omega | (have := Row.lt hrw _ rfl; omega)))
              apply wpList_nil
              (try simp only [Exit.then, Exit.inBlock, ↓reduceIte, Nat.reduceEqDiff])
              refine hK10 _ _ ?_
              refine wp_region_lit ?_
              refine sqv hf (r_add (C := (((n : Nat) : Int) + (1 : Int))) rfl rfl (by rw [IntKind.wrap_i64]; omega)) rfl rfl rfl ?_; clear hf fa; intro fa hf
              refine sqv hf (r_move rfl) rfl rfl rfl ?_; clear hf fa; intro fa hf
              apply wpList_nil
              (try simp only [Exit.then, Exit.inBlock, ↓reduceIte, Nat.reduceEqDiff])
              refine hKL1 _ _ _ (by omega) ⟨(n + 1), ((xs).set (xs.length - 1) (5 : Int)), (some ⟨rb1, 0, none⟩), rwc, rfl, hf.sub ⟨rfl, rfl, rfl, (some_int (by first | rfl | omega)), (some_sl (by simp <;> omega) rfl), trivial⟩, hb, (Row.relen hr2), by omega, (by first | omega | (simp only [List.length_append, List.length_cons, List.length_nil, List.length_set, List.length_take]; omega)), (by first | omega | (simp only [List.length_append, List.length_cons, List.length_nil, List.length_set, List.length_take]; omega)), (by have h := Hs; rw [opl_drop hy1, shR] at h; simp only [if_neg hqt8_1, if_pos hqt13_1, if_neg hqt17_1, if_pos hqt26_1, if_neg hqt36_1] at h; exact h)⟩
          · have hqt26_1b := hqt26_1
            replace hqt26_1 := Bool.eq_false_iff.1 hqt26_1
            try simp only [ne_eq, decide_eq_true_eq, Bool.and_eq_true, Bool.or_eq_true, Bool.not_eq_true', decide_eq_false_iff_not] at hqt26_1
            refine wp_seq_k (fun K17 hK17 => ?_)
            refine wp_region_lit ?_
            refine sqv hf (r_fa rfl Try.underlying39 (f := 0) (q := 0) rfl (by kernel_rfl) rfl) rfl rfl rfl ?_; clear hf fa; intro fa hf
            refine sqv hf (r_load (v := (.int .u8 y1.1)) rfl Try.underlying5 rfl (cell_blk hk3 rfl)) rfl rfl rfl ?_; clear hf fa; intro fa hf
            refine sqv hf (r_eq rfl rfl) rfl rfl rfl ?_; clear hf fa; intro fa hf
            refine sqv hf (r_assign rfl) rfl rfl rfl ?_; clear hf fa; intro fa hf
            apply wpList_nil
            (try simp only [Exit.then, Exit.inBlock, ↓reduceIte, Nat.reduceEqDiff])
            refine hK17 _ _ ?_
            refine wp_cond_split (t := (decide (y1.1 = (11 : Int)))) (hf.ev rfl) (fun hqt42_1 => ?_) (fun hqt42_1 => ?_)
            · have hqt42_1b := hqt42_1
              try simp only [decide_eq_true_eq, Bool.and_eq_true, Bool.or_eq_true, Bool.not_eq_true', decide_eq_false_iff_not, ne_eq, Bool.not_eq_true] at hqt42_1
              refine wp_seq_k (fun K18 hK18 => ?_)
              refine wp_region_lit ?_
              refine sqv hf (r_move rfl) rfl rfl rfl ?_; clear hf fa; intro fa hf
              refine sqv hf (r_move rfl) rfl rfl rfl ?_; clear hf fa; intro fa hf
              refine sqv hf (r_lensl rfl Try.underlying86) rfl rfl rfl ?_; clear hf fa; intro fa hf
              refine sqv hf (r_sub (C := (((xs.length : Nat) : Int) - (1 : Int))) rfl rfl (by rw [IntKind.wrap_i64]; omega)) rfl rfl rfl ?_; clear hf fa; intro fa hf
              refine sqv hf (r_slto (m := (xs.length - 1)) rfl rfl Try.underlying86 (by kernel_rfl) (by omega) (by omega)) rfl rfl rfl ?_; clear hf fa; intro fa hf
              have hr3 := Row.cut (m := (xs.length - 1)) (by intros; rfl) hrw (Row.caps hrw).1 (by omega) (by omega)
              refine sqv hf (r_assign rfl) rfl rfl rfl ?_; clear hf fa; intro fa hf
              apply wpList_nil
              (try simp only [Exit.then, Exit.inBlock, ↓reduceIte, Nat.reduceEqDiff])
              refine hK18 _ _ ?_
              refine wp_seq_k (fun K19 hK19 => ?_)
              refine wp_region_lit ?_
              refine sqv hf (r_move rfl) rfl rfl rfl ?_; clear hf fa; intro fa hf
              refine sqv hf (r_lensl rfl Try.underlying86) rfl rfl rfl ?_; clear hf fa; intro fa hf
              refine sqv hf (r_eq rfl rfl) rfl rfl rfl ?_; clear hf fa; intro fa hf
              apply wpList_nil
              (try simp only [Exit.then, Exit.inBlock, ↓reduceIte, Nat.reduceEqDiff])
              refine hK19 _ _ ?_
              refine wp_cond_split (t := (decide ((((xs.length - 1) : Nat) : Int) = (0 : Int)))) (hf.ev rfl) (fun hqt53_1 => ?_) (fun hqt53_1 => ?_)
              · have hqt53_1b := hqt53_1
                try simp only [decide_eq_true_eq, Bool.and_eq_true, Bool.or_eq_true, Bool.not_eq_true', decide_eq_false_iff_not, ne_eq, Bool.not_eq_true] at hqt53_1
                refine wp_seq_k (fun K20 hK20 => ?_)
                refine wp_region_lit ?_
                refine sqv hf (r_move rfl) rfl rfl rfl ?_; clear hf fa; intro fa hf
                refine sqv hf (r_move rfl) rfl rfl rfl ?_; clear hf fa; intro fa hf
                refine sqv hf (r_lensl rfl Try.underlying27) rfl rfl rfl ?_; clear hf fa; intro fa hf
                refine sqv hf (r_sub (C := (((l.length : Nat) : Int) - (1 : Int))) rfl rfl (by rw [IntKind.wrap_i64]; omega)) rfl rfl rfl ?_; clear hf fa; intro fa hf
                refine sqv hf (r_eq rfl rfl) rfl rfl rfl ?_; clear hf fa; intro fa hf
                refine sqdt hf (d_callS (vs := [(.bool (decide (((n : Nat) : Int) = (((l.length : Nat) : Int) - (1 : Int)))))]) rfl Try.func90 (by kernel_rfl) (by kernel_rfl) (ended_any (decide (((n : Nat) : Int) = (((l.length : Nat) : Int) - (1 : Int)))) _)) rfl rfl rfl ?_; clear hf fa; rintro fa _ _ ⟨rfl, rfl⟩ hf
                refine sqv hf (r_assign rfl) rfl rfl rfl ?_; clear hf fa; intro fa hf
                apply wpList_nil
                (try simp only [Exit.then, Exit.inBlock, ↓reduceIte, Nat.reduceEqDiff])
                refine hK20 _ _ ?_
                refine wp_ret ?_
                (try simp only [Exit.then, Exit.inBlock])
                refine ret1 hf rfl rfl ?_
                refine ⟨?_, hb⟩; unfold shapeP; rw [opl_length]
                rw [if_neg hqt8_1, Hs, opl_drop hy1, shR]; (try simp only [if_neg hqt8_1, if_pos hqt13_1, if_neg hqt17_1, if_neg hqt26_1, if_pos hqt42_1, if_pos hqt53_1])
              · have hqt53_1b := hqt53_1
                replace hqt53_1 := Bool.eq_false_iff.1 hqt53_1
                try simp only [ne_eq, decide_eq_true_eq, Bool.and_eq_true, Bool.or_eq_true, Bool.not_eq_true', decide_eq_false_iff_not] at hqt53_1
                refine wp_skip ?_
                (try simp only [Exit.then, Exit.inBlock, ↓reduceIte, Nat.reduceEqDiff])
                refine hK10 _ _ ?_
                refine wp_region_lit ?_
                refine sqv hf (r_add (C := (((n : Nat) : Int) + (1 : Int))) rfl rfl (by rw [IntKind.wrap_i64]; omega)) rfl rfl rfl ?_; clear hf fa; intro fa hf
                refine sqv hf (r_move rfl) rfl rfl rfl ?_; clear hf fa; intro fa hf
                apply wpList_nil
                (try simp only [Exit.then, Exit.inBlock, ↓reduceIte, Nat.reduceEqDiff])
                refine hKL1 _ _ _ (by omega) ⟨(n + 1), ((xs).take (xs.length - 1)), rwa, rwc, rfl, hf.sub ⟨rfl, rfl, rfl, (some_int (by first | rfl | omega)), (some_sl (by simp <;> omega) rfl), trivial⟩, hb, (Row.relen hr3), by omega, (by first | omega | (simp only [List.length_append, List.length_cons, List.length_nil, List.length_set, List.length_take]; omega)), (by first | omega | (simp only [List.length_append, List.length_cons, List.length_nil, List.length_set, List.length_take]; omega)), (by have h := Hs; rw [opl_drop hy1, shR] at h; simp only [if_neg hqt8_1, if_pos hqt13_1, if_neg hqt17_1, if_neg hqt26_1, if_pos hqt42_1, if_neg hqt53_1] at h; exact h)⟩
            · have hqt42_1b := hqt42_1
              replace hqt42_1 := Bool.eq_false_iff.1 hqt42_1
              try simp only [ne_eq, decide_eq_true_eq, Bool.and_eq_true, Bool.or_eq_true, Bool.not_eq_true', decide_eq_false_iff_not] at hqt42_1
              refine wp_skip ?_
              (try simp only [Exit.then, Exit.inBlock, ↓reduceIte, Nat.reduceEqDiff])
              refine hK10 _ _ ?_
              refine wp_region_lit ?_
              refine sqv hf (r_add (C := (((n : Nat) : Int) + (1 : Int))) rfl rfl (by rw [IntKind.wrap_i64]; omega)) rfl rfl rfl ?_; clear hf fa; intro fa hf
              refine sqv hf (r_move rfl) rfl rfl rfl ?_; clear hf fa; intro fa hf
              apply wpList_nil
              (try simp only [Exit.then, Exit.inBlock, ↓reduceIte, Nat.reduceEqDiff])
              refine hKL1 _ _ _ (by omega) ⟨(n + 1), xs, rwa, rwc, rfl, hf.sub ⟨rfl, rfl, rfl, (some_int (by first | rfl | omega)), rfl, trivial⟩, hb, (Row.relen hrw), by omega, (by first | omega | (simp only [List.length_append, List.length_cons, List.length_nil, List.length_set, List.length_take]; omega)), (by first | omega | (simp only [List.length_append, List.length_cons, List.length_nil, List.length_set, List.length_take]; omega)), (by have h := Hs; rw [opl_drop hy1, shR] at h; simp only [if_neg hqt8_1, if_pos hqt13_1, if_neg hqt17_1, if_neg hqt26_1, if_neg hqt42_1] at h; exact h)⟩
      · have hqt13_1b := hqt13_1
        replace hqt13_1 := Bool.eq_false_iff.1 hqt13_1
        try simp only [ne_eq, decide_eq_true_eq, Bool.and_eq_true, Bool.or_eq_true, Bool.not_eq_true', decide_eq_false_iff_not] at hqt13_1
        refine wp_exit ?_
        (try simp only [Exit.then, Exit.inBlock, ↓reduceIte, Nat.reduceEqDiff])
        refine hK6 _ _ ?_
        refine wp_seq_k (fun K21 hK21 => ?_)
        refine wp_region_lit ?_
        refine sqv hf (r_assign rfl) rfl rfl rfl ?_; clear hf fa; intro fa hf
        apply wpList_nil
        (try simp only [Exit.then, Exit.inBlock, ↓reduceIte, Nat.reduceEqDiff])
        refine hK21 _ _ ?_
        refine wp_ret ?_
        (try simp only [Exit.then, Exit.inBlock])
        refine ret1 hf rfl rfl ?_
        refine ⟨?_, hb⟩; unfold shapeP; rw [opl_length]
        rw [if_neg hqt8_1, Hs, opl_end (by omega), shR]; (try simp only [if_neg hqt8_1, if_neg hqt13_1])
end Go.Proofs.Ytahgkfekggkjnaa
