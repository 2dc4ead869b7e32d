/- What is proved here: what Depths, Deepest, Of, and the document's Depth,, and the document's of them, come to. What is proved here: plain laws of blocks: the walks of the program and of the document agree. What is proved here: plain laws of blocks: depths, ends, elses; how blocks lie. What is proved here: library functions: TrimLeft, Repeat (laid by the kit's shelf). What is proved here: instructions in memory; whether a body is much. What is proved here: a body in lines, by the program. What is proved here: a body read, by the program: text.ReadBody. What is proved here: bodies in lines: the plain laws. -/
import Derived.Test.YtpalmpfkliepfaaDoorTextBodiesMgAA
import Derived.Test.YtpalmpfkliepfaaDoorTextBodiesMgAB
import Derived.Test.YtpalmpfkliepfaaDoorTextBodiesMgAF
import Derived.Shelf.Strings.Trim
import Derived.Shelf.Strings.Repeat
namespace Go.Proofs.YtpalmpfkliepfaaDoor.Fl
open Go.RowKit
set_option linter.unusedVariables false
set_option linter.unusedSimpArgs false
set_option maxHeartbeats 1000000 in
set_option maxRecDepth 100000 in
theorem depth_any (l : List Ins) (a : Option Addr) (c : Nat) (at0 : Nat) (w : World) (hr : RdS 4 vIns w a l) (hlc : l.length ≤ c) (hlm : l.length ≤ 100000) (hat : at0 < l.length) : Calls Tryd.prog 16 #[(.slice a l.length c), (.int .i64 ((at0 : Nat) : Int))] w fun e w' => e = .returned (.int .i64 (depthP (opl l) at0)) ∧ Below w.heap.size w w' := by
  have hdl := dcR_le (opl l) at0
  refine sx_enter (L := [(0, (.slice a l.length c)), (1, (.int .i64 ((at0 : Nat) : Int)))]) Tryd.func16 rfl rfl rfl rfl (fun fa hf => ?_)
  have hb : Below w.heap.size w w := Below.refl _ _
  refine wp_seq_k (fun K1 hK1 => ?_)
  refine wp_region_lit ?_
  refine sqv hf (r_assign rfl) rfl rfl rfl ?_; clear hf fa; intro fa hf
  apply wpList_nil
  (try simp only [Exit.then, Exit.inBlock, ↓reduceIte, Nat.reduceEqDiff])
  refine hK1 _ _ ?_
  refine wp_seq_k (fun K2 hK2 => ?_)
  refine wp_region_lit ?_
  refine sqv hf (r_assign rfl) rfl rfl rfl ?_; clear hf fa; intro fa hf
  apply wpList_nil
  (try simp only [Exit.then, Exit.inBlock, ↓reduceIte, Nat.reduceEqDiff])
  refine hK2 _ _ ?_
  refine wp_seq_k (fun K3 hK3 => ?_)
  refine wp_seq_k (fun K4 hK4 => ?_)
  refine wp_region_lit ?_
  refine sqv hf (r_assign rfl) rfl rfl rfl ?_; clear hf fa; intro fa hf
  apply wpList_nil
  (try simp only [Exit.then, Exit.inBlock, ↓reduceIte, Nat.reduceEqDiff])
  refine hK4 _ _ ?_
  refine wp_block ?_
  refine wp_loop_k (fun mq fa wr => ∃ (n : Nat), mq = at0 - n ∧ Fr 44 fa [(0, (.slice a l.length c)), (1, (.int .i64 ((at0 : Nat) : Int))), (6, (.int .i64 ((n : Nat) : Int))), (5, (.int .i64 (dcR (opl l) at0 n)))] ∧ Below w.heap.size w wr ∧ (n ≤ at0) ∧ (True)) ?_ ?_
  · skip
    exact ⟨_, 0, rfl, hf.sub ⟨rfl, rfl, (some_int (by first | rfl | omega)), (some_int (by first | rfl | omega)), trivial⟩, hb, by omega, trivial⟩
  · skip
    clear hf fa; intro mq1 fa w1 hI KL1 hKL1
    clear hb
    obtain ⟨n, hmq1, hf, hb, hn, htr⟩ := hI
    refine wp_seq_k (fun K5 hK5 => ?_)
    refine wp_seq_k (fun K6 hK6 => ?_)
    refine wp_region_lit ?_
    refine sqv hf (r_move rfl) rfl rfl rfl ?_; clear hf fa; intro fa hf
    refine sqv hf (r_move rfl) rfl rfl rfl ?_; clear hf fa; intro fa hf
    refine sqv hf (r_lt rfl rfl) rfl rfl rfl ?_; clear hf fa; intro fa hf
    apply wpList_nil
    (try simp only [Exit.then, Exit.inBlock, ↓reduceIte, Nat.reduceEqDiff])
    refine hK6 _ _ ?_
    refine wp_cond_split (t := (decide (((n : Nat) : Int) < ((at0 : Nat) : Int)))) (hf.ev rfl) (fun hqt11_1 => ?_) (fun hqt11_1 => ?_)
    · have hqt11_1b := hqt11_1
      try simp only [decide_eq_true_eq, Bool.and_eq_true, Bool.or_eq_true, Bool.not_eq_true', decide_eq_false_iff_not, ne_eq, Bool.not_eq_true] at hqt11_1
      refine wp_skip ?_
      (try simp only [Exit.then, Exit.inBlock, ↓reduceIte, Nat.reduceEqDiff])
      refine hK5 _ _ ?_
      refine wp_seq_k (fun K7 hK7 => ?_)
      refine wp_block ?_
      refine wp_seq_k (fun K8 hK8 => ?_)
      refine wp_seq_k (fun K9 hK9 => ?_)
      have hdc := dcR_le (opl l) at0 n
      refine wp_region_lit ?_
      refine sqv hf (r_move rfl) rfl rfl rfl ?_; clear hf fa; intro fa hf
      refine sqv hf (r_move rfl) rfl rfl rfl ?_; clear hf fa; intro fa hf
      obtain ⟨y1, hy1⟩ : ∃ x, (l)[n]? = some x := ⟨_, List.getElem?_eq_getElem (by omega)⟩
      obtain ⟨ab1, aoff1, rfl, hlb1, hel1⟩ := RdS.at hr hy1
      refine sqv hf (r_ixa (sz := 4) (j := n) rfl rfl Tryd.underlying37 (by kernel_rfl) rfl (by omega) rfl) rfl rfl rfl ?_; clear hf fa; intro fa hf
      refine sqv hf (r_loadA (cs := [(.int .u8 y1.1), (.int .u64 y1.2.1), (.int .u64 y1.2.2.1), (.slice y1.2.2.2.1.at' y1.2.2.2.1.len y1.2.2.2.1.cap)]) rfl Tryd.underlying25 rfl (by kernel_rfl) (cellsAt_below hel1 hb hlb1)) rfl rfl rfl ?_; clear hf fa; intro fa hf
      refine sqdt hf (d_callB (vs := [(.agg #[(.int .u8 y1.1), (.int .u64 y1.2.1), (.int .u64 y1.2.2.1), (.slice y1.2.2.2.1.at' y1.2.2.2.1.len y1.2.2.2.1.cap)])]) rfl Tryd.func38 (by kernel_rfl) (by kernel_rfl) (ropens_any y1 _)) rfl rfl rfl ?_; clear hf fa; rintro fa _ w2 ⟨rfl, he1⟩ hf
      replace hb := hb.trans (Below.mono he1 hb.size)
      refine sqv hf (r_not rfl) rfl rfl rfl ?_; clear hf fa; intro fa hf
      apply wpList_nil
      (try simp only [Exit.then, Exit.inBlock, ↓reduceIte, Nat.reduceEqDiff])
      refine hK9 _ _ ?_
      refine wp_cond_split (t := (!(opensI y1.1))) (hf.ev rfl) (fun hqt19_1 => ?_) (fun hqt19_1 => ?_)
      · have hqt19_1b := hqt19_1
        try simp only [decide_eq_true_eq, Bool.and_eq_true, Bool.or_eq_true, Bool.not_eq_true', decide_eq_false_iff_not, ne_eq, Bool.not_eq_true] at hqt19_1
        refine wp_exit ?_
        (try simp only [Exit.then, Exit.inBlock, ↓reduceIte, Nat.reduceEqDiff])
        refine hK7 _ _ ?_
        refine wp_region_lit ?_
        refine sqv hf (r_move rfl) rfl rfl rfl ?_; clear hf fa; intro fa hf
        refine sqv hf (r_add (C := (((n : Nat) : Int) + (1 : Int))) rfl rfl (by rw [IntKind.wrap_i64]; omega)) rfl rfl rfl ?_; clear hf fa; intro fa hf
        refine sqv hf (r_assign rfl) rfl rfl rfl ?_; clear hf fa; intro fa hf
        apply wpList_nil
        (try simp only [Exit.then, Exit.inBlock, ↓reduceIte, Nat.reduceEqDiff])
        have hdc := dcR_le (opl l) at0 n
        have hs := dcR_eq (opl l) at0 n
        rw [opl_getD hy1] at hs
        rw [if_neg (by simpa using hqt19_1)] at hs
        refine hKL1 _ _ _ (by omega) ⟨(n + 1), rfl, hf.sub ⟨rfl, rfl, (some_int (by first | rfl | omega)), (some_int (by first | rfl | omega)), trivial⟩, hb, by omega, trivial⟩
      · have hqt19_1b := hqt19_1
        replace hqt19_1 := Bool.eq_false_iff.1 hqt19_1
        try simp only [ne_eq, decide_eq_true_eq, Bool.and_eq_true, Bool.or_eq_true, Bool.not_eq_true', decide_eq_false_iff_not] at hqt19_1
        refine wp_skip ?_
        (try simp only [Exit.then, Exit.inBlock, ↓reduceIte, Nat.reduceEqDiff])
        refine hK8 _ _ ?_
        refine wp_seq_k (fun K10 hK10 => ?_)
        refine wp_region_lit ?_
        refine sqv hf (r_move rfl) rfl rfl rfl ?_; clear hf fa; intro fa hf
        refine sqv hf (r_move rfl) rfl rfl rfl ?_; clear hf fa; intro fa hf
        refine sqdt hf (d_callB (vs := [(.slice (some ⟨ab1, aoff1, none⟩) l.length c), (.int .i64 ((n : Nat) : Int))]) rfl Tryd.func39 (by kernel_rfl) (by kernel_rfl) (seek_any l (some ⟨ab1, aoff1, none⟩) c n _ (RdS.ext hr hb) hlc hlm (by omega))) rfl rfl rfl ?_; clear hf fa; rintro fa _ w3 ⟨rfl, he2⟩ hf
        replace hb := hb.trans (Below.mono he2 hb.size)
        refine sqv hf (r_move rfl) rfl rfl rfl ?_; clear hf fa; intro fa hf
        refine sqv hf (r_extract rfl (i := 0) rfl) rfl rfl rfl ?_; clear hf fa; intro fa hf
        refine sqv hf (r_extract rfl (i := 1) rfl) rfl rfl rfl ?_; clear hf fa; intro fa hf
        refine sqv hf (r_assign rfl) rfl rfl rfl ?_; clear hf fa; intro fa hf
        refine sqv hf (r_assign rfl) rfl rfl rfl ?_; clear hf fa; intro fa hf
        apply wpList_nil
        (try simp only [Exit.then, Exit.inBlock, ↓reduceIte, Nat.reduceEqDiff])
        refine hK10 _ _ ?_
        refine wp_seq_k (fun K11 hK11 => ?_)
        refine wp_region_lit ?_
        refine sqv hf (r_move rfl) rfl rfl rfl ?_; clear hf fa; intro fa hf
        refine sqv hf (r_move rfl) rfl rfl rfl ?_; clear hf fa; intro fa hf
        refine sqv hf (r_lt rfl rfl) rfl rfl rfl ?_; clear hf fa; intro fa hf
        refine sqv hf (r_move rfl) rfl rfl rfl ?_; clear hf fa; intro fa hf
        refine sqgT (act := (decide (((at0 : Nat) : Int) < ((seekP (opl l) n).1)))) (ag := true) (c := (decide (((at0 : Nat) : Int) < ((seekP (opl l) n).1)))) (v := (.int .i64 ((at0 : Nat) : Int))) hf rfl rfl rfl (fun hact => (r_move rfl)) rfl rfl ?_; clear hf fa; intro fa hf
        refine sqgT (act := (decide (((at0 : Nat) : Int) < ((seekP (opl l) n).1)))) (ag := true) (c := (decide (((at0 : Nat) : Int) < ((seekP (opl l) n).1)))) (v := (.int .i64 ((seekP (opl l) n).2))) hf rfl rfl rfl (fun hact => (r_move rfl)) rfl rfl ?_; clear hf fa; intro fa hf
        refine sqgT (act := (decide (((at0 : Nat) : Int) < ((seekP (opl l) n).1)))) (ag := true) (c := (decide (((at0 : Nat) : Int) < ((seekP (opl l) n).1)))) (v := (.bool (decide (((at0 : Nat) : Int) ≠ ((seekP (opl l) n).2))))) hf rfl rfl rfl (fun hact => (r_ne (gb_ev hact rfl) (gb_ev hact rfl))) rfl rfl ?_; clear hf fa; intro fa hf
        refine sqv hf (r_pickA (b := (decide (((at0 : Nat) : Int) < ((seekP (opl l) n).1)))) (e := (decide (((at0 : Nat) : Int) ≠ ((seekP (opl l) n).2)))) rfl rfl rfl) rfl rfl rfl ?_; clear hf fa; intro fa hf
        apply wpList_nil
        (try simp only [Exit.then, Exit.inBlock, ↓reduceIte, Nat.reduceEqDiff])
        refine hK11 _ _ ?_
        refine wp_cond_split (t := ((decide (((at0 : Nat) : Int) < ((seekP (opl l) n).1))) && (decide (((at0 : Nat) : Int) ≠ ((seekP (opl l) n).2))))) (hf.ev rfl) (fun hqt33_1 => ?_) (fun hqt33_1 => ?_)
        · have hqt33_1b := hqt33_1
          try simp only [decide_eq_true_eq, Bool.and_eq_true, Bool.or_eq_true, Bool.not_eq_true', decide_eq_false_iff_not, ne_eq, Bool.not_eq_true] at hqt33_1
          refine wp_region_lit ?_
          refine sqv hf (r_move rfl) rfl rfl rfl ?_; clear hf fa; intro fa hf
          refine sqv hf (r_add (C := ((dcR (opl l) at0 n) + (1 : Int))) rfl rfl (by rw [IntKind.wrap_i64]; omega)) rfl rfl rfl ?_; clear hf fa; intro fa hf
          refine sqv hf (r_assign rfl) rfl rfl rfl ?_; clear hf fa; intro fa hf
          apply wpList_nil
          (try simp only [Exit.then, Exit.inBlock, ↓reduceIte, Nat.reduceEqDiff])
          refine hK7 _ _ ?_
          refine wp_region_lit ?_
          refine sqv hf (r_move rfl) rfl rfl rfl ?_; clear hf fa; intro fa hf
          refine sqv hf (r_add (C := (((n : Nat) : Int) + (1 : Int))) rfl rfl (by rw [IntKind.wrap_i64]; omega)) rfl rfl rfl ?_; clear hf fa; intro fa hf
          refine sqv hf (r_assign rfl) rfl rfl rfl ?_; clear hf fa; intro fa hf
          apply wpList_nil
          (try simp only [Exit.then, Exit.inBlock, ↓reduceIte, Nat.reduceEqDiff])
          have hdc := dcR_le (opl l) at0 n
          have hs := dcR_eq (opl l) at0 n
          rw [opl_getD hy1] at hs
          rw [if_pos (by simpa using hqt19_1), if_pos hqt33_1] at hs
          refine hKL1 _ _ _ (by omega) ⟨(n + 1), rfl, hf.sub ⟨rfl, rfl, (some_int (by first | rfl | omega)), (some_int (by first | rfl | omega)), trivial⟩, hb, by omega, trivial⟩
        · have hqt33_1b := hqt33_1
          replace hqt33_1 := Bool.eq_false_iff.1 hqt33_1
          try simp only [ne_eq, decide_eq_true_eq, Bool.and_eq_true, Bool.or_eq_true, Bool.not_eq_true', decide_eq_false_iff_not] at hqt33_1
          refine wp_skip ?_
          (try simp only [Exit.then, Exit.inBlock, ↓reduceIte, Nat.reduceEqDiff])
          refine hK7 _ _ ?_
          refine wp_region_lit ?_
          refine sqv hf (r_move rfl) rfl rfl rfl ?_; clear hf fa; intro fa hf
          refine sqv hf (r_add (C := (((n : Nat) : Int) + (1 : Int))) rfl rfl (by rw [IntKind.wrap_i64]; omega)) rfl rfl rfl ?_; clear hf fa; intro fa hf
          refine sqv hf (r_assign rfl) rfl rfl rfl ?_; clear hf fa; intro fa hf
          apply wpList_nil
          (try simp only [Exit.then, Exit.inBlock, ↓reduceIte, Nat.reduceEqDiff])
          have hdc := dcR_le (opl l) at0 n
          have hs := dcR_eq (opl l) at0 n
          rw [opl_getD hy1] at hs
          rw [if_pos (by simpa using hqt19_1), if_neg hqt33_1] at hs
          refine hKL1 _ _ _ (by omega) ⟨(n + 1), rfl, hf.sub ⟨rfl, rfl, (some_int (by first | rfl | omega)), (some_int (by first | rfl | omega)), trivial⟩, hb, by omega, trivial⟩
    · have hqt11_1b := hqt11_1
      replace hqt11_1 := Bool.eq_false_iff.1 hqt11_1
      try simp only [ne_eq, decide_eq_true_eq, Bool.and_eq_true, Bool.or_eq_true, Bool.not_eq_true', decide_eq_false_iff_not] at hqt11_1
      refine wp_exit ?_
      (try simp only [Exit.then, Exit.inBlock, ↓reduceIte, Nat.reduceEqDiff])
      refine hK3 _ _ ?_
      refine wp_seq_k (fun K12 hK12 => ?_)
      refine wp_seq_k (fun K13 hK13 => ?_)
      have hdc := dcR_le (opl l) at0 n
      refine wp_region_lit ?_
      refine sqv hf (r_move rfl) rfl rfl rfl ?_; clear hf fa; intro fa hf
      refine sqv hf (r_move rfl) rfl rfl rfl ?_; clear hf fa; intro fa hf
      refine sqv hf (r_lensl rfl Tryd.underlying37) rfl rfl rfl ?_; clear hf fa; intro fa hf
      refine sqv hf (r_sub (C := (((l.length : Nat) : Int) - (1 : Int))) rfl rfl (by rw [IntKind.wrap_i64]; omega)) rfl rfl rfl ?_; clear hf fa; intro fa hf
      refine sqv hf (r_eq rfl rfl) rfl rfl rfl ?_; clear hf fa; intro fa hf
      apply wpList_nil
      (try simp only [Exit.then, Exit.inBlock, ↓reduceIte, Nat.reduceEqDiff])
      refine hK13 _ _ ?_
      refine wp_cond_split (t := (decide (((at0 : Nat) : Int) = (((l.length : Nat) : Int) - (1 : Int))))) (hf.ev rfl) (fun hqt40_1 => ?_) (fun hqt40_1 => ?_)
      · have hqt40_1b := hqt40_1
        try simp only [decide_eq_true_eq, Bool.and_eq_true, Bool.or_eq_true, Bool.not_eq_true', decide_eq_false_iff_not, ne_eq, Bool.not_eq_true] at hqt40_1
        refine wp_region_lit ?_
        refine sqv hf (r_move rfl) rfl rfl rfl ?_; clear hf fa; intro fa hf
        refine sqv hf (r_sub (C := ((dcR (opl l) at0 n) - (1 : Int))) rfl rfl (by rw [IntKind.wrap_i64]; omega)) rfl rfl rfl ?_; clear hf fa; intro fa hf
        refine sqv hf (r_assign rfl) rfl rfl rfl ?_; clear hf fa; intro fa hf
        apply wpList_nil
        (try simp only [Exit.then, Exit.inBlock, ↓reduceIte, Nat.reduceEqDiff])
        refine hK12 _ _ ?_
        refine wp_seq_k (fun K14 hK14 => ?_)
        refine wp_region_lit ?_
        refine sqv hf (r_move rfl) rfl rfl rfl ?_; clear hf fa; intro fa hf
        refine sqv hf (r_assign rfl) rfl rfl rfl ?_; clear hf fa; intro fa hf
        apply wpList_nil
        (try simp only [Exit.then, Exit.inBlock, ↓reduceIte, Nat.reduceEqDiff])
        refine hK14 _ _ ?_
        refine wp_ret ?_
        (try simp only [Exit.then, Exit.inBlock])
        refine ret1 hf rfl rfl ?_
        refine ⟨?_, hb⟩; unfold depthP; rw [opl_length, if_pos hqt40_1, show n = at0 by omega]
      · have hqt40_1b := hqt40_1
        replace hqt40_1 := Bool.eq_false_iff.1 hqt40_1
        try simp only [ne_eq, decide_eq_true_eq, Bool.and_eq_true, Bool.or_eq_true, Bool.not_eq_true', decide_eq_false_iff_not] at hqt40_1
        refine wp_skip ?_
        (try simp only [Exit.then, Exit.inBlock, ↓reduceIte, Nat.reduceEqDiff])
        refine hK12 _ _ ?_
        refine wp_seq_k (fun K15 hK15 => ?_)
        refine wp_region_lit ?_
        refine sqv hf (r_move rfl) rfl rfl rfl ?_; clear hf fa; intro fa hf
        refine sqv hf (r_assign rfl) rfl rfl rfl ?_; clear hf fa; intro fa hf
        apply wpList_nil
        (try simp only [Exit.then, Exit.inBlock, ↓reduceIte, Nat.reduceEqDiff])
        refine hK15 _ _ ?_
        refine wp_ret ?_
        (try simp only [Exit.then, Exit.inBlock])
        refine ret1 hf rfl rfl ?_
        refine ⟨?_, hb⟩; unfold depthP; rw [opl_length, if_neg hqt40_1, show n = at0 by omega]

set_option maxHeartbeats 1000000 in
set_option maxRecDepth 100000 in
theorem depths_any (l : List Ins) (a : Option Addr) (c : Nat) (w : World) (hr : RdS 4 vIns w a l) (hlc : l.length ≤ c) (hlm : l.length ≤ 100000) : Calls Tryd.prog 36 #[(.slice a l.length c)] w fun e w' => ∃ v, e = .returned v ∧ Row 1 (vInt .i64) 3 w.heap.size w' v (depthsP (opl l)) ∧ Below w.heap.size w w' := by
  refine sx_enter (L := [(0, (.slice a l.length c))]) Tryd.func36 rfl rfl rfl rfl (fun fa hf => ?_)
  have hb : Below w.heap.size w w := Below.refl _ _
  refine wp_seq_k (fun K1 hK1 => ?_)
  refine wp_region_lit ?_
  refine sqv hf (r_assign rfl) rfl rfl rfl ?_; clear hf fa; intro fa hf
  apply wpList_nil
  (try simp only [Exit.then, Exit.inBlock, ↓reduceIte, Nat.reduceEqDiff])
  refine hK1 _ _ ?_
  refine wp_seq_k (fun K2 hK2 => ?_)
  refine wp_seq_k (fun K3 hK3 => ?_)
  refine wp_region_lit ?_
  refine sqv hf (r_move rfl) rfl rfl rfl ?_; clear hf fa; intro fa hf
  refine sqdt hf (d_callB (vs := [(.slice a l.length c)]) rfl Tryd.func35 (by kernel_rfl) (by kernel_rfl) (shape_any l a c _ (RdS.ext hr hb) hlc hlm)) rfl rfl rfl ?_; clear hf fa; rintro fa _ w1 ⟨rfl, he1⟩ hf
  replace hb := hb.trans (Below.mono he1 hb.size)
  refine sqv hf (r_ne rfl rfl) rfl rfl rfl ?_; clear hf fa; intro fa hf
  apply wpList_nil
  (try simp only [Exit.then, Exit.inBlock, ↓reduceIte, Nat.reduceEqDiff])
  refine hK3 _ _ ?_
  refine wp_cond_split (t := (decide ((shapeP (opl l)) ≠ (0 : Int)))) (hf.ev rfl) (fun hqt9_1 => ?_) (fun hqt9_1 => ?_)
  · have hqt9_1b := hqt9_1
    try simp only [decide_eq_true_eq, Bool.and_eq_true, Bool.or_eq_true, Bool.not_eq_true', decide_eq_false_iff_not, ne_eq, Bool.not_eq_true] at hqt9_1
    refine wp_seq_k (fun K4 hK4 => ?_)
    refine wp_region_lit ?_
    refine sqv hf (r_assign rfl) rfl rfl rfl ?_; clear hf fa; intro fa hf
    apply wpList_nil
    (try simp only [Exit.then, Exit.inBlock, ↓reduceIte, Nat.reduceEqDiff])
    refine hK4 _ _ ?_
    refine wp_ret ?_
    (try simp only [Exit.then, Exit.inBlock])
    refine ret1 hf rfl rfl ?_
    rw [depthsP, if_pos hqt9_1]; exact ⟨_, rfl, Row.nil, hb⟩
  · have hqt9_1b := hqt9_1
    replace hqt9_1 := Bool.eq_false_iff.1 hqt9_1
    try simp only [ne_eq, decide_eq_true_eq, Bool.and_eq_true, Bool.or_eq_true, Bool.not_eq_true', decide_eq_false_iff_not] at hqt9_1
    refine wp_skip ?_
    (try simp only [Exit.then, Exit.inBlock, ↓reduceIte, Nat.reduceEqDiff])
    refine hK2 _ _ ?_
    refine wp_seq_k (fun K5 hK5 => ?_)
    refine wp_region_lit ?_
    refine sqv hf (r_move rfl) rfl rfl rfl ?_; clear hf fa; intro fa hf
    refine sqv hf (r_lensl rfl Tryd.underlying37) rfl rfl rfl ?_; clear hf fa; intro fa hf
    refine sqdt hf (d_make (V := (vInt .i64)) (bytes := 8) (z := (.int .i64 (0 : Int))) (n := l.length) (zr := (0 : Int)) rfl rfl Tryd.underlying76 (by kernel_rfl) rfl (by intros; rfl) (by omega) (by unfold maxLen; omega)) rfl rfl rfl ?_; clear hf fa; rintro fa _ w2 ⟨mb1, rfl, hle1, hr1, he2⟩ hf
    have hBmb1 : w.heap.size ≤ mb1 := Nat.le_trans hb.size hle1
    replace hr1 := Row.rebase hr1 hb.size
    replace hb := hb.trans (Below.mono he2 hb.size)
    skip
    refine sqv hf (r_assign rfl) rfl rfl rfl ?_; clear hf fa; intro fa hf
    apply wpList_nil
    (try simp only [Exit.then, Exit.inBlock, ↓reduceIte, Nat.reduceEqDiff])
    refine hK5 _ _ ?_
    refine wp_seq_k (fun K6 hK6 => ?_)
    refine wp_region_lit ?_
    refine sqv hf (r_assign rfl) rfl rfl rfl ?_; clear hf fa; intro fa hf
    apply wpList_nil
    (try simp only [Exit.then, Exit.inBlock, ↓reduceIte, Nat.reduceEqDiff])
    refine hK6 _ _ ?_
    refine wp_seq_k (fun K7 hK7 => ?_)
    refine wp_seq_k (fun K8 hK8 => ?_)
    refine wp_region_lit ?_
    refine sqv hf (r_move rfl) rfl rfl rfl ?_; clear hf fa; intro fa hf
    refine sqv hf (r_lensl rfl Tryd.underlying37) rfl rfl rfl ?_; clear hf fa; intro fa hf
    refine sqv hf (r_move rfl) rfl rfl rfl ?_; clear hf fa; intro fa hf
    apply wpList_nil
    (try simp only [Exit.then, Exit.inBlock, ↓reduceIte, Nat.reduceEqDiff])
    refine hK8 _ _ ?_
    refine wp_block ?_
    refine wp_loop_k (fun mq fa wr => ∃ (n : Nat) (xs : List Int) (d : Int) (rwa : Option Addr) (rwc : Nat), mq = l.length - n ∧ Fr 46 fa [(0, (.slice a l.length c)), (13, (.slice a l.length c)), (14, (.int .i64 ((l.length : Nat) : Int))), (15, (.int .i64 ((n : Nat) : Int))), (4, (.int .i64 d)), (3, (.slice rwa xs.length rwc))] ∧ Below w.heap.size w wr ∧ Row 1 (vInt .i64) 3 (w.heap.size) wr (.slice rwa (xs.length) rwc) xs ∧ (n ≤ l.length) ∧ (xs.length = l.length) ∧ (xs.take n ++ dlR ((opl l).drop n) d = dlR (opl l) 0) ∧ (-(n : Int) ≤ d) ∧ (d ≤ n)) ?_ ?_
    · skip
      exact ⟨_, 0, (List.replicate l.length 0), 0, (some ⟨mb1, 0, none⟩), l.length, rfl, hf.sub ⟨rfl, rfl, rfl, (some_int (by first | rfl | omega)), (some_int (by first | rfl | omega)), (some_sl (by first | omega | rfl | (simp only [List.length_append, List.length_cons, List.length_nil]; omega) | (simp <;> omega)) rfl), trivial⟩, hb, (Row.relen hr1), by omega, by simp, rfl, by omega, by omega⟩
    · skip
      clear hf fa; intro mq1 fa w3 hI KL1 hKL1
      clear hb
      clear hr1
      obtain ⟨n, xs, d, rwa, rwc, hmq1, hf, hb, hrw, hn, hx, Hs, hd1, hd2⟩ := hI
      have hcrw := Row.caps hrw
      refine wp_seq_k (fun K9 hK9 => ?_)
      refine wp_region_lit ?_
      refine sqv hf (r_lt rfl rfl) rfl rfl rfl ?_; clear hf fa; intro fa hf
      apply wpList_nil
      (try simp only [Exit.then, Exit.inBlock, ↓reduceIte, Nat.reduceEqDiff])
      refine hK9 _ _ ?_
      refine wp_seq_k (fun K10 hK10 => ?_)
      refine wp_cond_split (t := (decide (((n : Nat) : Int) < ((l.length : Nat) : Int)))) (hf.ev rfl) (fun hqt16_1 => ?_) (fun hqt16_1 => ?_)
      · have hqt16_1b := hqt16_1
        try simp only [decide_eq_true_eq, Bool.and_eq_true, Bool.or_eq_true, Bool.not_eq_true', decide_eq_false_iff_not, ne_eq, Bool.not_eq_true] at hqt16_1
        refine wp_skip ?_
        (try simp only [Exit.then, Exit.inBlock, ↓reduceIte, Nat.reduceEqDiff])
        refine hK10 _ _ ?_
        refine wp_seq_k (fun K11 hK11 => ?_)
        refine wp_block ?_
        refine wp_seq_k (fun K12 hK12 => ?_)
        refine wp_region_lit ?_
        refine sqv hf (r_move rfl) rfl rfl rfl ?_; clear hf fa; intro fa hf
        obtain ⟨y1, hy1⟩ : ∃ x, (l)[n]? = some x := ⟨_, List.getElem?_eq_getElem (by omega)⟩
        obtain ⟨ab1, aoff1, rfl, hlb1, hel1⟩ := RdS.at hr hy1
        refine sqv hf (r_ixa (sz := 4) (j := n) rfl rfl Tryd.underlying37 (by kernel_rfl) rfl (by omega) rfl) rfl rfl rfl ?_; clear hf fa; intro fa hf
        refine sqv hf (r_loadA (cs := [(.int .u8 y1.1), (.int .u64 y1.2.1), (.int .u64 y1.2.2.1), (.slice y1.2.2.2.1.at' y1.2.2.2.1.len y1.2.2.2.1.cap)]) rfl Tryd.underlying25 rfl (by kernel_rfl) (cellsAt_below hel1 hb hlb1)) rfl rfl rfl ?_; clear hf fa; intro fa hf
        refine sqdt hf (d_alloc (z := (.agg #[(.int .u8 (0 : Int)), (.int .u64 (0 : Int)), (.int .u64 (0 : Int)), (.slice none 0 0)])) (cs := #[(.int .u8 (0 : Int)), (.int .u64 (0 : Int)), (.int .u64 (0 : Int)), (.slice none 0 0)]) (by kernel_rfl) rfl) rfl rfl rfl ?_; clear hf fa; rintro fa _ w4 ⟨b1, rfl, hle2, hk1, he3⟩ hf
        have hBb1 : w.heap.size ≤ b1 := Nat.le_trans hb.size hle2
        replace hrw := Row.ext hrw he3
        replace hb := hb.trans (Below.mono he3 hb.size)
        refine sqv hf (r_assign rfl) rfl rfl rfl ?_; clear hf fa; intro fa hf
        refine sqn hf (d_storeK (T := 25) (v := (.agg #[(.int .u8 y1.1), (.int .u64 y1.2.1), (.int .u64 y1.2.2.1), (.slice y1.2.2.2.1.at' y1.2.2.2.1.len y1.2.2.2.1.cap)])) (cs := #[(.int .u8 (0 : Int)), (.int .u64 (0 : Int)), (.int .u64 (0 : Int)), (.slice none 0 0)]) (cs' := #[(.int .u8 y1.1), (.int .u64 y1.2.1), (.int .u64 y1.2.2.1), (.slice y1.2.2.2.1.at' y1.2.2.2.1.len y1.2.2.2.1.cap)]) rfl rfl (by kernel_rfl) (by kernel_rfl) hk1 (by kernel_rfl) (by kernel_rfl)) rfl rfl ?_; clear hf fa; rintro fa _ w5 ⟨hk2, hg1⟩ hf
        replace hrw := Row.grown hrw hg1 (Row.ne_type hrw hk1 rfl)
        replace hb := hb.trans (grown_below hg1 hb.size hBb1)
        apply wpList_nil
        (try simp only [Exit.then, Exit.inBlock, ↓reduceIte, Nat.reduceEqDiff])
        refine hK12 _ _ ?_
        refine wp_seq_k (fun K13 hK13 => ?_)
        refine wp_seq_k (fun K14 hK14 => ?_)
        refine wp_region_lit ?_
        refine sqv hf (r_fa rfl Tryd.underlying25 (f := 0) (q := 0) rfl (by kernel_rfl) rfl) rfl rfl rfl ?_; clear hf fa; intro fa hf
        refine sqv hf (r_load (v := (.int .u8 y1.1)) rfl Tryd.underlying5 rfl (cell_blk hk2 rfl)) rfl rfl rfl ?_; clear hf fa; intro fa hf
        refine sqv hf (r_eq rfl rfl) rfl rfl rfl ?_; clear hf fa; intro fa hf
        refine sqv hf (r_move rfl) rfl rfl rfl ?_; clear hf fa; intro fa hf
        refine sqgF (act := (!(decide (y1.1 = (11 : Int))))) (ag := true) (c := (decide (y1.1 = (11 : Int)))) (v := (.pointer (some ⟨b1, 0, none⟩))) hf rfl rfl rfl (fun hact => (r_fa rfl Tryd.underlying25 (f := 0) (q := 0) rfl (by kernel_rfl) rfl)) rfl rfl ?_; clear hf fa; intro fa hf
        refine sqgF (act := (!(decide (y1.1 = (11 : Int))))) (ag := true) (c := (decide (y1.1 = (11 : Int)))) (v := (.int .u8 y1.1)) hf rfl rfl rfl (fun hact => (r_load (v := (.int .u8 y1.1)) (gb_ev hact rfl) Tryd.underlying5 rfl (cell_blk hk2 rfl))) rfl rfl ?_; clear hf fa; intro fa hf
        refine sqgF (act := (!(decide (y1.1 = (11 : Int))))) (ag := true) (c := (decide (y1.1 = (11 : Int)))) (v := (.bool (decide (y1.1 = (5 : Int))))) hf rfl rfl rfl (fun hact => (r_eq (gb_ev hact rfl) rfl)) rfl rfl ?_; clear hf fa; intro fa hf
        refine sqv hf (r_pickO (b := (decide (y1.1 = (11 : Int)))) (e := (decide (y1.1 = (5 : Int)))) rfl rfl rfl) rfl rfl rfl ?_; clear hf fa; intro fa hf
        apply wpList_nil
        (try simp only [Exit.then, Exit.inBlock, ↓reduceIte, Nat.reduceEqDiff])
        refine hK14 _ _ ?_
        refine wp_cond_split (t := ((decide (y1.1 = (11 : Int))) || (decide (y1.1 = (5 : Int))))) (hf.ev rfl) (fun hqt27_1 => ?_) (fun hqt27_1 => ?_)
        · have hqt27_1b := hqt27_1
          try simp only [decide_eq_true_eq, Bool.and_eq_true, Bool.or_eq_true, Bool.not_eq_true', decide_eq_false_iff_not, ne_eq, Bool.not_eq_true] at hqt27_1
          refine wp_region_lit ?_
          refine sqv hf (r_move rfl) rfl rfl rfl ?_; clear hf fa; intro fa hf
          refine sqv hf (r_sub (C := (d - (1 : Int))) rfl rfl (by rw [IntKind.wrap_i64]; omega)) rfl rfl rfl ?_; clear hf fa; intro fa hf
          refine sqv hf (r_assign rfl) rfl rfl rfl ?_; clear hf fa; intro fa hf
          apply wpList_nil
          (try simp only [Exit.then, Exit.inBlock, ↓reduceIte, Nat.reduceEqDiff])
          refine hK13 _ _ ?_
          refine wp_seq_k (fun K15 hK15 => ?_)
          refine wp_region_lit ?_
          refine sqv hf (r_move rfl) rfl rfl rfl ?_; clear hf fa; intro fa hf
          refine sqv hf (r_move rfl) rfl rfl rfl ?_; clear hf fa; intro fa hf
          refine sqv hf (r_move rfl) rfl rfl rfl ?_; clear hf fa; intro fa hf
          obtain ⟨rb1, rfl, hbbrb1, hlbrb1⟩ := Row.some hrw (by first | omega | (simp only [List.length_set, List.length_take, List.length_append, List.length_replicate, List.length_cons, List.length_nil]; omega))
          have hy2 := getD_at (l := xs) (j := n) (0 : Int) (by first | omega | (simp only [List.length_set, List.length_take, List.length_append, List.length_replicate, List.length_cons, List.length_nil]; omega))
          have hel2 := RdS.at (Row.rd (by intros; rfl) hrw) hy2
          obtain ⟨_, _, hab, hlr1, hel2⟩ := hel2
          cases hab
          refine sqv hf (r_ixa (sz := 1) (j := n) rfl rfl Tryd.underlying76 (by kernel_rfl) rfl (by omega) rfl) rfl rfl rfl ?_; clear hf fa; intro fa hf
          refine sqn hf (d_rowset (u := (d - (1 : Int))) (j := n) (by intros; rfl) (by intro x u hu; simp only [vInt, List.mem_singleton] at hu; subst hu; rfl) rfl rfl (by first | rfl | (simp; done) | (simp; omega)) (by kernel_rfl) hrw (by first | omega | (simp only [List.length_set, List.length_take, List.length_append, List.length_replicate, List.length_cons, List.length_nil]; omega)) (by omega)) rfl rfl ?_; clear hf fa; rintro fa _ w6 ⟨hr2, hg2⟩ hf
          replace hk2 := blk_grown hk2 hg2 (fun e => Row.ne_type hrw hk2 rfl (show some rb1 = some b1 by rw [e]))
          replace hb := hb.trans (grown_below hg2 hb.size (by first | omega | (have := Row.lt hrw _ rfl; omega) | exact (Row.lt hrw _ rfl).1))
          apply wpList_nil
          (try simp only [Exit.then, Exit.inBlock, ↓reduceIte, Nat.reduceEqDiff])
          refine hK15 _ _ ?_
          refine wp_seq_k (fun K16 hK16 => ?_)
          refine wp_region_lit ?_
          refine sqv hf (r_fa rfl Tryd.underlying25 (f := 0) (q := 0) rfl (by kernel_rfl) rfl) rfl rfl rfl ?_; clear hf fa; intro fa hf
          refine sqv hf (r_load (v := (.int .u8 y1.1)) rfl Tryd.underlying5 rfl (cell_blk hk2 rfl)) rfl rfl rfl ?_; clear hf fa; intro fa hf
          refine sqdt hf (d_callS (vs := [(.int .u8 y1.1)]) rfl Tryd.func60 (by kernel_rfl) (by kernel_rfl) (opens_any y1.1 _)) rfl rfl rfl ?_; clear hf fa; rintro fa _ _ ⟨rfl, rfl⟩ hf
          refine sqv hf (r_move rfl) rfl rfl rfl ?_; clear hf fa; intro fa hf
          refine sqgF (act := (!(opensI y1.1))) (ag := true) (c := (opensI y1.1)) (v := (.pointer (some ⟨b1, 0, none⟩))) hf rfl rfl rfl (fun hact => (r_fa rfl Tryd.underlying25 (f := 0) (q := 0) rfl (by kernel_rfl) rfl)) rfl rfl ?_; clear hf fa; intro fa hf
          refine sqgF (act := (!(opensI y1.1))) (ag := true) (c := (opensI y1.1)) (v := (.int .u8 y1.1)) hf rfl rfl rfl (fun hact => (r_load (v := (.int .u8 y1.1)) (gb_ev hact rfl) Tryd.underlying5 rfl (cell_blk hk2 rfl))) rfl rfl ?_; clear hf fa; intro fa hf
          refine sqgF (act := (!(opensI y1.1))) (ag := true) (c := (opensI y1.1)) (v := (.bool (decide (y1.1 = (5 : Int))))) hf rfl rfl rfl (fun hact => (r_eq (gb_ev hact rfl) rfl)) rfl rfl ?_; clear hf fa; intro fa hf
          refine sqv hf (r_pickO (b := (opensI y1.1)) (e := (decide (y1.1 = (5 : Int)))) rfl rfl rfl) rfl rfl rfl ?_; clear hf fa; intro fa hf
          apply wpList_nil
          (try simp only [Exit.then, Exit.inBlock, ↓reduceIte, Nat.reduceEqDiff])
          refine hK16 _ _ ?_
          refine wp_cond_split (t := ((opensI y1.1) || (decide (y1.1 = (5 : Int))))) (hf.ev rfl) (fun hqt41_1 => ?_) (fun hqt41_1 => ?_)
          · have hqt41_1b := hqt41_1
            try simp only [decide_eq_true_eq, Bool.and_eq_true, Bool.or_eq_true, Bool.not_eq_true', decide_eq_false_iff_not, ne_eq, Bool.not_eq_true] at hqt41_1
            refine wp_region_lit ?_
            refine sqv hf (r_move rfl) rfl rfl rfl ?_; clear hf fa; intro fa hf
            refine sqv hf (r_add (C := ((d - (1 : Int)) + (1 : Int))) rfl rfl (by rw [IntKind.wrap_i64]; omega)) rfl rfl rfl ?_; clear hf fa; intro fa hf
            refine sqv hf (r_assign rfl) rfl rfl rfl ?_; clear hf fa; intro fa hf
            apply wpList_nil
            (try simp only [Exit.then, Exit.inBlock, ↓reduceIte, Nat.reduceEqDiff])
            refine hK11 _ _ ?_
            refine wp_region_lit ?_
            refine sqv hf (r_add (C := (((n : Nat) : Int) + (1 : Int))) rfl rfl (by rw [IntKind.wrap_i64]; omega)) rfl rfl rfl ?_; clear hf fa; intro fa hf
            refine sqv hf (r_move rfl) rfl rfl rfl ?_; clear hf fa; intro fa hf
            apply wpList_nil
            (try simp only [Exit.then, Exit.inBlock, ↓reduceIte, Nat.reduceEqDiff])
            refine hKL1 _ _ _ (by omega) ⟨(n + 1), ((xs).set n (d - (1 : Int))), ((d - (1 : Int)) + (1 : Int)), (some ⟨rb1, 0, none⟩), rwc, rfl, hf.sub ⟨rfl, rfl, rfl, (some_int (by first | rfl | omega)), rfl, (some_sl (by first | omega | rfl | (simp only [List.length_append, List.length_cons, List.length_nil]; omega) | (simp <;> omega)) rfl), trivial⟩, hb, (Row.relen hr2), by omega, (by rw [List.length_set]; exact hx), (by have h := Hs; rw [opl_drop hy1, dlR] at h; simp only [if_pos hqt27_1, if_pos hqt41_1] at h; rw [List.take_set_snoc (by omega)]; simpa using h), by omega, by omega⟩
          · have hqt41_1b := hqt41_1
            replace hqt41_1 := Bool.eq_false_iff.1 hqt41_1
            try simp only [ne_eq, decide_eq_true_eq, Bool.and_eq_true, Bool.or_eq_true, Bool.not_eq_true', decide_eq_false_iff_not] at hqt41_1
            refine wp_skip ?_
            (try simp only [Exit.then, Exit.inBlock, ↓reduceIte, Nat.reduceEqDiff])
            refine hK11 _ _ ?_
            refine wp_region_lit ?_
            refine sqv hf (r_add (C := (((n : Nat) : Int) + (1 : Int))) rfl rfl (by rw [IntKind.wrap_i64]; omega)) rfl rfl rfl ?_; clear hf fa; intro fa hf
            refine sqv hf (r_move rfl) rfl rfl rfl ?_; clear hf fa; intro fa hf
            apply wpList_nil
            (try simp only [Exit.then, Exit.inBlock, ↓reduceIte, Nat.reduceEqDiff])
            refine hKL1 _ _ _ (by omega) ⟨(n + 1), ((xs).set n (d - (1 : Int))), (d - (1 : Int)), (some ⟨rb1, 0, none⟩), rwc, rfl, hf.sub ⟨rfl, rfl, rfl, (some_int (by first | rfl | omega)), rfl, (some_sl (by first | omega | rfl | (simp only [List.length_append, List.length_cons, List.length_nil]; omega) | (simp <;> omega)) rfl), trivial⟩, hb, (Row.relen hr2), by omega, (by rw [List.length_set]; exact hx), (by have h := Hs; rw [opl_drop hy1, dlR] at h; simp only [if_pos hqt27_1, if_neg hqt41_1] at h; rw [List.take_set_snoc (by omega)]; simpa using h), by omega, by omega⟩
        · have hqt27_1b := hqt27_1
          replace hqt27_1 := Bool.eq_false_iff.1 hqt27_1
          try simp only [ne_eq, decide_eq_true_eq, Bool.and_eq_true, Bool.or_eq_true, Bool.not_eq_true', decide_eq_false_iff_not] at hqt27_1
          refine wp_skip ?_
          (try simp only [Exit.then, Exit.inBlock, ↓reduceIte, Nat.reduceEqDiff])
          refine hK13 _ _ ?_
          refine wp_seq_k (fun K17 hK17 => ?_)
          refine wp_region_lit ?_
          refine sqv hf (r_move rfl) rfl rfl rfl ?_; clear hf fa; intro fa hf
          refine sqv hf (r_move rfl) rfl rfl rfl ?_; clear hf fa; intro fa hf
          refine sqv hf (r_move rfl) rfl rfl rfl ?_; clear hf fa; intro fa hf
          obtain ⟨rb2, rfl, hbbrb2, hlbrb2⟩ := Row.some hrw (by first | omega | (simp only [List.length_set, List.length_take, List.length_append, List.length_replicate, List.length_cons, List.length_nil]; omega))
          have hy3 := getD_at (l := xs) (j := n) (0 : Int) (by first | omega | (simp only [List.length_set, List.length_take, List.length_append, List.length_replicate, List.length_cons, List.length_nil]; omega))
          have hel3 := RdS.at (Row.rd (by intros; rfl) hrw) hy3
          obtain ⟨_, _, hab, hlr2, hel3⟩ := hel3
          cases hab
          refine sqv hf (r_ixa (sz := 1) (j := n) rfl rfl Tryd.underlying76 (by kernel_rfl) rfl (by omega) rfl) rfl rfl rfl ?_; clear hf fa; intro fa hf
          refine sqn hf (d_rowset (u := d) (j := n) (by intros; rfl) (by intro x u hu; simp only [vInt, List.mem_singleton] at hu; subst hu; rfl) rfl rfl (by first | rfl | (simp; done) | (simp; omega)) (by kernel_rfl) hrw (by first | omega | (simp only [List.length_set, List.length_take, List.length_append, List.length_replicate, List.length_cons, List.length_nil]; omega)) (by omega)) rfl rfl ?_; clear hf fa; rintro fa _ w7 ⟨hr3, hg3⟩ hf
          replace hk2 := blk_grown hk2 hg3 (fun e => Row.ne_type hrw hk2 rfl (show some rb2 = some b1 by rw [e]))
          replace hb := hb.trans (grown_below hg3 hb.size (by first | omega | (have := Row.lt hrw _ rfl; omega) | exact (Row.lt hrw _ rfl).1))
          apply wpList_nil
          (try simp only [Exit.then, Exit.inBlock, ↓reduceIte, Nat.reduceEqDiff])
          refine hK17 _ _ ?_
          refine wp_seq_k (fun K18 hK18 => ?_)
          refine wp_region_lit ?_
          refine sqv hf (r_fa rfl Tryd.underlying25 (f := 0) (q := 0) rfl (by kernel_rfl) rfl) rfl rfl rfl ?_; clear hf fa; intro fa hf
          refine sqv hf (r_load (v := (.int .u8 y1.1)) rfl Tryd.underlying5 rfl (cell_blk hk2 rfl)) rfl rfl rfl ?_; clear hf fa; intro fa hf
          refine sqdt hf (d_callS (vs := [(.int .u8 y1.1)]) rfl Tryd.func60 (by kernel_rfl) (by kernel_rfl) (opens_any y1.1 _)) rfl rfl rfl ?_; clear hf fa; rintro fa _ _ ⟨rfl, rfl⟩ hf
          refine sqv hf (r_move rfl) rfl rfl rfl ?_; clear hf fa; intro fa hf
          refine sqgF (act := (!(opensI y1.1))) (ag := true) (c := (opensI y1.1)) (v := (.pointer (some ⟨b1, 0, none⟩))) hf rfl rfl rfl (fun hact => (r_fa rfl Tryd.underlying25 (f := 0) (q := 0) rfl (by kernel_rfl) rfl)) rfl rfl ?_; clear hf fa; intro fa hf
          refine sqgF (act := (!(opensI y1.1))) (ag := true) (c := (opensI y1.1)) (v := (.int .u8 y1.1)) hf rfl rfl rfl (fun hact => (r_load (v := (.int .u8 y1.1)) (gb_ev hact rfl) Tryd.underlying5 rfl (cell_blk hk2 rfl))) rfl rfl ?_; clear hf fa; intro fa hf
          refine sqgF (act := (!(opensI y1.1))) (ag := true) (c := (opensI y1.1)) (v := (.bool (decide (y1.1 = (5 : Int))))) hf rfl rfl rfl (fun hact => (r_eq (gb_ev hact rfl) rfl)) rfl rfl ?_; clear hf fa; intro fa hf
          refine sqv hf (r_pickO (b := (opensI y1.1)) (e := (decide (y1.1 = (5 : Int)))) rfl rfl rfl) rfl rfl rfl ?_; clear hf fa; intro fa hf
          apply wpList_nil
          (try simp only [Exit.then, Exit.inBlock, ↓reduceIte, Nat.reduceEqDiff])
          refine hK18 _ _ ?_
          refine wp_cond_split (t := ((opensI y1.1) || (decide (y1.1 = (5 : Int))))) (hf.ev rfl) (fun hqt41_2 => ?_) (fun hqt41_2 => ?_)
          · have hqt41_2b := hqt41_2
            try simp only [decide_eq_true_eq, Bool.and_eq_true, Bool.or_eq_true, Bool.not_eq_true', decide_eq_false_iff_not, ne_eq, Bool.not_eq_true] at hqt41_2
            refine wp_region_lit ?_
            refine sqv hf (r_move rfl) rfl rfl rfl ?_; clear hf fa; intro fa hf
            refine sqv hf (r_add (C := (d + (1 : Int))) rfl rfl (by rw [IntKind.wrap_i64]; omega)) rfl rfl rfl ?_; clear hf fa; intro fa hf
            refine sqv hf (r_assign rfl) rfl rfl rfl ?_; clear hf fa; intro fa hf
            apply wpList_nil
            (try simp only [Exit.then, Exit.inBlock, ↓reduceIte, Nat.reduceEqDiff])
            refine hK11 _ _ ?_
            refine wp_region_lit ?_
            refine sqv hf (r_add (C := (((n : Nat) : Int) + (1 : Int))) rfl rfl (by rw [IntKind.wrap_i64]; omega)) rfl rfl rfl ?_; clear hf fa; intro fa hf
            refine sqv hf (r_move rfl) rfl rfl rfl ?_; clear hf fa; intro fa hf
            apply wpList_nil
            (try simp only [Exit.then, Exit.inBlock, ↓reduceIte, Nat.reduceEqDiff])
            refine hKL1 _ _ _ (by omega) ⟨(n + 1), ((xs).set n d), (d + (1 : Int)), (some ⟨rb2, 0, none⟩), rwc, rfl, hf.sub ⟨rfl, rfl, rfl, (some_int (by first | rfl | omega)), rfl, (some_sl (by first | omega | rfl | (simp only [List.length_append, List.length_cons, List.length_nil]; omega) | (simp <;> omega)) rfl), trivial⟩, hb, (Row.relen hr3), by omega, (by rw [List.length_set]; exact hx), (by have h := Hs; rw [opl_drop hy1, dlR] at h; simp only [if_neg hqt27_1, if_pos hqt41_2] at h; rw [List.take_set_snoc (by omega)]; simpa using h), by omega, by omega⟩
          · have hqt41_2b := hqt41_2
            replace hqt41_2 := Bool.eq_false_iff.1 hqt41_2
            try simp only [ne_eq, decide_eq_true_eq, Bool.and_eq_true, Bool.or_eq_true, Bool.not_eq_true', decide_eq_false_iff_not] at hqt41_2
            refine wp_skip ?_
            (try simp only [Exit.then, Exit.inBlock, ↓reduceIte, Nat.reduceEqDiff])
            refine hK11 _ _ ?_
            refine wp_region_lit ?_
            refine sqv hf (r_add (C := (((n : Nat) : Int) + (1 : Int))) rfl rfl (by rw [IntKind.wrap_i64]; omega)) rfl rfl rfl ?_; clear hf fa; intro fa hf
            refine sqv hf (r_move rfl) rfl rfl rfl ?_; clear hf fa; intro fa hf
            apply wpList_nil
            (try simp only [Exit.then, Exit.inBlock, ↓reduceIte, Nat.reduceEqDiff])
            refine hKL1 _ _ _ (by omega) ⟨(n + 1), ((xs).set n d), d, (some ⟨rb2, 0, none⟩), rwc, rfl, hf.sub ⟨rfl, rfl, rfl, (some_int (by first | rfl | omega)), rfl, (some_sl (by first | omega | rfl | (simp only [List.length_append, List.length_cons, List.length_nil]; omega) | (simp <;> omega)) rfl), trivial⟩, hb, (Row.relen hr3), by omega, (by rw [List.length_set]; exact hx), (by have h := Hs; rw [opl_drop hy1, dlR] at h; simp only [if_neg hqt27_1, if_neg hqt41_2] at h; rw [List.take_set_snoc (by omega)]; simpa using h), by omega, by omega⟩
      · have hqt16_1b := hqt16_1
        replace hqt16_1 := Bool.eq_false_iff.1 hqt16_1
        try simp only [ne_eq, decide_eq_true_eq, Bool.and_eq_true, Bool.or_eq_true, Bool.not_eq_true', decide_eq_false_iff_not] at hqt16_1
        refine wp_exit ?_
        (try simp only [Exit.then, Exit.inBlock, ↓reduceIte, Nat.reduceEqDiff])
        refine hK7 _ _ ?_
        refine wp_seq_k (fun K19 hK19 => ?_)
        refine wp_region_lit ?_
        refine sqv hf (r_move rfl) rfl rfl rfl ?_; clear hf fa; intro fa hf
        refine sqv hf (r_assign rfl) rfl rfl rfl ?_; clear hf fa; intro fa hf
        apply wpList_nil
        (try simp only [Exit.then, Exit.inBlock, ↓reduceIte, Nat.reduceEqDiff])
        refine hK19 _ _ ?_
        refine wp_ret ?_
        (try simp only [Exit.then, Exit.inBlock])
        refine ret1 hf rfl rfl ?_
        have hfin : xs = depthsP (opl l) := by
          have h := Hs; rw [opl_end (by omega), dlR, List.append_nil, List.take_of_length_le (by omega)] at h
          rw [depthsP, if_neg hqt9_1, h]
        rw [← hfin]; exact ⟨_, rfl, hrw, hb⟩
end Go.Proofs.YtpalmpfkliepfaaDoor.Fl

namespace Go.Proofs.YtpalmpfkliepfaaDoor.Fl
open Go.RowKit
set_option linter.unusedVariables false
set_option linter.unusedSimpArgs false

/- THE SHAPE. -/
def chS (x : Int) : UInt8 := if x = 4 then 105 else if x = 5 then 101 else 98
def RelS (xs : List Int) (s : ByteArray) : Prop := ∃ stk : List Int, xs = 0 :: stk ∧ s.data.toList = stk.map chS
theorem RelS.size {xs : List Int} {s : ByteArray} (h : RelS xs s) : xs.length = s.size + 1 := by
  obtain ⟨stk, rfl, h⟩ := h
  have : s.size = (stk.map chS).length := by rw [← h, Array.length_toList]; rfl
  simp [this]
theorem RelS.push {xs : List Int} {s : ByteArray} (h : RelS xs s) (o : Int) (b : UInt8) (hb : chS o = b) : RelS (xs ++ [o]) (s ++ ⟨#[b]⟩) := by
  obtain ⟨stk, rfl, h⟩ := h
  refine ⟨stk ++ [o], rfl, ?_⟩
  simp [ByteArray.data_append, h, hb]
theorem ext_toList (s : ByteArray) (n : Nat) : (s.extract 0 n).data.toList = s.data.toList.take n := by
  rw [ByteArray.data_extract, Array.toList_extract, List.extract_eq_take_drop]; simp
theorem RelS.pop {xs : List Int} {s : ByteArray} (h : RelS xs s) (h0 : 0 < s.size) : RelS (xs.take (xs.length - 1)) (s.extract 0 (s.size - 1)) := by
  have hs := h.size
  obtain ⟨stk, rfl, h⟩ := h
  simp only [List.length_cons] at hs
  refine ⟨stk.take (s.size - 1), ?_, by rw [ext_toList, h, List.map_take]⟩
  rw [List.length_cons, show stk.length + 1 - 1 = (s.size - 1) + 1 by omega, List.take_succ_cons]
theorem RelS.last {xs : List Int} {s : ByteArray} (h : RelS xs s) (h0 : 0 < s.size) : sbt s (s.size - 1) = (chS (xs.getD (xs.length - 1) 0)).toNat := by
  have hs := h.size
  obtain ⟨stk, rfl, h⟩ := h
  simp only [List.length_cons] at hs
  unfold sbt
  rw [h, List.length_cons, show stk.length + 1 - 1 = (s.size - 1) + 1 by omega, List.getD_cons_succ, List.getD_eq_getElem?_getD, List.getElem?_map, List.getD_eq_getElem?_getD, List.getElem?_eq_getElem (show s.size - 1 < stk.length by omega)]
  rfl
theorem RelS.set5 {xs : List Int} {s : ByteArray} (h : RelS xs s) (h0 : 0 < s.size) : RelS (xs.set (xs.length - 1) 5) (s.extract 0 (s.size - 1) ++ ⟨#[101]⟩) := by
  have hs := h.size
  have hp := (h.pop h0).push 5 101 rfl
  have : xs.take (xs.length - 1) ++ [5] = xs.set (xs.length - 1) 5 := by
    rw [← List.take_set_snoc (by omega)]
    exact List.take_of_length_le (by rw [List.length_set]; omega)
  rwa [this] at hp

theorem shR_walkR (len : Nat) : ∀ (r xs : List Int) (s : ByteArray) (n : Nat), RelS xs s → n + r.length = len → shR len r xs n = if (walkR r s n).1 = 0 ∨ (walkR r s n).1 ≠ len then 30 else 0
  | [], xs, s, n, h, hn => by simp [shR, walkR]
  | o :: r, xs, s, n, h, hn => by
    simp only [List.length_cons] at hn
    have hs := h.size
    by_cases h2 : o = 2
    · subst h2
      have e1 : shR len (2 :: r) xs n = shR len r (xs ++ [2]) (n + 1) := by rw [shR, if_pos (by decide)]
      have e2 : walkR (2 :: r) s n = walkR r (s ++ ⟨#[98]⟩) (n + 1) := by rw [walkR, if_pos rfl]
      rw [e1, e2]
      exact shR_walkR len r _ _ _ (h.push 2 98 rfl) (by omega)
    by_cases h3 : o = 3
    · subst h3
      have e1 : shR len (3 :: r) xs n = shR len r (xs ++ [3]) (n + 1) := by rw [shR, if_pos (by decide)]
      have e2 : walkR (3 :: r) s n = walkR r (s ++ ⟨#[98]⟩) (n + 1) := by rw [walkR, if_neg (by decide), if_pos rfl]
      rw [e1, e2]
      exact shR_walkR len r _ _ _ (h.push 3 98 rfl) (by omega)
    by_cases h4 : o = 4
    · subst h4
      have e1 : shR len (4 :: r) xs n = shR len r (xs ++ [4]) (n + 1) := by rw [shR, if_pos (by decide)]
      have e2 : walkR (4 :: r) s n = walkR r (s ++ ⟨#[105]⟩) (n + 1) := by rw [walkR, if_neg (by decide), if_neg (by decide), if_pos rfl]
      rw [e1, e2]
      exact shR_walkR len r _ _ _ (h.push 4 105 rfl) (by omega)
    have hno : ¬ opensI o = true := by simp [opensI, h2, h3, h4]
    by_cases h5 : o = 5
    · subst h5
      have e1 : shR len (5 :: r) xs n = if xs.getD (xs.length - 1) 0 ≠ 4 then 30 else shR len r (xs.set (xs.length - 1) 5) (n + 1) := by rw [shR, if_neg hno, if_pos rfl]
      have e2 : walkR (5 :: r) s n = if s = ⟨#[]⟩ ∨ ((sbt s (s.size - 1) : Nat) : Int) ≠ 105 then (0, (n : Int)) else walkR r (s.extract 0 (s.size - 1) ++ ⟨#[101]⟩) (n + 1) := by rw [walkR, if_neg h2, if_neg h3, if_neg h4, if_pos rfl]
      by_cases he : s = ⟨#[]⟩
      · subst he
        rw [e1, e2, if_pos (show (⟨#[]⟩ : ByteArray) = ⟨#[]⟩ ∨ _ from Or.inl rfl)]
        obtain ⟨stk, rfl, hh⟩ := h
        have : stk = [] := by simpa using hh.symm
        subst this
        rfl
      · have h0 := ne_size he
        have hl := h.last h0
        by_cases hx : xs.getD (xs.length - 1) 0 = 4
        · have e3 : ¬ (s = ⟨#[]⟩ ∨ ((sbt s (s.size - 1) : Nat) : Int) ≠ 105) := by
            rw [hl, hx]
            rintro (h | h)
            · exact he h
            · exact h rfl
          rw [e1, e2, if_neg e3, if_neg (fun h => h hx)]
          exact shR_walkR len r _ _ _ (h.set5 h0) (by omega)
        · have e3 : (s = ⟨#[]⟩ ∨ ((sbt s (s.size - 1) : Nat) : Int) ≠ 105) := by
            right; rw [hl]
            have : chS (xs.getD (xs.length - 1) 0) = 101 ∨ chS (xs.getD (xs.length - 1) 0) = 98 := by
              unfold chS; rw [if_neg hx]; split <;> simp
            rcases this with e | e <;> rw [e] <;> decide
          rw [e1, e2, if_pos e3, if_pos hx]
          rfl
    by_cases h11 : o = 11
    · subst h11
      have e1 : shR len (11 :: r) xs n = if ((xs.length - 1 : Nat) : Int) = 0 then (if decide ((n : Int) = (len : Int) - 1) = true then 0 else 30) else shR len r (xs.take (xs.length - 1)) (n + 1) := by rw [shR, if_neg hno, if_neg h5, if_pos rfl]
      have e2 : walkR (11 :: r) s n = if s = ⟨#[]⟩ then ((n : Int) + 1, -1) else walkR r (s.extract 0 (s.size - 1)) (n + 1) := by rw [walkR, if_neg h2, if_neg h3, if_neg h4, if_neg h5, if_pos rfl]
      by_cases he : s = ⟨#[]⟩
      · rw [e1, e2, if_pos he, if_pos (show ((xs.length - 1 : Nat) : Int) = 0 by rw [hs, he]; rfl)]
        by_cases hq : (n : Int) = (len : Int) - 1
        · rw [if_pos (show decide ((n : Int) = (len : Int) - 1) = true from decide_eq_true hq), if_neg (by simp only; omega)]
        · rw [if_neg (show ¬ decide ((n : Int) = (len : Int) - 1) = true by simpa using hq), if_pos (by simp only; omega)]
      · have h0 := ne_size he
        rw [e1, e2, if_neg he, if_neg (show ¬ ((xs.length - 1 : Nat) : Int) = 0 by omega)]
        exact shR_walkR len r _ _ _ (h.pop h0) (by omega)
    · have e1 : shR len (o :: r) xs n = shR len r xs (n + 1) := by rw [shR, if_neg hno, if_neg h5, if_neg h11]
      have e2 : walkR (o :: r) s n = walkR r s (n + 1) := by rw [walkR, if_neg h2, if_neg h3, if_neg h4, if_neg h5, if_neg h11]
      rw [e1, e2]
      exact shR_walkR len r _ _ _ h (by omega)

theorem rshape_eq (ops : List Int) : rshapeP ops = shapeP ops := by
  unfold rshapeP shapeP
  split
  · rfl
  · rw [shR_walkR ops.length ops [0] ⟨#[]⟩ 0 ⟨[], rfl, rfl⟩ (by omega)]

/- THE WALK. -/
def stepS (o : Int) (n : Nat) (st : List Nat) : List Nat := if opensI o = true then n :: st else if o = 11 then st.tail else st
def stN (ops : List Int) : Nat → List Nat
  | 0 => []
  | n + 1 => stepS (ops.getD n 0) n (stN ops n)

theorem opens_ne {o : Int} (h : opensI o = true) : o ≠ 5 ∧ o ≠ 11 := by
  unfold opensI at h
  simp only [Bool.or_eq_true, decide_eq_true_eq] at h
  omega

theorem stN_sh (ops : List Int) (h : shapeP ops = 0) : ∀ n, n ≤ ops.length → ShP ops n (stN ops n).length
  | 0, _ => ShP.start (by simpa using h)
  | n + 1, hn => by
    have ih := stN_sh ops h n (by omega)
    have hd := drop_getD (l := ops) (n := n) (by omega)
    unfold stN stepS
    by_cases ho : opensI (ops.getD n 0) = true
    · rw [if_pos ho]; simpa using ih.opens hd ho
    · rw [if_neg ho]
      by_cases h5 : ops.getD n 0 = 5
      · rw [if_neg (by omega)]; exact ih.els hd ho h5
      · by_cases h11 : ops.getD n 0 = 11
        · rw [if_pos h11, List.length_tail]
          by_cases hk : 0 < (stN ops n).length
          · exact ih.fin hd ho h5 ⟨h11, by omega⟩
          · have := ih.other hd ho h5 (by omega)
            rwa [show (stN ops n).length - 1 = (stN ops n).length by omega]
        · rw [if_neg h11]; exact ih.other hd ho h5 (by omega)

theorem stN_end (ops : List Int) (h : shapeP ops = 0) : stN ops ops.length = [] := by
  have hh := stN_sh ops h _ (Nat.le_refl _)
  unfold ShP at hh
  rcases hh with hh | ⟨xs, h1, _⟩
  · exact List.eq_nil_of_length_eq_zero hh.2
  · rw [List.drop_length, shR] at h1; cases h1

theorem stN_mem (ops : List Int) : ∀ n, ∀ j ∈ stN ops n, j < n ∧ opensI (ops.getD j 0) = true
  | 0, j, h => by simp [stN] at h
  | n + 1, j, h => by
    unfold stN stepS at h
    split at h
    · rcases List.mem_cons.1 h with rfl | h
      · exact ⟨by omega, by assumption⟩
      · have := stN_mem ops n j h; exact ⟨by omega, this.2⟩
    · split at h
      · have := stN_mem ops n j (List.mem_of_mem_tail h); exact ⟨by omega, this.2⟩
      · have := stN_mem ops n j h; exact ⟨by omega, this.2⟩

theorem stN_nodup (ops : List Int) : ∀ n, (stN ops n).Nodup
  | 0 => by simp [stN]
  | n + 1 => by
    have ih := stN_nodup ops n
    unfold stN stepS
    split
    · rw [List.nodup_cons]; exact ⟨fun h => by have := (stN_mem ops n n h).1; omega, ih⟩
    · split
      · exact ih.sublist (List.tail_sublist _)
      · exact ih

/-- Of a block that began: it is open yet, or it has ended. -/
def BlkAt (ops : List Int) (n j : Nat) : Prop :=
  (∃ (d : Nat) (ot : Int), (stN ops n)[d]? = some j ∧ -1 ≤ ot ∧ ot < n ∧ seekP ops j = seekR (ops.drop n) n d ot) ∨ (j ∉ stN ops n ∧ (j : Int) < (seekP ops j).1 ∧ (seekP ops j).1 < n ∧ -1 ≤ (seekP ops j).2 ∧ (seekP ops j).2 < n)

theorem blkAt (ops : List Int) : ∀ n, n ≤ ops.length → ∀ j, j < n → opensI (ops.getD j 0) = true → BlkAt ops n j
  | 0, _, j, h, _ => by omega
  | n + 1, hn, j, hj, hoj => by
    have hd := drop_getD (l := ops) (n := n) (by omega)
    have hnd := stN_nodup ops n
    have hmem := stN_mem ops n
    by_cases hjn : j = n
    · subst hjn
      refine .inl ⟨0, -1, ?_, by omega, by omega, rfl⟩
      unfold stN stepS
      rw [if_pos hoj]; rfl
    · rcases blkAt ops n (by omega) j (by omega) hoj with ⟨d, ot, h1, h2, h3, h4⟩ | ⟨h1, h2, h3, h4, h5⟩
      · rw [hd, seekR] at h4
        have hjm := hmem j (List.mem_of_getElem? h1)
        unfold BlkAt
        rw [show stN ops (n + 1) = stepS (ops.getD n 0) n (stN ops n) from rfl]
        unfold stepS
        by_cases ho : opensI (ops.getD n 0) = true
        · rw [if_pos ho] at h4 ⊢
          exact .inl ⟨d + 1, ot, by simpa using h1, h2, by omega, h4⟩
        · rw [if_neg ho] at h4 ⊢
          by_cases h5 : ops.getD n 0 = 5
          · rw [if_neg (show ¬ ops.getD n 0 = 11 by omega)]
            by_cases hd0 : (d : Int) = 0
            · rw [if_pos ⟨h5, hd0⟩] at h4
              exact .inl ⟨d, n, h1, by omega, by omega, h4⟩
            · rw [if_neg (by omega), if_neg (by omega)] at h4
              exact .inl ⟨d, ot, h1, h2, by omega, h4⟩
          · rw [if_neg (by omega)] at h4
            by_cases h11 : ops.getD n 0 = 11
            · rw [if_pos h11] at h4 ⊢
              by_cases hd0 : (d : Int) = 0
              · rw [if_pos hd0] at h4
                obtain rfl : d = 0 := by omega
                refine .inr ⟨?_, by rw [h4]; simp; omega, by rw [h4]; simp only; omega, by rw [h4]; simpa using h2, by rw [h4]; simp only; omega⟩
                cases hst : stN ops n with
                | nil => rw [hst] at h1; simp at h1
                | cons x xs =>
                  rw [hst] at h1 hnd
                  simp at h1; subst h1
                  exact (List.nodup_cons.1 hnd).1
              · rw [if_neg hd0] at h4
                refine .inl ⟨d - 1, ot, ?_, h2, by omega, h4⟩
                rw [List.getElem?_tail, show d - 1 + 1 = d by omega]; exact h1
            · rw [if_neg h11] at h4 ⊢
              exact .inl ⟨d, ot, h1, h2, by omega, h4⟩
      · refine .inr ⟨fun h => ?_, h2, by omega, h4, by omega⟩
        unfold stN stepS at h
        split at h
        · rcases List.mem_cons.1 h with h | h
          · exact hjn h
          · exact h1 h
        · split at h
          · exact h1 (List.mem_of_mem_tail h)
          · exact h1 h

theorem seek_found (ops : List Int) (h : shapeP ops = 0) {j : Nat} (hj : j < ops.length) (ho : opensI (ops.getD j 0) = true) : (j : Int) < (seekP ops j).1 ∧ (seekP ops j).1 < ops.length := by
  rcases blkAt ops _ (Nat.le_refl _) j hj ho with ⟨d, ot, h1, _⟩ | ⟨_, h2, h3, _⟩
  · rw [stN_end ops h] at h1; simp at h1
  · exact ⟨h2, h3⟩

/- THE DEPTH. -/
theorem seekR_ge : ∀ (r : List Int) (n d : Nat) (ot : Int), ((seekR r n d ot).1 = -1 ∨ (n : Int) ≤ (seekR r n d ot).1)
  | [], n, d, ot => .inl rfl
  | o :: r, n, d, ot => by
    unfold seekR
    split
    · rcases seekR_ge r (n + 1) (d + 1) ot with h | h <;> omega
    · split
      · rcases seekR_ge r (n + 1) d n with h | h <;> omega
      · split
        · split
          · right; exact Int.le_refl _
          · rcases seekR_ge r (n + 1) (d - 1) ot with h | h <;> omega
        · rcases seekR_ge r (n + 1) d ot with h | h <;> omega
theorem seekR_ot : ∀ (r : List Int) (n d : Nat) (ot : Int), (seekR r n d ot).2 = -1 ∨ (seekR r n d ot).2 = ot ∨ (n : Int) ≤ (seekR r n d ot).2
  | [], n, d, ot => .inl rfl
  | o :: r, n, d, ot => by
    unfold seekR
    split
    · rcases seekR_ot r (n + 1) (d + 1) ot with h | h | h <;> omega
    · split
      · rcases seekR_ot r (n + 1) d n with h | h | h <;> omega
      · split
        · split
          · right; left; rfl
          · rcases seekR_ot r (n + 1) (d - 1) ot with h | h | h <;> omega
        · rcases seekR_ot r (n + 1) d ot with h | h | h <;> omega

/-- Is a block counted at a place? -/
def cntB (ops : List Int) (at0 j : Nat) : Prop := opensI (ops.getD j 0) = true ∧ (at0 : Int) < (seekP ops j).1 ∧ (at0 : Int) ≠ (seekP ops j).2

theorem cntB_iff (ops : List Int) (hs : shapeP ops = 0) (at0 j : Nat) (ha : at0 < ops.length) (hj : j < at0) :
    cntB ops at0 j ↔ j ∈ stN ops at0 ∧ ¬ ((stN ops at0)[0]? = some j ∧ (ops.getD at0 0 = 11 ∨ ops.getD at0 0 = 5)) := by
  have hd := drop_getD (l := ops) (n := at0) ha
  unfold cntB
  constructor
  · rintro ⟨ho, h1, h2⟩
    rcases blkAt ops at0 (by omega) j hj ho with ⟨d, ot, g1, g2, g3, g4⟩ | ⟨_, _, g3, _⟩
    · refine ⟨List.mem_of_getElem? g1, ?_⟩
      rintro ⟨e0, e1⟩
      have hd0 : d = 0 := by
        have hnd := stN_nodup ops at0
        exact (List.getElem?_inj (List.getElem?_eq_some_iff.1 g1).1 hnd).1 (g1.trans e0.symm)
      subst hd0
      rw [hd, seekR] at g4
      have hno : ¬ opensI (ops.getD at0 0) = true := fun h => by have := opens_ne h; omega
      rw [if_neg hno] at g4
      rcases e1 with e1 | e1
      · rw [if_neg (by omega), if_pos e1, if_pos (show ((0 : Nat) : Int) = 0 from rfl)] at g4
        rw [g4] at h1; simp at h1
      · rw [if_pos ⟨e1, rfl⟩] at g4
        rcases seekR_ot (ops.drop (at0 + 1)) (at0 + 1) 0 at0 with h | h | h
        · -- the else is lost only where no end is found
          have hf := seek_found ops hs (by omega) ho
          rw [g4] at hf h2
          have : ∀ (r : List Int) (n d : Nat) (ot : Int), 0 ≤ ot → (seekR r n d ot).2 = -1 → (seekR r n d ot).1 = -1 := by
            intro r
            induction r with
            | nil => intros; rfl
            | cons o r ih =>
              intro n d ot hot he
              unfold seekR at he ⊢
              split at he
              · rename_i hh; rw [if_pos hh]; exact ih _ _ _ hot he
              · rename_i hh; rw [if_neg hh]
                split at he
                · rename_i hh2; rw [if_pos hh2]; exact ih _ _ _ (by omega) he
                · rename_i hh2; rw [if_neg hh2]
                  split at he
                  · rename_i hh3; rw [if_pos hh3]
                    split at he
                    · simp only at he; omega
                    · rename_i hh4; rw [if_neg hh4]; exact ih _ _ _ hot he
                  · rename_i hh3; rw [if_neg hh3]; exact ih _ _ _ hot he
          have := this _ _ _ _ (by omega) h
          omega
        · rw [g4] at h2; exact h2 h.symm
        · -- a later else of the same block: it is not this one; but then another else stood here: the shape forbids it
          exfalso
          have : ∀ (r : List Int) (n d k : Nat) (xs : List Int) (ot : Int), shR ops.length r xs n = 0 → xs.length = k → xs.getD (k - 1 - d) 0 = 5 → d < k - 1 → (seekR r n d ot).2 = -1 ∨ (seekR r n d ot).2 = ot := by
            intro r
            induction r with
            | nil => intro n d k xs ot h; cases h
            | cons o r ih =>
              intro n d k xs ot h hk h5 hdk
              unfold shR at h
              unfold seekR
              split at h
              · rename_i hh; rw [if_pos hh]
                exact ih (n + 1) (d + 1) (k + 1) _ ot h (by simp [hk]) (by
                  rw [List.getD_eq_getElem?_getD, List.getElem?_append_left (by omega), ← List.getD_eq_getElem?_getD, show k + 1 - 1 - (d + 1) = k - 1 - d by omega]; exact h5) (by omega)
              · rename_i hh; rw [if_neg hh]
                split at h
                · rename_i h55
                  split at h
                  · cases h
                  · rename_i hx
                    have hx := Decidable.of_not_not hx
                    have hd1 : d ≠ 0 := by
                      rintro rfl
                      rw [hk] at hx
                      rw [show k - 1 - 0 = k - 1 by omega, hx] at h5; cases h5
                    rw [if_neg (by omega), if_neg (by omega)]
                    exact ih (n + 1) d k _ ot h (by simp [hk]) (by
                      rw [List.getD_eq_getElem?_getD, List.getElem?_set_ne (by omega), ← List.getD_eq_getElem?_getD]; exact h5) hdk
                · rename_i h55
                  rw [if_neg (by omega)]
                  split at h
                  · rename_i h11; rw [if_pos h11]
                    split at h
                    · omega
                    · split
                      · right; rfl
                      · exact ih (n + 1) (d - 1) (k - 1) _ ot h (by rw [List.length_take]; omega) (by
                          rw [List.getD_eq_getElem?_getD, List.getElem?_take, if_pos (by omega), ← List.getD_eq_getElem?_getD, show k - 1 - 1 - (d - 1) = k - 1 - d by omega]; exact h5) (by omega)
                  · rename_i h11; rw [if_neg h11]
                    exact ih (n + 1) d k _ ot h hk h5 hdk
          have hsh := stN_sh ops hs at0 (by omega)
          have hpos := hsh.pos hd hno e1
          rcases hsh with ⟨hx, _⟩ | ⟨xs, x1, x2, x3⟩
          · omega
          · rw [hd, shR, if_neg hno, if_pos e1] at x1
            split at x1
            · cases x1
            · have hl : (xs.set (xs.length - 1) 5).length = xs.length := List.length_set ..
              have := this _ (at0 + 1) 0 xs.length _ at0 x1 hl (by
                rw [List.getD_eq_getElem?_getD, show xs.length - 1 - 0 = xs.length - 1 by omega, List.getElem?_set_self (by omega)]; rfl) (by omega)
              omega
    · omega
  · rintro ⟨hm, hne⟩
    have ho := (stN_mem ops at0 j hm).2
    refine ⟨ho, ?_⟩
    rcases blkAt ops at0 (by omega) j hj ho with ⟨d, ot, g1, g2, g3, g4⟩ | ⟨g1, _⟩
    · have hf := seek_found ops hs (by omega) ho
      have g5 := g4
      rw [hd, seekR] at g4
      by_cases hoo : opensI (ops.getD at0 0) = true
      · rw [if_pos hoo] at g4
        rw [g4] at hf ⊢
        have a1 := seekR_ge (ops.drop (at0 + 1)) (at0 + 1) (d + 1) ot
        have a2 := seekR_ot (ops.drop (at0 + 1)) (at0 + 1) (d + 1) ot
        omega
      · rw [if_neg hoo] at g4
        by_cases hz : d = 0
        · subst hz
          have : ¬ (ops.getD at0 0 = 11 ∨ ops.getD at0 0 = 5) := fun h => hne ⟨g1, h⟩
          rw [if_neg (by omega), if_neg (by omega)] at g4
          rw [g4] at hf ⊢
          have a1 := seekR_ge (ops.drop (at0 + 1)) (at0 + 1) 0 ot
          have a2 := seekR_ot (ops.drop (at0 + 1)) (at0 + 1) 0 ot
          omega
        · rw [if_neg (by omega)] at g4
          have key : ∃ d', seekP ops j = seekR (ops.drop (at0 + 1)) (at0 + 1) d' ot := by
            split at g4
            · rw [if_neg (by omega)] at g4; exact ⟨_, g4⟩
            · exact ⟨_, g4⟩
          obtain ⟨d', g6⟩ := key
          rw [g6] at hf ⊢
          have a1 := seekR_ge (ops.drop (at0 + 1)) (at0 + 1) d' ot
          have a2 := seekR_ot (ops.drop (at0 + 1)) (at0 + 1) d' ot
          omega
    · exact absurd hm g1
end Go.Proofs.YtpalmpfkliepfaaDoor.Fl

namespace Go.Proofs.YtpalmpfkliepfaaDoor.Fl
open Go.RowKit
set_option linter.unusedVariables false
set_option linter.unusedSimpArgs false

theorem sh_last (ops : List Int) (hs : shapeP ops = 0) {n : Nat} (hn : n + 1 = ops.length) : ops.getD n 0 = 11 ∧ stN ops n = [] := by
  have hd := drop_getD (l := ops) (n := n) (by omega)
  have h := stN_sh ops hs n (by omega)
  unfold ShP at h
  rcases h with h | ⟨xs, h1, h2, h3⟩
  · omega
  · rw [hd, List.drop_eq_nil_of_le (show ops.length ≤ n + 1 by omega), shR] at h1
    split at h1
    · cases h1
    · split at h1
      · split at h1 <;> cases h1
      · split at h1
        · rename_i h11
          split at h1
          · exact ⟨h11, List.eq_nil_of_length_eq_zero (by omega)⟩
          · cases h1
        · cases h1

theorem sh_empty (ops : List Int) (hs : shapeP ops = 0) {n : Nat} (hn : n < ops.length) (ho : ops.getD n 0 = 11 ∨ ops.getD n 0 = 5) (he : stN ops n = []) : n + 1 = ops.length := by
  have hd := drop_getD (l := ops) (n := n) hn
  have h := stN_sh ops hs n (by omega)
  have hno : ¬ opensI (ops.getD n 0) = true := fun h => by have := opens_ne h; omega
  rw [he] at h
  rcases ho with ho | ho
  · have h2 := h.other hd hno (by omega) (by simp)
    unfold ShP at h h2
    rcases h with h | ⟨xs, h1, h2', h3⟩
    · omega
    · rw [hd, shR, if_neg hno, if_neg (by omega), if_pos ho, if_pos (by simp at h2'; omega)] at h1
      split at h1
      · rename_i hq; simp only [decide_eq_true_eq] at hq; omega
      · cases h1
  · have := h.pos hd hno ho
    simp at this

def closing (o : Int) : Int := if o = 11 ∨ o = 5 then 1 else 0

theorem dlR_at (ops : List Int) (hs : shapeP ops = 0) : ∀ (k n : Nat), n + k = ops.length → ∀ i, n ≤ i → i < ops.length → (dlR (ops.drop n) (stN ops n).length).getD (i - n) 0 = (stN ops i).length - closing (ops.getD i 0)
  | 0, n, hk, i, h1, h2 => by omega
  | k + 1, n, hk, i, h1, h2 => by
    have hd := drop_getD (l := ops) (n := n) (by omega)
    have ih := dlR_at ops hs k (n + 1) (by omega)
    rw [hd, dlR]
    by_cases hi : i = n
    · subst hi
      rw [Nat.sub_self]
      unfold closing
      split <;> split <;> simp
    · rw [show i - n = (i - (n + 1)) + 1 by omega]
      have ih := ih i (by omega) h2
      rw [show stN ops (n + 1) = stepS (ops.getD n 0) n (stN ops n) from rfl] at ih
      unfold stepS at ih
      by_cases ho : opensI (ops.getD n 0) = true
      · have := opens_ne ho
        rw [if_pos ho] at ih
        rw [if_neg (by omega), if_pos (.inl ho), List.getD_cons_succ]
        simpa using ih
      · rw [if_neg ho] at ih
        by_cases h5 : ops.getD n 0 = 5
        · rw [if_neg (by omega)] at ih
          rw [if_pos (.inr h5), if_pos (.inr h5), List.getD_cons_succ, show ((stN ops n).length : Int) - 1 + 1 = (stN ops n).length by omega]
          exact ih
        · by_cases h11 : ops.getD n 0 = 11
          · rw [if_pos h11, List.length_tail] at ih
            rw [if_pos (.inl h11), if_neg (show ¬ (opensI (ops.getD n 0) = true ∨ ops.getD n 0 = 5) from fun h => h.elim ho h5), List.getD_cons_succ]
            have hne : stN ops n ≠ [] := fun he => by have := sh_empty ops hs (by omega) (.inl h11) he; omega
            have := List.length_pos_iff.2 hne
            rw [show ((stN ops n).length : Int) - 1 = ((stN ops n).length - 1 : Nat) by omega]
            exact ih
          · rw [if_neg h11] at ih
            rw [if_neg (by omega), if_neg (show ¬ (opensI (ops.getD n 0) = true ∨ ops.getD n 0 = 5) from fun h => h.elim ho h5), List.getD_cons_succ]
            exact ih

open Classical in
theorem dcR_count (ops : List Int) (hs : shapeP ops = 0) (at0 : Nat) (ha : at0 < ops.length) : ∀ k, k ≤ at0 → dcR ops at0 k = ((stN ops at0).countP (fun j => decide (j < k ∧ cntB ops at0 j)) : Nat)
  | 0, _ => by
    have : (stN ops at0).countP (fun j => decide (j < 0 ∧ cntB ops at0 j)) = 0 := by
      rw [List.countP_eq_zero]; intro j _; simp
    rw [this]; rfl
  | k + 1, hk => by
    have ih := dcR_count ops hs at0 ha k (by omega)
    have hnd := stN_nodup ops at0
    have hci := cntB_iff ops hs at0 k ha (by omega)
    have split2 : (stN ops at0).countP (fun j => decide (j < k + 1 ∧ cntB ops at0 j)) = (stN ops at0).countP (fun j => decide (j < k ∧ cntB ops at0 j)) + (stN ops at0).countP (fun j => decide (j = k ∧ cntB ops at0 j)) := by
      have : ∀ l : List Nat, l.countP (fun j => decide (j < k + 1 ∧ cntB ops at0 j)) = l.countP (fun j => decide (j < k ∧ cntB ops at0 j)) + l.countP (fun j => decide (j = k ∧ cntB ops at0 j)) := by
        intro l
        induction l with
        | nil => rfl
        | cons x l ih =>
          simp only [List.countP_cons, ih, decide_eq_true_eq]
          by_cases h1 : x < k
          · have h2 : x < k + 1 := by omega
            have h3 : x ≠ k := by omega
            simp only [h1, h2, h3, true_and, false_and, if_false]; split <;> omega
          · by_cases h3 : x = k
            · subst h3
              simp only [Nat.lt_irrefl, Nat.lt_succ_self, true_and, false_and, if_false]; split <;> omega
            · have h2 : ¬ x < k + 1 := by omega
              simp only [h1, h2, h3, false_and, if_false]; omega
      exact this _
    have one : (stN ops at0).countP (fun j => decide (j = k ∧ cntB ops at0 j)) = if cntB ops at0 k then 1 else 0 := by
      split
      · rename_i hc
        have hm := (hci.1 hc).1
        have : (stN ops at0).countP (fun j => decide (j = k ∧ cntB ops at0 j)) = (stN ops at0).count k := by
          unfold List.count
          apply List.countP_congr
          intro x _
          simp only [decide_eq_true_eq, beq_iff_eq]
          exact ⟨fun h => h.1, fun h => ⟨h, by rw [h]; exact hc⟩⟩
        rw [this]; rw [hnd.count, if_pos hm]
      · rename_i hc
        rw [List.countP_eq_zero]
        intro x _
        simp only [decide_eq_true_eq]
        rintro ⟨rfl, h⟩
        exact hc h
    rw [split2, one, dcR_eq, ih]
    have e : cntB ops at0 k ↔ (opensI (ops.getD k 0) = true ∧ (at0 : Int) < (seekP ops k).1 ∧ (at0 : Int) ≠ (seekP ops k).2) := Iff.rfl
    by_cases h1 : opensI (ops.getD k 0) = true
    · by_cases h2 : (at0 : Int) < (seekP ops k).1 ∧ (at0 : Int) ≠ (seekP ops k).2
      · rw [if_pos h1, if_pos h2, if_pos (e.2 ⟨h1, h2⟩)]; omega
      · rw [if_pos h1, if_neg h2, if_neg (fun h => h2 (e.1 h).2)]; omega
    · rw [if_neg h1, if_neg (fun h => h1 (e.1 h).1)]; omega

open Classical in
theorem dcR_st (ops : List Int) (hs : shapeP ops = 0) (at0 : Nat) (ha : at0 < ops.length) : dcR ops at0 at0 = if stN ops at0 = [] then 0 else (stN ops at0).length - closing (ops.getD at0 0) := by
  rw [dcR_count ops hs at0 ha at0 (Nat.le_refl _)]
  have hnd := stN_nodup ops at0
  have hm := stN_mem ops at0
  have hci := fun j hj => cntB_iff ops hs at0 j ha hj
  generalize stN ops at0 = st at *
  cases st with
  | nil => simp
  | cons x xs =>
    rw [if_neg (by simp)]
    have hnx := List.nodup_cons.1 hnd
    have hxs : xs.countP (fun j => decide (j < at0 ∧ cntB ops at0 j)) = xs.length := by
      rw [List.countP_eq_length]
      intro j hj
      simp only [decide_eq_true_eq]
      have hj2 : j ∈ x :: xs := List.mem_cons_of_mem _ hj
      refine ⟨(hm j hj2).1, (hci j (hm j hj2).1).2 ⟨hj2, ?_⟩⟩
      rintro ⟨h1, _⟩
      simp at h1
      subst h1
      exact hnx.1 hj
    rw [List.countP_cons, hxs, List.length_cons]
    have hx := hci x (hm x (by simp)).1
    unfold closing
    by_cases hc : ops.getD at0 0 = 11 ∨ ops.getD at0 0 = 5
    · rw [if_pos hc, if_neg]
      · omega
      · simp only [decide_eq_true_eq]
        rintro ⟨_, h⟩
        exact (hx.1 h).2 ⟨rfl, hc⟩
    · rw [if_neg hc, if_pos]
      · omega
      · simp only [decide_eq_true_eq]
        exact ⟨(hm x (by simp)).1, hx.2 ⟨by simp, fun h => hc h.2⟩⟩

theorem depths_eq (ops : List Int) (hs : shapeP ops = 0) (i : Nat) (hi : i < ops.length) : (depthsP ops).getD i 0 = depthP ops i := by
  have h1 := dlR_at ops hs ops.length 0 (by omega) i (by omega) hi
  rw [List.drop_zero, Nat.sub_zero] at h1
  rw [depthsP, if_neg (by simpa using hs)]
  have h0 : ((stN ops 0).length : Int) = 0 := rfl
  rw [h0] at h1
  rw [h1, depthP, dcR_st ops hs i hi]
  by_cases hl : (i : Int) = (ops.length : Int) - 1
  · obtain ⟨h11, hst⟩ := sh_last ops hs (n := i) (by omega)
    rw [if_pos hl, if_pos hst, hst, closing, if_pos (.inl h11)]; rfl
  · rw [if_neg hl]
    by_cases hst : stN ops i = []
    · rw [if_pos hst, hst, closing, if_neg (fun hc => by have := sh_empty ops hs hi hc hst; omega)]; rfl
    · rw [if_neg hst]

/- ENDS AND ELSES. -/
/- HOW BLOCKS LIE. -/
end Go.Proofs.YtpalmpfkliepfaaDoor.Fl

namespace Go.Proofs.YtpalmpfkliepfaaDoor
open Go.Shelf Go.RowKit Go.Lib
def sh_lays161_ren : Go.Shelf.Ren := ⟨fun | 161 => 40 | 231 => 68 | 227 => 69 | 233 => 70 | 235 => 71 | 228 => 86 | 197 => 87 | 151 => 88 | 260 => 95 | 152 => 96 | 137 => 101 | 119 => 102 | 224 => 99 | 225 => 98 | 217 => 97 | 266 => 103 | n => n, fun | 9 => 9 | 4 => 4 | 3 => 3 | 5 => 5 | 117 => 115 | 116 => 114 | 0 => 0 | 124 => 118 | 105 => 133 | 21 => 21 | 119 => 142 | 46 => 98 | 139 => 145 | 138 => 144 | n => n, fun | 3 => 1 | 4 => 2 | n => n⟩
theorem sh_lays161 : Go.Proofs.Lays.n161 Tryd.prog sh_lays161_ren := {
  mixed := by kernel_rfl
  f119 := Tryd.func102.trans (congrArg some (by kernel_rfl))
  f137 := Tryd.func101.trans (congrArg some (by kernel_rfl))
  f151 := Tryd.func88.trans (congrArg some (by kernel_rfl))
  f152 := Tryd.func96.trans (congrArg some (by kernel_rfl))
  f161 := Tryd.func40.trans (congrArg some (by kernel_rfl))
  f197 := Tryd.func87.trans (congrArg some (by kernel_rfl))
  f217 := Tryd.func97.trans (congrArg some (by kernel_rfl))
  f224 := Tryd.func99.trans (congrArg some (by kernel_rfl))
  f225 := Tryd.func98.trans (congrArg some (by kernel_rfl))
  f227 := Tryd.func69.trans (congrArg some (by kernel_rfl))
  f228 := Tryd.func86.trans (congrArg some (by kernel_rfl))
  f231 := Tryd.func68.trans (congrArg some (by kernel_rfl))
  f233 := Tryd.func70.trans (congrArg some (by kernel_rfl))
  f235 := Tryd.func71.trans (congrArg some (by kernel_rfl))
  f260 := Tryd.func95.trans (congrArg some (by kernel_rfl))
  f266 := Tryd.func103.trans (congrArg some (by kernel_rfl))
  t0 := Tryd.underlying0
  a0 := Tryd.isAgg0
  z0 := Tryd.sizeOf0
  v0 := Tryd.zeroValue0
  t3 := Tryd.underlying3
  a3 := Tryd.isAgg3
  z3 := Tryd.sizeOf3
  v3 := Tryd.zeroValue3
  t4 := Tryd.underlying4
  a4 := Tryd.isAgg4
  z4 := Tryd.sizeOf4
  v4 := Tryd.zeroValue4
  t5 := Tryd.underlying5
  a5 := Tryd.isAgg5
  z5 := Tryd.sizeOf5
  v5 := Tryd.zeroValue5
  t9 := Tryd.underlying9
  a9 := Tryd.isAgg9
  z9 := Tryd.sizeOf9
  v9 := Tryd.zeroValue9
  t21 := Tryd.underlying21
  a21 := Tryd.isAgg21
  z21 := Tryd.sizeOf21
  v21 := Tryd.zeroValue21
  t46 := Tryd.underlying98
  a46 := Tryd.isAgg98
  z46 := Tryd.sizeOf98
  v46 := Tryd.zeroValue98
  t105 := Tryd.underlying133
  a105 := Tryd.isAgg133
  z105 := Tryd.sizeOf133
  v105 := Tryd.zeroValue133
  t116 := Tryd.underlying114
  a116 := Tryd.isAgg114
  z116 := Tryd.sizeOf114
  t117 := Tryd.underlying115
  a117 := Tryd.isAgg115
  z117 := Tryd.sizeOf115
  v117 := Tryd.zeroValue115
  t119 := Tryd.underlying142
  a119 := Tryd.isAgg142
  z119 := Tryd.sizeOf142
  t124 := Tryd.underlying118
  a124 := Tryd.isAgg118
  z124 := Tryd.sizeOf118
  v124 := Tryd.zeroValue118
  t138 := Tryd.underlying144
  a138 := Tryd.isAgg144
  z138 := Tryd.sizeOf144
  v138 := Tryd.zeroValue144
  t139 := Tryd.underlying145
  a139 := Tryd.isAgg145
  z139 := Tryd.sizeOf145
  v139 := Tryd.zeroValue145
  g3 := by kernel_rfl
  g4 := by kernel_rfl }
theorem sh_strings_TrimLeft_one (s : ByteArray) (c : UInt8) (hc : c.toNat < 128) (w : World) :
    Calls Tryd.prog 40 #[.string s, .string ⟨#[c]⟩] w fun e w' => e = .returned (.string ⟨(Lib.trimLeftB s.data.toList c).toArray⟩) ∧ w' = w := Any.strings_TrimLeft_one sh_lays161 s c hc w
def sh_lays105_ren : Go.Shelf.Ren := ⟨fun | 105 => 37 | 212 => 62 | 99 => 63 | 165 => 64 | 166 => 65 | 170 => 66 | 169 => 67 | 263 => 81 | 264 => 82 | 206 => 83 | 240 => 84 | 241 => 85 | 276 => 93 | 277 => 94 | n => n, fun | 9 => 9 | 3 => 3 | 4 => 4 | 20 => 20 | 0 => 0 | 46 => 98 | 109 => 99 | 5 => 5 | 72 => 104 | 76 => 108 | 51 => 62 | 146 => 128 | 53 => 22 | 148 => 130 | 70 => 102 | 37 => 87 | 75 => 107 | 127 => 132 | 164 => 138 | 80 => 111 | n => n, fun | n => n⟩
theorem sh_lays105 : Go.Proofs.Lays.n105 Tryd.prog sh_lays105_ren := {
  mixed := by kernel_rfl
  f99 := Tryd.func63.trans (congrArg some (by kernel_rfl))
  f105 := Tryd.func37.trans (congrArg some (by kernel_rfl))
  f165 := Tryd.func64.trans (congrArg some (by kernel_rfl))
  f166 := Tryd.func65.trans (congrArg some (by kernel_rfl))
  f169 := Tryd.func67.trans (congrArg some (by kernel_rfl))
  f170 := Tryd.func66.trans (congrArg some (by kernel_rfl))
  f206 := Tryd.func83.trans (congrArg some (by kernel_rfl))
  f212 := Tryd.func62.trans (congrArg some (by kernel_rfl))
  f240 := Tryd.func84.trans (congrArg some (by kernel_rfl))
  f241 := Tryd.func85.trans (congrArg some (by kernel_rfl))
  f263 := Tryd.func81.trans (congrArg some (by kernel_rfl))
  f264 := Tryd.func82.trans (congrArg some (by kernel_rfl))
  f276 := Tryd.func93.trans (congrArg some (by kernel_rfl))
  f277 := Tryd.func94.trans (congrArg some (by kernel_rfl))
  t0 := Tryd.underlying0
  a0 := Tryd.isAgg0
  z0 := Tryd.sizeOf0
  v0 := Tryd.zeroValue0
  t3 := Tryd.underlying3
  a3 := Tryd.isAgg3
  z3 := Tryd.sizeOf3
  v3 := Tryd.zeroValue3
  t4 := Tryd.underlying4
  a4 := Tryd.isAgg4
  z4 := Tryd.sizeOf4
  v4 := Tryd.zeroValue4
  t5 := Tryd.underlying5
  a5 := Tryd.isAgg5
  z5 := Tryd.sizeOf5
  v5 := Tryd.zeroValue5
  t9 := Tryd.underlying9
  a9 := Tryd.isAgg9
  z9 := Tryd.sizeOf9
  v9 := Tryd.zeroValue9
  t20 := Tryd.underlying20
  a20 := Tryd.isAgg20
  z20 := Tryd.sizeOf20
  v20 := Tryd.zeroValue20
  t37 := Tryd.underlying87
  a37 := Tryd.isAgg87
  z37 := Tryd.sizeOf87
  v37 := Tryd.zeroValue87
  t46 := Tryd.underlying98
  a46 := Tryd.isAgg98
  z46 := Tryd.sizeOf98
  v46 := Tryd.zeroValue98
  t51 := Tryd.underlying62
  a51 := Tryd.isAgg62
  z51 := Tryd.sizeOf62
  v51 := Tryd.zeroValue62
  t53 := Tryd.underlying22
  a53 := Tryd.isAgg22
  z53 := Tryd.sizeOf22
  v53 := Tryd.zeroValue22
  t70 := Tryd.underlying102
  a70 := Tryd.isAgg102
  z70 := Tryd.sizeOf102
  v70 := Tryd.zeroValue102
  t72 := Tryd.underlying104
  a72 := Tryd.isAgg104
  z72 := Tryd.sizeOf104
  v72 := Tryd.zeroValue104
  t75 := Tryd.underlying107
  a75 := Tryd.isAgg107
  z75 := Tryd.sizeOf107
  v75 := Tryd.zeroValue107
  t76 := Tryd.underlying108
  a76 := Tryd.isAgg108
  z76 := Tryd.sizeOf108
  v76 := Tryd.zeroValue108
  t109 := Tryd.underlying99
  a109 := Tryd.isAgg99
  z109 := Tryd.sizeOf99
  v109 := Tryd.zeroValue99
  t127 := Tryd.underlying132
  a127 := Tryd.isAgg132
  z127 := Tryd.sizeOf132
  v127 := Tryd.zeroValue132
  t146 := Tryd.underlying128
  a146 := Tryd.isAgg128
  z146 := Tryd.sizeOf128
  v146 := Tryd.zeroValue128
  t148 := Tryd.underlying130
  a148 := Tryd.isAgg130
  z148 := Tryd.sizeOf130
  v148 := Tryd.zeroValue130
  t164 := Tryd.underlying138
  a164 := Tryd.isAgg138
  z164 := Tryd.sizeOf138
  v164 := Tryd.zeroValue138 }
theorem sh_Builder_Extra_105 : Builder.Extra Tryd.prog sh_lays105_ren := {
  sizeBuilder := by kernel_rfl
  liesBuilder := by kernel_rfl
  t5 := Tryd.underlying5
  a5 := Tryd.isAgg5
  z5 := Tryd.sizeOf5
  v5 := Tryd.zeroValue5
  infoByte := by kernel_rfl
  cellsByte := by kernel_rfl
  sizeByte := by kernel_rfl
  neB5 := by decide }
theorem sh_strings_Repeat (s : ByteArray) (c : Nat) (w : World) (hc : c ≤ 9223372036854775807) (hlen : s.size * c ≤ 140737488355328) :
    Calls Tryd.prog 37 #[.string s, .int .i64 c] w fun e w' => e = .returned (.string ⟨(Lib.repeatL s.data.toList c).toArray⟩) ∧ Below w.heap.size w w' := Any.strings_Repeat sh_lays105 sh_Builder_Extra_105 s c w hc hlen
end Go.Proofs.YtpalmpfkliepfaaDoor

namespace Go.Proofs.YtpalmpfkliepfaaDoor
open Go.RowKit Ut
set_option linter.unusedVariables false
set_option linter.unusedSimpArgs false
attribute [local irreducible] infP ofP chkP rchkP

/-- An instruction in memory whose labels can be read. -/
structure InG (w : World) (d : MIn) : Prop where
  op : 0 ≤ d.1 ∧ d.1 < 256
  a : 0 ≤ d.2.1 ∧ d.2.1 < 18446744073709551616
  b : 0 ≤ d.2.2.1 ∧ d.2.2.1 < 18446744073709551616
  rd : RdS 1 (vInt .u32) w d.2.2.2.1.at' d.2.2.2.1.list
  rng : ∀ y ∈ d.2.2.2.1.list, 0 ≤ y ∧ y < (4294967296 : Int)
  cap : d.2.2.2.1.len ≤ d.2.2.2.1.cap
theorem InG.ext {w w' : World} {d : MIn} (h : InG w d) (hb : Below w.heap.size w w') : InG w' d := ⟨h.op, h.a, h.b, RdS.ext h.rd hb, h.rng, h.cap⟩
def rightI (d : MIn) : Int := rightP d.1.toNat d.2.1 d.2.2.1 d.2.2.2.1.len
def lineI (d : MIn) : ByteArray := lineP d.1.toNat d.2.1 d.2.2.1 d.2.2.2.1.list
def keyI (d : MIn) : Int × Int × Int × List Int := (d.1, d.2.1, d.2.2.1, d.2.2.2.1.list)
theorem InG.nat {w : World} {d : MIn} (h : InG w d) : d.1 = ((d.1.toNat : Nat) : Int) := by have := h.op; omega
theorem InG.lt {w : World} {d : MIn} (h : InG w d) : d.1.toNat < 256 := by have := h.op; omega

theorem irightI (d : MIn) (w : World) (g : InG w d) (hn : d.2.2.2.1.len ≤ 100000) : Calls Tryd.prog 19 #[.agg #[.int .u8 d.1, .int .u64 d.2.1, .int .u64 d.2.2.1, .slice d.2.2.2.1.at' d.2.2.2.1.len d.2.2.2.1.cap]] w fun e w' => e = .returned (.int .i64 (rightI d)) ∧ Below w.heap.size w w' := by
  have h := iright_any d.1.toNat d.2.1 d.2.2.1 d.2.2.2.1.list d.2.2.2.1.at' d.2.2.2.1.cap w g.lt g.a g.b (by rw [Sl.list_length]; exact g.cap) (by rw [Sl.list_length]; exact hn)
  rw [Sl.list_length, ← g.nat] at h
  exact h

theorem rrightI (d : MIn) (w : World) (g : InG w d) (hn : d.2.2.2.1.len ≤ 100000) : Calls Tryd.prog 10 #[.agg #[.int .u8 d.1, .int .u64 d.2.1, .int .u64 d.2.2.1, .slice d.2.2.2.1.at' d.2.2.2.1.len d.2.2.2.1.cap]] w fun e w' => e = .returned (.int .i64 (rightI d)) ∧ Below w.heap.size w w' := by
  have h := rright_any d.1.toNat d.2.1 d.2.2.1 d.2.2.2.1.list d.2.2.2.1.at' d.2.2.2.1.cap w g.lt g.a g.b (by rw [Sl.list_length]; exact g.cap) (by rw [Sl.list_length]; exact hn)
  rw [Sl.list_length, ← g.nat] at h
  exact h

theorem lineI_any (d : MIn) (w : World) (g : InG w d) (hn : d.2.2.2.1.len ≤ 100000) : Calls Tryd.prog 7 #[.agg #[.int .u8 d.1, .int .u64 d.2.1, .int .u64 d.2.2.1, .slice d.2.2.2.1.at' d.2.2.2.1.len d.2.2.2.1.cap]] w fun e w' => e = .returned (.string (lineI d)) ∧ Below w.heap.size w w' := by
  have h := line_any d.1.toNat d.2.1 d.2.2.1 d.2.2.2.1.list d.2.2.2.1.at' d.2.2.2.1.cap w g.rd g.rng g.lt g.a g.b (by rw [Sl.list_length]; exact g.cap) (by rw [Sl.list_length]; exact hn)
  rw [Sl.list_length, ← g.nat] at h
  exact h

theorem rlineI_any (d : MIn) (w : World) (g : InG w d) (hn : d.2.2.2.1.len ≤ 100000) : Calls Tryd.prog 8 #[.agg #[.int .u8 d.1, .int .u64 d.2.1, .int .u64 d.2.2.1, .slice d.2.2.2.1.at' d.2.2.2.1.len d.2.2.2.1.cap]] w fun e w' => e = .returned (.string (lineI d)) ∧ Below w.heap.size w w' := by
  have h := rline_any d.1.toNat d.2.1 d.2.2.1 d.2.2.2.1.list d.2.2.2.1.at' d.2.2.2.1.cap w g.rd g.rng g.lt g.a g.b (by rw [Sl.list_length]; exact g.cap) (by rw [Sl.list_length]; exact hn)
  rw [Sl.list_length, ← g.nat] at h
  exact h

theorem sameI_any (x d : MIn) (w : World) (hx : RdS 1 (vInt .u32) w x.2.2.2.1.at' x.2.2.2.1.list) (hcx : x.2.2.2.1.len ≤ x.2.2.2.1.cap) (g : InG w d) (hn : d.2.2.2.1.len ≤ 100000) (hk : keyI x = keyI d) : Calls Tryd.prog 11 #[.agg #[.int .u8 x.1, .int .u64 x.2.1, .int .u64 x.2.2.1, .slice x.2.2.2.1.at' x.2.2.2.1.len x.2.2.2.1.cap], .agg #[.int .u8 d.1, .int .u64 d.2.1, .int .u64 d.2.2.1, .slice d.2.2.2.1.at' d.2.2.2.1.len d.2.2.2.1.cap]] w fun e w' => e = .returned (.bool true) ∧ Below w.heap.size w w' := by
  unfold keyI at hk
  have e1 : x.1 = d.1 := congrArg (fun p : Int × Int × Int × List Int => p.1) hk
  have e2 : x.2.1 = d.2.1 := congrArg (fun p : Int × Int × Int × List Int => p.2.1) hk
  have e3 : x.2.2.1 = d.2.2.1 := congrArg (fun p : Int × Int × Int × List Int => p.2.2.1) hk
  have e4 : x.2.2.2.1.list = d.2.2.2.1.list := congrArg (fun p : Int × Int × Int × List Int => p.2.2.2) hk
  have h := same_eq2 d.1.toNat x.2.2.2.1.at' d.2.2.2.1.at' x.2.2.2.1.cap d.2.2.2.1.cap w g.nat e1 e2 e3 e4 hx g.rd (by rw [Sl.list_length]; exact hcx) (by rw [Sl.list_length]; exact g.cap) (by rw [Sl.list_length]; exact hn)
  rw [Sl.list_length, Sl.list_length] at h
  exact h
def muchP (l : List MIn) : Bool := l.any fun d => decide (50 < d.2.2.2.1.len)
theorem muchP_drop {l : List MIn} {k : Nat} {d : MIn} (h : l[k]? = some d) : muchP (l.drop k) = (decide (50 < d.2.2.2.1.len) || muchP (l.drop (k + 1))) := by
  rw [drop_atH h]; rfl
theorem muchP_no {l : List MIn} (h : muchP l = false) : ∀ d ∈ l, d.2.2.2.1.len ≤ 50 := by
  intro d hd
  have := List.any_eq_false.1 h d hd
  simp at this
  exact this
def firstR : List MIn → Int
  | [] => 0
  | d :: l => if rightI d ≠ 0 then rightI d else firstR l
theorem firstR_drop {l : List MIn} {k : Nat} {d : MIn} (h : l[k]? = some d) : firstR (l.drop k) = if rightI d ≠ 0 then rightI d else firstR (l.drop (k + 1)) := by
  rw [drop_atH h]; rfl
theorem firstR_all {l : List MIn} (h : firstR l = 0) : ∀ d ∈ l, rightI d = 0 := by
  induction l with
  | nil => intro d hd; cases hd
  | cons a l ih =>
    intro d hd
    rw [firstR] at h
    split at h
    · rename_i h1; exact absurd h h1
    · rename_i h1
      rcases List.mem_cons.1 hd with rfl | hd
      · exact Classical.not_not.1 h1
      · exact ih h d hd
def boE (l : List MIn) : Int := if Fl.shapeP (Fl.opl l) ≠ 0 then Fl.shapeP (Fl.opl l) else firstR l
def rptS (n : Int) : ByteArray := ⟨(Lib.repeatL (⟨#[32, 32]⟩ : ByteArray).data.toList (max n 0).toNat).toArray⟩
def lnB (l : List MIn) (k : Nat) : ByteArray := rptS ((Fl.depthsP (Fl.opl l)).getD k 0) ++ lineI (l.getD k zMIn)
def bodyP (l : List MIn) : List ByteArray := (List.range l.length).map (lnB l)
def boL (l : List MIn) : List ByteArray := if boE l = 0 then bodyP l else []

set_option maxHeartbeats 1000000 in
set_option maxRecDepth 100000 in
theorem much_any (l : List MIn) (a : Option Addr) (c : Nat) (w : World) (hl : RdS 4 vMIn w a l) (hlc : l.length ≤ c) (hlm : l.length ≤ 100000) (hm50 : ∀ d ∈ l, d.2.2.2.1.len ≤ 140737488351232) : Calls Tryd.prog 13 #[(.agg #[(.slice none 0 0), (.slice a l.length c)])] w fun e w' => e = .returned (.bool (muchP l)) ∧ Below w.heap.size w w' := by
  refine sx_enter (L := [(0, (.agg #[(.slice none 0 0), (.slice a l.length c)]))]) Tryd.func13 rfl rfl rfl rfl (fun fa hf => ?_)
  have hb : Below w.heap.size w w := Below.refl _ _
  refine wp_seq_k (fun K1 hK1 => ?_)
  refine wp_region_lit ?_
  refine sqdt hf (d_box (cs := #[(.slice none 0 0), (.slice a l.length c)]) rfl rfl) rfl rfl rfl ?_; clear hf fa; rintro fa _ w1 ⟨b1, rfl, hle1, hk1, he1⟩ hf
  have hBb1 : w.heap.size ≤ b1 := Nat.le_trans hb.size hle1
  replace hb := hb.trans (Below.mono he1 hb.size)
  refine sqv hf (r_assign rfl) rfl rfl rfl ?_; clear hf fa; intro fa hf
  apply wpList_nil
  (try simp only [Exit.then, Exit.inBlock, ↓reduceIte, Nat.reduceEqDiff])
  refine hK1 _ _ ?_
  refine wp_seq_k (fun K2 hK2 => ?_)
  refine wp_seq_k (fun K3 hK3 => ?_)
  refine wp_region_lit ?_
  refine sqv hf (r_assign rfl) rfl rfl rfl ?_; clear hf fa; intro fa hf
  apply wpList_nil
  (try simp only [Exit.then, Exit.inBlock, ↓reduceIte, Nat.reduceEqDiff])
  refine hK3 _ _ ?_
  refine wp_block ?_
  refine wp_loop_k (fun mq fa wr => ∃ (k : Nat), mq = l.length - k ∧ Fr 19 fa [(1, (.pointer (some ⟨b1, 0, none⟩))), (3, (.int .i64 ((k : Nat) : Int)))] ∧ Below w.heap.size w wr ∧ wr.heap[b1]? = some (.cells #[(.slice none 0 0), (.slice a l.length c)] 41 (0, 0)) ∧ (k ≤ l.length) ∧ (muchP l = muchP (l.drop k))) ?_ ?_
  · skip
    exact ⟨_, 0, rfl, hf.sub ⟨rfl, (some_int (by first | rfl | omega)), trivial⟩, hb, hk1, by omega, rfl⟩
  · skip
    clear hf fa; intro mq1 fa w2 hI KL1 hKL1
    clear hb
    clear hk1
    obtain ⟨k, hmq1, hf, hb, hkb1, hk, Hs⟩ := hI
    refine wp_seq_k (fun K4 hK4 => ?_)
    refine wp_seq_k (fun K5 hK5 => ?_)
    refine wp_region_lit ?_
    refine sqv hf (r_move rfl) rfl rfl rfl ?_; clear hf fa; intro fa hf
    refine sqv hf (r_fa rfl Tryd.underlying41 (f := 1) (q := 1) rfl (by kernel_rfl) rfl) rfl rfl rfl ?_; clear hf fa; intro fa hf
    refine sqv hf (r_load (v := (.slice a l.length c)) rfl Tryd.underlying37 rfl (cell_blk hkb1 rfl)) rfl rfl rfl ?_; clear hf fa; intro fa hf
    refine sqv hf (r_lensl rfl Tryd.underlying37) rfl rfl rfl ?_; clear hf fa; intro fa hf
    refine sqv hf (r_lt rfl rfl) rfl rfl rfl ?_; clear hf fa; intro fa hf
    apply wpList_nil
    (try simp only [Exit.then, Exit.inBlock, ↓reduceIte, Nat.reduceEqDiff])
    refine hK5 _ _ ?_
    refine wp_cond_split (t := (decide (((k : Nat) : Int) < ((l.length : Nat) : Int)))) (hf.ev rfl) (fun hqt8_1 => ?_) (fun hqt8_1 => ?_)
    · have hqt8_1b := hqt8_1
      try simp only [decide_eq_true_eq, Bool.and_eq_true, Bool.or_eq_true, Bool.not_eq_true', decide_eq_false_iff_not, ne_eq, Bool.not_eq_true] at hqt8_1
      refine wp_skip ?_
      (try simp only [Exit.then, Exit.inBlock, ↓reduceIte, Nat.reduceEqDiff])
      refine hK4 _ _ ?_
      refine wp_seq_k (fun K6 hK6 => ?_)
      refine wp_block ?_
      refine wp_seq_k (fun K7 hK7 => ?_)
      obtain ⟨d, hd⟩ : ∃ d, l[k]? = some d := ⟨_, List.getElem?_eq_getElem (by omega)⟩
      have hdm := List.mem_of_getElem? hd
      have hdl := hm50 d hdm
      refine wp_region_lit ?_
      refine sqv hf (r_fa rfl Tryd.underlying41 (f := 1) (q := 1) rfl (by kernel_rfl) rfl) rfl rfl rfl ?_; clear hf fa; intro fa hf
      refine sqv hf (r_load (v := (.slice a l.length c)) rfl Tryd.underlying37 rfl (cell_blk hkb1 rfl)) rfl rfl rfl ?_; clear hf fa; intro fa hf
      refine sqv hf (r_move rfl) rfl rfl rfl ?_; clear hf fa; intro fa hf
      have hy1 : (l)[k]? = some d := hd
      obtain ⟨ab1, aoff1, hat1, hlb1, hel1⟩ := RdS.at hl hy1
      refine sqv hf (r_ixa (sz := 4) (j := k) (evAt rfl hat1) rfl Tryd.underlying37 (by kernel_rfl) rfl (by omega) rfl) rfl rfl rfl ?_; clear hf fa; intro fa hf
      refine sqv hf (r_fa rfl Tryd.underlying25 (f := 3) (q := ((aoff1 + k * 4) + 3)) rfl (by kernel_rfl) rfl) rfl rfl rfl ?_; clear hf fa; intro fa hf
      refine sqv hf (r_load (v := (.slice d.2.2.2.1.at' d.2.2.2.1.len d.2.2.2.1.cap)) rfl Tryd.underlying23 rfl (cellsAt_cell (cellsAt_below hel1 hb hlb1) (i := 3) rfl rfl)) rfl rfl rfl ?_; clear hf fa; intro fa hf
      refine sqv hf (r_lensl rfl Tryd.underlying23) rfl rfl rfl ?_; clear hf fa; intro fa hf
      refine sqv hf (r_gt rfl rfl) rfl rfl rfl ?_; clear hf fa; intro fa hf
      apply wpList_nil
      (try simp only [Exit.then, Exit.inBlock, ↓reduceIte, Nat.reduceEqDiff])
      refine hK7 _ _ ?_
      refine wp_cond_split (t := (decide ((50 : Int) < ((d.2.2.2.1.len : Nat) : Int)))) (hf.ev rfl) (fun hqt18_1 => ?_) (fun hqt18_1 => ?_)
      · have hqt18_1b := hqt18_1
        try simp only [decide_eq_true_eq, Bool.and_eq_true, Bool.or_eq_true, Bool.not_eq_true', decide_eq_false_iff_not, ne_eq, Bool.not_eq_true] at hqt18_1
        refine wp_seq_k (fun K8 hK8 => ?_)
        refine wp_region_lit ?_
        refine sqv hf (r_assign rfl) rfl rfl rfl ?_; clear hf fa; intro fa hf
        apply wpList_nil
        (try simp only [Exit.then, Exit.inBlock, ↓reduceIte, Nat.reduceEqDiff])
        refine hK8 _ _ ?_
        refine wp_ret ?_
        (try simp only [Exit.then, Exit.inBlock])
        refine ret1 hf rfl rfl ?_
        refine ⟨?_, hb⟩; rw [Hs, muchP_drop hd, decide_eq_true (by have h := hqt18_1; omega)]; rfl
      · have hqt18_1b := hqt18_1
        replace hqt18_1 := Bool.eq_false_iff.1 hqt18_1
        try simp only [ne_eq, decide_eq_true_eq, Bool.and_eq_true, Bool.or_eq_true, Bool.not_eq_true', decide_eq_false_iff_not] at hqt18_1
        refine wp_skip ?_
        (try simp only [Exit.then, Exit.inBlock, ↓reduceIte, Nat.reduceEqDiff])
        refine hK6 _ _ ?_
        refine wp_region_lit ?_
        refine sqv hf (r_move rfl) rfl rfl rfl ?_; clear hf fa; intro fa hf
        refine sqv hf (r_add (C := (((k : Nat) : Int) + (1 : Int))) rfl rfl (by rw [IntKind.wrap_i64]; omega)) rfl rfl rfl ?_; clear hf fa; intro fa hf
        refine sqv hf (r_assign rfl) rfl rfl rfl ?_; clear hf fa; intro fa hf
        apply wpList_nil
        (try simp only [Exit.then, Exit.inBlock, ↓reduceIte, Nat.reduceEqDiff])
        refine hKL1 _ _ _ (by omega) ⟨(k + 1), rfl, hf.sub ⟨rfl, (some_int (by first | rfl | omega)), trivial⟩, hb, hkb1, by omega, (by rw [Hs, muchP_drop hd, decide_eq_false (by have h := hqt18_1; omega)]; rfl)⟩
    · have hqt8_1b := hqt8_1
      replace hqt8_1 := Bool.eq_false_iff.1 hqt8_1
      try simp only [ne_eq, decide_eq_true_eq, Bool.and_eq_true, Bool.or_eq_true, Bool.not_eq_true', decide_eq_false_iff_not] at hqt8_1
      refine wp_exit ?_
      (try simp only [Exit.then, Exit.inBlock, ↓reduceIte, Nat.reduceEqDiff])
      refine hK2 _ _ ?_
      refine wp_seq_k (fun K9 hK9 => ?_)
      refine wp_region_lit ?_
      refine sqv hf (r_assign rfl) rfl rfl rfl ?_; clear hf fa; intro fa hf
      apply wpList_nil
      (try simp only [Exit.then, Exit.inBlock, ↓reduceIte, Nat.reduceEqDiff])
      refine hK9 _ _ ?_
      refine wp_ret ?_
      (try simp only [Exit.then, Exit.inBlock])
      refine ret1 hf rfl rfl ?_
      refine ⟨?_, hb⟩; rw [Hs, List.drop_eq_nil_of_le (by omega)]; rfl
end Go.Proofs.YtpalmpfkliepfaaDoor

namespace Go.Proofs.YtpalmpfkliepfaaDoor
open Go.RowKit Ut
set_option linter.unusedVariables false
set_option linter.unusedSimpArgs false
attribute [local irreducible] infP ofP chkP rchkP

theorem map_at {α β γ : Type} {f : α → γ} {g : β → γ} {X : List α} {l : List β} (h : X.map f = l.map g) {k : Nat} {x : α} {d : β} (hx : X[k]? = some x) (hd : l[k]? = some d) : f x = g d := by
  have h1 : (X.map f)[k]? = some (f x) := by rw [List.getElem?_map, hx]; rfl
  rw [h, List.getElem?_map, hd] at h1
  exact (Option.some.inj h1).symm
theorem shape_len {ops : List Int} (h : Fl.shapeP ops = 0) : (Fl.depthsP ops).length = ops.length := by
  unfold Fl.depthsP
  rw [if_neg (by rw [h]; decide), Fl.dlR_length]
theorem rptS_len (n : Int) : (rptS n).size = (max n 0).toNat * 2 := by
  unfold rptS
  show (Lib.repeatL (⟨#[32, 32]⟩ : ByteArray).data.toList (max n 0).toNat).toArray.size = _
  rw [List.size_toArray, Lib.repeatL_length]; rfl
theorem rpt_call (n : Int) (w : World) (h : 0 ≤ n ∧ n ≤ 100000) : Calls Tryd.prog 37 #[.string ⟨#[32, 32]⟩, .int .i64 n] w fun e w' => e = .returned (.string (rptS n)) ∧ Below w.heap.size w w' := by
  have h2 := sh_strings_Repeat ⟨#[32, 32]⟩ n.toNat w (by omega) (by have e : (⟨#[32, 32]⟩ : ByteArray).size = 2 := rfl; rw [e]; omega)
  rw [show ((n.toNat : Nat) : Int) = n by omega] at h2
  unfold rptS
  rw [show max n 0 = n by omega]
  exact h2
theorem rpt_call2 (n : Int) (w : World) (h : n ≤ 100000) : Calls Tryd.prog 37 #[.string ⟨#[32, 32]⟩, .int .i64 (if n < 0 then 0 else n)] w fun e w' => e = .returned (.string (rptS n)) ∧ Below w.heap.size w w' := by
  have e : rptS n = rptS (if n < 0 then 0 else n) := by
    unfold rptS
    rw [show max (if n < 0 then 0 else n) 0 = max n 0 by split <;> omega]
  rw [e]
  exact rpt_call _ w (by split <;> omega)
theorem lineI_len {w : World} {d : MIn} (g : InG w d) : (lineI d).size ≤ 124 + 21 * d.2.2.2.1.len := by
  have h := lineP_len (A := d.2.1) (B := d.2.2.1) g.lt g.a g.b g.rng
  rw [Sl.list_length] at h
  exact h
theorem range_snoc (f : Nat → ByteArray) (k : Nat) : (List.range k).map f ++ [f k] = (List.range (k + 1)).map f := by rw [List.range_succ, List.map_append]; rfl
theorem boE_sh {l : List MIn} (h : Fl.shapeP (Fl.opl l) ≠ 0) : boE l = Fl.shapeP (Fl.opl l) ∧ boL l = [] := by
  have e : boE l = Fl.shapeP (Fl.opl l) := by unfold boE; rw [if_pos h]
  exact ⟨e, by unfold boL; rw [e, if_neg h]⟩
theorem boE_bad {l : List MIn} {z : Int} (h : Fl.shapeP (Fl.opl l) = 0) (hf : firstR l = z) (hz : z ≠ 0) : boE l = z ∧ boL l = [] := by
  have e : boE l = z := by unfold boE; rw [if_neg (by rw [h]; decide), hf]
  exact ⟨e, by unfold boL; rw [e, if_neg hz]⟩
theorem boE_ok {l : List MIn} (h : Fl.shapeP (Fl.opl l) = 0) (hf : firstR l = 0) : boE l = 0 ∧ boL l = bodyP l := by
  have e : boE l = 0 := by unfold boE; rw [if_neg (by rw [h]; decide), hf]
  exact ⟨e, by unfold boL; rw [e, if_pos rfl]⟩

/-- Instructions whose labels lie in rows of their own. -/
def IRel (B : Nat) (w : World) (X : List MIn) : Prop := ∀ d ∈ X, Row 1 (vInt .u32) 62 B w (.slice d.2.2.2.1.at' d.2.2.2.1.len d.2.2.2.1.cap) d.2.2.2.1.list
theorem IRel.nil {B : Nat} {w : World} : IRel B w [] := fun d hd => by cases hd
theorem IRel.rd {B : Nat} {w : World} {X : List MIn} (h : IRel B w X) {d : MIn} (hd : d ∈ X) : RdS 1 (vInt .u32) w d.2.2.2.1.at' d.2.2.2.1.list := Row.rd (by intros; rfl) (h d hd)
theorem IRel.cap {B : Nat} {w : World} {X : List MIn} (h : IRel B w X) {d : MIn} (hd : d ∈ X) : d.2.2.2.1.len ≤ d.2.2.2.1.cap := by have := Row.caps (h d hd); omega
theorem IRel.map {B : Nat} {w w' : World} {X : List MIn} (h : IRel B w X) (f : ∀ (bf : Nat) (cs : Array Value), w.heap[bf]? = some (Obj.cells cs 62 (0, 0)) → w'.heap[bf]? = some (Obj.cells cs 62 (0, 0))) : IRel B w' X := by
  intro d hd
  have hr := h d hd
  refine ⟨hr.1, ?_⟩
  rcases hr.2 with hz | ⟨g, cap, cur, e, hb, hgg, rest⟩
  · exact .inl hz
  · exact .inr ⟨g, cap, cur, e, hb, f g cur hgg, rest⟩
theorem IRel.ext {B : Nat} {w w' : World} {X : List MIn} (h : IRel B w X) (hb : Below w.heap.size w w') : IRel B w' X := h.map (fun bf cs hbf => blk_ext hbf hb)
def mkI (o A B : Int) (L : List Int) (a : Option Addr) (c : Nat) : MIn := (o, A, B, ⟨a, L.length, c, fun j => L.getD j 0⟩, ())
theorem mkI_list (o A B : Int) (L : List Int) (a : Option Addr) (c : Nat) : (mkI o A B L a c).2.2.2.1.list = L := by
  show (List.range L.length).map (fun j => L.getD j 0) = L
  apply List.ext_getElem?
  intro i
  rw [List.getElem?_map]
  by_cases hi : i < L.length
  · rw [List.getElem?_range hi, List.getElem?_eq_getElem hi]
    show some (L.getD i 0) = _
    rw [List.getD_eq_getElem?_getD, List.getElem?_eq_getElem hi]; rfl
  · rw [List.getElem?_eq_none (by rw [List.length_range]; omega), List.getElem?_eq_none (by omega)]; rfl
theorem IRel.snoc {B : Nat} {w : World} {X : List MIn} (h : IRel B w X) {o A Bb : Int} {L : List Int} {a : Option Addr} {c : Nat} (hr : Row 1 (vInt .u32) 62 B w (.slice a L.length c) L) : IRel B w (X ++ [mkI o A Bb L a c]) := by
  intro d hd
  rcases List.mem_append.1 hd with hd | hd
  · exact h d hd
  · rw [List.mem_singleton] at hd
    subst hd
    rw [mkI_list]
    exact hr

set_option maxHeartbeats 1000000 in
set_option maxRecDepth 100000 in
theorem sameall_any (X l : List MIn) (a a2 : Option Addr) (c c2 B : Nat) (w : World) (hX : RdS 4 vMIn w a X) (hl : RdS 4 vMIn w a2 l) (hXr : IRel B w X) (hG : ∀ d ∈ l, InG w d) (hn : ∀ d ∈ l, d.2.2.2.1.len ≤ 100000) (hc : X.length ≤ c) (hc2 : l.length ≤ c2) (hlm : l.length ≤ 60) (hk0 : X.map keyI = l.map keyI) : Calls Tryd.prog 18 #[(.slice a X.length c), (.slice a2 l.length c2)] w fun e w' => e = .returned (.bool true) ∧ Below w.heap.size w w' := by
  have hxl : X.length = l.length := by have h := congrArg List.length hk0; rw [List.length_map, List.length_map] at h; exact h
  refine sx_enter (L := [(0, (.slice a X.length c)), (1, (.slice a2 l.length c2))]) Tryd.func18 rfl rfl rfl rfl (fun fa hf => ?_)
  have hb : Below w.heap.size w w := Below.refl _ _
  refine wp_seq_k (fun K1 hK1 => ?_)
  refine wp_region_lit ?_
  refine sqv hf (r_assign rfl) rfl rfl rfl ?_; clear hf fa; intro fa hf
  apply wpList_nil
  (try simp only [Exit.then, Exit.inBlock, ↓reduceIte, Nat.reduceEqDiff])
  refine hK1 _ _ ?_
  refine wp_seq_k (fun K2 hK2 => ?_)
  refine wp_seq_k (fun K3 hK3 => ?_)
  refine wp_region_lit ?_
  refine sqv hf (r_move rfl) rfl rfl rfl ?_; clear hf fa; intro fa hf
  refine sqv hf (r_lensl rfl Tryd.underlying37) rfl rfl rfl ?_; clear hf fa; intro fa hf
  refine sqv hf (r_move rfl) rfl rfl rfl ?_; clear hf fa; intro fa hf
  refine sqv hf (r_lensl rfl Tryd.underlying37) rfl rfl rfl ?_; clear hf fa; intro fa hf
  refine sqv hf (r_ne rfl rfl) rfl rfl rfl ?_; clear hf fa; intro fa hf
  apply wpList_nil
  (try simp only [Exit.then, Exit.inBlock, ↓reduceIte, Nat.reduceEqDiff])
  refine hK3 _ _ ?_
  refine wp_cond_false ((hf.ev rfl).trans (congrArg Value.bool (show (decide (((X.length : Nat) : Int) ≠ ((l.length : Nat) : Int))) = false from (by simp; omega)))) ?_
  refine wp_skip ?_
  (try simp only [Exit.then, Exit.inBlock, ↓reduceIte, Nat.reduceEqDiff])
  refine hK2 _ _ ?_
  refine wp_seq_k (fun K4 hK4 => ?_)
  refine wp_seq_k (fun K5 hK5 => ?_)
  refine wp_region_lit ?_
  refine sqv hf (r_assign rfl) rfl rfl rfl ?_; clear hf fa; intro fa hf
  apply wpList_nil
  (try simp only [Exit.then, Exit.inBlock, ↓reduceIte, Nat.reduceEqDiff])
  refine hK5 _ _ ?_
  refine wp_block ?_
  refine wp_loop_k (fun mq fa wr => ∃ (k : Nat), mq = X.length - k ∧ Fr 27 fa [(0, (.slice a X.length c)), (1, (.slice a2 l.length c2)), (5, (.int .i64 ((k : Nat) : Int)))] ∧ Below w.heap.size w wr ∧ (k ≤ X.length)) ?_ ?_
  · skip
    exact ⟨_, 0, rfl, hf.sub ⟨rfl, rfl, (some_int (by first | rfl | omega)), trivial⟩, hb, by omega⟩
  · skip
    clear hf fa; intro mq1 fa w1 hI KL1 hKL1
    clear hb
    obtain ⟨k, hmq1, hf, hb, hk⟩ := hI
    refine wp_seq_k (fun K6 hK6 => ?_)
    refine wp_seq_k (fun K7 hK7 => ?_)
    refine wp_region_lit ?_
    refine sqv hf (r_move rfl) rfl rfl rfl ?_; clear hf fa; intro fa hf
    refine sqv hf (r_move rfl) rfl rfl rfl ?_; clear hf fa; intro fa hf
    refine sqv hf (r_lensl rfl Tryd.underlying37) rfl rfl rfl ?_; clear hf fa; intro fa hf
    refine sqv hf (r_lt rfl rfl) rfl rfl rfl ?_; clear hf fa; intro fa hf
    apply wpList_nil
    (try simp only [Exit.then, Exit.inBlock, ↓reduceIte, Nat.reduceEqDiff])
    refine hK7 _ _ ?_
    refine wp_cond_split (t := (decide (((k : Nat) : Int) < ((X.length : Nat) : Int)))) (hf.ev rfl) (fun hqt14_1 => ?_) (fun hqt14_1 => ?_)
    · have hqt14_1b := hqt14_1
      try simp only [decide_eq_true_eq, Bool.and_eq_true, Bool.or_eq_true, Bool.not_eq_true', decide_eq_false_iff_not, ne_eq, Bool.not_eq_true] at hqt14_1
      refine wp_skip ?_
      (try simp only [Exit.then, Exit.inBlock, ↓reduceIte, Nat.reduceEqDiff])
      refine hK6 _ _ ?_
      refine wp_seq_k (fun K8 hK8 => ?_)
      refine wp_block ?_
      refine wp_seq_k (fun K9 hK9 => ?_)
      obtain ⟨xi, hx⟩ : ∃ x, X[k]? = some x := ⟨_, List.getElem?_eq_getElem (by omega)⟩
      obtain ⟨d, hd⟩ : ∃ d, l[k]? = some d := ⟨_, List.getElem?_eq_getElem (by omega)⟩
      have hxm := List.mem_of_getElem? hx
      have hdm := List.mem_of_getElem? hd
      have hkey := map_at hk0 hx hd
      have hy1 : (X)[k]? = some xi := hx
      obtain ⟨ab1, aoff1, hat1, hlb1, hel1⟩ := RdS.at hX hy1
      have hy2 : (l)[k]? = some d := hd
      obtain ⟨ab2, aoff2, hat2, hlb2, hel2⟩ := RdS.at hl hy2
      refine wp_region_un (fun wq => Below w1.heap.size w1 wq) (fun w w' => Below w.heap.size w w')
        (fun V => [(fun x _ => x = (.slice a X.length c)), (fun x _ => x = (.int .i64 ((k : Nat) : Int))), (fun x _ => x = (.pointer (some ⟨ab1, (aoff1 + k * 4), none⟩))), (fun x _ => x = (.agg #[(.int .u8 xi.1), (.int .u64 xi.2.1), (.int .u64 xi.2.2.1), (.slice xi.2.2.2.1.at' xi.2.2.2.1.len xi.2.2.2.1.cap)])), (fun x _ => x = (.slice a2 l.length c2)), (fun x _ => x = (.int .i64 ((k : Nat) : Int))), (fun x _ => x = (.pointer (some ⟨ab2, (aoff2 + k * 4), none⟩))), (fun x _ => x = (.agg #[(.int .u8 d.1), (.int .u64 d.2.1), (.int .u64 d.2.2.1), (.slice d.2.2.2.1.at' d.2.2.2.1.len d.2.2.2.1.cap)])), (fun x _ => x = (.bool true)), (fun x _ => x = (.bool false))])
        []
        [[], [], [0, 1], [2], [], [], [4, 5], [6], [3, 7], [8]]
        hf (by kernel_rfl) (by kernel_rfl) (fun _ => rfl) ((Below.refl _ _).drew) (fun a b h1 h2 => h1.trans (h2.mono h1.size)) (fun _ _ h => h.size) (fun V => ⟨kept_eq, kept_eq, kept_eq, kept_eq, kept_eq, kept_eq, kept_eq, kept_eq, kept_eq, kept_eq, trivial⟩) (fun _ _ _ _ _ => rfl) ?_ ?_
      · skip
        intro V
        refine ⟨fun wu0 hC hd => ?_, ?_⟩
        · clear hd
          replace hb := hb.trans (hC.mono hb.size)
          exact Runs.does (r_move rfl) ⟨Below.refl _ _, rfl, nofr rfl⟩
        refine ⟨fun wu1 hC hd => ?_, ?_⟩
        · clear hd
          replace hb := hb.trans (hC.mono hb.size)
          exact Runs.does (r_move rfl) ⟨Below.refl _ _, rfl, nofr rfl⟩
        refine ⟨fun wu2 hC hd => ?_, ?_⟩
        · obtain ⟨h0, h1, _⟩ := hd
          skip
          skip
          replace h0 : V 0 = (.slice a X.length c) := h0
          replace h1 : V 1 = (.int .i64 ((k : Nat) : Int)) := h1
          replace hb := hb.trans (hC.mono hb.size)
          exact Runs.does (r_ixa (sz := 4) (j := k) (evAt (congrArg some h0) hat1) (congrArg some h1) Tryd.underlying37 (by kernel_rfl) rfl (by omega) rfl) ⟨Below.refl _ _, rfl, nofr rfl⟩
        refine ⟨fun wu3 hC hd => ?_, ?_⟩
        · obtain ⟨h2, _⟩ := hd
          skip
          replace h2 : V 2 = (.pointer (some ⟨ab1, (aoff1 + k * 4), none⟩)) := h2
          replace hb := hb.trans (hC.mono hb.size)
          exact Runs.does (r_loadA (cs := [(.int .u8 xi.1), (.int .u64 xi.2.1), (.int .u64 xi.2.2.1), (.slice xi.2.2.2.1.at' xi.2.2.2.1.len xi.2.2.2.1.cap)]) (congrArg some h2) Tryd.underlying25 rfl (by kernel_rfl) (cellsAt_below hel1 hb hlb1)) ⟨Below.refl _ _, rfl, nofr rfl⟩
        refine ⟨fun wu4 hC hd => ?_, ?_⟩
        · clear hd
          replace hb := hb.trans (hC.mono hb.size)
          exact Runs.does (r_move rfl) ⟨Below.refl _ _, rfl, nofr rfl⟩
        refine ⟨fun wu5 hC hd => ?_, ?_⟩
        · clear hd
          replace hb := hb.trans (hC.mono hb.size)
          exact Runs.does (r_move rfl) ⟨Below.refl _ _, rfl, nofr rfl⟩
        refine ⟨fun wu6 hC hd => ?_, ?_⟩
        · obtain ⟨h4, h5, _⟩ := hd
          skip
          skip
          replace h4 : V 4 = (.slice a2 l.length c2) := h4
          replace h5 : V 5 = (.int .i64 ((k : Nat) : Int)) := h5
          replace hb := hb.trans (hC.mono hb.size)
          exact Runs.does (r_ixa (sz := 4) (j := k) (evAt (congrArg some h4) hat2) (congrArg some h5) Tryd.underlying37 (by kernel_rfl) rfl (by omega) rfl) ⟨Below.refl _ _, rfl, nofr rfl⟩
        refine ⟨fun wu7 hC hd => ?_, ?_⟩
        · obtain ⟨h6, _⟩ := hd
          skip
          replace h6 : V 6 = (.pointer (some ⟨ab2, (aoff2 + k * 4), none⟩)) := h6
          replace hb := hb.trans (hC.mono hb.size)
          exact Runs.does (r_loadA (cs := [(.int .u8 d.1), (.int .u64 d.2.1), (.int .u64 d.2.2.1), (.slice d.2.2.2.1.at' d.2.2.2.1.len d.2.2.2.1.cap)]) (congrArg some h6) Tryd.underlying25 rfl (by kernel_rfl) (cellsAt_below hel2 hb hlb2)) ⟨Below.refl _ _, rfl, nofr rfl⟩
        refine ⟨fun wu8 hC hd => ?_, ?_⟩
        · obtain ⟨h3, h7, _⟩ := hd
          skip
          skip
          replace h3 : V 3 = (.agg #[(.int .u8 xi.1), (.int .u64 xi.2.1), (.int .u64 xi.2.2.1), (.slice xi.2.2.2.1.at' xi.2.2.2.1.len xi.2.2.2.1.cap)]) := h3
          replace h7 : V 7 = (.agg #[(.int .u8 d.1), (.int .u64 d.2.1), (.int .u64 d.2.2.1), (.slice d.2.2.2.1.at' d.2.2.2.1.len d.2.2.2.1.cap)]) := h7
          replace hb := hb.trans (hC.mono hb.size)
          refine Does.mono (d_callB (vs := [(.agg #[(.int .u8 xi.1), (.int .u64 xi.2.1), (.int .u64 xi.2.2.1), (.slice xi.2.2.2.1.at' xi.2.2.2.1.len xi.2.2.2.1.cap)]), (.agg #[(.int .u8 d.1), (.int .u64 d.2.1), (.int .u64 d.2.2.1), (.slice d.2.2.2.1.at' d.2.2.2.1.len d.2.2.2.1.cap)])]) (show [some (V 3), some (V 7)] = [some (.agg #[(.int .u8 xi.1), (.int .u64 xi.2.1), (.int .u64 xi.2.2.1), (.slice xi.2.2.2.1.at' xi.2.2.2.1.len xi.2.2.2.1.cap)]), some (.agg #[(.int .u8 d.1), (.int .u64 d.2.1), (.int .u64 d.2.2.1), (.slice d.2.2.2.1.at' d.2.2.2.1.len d.2.2.2.1.cap)])] from by rw [h3, h7]) Tryd.func11 (by kernel_rfl) (by kernel_rfl) (sameI_any xi d _ (RdS.ext (hXr.rd hxm) hb) (hXr.cap hxm) ((hG d hdm).ext hb) (hn d hdm) hkey)) (fun _ _ h => ⟨h.2, h.1, nofr rfl⟩)
        refine ⟨fun wu9 hC hd => ?_, ?_⟩
        · obtain ⟨h8, _⟩ := hd
          skip
          replace h8 : V 8 = (.bool true) := h8
          replace hb := hb.trans (hC.mono hb.size)
          exact Runs.does (Runs.veq (v' := (.bool false)) (r_not (congrArg some h8)) rfl) ⟨Below.refl _ _, rfl, nofr rfl⟩
        trivial
      · skip
        clear hf fa; intro V w2 fa he1 hp hnb hf
        have hv0 : V 0 = (.slice a X.length c) := postsHold_at hp 0 rfl
        have hv1 : V 1 = (.int .i64 ((k : Nat) : Int)) := postsHold_at hp 1 rfl
        have hv2 : V 2 = (.pointer (some ⟨ab1, (aoff1 + k * 4), none⟩)) := postsHold_at hp 2 rfl
        have hv3 : V 3 = (.agg #[(.int .u8 xi.1), (.int .u64 xi.2.1), (.int .u64 xi.2.2.1), (.slice xi.2.2.2.1.at' xi.2.2.2.1.len xi.2.2.2.1.cap)]) := postsHold_at hp 3 rfl
        have hv4 : V 4 = (.slice a2 l.length c2) := postsHold_at hp 4 rfl
        have hv5 : V 5 = (.int .i64 ((k : Nat) : Int)) := postsHold_at hp 5 rfl
        have hv6 : V 6 = (.pointer (some ⟨ab2, (aoff2 + k * 4), none⟩)) := postsHold_at hp 6 rfl
        have hv7 : V 7 = (.agg #[(.int .u8 d.1), (.int .u64 d.2.1), (.int .u64 d.2.2.1), (.slice d.2.2.2.1.at' d.2.2.2.1.len d.2.2.2.1.cap)]) := postsHold_at hp 7 rfl
        have hv8 : V 8 = (.bool true) := postsHold_at hp 8 rfl
        have hv9 : V 9 = (.bool false) := postsHold_at hp 9 rfl
        simp only [List.take_succ_cons, List.take_zero, insAll, ins, hv0, hv1, hv2, hv3, hv4, hv5, hv6, hv7, hv8, hv9] at hf
        clear hp hnb hv0 hv1 hv2 hv3 hv4 hv5 hv6 hv7 hv8 hv9
        replace hb := hb.trans (Below.mono he1 hb.size)
        (try simp only [Exit.then, Exit.inBlock, ↓reduceIte, Nat.reduceEqDiff])
        refine hK9 _ _ ?_
        refine wp_cond_false (hf.ev rfl) ?_
        refine wp_skip ?_
        (try simp only [Exit.then, Exit.inBlock, ↓reduceIte, Nat.reduceEqDiff])
        refine hK8 _ _ ?_
        refine wp_region_lit ?_
        refine sqv hf (r_move rfl) rfl rfl rfl ?_; clear hf fa; intro fa hf
        refine sqv hf (r_add (C := (((k : Nat) : Int) + (1 : Int))) rfl rfl (by rw [IntKind.wrap_i64]; omega)) rfl rfl rfl ?_; clear hf fa; intro fa hf
        refine sqv hf (r_assign rfl) rfl rfl rfl ?_; clear hf fa; intro fa hf
        apply wpList_nil
        (try simp only [Exit.then, Exit.inBlock, ↓reduceIte, Nat.reduceEqDiff])
        refine hKL1 _ _ _ (by omega) ⟨(k + 1), rfl, hf.sub ⟨rfl, rfl, (some_int (by first | rfl | omega)), trivial⟩, hb, by omega⟩
    · have hqt14_1b := hqt14_1
      replace hqt14_1 := Bool.eq_false_iff.1 hqt14_1
      try simp only [ne_eq, decide_eq_true_eq, Bool.and_eq_true, Bool.or_eq_true, Bool.not_eq_true', decide_eq_false_iff_not] at hqt14_1
      refine wp_exit ?_
      (try simp only [Exit.then, Exit.inBlock, ↓reduceIte, Nat.reduceEqDiff])
      refine hK4 _ _ ?_
      refine wp_seq_k (fun K10 hK10 => ?_)
      refine wp_region_lit ?_
      refine sqv hf (r_assign rfl) rfl rfl rfl ?_; clear hf fa; intro fa hf
      apply wpList_nil
      (try simp only [Exit.then, Exit.inBlock, ↓reduceIte, Nat.reduceEqDiff])
      refine hK10 _ _ ?_
      refine wp_ret ?_
      (try simp only [Exit.then, Exit.inBlock])
      refine ret1 hf rfl rfl ?_
      exact ⟨rfl, hb⟩

set_option maxHeartbeats 1000000 in
set_option maxRecDepth 100000 in
theorem body_any (l : List MIn) (a : Option Addr) (c : Nat) (w : World) (hl : RdS 4 vMIn w a l) (hlc : l.length ≤ c) (hG : ∀ d ∈ l, InG w d) (hn : ∀ d ∈ l, d.2.2.2.1.len ≤ 50) (hlm : l.length ≤ 60) : Calls Tryd.prog 15 #[(.slice a l.length c)] w fun e w' => ∃ v, e = .returned v ∧ ∃ aB cB, v = (.tuple #[.slice aB (boL l).length cB, .int .i64 (boE l)]) ∧ Row 1 vStr 9 w.heap.size w' (.slice aB (boL l).length cB) (boL l) ∧ Below w.heap.size w w' := by
  refine sx_enter (L := [(0, (.slice a l.length c))]) Tryd.func15 rfl rfl rfl rfl (fun fa hf => ?_)
  have hb : Below w.heap.size w w := Below.refl _ _
  refine wp_seq_k (fun K1 hK1 => ?_)
  refine wp_region_lit ?_
  refine sqv hf (r_assign rfl) rfl rfl rfl ?_; clear hf fa; intro fa hf
  refine sqv hf (r_assign rfl) rfl rfl rfl ?_; clear hf fa; intro fa hf
  apply wpList_nil
  (try simp only [Exit.then, Exit.inBlock, ↓reduceIte, Nat.reduceEqDiff])
  refine hK1 _ _ ?_
  refine wp_seq_k (fun K2 hK2 => ?_)
  refine wp_seq_k (fun K3 hK3 => ?_)
  refine wp_region_lit ?_
  refine sqv hf (r_move rfl) rfl rfl rfl ?_; clear hf fa; intro fa hf
  refine sqdt hf (d_callB (vs := [(.slice a l.length c)]) rfl Tryd.func35 (by kernel_rfl) (by kernel_rfl) (Fl.shape_any l a c _ (RdS.ext hl hb) hlc (by omega))) rfl rfl rfl ?_; clear hf fa; rintro fa _ w1 ⟨rfl, he1⟩ hf
  replace hb := hb.trans (Below.mono he1 hb.size)
  refine sqv hf (r_assign rfl) rfl rfl rfl ?_; clear hf fa; intro fa hf
  apply wpList_nil
  (try simp only [Exit.then, Exit.inBlock, ↓reduceIte, Nat.reduceEqDiff])
  refine hK3 _ _ ?_
  refine wp_seq_k (fun K4 hK4 => ?_)
  refine wp_region_lit ?_
  refine sqv hf (r_move rfl) rfl rfl rfl ?_; clear hf fa; intro fa hf
  refine sqv hf (r_ne rfl rfl) rfl rfl rfl ?_; clear hf fa; intro fa hf
  apply wpList_nil
  (try simp only [Exit.then, Exit.inBlock, ↓reduceIte, Nat.reduceEqDiff])
  refine hK4 _ _ ?_
  refine wp_cond_split (t := (decide (((Fl.shapeP (Fl.opl l))) ≠ (0 : Int)))) (hf.ev rfl) (fun hqt13_1 => ?_) (fun hqt13_1 => ?_)
  · have hqt13_1b := hqt13_1
    try simp only [decide_eq_true_eq, Bool.and_eq_true, Bool.or_eq_true, Bool.not_eq_true', decide_eq_false_iff_not, ne_eq, Bool.not_eq_true] at hqt13_1
    refine wp_seq_k (fun K5 hK5 => ?_)
    refine wp_region_lit ?_
    refine sqv hf (r_move rfl) rfl rfl rfl ?_; clear hf fa; intro fa hf
    refine sqv hf (r_assign rfl) rfl rfl rfl ?_; clear hf fa; intro fa hf
    refine sqv hf (r_assign rfl) rfl rfl rfl ?_; clear hf fa; intro fa hf
    apply wpList_nil
    (try simp only [Exit.then, Exit.inBlock, ↓reduceIte, Nat.reduceEqDiff])
    refine hK5 _ _ ?_
    refine wp_ret ?_
    (try simp only [Exit.then, Exit.inBlock])
    refine ret2 hf rfl rfl rfl ?_
    obtain ⟨e1, e2⟩ := boE_sh hqt13_1
    rw [e1, e2]
    exact ⟨_, rfl, none, 0, rfl, Row.nil, hb⟩
  · have hqt13_1b := hqt13_1
    replace hqt13_1 := Bool.eq_false_iff.1 hqt13_1
    try simp only [ne_eq, decide_eq_true_eq, Bool.and_eq_true, Bool.or_eq_true, Bool.not_eq_true', decide_eq_false_iff_not] at hqt13_1
    refine wp_skip ?_
    (try simp only [Exit.then, Exit.inBlock, ↓reduceIte, Nat.reduceEqDiff])
    refine hK2 _ _ ?_
    refine wp_seq_k (fun K6 hK6 => ?_)
    have hsh : Fl.shapeP (Fl.opl l) = 0 := (by have h := hqt13_1; omega)
    have hdl : (Fl.depthsP (Fl.opl l)).length = l.length := by rw [shape_len hsh, Fl.opl_length]
    have hlp : 0 < l.length := by
      rcases Nat.eq_zero_or_pos l.length with h | h
      · rw [List.length_eq_zero_iff.1 h] at hsh; exact absurd hsh (by decide)
      · exact h
    refine wp_region_lit ?_
    refine sqv hf (r_move rfl) rfl rfl rfl ?_; clear hf fa; intro fa hf
    refine sqdt hf (d_callX (vs := [(.slice a l.length c)]) rfl Tryd.func36 (by kernel_rfl) (by kernel_rfl) (Fl.depths_any l a c _ (RdS.ext hl hb) hlc (by omega))) rfl rfl rfl ?_; clear hf fa; rintro fa v w2 ⟨hr1, he2⟩ hf; obtain ⟨ra1, rc1, rfl, hcrc1, hmrc1⟩ := Row.slice hr1
    replace hr1 := Row.rebase hr1 hb.size
    replace hb := hb.trans (Below.mono he2 hb.size)
    refine sqv hf (r_assign rfl) rfl rfl rfl ?_; clear hf fa; intro fa hf
    apply wpList_nil
    (try simp only [Exit.then, Exit.inBlock, ↓reduceIte, Nat.reduceEqDiff])
    refine hK6 _ _ ?_
    refine wp_seq_k (fun K7 hK7 => ?_)
    refine wp_region_lit ?_
    refine sqv hf (r_assign rfl) rfl rfl rfl ?_; clear hf fa; intro fa hf
    apply wpList_nil
    (try simp only [Exit.then, Exit.inBlock, ↓reduceIte, Nat.reduceEqDiff])
    refine hK7 _ _ ?_
    refine wp_seq_k (fun K8 hK8 => ?_)
    refine wp_seq_k (fun K9 hK9 => ?_)
    refine wp_region_lit ?_
    refine sqv hf (r_move rfl) rfl rfl rfl ?_; clear hf fa; intro fa hf
    refine sqv hf (r_lensl rfl Tryd.underlying37) rfl rfl rfl ?_; clear hf fa; intro fa hf
    obtain ⟨rb1, rfl, hbbrb1, hlbrb1⟩ := Row.some hr1 (by omega)
    refine sqv hf (r_move rfl) rfl rfl rfl ?_; clear hf fa; intro fa hf
    apply wpList_nil
    (try simp only [Exit.then, Exit.inBlock, ↓reduceIte, Nat.reduceEqDiff])
    refine hK9 _ _ ?_
    refine wp_block ?_
    refine wp_loop_k (fun mq fa wr => ∃ (k : Nat) (roa : Option Addr) (roc : Nat), mq = l.length - k ∧ Fr 43 fa [(5, (.slice (some ⟨rb1, 0, none⟩) (((Fl.depthsP (Fl.opl l))).length) rc1)), (17, (.slice a l.length c)), (18, (.int .i64 ((l.length : Nat) : Int))), (19, (.int .i64 ((k : Nat) : Int))), (6, (.slice roa ((((List.range k).map (lnB l))).length) roc))] ∧ Below w.heap.size w wr ∧ Row 1 vStr 9 (w.heap.size) wr (.slice roa ((((List.range k).map (lnB l))).length) roc) ((List.range k).map (lnB l)) ∧ Row 1 (vInt .i64) 3 (w.heap.size) wr (.slice (some ⟨rb1, 0, none⟩) ((((Fl.depthsP (Fl.opl l))).length)) rc1) (Fl.depthsP (Fl.opl l)) ∧ (k ≤ l.length) ∧ (firstR l = firstR (l.drop k))) ?_ ?_
    · skip
      exact ⟨_, 0, none, 0, rfl, hf.sub ⟨rfl, rfl, rfl, (some_int (by first | rfl | omega)), (some_sl (by first | omega | rfl | (simp only [List.length_append, List.length_cons, List.length_nil]; omega) | (simp <;> omega)) rfl), trivial⟩, hb, Row.nil, hr1, by omega, rfl⟩
    · skip
      clear hf fa; intro mq1 fa w3 hI KL1 hKL1
      clear hb
      clear hr1
      obtain ⟨k, roa, roc, hmq1, hf, hb, hro, hra1, hk, Hs⟩ := hI
      have hcro := Row.caps hro
      have hcra1 := Row.caps hra1
      have hol : ((List.range k).map (lnB l)).length = k := by rw [List.length_map, List.length_range]
      refine wp_seq_k (fun K10 hK10 => ?_)
      refine wp_region_lit ?_
      refine sqv hf (r_lt rfl rfl) rfl rfl rfl ?_; clear hf fa; intro fa hf
      apply wpList_nil
      (try simp only [Exit.then, Exit.inBlock, ↓reduceIte, Nat.reduceEqDiff])
      refine hK10 _ _ ?_
      refine wp_seq_k (fun K11 hK11 => ?_)
      refine wp_cond_split (t := (decide (((k : Nat) : Int) < ((l.length : Nat) : Int)))) (hf.ev rfl) (fun hqt20_1 => ?_) (fun hqt20_1 => ?_)
      · have hqt20_1b := hqt20_1
        try simp only [decide_eq_true_eq, Bool.and_eq_true, Bool.or_eq_true, Bool.not_eq_true', decide_eq_false_iff_not, ne_eq, Bool.not_eq_true] at hqt20_1
        refine wp_skip ?_
        (try simp only [Exit.then, Exit.inBlock, ↓reduceIte, Nat.reduceEqDiff])
        refine hK11 _ _ ?_
        refine wp_seq_k (fun K12 hK12 => ?_)
        refine wp_block ?_
        refine wp_seq_k (fun K13 hK13 => ?_)
        obtain ⟨d, hd⟩ : ∃ d, l[k]? = some d := ⟨_, List.getElem?_eq_getElem (by omega)⟩
        have hdm := List.mem_of_getElem? hd
        have hdb := Fl.depthsP_bd (Fl.opl l) ((Fl.depthsP (Fl.opl l)).getD k 0) (Fl.getD_mem' (by rw [hdl]; omega))
        have hol2 := Fl.opl_length l
        have hdz : l.getD k zMIn = d := by rw [List.getD_eq_getElem?_getD, hd]; rfl
        have hll := lineI_len (hG d hdm)
        have hnd := hn d hdm
        have hrs := rptS_len ((Fl.depthsP (Fl.opl l)).getD k 0)
        refine wp_region_lit ?_
        refine sqv hf (r_move rfl) rfl rfl rfl ?_; clear hf fa; intro fa hf
        have hy1 : (l)[k]? = some d := hd
        obtain ⟨ab1, aoff1, hat1, hlb1, hel1⟩ := RdS.at hl hy1
        refine sqv hf (r_ixa (sz := 4) (j := k) (evAt rfl hat1) rfl Tryd.underlying37 (by kernel_rfl) rfl (by omega) rfl) rfl rfl rfl ?_; clear hf fa; intro fa hf
        refine sqv hf (r_loadA (cs := [(.int .u8 d.1), (.int .u64 d.2.1), (.int .u64 d.2.2.1), (.slice d.2.2.2.1.at' d.2.2.2.1.len d.2.2.2.1.cap)]) rfl Tryd.underlying25 rfl (by kernel_rfl) (cellsAt_below hel1 hb hlb1)) rfl rfl rfl ?_; clear hf fa; intro fa hf
        refine sqdt hf (d_alloc (z := (.agg #[(.int .u8 (0 : Int)), (.int .u64 (0 : Int)), (.int .u64 (0 : Int)), (.slice none 0 0)])) (cs := #[(.int .u8 (0 : Int)), (.int .u64 (0 : Int)), (.int .u64 (0 : Int)), (.slice none 0 0)]) (by kernel_rfl) rfl) rfl rfl rfl ?_; clear hf fa; rintro fa _ w4 ⟨b1, rfl, hle1, hk1, he3⟩ hf
        have hBb1 : w.heap.size ≤ b1 := Nat.le_trans hb.size hle1
        have : rb1 < b1 := Nat.lt_of_lt_of_le (Row.lt hra1 _ rfl).2 hle1
        replace hro := Row.ext hro he3
        replace hra1 := Row.ext hra1 he3
        replace hb := hb.trans (Below.mono he3 hb.size)
        refine sqv hf (r_assign rfl) rfl rfl rfl ?_; clear hf fa; intro fa hf
        refine sqn hf (d_storeK (T := 25) (v := (.agg #[(.int .u8 d.1), (.int .u64 d.2.1), (.int .u64 d.2.2.1), (.slice d.2.2.2.1.at' d.2.2.2.1.len d.2.2.2.1.cap)])) (cs := #[(.int .u8 (0 : Int)), (.int .u64 (0 : Int)), (.int .u64 (0 : Int)), (.slice none 0 0)]) (cs' := #[(.int .u8 d.1), (.int .u64 d.2.1), (.int .u64 d.2.2.1), (.slice d.2.2.2.1.at' d.2.2.2.1.len d.2.2.2.1.cap)]) rfl rfl (by kernel_rfl) (by kernel_rfl) hk1 (by kernel_rfl) (by kernel_rfl)) rfl rfl ?_; clear hf fa; rintro fa _ w5 ⟨hk2, hg1⟩ hf
        replace hro := Row.grown hro hg1 (Row.ne_type hro hk1 rfl)
        replace hra1 := Row.grown hra1 hg1 (Row.ne_type hra1 hk1 rfl)
        replace hb := hb.trans (grown_below hg1 hb.size hBb1)
        apply wpList_nil
        (try simp only [Exit.then, Exit.inBlock, ↓reduceIte, Nat.reduceEqDiff])
        refine hK13 _ _ ?_
        refine wp_seq_k (fun K14 hK14 => ?_)
        refine wp_seq_k (fun K15 hK15 => ?_)
        refine wp_region_lit ?_
        refine sqv hf (r_loadA (cs := [(.int .u8 d.1), (.int .u64 d.2.1), (.int .u64 d.2.2.1), (.slice d.2.2.2.1.at' d.2.2.2.1.len d.2.2.2.1.cap)]) rfl Tryd.underlying25 rfl (by kernel_rfl) (cellsAt_blk hk2)) rfl rfl rfl ?_; clear hf fa; intro fa hf
        refine sqdt hf (d_callB (vs := [(.agg #[(.int .u8 d.1), (.int .u64 d.2.1), (.int .u64 d.2.2.1), (.slice d.2.2.2.1.at' d.2.2.2.1.len d.2.2.2.1.cap)])]) rfl Tryd.func19 (by kernel_rfl) (by kernel_rfl) (irightI d _ ((hG d hdm).ext hb) (by have := hn d hdm; omega))) rfl rfl rfl ?_; clear hf fa; rintro fa _ w6 ⟨rfl, he4⟩ hf
        replace hk2 := blk_ext hk2 he4
        replace hro := Row.ext hro he4
        replace hra1 := Row.ext hra1 he4
        replace hb := hb.trans (Below.mono he4 hb.size)
        refine sqv hf (r_assign rfl) rfl rfl rfl ?_; clear hf fa; intro fa hf
        apply wpList_nil
        (try simp only [Exit.then, Exit.inBlock, ↓reduceIte, Nat.reduceEqDiff])
        refine hK15 _ _ ?_
        refine wp_seq_k (fun K16 hK16 => ?_)
        refine wp_region_lit ?_
        refine sqv hf (r_move rfl) rfl rfl rfl ?_; clear hf fa; intro fa hf
        refine sqv hf (r_ne rfl rfl) rfl rfl rfl ?_; clear hf fa; intro fa hf
        apply wpList_nil
        (try simp only [Exit.then, Exit.inBlock, ↓reduceIte, Nat.reduceEqDiff])
        refine hK16 _ _ ?_
        refine wp_cond_split (t := (decide (((rightI d)) ≠ (0 : Int)))) (hf.ev rfl) (fun hqt27_1 => ?_) (fun hqt27_1 => ?_)
        · have hqt27_1b := hqt27_1
          try simp only [decide_eq_true_eq, Bool.and_eq_true, Bool.or_eq_true, Bool.not_eq_true', decide_eq_false_iff_not, ne_eq, Bool.not_eq_true] at hqt27_1
          refine wp_seq_k (fun K17 hK17 => ?_)
          refine wp_region_lit ?_
          refine sqv hf (r_move rfl) rfl rfl rfl ?_; clear hf fa; intro fa hf
          refine sqv hf (r_assign rfl) rfl rfl rfl ?_; clear hf fa; intro fa hf
          refine sqv hf (r_assign rfl) rfl rfl rfl ?_; clear hf fa; intro fa hf
          apply wpList_nil
          (try simp only [Exit.then, Exit.inBlock, ↓reduceIte, Nat.reduceEqDiff])
          refine hK17 _ _ ?_
          refine wp_ret ?_
          (try simp only [Exit.then, Exit.inBlock])
          refine ret2 hf rfl rfl rfl ?_
          obtain ⟨e1, e2⟩ := boE_bad hsh (by rw [Hs, firstR_drop hd, if_pos hqt27_1]) hqt27_1
          rw [e1, e2]
          exact ⟨_, rfl, none, 0, rfl, Row.nil, hb⟩
        · have hqt27_1b := hqt27_1
          replace hqt27_1 := Bool.eq_false_iff.1 hqt27_1
          try simp only [ne_eq, decide_eq_true_eq, Bool.and_eq_true, Bool.or_eq_true, Bool.not_eq_true', decide_eq_false_iff_not] at hqt27_1
          refine wp_skip ?_
          (try simp only [Exit.then, Exit.inBlock, ↓reduceIte, Nat.reduceEqDiff])
          refine hK14 _ _ ?_
          have hy2 : ((Fl.depthsP (Fl.opl l)))[k]? = some ((Fl.depthsP (Fl.opl l)).getD k 0) := (getD_int (by rw [hdl]; omega))
          have hel2 := RdS.at (Row.rd (by intros; rfl) hra1) hy2
          obtain ⟨_, _, hab, hlr1, hel2⟩ := hel2
          cases hab
          have hlW : b1 < w6.heap.size := blk_lt hk2
          have hlV := fun q (hq : ((Value.slice roa ((((List.range k).map (lnB l))).length) roc)).ownBlock = some q) => (Row.lt hro q hq).2
          have hne_hel2 : rb1 ≠ b1 := fun e => Row.ne_type hra1 hk2 rfl (congrArg some e)
          have hno_hel2 : ((Value.slice roa ((((List.range k).map (lnB l))).length) roc)).ownBlock ≠ some rb1 := Row.ne_row hra1 hro rfl rb1 rfl
          refine wp_region_vnT 12 (fun S wq => GO w6 b1 (Value.slice roa ((((List.range k).map (lnB l))).length) roc) wq ∧ (¬ S 11 → Row 1 vStr 9 (w.heap.size) wq (Value.slice roa ((((List.range k).map (lnB l))).length) roc) ((List.range k).map (lnB l))) ∧ (¬ S 8 → wq.heap[b1]? = some (.cells #[(.int .u8 d.1), (.int .u64 d.2.1), (.int .u64 d.2.2.1), (.slice d.2.2.2.1.at' d.2.2.2.1.len d.2.2.2.1.cap)] 25 (0, 0))) ∧ (S 8 → wq.heap[b1]? = some (.cells #[(.int .u8 d.1), (.int .u64 d.2.1), (.int .u64 d.2.2.1), (.slice d.2.2.2.1.at' d.2.2.2.1.len d.2.2.2.1.cap)] 25 (0, 0))))
            (fun V S => [(fun x _ => x = (.slice roa ((((List.range k).map (lnB l))).length) roc)), (fun x _ => x = (.slice (some ⟨rb1, 0, none⟩) ((((Fl.depthsP (Fl.opl l))).length)) rc1)), (fun x _ => x = (.int .i64 ((k : Nat) : Int))), (fun x _ => x = (.pointer (some ⟨rb1, (0 + k * 1), none⟩))), (fun x _ => x = (.int .i64 (((Fl.depthsP (Fl.opl l)).getD k 0)))), (fun x _ => x = (.int .i64 (if (((Fl.depthsP (Fl.opl l)).getD k 0)) < (0 : Int) then (0 : Int) else (((Fl.depthsP (Fl.opl l)).getD k 0))))), (fun x _ => x = (.string (rptS ((Fl.depthsP (Fl.opl l)).getD k 0)))), (fun x _ => x = (.agg #[(.int .u8 d.1), (.int .u64 d.2.1), (.int .u64 d.2.2.1), (.slice d.2.2.2.1.at' d.2.2.2.1.len d.2.2.2.1.cap)])), (fun x _ => x = (.string (lineI d))), (fun x _ => x = (.string ((rptS ((Fl.depthsP (Fl.opl l)).getD k 0)) ++ (lineI d)))), (fun x wq => ∃ b, x = .slice (some ⟨b, 0, none⟩) 1 1 ∧ w6.heap.size ≤ b ∧ wq.heap[b]? = some (.cells #[(.string ((rptS ((Fl.depthsP (Fl.opl l)).getD k 0)) ++ (lineI d)))] 9 (0, 0))), (fun x wq => ∃ a c, x = .slice a (((List.range k).map (lnB l)) ++ [((rptS ((Fl.depthsP (Fl.opl l)).getD k 0)) ++ (lineI d))]).length c ∧ Row 1 vStr 9 (w.heap.size) wq x (((List.range k).map (lnB l)) ++ [((rptS ((Fl.depthsP (Fl.opl l)).getD k 0)) ++ (lineI d))]))])
            [10]
            [[], [], [], [1, 2], [3], [4], [5], [], [6, 7], [6, 8], [9], [0, 8, 10], []]
            hf (by kernel_rfl) (by kernel_rfl) (by kernel_rfl) (fun _ _ => rfl) (fun S hS => ⟨(GO.refl _ _ _).below (Below.refl _ _).drew, fun _ => Row.ext hro (Below.refl _ _).drew, fun _ => blk_ext hk2 (Below.refl _ _).drew, fun h => absurd h (hS _)⟩) (fun _ _ _ _ _ _ => rfl) ?_ ?_
          · skip
            intro V
            have hKP : ∀ (i : Nat) (S : Nat → Prop) (wk : World), ∀ j v w', (((fun (S : Nat → Prop) => ([(fun x _ => x = (.slice roa ((((List.range k).map (lnB l))).length) roc)), (fun x _ => x = (.slice (some ⟨rb1, 0, none⟩) ((((Fl.depthsP (Fl.opl l))).length)) rc1)), (fun x _ => x = (.int .i64 ((k : Nat) : Int))), (fun x _ => x = (.pointer (some ⟨rb1, (0 + k * 1), none⟩))), (fun x _ => x = (.int .i64 (((Fl.depthsP (Fl.opl l)).getD k 0)))), (fun x _ => x = (.int .i64 (if (((Fl.depthsP (Fl.opl l)).getD k 0)) < (0 : Int) then (0 : Int) else (((Fl.depthsP (Fl.opl l)).getD k 0))))), (fun x _ => x = (.string (rptS ((Fl.depthsP (Fl.opl l)).getD k 0)))), (fun x _ => x = (.agg #[(.int .u8 d.1), (.int .u64 d.2.1), (.int .u64 d.2.2.1), (.slice d.2.2.2.1.at' d.2.2.2.1.len d.2.2.2.1.cap)])), (fun x _ => x = (.string (lineI d))), (fun x _ => x = (.string ((rptS ((Fl.depthsP (Fl.opl l)).getD k 0)) ++ (lineI d)))), (fun x wq => ∃ b, x = .slice (some ⟨b, 0, none⟩) 1 1 ∧ w6.heap.size ≤ b ∧ wq.heap[b]? = some (.cells #[(.string ((rptS ((Fl.depthsP (Fl.opl l)).getD k 0)) ++ (lineI d)))] 9 (0, 0))), (fun x wq => ∃ a c, x = .slice a (((List.range k).map (lnB l)) ++ [((rptS ((Fl.depthsP (Fl.opl l)).getD k 0)) ++ (lineI d))]).length c ∧ Row 1 vStr 9 (w.heap.size) wq x (((List.range k).map (lnB l)) ++ [((rptS ((Fl.depthsP (Fl.opl l)).getD k 0)) ++ (lineI d))]))] : List (Value → World → Prop))) S).getD j (fun _ _ => True)) v wk → Below wk.heap.size wk w' → (((fun (S : Nat → Prop) => ([(fun x _ => x = (.slice roa ((((List.range k).map (lnB l))).length) roc)), (fun x _ => x = (.slice (some ⟨rb1, 0, none⟩) ((((Fl.depthsP (Fl.opl l))).length)) rc1)), (fun x _ => x = (.int .i64 ((k : Nat) : Int))), (fun x _ => x = (.pointer (some ⟨rb1, (0 + k * 1), none⟩))), (fun x _ => x = (.int .i64 (((Fl.depthsP (Fl.opl l)).getD k 0)))), (fun x _ => x = (.int .i64 (if (((Fl.depthsP (Fl.opl l)).getD k 0)) < (0 : Int) then (0 : Int) else (((Fl.depthsP (Fl.opl l)).getD k 0))))), (fun x _ => x = (.string (rptS ((Fl.depthsP (Fl.opl l)).getD k 0)))), (fun x _ => x = (.agg #[(.int .u8 d.1), (.int .u64 d.2.1), (.int .u64 d.2.2.1), (.slice d.2.2.2.1.at' d.2.2.2.1.len d.2.2.2.1.cap)])), (fun x _ => x = (.string (lineI d))), (fun x _ => x = (.string ((rptS ((Fl.depthsP (Fl.opl l)).getD k 0)) ++ (lineI d)))), (fun x wq => ∃ b, x = .slice (some ⟨b, 0, none⟩) 1 1 ∧ w6.heap.size ≤ b ∧ wq.heap[b]? = some (.cells #[(.string ((rptS ((Fl.depthsP (Fl.opl l)).getD k 0)) ++ (lineI d)))] 9 (0, 0))), (fun x wq => ∃ a c, x = .slice a (((List.range k).map (lnB l)) ++ [((rptS ((Fl.depthsP (Fl.opl l)).getD k 0)) ++ (lineI d))]).length c ∧ Row 1 vStr 9 (w.heap.size) wq x (((List.range k).map (lnB l)) ++ [((rptS ((Fl.depthsP (Fl.opl l)).getD k 0)) ++ (lineI d))]))] : List (Value → World → Prop))) (ad i S)).getD j (fun _ _ => True)) v w' := by
              intro i S wk j v w' h hB
              match j with
              | 0 =>
                exact h
              | 1 =>
                exact h
              | 2 =>
                exact h
              | 3 =>
                exact h
              | 4 =>
                exact h
              | 5 =>
                exact h
              | 6 =>
                exact h
              | 7 =>
                exact h
              | 8 =>
                exact h
              | 9 =>
                exact h
              | 10 =>
                obtain ⟨b, e1, e2, e3⟩ := h
                exact ⟨b, e1, e2, blk_ext e3 hB⟩
              | 11 =>
                exact keptApp _ _ _ h hB
              | _ + 12 => trivial
            refine ⟨fun S wu0 hC hS hd hi => ?_, ?_⟩
            · skip
              replace hC : GO w6 b1 (Value.slice roa ((((List.range k).map (lnB l))).length) roc) wu0 ∧ (¬ S 11 → Row 1 vStr 9 (w.heap.size) wu0 (Value.slice roa ((((List.range k).map (lnB l))).length) roc) ((List.range k).map (lnB l))) ∧ (¬ S 8 → wu0.heap[b1]? = some (.cells #[(.int .u8 d.1), (.int .u64 d.2.1), (.int .u64 d.2.2.1), (.slice d.2.2.2.1.at' d.2.2.2.1.len d.2.2.2.1.cap)] 25 (0, 0))) ∧ (S 8 → wu0.heap[b1]? = some (.cells #[(.int .u8 d.1), (.int .u64 d.2.1), (.int .u64 d.2.2.1), (.slice d.2.2.2.1.at' d.2.2.2.1.len d.2.2.2.1.cap)] 25 (0, 0))) := hC
              refine uv_plain (C := (fun S wq => GO w6 b1 (Value.slice roa ((((List.range k).map (lnB l))).length) roc) wq ∧ (¬ S 11 → Row 1 vStr 9 (w.heap.size) wq (Value.slice roa ((((List.range k).map (lnB l))).length) roc) ((List.range k).map (lnB l))) ∧ (¬ S 8 → wq.heap[b1]? = some (.cells #[(.int .u8 d.1), (.int .u64 d.2.1), (.int .u64 d.2.2.1), (.slice d.2.2.2.1.at' d.2.2.2.1.len d.2.2.2.1.cap)] 25 (0, 0))) ∧ (S 8 → wq.heap[b1]? = some (.cells #[(.int .u8 d.1), (.int .u64 d.2.1), (.int .u64 d.2.2.1), (.slice d.2.2.2.1.at' d.2.2.2.1.len d.2.2.2.1.cap)] 25 (0, 0))))) (hKP 0 S wu0) (fun w' h1 h2 => ⟨h1.1.below h2, fun hn => Row.ext (h1.2.1 (fun hs => hn (.inr hs))) h2, fun hn => blk_ext (h1.2.2.1 (fun hs => hn (.inr hs))) h2, fun hs => blk_ext (h1.2.2.2 (by rcases hs with e | hs; exact absurd e (by decide); exact hs)) h2⟩) hC hS ?_
              obtain ⟨hC, hCr, hCo, hCn⟩ := hC
              replace hra1 := Row.go hra1 hC (Row.ne_type hra1 hk2 rfl) (Row.ne_row hra1 hro rfl)
              have hKb : wu0.heap[b1]? = some (.cells #[(.int .u8 d.1), (.int .u64 d.2.1), (.int .u64 d.2.2.1), (.slice d.2.2.2.1.at' d.2.2.2.1.len d.2.2.2.1.cap)] 25 (0, 0)) := by by_cases hz : S 8; exact hCn hz; exact hCo hz
              replace hk2 := hKb
              exact Runs.does (r_move rfl) ⟨Below.refl _ _, rfl, nofr rfl⟩
            refine ⟨fun S wu1 hC hS hd hi => ?_, ?_⟩
            · skip
              replace hC : GO w6 b1 (Value.slice roa ((((List.range k).map (lnB l))).length) roc) wu1 ∧ (¬ S 11 → Row 1 vStr 9 (w.heap.size) wu1 (Value.slice roa ((((List.range k).map (lnB l))).length) roc) ((List.range k).map (lnB l))) ∧ (¬ S 8 → wu1.heap[b1]? = some (.cells #[(.int .u8 d.1), (.int .u64 d.2.1), (.int .u64 d.2.2.1), (.slice d.2.2.2.1.at' d.2.2.2.1.len d.2.2.2.1.cap)] 25 (0, 0))) ∧ (S 8 → wu1.heap[b1]? = some (.cells #[(.int .u8 d.1), (.int .u64 d.2.1), (.int .u64 d.2.2.1), (.slice d.2.2.2.1.at' d.2.2.2.1.len d.2.2.2.1.cap)] 25 (0, 0))) := hC
              refine uv_plain (C := (fun S wq => GO w6 b1 (Value.slice roa ((((List.range k).map (lnB l))).length) roc) wq ∧ (¬ S 11 → Row 1 vStr 9 (w.heap.size) wq (Value.slice roa ((((List.range k).map (lnB l))).length) roc) ((List.range k).map (lnB l))) ∧ (¬ S 8 → wq.heap[b1]? = some (.cells #[(.int .u8 d.1), (.int .u64 d.2.1), (.int .u64 d.2.2.1), (.slice d.2.2.2.1.at' d.2.2.2.1.len d.2.2.2.1.cap)] 25 (0, 0))) ∧ (S 8 → wq.heap[b1]? = some (.cells #[(.int .u8 d.1), (.int .u64 d.2.1), (.int .u64 d.2.2.1), (.slice d.2.2.2.1.at' d.2.2.2.1.len d.2.2.2.1.cap)] 25 (0, 0))))) (hKP 1 S wu1) (fun w' h1 h2 => ⟨h1.1.below h2, fun hn => Row.ext (h1.2.1 (fun hs => hn (.inr hs))) h2, fun hn => blk_ext (h1.2.2.1 (fun hs => hn (.inr hs))) h2, fun hs => blk_ext (h1.2.2.2 (by rcases hs with e | hs; exact absurd e (by decide); exact hs)) h2⟩) hC hS ?_
              obtain ⟨hC, hCr, hCo, hCn⟩ := hC
              replace hra1 := Row.go hra1 hC (Row.ne_type hra1 hk2 rfl) (Row.ne_row hra1 hro rfl)
              have hKb : wu1.heap[b1]? = some (.cells #[(.int .u8 d.1), (.int .u64 d.2.1), (.int .u64 d.2.2.1), (.slice d.2.2.2.1.at' d.2.2.2.1.len d.2.2.2.1.cap)] 25 (0, 0)) := by by_cases hz : S 8; exact hCn hz; exact hCo hz
              replace hk2 := hKb
              exact Runs.does (r_move rfl) ⟨Below.refl _ _, rfl, nofr rfl⟩
            refine ⟨fun S wu2 hC hS hd hi => ?_, ?_⟩
            · skip
              replace hC : GO w6 b1 (Value.slice roa ((((List.range k).map (lnB l))).length) roc) wu2 ∧ (¬ S 11 → Row 1 vStr 9 (w.heap.size) wu2 (Value.slice roa ((((List.range k).map (lnB l))).length) roc) ((List.range k).map (lnB l))) ∧ (¬ S 8 → wu2.heap[b1]? = some (.cells #[(.int .u8 d.1), (.int .u64 d.2.1), (.int .u64 d.2.2.1), (.slice d.2.2.2.1.at' d.2.2.2.1.len d.2.2.2.1.cap)] 25 (0, 0))) ∧ (S 8 → wu2.heap[b1]? = some (.cells #[(.int .u8 d.1), (.int .u64 d.2.1), (.int .u64 d.2.2.1), (.slice d.2.2.2.1.at' d.2.2.2.1.len d.2.2.2.1.cap)] 25 (0, 0))) := hC
              refine uv_plain (C := (fun S wq => GO w6 b1 (Value.slice roa ((((List.range k).map (lnB l))).length) roc) wq ∧ (¬ S 11 → Row 1 vStr 9 (w.heap.size) wq (Value.slice roa ((((List.range k).map (lnB l))).length) roc) ((List.range k).map (lnB l))) ∧ (¬ S 8 → wq.heap[b1]? = some (.cells #[(.int .u8 d.1), (.int .u64 d.2.1), (.int .u64 d.2.2.1), (.slice d.2.2.2.1.at' d.2.2.2.1.len d.2.2.2.1.cap)] 25 (0, 0))) ∧ (S 8 → wq.heap[b1]? = some (.cells #[(.int .u8 d.1), (.int .u64 d.2.1), (.int .u64 d.2.2.1), (.slice d.2.2.2.1.at' d.2.2.2.1.len d.2.2.2.1.cap)] 25 (0, 0))))) (hKP 2 S wu2) (fun w' h1 h2 => ⟨h1.1.below h2, fun hn => Row.ext (h1.2.1 (fun hs => hn (.inr hs))) h2, fun hn => blk_ext (h1.2.2.1 (fun hs => hn (.inr hs))) h2, fun hs => blk_ext (h1.2.2.2 (by rcases hs with e | hs; exact absurd e (by decide); exact hs)) h2⟩) hC hS ?_
              obtain ⟨hC, hCr, hCo, hCn⟩ := hC
              replace hra1 := Row.go hra1 hC (Row.ne_type hra1 hk2 rfl) (Row.ne_row hra1 hro rfl)
              have hKb : wu2.heap[b1]? = some (.cells #[(.int .u8 d.1), (.int .u64 d.2.1), (.int .u64 d.2.2.1), (.slice d.2.2.2.1.at' d.2.2.2.1.len d.2.2.2.1.cap)] 25 (0, 0)) := by by_cases hz : S 8; exact hCn hz; exact hCo hz
              replace hk2 := hKb
              exact Runs.does (r_move rfl) ⟨Below.refl _ _, rfl, nofr rfl⟩
            refine ⟨fun S wu3 hC hS hd hi => ?_, ?_⟩
            · skip
              replace hC : GO w6 b1 (Value.slice roa ((((List.range k).map (lnB l))).length) roc) wu3 ∧ (¬ S 11 → Row 1 vStr 9 (w.heap.size) wu3 (Value.slice roa ((((List.range k).map (lnB l))).length) roc) ((List.range k).map (lnB l))) ∧ (¬ S 8 → wu3.heap[b1]? = some (.cells #[(.int .u8 d.1), (.int .u64 d.2.1), (.int .u64 d.2.2.1), (.slice d.2.2.2.1.at' d.2.2.2.1.len d.2.2.2.1.cap)] 25 (0, 0))) ∧ (S 8 → wu3.heap[b1]? = some (.cells #[(.int .u8 d.1), (.int .u64 d.2.1), (.int .u64 d.2.2.1), (.slice d.2.2.2.1.at' d.2.2.2.1.len d.2.2.2.1.cap)] 25 (0, 0))) := hC
              refine uv_plain (C := (fun S wq => GO w6 b1 (Value.slice roa ((((List.range k).map (lnB l))).length) roc) wq ∧ (¬ S 11 → Row 1 vStr 9 (w.heap.size) wq (Value.slice roa ((((List.range k).map (lnB l))).length) roc) ((List.range k).map (lnB l))) ∧ (¬ S 8 → wq.heap[b1]? = some (.cells #[(.int .u8 d.1), (.int .u64 d.2.1), (.int .u64 d.2.2.1), (.slice d.2.2.2.1.at' d.2.2.2.1.len d.2.2.2.1.cap)] 25 (0, 0))) ∧ (S 8 → wq.heap[b1]? = some (.cells #[(.int .u8 d.1), (.int .u64 d.2.1), (.int .u64 d.2.2.1), (.slice d.2.2.2.1.at' d.2.2.2.1.len d.2.2.2.1.cap)] 25 (0, 0))))) (hKP 3 S wu3) (fun w' h1 h2 => ⟨h1.1.below h2, fun hn => Row.ext (h1.2.1 (fun hs => hn (.inr hs))) h2, fun hn => blk_ext (h1.2.2.1 (fun hs => hn (.inr hs))) h2, fun hs => blk_ext (h1.2.2.2 (by rcases hs with e | hs; exact absurd e (by decide); exact hs)) h2⟩) hC hS ?_
              obtain ⟨hC, hCr, hCo, hCn⟩ := hC
              have h1 := hS.post 1 (hd 1 (by decide))
              replace h1 : V 1 = (.slice (some ⟨rb1, 0, none⟩) ((((Fl.depthsP (Fl.opl l))).length)) rc1) := h1
              have h2 := hS.post 2 (hd 2 (by decide))
              replace h2 : V 2 = (.int .i64 ((k : Nat) : Int)) := h2
              replace hra1 := Row.go hra1 hC (Row.ne_type hra1 hk2 rfl) (Row.ne_row hra1 hro rfl)
              have hKb : wu3.heap[b1]? = some (.cells #[(.int .u8 d.1), (.int .u64 d.2.1), (.int .u64 d.2.2.1), (.slice d.2.2.2.1.at' d.2.2.2.1.len d.2.2.2.1.cap)] 25 (0, 0)) := by by_cases hz : S 8; exact hCn hz; exact hCo hz
              replace hk2 := hKb
              exact Runs.does (r_ixa (sz := 1) (j := k) (congrArg some h1) (congrArg some h2) Tryd.underlying76 (by kernel_rfl) rfl (by omega) rfl) ⟨Below.refl _ _, rfl, nofr rfl⟩
            refine ⟨fun S wu4 hC hS hd hi => ?_, ?_⟩
            · skip
              replace hC : GO w6 b1 (Value.slice roa ((((List.range k).map (lnB l))).length) roc) wu4 ∧ (¬ S 11 → Row 1 vStr 9 (w.heap.size) wu4 (Value.slice roa ((((List.range k).map (lnB l))).length) roc) ((List.range k).map (lnB l))) ∧ (¬ S 8 → wu4.heap[b1]? = some (.cells #[(.int .u8 d.1), (.int .u64 d.2.1), (.int .u64 d.2.2.1), (.slice d.2.2.2.1.at' d.2.2.2.1.len d.2.2.2.1.cap)] 25 (0, 0))) ∧ (S 8 → wu4.heap[b1]? = some (.cells #[(.int .u8 d.1), (.int .u64 d.2.1), (.int .u64 d.2.2.1), (.slice d.2.2.2.1.at' d.2.2.2.1.len d.2.2.2.1.cap)] 25 (0, 0))) := hC
              refine uv_plain (C := (fun S wq => GO w6 b1 (Value.slice roa ((((List.range k).map (lnB l))).length) roc) wq ∧ (¬ S 11 → Row 1 vStr 9 (w.heap.size) wq (Value.slice roa ((((List.range k).map (lnB l))).length) roc) ((List.range k).map (lnB l))) ∧ (¬ S 8 → wq.heap[b1]? = some (.cells #[(.int .u8 d.1), (.int .u64 d.2.1), (.int .u64 d.2.2.1), (.slice d.2.2.2.1.at' d.2.2.2.1.len d.2.2.2.1.cap)] 25 (0, 0))) ∧ (S 8 → wq.heap[b1]? = some (.cells #[(.int .u8 d.1), (.int .u64 d.2.1), (.int .u64 d.2.2.1), (.slice d.2.2.2.1.at' d.2.2.2.1.len d.2.2.2.1.cap)] 25 (0, 0))))) (hKP 4 S wu4) (fun w' h1 h2 => ⟨h1.1.below h2, fun hn => Row.ext (h1.2.1 (fun hs => hn (.inr hs))) h2, fun hn => blk_ext (h1.2.2.1 (fun hs => hn (.inr hs))) h2, fun hs => blk_ext (h1.2.2.2 (by rcases hs with e | hs; exact absurd e (by decide); exact hs)) h2⟩) hC hS ?_
              obtain ⟨hC, hCr, hCo, hCn⟩ := hC
              have h3 := hS.post 3 (hd 3 (by decide))
              replace h3 : V 3 = (.pointer (some ⟨rb1, (0 + k * 1), none⟩)) := h3
              replace hra1 := Row.go hra1 hC (Row.ne_type hra1 hk2 rfl) (Row.ne_row hra1 hro rfl)
              have hKb : wu4.heap[b1]? = some (.cells #[(.int .u8 d.1), (.int .u64 d.2.1), (.int .u64 d.2.2.1), (.slice d.2.2.2.1.at' d.2.2.2.1.len d.2.2.2.1.cap)] 25 (0, 0)) := by by_cases hz : S 8; exact hCn hz; exact hCo hz
              replace hk2 := hKb
              exact Runs.does (r_load (v := (.int .i64 (((Fl.depthsP (Fl.opl l)).getD k 0)))) (congrArg some h3) Tryd.underlying3 rfl (cellsAt_cell (cellsAt_go hel2 hC hlr1 hne_hel2 hno_hel2) (i := 0) rfl rfl)) ⟨Below.refl _ _, rfl, nofr rfl⟩
            refine ⟨fun S wu5 hC hS hd hi => ?_, ?_⟩
            · skip
              replace hC : GO w6 b1 (Value.slice roa ((((List.range k).map (lnB l))).length) roc) wu5 ∧ (¬ S 11 → Row 1 vStr 9 (w.heap.size) wu5 (Value.slice roa ((((List.range k).map (lnB l))).length) roc) ((List.range k).map (lnB l))) ∧ (¬ S 8 → wu5.heap[b1]? = some (.cells #[(.int .u8 d.1), (.int .u64 d.2.1), (.int .u64 d.2.2.1), (.slice d.2.2.2.1.at' d.2.2.2.1.len d.2.2.2.1.cap)] 25 (0, 0))) ∧ (S 8 → wu5.heap[b1]? = some (.cells #[(.int .u8 d.1), (.int .u64 d.2.1), (.int .u64 d.2.2.1), (.slice d.2.2.2.1.at' d.2.2.2.1.len d.2.2.2.1.cap)] 25 (0, 0))) := hC
              refine uv_plain (C := (fun S wq => GO w6 b1 (Value.slice roa ((((List.range k).map (lnB l))).length) roc) wq ∧ (¬ S 11 → Row 1 vStr 9 (w.heap.size) wq (Value.slice roa ((((List.range k).map (lnB l))).length) roc) ((List.range k).map (lnB l))) ∧ (¬ S 8 → wq.heap[b1]? = some (.cells #[(.int .u8 d.1), (.int .u64 d.2.1), (.int .u64 d.2.2.1), (.slice d.2.2.2.1.at' d.2.2.2.1.len d.2.2.2.1.cap)] 25 (0, 0))) ∧ (S 8 → wq.heap[b1]? = some (.cells #[(.int .u8 d.1), (.int .u64 d.2.1), (.int .u64 d.2.2.1), (.slice d.2.2.2.1.at' d.2.2.2.1.len d.2.2.2.1.cap)] 25 (0, 0))))) (hKP 5 S wu5) (fun w' h1 h2 => ⟨h1.1.below h2, fun hn => Row.ext (h1.2.1 (fun hs => hn (.inr hs))) h2, fun hn => blk_ext (h1.2.2.1 (fun hs => hn (.inr hs))) h2, fun hs => blk_ext (h1.2.2.2 (by rcases hs with e | hs; exact absurd e (by decide); exact hs)) h2⟩) hC hS ?_
              obtain ⟨hC, hCr, hCo, hCn⟩ := hC
              have h4 := hS.post 4 (hd 4 (by decide))
              replace h4 : V 4 = (.int .i64 (((Fl.depthsP (Fl.opl l)).getD k 0))) := h4
              replace hra1 := Row.go hra1 hC (Row.ne_type hra1 hk2 rfl) (Row.ne_row hra1 hro rfl)
              have hKb : wu5.heap[b1]? = some (.cells #[(.int .u8 d.1), (.int .u64 d.2.1), (.int .u64 d.2.2.1), (.slice d.2.2.2.1.at' d.2.2.2.1.len d.2.2.2.1.cap)] 25 (0, 0)) := by by_cases hz : S 8; exact hCn hz; exact hCo hz
              replace hk2 := hKb
              exact Runs.does (r_max (congrArg some h4) rfl) ⟨Below.refl _ _, rfl, nofr rfl⟩
            refine ⟨fun S wu6 hC hS hd hi => ?_, ?_⟩
            · skip
              replace hC : GO w6 b1 (Value.slice roa ((((List.range k).map (lnB l))).length) roc) wu6 ∧ (¬ S 11 → Row 1 vStr 9 (w.heap.size) wu6 (Value.slice roa ((((List.range k).map (lnB l))).length) roc) ((List.range k).map (lnB l))) ∧ (¬ S 8 → wu6.heap[b1]? = some (.cells #[(.int .u8 d.1), (.int .u64 d.2.1), (.int .u64 d.2.2.1), (.slice d.2.2.2.1.at' d.2.2.2.1.len d.2.2.2.1.cap)] 25 (0, 0))) ∧ (S 8 → wu6.heap[b1]? = some (.cells #[(.int .u8 d.1), (.int .u64 d.2.1), (.int .u64 d.2.2.1), (.slice d.2.2.2.1.at' d.2.2.2.1.len d.2.2.2.1.cap)] 25 (0, 0))) := hC
              refine uv_plain (C := (fun S wq => GO w6 b1 (Value.slice roa ((((List.range k).map (lnB l))).length) roc) wq ∧ (¬ S 11 → Row 1 vStr 9 (w.heap.size) wq (Value.slice roa ((((List.range k).map (lnB l))).length) roc) ((List.range k).map (lnB l))) ∧ (¬ S 8 → wq.heap[b1]? = some (.cells #[(.int .u8 d.1), (.int .u64 d.2.1), (.int .u64 d.2.2.1), (.slice d.2.2.2.1.at' d.2.2.2.1.len d.2.2.2.1.cap)] 25 (0, 0))) ∧ (S 8 → wq.heap[b1]? = some (.cells #[(.int .u8 d.1), (.int .u64 d.2.1), (.int .u64 d.2.2.1), (.slice d.2.2.2.1.at' d.2.2.2.1.len d.2.2.2.1.cap)] 25 (0, 0))))) (hKP 6 S wu6) (fun w' h1 h2 => ⟨h1.1.below h2, fun hn => Row.ext (h1.2.1 (fun hs => hn (.inr hs))) h2, fun hn => blk_ext (h1.2.2.1 (fun hs => hn (.inr hs))) h2, fun hs => blk_ext (h1.2.2.2 (by rcases hs with e | hs; exact absurd e (by decide); exact hs)) h2⟩) hC hS ?_
              obtain ⟨hC, hCr, hCo, hCn⟩ := hC
              have h5 := hS.post 5 (hd 5 (by decide))
              replace h5 : V 5 = (.int .i64 (if (((Fl.depthsP (Fl.opl l)).getD k 0)) < (0 : Int) then (0 : Int) else (((Fl.depthsP (Fl.opl l)).getD k 0)))) := h5
              replace hra1 := Row.go hra1 hC (Row.ne_type hra1 hk2 rfl) (Row.ne_row hra1 hro rfl)
              have hKb : wu6.heap[b1]? = some (.cells #[(.int .u8 d.1), (.int .u64 d.2.1), (.int .u64 d.2.2.1), (.slice d.2.2.2.1.at' d.2.2.2.1.len d.2.2.2.1.cap)] 25 (0, 0)) := by by_cases hz : S 8; exact hCn hz; exact hCo hz
              replace hk2 := hKb
              refine Does.mono (d_callB (vs := [(.string ⟨#[32, 32]⟩), (.int .i64 (if (((Fl.depthsP (Fl.opl l)).getD k 0)) < (0 : Int) then (0 : Int) else (((Fl.depthsP (Fl.opl l)).getD k 0))))]) (show [some (.string ⟨#[32, 32]⟩), some (V 5)] = [some (.string ⟨#[32, 32]⟩), some (.int .i64 (if (((Fl.depthsP (Fl.opl l)).getD k 0)) < (0 : Int) then (0 : Int) else (((Fl.depthsP (Fl.opl l)).getD k 0))))] from by rw [h5]) Tryd.func37 (by kernel_rfl) (by kernel_rfl) (rpt_call2 ((Fl.depthsP (Fl.opl l)).getD k 0) _ (by omega))) (fun _ _ h => ⟨h.2, h.1, nofr rfl⟩)
            refine ⟨fun S wu7 hC hS hd hi => ?_, ?_⟩
            · skip
              replace hC : GO w6 b1 (Value.slice roa ((((List.range k).map (lnB l))).length) roc) wu7 ∧ (¬ S 11 → Row 1 vStr 9 (w.heap.size) wu7 (Value.slice roa ((((List.range k).map (lnB l))).length) roc) ((List.range k).map (lnB l))) ∧ (¬ S 8 → wu7.heap[b1]? = some (.cells #[(.int .u8 d.1), (.int .u64 d.2.1), (.int .u64 d.2.2.1), (.slice d.2.2.2.1.at' d.2.2.2.1.len d.2.2.2.1.cap)] 25 (0, 0))) ∧ (S 8 → wu7.heap[b1]? = some (.cells #[(.int .u8 d.1), (.int .u64 d.2.1), (.int .u64 d.2.2.1), (.slice d.2.2.2.1.at' d.2.2.2.1.len d.2.2.2.1.cap)] 25 (0, 0))) := hC
              refine uv_plain (C := (fun S wq => GO w6 b1 (Value.slice roa ((((List.range k).map (lnB l))).length) roc) wq ∧ (¬ S 11 → Row 1 vStr 9 (w.heap.size) wq (Value.slice roa ((((List.range k).map (lnB l))).length) roc) ((List.range k).map (lnB l))) ∧ (¬ S 8 → wq.heap[b1]? = some (.cells #[(.int .u8 d.1), (.int .u64 d.2.1), (.int .u64 d.2.2.1), (.slice d.2.2.2.1.at' d.2.2.2.1.len d.2.2.2.1.cap)] 25 (0, 0))) ∧ (S 8 → wq.heap[b1]? = some (.cells #[(.int .u8 d.1), (.int .u64 d.2.1), (.int .u64 d.2.2.1), (.slice d.2.2.2.1.at' d.2.2.2.1.len d.2.2.2.1.cap)] 25 (0, 0))))) (hKP 7 S wu7) (fun w' h1 h2 => ⟨h1.1.below h2, fun hn => Row.ext (h1.2.1 (fun hs => hn (.inr hs))) h2, fun hn => blk_ext (h1.2.2.1 (fun hs => hn (.inr hs))) h2, fun hs => blk_ext (h1.2.2.2 (by rcases hs with e | hs; exact absurd e (by decide); exact hs)) h2⟩) hC hS ?_
              obtain ⟨hC, hCr, hCo, hCn⟩ := hC
              replace hra1 := Row.go hra1 hC (Row.ne_type hra1 hk2 rfl) (Row.ne_row hra1 hro rfl)
              have hKb : wu7.heap[b1]? = some (.cells #[(.int .u8 d.1), (.int .u64 d.2.1), (.int .u64 d.2.2.1), (.slice d.2.2.2.1.at' d.2.2.2.1.len d.2.2.2.1.cap)] 25 (0, 0)) := by by_cases hz : S 8; exact hCn hz; exact hCo hz
              replace hk2 := hKb
              exact Runs.does (r_loadA (cs := [(.int .u8 d.1), (.int .u64 d.2.1), (.int .u64 d.2.2.1), (.slice d.2.2.2.1.at' d.2.2.2.1.len d.2.2.2.1.cap)]) rfl Tryd.underlying25 rfl (by kernel_rfl) (cellsAt_blk hk2)) ⟨Below.refl _ _, rfl, nofr rfl⟩
            refine ⟨fun S wu8 hC hS hd hi => ?_, ?_⟩
            · skip
              replace hC : GO w6 b1 (Value.slice roa ((((List.range k).map (lnB l))).length) roc) wu8 ∧ (¬ S 11 → Row 1 vStr 9 (w.heap.size) wu8 (Value.slice roa ((((List.range k).map (lnB l))).length) roc) ((List.range k).map (lnB l))) ∧ (¬ S 8 → wu8.heap[b1]? = some (.cells #[(.int .u8 d.1), (.int .u64 d.2.1), (.int .u64 d.2.2.1), (.slice d.2.2.2.1.at' d.2.2.2.1.len d.2.2.2.1.cap)] 25 (0, 0))) ∧ (S 8 → wu8.heap[b1]? = some (.cells #[(.int .u8 d.1), (.int .u64 d.2.1), (.int .u64 d.2.2.1), (.slice d.2.2.2.1.at' d.2.2.2.1.len d.2.2.2.1.cap)] 25 (0, 0))) := hC
              refine uv_plain (C := (fun S wq => GO w6 b1 (Value.slice roa ((((List.range k).map (lnB l))).length) roc) wq ∧ (¬ S 11 → Row 1 vStr 9 (w.heap.size) wq (Value.slice roa ((((List.range k).map (lnB l))).length) roc) ((List.range k).map (lnB l))) ∧ (¬ S 8 → wq.heap[b1]? = some (.cells #[(.int .u8 d.1), (.int .u64 d.2.1), (.int .u64 d.2.2.1), (.slice d.2.2.2.1.at' d.2.2.2.1.len d.2.2.2.1.cap)] 25 (0, 0))) ∧ (S 8 → wq.heap[b1]? = some (.cells #[(.int .u8 d.1), (.int .u64 d.2.1), (.int .u64 d.2.2.1), (.slice d.2.2.2.1.at' d.2.2.2.1.len d.2.2.2.1.cap)] 25 (0, 0))))) (hKP 8 S wu8) (fun w' h1 h2 => ⟨h1.1.below h2, fun hn => Row.ext (h1.2.1 (fun hs => hn (.inr hs))) h2, fun hn => absurd (.inl rfl) hn, fun _ => blk_ext (h1.2.2.1 hi) h2⟩) hC hS ?_
              obtain ⟨hC, hCr, hCo, hCn⟩ := hC
              have h6 := hS.post 6 (hd 6 (by decide))
              replace h6 : V 6 = (.string (rptS ((Fl.depthsP (Fl.opl l)).getD k 0))) := h6
              have h7 := hS.post 7 (hd 7 (by decide))
              replace h7 : V 7 = (.agg #[(.int .u8 d.1), (.int .u64 d.2.1), (.int .u64 d.2.2.1), (.slice d.2.2.2.1.at' d.2.2.2.1.len d.2.2.2.1.cap)]) := h7
              replace hra1 := Row.go hra1 hC (Row.ne_type hra1 hk2 rfl) (Row.ne_row hra1 hro rfl)
              have hKb : wu8.heap[b1]? = some (.cells #[(.int .u8 d.1), (.int .u64 d.2.1), (.int .u64 d.2.2.1), (.slice d.2.2.2.1.at' d.2.2.2.1.len d.2.2.2.1.cap)] 25 (0, 0)) := by by_cases hz : S 8; exact hCn hz; exact hCo hz
              replace hk2 := hKb
              refine Does.mono (d_callB (vs := [(.agg #[(.int .u8 d.1), (.int .u64 d.2.1), (.int .u64 d.2.2.1), (.slice d.2.2.2.1.at' d.2.2.2.1.len d.2.2.2.1.cap)])]) (show [some (V 7)] = [some (.agg #[(.int .u8 d.1), (.int .u64 d.2.1), (.int .u64 d.2.2.1), (.slice d.2.2.2.1.at' d.2.2.2.1.len d.2.2.2.1.cap)])] from by rw [h7]) Tryd.func7 (by kernel_rfl) (by kernel_rfl) (lineI_any d _ ((hG d hdm).ext (Below_go hb hC hb.size hBb1 (fun q hq => by have := (Row.lt hro q hq).1; omega))) (by have := hn d hdm; omega))) (fun _ _ h => ⟨h.2, h.1, nofr rfl⟩)
            refine ⟨fun S wu9 hC hS hd hi => ?_, ?_⟩
            · skip
              replace hC : GO w6 b1 (Value.slice roa ((((List.range k).map (lnB l))).length) roc) wu9 ∧ (¬ S 11 → Row 1 vStr 9 (w.heap.size) wu9 (Value.slice roa ((((List.range k).map (lnB l))).length) roc) ((List.range k).map (lnB l))) ∧ (¬ S 8 → wu9.heap[b1]? = some (.cells #[(.int .u8 d.1), (.int .u64 d.2.1), (.int .u64 d.2.2.1), (.slice d.2.2.2.1.at' d.2.2.2.1.len d.2.2.2.1.cap)] 25 (0, 0))) ∧ (S 8 → wu9.heap[b1]? = some (.cells #[(.int .u8 d.1), (.int .u64 d.2.1), (.int .u64 d.2.2.1), (.slice d.2.2.2.1.at' d.2.2.2.1.len d.2.2.2.1.cap)] 25 (0, 0))) := hC
              refine uv_plain (C := (fun S wq => GO w6 b1 (Value.slice roa ((((List.range k).map (lnB l))).length) roc) wq ∧ (¬ S 11 → Row 1 vStr 9 (w.heap.size) wq (Value.slice roa ((((List.range k).map (lnB l))).length) roc) ((List.range k).map (lnB l))) ∧ (¬ S 8 → wq.heap[b1]? = some (.cells #[(.int .u8 d.1), (.int .u64 d.2.1), (.int .u64 d.2.2.1), (.slice d.2.2.2.1.at' d.2.2.2.1.len d.2.2.2.1.cap)] 25 (0, 0))) ∧ (S 8 → wq.heap[b1]? = some (.cells #[(.int .u8 d.1), (.int .u64 d.2.1), (.int .u64 d.2.2.1), (.slice d.2.2.2.1.at' d.2.2.2.1.len d.2.2.2.1.cap)] 25 (0, 0))))) (hKP 9 S wu9) (fun w' h1 h2 => ⟨h1.1.below h2, fun hn => Row.ext (h1.2.1 (fun hs => hn (.inr hs))) h2, fun hn => blk_ext (h1.2.2.1 (fun hs => hn (.inr hs))) h2, fun hs => blk_ext (h1.2.2.2 (by rcases hs with e | hs; exact absurd e (by decide); exact hs)) h2⟩) hC hS ?_
              obtain ⟨hC, hCr, hCo, hCn⟩ := hC
              have h6 := hS.post 6 (hd 6 (by decide))
              replace h6 : V 6 = (.string (rptS ((Fl.depthsP (Fl.opl l)).getD k 0))) := h6
              have h8 := hS.post 8 (hd 8 (by decide))
              replace h8 : V 8 = (.string (lineI d)) := h8
              replace hra1 := Row.go hra1 hC (Row.ne_type hra1 hk2 rfl) (Row.ne_row hra1 hro rfl)
              have hKb : wu9.heap[b1]? = some (.cells #[(.int .u8 d.1), (.int .u64 d.2.1), (.int .u64 d.2.2.1), (.slice d.2.2.2.1.at' d.2.2.2.1.len d.2.2.2.1.cap)] 25 (0, 0)) := by by_cases hz : S 8; exact hCn hz; exact hCo hz
              replace hk2 := hKb
              exact Runs.does (r_sadd (congrArg some h6) (congrArg some h8) (by omega)) ⟨Below.refl _ _, rfl, nofr rfl⟩
            refine ⟨fun S wu10 hC hS hd hi => ?_, ?_⟩
            · skip
              replace hC : GO w6 b1 (Value.slice roa ((((List.range k).map (lnB l))).length) roc) wu10 ∧ (¬ S 11 → Row 1 vStr 9 (w.heap.size) wu10 (Value.slice roa ((((List.range k).map (lnB l))).length) roc) ((List.range k).map (lnB l))) ∧ (¬ S 8 → wu10.heap[b1]? = some (.cells #[(.int .u8 d.1), (.int .u64 d.2.1), (.int .u64 d.2.2.1), (.slice d.2.2.2.1.at' d.2.2.2.1.len d.2.2.2.1.cap)] 25 (0, 0))) ∧ (S 8 → wu10.heap[b1]? = some (.cells #[(.int .u8 d.1), (.int .u64 d.2.1), (.int .u64 d.2.2.1), (.slice d.2.2.2.1.at' d.2.2.2.1.len d.2.2.2.1.cap)] 25 (0, 0))) := hC
              refine uv_plain (C := (fun S wq => GO w6 b1 (Value.slice roa ((((List.range k).map (lnB l))).length) roc) wq ∧ (¬ S 11 → Row 1 vStr 9 (w.heap.size) wq (Value.slice roa ((((List.range k).map (lnB l))).length) roc) ((List.range k).map (lnB l))) ∧ (¬ S 8 → wq.heap[b1]? = some (.cells #[(.int .u8 d.1), (.int .u64 d.2.1), (.int .u64 d.2.2.1), (.slice d.2.2.2.1.at' d.2.2.2.1.len d.2.2.2.1.cap)] 25 (0, 0))) ∧ (S 8 → wq.heap[b1]? = some (.cells #[(.int .u8 d.1), (.int .u64 d.2.1), (.int .u64 d.2.2.1), (.slice d.2.2.2.1.at' d.2.2.2.1.len d.2.2.2.1.cap)] 25 (0, 0))))) (hKP 10 S wu10) (fun w' h1 h2 => ⟨h1.1.below h2, fun hn => Row.ext (h1.2.1 (fun hs => hn (.inr hs))) h2, fun hn => blk_ext (h1.2.2.1 (fun hs => hn (.inr hs))) h2, fun hs => blk_ext (h1.2.2.2 (by rcases hs with e | hs; exact absurd e (by decide); exact hs)) h2⟩) hC hS ?_
              obtain ⟨hC, hCr, hCo, hCn⟩ := hC
              have h9 := hS.post 9 (hd 9 (by decide))
              replace h9 : V 9 = (.string ((rptS ((Fl.depthsP (Fl.opl l)).getD k 0)) ++ (lineI d))) := h9
              replace hra1 := Row.go hra1 hC (Row.ne_type hra1 hk2 rfl) (Row.ne_row hra1 hro rfl)
              have hKb : wu10.heap[b1]? = some (.cells #[(.int .u8 d.1), (.int .u64 d.2.1), (.int .u64 d.2.2.1), (.slice d.2.2.2.1.at' d.2.2.2.1.len d.2.2.2.1.cap)] 25 (0, 0)) := by by_cases hz : S 8; exact hCn hz; exact hCo hz
              replace hk2 := hKb
              refine Does.mono (d_bslice (z := (.string ⟨#[]⟩)) (sz := 1) (vs := [(0, (.string ((rptS ((Fl.depthsP (Fl.opl l)).getD k 0)) ++ (lineI d))))]) (cs := #[(.string ((rptS ((Fl.depthsP (Fl.opl l)).getD k 0)) ++ (lineI d)))]) (show [(0, some (V 9))] = [(0, some (.string ((rptS ((Fl.depthsP (Fl.opl l)).getD k 0)) ++ (lineI d))))] from by rw [h9]) Tryd.underlying43 (by kernel_rfl) rfl (by kernel_rfl)) ?_
              rintro _ w' ⟨b, rfl, hF⟩
              exact ⟨hF.2.2, ⟨b, rfl, Nat.le_trans hC.size hF.1, hF.2.1⟩, isfr rfl hF.1 (blk_lt hF.2.1)⟩
            refine ⟨fun S wu11 hC hS hd hi => ?_, ?_⟩
            · skip
              replace hC : GO w6 b1 (Value.slice roa ((((List.range k).map (lnB l))).length) roc) wu11 ∧ (¬ S 11 → Row 1 vStr 9 (w.heap.size) wu11 (Value.slice roa ((((List.range k).map (lnB l))).length) roc) ((List.range k).map (lnB l))) ∧ (¬ S 8 → wu11.heap[b1]? = some (.cells #[(.int .u8 d.1), (.int .u64 d.2.1), (.int .u64 d.2.2.1), (.slice d.2.2.2.1.at' d.2.2.2.1.len d.2.2.2.1.cap)] 25 (0, 0))) ∧ (S 8 → wu11.heap[b1]? = some (.cells #[(.int .u8 d.1), (.int .u64 d.2.1), (.int .u64 d.2.2.1), (.slice d.2.2.2.1.at' d.2.2.2.1.len d.2.2.2.1.cap)] 25 (0, 0))) := hC
              obtain ⟨hC, hCr, hCo, hCn⟩ := hC
              have h0 := hS.post 0 (hd 0 (by decide))
              replace h0 : V 0 = (.slice roa ((((List.range k).map (lnB l))).length) roc) := h0
              have h8 := hS.post 8 (hd 8 (by decide))
              replace h8 : V 8 = (.string (lineI d)) := h8
              have h10 := hS.post 10 (hd 10 (by decide))
              obtain ⟨b2, h10, hle2, hk3⟩ := h10
              replace hra1 := Row.go hra1 hC (Row.ne_type hra1 hk2 rfl) (Row.ne_row hra1 hro rfl)
              have hKb : wu11.heap[b1]? = some (.cells #[(.int .u8 d.1), (.int .u64 d.2.1), (.int .u64 d.2.2.1), (.slice d.2.2.2.1.at' d.2.2.2.1.len d.2.2.2.1.cap)] 25 (0, 0)) := by by_cases hz : S 8; exact hCn hz; exact hCo hz
              replace hk2 := hKb
              replace hro := hCr hi
              have hrB := Row.of_new (k := 1) (V := vStr) (l := [((rptS ((Fl.depthsP (Fl.opl l)).getD k 0)) ++ (lineI d))]) (base := w6.heap.size) hk3 hle2 rfl rfl (Nat.le_of_ble_eq_true rfl)
              refine Does.mono (d_append (V := vStr) (k := 1) (e := 9) (bytes := 16) (z := (.string ⟨#[]⟩)) (news := [((rptS ((Fl.depthsP (Fl.opl l)).getD k 0)) ++ (lineI d))]) (base := w.heap.size) (by intros; rfl) (by intro x u hu; simp only [vStr, List.mem_singleton] at hu; subst hu; rfl) (congrArg some h0) (congrArg some h10) Tryd.underlying43 (by kernel_rfl) rfl rfl rfl hro (Row.rd (by intros; rfl) hrB) rfl (fun h => by cases h) (by first | omega | (simp only [List.length_cons, List.length_nil, List.length_append, nums_len]; omega)) (by have := hb.size; have := hC.size; omega)) ?_
              rintro v' wz ⟨hY, hgY⟩
              obtain ⟨ra, rc, rfl, _, _⟩ := Row.slice hY
              refine ⟨⟨⟨hC.app hgY, fun hn => absurd (.inl rfl) hn, fun hn => absurd (.inr (hd 8 (by decide))) hn, fun _ => (hgY.block b1 (blk_lt (hCn (hd 8 (by decide)))) (fun e => Row.ne_type hro (hCn (hd 8 (by decide))) rfl e.symm)).trans (hCn (hd 8 (by decide)))⟩, fun j hj => ?_, hgY.size⟩, ⟨ra, rc, rfl, hY⟩, nofr rfl⟩
              match j with
              | 0 =>
                exact hS.post 0 hj
              | 1 =>
                exact hS.post 1 hj
              | 2 =>
                exact hS.post 2 hj
              | 3 =>
                exact hS.post 3 hj
              | 4 =>
                exact hS.post 4 hj
              | 5 =>
                exact hS.post 5 hj
              | 6 =>
                exact hS.post 6 hj
              | 7 =>
                exact hS.post 7 hj
              | 8 =>
                exact hS.post 8 hj
              | 9 =>
                exact hS.post 9 hj
              | 10 =>
                obtain ⟨b, e1, e2, e3⟩ := hS.post 10 hj
                exact ⟨b, e1, e2, (hgY.block b (blk_lt e3) (fun e => by have := hlV b e.symm; omega)).trans e3⟩
              | 11 =>
                exact absurd hj hi
              | _ + 12 => trivial
            trivial
          · skip
            clear hf fa; intro V S w7 fa hall he5 hp hnb hf
            have hv0 := postsHold_at hp 0 rfl
            replace hv0 : V 0 = (.slice roa ((((List.range k).map (lnB l))).length) roc) := hv0
            have hv1 := postsHold_at hp 1 rfl
            replace hv1 : V 1 = (.slice (some ⟨rb1, 0, none⟩) ((((Fl.depthsP (Fl.opl l))).length)) rc1) := hv1
            have hv2 := postsHold_at hp 2 rfl
            replace hv2 : V 2 = (.int .i64 ((k : Nat) : Int)) := hv2
            have hv3 := postsHold_at hp 3 rfl
            replace hv3 : V 3 = (.pointer (some ⟨rb1, (0 + k * 1), none⟩)) := hv3
            have hv4 := postsHold_at hp 4 rfl
            replace hv4 : V 4 = (.int .i64 (((Fl.depthsP (Fl.opl l)).getD k 0))) := hv4
            have hv5 := postsHold_at hp 5 rfl
            replace hv5 : V 5 = (.int .i64 (if (((Fl.depthsP (Fl.opl l)).getD k 0)) < (0 : Int) then (0 : Int) else (((Fl.depthsP (Fl.opl l)).getD k 0)))) := hv5
            have hv6 := postsHold_at hp 6 rfl
            replace hv6 : V 6 = (.string (rptS ((Fl.depthsP (Fl.opl l)).getD k 0))) := hv6
            have hv7 := postsHold_at hp 7 rfl
            replace hv7 : V 7 = (.agg #[(.int .u8 d.1), (.int .u64 d.2.1), (.int .u64 d.2.2.1), (.slice d.2.2.2.1.at' d.2.2.2.1.len d.2.2.2.1.cap)]) := hv7
            have hv8 := postsHold_at hp 8 rfl
            replace hv8 : V 8 = (.string (lineI d)) := hv8
            have hv9 := postsHold_at hp 9 rfl
            replace hv9 : V 9 = (.string ((rptS ((Fl.depthsP (Fl.opl l)).getD k 0)) ++ (lineI d))) := hv9
            have hv10 := postsHold_at hp 10 rfl
            obtain ⟨b2, hv10, hle2, hk3⟩ := hv10
            have hBb2 : w.heap.size ≤ b2 := Nat.le_trans hb.size hle2
            have hv11 := postsHold_at hp 11 rfl
            obtain ⟨ra2, rc2, hv11, hr2⟩ := hv11
            rw [hv11] at hr2
            have hcrc2 := Row.caps hr2
            simp only [List.take_succ_cons, List.take_zero, insAll, ins, hv0, hv1, hv2, hv3, hv4, hv5, hv6, hv7, hv8, hv9, hv10, hv11] at hf
            obtain ⟨he5, _, _, hk4⟩ := he5
            replace hk4 := hk4 (hall 8 (show 8 < 12 by decide))
            replace hra1 := Row.go hra1 he5 (Row.ne_type hra1 hk2 rfl) (Row.ne_row hra1 hro rfl)
            replace hb := Below_go hb he5 hb.size hBb1 (fun q hq => by have := (Row.lt hro q hq).1; omega)
            clear hp hnb hall hlV hro hv0 hv1 hv2 hv3 hv4 hv5 hv6 hv7 hv8 hv9 hv10 hv11
            simp only [List.drop_succ_cons, List.drop_zero]
            refine sqv hf (r_assign rfl) rfl rfl rfl ?_; clear hf fa; intro fa hf
            apply wpList_nil
            (try simp only [Exit.then, Exit.inBlock, ↓reduceIte, Nat.reduceEqDiff])
            refine hK12 _ _ ?_
            refine wp_region_lit ?_
            refine sqv hf (r_add (C := (((k : Nat) : Int) + (1 : Int))) rfl rfl (by rw [IntKind.wrap_i64]; omega)) rfl rfl rfl ?_; clear hf fa; intro fa hf
            refine sqv hf (r_move rfl) rfl rfl rfl ?_; clear hf fa; intro fa hf
            apply wpList_nil
            (try simp only [Exit.then, Exit.inBlock, ↓reduceIte, Nat.reduceEqDiff])
            have hsn := range_snoc (lnB l) k
            rw [show lnB l k = rptS ((Fl.depthsP (Fl.opl l)).getD k 0) ++ lineI d from by unfold lnB; rw [hdz]] at hsn
            refine hKL1 _ _ _ (by omega) ⟨(k + 1), ra2, rc2, rfl, hf.sub ⟨(some_sl (by first | omega | rfl | (simp only [List.length_append, List.length_cons, List.length_nil]; omega) | (simp <;> omega)) rfl), rfl, rfl, (some_int (by first | rfl | omega)), (some_sl (by first | omega | rfl | (simp only [List.length_append, List.length_cons, List.length_nil]; omega) | (simp <;> omega)) rfl), trivial⟩, hb, (rowTo6 hr2 hsn), hra1, by omega, (by rw [Hs, firstR_drop hd, if_neg hqt27_1])⟩
      · have hqt20_1b := hqt20_1
        replace hqt20_1 := Bool.eq_false_iff.1 hqt20_1
        try simp only [ne_eq, decide_eq_true_eq, Bool.and_eq_true, Bool.or_eq_true, Bool.not_eq_true', decide_eq_false_iff_not] at hqt20_1
        refine wp_exit ?_
        (try simp only [Exit.then, Exit.inBlock, ↓reduceIte, Nat.reduceEqDiff])
        refine hK8 _ _ ?_
        refine wp_seq_k (fun K18 hK18 => ?_)
        refine wp_region_lit ?_
        refine sqv hf (r_move rfl) rfl rfl rfl ?_; clear hf fa; intro fa hf
        refine sqv hf (r_assign rfl) rfl rfl rfl ?_; clear hf fa; intro fa hf
        refine sqv hf (r_assign rfl) rfl rfl rfl ?_; clear hf fa; intro fa hf
        apply wpList_nil
        (try simp only [Exit.then, Exit.inBlock, ↓reduceIte, Nat.reduceEqDiff])
        refine hK18 _ _ ?_
        refine wp_ret ?_
        (try simp only [Exit.then, Exit.inBlock])
        refine ret2 hf rfl rfl rfl ?_
        have hkl : k = l.length := by omega
        obtain ⟨e1, e2⟩ := boE_ok hsh (by rw [Hs, List.drop_eq_nil_of_le (by omega)]; rfl)
        rw [e1, e2]
        unfold bodyP
        rw [← hkl]
        exact ⟨_, rfl, _, _, rfl, hro, hb⟩
end Go.Proofs.YtpalmpfkliepfaaDoor

namespace Go.Proofs.YtpalmpfkliepfaaDoor
open Go.RowKit Ut
set_option linter.unusedVariables false
set_option linter.unusedSimpArgs false
attribute [local irreducible] infP ofP chkP rchkP

def trimP (s : ByteArray) : ByteArray := ⟨(Lib.trimLeftB s.data.toList 32).toArray⟩
theorem trimP_len (s : ByteArray) : (trimP s).size ≤ s.size := by
  unfold trimP Lib.trimLeftB
  show (List.dropWhile (· == 32) s.data.toList).toArray.size ≤ s.data.size
  rw [List.size_toArray, ← Array.length_toList]
  exact (List.dropWhile_suffix _).length_le
theorem trim_call (s : ByteArray) (w : World) : Calls Tryd.prog 40 #[.string s, .string ⟨#[32]⟩] w fun e w' => e = .returned (.string (trimP s)) ∧ w = w' := (sh_strings_TrimLeft_one s 32 (by decide) w).mono (fun e w' h => ⟨h.1, h.2.symm⟩)
def keyS (s : ByteArray) : Int × Int × Int × List Int := (pO (trimP s), pA (trimP s), pB (trimP s), pL (trimP s))
def opsP (M : List ByteArray) : List Int := M.map fun s => pO (trimP s)
def rbR : List ByteArray → Nat → Int × Int
  | [], k => (((k : Nat) : Int), 0)
  | s :: r, k => if pE (trimP s) ≠ 0 then (((k : Nat) : Int), pE (trimP s)) else rbR r (k + 1)
def rbP (M : List ByteArray) : Int × Int := if (rbR M 0).2 ≠ 0 then rbR M 0 else (((M.length : Nat) : Int), Fl.shapeP (opsP M))
theorem rbR_drop {M : List ByteArray} {k : Nat} {s : ByteArray} (h : M[k]? = some s) : rbR (M.drop k) k = if pE (trimP s) ≠ 0 then (((k : Nat) : Int), pE (trimP s)) else rbR (M.drop (k + 1)) (k + 1) := by
  rw [drop_atH h]; rfl
theorem opl_ops {X : List MIn} {M : List ByteArray} (h : X.map keyI = M.map keyS) : Fl.opl X = opsP M := by
  have h1 : (X.map keyI).map (fun p => p.1) = (M.map keyS).map (fun p => p.1) := by rw [h]
  rw [List.map_map, List.map_map] at h1
  exact h1
theorem key_snoc {X : List MIn} {M : List ByteArray} {kk : Nat} {s : ByteArray} (h : X.map keyI = (M.take kk).map keyS) (hs : M[kk]? = some s) (a : Option Addr) (c : Nat) : (X ++ [mkI (pO (trimP s)) (pA (trimP s)) (pB (trimP s)) (pL (trimP s)) a c]).map keyI = (M.take (kk + 1)).map keyS := by
  rw [List.map_append, h, List.take_add_one, hs, List.map_append]
  show _ ++ [keyI (mkI _ _ _ _ a c)] = _ ++ [keyS s]
  have e : keyI (mkI (pO (trimP s)) (pA (trimP s)) (pB (trimP s)) (pL (trimP s)) a c) = keyS s := by
    unfold keyI keyS
    rw [mkI_list]; rfl
  rw [e]

set_option maxHeartbeats 1000000 in
set_option maxRecDepth 100000 in
theorem readbody_any (M : List ByteArray) (a : Option Addr) (c : Nat) (w : World) (hl : RdS 1 vStr w a M) (hc : M.length ≤ c) (hm : M.length ≤ 60) (hsz : ∀ y ∈ M, y.size ≤ 5000) : Calls Tryd.prog 17 #[(.slice a M.length c)] w fun e w' => ∃ v, e = .returned v ∧ ∃ (X : List MIn) (aX : Option Addr) (cX : Nat), v = (.tuple #[.slice aX X.length cX, .int .i64 (rbP M).1, .int .i64 (rbP M).2]) ∧ Row 4 vMIn 25 w.heap.size w' (.slice aX X.length cX) X ∧ IRel w.heap.size w' X ∧ ((rbP M).2 = 0 → X.map keyI = M.map keyS) ∧ Below w.heap.size w w' := by
  refine sx_enter (L := [(0, (.slice a M.length c))]) Tryd.func17 rfl rfl rfl rfl (fun fa hf => ?_)
  have hb : Below w.heap.size w w := Below.refl _ _
  refine wp_seq_k (fun K1 hK1 => ?_)
  refine wp_region_lit ?_
  refine sqv hf (r_assign rfl) rfl rfl rfl ?_; clear hf fa; intro fa hf
  refine sqv hf (r_assign rfl) rfl rfl rfl ?_; clear hf fa; intro fa hf
  refine sqv hf (r_assign rfl) rfl rfl rfl ?_; clear hf fa; intro fa hf
  apply wpList_nil
  (try simp only [Exit.then, Exit.inBlock, ↓reduceIte, Nat.reduceEqDiff])
  refine hK1 _ _ ?_
  refine wp_seq_k (fun K2 hK2 => ?_)
  refine wp_region_lit ?_
  refine sqv hf (r_assign rfl) rfl rfl rfl ?_; clear hf fa; intro fa hf
  apply wpList_nil
  (try simp only [Exit.then, Exit.inBlock, ↓reduceIte, Nat.reduceEqDiff])
  refine hK2 _ _ ?_
  refine wp_seq_k (fun K3 hK3 => ?_)
  refine wp_seq_k (fun K4 hK4 => ?_)
  refine wp_region_lit ?_
  refine sqv hf (r_move rfl) rfl rfl rfl ?_; clear hf fa; intro fa hf
  refine sqv hf (r_lensl rfl Tryd.underlying43) rfl rfl rfl ?_; clear hf fa; intro fa hf
  have hIR : IRel w.heap.size w [] := IRel.nil
  refine sqv hf (r_move rfl) rfl rfl rfl ?_; clear hf fa; intro fa hf
  apply wpList_nil
  (try simp only [Exit.then, Exit.inBlock, ↓reduceIte, Nat.reduceEqDiff])
  refine hK4 _ _ ?_
  refine wp_block ?_
  refine wp_loop_k (fun mq fa wr => ∃ (kk : Nat) (X : List MIn) (roa : Option Addr) (roc : Nat), mq = M.length - kk ∧ Fr 43 fa [(0, (.slice a M.length c)), (11, (.slice a M.length c)), (12, (.int .i64 ((M.length : Nat) : Int))), (13, (.int .i64 ((kk : Nat) : Int))), (5, (.slice roa X.length roc))] ∧ Below w.heap.size w wr ∧ Row 4 vMIn 25 (w.heap.size) wr (.slice roa (X.length) roc) X ∧ (kk ≤ M.length) ∧ (X.map keyI = (M.take kk).map keyS) ∧ (rbR M 0 = rbR (M.drop kk) kk) ∧ (IRel w.heap.size wr X)) ?_ ?_
  · skip
    exact ⟨_, 0, [], none, 0, rfl, hf.sub ⟨rfl, rfl, rfl, (some_int (by first | rfl | omega)), (some_sl (by first | omega | rfl | (simp only [List.length_append, List.length_cons, List.length_nil]; omega) | (simp <;> omega)) rfl), trivial⟩, hb, Row.nil, by omega, rfl, rfl, hIR⟩
  · skip
    clear hf fa; intro mq1 fa w1 hI KL1 hKL1
    clear hb
    obtain ⟨kk, X, roa, roc, hmq1, hf, hb, hro, hk, hXk, Hs, hIR⟩ := hI
    have hcro := Row.caps hro
    have hXl : X.length = kk := by have h := congrArg List.length hXk; rw [List.length_map, List.length_map, List.length_take] at h; omega
    refine wp_seq_k (fun K5 hK5 => ?_)
    refine wp_region_lit ?_
    refine sqv hf (r_lt rfl rfl) rfl rfl rfl ?_; clear hf fa; intro fa hf
    apply wpList_nil
    (try simp only [Exit.then, Exit.inBlock, ↓reduceIte, Nat.reduceEqDiff])
    refine hK5 _ _ ?_
    refine wp_seq_k (fun K6 hK6 => ?_)
    refine wp_cond_split (t := (decide (((kk : Nat) : Int) < ((M.length : Nat) : Int)))) (hf.ev rfl) (fun hqt14_1 => ?_) (fun hqt14_1 => ?_)
    · have hqt14_1b := hqt14_1
      try simp only [decide_eq_true_eq, Bool.and_eq_true, Bool.or_eq_true, Bool.not_eq_true', decide_eq_false_iff_not, ne_eq, Bool.not_eq_true] at hqt14_1
      refine wp_skip ?_
      (try simp only [Exit.then, Exit.inBlock, ↓reduceIte, Nat.reduceEqDiff])
      refine hK6 _ _ ?_
      refine wp_seq_k (fun K7 hK7 => ?_)
      refine wp_block ?_
      refine wp_seq_k (fun K8 hK8 => ?_)
      obtain ⟨y, hy⟩ : ∃ y, M[kk]? = some y := ⟨_, List.getElem?_eq_getElem (by omega)⟩
      have hym := List.mem_of_getElem? hy
      refine wp_region_lit ?_
      refine sqv hf (r_move rfl) rfl rfl rfl ?_; clear hf fa; intro fa hf
      have hy1 : (M)[kk]? = some y := hy
      obtain ⟨ab1, aoff1, hat1, hlb1, hel1⟩ := RdS.at hl hy1
      refine sqv hf (r_ixa (sz := 1) (j := kk) (evAt rfl hat1) rfl Tryd.underlying43 (by kernel_rfl) rfl (by omega) rfl) rfl rfl rfl ?_; clear hf fa; intro fa hf
      refine sqv hf (r_load (v := (.string y)) rfl Tryd.underlying9 rfl (cellsAt_cell (cellsAt_below hel1 hb hlb1) (i := 0) rfl rfl)) rfl rfl rfl ?_; clear hf fa; intro fa hf
      refine sqv hf (r_assign rfl) rfl rfl rfl ?_; clear hf fa; intro fa hf
      refine sqv hf (r_assign rfl) rfl rfl rfl ?_; clear hf fa; intro fa hf
      apply wpList_nil
      (try simp only [Exit.then, Exit.inBlock, ↓reduceIte, Nat.reduceEqDiff])
      refine hK8 _ _ ?_
      refine wp_seq_k (fun K9 hK9 => ?_)
      refine wp_region_lit ?_
      refine sqv hf (r_move rfl) rfl rfl rfl ?_; clear hf fa; intro fa hf
      refine sqdt hf (d_callS (vs := [(.string y), (.string ⟨#[32]⟩)]) rfl Tryd.func40 (by kernel_rfl) (by kernel_rfl) (trim_call y _)) rfl rfl rfl ?_; clear hf fa; rintro fa _ _ ⟨rfl, rfl⟩ hf
      refine sqdt hf (d_callX (vs := [(.string (trimP y))]) rfl Tryd.func9 (by kernel_rfl) (by kernel_rfl) (parse_any (trimP y) _ (by have := trimP_len y; have := hsz y hym; omega))) rfl rfl rfl ?_; clear hf fa; rintro fa _ w2 ⟨aL1, cL1, rfl, hr1, he1⟩ hf
      replace hr1 := Row.rebase hr1 hb.size
      replace hro := Row.ext hro he1
      replace hIR := IRel.map hIR (fun bf cs hbf => blk_ext hbf he1)
      replace hb := hb.trans (Below.mono he1 hb.size)
      have hcaL1 := Row.caps hr1
      refine sqv hf (r_move rfl) rfl rfl rfl ?_; clear hf fa; intro fa hf
      refine sqv hf (r_extract rfl (i := 0) rfl) rfl rfl rfl ?_; clear hf fa; intro fa hf
      refine sqv hf (r_extract rfl (i := 1) rfl) rfl rfl rfl ?_; clear hf fa; intro fa hf
      refine sqdt hf (d_alloc (z := (.agg #[(.int .u8 (0 : Int)), (.int .u64 (0 : Int)), (.int .u64 (0 : Int)), (.slice none 0 0)])) (cs := #[(.int .u8 (0 : Int)), (.int .u64 (0 : Int)), (.int .u64 (0 : Int)), (.slice none 0 0)]) (by kernel_rfl) rfl) rfl rfl rfl ?_; clear hf fa; rintro fa _ w3 ⟨b1, rfl, hle1, hk1, he2⟩ hf
      have hBb1 : w.heap.size ≤ b1 := Nat.le_trans hb.size hle1
      have hnr1 : (Value.slice roa (X.length) roc).ownBlock ≠ some b1 := fun hq => by have := (Row.lt hro _ hq).2; omega
      have hnl1 : ∀ q, (Value.slice roa (X.length) roc).ownBlock = some q → q < b1 := fun q hq => Nat.lt_of_lt_of_le (Row.lt hro q hq).2 hle1
      replace hro := Row.ext hro he2
      replace hr1 := Row.ext hr1 he2
      replace hIR := IRel.map hIR (fun bf cs hbf => blk_ext hbf he2)
      replace hb := hb.trans (Below.mono he2 hb.size)
      refine sqn hf (d_storeK (T := 25) (v := (.agg #[(.int .u8 ((pO (trimP y)))), (.int .u64 ((pA (trimP y)))), (.int .u64 ((pB (trimP y)))), (.slice aL1 (((pL (trimP y)).length)) cL1)])) (cs := #[(.int .u8 (0 : Int)), (.int .u64 (0 : Int)), (.int .u64 (0 : Int)), (.slice none 0 0)]) (cs' := #[(.int .u8 ((pO (trimP y)))), (.int .u64 ((pA (trimP y)))), (.int .u64 ((pB (trimP y)))), (.slice aL1 (((pL (trimP y)).length)) cL1)]) rfl rfl (by kernel_rfl) (by kernel_rfl) hk1 (by kernel_rfl) (by kernel_rfl)) rfl rfl ?_; clear hf fa; rintro fa _ w4 ⟨hk2, hg1⟩ hf
      replace hro := Row.grown hro hg1 hnr1
      replace hr1 := Row.grown hr1 hg1 (Row.ne_type hr1 hk1 rfl)
      replace hIR := IRel.map hIR (fun bf cs hbf => blk_grown hbf hg1 (blk_ty hbf hk1 rfl))
      replace hb := hb.trans (grown_below hg1 hb.size hBb1)
      refine sqv hf (r_assign rfl) rfl rfl rfl ?_; clear hf fa; intro fa hf
      apply wpList_nil
      (try simp only [Exit.then, Exit.inBlock, ↓reduceIte, Nat.reduceEqDiff])
      refine hK9 _ _ ?_
      refine wp_seq_k (fun K10 hK10 => ?_)
      refine wp_seq_k (fun K11 hK11 => ?_)
      refine wp_region_lit ?_
      refine sqv hf (r_move rfl) rfl rfl rfl ?_; clear hf fa; intro fa hf
      refine sqv hf (r_ne rfl rfl) rfl rfl rfl ?_; clear hf fa; intro fa hf
      apply wpList_nil
      (try simp only [Exit.then, Exit.inBlock, ↓reduceIte, Nat.reduceEqDiff])
      refine hK11 _ _ ?_
      refine wp_cond_split (t := (decide (((pE (trimP y))) ≠ (0 : Int)))) (hf.ev rfl) (fun hqt25_1 => ?_) (fun hqt25_1 => ?_)
      · have hqt25_1b := hqt25_1
        try simp only [decide_eq_true_eq, Bool.and_eq_true, Bool.or_eq_true, Bool.not_eq_true', decide_eq_false_iff_not, ne_eq, Bool.not_eq_true] at hqt25_1
        refine wp_seq_k (fun K12 hK12 => ?_)
        refine wp_region_lit ?_
        refine sqv hf (r_move rfl) rfl rfl rfl ?_; clear hf fa; intro fa hf
        refine sqv hf (r_move rfl) rfl rfl rfl ?_; clear hf fa; intro fa hf
        refine sqv hf (r_assign rfl) rfl rfl rfl ?_; clear hf fa; intro fa hf
        refine sqv hf (r_assign rfl) rfl rfl rfl ?_; clear hf fa; intro fa hf
        refine sqv hf (r_assign rfl) rfl rfl rfl ?_; clear hf fa; intro fa hf
        apply wpList_nil
        (try simp only [Exit.then, Exit.inBlock, ↓reduceIte, Nat.reduceEqDiff])
        refine hK12 _ _ ?_
        refine wp_ret ?_
        (try simp only [Exit.then, Exit.inBlock])
        refine ret3 hf rfl rfl rfl rfl ?_
        have hr : rbR M 0 = (((kk : Nat) : Int), pE (trimP y)) := by rw [Hs, rbR_drop hy, if_pos hqt25_1]
        have hp : rbP M = (((kk : Nat) : Int), pE (trimP y)) := by unfold rbP; rw [hr, if_pos hqt25_1]
        rw [hp]
        exact ⟨_, rfl, [], none, 0, rfl, Row.nil, IRel.nil, fun h => absurd h hqt25_1, hb⟩
      · have hqt25_1b := hqt25_1
        replace hqt25_1 := Bool.eq_false_iff.1 hqt25_1
        try simp only [ne_eq, decide_eq_true_eq, Bool.and_eq_true, Bool.or_eq_true, Bool.not_eq_true', decide_eq_false_iff_not] at hqt25_1
        refine wp_skip ?_
        (try simp only [Exit.then, Exit.inBlock, ↓reduceIte, Nat.reduceEqDiff])
        refine hK10 _ _ ?_
        refine wp_region_lit ?_
        refine sqv hf (r_move rfl) rfl rfl rfl ?_; clear hf fa; intro fa hf
        refine sqv hf (r_loadA (cs := [(.int .u8 ((pO (trimP y)))), (.int .u64 ((pA (trimP y)))), (.int .u64 ((pB (trimP y)))), (.slice aL1 (((pL (trimP y)).length)) cL1)]) rfl Tryd.underlying25 rfl (by kernel_rfl) (cellsAt_blk hk2)) rfl rfl rfl ?_; clear hf fa; intro fa hf
        refine sqdt hf (d_bslice (z := (.agg #[(.int .u8 (0 : Int)), (.int .u64 (0 : Int)), (.int .u64 (0 : Int)), (.slice none 0 0)])) (sz := 4) (vs := [(0, (.agg #[(.int .u8 ((pO (trimP y)))), (.int .u64 ((pA (trimP y)))), (.int .u64 ((pB (trimP y)))), (.slice aL1 (((pL (trimP y)).length)) cL1)]))]) (cs := #[(.int .u8 ((pO (trimP y)))), (.int .u64 ((pA (trimP y)))), (.int .u64 ((pB (trimP y)))), (.slice aL1 (((pL (trimP y)).length)) cL1)]) rfl Tryd.underlying37 (by kernel_rfl) rfl (by kernel_rfl)) rfl rfl rfl ?_; clear hf fa; rintro fa _ w5 ⟨b2, rfl, hle2, hk3, he3⟩ hf
        have hBb2 : w.heap.size ≤ b2 := Nat.le_trans hb.size hle2
        have : b1 < b2 := Nat.lt_of_lt_of_le (blk_lt hk2) hle2
        have hnr2 : (Value.slice roa (X.length) roc).ownBlock ≠ some b2 := fun hq => by have := (Row.lt hro _ hq).2; omega
        have hnl2 : ∀ q, (Value.slice roa (X.length) roc).ownBlock = some q → q < b2 := fun q hq => Nat.lt_of_lt_of_le (Row.lt hro q hq).2 hle2
        replace hk2 := blk_ext hk2 he3
        replace hro := Row.ext hro he3
        replace hr1 := Row.ext hr1 he3
        replace hIR := IRel.map hIR (fun bf cs hbf => blk_ext hbf he3)
        replace hb := hb.trans (Below.mono he3 hb.size)
        have hs1 := Row.rd (by intros; rfl) (Row.of_new (k := 4) (V := vMIn) (l := [(mkI ((pO (trimP y))) ((pA (trimP y))) ((pB (trimP y))) (pL (trimP y)) aL1 cL1)]) hk3 (Nat.le_refl _) rfl rfl (Nat.le_of_ble_eq_true rfl))
        refine sqdt hf (d_append (V := vMIn) (k := 4) (e := 25) (bytes := 48) (z := (.agg #[(.int .u8 (0 : Int)), (.int .u64 (0 : Int)), (.int .u64 (0 : Int)), (.slice none 0 0)])) (news := [(mkI ((pO (trimP y))) ((pA (trimP y))) ((pB (trimP y))) (pL (trimP y)) aL1 cL1)]) (base := w.heap.size) (by intros; rfl) (by exact oneMIn) rfl rfl Tryd.underlying37 (by kernel_rfl) rfl rfl rfl hro hs1 rfl (fun h => by cases h) (by first | omega | (simp only [List.length_cons, List.length_nil, List.length_append, nums_len]; omega)) (by have := hb.size; omega)) rfl rfl rfl ?_; clear hf fa; rintro fa v w6 ⟨hr2, hg2⟩ hf; obtain ⟨ra1, rc1, rfl, hcrc1, hmrc1⟩ := Row.slice hr2
        replace hk2 := blk_row' hk2 hg2 hnr1
        replace hr1 := Row.grown' hr1 hg2 (Row.ne_row hr1 hro rfl)
        replace hIR := IRel.map hIR (fun bf cs hbf => blk_row' hbf hg2 (Row.ne_type hro hbf rfl))
        replace hb := hb.trans (row_below hro hg2 hb.size (by have := hb.size; omega))
        refine sqv hf (r_assign rfl) rfl rfl rfl ?_; clear hf fa; intro fa hf
        apply wpList_nil
        (try simp only [Exit.then, Exit.inBlock, ↓reduceIte, Nat.reduceEqDiff])
        refine hK7 _ _ ?_
        refine wp_region_lit ?_
        refine sqv hf (r_add (C := (((kk : Nat) : Int) + (1 : Int))) rfl rfl (by rw [IntKind.wrap_i64]; omega)) rfl rfl rfl ?_; clear hf fa; intro fa hf
        refine sqv hf (r_move rfl) rfl rfl rfl ?_; clear hf fa; intro fa hf
        apply wpList_nil
        (try simp only [Exit.then, Exit.inBlock, ↓reduceIte, Nat.reduceEqDiff])
        refine hKL1 _ _ _ (by omega) ⟨(kk + 1), (X ++ [(mkI ((pO (trimP y))) ((pA (trimP y))) ((pB (trimP y))) (pL (trimP y)) aL1 cL1)]), ra1, rc1, rfl, hf.sub ⟨rfl, rfl, rfl, (some_int (by first | rfl | omega)), (some_sl (by first | omega | rfl | (simp only [List.length_append, List.length_cons, List.length_nil]; omega) | (simp <;> omega)) rfl), trivial⟩, hb, (Row.relen hr2), by omega, (key_snoc hXk hy _ _), (by rw [Hs, rbR_drop hy, if_neg hqt25_1]), (IRel.snoc hIR hr1)⟩
    · have hqt14_1b := hqt14_1
      replace hqt14_1 := Bool.eq_false_iff.1 hqt14_1
      try simp only [ne_eq, decide_eq_true_eq, Bool.and_eq_true, Bool.or_eq_true, Bool.not_eq_true', decide_eq_false_iff_not] at hqt14_1
      refine wp_exit ?_
      (try simp only [Exit.then, Exit.inBlock, ↓reduceIte, Nat.reduceEqDiff])
      refine hK3 _ _ ?_
      refine wp_seq_k (fun K13 hK13 => ?_)
      refine wp_seq_k (fun K14 hK14 => ?_)
      refine wp_region_lit ?_
      refine sqv hf (r_move rfl) rfl rfl rfl ?_; clear hf fa; intro fa hf
      refine sqdt hf (d_callB (vs := [(.slice roa X.length roc)]) rfl Tryd.func35 (by kernel_rfl) (by kernel_rfl) (Fl.shape_any X roa roc _ (Row.rd (by intros; rfl) hro) (by have := Row.caps hro; omega) (by omega))) rfl rfl rfl ?_; clear hf fa; rintro fa _ w7 ⟨rfl, he4⟩ hf
      replace hro := Row.ext hro he4
      replace hIR := IRel.map hIR (fun bf cs hbf => blk_ext hbf he4)
      replace hb := hb.trans (Below.mono he4 hb.size)
      refine sqv hf (r_assign rfl) rfl rfl rfl ?_; clear hf fa; intro fa hf
      apply wpList_nil
      (try simp only [Exit.then, Exit.inBlock, ↓reduceIte, Nat.reduceEqDiff])
      refine hK14 _ _ ?_
      refine wp_seq_k (fun K15 hK15 => ?_)
      refine wp_region_lit ?_
      refine sqv hf (r_move rfl) rfl rfl rfl ?_; clear hf fa; intro fa hf
      refine sqv hf (r_ne rfl rfl) rfl rfl rfl ?_; clear hf fa; intro fa hf
      apply wpList_nil
      (try simp only [Exit.then, Exit.inBlock, ↓reduceIte, Nat.reduceEqDiff])
      refine hK15 _ _ ?_
      refine wp_cond_split (t := (decide (((Fl.shapeP (Fl.opl X))) ≠ (0 : Int)))) (hf.ev rfl) (fun hqt36_1 => ?_) (fun hqt36_1 => ?_)
      · have hqt36_1b := hqt36_1
        try simp only [decide_eq_true_eq, Bool.and_eq_true, Bool.or_eq_true, Bool.not_eq_true', decide_eq_false_iff_not, ne_eq, Bool.not_eq_true] at hqt36_1
        refine wp_seq_k (fun K16 hK16 => ?_)
        refine wp_region_lit ?_
        refine sqv hf (r_move rfl) rfl rfl rfl ?_; clear hf fa; intro fa hf
        refine sqv hf (r_lensl rfl Tryd.underlying43) rfl rfl rfl ?_; clear hf fa; intro fa hf
        refine sqv hf (r_move rfl) rfl rfl rfl ?_; clear hf fa; intro fa hf
        refine sqv hf (r_assign rfl) rfl rfl rfl ?_; clear hf fa; intro fa hf
        refine sqv hf (r_assign rfl) rfl rfl rfl ?_; clear hf fa; intro fa hf
        refine sqv hf (r_assign rfl) rfl rfl rfl ?_; clear hf fa; intro fa hf
        apply wpList_nil
        (try simp only [Exit.then, Exit.inBlock, ↓reduceIte, Nat.reduceEqDiff])
        refine hK16 _ _ ?_
        refine wp_ret ?_
        (try simp only [Exit.then, Exit.inBlock])
        refine ret3 hf rfl rfl rfl rfl ?_
        have hkl : kk = M.length := by omega
        have hr : rbR M 0 = (((kk : Nat) : Int), 0) := by rw [Hs, List.drop_eq_nil_of_le (by omega)]; rfl
        have hXM : X.map keyI = M.map keyS := by rw [hXk, hkl, List.take_length]
        have hp : rbP M = (((M.length : Nat) : Int), Fl.shapeP (opsP M)) := by unfold rbP; rw [hr, if_neg (fun h => h rfl)]
        have ho := opl_ops hXM
        have hne : Fl.shapeP (opsP M) ≠ 0 := by rw [← ho]; exact hqt36_1
        rw [hp, ← ho]
        exact ⟨_, rfl, [], none, 0, rfl, Row.nil, IRel.nil, fun h => absurd h hqt36_1, hb⟩
      · have hqt36_1b := hqt36_1
        replace hqt36_1 := Bool.eq_false_iff.1 hqt36_1
        try simp only [ne_eq, decide_eq_true_eq, Bool.and_eq_true, Bool.or_eq_true, Bool.not_eq_true', decide_eq_false_iff_not] at hqt36_1
        refine wp_skip ?_
        (try simp only [Exit.then, Exit.inBlock, ↓reduceIte, Nat.reduceEqDiff])
        refine hK13 _ _ ?_
        refine wp_seq_k (fun K17 hK17 => ?_)
        refine wp_region_lit ?_
        refine sqv hf (r_move rfl) rfl rfl rfl ?_; clear hf fa; intro fa hf
        refine sqv hf (r_move rfl) rfl rfl rfl ?_; clear hf fa; intro fa hf
        refine sqv hf (r_lensl rfl Tryd.underlying43) rfl rfl rfl ?_; clear hf fa; intro fa hf
        refine sqv hf (r_assign rfl) rfl rfl rfl ?_; clear hf fa; intro fa hf
        refine sqv hf (r_assign rfl) rfl rfl rfl ?_; clear hf fa; intro fa hf
        refine sqv hf (r_assign rfl) rfl rfl rfl ?_; clear hf fa; intro fa hf
        apply wpList_nil
        (try simp only [Exit.then, Exit.inBlock, ↓reduceIte, Nat.reduceEqDiff])
        refine hK17 _ _ ?_
        refine wp_ret ?_
        (try simp only [Exit.then, Exit.inBlock])
        refine ret3 hf rfl rfl rfl rfl ?_
        have hkl : kk = M.length := by omega
        have hr : rbR M 0 = (((kk : Nat) : Int), 0) := by rw [Hs, List.drop_eq_nil_of_le (by omega)]; rfl
        have hXM : X.map keyI = M.map keyS := by rw [hXk, hkl, List.take_length]
        have hp : rbP M = (((M.length : Nat) : Int), Fl.shapeP (opsP M)) := by unfold rbP; rw [hr, if_neg (fun h => h rfl)]
        have ho := opl_ops hXM
        have hz : Fl.shapeP (opsP M) = 0 := by rw [← ho]; exact Classical.not_not.1 hqt36_1
        rw [hp, hz]
        exact ⟨_, rfl, X, _, _, rfl, hro, hIR, fun _ => hXM, hb⟩
end Go.Proofs.YtpalmpfkliepfaaDoor

namespace Go.Proofs.YtpalmpfkliepfaaDoor
open Go.RowKit Ut
set_option linter.unusedVariables false
set_option linter.unusedSimpArgs false
attribute [local irreducible] infP ofP chkP rchkP

theorem shR_cut (len len2 : Nat) : ∀ (r xs : List Int) (n : Nat), n + r.length = len → Fl.shR len r xs n = 0 → Fl.shR len2 (r.take (r.length - 1)) xs n = 30
  | [], xs, n, _, h => by rw [Fl.shR] at h; exact absurd h (by decide)
  | [o], xs, n, _, h => by
    show Fl.shR len2 [] xs n = 30
    rw [Fl.shR]
  | o :: o2 :: r, xs, n, hn, h => by
    have ih := fun xs => shR_cut len len2 (o2 :: r) xs (n + 1) (by simp only [List.length_cons] at hn ⊢; omega)
    rw [List.length_cons] at hn
    have e : (o :: o2 :: r).take ((o :: o2 :: r).length - 1) = o :: (o2 :: r).take ((o2 :: r).length - 1) := by
      show (o :: o2 :: r).take (r.length + 1) = o :: (o2 :: r).take r.length
      rw [List.take_succ_cons]
    rw [e, Fl.shR]
    rw [Fl.shR] at h
    by_cases c1 : Fl.opensI o = true
    · rw [if_pos c1] at h ⊢; exact ih _ h
    rw [if_neg c1] at h ⊢
    by_cases c2 : o = 5
    · rw [if_pos c2] at h ⊢
      by_cases c3 : xs.getD (xs.length - 1) 0 ≠ 4
      · rw [if_pos c3] at h; exact absurd h (by decide)
      · rw [if_neg c3] at h ⊢; exact ih _ h
    rw [if_neg c2] at h ⊢
    by_cases c4 : o = 11
    · rw [if_pos c4] at h ⊢
      by_cases c5 : ((xs.length - 1 : Nat) : Int) = 0
      · rw [if_pos c5, decide_eq_false (show ¬ (n : Int) = (len : Int) - 1 by rw [List.length_cons] at hn; omega)] at h
        exact absurd h (by decide)
      · rw [if_neg c5] at h ⊢; exact ih _ h
    · rw [if_neg c4] at h ⊢; exact ih _ h
theorem shape_cut {ops : List Int} (h : Fl.shapeP ops = 0) : Fl.shapeP (ops.take (ops.length - 1)) = 30 := by
  unfold Fl.shapeP at h ⊢
  by_cases c : 20000 < (ops.length : Int)
  · rw [if_pos c] at h; exact absurd h (by decide)
  · rw [if_neg c] at h
    rw [if_neg (by rw [List.length_take]; omega)]
    exact shR_cut ops.length _ ops [0] 0 (by omega) h
theorem drop_rep (n : Nat) (t : List UInt8) : (Lib.repeatL [32, 32] n ++ t).dropWhile (· == 32) = t.dropWhile (· == 32) := by
  induction n with
  | zero => rfl
  | succ n ih =>
    show (32 :: 32 :: (Lib.repeatL [32, 32] n ++ t)).dropWhile (· == 32) = _
    rw [List.dropWhile_cons, if_pos (by decide), List.dropWhile_cons, if_pos (by decide)]
    exact ih
theorem drop_line {s : ByteArray} (h0 : bl s ≠ []) (h : ∀ c ∈ bl s, c ≠ 32) (t : List UInt8) : (s.data.toList ++ t).dropWhile (· == 32) = s.data.toList ++ t := by
  unfold bl at h h0
  cases hd : s.data.toList with
  | nil => rw [hd] at h0; exact absurd rfl h0
  | cons u r =>
    rw [hd] at h
    have hu := h u.toNat (by simp)
    rw [List.cons_append, List.dropWhile_cons, if_neg]
    intro e
    have e2 : u = 32 := by simpa using e
    rw [e2] at hu
    exact hu rfl
theorem trim_line (n : Int) {d : MIn} {w : World} (g : InG w d) (hr : rightI d = 0) : trimP (rptS n ++ lineI d) = lineI d := by
  have hr2 : rightP d.1.toNat d.2.1 d.2.2.1 d.2.2.2.1.list.length = 0 := by rw [Sl.list_length]; exact hr
  have hn := nmO_ok g.lt (right_out hr2).1
  have hs := nmO_sp g.lt
  have hl : lineI d = nmO d.1.toNat ++ behindP d.1.toNat d.2.1 d.2.2.1 d.2.2.2.1.list := by unfold lineI lineP; rw [if_pos hr2]
  have h1 : (rptS n ++ lineI d).data.toList = Lib.repeatL [32, 32] (max n 0).toNat ++ (lineI d).data.toList := by
    rw [ByteArray.data_append, Array.toList_append]; rfl
  have h2 : (lineI d).data.toList = (nmO d.1.toNat).data.toList ++ (behindP d.1.toNat d.2.1 d.2.2.1 d.2.2.2.1.list).data.toList := by
    rw [hl, ByteArray.data_append, Array.toList_append]
  unfold trimP Lib.trimLeftB
  rw [h1, drop_rep, h2, drop_line hn hs, ← h2]
theorem trim_what : trimP (⟨#[32, 32, 119, 104, 97, 116]⟩ : ByteArray) = (⟨#[119, 104, 97, 116]⟩ : ByteArray) := rfl
theorem what_not : ∀ j : Fin 256, bl (nmO j.val) ≠ [119, 104, 97, 116] := by decide +kernel
theorem what_w0 : w0P (⟨#[119, 104, 97, 116]⟩ : ByteArray) = (⟨#[119, 104, 97, 116]⟩ : ByteArray) := by decide +kernel
theorem what_bad : pE (trimP (⟨#[32, 32, 119, 104, 97, 116]⟩ : ByteArray)) = 49 := by
  rw [trim_what]
  refine (par_no (parK_1 (fun h => ?_))).2.2.2.2
  obtain ⟨i, hi, _, hn, _⟩ := (findP_out (w0P (⟨#[119, 104, 97, 116]⟩ : ByteArray))).1 h
  rw [what_w0] at hn
  exact what_not ⟨i, hi⟩ (by show bl (nmO i) = _; rw [hn]; rfl)
theorem line_keys {d : MIn} {w : World} (g : InG w d) (hr : rightI d = 0) (n : Int) : pE (trimP (rptS n ++ lineI d)) = 0 ∧ keyS (rptS n ++ lineI d) = keyI d := by
  have hr2 : rightP d.1.toNat d.2.1 d.2.2.1 d.2.2.2.1.list.length = 0 := by rw [Sl.list_length]; exact hr
  obtain ⟨e1, e2, e3, e4, e5⟩ := line_back g.lt hr2 g.a g.b.1 g.rng
  unfold keyS
  rw [trim_line n g hr]
  unfold lineI keyI
  exact ⟨e5, by rw [e1, e2, e3, e4, ← g.nat]⟩
theorem rb_ok : ∀ (M : List ByteArray) (k : Nat), (∀ s ∈ M, pE (trimP s) = 0) → rbR M k = (((k + M.length : Nat) : Int), 0)
  | [], k, _ => rfl
  | s :: r, k, h => by
    rw [rbR, if_neg (fun hh => hh (h s (by simp))), rb_ok r (k + 1) (fun x hx => h x (List.mem_cons_of_mem _ hx)), List.length_cons]
    rw [show k + 1 + r.length = k + (r.length + 1) by omega]
theorem rb_set (z : ByteArray) (hz : pE (trimP z) = 49) : ∀ (M : List ByteArray) (m k : Nat), (∀ s ∈ M, pE (trimP s) = 0) → m < M.length → rbR (M.set m z) k = (((k + m : Nat) : Int), 49)
  | [], m, k, _, hm => absurd hm (Nat.not_lt_zero _)
  | s :: r, 0, k, h, hm => by
    rw [List.set_cons_zero, rbR, hz, if_pos (by decide)]; rfl
  | s :: r, m + 1, k, h, hm => by
    rw [List.set_cons_succ, rbR, if_neg (fun hh => hh (h s (by simp))), rb_set z hz r m (k + 1) (fun x hx => h x (List.mem_cons_of_mem _ hx)) (by rw [List.length_cons] at hm; omega)]
    rw [show k + 1 + m = k + (m + 1) by omega]
theorem body_at (l : List MIn) {k : Nat} (h : k < l.length) : (bodyP l)[k]? = some (lnB l k) := by
  unfold bodyP
  rw [List.getElem?_map, List.getElem?_range h]; rfl
theorem body_len (l : List MIn) : (bodyP l).length = l.length := by unfold bodyP; rw [List.length_map, List.length_range]
theorem boE_zero {l : List MIn} (h : boE l = 0) : Fl.shapeP (Fl.opl l) = 0 ∧ firstR l = 0 ∧ boL l = bodyP l := by
  have hs : Fl.shapeP (Fl.opl l) = 0 := by
    unfold boE at h
    split at h
    · rename_i h1; exact absurd h h1
    · rename_i h1; exact Classical.not_not.1 h1
  have hf : firstR l = 0 := by
    unfold boE at h
    rw [if_neg (by rw [hs]; decide)] at h
    exact h
  exact ⟨hs, hf, (boE_ok hs hf).2⟩
theorem body_keys {l : List MIn} {w : World} (hG : ∀ d ∈ l, InG w d) (hf : firstR l = 0) : (∀ s ∈ bodyP l, pE (trimP s) = 0) ∧ (bodyP l).map keyS = l.map keyI := by
  have hr := firstR_all hf
  have hat : ∀ k, k < l.length → ∃ d, l[k]? = some d ∧ pE (trimP (lnB l k)) = 0 ∧ keyS (lnB l k) = keyI d := by
    intro k hk
    obtain ⟨d, hd⟩ : ∃ d, l[k]? = some d := ⟨_, List.getElem?_eq_getElem hk⟩
    have hm := List.mem_of_getElem? hd
    have e : lnB l k = rptS ((Fl.depthsP (Fl.opl l)).getD k 0) ++ lineI d := by
      unfold lnB
      rw [List.getD_eq_getElem?_getD (l := l), hd]; rfl
    rw [e]
    exact ⟨d, hd, line_keys (hG d hm) (hr d hm) _⟩
  constructor
  · intro s hs
    unfold bodyP at hs
    obtain ⟨k, hk, rfl⟩ := List.mem_map.1 hs
    obtain ⟨d, _, h, _⟩ := hat k (List.mem_range.1 hk)
    exact h
  · apply List.ext_getElem?
    intro k
    rw [List.getElem?_map, List.getElem?_map]
    by_cases hk : k < l.length
    · obtain ⟨d, hd, _, h⟩ := hat k hk
      rw [body_at l hk, hd]
      show some (keyS (lnB l k)) = some (keyI d)
      rw [h]
    · rw [List.getElem?_eq_none (by rw [body_len]; omega), List.getElem?_eq_none (by omega)]; rfl
/-- What ReadBody tells of a body's lines, of them with one spoiled, and of all but the last. -/
theorem reads_body {l : List MIn} {w : World} (hG : ∀ d ∈ l, InG w d) (h : boE l = 0) (m : Nat) (hm : m < l.length) :
    rbP (boL l) = (((l.length : Nat) : Int), 0) ∧ (boL l).map keyS = l.map keyI ∧ rbP ((boL l).set m (⟨#[32, 32, 119, 104, 97, 116]⟩ : ByteArray)) = (((m : Nat) : Int), 49) ∧ rbP ((boL l).take (l.length - 1)) = (((l.length - 1 : Nat) : Int), 30) ∧ (boL l).length = l.length := by
  obtain ⟨hs, hf, hb⟩ := boE_zero h
  obtain ⟨hk, hy⟩ := body_keys hG hf
  rw [hb]
  have hops : opsP (bodyP l) = Fl.opl l := by
    have h1 : ((bodyP l).map keyS).map (fun p => p.1) = (l.map keyI).map (fun p => p.1) := by rw [hy]
    rw [List.map_map, List.map_map] at h1
    exact h1
  refine ⟨?_, hy, ?_, ?_, body_len l⟩
  · unfold rbP
    rw [rb_ok _ _ hk, if_neg (fun h => h rfl), hops, hs, body_len]
  · unfold rbP
    rw [rb_set _ what_bad _ _ _ hk (by rw [body_len]; exact hm), if_pos (show (49 : Int) ≠ 0 by decide), Nat.zero_add]
  · have hk2 : ∀ s ∈ (bodyP l).take (l.length - 1), pE (trimP s) = 0 := fun s hs => hk s (List.mem_of_mem_take hs)
    have hol : opsP ((bodyP l).take (l.length - 1)) = (Fl.opl l).take ((Fl.opl l).length - 1) := by
      have e : (Fl.opl l).length = l.length := Fl.opl_length l
      unfold opsP
      rw [List.map_take, e]
      have e2 : (bodyP l).map (fun s => pO (trimP s)) = Fl.opl l := hops
      rw [e2]
    unfold rbP
    rw [rb_ok _ _ hk2, if_neg (fun h => h rfl), hol, shape_cut hs, List.length_take, body_len, show min (l.length - 1) l.length = l.length - 1 by omega]
theorem bo_pos {l : List MIn} (h : boE l = 0) : 0 < l.length := by
  have hs := (boE_zero h).1
  rcases Nat.eq_zero_or_pos l.length with h | h
  · rw [List.length_eq_zero_iff.1 h] at hs; exact absurd hs (by decide)
  · exact h
theorem rpt_zero (s : ByteArray) : rptS ((0 : Nat) : Int) ++ s = s := by
  show (⟨#[]⟩ : ByteArray) ++ s = s
  apply bl_inj; rw [bl_app]; rfl
theorem rpt_next (n : Nat) (s : ByteArray) : (⟨#[32, 32]⟩ : ByteArray) ++ (rptS ((n : Nat) : Int) ++ s) = rptS (((n + 1 : Nat)) : Int) ++ s := by
  have e : rptS (((n + 1 : Nat)) : Int) = (⟨#[32, 32]⟩ : ByteArray) ++ rptS ((n : Nat) : Int) := by
    unfold rptS
    rw [show (max (((n + 1 : Nat)) : Int) 0).toNat = n + 1 by omega, show (max ((n : Nat) : Int) 0).toNat = n by omega]
    apply ByteArray.ext
    rw [ByteArray.data_append]
    apply Array.ext'
    rw [Array.toList_append]; rfl
  rw [e, ByteArray.append_assoc]
theorem ln_is {l : List MIn} {k jj : Nat} {d : MIn} (hs : Fl.shapeP (Fl.opl l) = 0) (hd : l[k]? = some d) (h1 : jj = 0 ∨ ((jj : Nat) : Int) ≤ Fl.depthP (Fl.opl l) k) (h2 : ¬ 0 < Fl.depthP (Fl.opl l) k - ((jj : Nat) : Int)) : lnB l k = rptS ((jj : Nat) : Int) ++ lineI d := by
  have hk : k < l.length := (List.getElem?_eq_some_iff.1 hd).1
  have e := Fl.depths_eq (Fl.opl l) hs k (by rw [Fl.opl_length]; exact hk)
  unfold lnB
  rw [List.getD_eq_getElem?_getD (l := l), hd, e]
  show rptS (Fl.depthP (Fl.opl l) k) ++ lineI d = _
  have e2 : rptS (Fl.depthP (Fl.opl l) k) = rptS ((jj : Nat) : Int) := by
    unfold rptS
    rw [show (max (Fl.depthP (Fl.opl l) k) 0).toNat = (max ((jj : Nat) : Int) 0).toNat by omega]
  rw [e2]
theorem dep_bd {l : List MIn} {k : Nat} (hs : Fl.shapeP (Fl.opl l) = 0) (hk : k < l.length) : -(l.length : Int) ≤ Fl.depthP (Fl.opl l) k ∧ Fl.depthP (Fl.opl l) k ≤ l.length := by
  have e := Fl.depths_eq (Fl.opl l) hs k (by rw [Fl.opl_length]; exact hk)
  have h := Fl.depthsP_bd (Fl.opl l) ((Fl.depthsP (Fl.opl l)).getD k 0) (Fl.getD_mem' (by rw [shape_len hs, Fl.opl_length]; exact hk))
  rw [e, Fl.opl_length] at h
  exact h
theorem code_step {l : List MIn} {k : Nat} {d : MIn} (hd : l[k]? = some d) (h : boE l = firstR (l.drop k)) : boE l = if rightI d = 0 then firstR (l.drop (k + 1)) else rightI d := by
  rw [h, firstR_drop hd]
  by_cases c : rightI d = 0
  · rw [if_neg (fun h => h c), if_pos c]
  · rw [if_pos c, if_neg c]
theorem code_start (l : List MIn) : boE l = if Fl.shapeP (Fl.opl l) = 0 then firstR (l.drop 0) else Fl.shapeP (Fl.opl l) := by
  unfold boE
  by_cases c : Fl.shapeP (Fl.opl l) = 0
  · rw [if_neg (fun h => h c), if_pos c]; rfl
  · rw [if_pos c, if_neg c]
end Go.Proofs.YtpalmpfkliepfaaDoor
