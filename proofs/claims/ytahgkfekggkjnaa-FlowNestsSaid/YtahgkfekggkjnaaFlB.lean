/- What is proved here: what Depths, Deepest, Of, and the document's Depth,, and the document's of them, come to. -/
import Derived.Test.YtahgkfekggkjnaaSxM
import Derived.Test.YtahgkfekggkjnaaFlA
namespace Go.Proofs.Ytahgkfekggkjnaa
open Go.RowKit
set_option linter.unusedVariables false
set_option linter.unusedSimpArgs false
set_option maxHeartbeats 1000000 in
set_option maxRecDepth 100000 in
theorem depth_any (l : List Ins) (a : Option Addr) (c : Nat) (at0 : Nat) (w : World) (hr : RdS 4 vIns w a l) (hlc : l.length ≤ c) (hlm : l.length ≤ 100000) (hat : at0 < l.length) : Calls Try.prog 43 #[(.slice a l.length c), (.int .i64 ((at0 : Nat) : Int))] w fun e w' => e = .returned (.int .i64 (depthP (opl l) at0)) ∧ Below w.heap.size w w' := by
  have hdl := dcR_le (opl l) at0
  refine sx_enter (L := [(0, (.slice a l.length c)), (1, (.int .i64 ((at0 : Nat) : Int)))]) Try.func43 rfl rfl rfl rfl (fun fa hf => ?_)
  have hb : Below w.heap.size w w := Below.refl _ _
  refine wp_seq_k (fun K1 hK1 => ?_)
  refine wp_region_lit ?_
  refine sqv hf (r_assign rfl) rfl rfl rfl ?_; clear hf fa; intro fa hf
  apply wpList_nil
  (try simp only [Exit.then, Exit.inBlock, ↓reduceIte, Nat.reduceEqDiff])
  refine hK1 _ _ ?_
  refine wp_seq_k (fun K2 hK2 => ?_)
  refine wp_region_lit ?_
  refine sqv hf (r_assign rfl) rfl rfl rfl ?_; clear hf fa; intro fa hf
  apply wpList_nil
  (try simp only [Exit.then, Exit.inBlock, ↓reduceIte, Nat.reduceEqDiff])
  refine hK2 _ _ ?_
  refine wp_seq_k (fun K3 hK3 => ?_)
  refine wp_seq_k (fun K4 hK4 => ?_)
  refine wp_region_lit ?_
  refine sqv hf (r_assign rfl) rfl rfl rfl ?_; clear hf fa; intro fa hf
  apply wpList_nil
  (try simp only [Exit.then, Exit.inBlock, ↓reduceIte, Nat.reduceEqDiff])
  refine hK4 _ _ ?_
  refine wp_block ?_
  refine wp_loop_k (fun m fa wr => ∃ (n : Nat), m = at0 - n ∧ Fr 44 fa [(0, (.slice a l.length c)), (1, (.int .i64 ((at0 : Nat) : Int))), (6, (.int .i64 ((n : Nat) : Int))), (5, (.int .i64 (dcR (opl l) at0 n)))] ∧ Below w.heap.size w wr ∧ (n ≤ at0) ∧ (True)) ?_ ?_
  · skip
    exact ⟨_, 0, rfl, hf.sub ⟨rfl, rfl, (some_int (by first | rfl | omega)), (some_int (by first | rfl | omega)), trivial⟩, hb, by omega, trivial⟩
  · skip
    clear hf fa; intro m1 fa w1 hI KL1 hKL1
    clear hb
    obtain ⟨n, hm1, hf, hb, hn, htr⟩ := hI
    refine wp_seq_k (fun K5 hK5 => ?_)
    refine wp_seq_k (fun K6 hK6 => ?_)
    refine wp_region_lit ?_
    refine sqv hf (r_move rfl) rfl rfl rfl ?_; clear hf fa; intro fa hf
    refine sqv hf (r_move rfl) rfl rfl rfl ?_; clear hf fa; intro fa hf
    refine sqv hf (r_lt rfl rfl) rfl rfl rfl ?_; clear hf fa; intro fa hf
    apply wpList_nil
    (try simp only [Exit.then, Exit.inBlock, ↓reduceIte, Nat.reduceEqDiff])
    refine hK6 _ _ ?_
    refine wp_cond_split (t := (decide (((n : Nat) : Int) < ((at0 : Nat) : Int)))) (hf.ev rfl) (fun hqt11_1 => ?_) (fun hqt11_1 => ?_)
    · have hqt11_1b := hqt11_1
      try simp only [decide_eq_true_eq, Bool.and_eq_true, Bool.or_eq_true, Bool.not_eq_true', decide_eq_false_iff_not, ne_eq, Bool.not_eq_true] at hqt11_1
      refine wp_skip ?_
      (try simp only [Exit.then, Exit.inBlock, ↓reduceIte, Nat.reduceEqDiff])
      refine hK5 _ _ ?_
      refine wp_seq_k (fun K7 hK7 => ?_)
      refine wp_block ?_
      refine wp_seq_k (fun K8 hK8 => ?_)
      refine wp_seq_k (fun K9 hK9 => ?_)
      have hdc := dcR_le (opl l) at0 n
      refine wp_region_lit ?_
      refine sqv hf (r_move rfl) rfl rfl rfl ?_; clear hf fa; intro fa hf
      refine sqv hf (r_move rfl) rfl rfl rfl ?_; clear hf fa; intro fa hf
      obtain ⟨y1, hy1⟩ : ∃ x, (l)[n]? = some x := ⟨_, List.getElem?_eq_getElem (by omega)⟩
      obtain ⟨ab1, aoff1, rfl, hlb1, hel1⟩ := RdS.at hr hy1
      refine sqv hf (r_ixa (sz := 4) (j := n) rfl rfl Try.underlying27 (by kernel_rfl) rfl (by omega) rfl) rfl rfl rfl ?_; clear hf fa; intro fa hf
      refine sqv hf (r_loadA (cs := [(.int .u8 y1.1), (.int .u64 y1.2.1), (.int .u64 y1.2.2.1), (.slice y1.2.2.2.1.at' y1.2.2.2.1.len y1.2.2.2.1.cap)]) rfl Try.underlying39 rfl (by kernel_rfl) (cellsAt_below hel1 hb hlb1)) rfl rfl rfl ?_; clear hf fa; intro fa hf
      refine sqdt hf (d_callB (vs := [(.agg #[(.int .u8 y1.1), (.int .u64 y1.2.1), (.int .u64 y1.2.2.1), (.slice y1.2.2.2.1.at' y1.2.2.2.1.len y1.2.2.2.1.cap)])]) rfl Try.func24 (by kernel_rfl) (by kernel_rfl) (ropens_any y1 _)) rfl rfl rfl ?_; clear hf fa; rintro fa _ w2 ⟨rfl, he1⟩ hf
      replace hb := hb.trans (Below.mono he1 hb.size)
      refine sqv hf (r_not rfl) rfl rfl rfl ?_; clear hf fa; intro fa hf
      apply wpList_nil
      (try simp only [Exit.then, Exit.inBlock, ↓reduceIte, Nat.reduceEqDiff])
      refine hK9 _ _ ?_
      refine wp_cond_split (t := (!(opensI y1.1))) (hf.ev rfl) (fun hqt19_1 => ?_) (fun hqt19_1 => ?_)
      · have hqt19_1b := hqt19_1
        try simp only [decide_eq_true_eq, Bool.and_eq_true, Bool.or_eq_true, Bool.not_eq_true', decide_eq_false_iff_not, ne_eq, Bool.not_eq_true] at hqt19_1
        refine wp_exit ?_
        (try simp only [Exit.then, Exit.inBlock, ↓reduceIte, Nat.reduceEqDiff])
        refine hK7 _ _ ?_
        refine wp_region_lit ?_
        refine sqv hf (r_move rfl) rfl rfl rfl ?_; clear hf fa; intro fa hf
        refine sqv hf (r_add (C := (((n : Nat) : Int) + (1 : Int))) rfl rfl (by rw [IntKind.wrap_i64]; omega)) rfl rfl rfl ?_; clear hf fa; intro fa hf
        refine sqv hf (r_assign rfl) rfl rfl rfl ?_; clear hf fa; intro fa hf
        apply wpList_nil
        (try simp only [Exit.then, Exit.inBlock, ↓reduceIte, Nat.reduceEqDiff])
        have hdc := dcR_le (opl l) at0 n
        have hs := dcR_eq (opl l) at0 n
        rw [opl_getD hy1] at hs
        rw [if_neg (by simpa using hqt19_1)] at hs
        refine hKL1 _ _ _ (by omega) ⟨(n + 1), rfl, hf.sub ⟨rfl, rfl, (some_int (by first | rfl | omega)), (some_int (by first | rfl | omega)), trivial⟩, hb, by omega, trivial⟩
      · have hqt19_1b := hqt19_1
        replace hqt19_1 := Bool.eq_false_iff.1 hqt19_1
        try simp only [ne_eq, decide_eq_true_eq, Bool.and_eq_true, Bool.or_eq_true, Bool.not_eq_true', decide_eq_false_iff_not] at hqt19_1
        refine wp_skip ?_
        (try simp only [Exit.then, Exit.inBlock, ↓reduceIte, Nat.reduceEqDiff])
        refine hK8 _ _ ?_
        refine wp_seq_k (fun K10 hK10 => ?_)
        refine wp_region_lit ?_
        refine sqv hf (r_move rfl) rfl rfl rfl ?_; clear hf fa; intro fa hf
        refine sqv hf (r_move rfl) rfl rfl rfl ?_; clear hf fa; intro fa hf
        refine sqdt hf (d_callB (vs := [(.slice (some ⟨ab1, aoff1, none⟩) l.length c), (.int .i64 ((n : Nat) : Int))]) rfl Try.func25 (by kernel_rfl) (by kernel_rfl) (seek_any l (some ⟨ab1, aoff1, none⟩) c n _ (RdS.ext hr hb) hlc hlm (by omega))) rfl rfl rfl ?_; clear hf fa; rintro fa _ w3 ⟨rfl, he2⟩ hf
        replace hb := hb.trans (Below.mono he2 hb.size)
        refine sqv hf (r_move rfl) rfl rfl rfl ?_; clear hf fa; intro fa hf
        refine sqv hf (r_extract rfl (i := 0) rfl) rfl rfl rfl ?_; clear hf fa; intro fa hf
        refine sqv hf (r_extract rfl (i := 1) rfl) rfl rfl rfl ?_; clear hf fa; intro fa hf
        refine sqv hf (r_assign rfl) rfl rfl rfl ?_; clear hf fa; intro fa hf
        refine sqv hf (r_assign rfl) rfl rfl rfl ?_; clear hf fa; intro fa hf
        apply wpList_nil
        (try simp only [Exit.then, Exit.inBlock, ↓reduceIte, Nat.reduceEqDiff])
        refine hK10 _ _ ?_
        refine wp_seq_k (fun K11 hK11 => ?_)
        refine wp_region_lit ?_
        refine sqv hf (r_move rfl) rfl rfl rfl ?_; clear hf fa; intro fa hf
        refine sqv hf (r_move rfl) rfl rfl rfl ?_; clear hf fa; intro fa hf
        refine sqv hf (r_lt rfl rfl) rfl rfl rfl ?_; clear hf fa; intro fa hf
        refine sqv hf (r_move rfl) rfl rfl rfl ?_; clear hf fa; intro fa hf
        refine sqgT (act := (decide (((at0 : Nat) : Int) < ((seekP (opl l) n).1)))) (ag := true) (c := (decide (((at0 : Nat) : Int) < ((seekP (opl l) n).1)))) (v := (.int .i64 ((at0 : Nat) : Int))) hf rfl rfl rfl (fun hact => (r_move rfl)) rfl rfl ?_; clear hf fa; intro fa hf
        refine sqgT (act := (decide (((at0 : Nat) : Int) < ((seekP (opl l) n).1)))) (ag := true) (c := (decide (((at0 : Nat) : Int) < ((seekP (opl l) n).1)))) (v := (.int .i64 ((seekP (opl l) n).2))) hf rfl rfl rfl (fun hact => (r_move rfl)) rfl rfl ?_; clear hf fa; intro fa hf
        refine sqgT (act := (decide (((at0 : Nat) : Int) < ((seekP (opl l) n).1)))) (ag := true) (c := (decide (((at0 : Nat) : Int) < ((seekP (opl l) n).1)))) (v := (.bool (decide (((at0 : Nat) : Int) ≠ ((seekP (opl l) n).2))))) hf rfl rfl rfl (fun hact => (r_ne (gb_ev hact rfl) (gb_ev hact rfl))) rfl rfl ?_; clear hf fa; intro fa hf
        refine sqv hf (r_pickA (b := (decide (((at0 : Nat) : Int) < ((seekP (opl l) n).1)))) (e := (decide (((at0 : Nat) : Int) ≠ ((seekP (opl l) n).2)))) rfl rfl rfl) rfl rfl rfl ?_; clear hf fa; intro fa hf
        apply wpList_nil
        (try simp only [Exit.then, Exit.inBlock, ↓reduceIte, Nat.reduceEqDiff])
        refine hK11 _ _ ?_
        refine wp_cond_split (t := ((decide (((at0 : Nat) : Int) < ((seekP (opl l) n).1))) && (decide (((at0 : Nat) : Int) ≠ ((seekP (opl l) n).2))))) (hf.ev rfl) (fun hqt33_1 => ?_) (fun hqt33_1 => ?_)
        · have hqt33_1b := hqt33_1
          try simp only [decide_eq_true_eq, Bool.and_eq_true, Bool.or_eq_true, Bool.not_eq_true', decide_eq_false_iff_not, ne_eq, Bool.not_eq_true] at hqt33_1
          refine wp_region_lit ?_
          refine sqv hf (r_move rfl) rfl rfl rfl ?_; clear hf fa; intro fa hf
          refine sqv hf (r_add (C := ((dcR (opl l) at0 n) + (1 : Int))) rfl rfl (by rw [IntKind.wrap_i64]; omega)) rfl rfl rfl ?_; clear hf fa; intro fa hf
          refine sqv hf (r_assign rfl) rfl rfl rfl ?_; clear hf fa; intro fa hf
          apply wpList_nil
          (try simp only [Exit.then, Exit.inBlock, ↓reduceIte, Nat.reduceEqDiff])
          refine hK7 _ _ ?_
          refine wp_region_lit ?_
          refine sqv hf (r_move rfl) rfl rfl rfl ?_; clear hf fa; intro fa hf
          refine sqv hf (r_add (C := (((n : Nat) : Int) + (1 : Int))) rfl rfl (by rw [IntKind.wrap_i64]; omega)) rfl rfl rfl ?_; clear hf fa; intro fa hf
          refine sqv hf (r_assign rfl) rfl rfl rfl ?_; clear hf fa; intro fa hf
          apply wpList_nil
          (try simp only [Exit.then, Exit.inBlock, ↓reduceIte, Nat.reduceEqDiff])
          have hdc := dcR_le (opl l) at0 n
          have hs := dcR_eq (opl l) at0 n
          rw [opl_getD hy1] at hs
          rw [if_pos (by simpa using hqt19_1), if_pos hqt33_1] at hs
          refine hKL1 _ _ _ (by omega) ⟨(n + 1), rfl, hf.sub ⟨rfl, rfl, (some_int (by first | rfl | omega)), (some_int (by first | rfl | omega)), trivial⟩, hb, by omega, trivial⟩
        · have hqt33_1b := hqt33_1
          replace hqt33_1 := Bool.eq_false_iff.1 hqt33_1
          try simp only [ne_eq, decide_eq_true_eq, Bool.and_eq_true, Bool.or_eq_true, Bool.not_eq_true', decide_eq_false_iff_not] at hqt33_1
          refine wp_skip ?_
          (try simp only [Exit.then, Exit.inBlock, ↓reduceIte, Nat.reduceEqDiff])
          refine hK7 _ _ ?_
          refine wp_region_lit ?_
          refine sqv hf (r_move rfl) rfl rfl rfl ?_; clear hf fa; intro fa hf
          refine sqv hf (r_add (C := (((n : Nat) : Int) + (1 : Int))) rfl rfl (by rw [IntKind.wrap_i64]; omega)) rfl rfl rfl ?_; clear hf fa; intro fa hf
          refine sqv hf (r_assign rfl) rfl rfl rfl ?_; clear hf fa; intro fa hf
          apply wpList_nil
          (try simp only [Exit.then, Exit.inBlock, ↓reduceIte, Nat.reduceEqDiff])
          have hdc := dcR_le (opl l) at0 n
          have hs := dcR_eq (opl l) at0 n
          rw [opl_getD hy1] at hs
          rw [if_pos (by simpa using hqt19_1), if_neg hqt33_1] at hs
          refine hKL1 _ _ _ (by omega) ⟨(n + 1), rfl, hf.sub ⟨rfl, rfl, (some_int (by first | rfl | omega)), (some_int (by first | rfl | omega)), trivial⟩, hb, by omega, trivial⟩
    · have hqt11_1b := hqt11_1
      replace hqt11_1 := Bool.eq_false_iff.1 hqt11_1
      try simp only [ne_eq, decide_eq_true_eq, Bool.and_eq_true, Bool.or_eq_true, Bool.not_eq_true', decide_eq_false_iff_not] at hqt11_1
      refine wp_exit ?_
      (try simp only [Exit.then, Exit.inBlock, ↓reduceIte, Nat.reduceEqDiff])
      refine hK3 _ _ ?_
      refine wp_seq_k (fun K12 hK12 => ?_)
      refine wp_seq_k (fun K13 hK13 => ?_)
      have hdc := dcR_le (opl l) at0 n
      refine wp_region_lit ?_
      refine sqv hf (r_move rfl) rfl rfl rfl ?_; clear hf fa; intro fa hf
      refine sqv hf (r_move rfl) rfl rfl rfl ?_; clear hf fa; intro fa hf
      refine sqv hf (r_lensl rfl Try.underlying27) rfl rfl rfl ?_; clear hf fa; intro fa hf
      refine sqv hf (r_sub (C := (((l.length : Nat) : Int) - (1 : Int))) rfl rfl (by rw [IntKind.wrap_i64]; omega)) rfl rfl rfl ?_; clear hf fa; intro fa hf
      refine sqv hf (r_eq rfl rfl) rfl rfl rfl ?_; clear hf fa; intro fa hf
      apply wpList_nil
      (try simp only [Exit.then, Exit.inBlock, ↓reduceIte, Nat.reduceEqDiff])
      refine hK13 _ _ ?_
      refine wp_cond_split (t := (decide (((at0 : Nat) : Int) = (((l.length : Nat) : Int) - (1 : Int))))) (hf.ev rfl) (fun hqt40_1 => ?_) (fun hqt40_1 => ?_)
      · have hqt40_1b := hqt40_1
        try simp only [decide_eq_true_eq, Bool.and_eq_true, Bool.or_eq_true, Bool.not_eq_true', decide_eq_false_iff_not, ne_eq, Bool.not_eq_true] at hqt40_1
        refine wp_region_lit ?_
        refine sqv hf (r_move rfl) rfl rfl rfl ?_; clear hf fa; intro fa hf
        refine sqv hf (r_sub (C := ((dcR (opl l) at0 n) - (1 : Int))) rfl rfl (by rw [IntKind.wrap_i64]; omega)) rfl rfl rfl ?_; clear hf fa; intro fa hf
        refine sqv hf (r_assign rfl) rfl rfl rfl ?_; clear hf fa; intro fa hf
        apply wpList_nil
        (try simp only [Exit.then, Exit.inBlock, ↓reduceIte, Nat.reduceEqDiff])
        refine hK12 _ _ ?_
        refine wp_seq_k (fun K14 hK14 => ?_)
        refine wp_region_lit ?_
        refine sqv hf (r_move rfl) rfl rfl rfl ?_; clear hf fa; intro fa hf
        refine sqv hf (r_assign rfl) rfl rfl rfl ?_; clear hf fa; intro fa hf
        apply wpList_nil
        (try simp only [Exit.then, Exit.inBlock, ↓reduceIte, Nat.reduceEqDiff])
        refine hK14 _ _ ?_
        refine wp_ret ?_
        (try simp only [Exit.then, Exit.inBlock])
        refine ret1 hf rfl rfl ?_
        refine ⟨?_, hb⟩; unfold depthP; rw [opl_length, if_pos hqt40_1, show n = at0 by omega]
      · have hqt40_1b := hqt40_1
        replace hqt40_1 := Bool.eq_false_iff.1 hqt40_1
        try simp only [ne_eq, decide_eq_true_eq, Bool.and_eq_true, Bool.or_eq_true, Bool.not_eq_true', decide_eq_false_iff_not] at hqt40_1
        refine wp_skip ?_
        (try simp only [Exit.then, Exit.inBlock, ↓reduceIte, Nat.reduceEqDiff])
        refine hK12 _ _ ?_
        refine wp_seq_k (fun K15 hK15 => ?_)
        refine wp_region_lit ?_
        refine sqv hf (r_move rfl) rfl rfl rfl ?_; clear hf fa; intro fa hf
        refine sqv hf (r_assign rfl) rfl rfl rfl ?_; clear hf fa; intro fa hf
        apply wpList_nil
        (try simp only [Exit.then, Exit.inBlock, ↓reduceIte, Nat.reduceEqDiff])
        refine hK15 _ _ ?_
        refine wp_ret ?_
        (try simp only [Exit.then, Exit.inBlock])
        refine ret1 hf rfl rfl ?_
        refine ⟨?_, hb⟩; unfold depthP; rw [opl_length, if_neg hqt40_1, show n = at0 by omega]

set_option maxHeartbeats 1000000 in
set_option maxRecDepth 100000 in
theorem depths_any (l : List Ins) (a : Option Addr) (c : Nat) (w : World) (hr : RdS 4 vIns w a l) (hlc : l.length ≤ c) (hlm : l.length ≤ 100000) : Calls Try.prog 41 #[(.slice a l.length c)] w fun e w' => ∃ v, e = .returned v ∧ Row 1 (vInt .i64) 3 w.heap.size w' v (depthsP (opl l)) ∧ Below w.heap.size w w' := by
  refine sx_enter (L := [(0, (.slice a l.length c))]) Try.func41 rfl rfl rfl rfl (fun fa hf => ?_)
  have hb : Below w.heap.size w w := Below.refl _ _
  refine wp_seq_k (fun K1 hK1 => ?_)
  refine wp_region_lit ?_
  refine sqv hf (r_assign rfl) rfl rfl rfl ?_; clear hf fa; intro fa hf
  apply wpList_nil
  (try simp only [Exit.then, Exit.inBlock, ↓reduceIte, Nat.reduceEqDiff])
  refine hK1 _ _ ?_
  refine wp_seq_k (fun K2 hK2 => ?_)
  refine wp_seq_k (fun K3 hK3 => ?_)
  refine wp_region_lit ?_
  refine sqv hf (r_move rfl) rfl rfl rfl ?_; clear hf fa; intro fa hf
  refine sqdt hf (d_callB (vs := [(.slice a l.length c)]) rfl Try.func63 (by kernel_rfl) (by kernel_rfl) (shape_any l a c _ (RdS.ext hr hb) hlc hlm)) rfl rfl rfl ?_; clear hf fa; rintro fa _ w1 ⟨rfl, he1⟩ hf
  replace hb := hb.trans (Below.mono he1 hb.size)
  refine sqv hf (r_ne rfl rfl) rfl rfl rfl ?_; clear hf fa; intro fa hf
  apply wpList_nil
  (try simp only [Exit.then, Exit.inBlock, ↓reduceIte, Nat.reduceEqDiff])
  refine hK3 _ _ ?_
  refine wp_cond_split (t := (decide ((shapeP (opl l)) ≠ (0 : Int)))) (hf.ev rfl) (fun hqt9_1 => ?_) (fun hqt9_1 => ?_)
  · have hqt9_1b := hqt9_1
    try simp only [decide_eq_true_eq, Bool.and_eq_true, Bool.or_eq_true, Bool.not_eq_true', decide_eq_false_iff_not, ne_eq, Bool.not_eq_true] at hqt9_1
    refine wp_seq_k (fun K4 hK4 => ?_)
    refine wp_region_lit ?_
    refine sqv hf (r_assign rfl) rfl rfl rfl ?_; clear hf fa; intro fa hf
    apply wpList_nil
    (try simp only [Exit.then, Exit.inBlock, ↓reduceIte, Nat.reduceEqDiff])
    refine hK4 _ _ ?_
    refine wp_ret ?_
    (try simp only [Exit.then, Exit.inBlock])
    refine ret1 hf rfl rfl ?_
    rw [depthsP, if_pos hqt9_1]; exact ⟨_, rfl, Row.nil, hb⟩
  · have hqt9_1b := hqt9_1
    replace hqt9_1 := Bool.eq_false_iff.1 hqt9_1
    try simp only [ne_eq, decide_eq_true_eq, Bool.and_eq_true, Bool.or_eq_true, Bool.not_eq_true', decide_eq_false_iff_not] at hqt9_1
    refine wp_skip ?_
    (try simp only [Exit.then, Exit.inBlock, ↓reduceIte, Nat.reduceEqDiff])
    refine hK2 _ _ ?_
    refine wp_seq_k (fun K5 hK5 => ?_)
    refine wp_region_lit ?_
    refine sqv hf (r_move rfl) rfl rfl rfl ?_; clear hf fa; intro fa hf
    refine sqv hf (r_lensl rfl Try.underlying27) rfl rfl rfl ?_; clear hf fa; intro fa hf
    refine sqdt hf (d_make (V := (vInt .i64)) (bytes := 8) (z := (.int .i64 (0 : Int))) (n := l.length) (zr := (0 : Int)) rfl rfl Try.underlying28 (by kernel_rfl) rfl (by intros; rfl) (by omega) (by unfold maxLen; omega)) rfl rfl rfl ?_; clear hf fa; rintro fa _ w2 ⟨mb1, rfl, hle1, hr1, he2⟩ hf
    have hBmb1 : w.heap.size ≤ mb1 := Nat.le_trans hb.size hle1
    replace hr1 := Row.rebase hr1 hb.size
    replace hb := hb.trans (Below.mono he2 hb.size)
    skip
    refine sqv hf (r_assign rfl) rfl rfl rfl ?_; clear hf fa; intro fa hf
    apply wpList_nil
    (try simp only [Exit.then, Exit.inBlock, ↓reduceIte, Nat.reduceEqDiff])
    refine hK5 _ _ ?_
    refine wp_seq_k (fun K6 hK6 => ?_)
    refine wp_region_lit ?_
    refine sqv hf (r_assign rfl) rfl rfl rfl ?_; clear hf fa; intro fa hf
    apply wpList_nil
    (try simp only [Exit.then, Exit.inBlock, ↓reduceIte, Nat.reduceEqDiff])
    refine hK6 _ _ ?_
    refine wp_seq_k (fun K7 hK7 => ?_)
    refine wp_seq_k (fun K8 hK8 => ?_)
    refine wp_region_lit ?_
    refine sqv hf (r_move rfl) rfl rfl rfl ?_; clear hf fa; intro fa hf
    refine sqv hf (r_lensl rfl Try.underlying27) rfl rfl rfl ?_; clear hf fa; intro fa hf
    refine sqv hf (r_move rfl) rfl rfl rfl ?_; clear hf fa; intro fa hf
    apply wpList_nil
    (try simp only [Exit.then, Exit.inBlock, ↓reduceIte, Nat.reduceEqDiff])
    refine hK8 _ _ ?_
    refine wp_block ?_
    refine wp_loop_k (fun m fa wr => ∃ (n : Nat) (xs : List Int) (d : Int) (rwa : Option Addr) (rwc : Nat), m = l.length - n ∧ Fr 46 fa [(0, (.slice a l.length c)), (13, (.slice a l.length c)), (14, (.int .i64 ((l.length : Nat) : Int))), (15, (.int .i64 ((n : Nat) : Int))), (4, (.int .i64 d)), (3, (.slice rwa xs.length rwc))] ∧ Below w.heap.size w wr ∧ Row 1 (vInt .i64) 3 (w.heap.size) wr (.slice rwa (xs.length) rwc) xs ∧ (n ≤ l.length) ∧ (xs.length = l.length) ∧ (xs.take n ++ dlR ((opl l).drop n) d = dlR (opl l) 0) ∧ (-(n : Int) ≤ d) ∧ (d ≤ n)) ?_ ?_
    · skip
      exact ⟨_, 0, (List.replicate l.length 0), 0, (some ⟨mb1, 0, none⟩), l.length, rfl, hf.sub ⟨rfl, rfl, rfl, (some_int (by first | rfl | omega)), (some_int (by first | rfl | omega)), (some_sl (by simp <;> omega) rfl), trivial⟩, hb, (Row.relen hr1), by omega, by simp, rfl, by omega, by omega⟩
    · skip
      clear hf fa; intro m1 fa w3 hI KL1 hKL1
      clear hb
      clear hr1
      obtain ⟨n, xs, d, rwa, rwc, hm1, hf, hb, hrw, hn, hx, Hs, hd1, hd2⟩ := hI
      have hcrw := Row.caps hrw
      refine wp_seq_k (fun K9 hK9 => ?_)
      refine wp_region_lit ?_
      refine sqv hf (r_lt rfl rfl) rfl rfl rfl ?_; clear hf fa; intro fa hf
      apply wpList_nil
      (try simp only [Exit.then, Exit.inBlock, ↓reduceIte, Nat.reduceEqDiff])
      refine hK9 _ _ ?_
      refine wp_seq_k (fun K10 hK10 => ?_)
      refine wp_cond_split (t := (decide (((n : Nat) : Int) < ((l.length : Nat) : Int)))) (hf.ev rfl) (fun hqt16_1 => ?_) (fun hqt16_1 => ?_)
      · have hqt16_1b := hqt16_1
        try simp only [decide_eq_true_eq, Bool.and_eq_true, Bool.or_eq_true, Bool.not_eq_true', decide_eq_false_iff_not, ne_eq, Bool.not_eq_true] at hqt16_1
        refine wp_skip ?_
        (try simp only [Exit.then, Exit.inBlock, ↓reduceIte, Nat.reduceEqDiff])
        refine hK10 _ _ ?_
        refine wp_seq_k (fun K11 hK11 => ?_)
        refine wp_block ?_
        refine wp_seq_k (fun K12 hK12 => ?_)
        refine wp_region_lit ?_
        refine sqv hf (r_move rfl) rfl rfl rfl ?_; clear hf fa; intro fa hf
        obtain ⟨y1, hy1⟩ : ∃ x, (l)[n]? = some x := ⟨_, List.getElem?_eq_getElem (by omega)⟩
        obtain ⟨ab1, aoff1, rfl, hlb1, hel1⟩ := RdS.at hr hy1
        refine sqv hf (r_ixa (sz := 4) (j := n) rfl rfl Try.underlying27 (by kernel_rfl) rfl (by omega) rfl) rfl rfl rfl ?_; clear hf fa; intro fa hf
        refine sqv hf (r_loadA (cs := [(.int .u8 y1.1), (.int .u64 y1.2.1), (.int .u64 y1.2.2.1), (.slice y1.2.2.2.1.at' y1.2.2.2.1.len y1.2.2.2.1.cap)]) rfl Try.underlying39 rfl (by kernel_rfl) (cellsAt_below hel1 hb hlb1)) rfl rfl rfl ?_; clear hf fa; intro fa hf
        refine sqdt hf (d_alloc (z := (.agg #[(.int .u8 (0 : Int)), (.int .u64 (0 : Int)), (.int .u64 (0 : Int)), (.slice none 0 0)])) (cs := #[(.int .u8 (0 : Int)), (.int .u64 (0 : Int)), (.int .u64 (0 : Int)), (.slice none 0 0)]) (by kernel_rfl) rfl) rfl rfl rfl ?_; clear hf fa; rintro fa _ w4 ⟨b1, rfl, hle2, hk1, he3⟩ hf
        have hBb1 : w.heap.size ≤ b1 := Nat.le_trans hb.size hle2
        replace hrw := Row.ext hrw he3
        replace hb := hb.trans (Below.mono he3 hb.size)
        refine sqv hf (r_assign rfl) rfl rfl rfl ?_; clear hf fa; intro fa hf
        refine sqn hf (d_store (T := 39) (v := (.agg #[(.int .u8 y1.1), (.int .u64 y1.2.1), (.int .u64 y1.2.2.1), (.slice y1.2.2.2.1.at' y1.2.2.2.1.len y1.2.2.2.1.cap)])) (cs := #[(.int .u8 (0 : Int)), (.int .u64 (0 : Int)), (.int .u64 (0 : Int)), (.slice none 0 0)]) (cs' := #[(.int .u8 y1.1), (.int .u64 y1.2.1), (.int .u64 y1.2.2.1), (.slice y1.2.2.2.1.at' y1.2.2.2.1.len y1.2.2.2.1.cap)]) rfl rfl (by kernel_rfl) (by intro u hu; simp only [Value.cells, List.mem_cons, List.mem_toArray, List.not_mem_nil, or_false] at hu; rcases hu with rfl | rfl | rfl | rfl <;> rfl) hk1 (Nat.le_of_ble_eq_true rfl) rfl) rfl rfl ?_; clear hf fa; rintro fa _ w5 ⟨hk2, hg1⟩ hf
        replace hrw := Row.grown hrw hg1 (Row.ne_type hrw hk1 rfl)
        replace hb := hb.trans (grown_below hg1 hb.size hBb1)
        apply wpList_nil
        (try simp only [Exit.then, Exit.inBlock, ↓reduceIte, Nat.reduceEqDiff])
        refine hK12 _ _ ?_
        refine wp_seq_k (fun K13 hK13 => ?_)
        refine wp_seq_k (fun K14 hK14 => ?_)
        refine wp_region_lit ?_
        refine sqv hf (r_fa rfl Try.underlying39 (f := 0) (q := 0) rfl (by kernel_rfl) rfl) rfl rfl rfl ?_; clear hf fa; intro fa hf
        refine sqv hf (r_load (v := (.int .u8 y1.1)) rfl Try.underlying5 rfl (cell_blk hk2 rfl)) rfl rfl rfl ?_; clear hf fa; intro fa hf
        refine sqv hf (r_eq rfl rfl) rfl rfl rfl ?_; clear hf fa; intro fa hf
        refine sqv hf (r_move rfl) rfl rfl rfl ?_; clear hf fa; intro fa hf
        refine sqgF (act := (!(decide (y1.1 = (11 : Int))))) (ag := true) (c := (decide (y1.1 = (11 : Int)))) (v := (.pointer (some ⟨b1, 0, none⟩))) hf rfl rfl rfl (fun hact => (r_fa rfl Try.underlying39 (f := 0) (q := 0) rfl (by kernel_rfl) rfl)) rfl rfl ?_; clear hf fa; intro fa hf
        refine sqgF (act := (!(decide (y1.1 = (11 : Int))))) (ag := true) (c := (decide (y1.1 = (11 : Int)))) (v := (.int .u8 y1.1)) hf rfl rfl rfl (fun hact => (r_load (v := (.int .u8 y1.1)) (gb_ev hact rfl) Try.underlying5 rfl (cell_blk hk2 rfl))) rfl rfl ?_; clear hf fa; intro fa hf
        refine sqgF (act := (!(decide (y1.1 = (11 : Int))))) (ag := true) (c := (decide (y1.1 = (11 : Int)))) (v := (.bool (decide (y1.1 = (5 : Int))))) hf rfl rfl rfl (fun hact => (r_eq (gb_ev hact rfl) rfl)) rfl rfl ?_; clear hf fa; intro fa hf
        refine sqv hf (r_pickO (b := (decide (y1.1 = (11 : Int)))) (e := (decide (y1.1 = (5 : Int)))) rfl rfl rfl) rfl rfl rfl ?_; clear hf fa; intro fa hf
        apply wpList_nil
        (try simp only [Exit.then, Exit.inBlock, ↓reduceIte, Nat.reduceEqDiff])
        refine hK14 _ _ ?_
        refine wp_cond_split (t := ((decide (y1.1 = (11 : Int))) || (decide (y1.1 = (5 : Int))))) (hf.ev rfl) (fun hqt27_1 => ?_) (fun hqt27_1 => ?_)
        · have hqt27_1b := hqt27_1
          try simp only [decide_eq_true_eq, Bool.and_eq_true, Bool.or_eq_true, Bool.not_eq_true', decide_eq_false_iff_not, ne_eq, Bool.not_eq_true] at hqt27_1
          refine wp_region_lit ?_
          refine sqv hf (r_move rfl) rfl rfl rfl ?_; clear hf fa; intro fa hf
          refine sqv hf (r_sub (C := (d - (1 : Int))) rfl rfl (by rw [IntKind.wrap_i64]; omega)) rfl rfl rfl ?_; clear hf fa; intro fa hf
          refine sqv hf (r_assign rfl) rfl rfl rfl ?_; clear hf fa; intro fa hf
          apply wpList_nil
          (try simp only [Exit.then, Exit.inBlock, ↓reduceIte, Nat.reduceEqDiff])
          refine hK13 _ _ ?_
          refine wp_seq_k (fun K15 hK15 => ?_)
          refine wp_region_lit ?_
          refine sqv hf (r_move rfl) rfl rfl rfl ?_; clear hf fa; intro fa hf
          refine sqv hf (r_move rfl) rfl rfl rfl ?_; clear hf fa; intro fa hf
          refine sqv hf (r_move rfl) rfl rfl rfl ?_; clear hf fa; intro fa hf
          obtain ⟨rb1, rfl, hbbrb1, hlbrb1⟩ := Row.some hrw (by omega)
          have hy2 := getD_at (l := xs) (j := n) (0 : Int) (by first | omega | (simp only [List.length_set, List.length_take, List.length_append, List.length_replicate, List.length_cons, List.length_nil]; omega))
          have hel2 := RdS.at (Row.rd (by intros; rfl) hrw) hy2
          obtain ⟨_, _, hab, hlr1, hel2⟩ := hel2
          cases hab
          refine sqv hf (r_ixa (sz := 1) (j := n) rfl rfl Try.underlying28 (by kernel_rfl) rfl (by omega) rfl) rfl rfl rfl ?_; clear hf fa; intro fa hf
          refine sqn hf (d_rowset (u := (d - (1 : Int))) (j := n) (by intros; rfl) (by intro x u hu; simp only [vInt, List.mem_singleton] at hu; subst hu; rfl) rfl rfl (by first | rfl | (simp; done) | (simp; omega)) (by kernel_rfl) hrw (by first | omega | (simp only [List.length_set, List.length_take, List.length_append, List.length_replicate, List.length_cons, List.length_nil]; omega)) (by omega)) rfl rfl ?_; clear hf fa; rintro fa _ w6 ⟨hr2, hg2⟩ hf
          replace hk2 := blk_grown hk2 hg2 (fun e => Row.ne_type hrw hk2 rfl (show some rb1 = some b1 by rw [e]))
          replace hb := hb.trans (grown_below hg2 hb.size (by first | omega | (have := Row.lt hrw _ rfl; omega)))
          apply wpList_nil
          (try simp only [Exit.then, Exit.inBlock, ↓reduceIte, Nat.reduceEqDiff])
          refine hK15 _ _ ?_
          refine wp_seq_k (fun K16 hK16 => ?_)
          refine wp_region_lit ?_
          refine sqv hf (r_fa rfl Try.underlying39 (f := 0) (q := 0) rfl (by kernel_rfl) rfl) rfl rfl rfl ?_; clear hf fa; intro fa hf
          refine sqv hf (r_load (v := (.int .u8 y1.1)) rfl Try.underlying5 rfl (cell_blk hk2 rfl)) rfl rfl rfl ?_; clear hf fa; intro fa hf
          refine sqdt hf (d_callS (vs := [(.int .u8 y1.1)]) rfl Try.func64 (by kernel_rfl) (by kernel_rfl) (opens_any y1.1 _)) rfl rfl rfl ?_; clear hf fa; rintro fa _ _ ⟨rfl, rfl⟩ hf
          refine sqv hf (r_move rfl) rfl rfl rfl ?_; clear hf fa; intro fa hf
          refine sqgF (act := (!(opensI y1.1))) (ag := true) (c := (opensI y1.1)) (v := (.pointer (some ⟨b1, 0, none⟩))) hf rfl rfl rfl (fun hact => (r_fa rfl Try.underlying39 (f := 0) (q := 0) rfl (by kernel_rfl) rfl)) rfl rfl ?_; clear hf fa; intro fa hf
          refine sqgF (act := (!(opensI y1.1))) (ag := true) (c := (opensI y1.1)) (v := (.int .u8 y1.1)) hf rfl rfl rfl (fun hact => (r_load (v := (.int .u8 y1.1)) (gb_ev hact rfl) Try.underlying5 rfl (cell_blk hk2 rfl))) rfl rfl ?_; clear hf fa; intro fa hf
          refine sqgF (act := (!(opensI y1.1))) (ag := true) (c := (opensI y1.1)) (v := (.bool (decide (y1.1 = (5 : Int))))) hf rfl rfl rfl (fun hact => (r_eq (gb_ev hact rfl) rfl)) rfl rfl ?_; clear hf fa; intro fa hf
          refine sqv hf (r_pickO (b := (opensI y1.1)) (e := (decide (y1.1 = (5 : Int)))) rfl rfl rfl) rfl rfl rfl ?_; clear hf fa; intro fa hf
          apply wpList_nil
          (try simp only [Exit.then, Exit.inBlock, ↓reduceIte, Nat.reduceEqDiff])
          refine hK16 _ _ ?_
          refine wp_cond_split (t := ((opensI y1.1) || (decide (y1.1 = (5 : Int))))) (hf.ev rfl) (fun hqt41_1 => ?_) (fun hqt41_1 => ?_)
          · have hqt41_1b := hqt41_1
            try simp only [decide_eq_true_eq, Bool.and_eq_true, Bool.or_eq_true, Bool.not_eq_true', decide_eq_false_iff_not, ne_eq, Bool.not_eq_true] at hqt41_1
            refine wp_region_lit ?_
            refine sqv hf (r_move rfl) rfl rfl rfl ?_; clear hf fa; intro fa hf
            refine sqv hf (r_add (C := ((d - (1 : Int)) + (1 : Int))) rfl rfl (by rw [IntKind.wrap_i64]; omega)) rfl rfl rfl ?_; clear hf fa; intro fa hf
            refine sqv hf (r_assign rfl) rfl rfl rfl ?_; clear hf fa; intro fa hf
            apply wpList_nil
            (try simp only [Exit.then, Exit.inBlock, ↓reduceIte, Nat.reduceEqDiff])
            refine hK11 _ _ ?_
            refine wp_region_lit ?_
            refine sqv hf (r_add (C := (((n : Nat) : Int) + (1 : Int))) rfl rfl (by rw [IntKind.wrap_i64]; omega)) rfl rfl rfl ?_; clear hf fa; intro fa hf
            refine sqv hf (r_move rfl) rfl rfl rfl ?_; clear hf fa; intro fa hf
            apply wpList_nil
            (try simp only [Exit.then, Exit.inBlock, ↓reduceIte, Nat.reduceEqDiff])
            refine hKL1 _ _ _ (by omega) ⟨(n + 1), ((xs).set n (d - (1 : Int))), ((d - (1 : Int)) + (1 : Int)), (some ⟨rb1, 0, none⟩), rwc, rfl, hf.sub ⟨rfl, rfl, rfl, (some_int (by first | rfl | omega)), rfl, (some_sl (by simp <;> omega) rfl), trivial⟩, hb, (Row.relen hr2), by omega, (by rw [List.length_set]; exact hx), (by have h := Hs; rw [opl_drop hy1, dlR] at h; simp only [if_pos hqt27_1, if_pos hqt41_1] at h; rw [List.take_set_snoc (by omega)]; simpa using h), by omega, by omega⟩
          · have hqt41_1b := hqt41_1
            replace hqt41_1 := Bool.eq_false_iff.1 hqt41_1
            try simp only [ne_eq, decide_eq_true_eq, Bool.and_eq_true, Bool.or_eq_true, Bool.not_eq_true', decide_eq_false_iff_not] at hqt41_1
            refine wp_skip ?_
            (try simp only [Exit.then, Exit.inBlock, ↓reduceIte, Nat.reduceEqDiff])
            refine hK11 _ _ ?_
            refine wp_region_lit ?_
            refine sqv hf (r_add (C := (((n : Nat) : Int) + (1 : Int))) rfl rfl (by rw [IntKind.wrap_i64]; omega)) rfl rfl rfl ?_; clear hf fa; intro fa hf
            refine sqv hf (r_move rfl) rfl rfl rfl ?_; clear hf fa; intro fa hf
            apply wpList_nil
            (try simp only [Exit.then, Exit.inBlock, ↓reduceIte, Nat.reduceEqDiff])
            refine hKL1 _ _ _ (by omega) ⟨(n + 1), ((xs).set n (d - (1 : Int))), (d - (1 : Int)), (some ⟨rb1, 0, none⟩), rwc, rfl, hf.sub ⟨rfl, rfl, rfl, (some_int (by first | rfl | omega)), rfl, (some_sl (by simp <;> omega) rfl), trivial⟩, hb, (Row.relen hr2), by omega, (by rw [List.length_set]; exact hx), (by have h := Hs; rw [opl_drop hy1, dlR] at h; simp only [if_pos hqt27_1, if_neg hqt41_1] at h; rw [List.take_set_snoc (by omega)]; simpa using h), by omega, by omega⟩
        · have hqt27_1b := hqt27_1
          replace hqt27_1 := Bool.eq_false_iff.1 hqt27_1
          try simp only [ne_eq, decide_eq_true_eq, Bool.and_eq_true, Bool.or_eq_true, Bool.not_eq_true', decide_eq_false_iff_not] at hqt27_1
          refine wp_skip ?_
          (try simp only [Exit.then, Exit.inBlock, ↓reduceIte, Nat.reduceEqDiff])
          refine hK13 _ _ ?_
          refine wp_seq_k (fun K17 hK17 => ?_)
          refine wp_region_lit ?_
          refine sqv hf (r_move rfl) rfl rfl rfl ?_; clear hf fa; intro fa hf
          refine sqv hf (r_move rfl) rfl rfl rfl ?_; clear hf fa; intro fa hf
          refine sqv hf (r_move rfl) rfl rfl rfl ?_; clear hf fa; intro fa hf
          obtain ⟨rb2, rfl, hbbrb2, hlbrb2⟩ := Row.some hrw (by omega)
          have hy3 := getD_at (l := xs) (j := n) (0 : Int) (by first | omega | (simp only [List.length_set, List.length_take, List.length_append, List.length_replicate, List.length_cons, List.length_nil]; omega))
          have hel3 := RdS.at (Row.rd (by intros; rfl) hrw) hy3
          obtain ⟨_, _, hab, hlr2, hel3⟩ := hel3
          cases hab
          refine sqv hf (r_ixa (sz := 1) (j := n) rfl rfl Try.underlying28 (by kernel_rfl) rfl (by omega) rfl) rfl rfl rfl ?_; clear hf fa; intro fa hf
          refine sqn hf (d_rowset (u := d) (j := n) (by intros; rfl) (by intro x u hu; simp only [vInt, List.mem_singleton] at hu; subst hu; rfl) rfl rfl (by first | rfl | (simp; done) | (simp; omega)) (by kernel_rfl) hrw (by first | omega | (simp only [List.length_set, List.length_take, List.length_append, List.length_replicate, List.length_cons, List.length_nil]; omega)) (by omega)) rfl rfl ?_; clear hf fa; rintro fa _ w7 ⟨hr3, hg3⟩ hf
          replace hk2 := blk_grown hk2 hg3 (fun e => Row.ne_type hrw hk2 rfl (show some rb2 = some b1 by rw [e]))
          replace hb := hb.trans (grown_below hg3 hb.size (by first | omega | (have := Row.lt hrw _ rfl; omega)))
          apply wpList_nil
          (try simp only [Exit.then, Exit.inBlock, ↓reduceIte, Nat.reduceEqDiff])
          refine hK17 _ _ ?_
          refine wp_seq_k (fun K18 hK18 => ?_)
          refine wp_region_lit ?_
          refine sqv hf (r_fa rfl Try.underlying39 (f := 0) (q := 0) rfl (by kernel_rfl) rfl) rfl rfl rfl ?_; clear hf fa; intro fa hf
          refine sqv hf (r_load (v := (.int .u8 y1.1)) rfl Try.underlying5 rfl (cell_blk hk2 rfl)) rfl rfl rfl ?_; clear hf fa; intro fa hf
          refine sqdt hf (d_callS (vs := [(.int .u8 y1.1)]) rfl Try.func64 (by kernel_rfl) (by kernel_rfl) (opens_any y1.1 _)) rfl rfl rfl ?_; clear hf fa; rintro fa _ _ ⟨rfl, rfl⟩ hf
          refine sqv hf (r_move rfl) rfl rfl rfl ?_; clear hf fa; intro fa hf
          refine sqgF (act := (!(opensI y1.1))) (ag := true) (c := (opensI y1.1)) (v := (.pointer (some ⟨b1, 0, none⟩))) hf rfl rfl rfl (fun hact => (r_fa rfl Try.underlying39 (f := 0) (q := 0) rfl (by kernel_rfl) rfl)) rfl rfl ?_; clear hf fa; intro fa hf
          refine sqgF (act := (!(opensI y1.1))) (ag := true) (c := (opensI y1.1)) (v := (.int .u8 y1.1)) hf rfl rfl rfl (fun hact => (r_load (v := (.int .u8 y1.1)) (gb_ev hact rfl) Try.underlying5 rfl (cell_blk hk2 rfl))) rfl rfl ?_; clear hf fa; intro fa hf
          refine sqgF (act := (!(opensI y1.1))) (ag := true) (c := (opensI y1.1)) (v := (.bool (decide (y1.1 = (5 : Int))))) hf rfl rfl rfl (fun hact => (r_eq (gb_ev hact rfl) rfl)) rfl rfl ?_; clear hf fa; intro fa hf
          refine sqv hf (r_pickO (b := (opensI y1.1)) (e := (decide (y1.1 = (5 : Int)))) rfl rfl rfl) rfl rfl rfl ?_; clear hf fa; intro fa hf
          apply wpList_nil
          (try simp only [Exit.then, Exit.inBlock, ↓reduceIte, Nat.reduceEqDiff])
          refine hK18 _ _ ?_
          refine wp_cond_split (t := ((opensI y1.1) || (decide (y1.1 = (5 : Int))))) (hf.ev rfl) (fun hqt41_2 => ?_) (fun hqt41_2 => ?_)
          · have hqt41_2b := hqt41_2
            try simp only [decide_eq_true_eq, Bool.and_eq_true, Bool.or_eq_true, Bool.not_eq_true', decide_eq_false_iff_not, ne_eq, Bool.not_eq_true] at hqt41_2
            refine wp_region_lit ?_
            refine sqv hf (r_move rfl) rfl rfl rfl ?_; clear hf fa; intro fa hf
            refine sqv hf (r_add (C := (d + (1 : Int))) rfl rfl (by rw [IntKind.wrap_i64]; omega)) rfl rfl rfl ?_; clear hf fa; intro fa hf
            refine sqv hf (r_assign rfl) rfl rfl rfl ?_; clear hf fa; intro fa hf
            apply wpList_nil
            (try simp only [Exit.then, Exit.inBlock, ↓reduceIte, Nat.reduceEqDiff])
            refine hK11 _ _ ?_
            refine wp_region_lit ?_
            refine sqv hf (r_add (C := (((n : Nat) : Int) + (1 : Int))) rfl rfl (by rw [IntKind.wrap_i64]; omega)) rfl rfl rfl ?_; clear hf fa; intro fa hf
            refine sqv hf (r_move rfl) rfl rfl rfl ?_; clear hf fa; intro fa hf
            apply wpList_nil
            (try simp only [Exit.then, Exit.inBlock, ↓reduceIte, Nat.reduceEqDiff])
            refine hKL1 _ _ _ (by omega) ⟨(n + 1), ((xs).set n d), (d + (1 : Int)), (some ⟨rb2, 0, none⟩), rwc, rfl, hf.sub ⟨rfl, rfl, rfl, (some_int (by first | rfl | omega)), rfl, (some_sl (by simp <;> omega) rfl), trivial⟩, hb, (Row.relen hr3), by omega, (by rw [List.length_set]; exact hx), (by have h := Hs; rw [opl_drop hy1, dlR] at h; simp only [if_neg hqt27_1, if_pos hqt41_2] at h; rw [List.take_set_snoc (by omega)]; simpa using h), by omega, by omega⟩
          · have hqt41_2b := hqt41_2
            replace hqt41_2 := Bool.eq_false_iff.1 hqt41_2
            try simp only [ne_eq, decide_eq_true_eq, Bool.and_eq_true, Bool.or_eq_true, Bool.not_eq_true', decide_eq_false_iff_not] at hqt41_2
            refine wp_skip ?_
            (try simp only [Exit.then, Exit.inBlock, ↓reduceIte, Nat.reduceEqDiff])
            refine hK11 _ _ ?_
            refine wp_region_lit ?_
            refine sqv hf (r_add (C := (((n : Nat) : Int) + (1 : Int))) rfl rfl (by rw [IntKind.wrap_i64]; omega)) rfl rfl rfl ?_; clear hf fa; intro fa hf
            refine sqv hf (r_move rfl) rfl rfl rfl ?_; clear hf fa; intro fa hf
            apply wpList_nil
            (try simp only [Exit.then, Exit.inBlock, ↓reduceIte, Nat.reduceEqDiff])
            refine hKL1 _ _ _ (by omega) ⟨(n + 1), ((xs).set n d), d, (some ⟨rb2, 0, none⟩), rwc, rfl, hf.sub ⟨rfl, rfl, rfl, (some_int (by first | rfl | omega)), rfl, (some_sl (by simp <;> omega) rfl), trivial⟩, hb, (Row.relen hr3), by omega, (by rw [List.length_set]; exact hx), (by have h := Hs; rw [opl_drop hy1, dlR] at h; simp only [if_neg hqt27_1, if_neg hqt41_2] at h; rw [List.take_set_snoc (by omega)]; simpa using h), by omega, by omega⟩
      · have hqt16_1b := hqt16_1
        replace hqt16_1 := Bool.eq_false_iff.1 hqt16_1
        try simp only [ne_eq, decide_eq_true_eq, Bool.and_eq_true, Bool.or_eq_true, Bool.not_eq_true', decide_eq_false_iff_not] at hqt16_1
        refine wp_exit ?_
        (try simp only [Exit.then, Exit.inBlock, ↓reduceIte, Nat.reduceEqDiff])
        refine hK7 _ _ ?_
        refine wp_seq_k (fun K19 hK19 => ?_)
        refine wp_region_lit ?_
        refine sqv hf (r_move rfl) rfl rfl rfl ?_; clear hf fa; intro fa hf
        refine sqv hf (r_assign rfl) rfl rfl rfl ?_; clear hf fa; intro fa hf
        apply wpList_nil
        (try simp only [Exit.then, Exit.inBlock, ↓reduceIte, Nat.reduceEqDiff])
        refine hK19 _ _ ?_
        refine wp_ret ?_
        (try simp only [Exit.then, Exit.inBlock])
        refine ret1 hf rfl rfl ?_
        have hfin : xs = depthsP (opl l) := by
          have h := Hs; rw [opl_end (by omega), dlR, List.append_nil, List.take_of_length_le (by omega)] at h
          rw [depthsP, if_neg hqt9_1, h]
        rw [← hfin]; exact ⟨_, rfl, hrw, hb⟩

set_option maxHeartbeats 1000000 in
set_option maxRecDepth 100000 in
theorem deepest_any (l : List Ins) (a : Option Addr) (c : Nat) (w : World) (hr : RdS 4 vIns w a l) (hlc : l.length ≤ c) (hlm : l.length ≤ 100000) : Calls Try.prog 42 #[(.slice a l.length c)] w fun e w' => e = .returned (.int .i64 (deepR (opl l) (depthsP (opl l)) 0)) ∧ Below w.heap.size w w' := by
  have hdl : (depthsP (opl l)).length ≤ l.length := by rw [← opl_length l]; exact depthsP_le _
  have hdb := depthsP_bd (opl l)
  refine sx_enter (L := [(0, (.slice a l.length c))]) Try.func42 rfl rfl rfl rfl (fun fa hf => ?_)
  have hb : Below w.heap.size w w := Below.refl _ _
  refine wp_seq_k (fun K1 hK1 => ?_)
  refine wp_region_lit ?_
  refine sqv hf (r_assign rfl) rfl rfl rfl ?_; clear hf fa; intro fa hf
  apply wpList_nil
  (try simp only [Exit.then, Exit.inBlock, ↓reduceIte, Nat.reduceEqDiff])
  refine hK1 _ _ ?_
  refine wp_seq_k (fun K2 hK2 => ?_)
  refine wp_region_lit ?_
  refine sqv hf (r_assign rfl) rfl rfl rfl ?_; clear hf fa; intro fa hf
  apply wpList_nil
  (try simp only [Exit.then, Exit.inBlock, ↓reduceIte, Nat.reduceEqDiff])
  refine hK2 _ _ ?_
  refine wp_seq_k (fun K3 hK3 => ?_)
  refine wp_seq_k (fun K4 hK4 => ?_)
  refine wp_region_lit ?_
  refine sqv hf (r_move rfl) rfl rfl rfl ?_; clear hf fa; intro fa hf
  refine sqdt hf (d_callX (vs := [(.slice a l.length c)]) rfl Try.func41 (by kernel_rfl) (by kernel_rfl) (depths_any l a c _ (RdS.ext hr hb) hlc hlm)) rfl rfl rfl ?_; clear hf fa; rintro fa v w1 ⟨hr1, he1⟩ hf; obtain ⟨ra1, rc1, rfl, hcrc1, hmrc1⟩ := Row.slice hr1
  replace hr1 := Row.rebase hr1 hb.size
  replace hb := hb.trans (Below.mono he1 hb.size)
  refine sqv hf (r_lensl rfl Try.underlying28) rfl rfl rfl ?_; clear hf fa; intro fa hf
  refine sqv hf (r_move rfl) rfl rfl rfl ?_; clear hf fa; intro fa hf
  apply wpList_nil
  (try simp only [Exit.then, Exit.inBlock, ↓reduceIte, Nat.reduceEqDiff])
  refine hK4 _ _ ?_
  refine wp_block ?_
  refine wp_loop_k (fun m fa wr => ∃ (n : Nat) (q : Int) (rda : Option Addr) (rdc : Nat), m = (depthsP (opl l)).length - n ∧ Fr 27 fa [(0, (.slice a l.length c)), (8, (.int .i64 (((depthsP (opl l)).length : Nat) : Int))), (9, (.int .i64 ((n : Nat) : Int))), (3, (.int .i64 q)), (7, (.slice rda (((depthsP (opl l))).length) rdc))] ∧ Below w.heap.size w wr ∧ Row 1 (vInt .i64) 3 (w.heap.size) wr (.slice rda (((depthsP (opl l))).length) rdc) (depthsP (opl l)) ∧ (n ≤ (depthsP (opl l)).length) ∧ (deepR ((opl l).drop n) ((depthsP (opl l)).drop n) q = deepR (opl l) (depthsP (opl l)) 0)) ?_ ?_
  · skip
    exact ⟨_, 0, 0, ra1, rc1, rfl, hf.sub ⟨rfl, (some_int (by first | rfl | omega)), (some_int (by first | rfl | omega)), (some_int (by first | rfl | omega)), rfl, trivial⟩, hb, (Row.relen hr1), by omega, rfl⟩
  · skip
    clear hf fa; intro m1 fa w2 hI KL1 hKL1
    clear hb
    clear hr1
    obtain ⟨n, q, rda, rdc, hm1, hf, hb, hrd, hn, Hs⟩ := hI
    have hcrd := Row.caps hrd
    refine wp_seq_k (fun K5 hK5 => ?_)
    refine wp_region_lit ?_
    refine sqv hf (r_lt rfl rfl) rfl rfl rfl ?_; clear hf fa; intro fa hf
    apply wpList_nil
    (try simp only [Exit.then, Exit.inBlock, ↓reduceIte, Nat.reduceEqDiff])
    refine hK5 _ _ ?_
    refine wp_seq_k (fun K6 hK6 => ?_)
    refine wp_cond_split (t := (decide (((n : Nat) : Int) < (((depthsP (opl l)).length : Nat) : Int)))) (hf.ev rfl) (fun hqt10_1 => ?_) (fun hqt10_1 => ?_)
    · have hqt10_1b := hqt10_1
      try simp only [decide_eq_true_eq, Bool.and_eq_true, Bool.or_eq_true, Bool.not_eq_true', decide_eq_false_iff_not, ne_eq, Bool.not_eq_true] at hqt10_1
      refine wp_skip ?_
      (try simp only [Exit.then, Exit.inBlock, ↓reduceIte, Nat.reduceEqDiff])
      refine hK6 _ _ ?_
      refine wp_seq_k (fun K7 hK7 => ?_)
      refine wp_block ?_
      refine wp_seq_k (fun K8 hK8 => ?_)
      refine wp_region_lit ?_
      refine sqv hf (r_move rfl) rfl rfl rfl ?_; clear hf fa; intro fa hf
      obtain ⟨rb1, rfl, hbbrb1, hlbrb1⟩ := Row.some hrd (by omega)
      have hy1 := getD_at (l := (depthsP (opl l))) (j := n) (0 : Int) (by first | omega | (simp only [List.length_set, List.length_take, List.length_append, List.length_replicate, List.length_cons, List.length_nil]; omega))
      have hel1 := RdS.at (Row.rd (by intros; rfl) hrd) hy1
      obtain ⟨_, _, hab, hlr1, hel1⟩ := hel1
      cases hab
      refine sqv hf (r_ixa (sz := 1) (j := n) rfl rfl Try.underlying28 (by kernel_rfl) rfl (by omega) rfl) rfl rfl rfl ?_; clear hf fa; intro fa hf
      refine sqv hf (r_load (v := (.int .i64 (((depthsP (opl l)).getD n (0 : Int))))) rfl Try.underlying3 rfl (cellsAt_cell hel1 (i := 0) rfl rfl)) rfl rfl rfl ?_; clear hf fa; intro fa hf
      refine sqv hf (r_assign rfl) rfl rfl rfl ?_; clear hf fa; intro fa hf
      refine sqv hf (r_assign rfl) rfl rfl rfl ?_; clear hf fa; intro fa hf
      apply wpList_nil
      (try simp only [Exit.then, Exit.inBlock, ↓reduceIte, Nat.reduceEqDiff])
      refine hK8 _ _ ?_
      refine wp_seq_k (fun K9 hK9 => ?_)
      refine wp_seq_k (fun K10 hK10 => ?_)
      refine wp_region_lit ?_
      refine sqv hf (r_move rfl) rfl rfl rfl ?_; clear hf fa; intro fa hf
      refine sqv hf (r_move rfl) rfl rfl rfl ?_; clear hf fa; intro fa hf
      obtain ⟨y1, hy2⟩ : ∃ x, (l)[n]? = some x := ⟨_, List.getElem?_eq_getElem (by omega)⟩
      obtain ⟨ab1, aoff1, rfl, hlb1, hel2⟩ := RdS.at hr hy2
      refine sqv hf (r_ixa (sz := 4) (j := n) rfl rfl Try.underlying27 (by kernel_rfl) rfl (by omega) rfl) rfl rfl rfl ?_; clear hf fa; intro fa hf
      refine sqv hf (r_fa rfl Try.underlying39 (f := 0) (q := (aoff1 + n * 4)) rfl (by kernel_rfl) rfl) rfl rfl rfl ?_; clear hf fa; intro fa hf
      refine sqv hf (r_load (v := (.int .u8 y1.1)) rfl Try.underlying5 rfl (cellsAt_cell (cellsAt_below hel2 hb hlb1) (i := 0) rfl rfl)) rfl rfl rfl ?_; clear hf fa; intro fa hf
      refine sqdt hf (d_callS (vs := [(.int .u8 y1.1)]) rfl Try.func64 (by kernel_rfl) (by kernel_rfl) (opens_any y1.1 _)) rfl rfl rfl ?_; clear hf fa; rintro fa _ _ ⟨rfl, rfl⟩ hf
      apply wpList_nil
      (try simp only [Exit.then, Exit.inBlock, ↓reduceIte, Nat.reduceEqDiff])
      refine hK10 _ _ ?_
      refine wp_cond_split (t := (opensI y1.1)) (hf.ev rfl) (fun hqt19_1 => ?_) (fun hqt19_1 => ?_)
      · have hqt19_1b := hqt19_1
        try simp only [decide_eq_true_eq, Bool.and_eq_true, Bool.or_eq_true, Bool.not_eq_true', decide_eq_false_iff_not, ne_eq, Bool.not_eq_true] at hqt19_1
        have hq := hdb _ (getD_mem' (l := depthsP (opl l)) (j := n) (by omega)); rw [opl_length] at hq
        refine wp_region_lit ?_
        refine sqv hf (r_move rfl) rfl rfl rfl ?_; clear hf fa; intro fa hf
        refine sqv hf (r_add (C := ((((depthsP (opl l)).getD n (0 : Int))) + (1 : Int))) rfl rfl (by rw [IntKind.wrap_i64]; omega)) rfl rfl rfl ?_; clear hf fa; intro fa hf
        refine sqv hf (r_assign rfl) rfl rfl rfl ?_; clear hf fa; intro fa hf
        apply wpList_nil
        (try simp only [Exit.then, Exit.inBlock, ↓reduceIte, Nat.reduceEqDiff])
        refine hK9 _ _ ?_
        refine wp_region_lit ?_
        refine sqv hf (r_move rfl) rfl rfl rfl ?_; clear hf fa; intro fa hf
        refine sqv hf (r_move rfl) rfl rfl rfl ?_; clear hf fa; intro fa hf
        refine sqv hf (r_max rfl rfl) rfl rfl rfl ?_; clear hf fa; intro fa hf
        refine sqv hf (r_assign rfl) rfl rfl rfl ?_; clear hf fa; intro fa hf
        apply wpList_nil
        (try simp only [Exit.then, Exit.inBlock, ↓reduceIte, Nat.reduceEqDiff])
        refine hK7 _ _ ?_
        refine wp_region_lit ?_
        refine sqv hf (r_add (C := (((n : Nat) : Int) + (1 : Int))) rfl rfl (by rw [IntKind.wrap_i64]; omega)) rfl rfl rfl ?_; clear hf fa; intro fa hf
        refine sqv hf (r_move rfl) rfl rfl rfl ?_; clear hf fa; intro fa hf
        apply wpList_nil
        (try simp only [Exit.then, Exit.inBlock, ↓reduceIte, Nat.reduceEqDiff])
        refine hKL1 _ _ _ (by omega) ⟨(n + 1), (if q < ((((depthsP (opl l)).getD n (0 : Int))) + (1 : Int)) then ((((depthsP (opl l)).getD n (0 : Int))) + (1 : Int)) else q), (some ⟨rb1, 0, none⟩), rdc, rfl, hf.sub ⟨rfl, rfl, (some_int (by first | rfl | omega)), rfl, rfl, trivial⟩, hb, (Row.relen hrd), by omega, (by have h := Hs; rw [opl_drop hy2, drop_getD (l := depthsP (opl l)) (n := n) (by omega), deepR, if_pos hqt19_1] at h; exact h)⟩
      · have hqt19_1b := hqt19_1
        replace hqt19_1 := Bool.eq_false_iff.1 hqt19_1
        try simp only [ne_eq, decide_eq_true_eq, Bool.and_eq_true, Bool.or_eq_true, Bool.not_eq_true', decide_eq_false_iff_not] at hqt19_1
        refine wp_skip ?_
        (try simp only [Exit.then, Exit.inBlock, ↓reduceIte, Nat.reduceEqDiff])
        refine hK9 _ _ ?_
        refine wp_region_lit ?_
        refine sqv hf (r_move rfl) rfl rfl rfl ?_; clear hf fa; intro fa hf
        refine sqv hf (r_move rfl) rfl rfl rfl ?_; clear hf fa; intro fa hf
        refine sqv hf (r_max rfl rfl) rfl rfl rfl ?_; clear hf fa; intro fa hf
        refine sqv hf (r_assign rfl) rfl rfl rfl ?_; clear hf fa; intro fa hf
        apply wpList_nil
        (try simp only [Exit.then, Exit.inBlock, ↓reduceIte, Nat.reduceEqDiff])
        refine hK7 _ _ ?_
        refine wp_region_lit ?_
        refine sqv hf (r_add (C := (((n : Nat) : Int) + (1 : Int))) rfl rfl (by rw [IntKind.wrap_i64]; omega)) rfl rfl rfl ?_; clear hf fa; intro fa hf
        refine sqv hf (r_move rfl) rfl rfl rfl ?_; clear hf fa; intro fa hf
        apply wpList_nil
        (try simp only [Exit.then, Exit.inBlock, ↓reduceIte, Nat.reduceEqDiff])
        refine hKL1 _ _ _ (by omega) ⟨(n + 1), (if q < (((depthsP (opl l)).getD n (0 : Int))) then (((depthsP (opl l)).getD n (0 : Int))) else q), (some ⟨rb1, 0, none⟩), rdc, rfl, hf.sub ⟨rfl, rfl, (some_int (by first | rfl | omega)), rfl, rfl, trivial⟩, hb, (Row.relen hrd), by omega, (by have h := Hs; rw [opl_drop hy2, drop_getD (l := depthsP (opl l)) (n := n) (by omega), deepR, if_neg hqt19_1] at h; exact h)⟩
    · have hqt10_1b := hqt10_1
      replace hqt10_1 := Bool.eq_false_iff.1 hqt10_1
      try simp only [ne_eq, decide_eq_true_eq, Bool.and_eq_true, Bool.or_eq_true, Bool.not_eq_true', decide_eq_false_iff_not] at hqt10_1
      refine wp_exit ?_
      (try simp only [Exit.then, Exit.inBlock, ↓reduceIte, Nat.reduceEqDiff])
      refine hK3 _ _ ?_
      refine wp_seq_k (fun K11 hK11 => ?_)
      refine wp_region_lit ?_
      refine sqv hf (r_move rfl) rfl rfl rfl ?_; clear hf fa; intro fa hf
      refine sqv hf (r_assign rfl) rfl rfl rfl ?_; clear hf fa; intro fa hf
      apply wpList_nil
      (try simp only [Exit.then, Exit.inBlock, ↓reduceIte, Nat.reduceEqDiff])
      refine hK11 _ _ ?_
      refine wp_ret ?_
      (try simp only [Exit.then, Exit.inBlock])
      refine ret1 hf rfl rfl ?_
      refine ⟨?_, hb⟩; have h := Hs; rw [show (depthsP (opl l)).drop n = [] from List.drop_eq_nil_of_le (by omega), deepR_nil] at h; rw [h]

set_option maxHeartbeats 1000000 in
set_option maxRecDepth 100000 in
theorem of_any (l : List Ins) (a : Option Addr) (c : Nat) (w : World) (hr : RdS 4 vIns w a l) (hlc : l.length ≤ c) (hlm : l.length ≤ 100000) (pn pl : List Int) (z : Int) (hpq : ofQ (opl l) = (pn, pl)) (hz : shapeP (opl l) = z) : Calls Try.prog 22 #[(.slice a l.length c)] w fun e w' => ∃ v, e = .returned v ∧ ∃ a1 a2 c1 c2, v = (.tuple #[.agg #[.slice a1 pn.length c1, .slice a2 pl.length c2], .int .i64 z]) ∧ Row 1 (vInt .i64) 3 w.heap.size w' (.slice a1 pn.length c1) pn ∧ Row 1 (vInt .i64) 3 w.heap.size w' (.slice a2 pl.length c2) pl ∧ Below w.heap.size w w' := by
  refine sx_enter (L := [(0, (.slice a l.length c))]) Try.func22 rfl rfl rfl rfl (fun fa hf => ?_)
  have hb : Below w.heap.size w w := Below.refl _ _
  refine wp_seq_k (fun K1 hK1 => ?_)
  refine wp_region_lit ?_
  refine sqdt hf (d_alloc (z := (.agg #[(.slice none 0 0), (.slice none 0 0)])) (cs := #[(.slice none 0 0), (.slice none 0 0)]) (by kernel_rfl) rfl) rfl rfl rfl ?_; clear hf fa; rintro fa _ w1 ⟨b1, rfl, hle1, hk1, he1⟩ hf
  have hBb1 : w.heap.size ≤ b1 := Nat.le_trans hb.size hle1
  replace hb := hb.trans (Below.mono he1 hb.size)
  refine sqv hf (r_assign rfl) rfl rfl rfl ?_; clear hf fa; intro fa hf
  apply wpList_nil
  (try simp only [Exit.then, Exit.inBlock, ↓reduceIte, Nat.reduceEqDiff])
  refine hK1 _ _ ?_
  refine wp_seq_k (fun K2 hK2 => ?_)
  refine wp_seq_k (fun K3 hK3 => ?_)
  refine wp_region_lit ?_
  refine sqv hf (r_move rfl) rfl rfl rfl ?_; clear hf fa; intro fa hf
  refine sqdt hf (d_callB (vs := [(.slice a l.length c)]) rfl Try.func63 (by kernel_rfl) (by kernel_rfl) (shape_any l a c _ (RdS.ext hr hb) hlc hlm)) rfl rfl rfl ?_; clear hf fa; rintro fa _ w2 ⟨rfl, he2⟩ hf
  replace hk1 := blk_ext hk1 he2
  replace hb := hb.trans (Below.mono he2 hb.size)
  refine sqv hf (r_assign rfl) rfl rfl rfl ?_; clear hf fa; intro fa hf
  apply wpList_nil
  (try simp only [Exit.then, Exit.inBlock, ↓reduceIte, Nat.reduceEqDiff])
  refine hK3 _ _ ?_
  refine wp_seq_k (fun K4 hK4 => ?_)
  refine wp_region_lit ?_
  refine sqv hf (r_move rfl) rfl rfl rfl ?_; clear hf fa; intro fa hf
  refine sqv hf (r_ne rfl rfl) rfl rfl rfl ?_; clear hf fa; intro fa hf
  apply wpList_nil
  (try simp only [Exit.then, Exit.inBlock, ↓reduceIte, Nat.reduceEqDiff])
  refine hK4 _ _ ?_
  refine wp_cond_split (t := (decide ((shapeP (opl l)) ≠ (0 : Int)))) (hf.ev rfl) (fun hqt12_1 => ?_) (fun hqt12_1 => ?_)
  · have hqt12_1b := hqt12_1
    try simp only [decide_eq_true_eq, Bool.and_eq_true, Bool.or_eq_true, Bool.not_eq_true', decide_eq_false_iff_not, ne_eq, Bool.not_eq_true] at hqt12_1
    refine wp_seq_k (fun K5 hK5 => ?_)
    refine wp_region_lit ?_
    refine sqv hf (r_build (vs := []) (cs := #[(.slice none 0 0), (.slice none 0 0)]) rfl (fun _ => by kernel_rfl)) rfl rfl rfl ?_; clear hf fa; intro fa hf
    refine sqv hf (r_move rfl) rfl rfl rfl ?_; clear hf fa; intro fa hf
    refine sqn hf (d_store (T := 30) (v := (.agg #[(.slice none 0 0), (.slice none 0 0)])) (cs := #[(.slice none 0 0), (.slice none 0 0)]) (cs' := #[(.slice none 0 0), (.slice none 0 0)]) rfl rfl (by kernel_rfl) (by intro u hu; simp only [Value.cells, List.mem_cons, List.mem_toArray, List.not_mem_nil, or_false] at hu; rcases hu with rfl | rfl <;> rfl) hk1 (Nat.le_of_ble_eq_true rfl) rfl) rfl rfl ?_; clear hf fa; rintro fa _ w3 ⟨hk2, hg1⟩ hf
    replace hb := hb.trans (grown_below hg1 hb.size hBb1)
    refine sqv hf (r_assign rfl) rfl rfl rfl ?_; clear hf fa; intro fa hf
    apply wpList_nil
    (try simp only [Exit.then, Exit.inBlock, ↓reduceIte, Nat.reduceEqDiff])
    refine hK5 _ _ ?_
    refine wp_ret ?_
    (try simp only [Exit.then, Exit.inBlock])
    refine retCT hf rfl rfl hk2 Try.underlying30 rfl (by kernel_rfl) rfl ?_
    rw [ofQ, if_pos hqt12_1] at hpq; cases hpq; rw [hz]
    exact ⟨_, rfl, none, none, 0, 0, rfl, Row.nil, Row.nil, hb⟩
  · have hqt12_1b := hqt12_1
    replace hqt12_1 := Bool.eq_false_iff.1 hqt12_1
    try simp only [ne_eq, decide_eq_true_eq, Bool.and_eq_true, Bool.or_eq_true, Bool.not_eq_true', decide_eq_false_iff_not] at hqt12_1
    refine wp_skip ?_
    (try simp only [Exit.then, Exit.inBlock, ↓reduceIte, Nat.reduceEqDiff])
    refine hK2 _ _ ?_
    refine wp_seq_k (fun K6 hK6 => ?_)
    refine wp_region_unT 8 (fun wq => Below w2.heap.size w2 wq) (fun w w' => Below w.heap.size w w')
      (fun V => [(fun x _ => x = (.slice a l.length c)), (fun x _ => x = (.int .i64 ((l.length : Nat) : Int))), (fun x wq => ∃ b, x = .slice (some ⟨b, 0, none⟩) l.length l.length ∧ w2.heap.size ≤ b ∧ Row 1 (vInt .i64) 3 w2.heap.size wq x (List.replicate l.length (0 : Int))), (fun x _ => x = (.slice a l.length c)), (fun x _ => x = (.int .i64 ((l.length : Nat) : Int))), (fun x wq => ∃ b, x = .slice (some ⟨b, 0, none⟩) l.length l.length ∧ w2.heap.size ≤ b ∧ Row 1 (vInt .i64) 3 w2.heap.size wq x (List.replicate l.length (0 : Int))), (fun x _ => x = (.agg #[(.slice (some ⟨(bk (V 2)), 0, none⟩) l.length l.length), (.slice (some ⟨(bk (V 5)), 0, none⟩) l.length l.length)])), (fun x wq => ∃ b, x = .pointer (some ⟨b, 0, none⟩) ∧ w2.heap.size ≤ b ∧ wq.heap[b]? = some (.cells #[(.slice none 0 0), (.slice none 0 0)] 30 (0, 0)))])
      [2, 5, 7]
      [[], [0], [1], [], [3], [4], [2, 5], [], []]
      hf (by kernel_rfl) (by kernel_rfl) (by kernel_rfl) (fun _ => rfl) ((Below.refl _ _).drew) (fun a b h1 h2 => h1.trans (h2.mono h1.size)) (fun _ _ h => h.size) (fun V => ⟨kept_eq, kept_eq, keptR, kept_eq, kept_eq, keptR, kept_eq, keptB, trivial⟩) (by
         intro V i v j h
         match j with
         | 0 => rfl
         | 1 => rfl
         | 2 => rfl
         | 3 => rfl
         | 4 => rfl
         | 5 => rfl
         | 6 => have e2 : ¬ (2 = i) := fun e => h (by rw [← e]; decide); have e5 : ¬ (5 = i) := fun e => h (by rw [← e]; decide); simp only [List.getD_cons_succ, List.getD_cons_zero, e2, e5, if_false]
         | 7 => rfl
         | _ + 8 => rfl) ?_ ?_
    · skip
      intro V
      refine ⟨fun wu0 hC hd => ?_, ?_⟩
      · clear hd
        replace hb := hb.trans (hC.mono hb.size)
        replace hk1 := blk_ext hk1 hC
        exact Runs.does (r_move rfl) ⟨Below.refl _ _, rfl, nofr rfl⟩
      refine ⟨fun wu1 hC hd => ?_, ?_⟩
      · obtain ⟨h0, _⟩ := hd
        skip
        replace h0 : V 0 = (.slice a l.length c) := h0
        replace hb := hb.trans (hC.mono hb.size)
        replace hk1 := blk_ext hk1 hC
        exact Runs.does (r_lensl (congrArg some h0) Try.underlying27) ⟨Below.refl _ _, rfl, nofr rfl⟩
      refine ⟨fun wu2 hC hd => ?_, ?_⟩
      · obtain ⟨h1, _⟩ := hd
        skip
        replace h1 : V 1 = (.int .i64 ((l.length : Nat) : Int)) := h1
        replace hb := hb.trans (hC.mono hb.size)
        replace hk1 := blk_ext hk1 hC
        refine Does.mono (d_make (V := (vInt .i64)) (bytes := 8) (z := (.int .i64 (0 : Int))) (n := l.length) (zr := (0 : Int)) (congrArg some h1) (congrArg some h1) Try.underlying28 (by kernel_rfl) rfl (by intros; rfl) (by omega) (by unfold maxLen; omega)) ?_
        rintro _ w' ⟨b, rfl, hF, hF2, hF3⟩
        exact ⟨hF3, ⟨b, rfl, Nat.le_trans hC.size hF, hF2.rebase hC.size⟩, isfr rfl hF (Row.lt hF2 _ rfl).2⟩
      refine ⟨fun wu3 hC hd => ?_, ?_⟩
      · clear hd
        replace hb := hb.trans (hC.mono hb.size)
        replace hk1 := blk_ext hk1 hC
        exact Runs.does (r_move rfl) ⟨Below.refl _ _, rfl, nofr rfl⟩
      refine ⟨fun wu4 hC hd => ?_, ?_⟩
      · obtain ⟨h3, _⟩ := hd
        skip
        replace h3 : V 3 = (.slice a l.length c) := h3
        replace hb := hb.trans (hC.mono hb.size)
        replace hk1 := blk_ext hk1 hC
        exact Runs.does (r_lensl (congrArg some h3) Try.underlying27) ⟨Below.refl _ _, rfl, nofr rfl⟩
      refine ⟨fun wu5 hC hd => ?_, ?_⟩
      · obtain ⟨h4, _⟩ := hd
        skip
        replace h4 : V 4 = (.int .i64 ((l.length : Nat) : Int)) := h4
        replace hb := hb.trans (hC.mono hb.size)
        replace hk1 := blk_ext hk1 hC
        refine Does.mono (d_make (V := (vInt .i64)) (bytes := 8) (z := (.int .i64 (0 : Int))) (n := l.length) (zr := (0 : Int)) (congrArg some h4) (congrArg some h4) Try.underlying28 (by kernel_rfl) rfl (by intros; rfl) (by omega) (by unfold maxLen; omega)) ?_
        rintro _ w' ⟨b, rfl, hF, hF2, hF3⟩
        exact ⟨hF3, ⟨b, rfl, Nat.le_trans hC.size hF, hF2.rebase hC.size⟩, isfr rfl hF (Row.lt hF2 _ rfl).2⟩
      refine ⟨fun wu6 hC hd => ?_, ?_⟩
      · obtain ⟨h2, h5, _⟩ := hd
        skip
        skip
        obtain ⟨mb1, h2, hle2, hr1⟩ := h2
        rw [h2] at hr1
        obtain ⟨mb2, h5, hle3, hr2⟩ := h5
        rw [h5] at hr2
        replace hb := hb.trans (hC.mono hb.size)
        replace hk1 := blk_ext hk1 hC
        exact Runs.does (r_build (vs := [(0, (.slice (some ⟨mb1, 0, none⟩) l.length l.length)), (1, (.slice (some ⟨mb2, 0, none⟩) l.length l.length))]) (cs := #[(.slice (some ⟨mb1, 0, none⟩) l.length l.length), (.slice (some ⟨mb2, 0, none⟩) l.length l.length)]) (show [(0, some (V 2)), (1, some (V 5))] = _ from by rw [h2, h5]; rfl) (fun _ => by kernel_rfl)) ⟨Below.refl _ _, (by simp only [h2, h5, bk_slice, bk_ptr]), nofr rfl⟩
      refine ⟨fun wu7 hC hd => ?_, ?_⟩
      · clear hd
        replace hb := hb.trans (hC.mono hb.size)
        replace hk1 := blk_ext hk1 hC
        refine Does.mono (d_alloc (z := (.agg #[(.slice none 0 0), (.slice none 0 0)])) (cs := #[(.slice none 0 0), (.slice none 0 0)]) (by kernel_rfl) rfl) ?_
        rintro _ w' ⟨b, rfl, hF⟩
        exact ⟨hF.2.2, ⟨b, rfl, Nat.le_trans hC.size hF.1, hF.2.1⟩, isfr rfl hF.1 (blk_lt hF.2.1)⟩
      trivial
    · skip
      clear hf fa; intro V w4 fa he3 hp hnb hf
      have hv0 : V 0 = (.slice a l.length c) := postsHold_at hp 0 rfl
      have hv1 : V 1 = (.int .i64 ((l.length : Nat) : Int)) := postsHold_at hp 1 rfl
      have hv2 := postsHold_at hp 2 rfl
      obtain ⟨mb1, hv2, hle2, hr1⟩ := hv2
      rw [hv2] at hr1
      replace hr1 := Row.rebase hr1 hb.size
      have hBmb1 : w.heap.size ≤ mb1 := Nat.le_trans hb.size hle2
      have hv3 : V 3 = (.slice a l.length c) := postsHold_at hp 3 rfl
      have hv4 : V 4 = (.int .i64 ((l.length : Nat) : Int)) := postsHold_at hp 4 rfl
      have hv5 := postsHold_at hp 5 rfl
      obtain ⟨mb2, hv5, hle3, hr2⟩ := hv5
      rw [hv5] at hr2
      replace hr2 := Row.rebase hr2 hb.size
      have hBmb2 : w.heap.size ≤ mb2 := Nat.le_trans hb.size hle3
      have hv6 : V 6 = (.agg #[(.slice (some ⟨(bk (V 2)), 0, none⟩) l.length l.length), (.slice (some ⟨(bk (V 5)), 0, none⟩) l.length l.length)]) := postsHold_at hp 6 rfl
      simp only [hv2, hv5, bk_slice, bk_ptr] at hv6
      have hv7 := postsHold_at hp 7 rfl
      obtain ⟨b2, hv7, hle4, hk3⟩ := hv7
      have hBb2 : w.heap.size ≤ b2 := Nat.le_trans hb.size hle4
      simp only [List.take_succ_cons, List.take_zero, insAll, ins, hv0, hv1, hv2, hv3, hv4, hv5, hv6, hv7] at hf
      have : mb1 ≠ mb2 := two_blk (i := 2) (j := 5) hnb rfl rfl rfl rfl rfl (by rw [hv2]; rfl) (by rw [hv5]; rfl)
      have : mb1 ≠ b2 := two_blk (i := 2) (j := 7) hnb rfl rfl rfl rfl rfl (by rw [hv2]; rfl) (by rw [hv7]; rfl)
      have : mb2 ≠ b2 := two_blk (i := 5) (j := 7) hnb rfl rfl rfl rfl rfl (by rw [hv5]; rfl) (by rw [hv7]; rfl)
      have : b1 < mb1 := Nat.lt_of_lt_of_le (blk_lt hk1) hle2
      have : b1 < mb2 := Nat.lt_of_lt_of_le (blk_lt hk1) hle3
      have : b1 < b2 := Nat.lt_of_lt_of_le (blk_lt hk1) hle4
      clear hp hnb hv0 hv1 hv2 hv3 hv4 hv5 hv6 hv7
      replace hk1 := blk_ext hk1 he3
      replace hb := hb.trans (Below.mono he3 hb.size)
      simp only [List.drop_succ_cons, List.drop_zero]
      refine sqn hf (d_store (T := 30) (v := (.agg #[(.slice (some ⟨mb1, 0, none⟩) l.length l.length), (.slice (some ⟨mb2, 0, none⟩) l.length l.length)])) (cs := #[(.slice none 0 0), (.slice none 0 0)]) (cs' := #[(.slice (some ⟨mb1, 0, none⟩) l.length l.length), (.slice (some ⟨mb2, 0, none⟩) l.length l.length)]) rfl rfl (by kernel_rfl) (by intro u hu; simp only [Value.cells, List.mem_cons, List.mem_toArray, List.not_mem_nil, or_false] at hu; rcases hu with rfl | rfl <;> rfl) hk3 (Nat.le_of_ble_eq_true rfl) rfl) rfl rfl ?_; clear hf fa; rintro fa _ w5 ⟨hk4, hg2⟩ hf
      replace hk1 := blk_grown hk1 hg2 (by omega)
      replace hr1 := Row.grown hr1 hg2 (Row.ne_type hr1 hk3 rfl)
      replace hr2 := Row.grown hr2 hg2 (Row.ne_type hr2 hk3 rfl)
      replace hb := hb.trans (grown_below hg2 hb.size hBb2)
      apply wpList_nil
      (try simp only [Exit.then, Exit.inBlock, ↓reduceIte, Nat.reduceEqDiff])
      refine hK6 _ _ ?_
      refine wp_seq_k (fun K7 hK7 => ?_)
      refine wp_region_lit ?_
      refine sqv hf (r_assign rfl) rfl rfl rfl ?_; clear hf fa; intro fa hf
      apply wpList_nil
      (try simp only [Exit.then, Exit.inBlock, ↓reduceIte, Nat.reduceEqDiff])
      refine hK7 _ _ ?_
      refine wp_seq_k (fun K8 hK8 => ?_)
      refine wp_seq_k (fun K9 hK9 => ?_)
      refine wp_region_lit ?_
      refine sqv hf (r_move rfl) rfl rfl rfl ?_; clear hf fa; intro fa hf
      refine sqv hf (r_lensl rfl Try.underlying27) rfl rfl rfl ?_; clear hf fa; intro fa hf
      refine sqv hf (r_move rfl) rfl rfl rfl ?_; clear hf fa; intro fa hf
      apply wpList_nil
      (try simp only [Exit.then, Exit.inBlock, ↓reduceIte, Nat.reduceEqDiff])
      refine hK9 _ _ ?_
      refine wp_block ?_
      refine wp_loop_k (fun m fa wr => ∃ (n : Nat) (en : List Int) (el : List Int) (op : List Int) (rOa : Option Addr) (rOc : Nat), m = l.length - n ∧ Fr 85 fa [(0, (.slice a l.length c)), (22, (.slice a l.length c)), (23, (.int .i64 ((l.length : Nat) : Int))), (24, (.int .i64 ((n : Nat) : Int))), (2, (.pointer (some ⟨b1, 0, none⟩))), (5, (.pointer (some ⟨b2, 0, none⟩))), (6, (.slice rOa op.length rOc))] ∧ Below w.heap.size w wr ∧ Row 1 (vInt .i64) 3 (w.heap.size) wr (.slice (some ⟨mb1, 0, none⟩) (l.length) l.length) en ∧ Row 1 (vInt .i64) 3 (w.heap.size) wr (.slice (some ⟨mb2, 0, none⟩) (l.length) l.length) el ∧ Row 1 (vInt .i64) 3 ((max mb1 mb2 + 1)) wr (.slice rOa (op.length) rOc) op ∧ wr.heap[b1]? = some (.cells #[(.slice none 0 0), (.slice none 0 0)] 30 (0, 0)) ∧ wr.heap[b2]? = some (.cells #[(.slice (some ⟨mb1, 0, none⟩) l.length l.length), (.slice (some ⟨mb2, 0, none⟩) l.length l.length)] 30 (0, 0)) ∧ (n ≤ l.length) ∧ (en.length = l.length) ∧ (el.length = l.length) ∧ (ShP (opl l) n op.length) ∧ (∀ x ∈ op, 0 ≤ x ∧ x < n) ∧ (ofR ((opl l).drop n) n op en el = ofP (opl l)) ∧ (op.length ≤ n)) ?_ ?_
      · skip
        exact ⟨_, 0, (List.replicate l.length 0), (List.replicate l.length 0), [], none, 0, rfl, hf.sub ⟨rfl, rfl, rfl, (some_int (by first | rfl | omega)), rfl, rfl, (some_sl (by simp <;> omega) rfl), trivial⟩, hb, hr1, hr2, Row.nil, hk1, hk4, by omega, by simp, by simp, (ShP.start hqt12_1), (by intro x hx; cases hx), (by rw [ofP, opl_length]; rfl), by simp⟩
      · skip
        clear hf fa; intro m1 fa w6 hI KL1 hKL1
        clear hb
        clear hk1
        clear hk4
        clear hr1
        clear hr2
        obtain ⟨n, en, el, op, rOa, rOc, hm1, hf, hb, hrE, hrL, hrO, hkb1, hkb2, hn, hel, hll, hsh, hop, Hs, hol⟩ := hI
        have hcrE := Row.caps hrE
        have hcrL := Row.caps hrL
        have hcrO := Row.caps hrO
        have hlast : 0 < op.length → 0 ≤ op.getD (op.length - 1) 0 ∧ op.getD (op.length - 1) 0 < n := fun h => hop _ (getD_mem' (by omega))
        refine wp_seq_k (fun K10 hK10 => ?_)
        refine wp_region_lit ?_
        refine sqv hf (r_lt rfl rfl) rfl rfl rfl ?_; clear hf fa; intro fa hf
        apply wpList_nil
        (try simp only [Exit.then, Exit.inBlock, ↓reduceIte, Nat.reduceEqDiff])
        refine hK10 _ _ ?_
        refine wp_seq_k (fun K11 hK11 => ?_)
        refine wp_cond_split (t := (decide (((n : Nat) : Int) < ((l.length : Nat) : Int)))) (hf.ev rfl) (fun hqt25_1 => ?_) (fun hqt25_1 => ?_)
        · have hqt25_1b := hqt25_1
          try simp only [decide_eq_true_eq, Bool.and_eq_true, Bool.or_eq_true, Bool.not_eq_true', decide_eq_false_iff_not, ne_eq, Bool.not_eq_true] at hqt25_1
          refine wp_skip ?_
          (try simp only [Exit.then, Exit.inBlock, ↓reduceIte, Nat.reduceEqDiff])
          refine hK11 _ _ ?_
          refine wp_seq_k (fun K12 hK12 => ?_)
          refine wp_block ?_
          refine wp_seq_k (fun K13 hK13 => ?_)
          refine wp_region_lit ?_
          refine sqv hf (r_move rfl) rfl rfl rfl ?_; clear hf fa; intro fa hf
          obtain ⟨y1, hy1⟩ : ∃ x, (l)[n]? = some x := ⟨_, List.getElem?_eq_getElem (by omega)⟩
          obtain ⟨ab1, aoff1, rfl, hlb1, hel1⟩ := RdS.at hr hy1
          refine sqv hf (r_ixa (sz := 4) (j := n) rfl rfl Try.underlying27 (by kernel_rfl) rfl (by omega) rfl) rfl rfl rfl ?_; clear hf fa; intro fa hf
          refine sqv hf (r_loadA (cs := [(.int .u8 y1.1), (.int .u64 y1.2.1), (.int .u64 y1.2.2.1), (.slice y1.2.2.2.1.at' y1.2.2.2.1.len y1.2.2.2.1.cap)]) rfl Try.underlying39 rfl (by kernel_rfl) (cellsAt_below hel1 hb hlb1)) rfl rfl rfl ?_; clear hf fa; intro fa hf
          refine sqdt hf (d_alloc (z := (.agg #[(.int .u8 (0 : Int)), (.int .u64 (0 : Int)), (.int .u64 (0 : Int)), (.slice none 0 0)])) (cs := #[(.int .u8 (0 : Int)), (.int .u64 (0 : Int)), (.int .u64 (0 : Int)), (.slice none 0 0)]) (by kernel_rfl) rfl) rfl rfl rfl ?_; clear hf fa; rintro fa _ w7 ⟨b3, rfl, hle5, hk5, he4⟩ hf
          have hBb3 : w.heap.size ≤ b3 := Nat.le_trans hb.size hle5
          have : b1 < b3 := Nat.lt_of_lt_of_le (blk_lt hkb1) hle5
          have : b2 < b3 := Nat.lt_of_lt_of_le (blk_lt hkb2) hle5
          have : mb1 < b3 := Nat.lt_of_lt_of_le (Row.lt hrE _ rfl).2 hle5
          have : mb2 < b3 := Nat.lt_of_lt_of_le (Row.lt hrL _ rfl).2 hle5
          replace hkb1 := blk_ext hkb1 he4
          replace hkb2 := blk_ext hkb2 he4
          replace hrE := Row.ext hrE he4
          replace hrL := Row.ext hrL he4
          replace hrO := Row.ext hrO he4
          replace hb := hb.trans (Below.mono he4 hb.size)
          refine sqv hf (r_assign rfl) rfl rfl rfl ?_; clear hf fa; intro fa hf
          refine sqn hf (d_store (T := 39) (v := (.agg #[(.int .u8 y1.1), (.int .u64 y1.2.1), (.int .u64 y1.2.2.1), (.slice y1.2.2.2.1.at' y1.2.2.2.1.len y1.2.2.2.1.cap)])) (cs := #[(.int .u8 (0 : Int)), (.int .u64 (0 : Int)), (.int .u64 (0 : Int)), (.slice none 0 0)]) (cs' := #[(.int .u8 y1.1), (.int .u64 y1.2.1), (.int .u64 y1.2.2.1), (.slice y1.2.2.2.1.at' y1.2.2.2.1.len y1.2.2.2.1.cap)]) rfl rfl (by kernel_rfl) (by intro u hu; simp only [Value.cells, List.mem_cons, List.mem_toArray, List.not_mem_nil, or_false] at hu; rcases hu with rfl | rfl | rfl | rfl <;> rfl) hk5 (Nat.le_of_ble_eq_true rfl) rfl) rfl rfl ?_; clear hf fa; rintro fa _ w8 ⟨hk6, hg3⟩ hf
          replace hkb1 := blk_grown hkb1 hg3 (by omega)
          replace hkb2 := blk_grown hkb2 hg3 (by omega)
          replace hrE := Row.grown hrE hg3 (Row.ne_type hrE hk5 rfl)
          replace hrL := Row.grown hrL hg3 (Row.ne_type hrL hk5 rfl)
          replace hrO := Row.grown hrO hg3 (Row.ne_type hrO hk5 rfl)
          replace hb := hb.trans (grown_below hg3 hb.size hBb3)
          apply wpList_nil
          (try simp only [Exit.then, Exit.inBlock, ↓reduceIte, Nat.reduceEqDiff])
          refine hK13 _ _ ?_
          refine wp_seq_k (fun K14 hK14 => ?_)
          have hy2 := getD_at (l := en) (j := n) (0 : Int) (by first | omega | (simp only [List.length_set, List.length_take, List.length_append, List.length_replicate, List.length_cons, List.length_nil]; omega))
          have hel2 := RdS.at (Row.rd (by intros; rfl) hrE) hy2
          obtain ⟨_, _, hab, hlr1, hel2⟩ := hel2
          cases hab
          refine wp_region_unT 8 (fun wc => (w8.grownBy wc (some mb1) ∧ (Row 1 (vInt .i64) 3 w.heap.size wc (.slice (some ⟨mb1, 0, none⟩) l.length l.length) en ∨ Row 1 (vInt .i64) 3 w.heap.size wc (.slice (some ⟨mb1, 0, none⟩) l.length l.length) ((en).set n (-1 : Int))))) (fun wa wc => ((w8.grownBy wa (some mb1) ∧ (Row 1 (vInt .i64) 3 w.heap.size wa (.slice (some ⟨mb1, 0, none⟩) l.length l.length) en ∨ Row 1 (vInt .i64) 3 w.heap.size wa (.slice (some ⟨mb1, 0, none⟩) l.length l.length) ((en).set n (-1 : Int)))) → (w8.grownBy wc (some mb1) ∧ (Row 1 (vInt .i64) 3 w.heap.size wc (.slice (some ⟨mb1, 0, none⟩) l.length l.length) en ∨ Row 1 (vInt .i64) 3 w.heap.size wc (.slice (some ⟨mb1, 0, none⟩) l.length l.length) ((en).set n (-1 : Int))))) ∧ wa.heap.size ≤ wc.heap.size ∧ (Row 1 (vInt .i64) 3 w.heap.size wa (.slice (some ⟨mb1, 0, none⟩) l.length l.length) ((en).set n (-1 : Int)) → Row 1 (vInt .i64) 3 w.heap.size wc (.slice (some ⟨mb1, 0, none⟩) l.length l.length) ((en).set n (-1 : Int))))
            (fun V => [(fun x _ => x = (.pointer (some ⟨b2, 0, none⟩))), (fun x _ => x = (.slice (some ⟨mb1, 0, none⟩) l.length l.length)), (fun x _ => x = (.int .i64 ((n : Nat) : Int))), (fun x _ => x = (.pointer (some ⟨b2, 1, none⟩))), (fun x _ => x = (.slice (some ⟨mb2, 0, none⟩) l.length l.length)), (fun x _ => x = (.int .i64 ((n : Nat) : Int))), (fun x _ => x = (.pointer (some ⟨mb1, (0 + n * 1), none⟩))), (fun _ wq => Row 1 (vInt .i64) 3 w.heap.size wq (.slice (some ⟨mb1, 0, none⟩) l.length l.length) ((en).set n (-1 : Int)))])
            []
            [[], [0], [], [], [3], [], [0, 1, 2], [0, 1, 2, 6], [], []]
            hf (by kernel_rfl) (by kernel_rfl) (by kernel_rfl) (fun _ => rfl) ⟨below_grown (Below.refl _ _).drew, .inl (Row.ext hrE (Below.refl _ _).drew)⟩ (fun a b h1 h2 => h2.1 h1) (fun _ _ h => h.2.1) (fun V => ⟨(fun _ _ _ h _ => h), (fun _ _ _ h _ => h), (fun _ _ _ h _ => h), (fun _ _ _ h _ => h), (fun _ _ _ h _ => h), (fun _ _ _ h _ => h), (fun _ _ _ h _ => h), (fun _ _ _ h hG => hG.2.2 h), trivial⟩) (fun _ _ _ _ _ => rfl) ?_ ?_
          · skip
            intro V
            refine ⟨fun wu0 hC hd => ?_, ?_⟩
            · clear hd
              have hgC := hC.1
              replace hkb1 := blk_grown hkb1 hgC (fun e => Row.ne_type hrE hkb1 rfl (show some mb1 = some b1 by rw [e]))
              replace hkb2 := blk_grown hkb2 hgC (fun e => Row.ne_type hrE hkb2 rfl (show some mb1 = some b2 by rw [e]))
              replace hk6 := blk_grown hk6 hgC (fun e => Row.ne_type hrE hk6 rfl (show some mb1 = some b3 by rw [e]))
              replace hrL := Row.grown hrL hgC (fun e => by have e : mb2 = mb1 := Option.some.inj e; omega)
              replace hrO := Row.grown hrO hgC (Row.ne_base hrO (by omega))
              replace hb := hb.trans (grown_below hgC hb.size (by first | omega | (have := Row.lt hrE _ rfl; omega)))
              exact Runs.does (r_fa rfl Try.underlying30 (f := 0) (q := 0) rfl (by kernel_rfl) rfl) ⟨⟨id, Nat.le_refl _, id⟩, rfl, nofr rfl⟩
            refine ⟨fun wu1 hC hd => ?_, ?_⟩
            · obtain ⟨h0, _⟩ := hd
              replace h0 : V 0 = (.pointer (some ⟨b2, 0, none⟩)) := h0
              have hgC := hC.1
              replace hkb1 := blk_grown hkb1 hgC (fun e => Row.ne_type hrE hkb1 rfl (show some mb1 = some b1 by rw [e]))
              replace hkb2 := blk_grown hkb2 hgC (fun e => Row.ne_type hrE hkb2 rfl (show some mb1 = some b2 by rw [e]))
              replace hk6 := blk_grown hk6 hgC (fun e => Row.ne_type hrE hk6 rfl (show some mb1 = some b3 by rw [e]))
              replace hrL := Row.grown hrL hgC (fun e => by have e : mb2 = mb1 := Option.some.inj e; omega)
              replace hrO := Row.grown hrO hgC (Row.ne_base hrO (by omega))
              replace hb := hb.trans (grown_below hgC hb.size (by first | omega | (have := Row.lt hrE _ rfl; omega)))
              exact Runs.does (r_load (v := (.slice (some ⟨mb1, 0, none⟩) l.length l.length)) (congrArg some h0) Try.underlying28 rfl (cell_blk hkb2 rfl)) ⟨⟨id, Nat.le_refl _, id⟩, rfl, nofr rfl⟩
            refine ⟨fun wu2 hC hd => ?_, ?_⟩
            · clear hd
              have hgC := hC.1
              replace hkb1 := blk_grown hkb1 hgC (fun e => Row.ne_type hrE hkb1 rfl (show some mb1 = some b1 by rw [e]))
              replace hkb2 := blk_grown hkb2 hgC (fun e => Row.ne_type hrE hkb2 rfl (show some mb1 = some b2 by rw [e]))
              replace hk6 := blk_grown hk6 hgC (fun e => Row.ne_type hrE hk6 rfl (show some mb1 = some b3 by rw [e]))
              replace hrL := Row.grown hrL hgC (fun e => by have e : mb2 = mb1 := Option.some.inj e; omega)
              replace hrO := Row.grown hrO hgC (Row.ne_base hrO (by omega))
              replace hb := hb.trans (grown_below hgC hb.size (by first | omega | (have := Row.lt hrE _ rfl; omega)))
              exact Runs.does (r_move rfl) ⟨⟨id, Nat.le_refl _, id⟩, rfl, nofr rfl⟩
            refine ⟨fun wu3 hC hd => ?_, ?_⟩
            · clear hd
              have hgC := hC.1
              replace hkb1 := blk_grown hkb1 hgC (fun e => Row.ne_type hrE hkb1 rfl (show some mb1 = some b1 by rw [e]))
              replace hkb2 := blk_grown hkb2 hgC (fun e => Row.ne_type hrE hkb2 rfl (show some mb1 = some b2 by rw [e]))
              replace hk6 := blk_grown hk6 hgC (fun e => Row.ne_type hrE hk6 rfl (show some mb1 = some b3 by rw [e]))
              replace hrL := Row.grown hrL hgC (fun e => by have e : mb2 = mb1 := Option.some.inj e; omega)
              replace hrO := Row.grown hrO hgC (Row.ne_base hrO (by omega))
              replace hb := hb.trans (grown_below hgC hb.size (by first | omega | (have := Row.lt hrE _ rfl; omega)))
              exact Runs.does (r_fa rfl Try.underlying30 (f := 1) (q := 1) rfl (by kernel_rfl) rfl) ⟨⟨id, Nat.le_refl _, id⟩, rfl, nofr rfl⟩
            refine ⟨fun wu4 hC hd => ?_, ?_⟩
            · obtain ⟨h3, _⟩ := hd
              replace h3 : V 3 = (.pointer (some ⟨b2, 1, none⟩)) := h3
              have hgC := hC.1
              replace hkb1 := blk_grown hkb1 hgC (fun e => Row.ne_type hrE hkb1 rfl (show some mb1 = some b1 by rw [e]))
              replace hkb2 := blk_grown hkb2 hgC (fun e => Row.ne_type hrE hkb2 rfl (show some mb1 = some b2 by rw [e]))
              replace hk6 := blk_grown hk6 hgC (fun e => Row.ne_type hrE hk6 rfl (show some mb1 = some b3 by rw [e]))
              replace hrL := Row.grown hrL hgC (fun e => by have e : mb2 = mb1 := Option.some.inj e; omega)
              replace hrO := Row.grown hrO hgC (Row.ne_base hrO (by omega))
              replace hb := hb.trans (grown_below hgC hb.size (by first | omega | (have := Row.lt hrE _ rfl; omega)))
              exact Runs.does (r_load (v := (.slice (some ⟨mb2, 0, none⟩) l.length l.length)) (congrArg some h3) Try.underlying28 rfl (cell_blk hkb2 rfl)) ⟨⟨id, Nat.le_refl _, id⟩, rfl, nofr rfl⟩
            refine ⟨fun wu5 hC hd => ?_, ?_⟩
            · clear hd
              have hgC := hC.1
              replace hkb1 := blk_grown hkb1 hgC (fun e => Row.ne_type hrE hkb1 rfl (show some mb1 = some b1 by rw [e]))
              replace hkb2 := blk_grown hkb2 hgC (fun e => Row.ne_type hrE hkb2 rfl (show some mb1 = some b2 by rw [e]))
              replace hk6 := blk_grown hk6 hgC (fun e => Row.ne_type hrE hk6 rfl (show some mb1 = some b3 by rw [e]))
              replace hrL := Row.grown hrL hgC (fun e => by have e : mb2 = mb1 := Option.some.inj e; omega)
              replace hrO := Row.grown hrO hgC (Row.ne_base hrO (by omega))
              replace hb := hb.trans (grown_below hgC hb.size (by first | omega | (have := Row.lt hrE _ rfl; omega)))
              exact Runs.does (r_move rfl) ⟨⟨id, Nat.le_refl _, id⟩, rfl, nofr rfl⟩
            refine ⟨fun wu6 hC hd => ?_, ?_⟩
            · obtain ⟨h0, h1, h2, _⟩ := hd
              replace h0 : V 0 = (.pointer (some ⟨b2, 0, none⟩)) := h0
              replace h1 : V 1 = (.slice (some ⟨mb1, 0, none⟩) l.length l.length) := h1
              replace h2 : V 2 = (.int .i64 ((n : Nat) : Int)) := h2
              have hgC := hC.1
              replace hkb1 := blk_grown hkb1 hgC (fun e => Row.ne_type hrE hkb1 rfl (show some mb1 = some b1 by rw [e]))
              replace hkb2 := blk_grown hkb2 hgC (fun e => Row.ne_type hrE hkb2 rfl (show some mb1 = some b2 by rw [e]))
              replace hk6 := blk_grown hk6 hgC (fun e => Row.ne_type hrE hk6 rfl (show some mb1 = some b3 by rw [e]))
              replace hrL := Row.grown hrL hgC (fun e => by have e : mb2 = mb1 := Option.some.inj e; omega)
              replace hrO := Row.grown hrO hgC (Row.ne_base hrO (by omega))
              replace hb := hb.trans (grown_below hgC hb.size (by first | omega | (have := Row.lt hrE _ rfl; omega)))
              exact Runs.does (r_ixa (sz := 1) (j := n) (congrArg some h1) (congrArg some h2) Try.underlying28 (by kernel_rfl) rfl (by omega) rfl) ⟨⟨id, Nat.le_refl _, id⟩, rfl, nofr rfl⟩
            refine ⟨fun wu7 hC hd => ?_, ?_⟩
            · obtain ⟨h0, h1, h2, h6, _⟩ := hd
              replace h0 : V 0 = (.pointer (some ⟨b2, 0, none⟩)) := h0
              replace h1 : V 1 = (.slice (some ⟨mb1, 0, none⟩) l.length l.length) := h1
              replace h2 : V 2 = (.int .i64 ((n : Nat) : Int)) := h2
              replace h6 : V 6 = (.pointer (some ⟨mb1, (0 + n * 1), none⟩)) := h6
              have hgC := hC.1
              replace hkb1 := blk_grown hkb1 hgC (fun e => Row.ne_type hrE hkb1 rfl (show some mb1 = some b1 by rw [e]))
              replace hkb2 := blk_grown hkb2 hgC (fun e => Row.ne_type hrE hkb2 rfl (show some mb1 = some b2 by rw [e]))
              replace hk6 := blk_grown hk6 hgC (fun e => Row.ne_type hrE hk6 rfl (show some mb1 = some b3 by rw [e]))
              replace hrL := Row.grown hrL hgC (fun e => by have e : mb2 = mb1 := Option.some.inj e; omega)
              replace hrO := Row.grown hrO hgC (Row.ne_base hrO (by omega))
              replace hb := hb.trans (grown_below hgC hb.size (by first | omega | (have := Row.lt hrE _ rfl; omega)))
              rcases hC.2 with hX | hX
              · refine Does.mono (d_rowset (u := (-1 : Int)) (j := n) (by intros; rfl) (by intro x u hu; simp only [vInt, List.mem_singleton] at hu; subst hu; rfl) (congrArg some h6) rfl (by first | rfl | (simp; done) | (simp; omega)) (by kernel_rfl) hX (by first | omega | (simp only [List.length_set, List.length_take, List.length_append, List.length_replicate, List.length_cons, List.length_nil]; omega)) (by omega)) ?_
                rintro _ wz ⟨hY, hgY⟩
                exact ⟨⟨fun _ => ⟨grownBy_trans hgC hgY, .inr hY⟩, hgY.size, fun _ => hY⟩, hY, nofr rfl⟩
              · refine Does.mono (d_rowset (u := (-1 : Int)) (j := n) (by intros; rfl) (by intro x u hu; simp only [vInt, List.mem_singleton] at hu; subst hu; rfl) (congrArg some h6) rfl (by first | rfl | (simp; done) | (simp; omega)) (by kernel_rfl) hX (by first | omega | (simp only [List.length_set, List.length_take, List.length_append, List.length_replicate, List.length_cons, List.length_nil]; omega)) (by omega)) ?_
                rintro _ wz ⟨hY, hgY⟩
                rw [List.set_set] at hY
                exact ⟨⟨fun _ => ⟨grownBy_trans hgC hgY, .inr hY⟩, hgY.size, fun _ => hY⟩, hY, nofr rfl⟩
            trivial
          · skip
            clear hf fa; intro V w9 fa he5 hp hnb hf
            have hg4 := he5.1
            have hv0 : V 0 = (.pointer (some ⟨b2, 0, none⟩)) := postsHold_at hp 0 rfl
            have hv1 : V 1 = (.slice (some ⟨mb1, 0, none⟩) l.length l.length) := postsHold_at hp 1 rfl
            have hv2 : V 2 = (.int .i64 ((n : Nat) : Int)) := postsHold_at hp 2 rfl
            have hv3 : V 3 = (.pointer (some ⟨b2, 1, none⟩)) := postsHold_at hp 3 rfl
            have hv4 : V 4 = (.slice (some ⟨mb2, 0, none⟩) l.length l.length) := postsHold_at hp 4 rfl
            have hv5 : V 5 = (.int .i64 ((n : Nat) : Int)) := postsHold_at hp 5 rfl
            have hv6 : V 6 = (.pointer (some ⟨mb1, (0 + n * 1), none⟩)) := postsHold_at hp 6 rfl
            have hr3 := postsHold_at hp 7 rfl
            simp only [List.take_succ_cons, List.take_zero, insAll, ins, hv0, hv1, hv2, hv3, hv4, hv5, hv6] at hf
            clear hp hnb hv0 hv1 hv2 hv3 hv4 hv5 hv6
            replace hkb1 := blk_grown hkb1 hg4 (fun e => Row.ne_type hrE hkb1 rfl (show some mb1 = some b1 by rw [e]))
            replace hkb2 := blk_grown hkb2 hg4 (fun e => Row.ne_type hrE hkb2 rfl (show some mb1 = some b2 by rw [e]))
            replace hk6 := blk_grown hk6 hg4 (fun e => Row.ne_type hrE hk6 rfl (show some mb1 = some b3 by rw [e]))
            replace hrL := Row.grown hrL hg4 (fun e => by have e : mb2 = mb1 := Option.some.inj e; omega)
            replace hrO := Row.grown hrO hg4 (Row.ne_base hrO (by omega))
            replace hb := hb.trans (grown_below hg4 hb.size (by first | omega | (have := Row.lt hrE _ rfl; omega)))
            replace hr3 : Row 1 (vInt .i64) 3 w.heap.size w9 (.slice (some ⟨mb1, 0, none⟩) l.length l.length) ((en).set n (-1 : Int)) := hr3
            simp only [List.drop_succ_cons, List.drop_zero]
            have hy3 := getD_at (l := el) (j := n) (0 : Int) (by first | omega | (simp only [List.length_set, List.length_take, List.length_append, List.length_replicate, List.length_cons, List.length_nil]; omega))
            have hel3 := RdS.at (Row.rd (by intros; rfl) hrL) hy3
            obtain ⟨_, _, hab, hlr2, hel3⟩ := hel3
            cases hab
            refine sqv hf (r_ixa (sz := 1) (j := n) rfl rfl Try.underlying28 (by kernel_rfl) rfl (by omega) rfl) rfl rfl rfl ?_; clear hf fa; intro fa hf
            refine sqn hf (d_rowset (u := (-1 : Int)) (j := n) (by intros; rfl) (by intro x u hu; simp only [vInt, List.mem_singleton] at hu; subst hu; rfl) rfl rfl (by first | rfl | (simp; done) | (simp; omega)) (by kernel_rfl) hrL (by first | omega | (simp only [List.length_set, List.length_take, List.length_append, List.length_replicate, List.length_cons, List.length_nil]; omega)) (by omega)) rfl rfl ?_; clear hf fa; rintro fa _ w10 ⟨hr4, hg5⟩ hf
            replace hkb1 := blk_grown hkb1 hg5 (fun e => Row.ne_type hrL hkb1 rfl (show some mb2 = some b1 by rw [e]))
            replace hkb2 := blk_grown hkb2 hg5 (fun e => Row.ne_type hrL hkb2 rfl (show some mb2 = some b2 by rw [e]))
            replace hk6 := blk_grown hk6 hg5 (fun e => Row.ne_type hrL hk6 rfl (show some mb2 = some b3 by rw [e]))
            replace hr3 := Row.grown hr3 hg5 (fun e => by have e : mb1 = mb2 := Option.some.inj e; omega)
            replace hrO := Row.grown hrO hg5 (Row.ne_base hrO (by omega))
            replace hb := hb.trans (grown_below hg5 hb.size (by first | omega | (have := Row.lt hrL _ rfl; omega)))
            apply wpList_nil
            (try simp only [Exit.then, Exit.inBlock, ↓reduceIte, Nat.reduceEqDiff])
            refine hK14 _ _ ?_
            refine wp_block ?_
            refine wp_seq_k (fun K15 hK15 => ?_)
            refine wp_region_lit ?_
            refine sqv hf (r_fa rfl Try.underlying39 (f := 0) (q := 0) rfl (by kernel_rfl) rfl) rfl rfl rfl ?_; clear hf fa; intro fa hf
            refine sqv hf (r_load (v := (.int .u8 y1.1)) rfl Try.underlying5 rfl (cell_blk hk6 rfl)) rfl rfl rfl ?_; clear hf fa; intro fa hf
            refine sqdt hf (d_callS (vs := [(.int .u8 y1.1)]) rfl Try.func64 (by kernel_rfl) (by kernel_rfl) (opens_any y1.1 _)) rfl rfl rfl ?_; clear hf fa; rintro fa _ _ ⟨rfl, rfl⟩ hf
            refine sqv hf (r_assign rfl) rfl rfl rfl ?_; clear hf fa; intro fa hf
            apply wpList_nil
            (try simp only [Exit.then, Exit.inBlock, ↓reduceIte, Nat.reduceEqDiff])
            refine hK15 _ _ ?_
            refine wp_cond_split (t := (opensI y1.1)) (hf.ev rfl) (fun hqt37_1 => ?_) (fun hqt37_1 => ?_)
            · have hqt37_1b := hqt37_1
              try simp only [decide_eq_true_eq, Bool.and_eq_true, Bool.or_eq_true, Bool.not_eq_true', decide_eq_false_iff_not, ne_eq, Bool.not_eq_true] at hqt37_1
              refine wp_region_lit ?_
              refine sqv hf (r_move rfl) rfl rfl rfl ?_; clear hf fa; intro fa hf
              refine sqv hf (r_move rfl) rfl rfl rfl ?_; clear hf fa; intro fa hf
              refine sqdt hf (d_bslice (z := (.int .i64 (0 : Int))) (sz := 1) (vs := [(0, (.int .i64 ((n : Nat) : Int)))]) (cs := #[(.int .i64 ((n : Nat) : Int))]) rfl Try.underlying28 (by kernel_rfl) rfl (by kernel_rfl)) rfl rfl rfl ?_; clear hf fa; rintro fa _ w11 ⟨b4, rfl, hle6, hk7, he6⟩ hf
              have hBb4 : w.heap.size ≤ b4 := Nat.le_trans hb.size hle6
              have : b1 < b4 := Nat.lt_of_lt_of_le (blk_lt hkb1) hle6
              have : b2 < b4 := Nat.lt_of_lt_of_le (blk_lt hkb2) hle6
              have : b3 < b4 := Nat.lt_of_lt_of_le (blk_lt hk6) hle6
              have : mb1 < b4 := Nat.lt_of_lt_of_le (Row.lt hr3 _ rfl).2 hle6
              have : mb2 < b4 := Nat.lt_of_lt_of_le (Row.lt hr4 _ rfl).2 hle6
              replace hkb1 := blk_ext hkb1 he6
              replace hkb2 := blk_ext hkb2 he6
              replace hk6 := blk_ext hk6 he6
              replace hr3 := Row.ext hr3 he6
              replace hr4 := Row.ext hr4 he6
              replace hrO := Row.ext hrO he6
              replace hb := hb.trans (Below.mono he6 hb.size)
              have hs1 := Row.rd (by intros; rfl) (Row.of_new (k := 1) (V := (vInt .i64)) (l := [((n : Nat) : Int)]) hk7 (Nat.le_refl _) rfl rfl (Nat.le_of_ble_eq_true rfl))
              refine sqdt hf (d_append (V := (vInt .i64)) (k := 1) (e := 3) (bytes := 8) (z := (.int .i64 (0 : Int))) (news := [((n : Nat) : Int)]) (base := (max mb1 mb2 + 1)) (by intros; rfl) (by intro x u hu; simp only [vInt, List.mem_singleton] at hu; subst hu; rfl) rfl rfl Try.underlying28 (by kernel_rfl) rfl rfl rfl hrO hs1 rfl (fun h => by cases h) (by simp only [List.length_cons, List.length_nil, List.length_append]; omega) (by have := hb.size; have : mb1 < w11.heap.size := (Row.lt hr3 _ rfl).2; have : mb2 < w11.heap.size := (Row.lt hr4 _ rfl).2; omega)) rfl rfl rfl ?_; clear hf fa; rintro fa v w12 ⟨hr5, hg6⟩ hf; obtain ⟨ra1, rc1, rfl, hcrc1, hmrc1⟩ := Row.slice hr5
              replace hkb1 := blk_row' hkb1 hg6 (Row.ne_type hrO hkb1 rfl)
              replace hkb2 := blk_row' hkb2 hg6 (Row.ne_type hrO hkb2 rfl)
              replace hk6 := blk_row' hk6 hg6 (Row.ne_type hrO hk6 rfl)
              replace hr3 := Row.grown' hr3 hg6 (fun q h1 h2 => by cases h1; exact Row.ne_base hrO (show mb1 < (max mb1 mb2 + 1) by omega) h2)
              replace hr4 := Row.grown' hr4 hg6 (fun q h1 h2 => by cases h1; exact Row.ne_base hrO (show mb2 < (max mb1 mb2 + 1) by omega) h2)
              replace hb := hb.trans (row_below hrO hg6 hb.size (by have := hb.size; omega))
              refine sqv hf (r_assign rfl) rfl rfl rfl ?_; clear hf fa; intro fa hf
              apply wpList_nil
              (try simp only [Exit.then, Exit.inBlock, ↓reduceIte, Nat.reduceEqDiff])
              refine hK12 _ _ ?_
              refine wp_region_lit ?_
              refine sqv hf (r_add (C := (((n : Nat) : Int) + (1 : Int))) rfl rfl (by rw [IntKind.wrap_i64]; omega)) rfl rfl rfl ?_; clear hf fa; intro fa hf
              refine sqv hf (r_move rfl) rfl rfl rfl ?_; clear hf fa; intro fa hf
              apply wpList_nil
              (try simp only [Exit.then, Exit.inBlock, ↓reduceIte, Nat.reduceEqDiff])
              refine hKL1 _ _ _ (by omega) ⟨(n + 1), ((en).set n (-1 : Int)), ((el).set n (-1 : Int)), (op ++ [((n : Nat) : Int)]), ra1, rc1, rfl, hf.sub ⟨rfl, rfl, rfl, (some_int (by first | rfl | omega)), rfl, rfl, (some_sl (by simp <;> omega) rfl), trivial⟩, hb, hr3, hr4, (Row.relen hr5), hkb1, hkb2, by omega, (by simp only [List.length_set]; exact hel), (by simp only [List.length_set]; exact hll), (by have h := ShP.opens hsh (opl_drop hy1) hqt37_1; simpa using h), (by first | exact fun x hx => ⟨(hop x hx).1, by have := (hop x hx).2; omega⟩ | (intro x hx; rcases List.mem_append.1 hx with h | h; exact ⟨(hop x h).1, by have := (hop x h).2; omega⟩; (have : x = (n : Int) := by simpa using h); omega) | (intro x hx; have h := hop x (List.mem_of_mem_take hx); omega)), (by have h := Hs; rw [(opl_drop hy1), ofR] at h; simp only [if_pos hqt37_1] at h; exact h), (by first | omega | (simp only [List.length_append, List.length_cons, List.length_nil, List.length_take]; omega))⟩
            · have hqt37_1b := hqt37_1
              replace hqt37_1 := Bool.eq_false_iff.1 hqt37_1
              try simp only [ne_eq, decide_eq_true_eq, Bool.and_eq_true, Bool.or_eq_true, Bool.not_eq_true', decide_eq_false_iff_not] at hqt37_1
              refine wp_seq_k (fun K16 hK16 => ?_)
              refine wp_region_lit ?_
              refine sqv hf (r_fa rfl Try.underlying39 (f := 0) (q := 0) rfl (by kernel_rfl) rfl) rfl rfl rfl ?_; clear hf fa; intro fa hf
              refine sqv hf (r_load (v := (.int .u8 y1.1)) rfl Try.underlying5 rfl (cell_blk hk6 rfl)) rfl rfl rfl ?_; clear hf fa; intro fa hf
              refine sqv hf (r_eq rfl rfl) rfl rfl rfl ?_; clear hf fa; intro fa hf
              refine sqv hf (r_assign rfl) rfl rfl rfl ?_; clear hf fa; intro fa hf
              apply wpList_nil
              (try simp only [Exit.then, Exit.inBlock, ↓reduceIte, Nat.reduceEqDiff])
              refine hK16 _ _ ?_
              refine wp_cond_split (t := (decide (y1.1 = (5 : Int)))) (hf.ev rfl) (fun hqt45_1 => ?_) (fun hqt45_1 => ?_)
              · have hqt45_1b := hqt45_1
                try simp only [decide_eq_true_eq, Bool.and_eq_true, Bool.or_eq_true, Bool.not_eq_true', decide_eq_false_iff_not, ne_eq, Bool.not_eq_true] at hqt45_1
                have hk0 := ShP.pos hsh (opl_drop hy1) hqt37_1 hqt45_1
                have hk1 := hlast hk0
                obtain ⟨rb1, rfl, hbbrb1, hlbrb1⟩ := Row.some hrO (by omega)
                have hy4 := getD_at (l := op) (j := (op.length - 1)) (0 : Int) (by first | omega | (simp only [List.length_set, List.length_take, List.length_append, List.length_replicate, List.length_cons, List.length_nil]; omega))
                have hel4 := RdS.at (Row.rd (by intros; rfl) hrO) hy4
                obtain ⟨_, _, hab, hlr3, hel4⟩ := hel4
                cases hab
                refine wp_region_unT 9 (fun wq => Below w10.heap.size w10 wq) (fun w w' => Below w.heap.size w w')
                  (fun V => [(fun x _ => x = (.pointer (some ⟨b2, 1, none⟩))), (fun x _ => x = (.slice (some ⟨mb2, 0, none⟩) l.length l.length)), (fun x _ => x = (.slice (some ⟨rb1, 0, none⟩) op.length rOc)), (fun x _ => x = (.slice (some ⟨rb1, 0, none⟩) op.length rOc)), (fun x _ => x = (.int .i64 ((op.length : Nat) : Int))), (fun x _ => x = (.int .i64 (((op.length : Nat) : Int) - (1 : Int)))), (fun x _ => x = (.pointer (some ⟨rb1, (0 + (op.length - 1) * 1), none⟩))), (fun x _ => x = (.int .i64 ((op.getD (op.length - 1) (0 : Int))))), (fun x _ => x = (.int .i64 ((n : Nat) : Int)))])
                  []
                  [[], [0], [], [], [3], [4], [2, 5], [6], [], [], []]
                  hf (by kernel_rfl) (by kernel_rfl) (by kernel_rfl) (fun _ => rfl) ((Below.refl _ _).drew) (fun a b h1 h2 => h1.trans (h2.mono h1.size)) (fun _ _ h => h.size) (fun V => ⟨kept_eq, kept_eq, kept_eq, kept_eq, kept_eq, kept_eq, kept_eq, kept_eq, kept_eq, trivial⟩) (fun _ _ _ _ _ => rfl) ?_ ?_
                · skip
                  intro V
                  refine ⟨fun wu0 hC hd => ?_, ?_⟩
                  · clear hd
                    replace hb := hb.trans (hC.mono hb.size)
                    replace hkb1 := blk_ext hkb1 hC
                    replace hkb2 := blk_ext hkb2 hC
                    replace hk6 := blk_ext hk6 hC
                    replace hr3 := Row.ext hr3 hC
                    replace hr4 := Row.ext hr4 hC
                    replace hrO := Row.ext hrO hC
                    exact Runs.does (r_fa rfl Try.underlying30 (f := 1) (q := 1) rfl (by kernel_rfl) rfl) ⟨Below.refl _ _, rfl, nofr rfl⟩
                  refine ⟨fun wu1 hC hd => ?_, ?_⟩
                  · obtain ⟨h0, _⟩ := hd
                    skip
                    replace h0 : V 0 = (.pointer (some ⟨b2, 1, none⟩)) := h0
                    replace hb := hb.trans (hC.mono hb.size)
                    replace hkb1 := blk_ext hkb1 hC
                    replace hkb2 := blk_ext hkb2 hC
                    replace hk6 := blk_ext hk6 hC
                    replace hr3 := Row.ext hr3 hC
                    replace hr4 := Row.ext hr4 hC
                    replace hrO := Row.ext hrO hC
                    exact Runs.does (r_load (v := (.slice (some ⟨mb2, 0, none⟩) l.length l.length)) (congrArg some h0) Try.underlying28 rfl (cell_blk hkb2 rfl)) ⟨Below.refl _ _, rfl, nofr rfl⟩
                  refine ⟨fun wu2 hC hd => ?_, ?_⟩
                  · clear hd
                    replace hb := hb.trans (hC.mono hb.size)
                    replace hkb1 := blk_ext hkb1 hC
                    replace hkb2 := blk_ext hkb2 hC
                    replace hk6 := blk_ext hk6 hC
                    replace hr3 := Row.ext hr3 hC
                    replace hr4 := Row.ext hr4 hC
                    replace hrO := Row.ext hrO hC
                    exact Runs.does (r_move rfl) ⟨Below.refl _ _, rfl, nofr rfl⟩
                  refine ⟨fun wu3 hC hd => ?_, ?_⟩
                  · clear hd
                    replace hb := hb.trans (hC.mono hb.size)
                    replace hkb1 := blk_ext hkb1 hC
                    replace hkb2 := blk_ext hkb2 hC
                    replace hk6 := blk_ext hk6 hC
                    replace hr3 := Row.ext hr3 hC
                    replace hr4 := Row.ext hr4 hC
                    replace hrO := Row.ext hrO hC
                    exact Runs.does (r_move rfl) ⟨Below.refl _ _, rfl, nofr rfl⟩
                  refine ⟨fun wu4 hC hd => ?_, ?_⟩
                  · obtain ⟨h3, _⟩ := hd
                    skip
                    replace h3 : V 3 = (.slice (some ⟨rb1, 0, none⟩) op.length rOc) := h3
                    replace hb := hb.trans (hC.mono hb.size)
                    replace hkb1 := blk_ext hkb1 hC
                    replace hkb2 := blk_ext hkb2 hC
                    replace hk6 := blk_ext hk6 hC
                    replace hr3 := Row.ext hr3 hC
                    replace hr4 := Row.ext hr4 hC
                    replace hrO := Row.ext hrO hC
                    exact Runs.does (r_lensl (congrArg some h3) Try.underlying28) ⟨Below.refl _ _, rfl, nofr rfl⟩
                  refine ⟨fun wu5 hC hd => ?_, ?_⟩
                  · obtain ⟨h4, _⟩ := hd
                    skip
                    replace h4 : V 4 = (.int .i64 ((op.length : Nat) : Int)) := h4
                    replace hb := hb.trans (hC.mono hb.size)
                    replace hkb1 := blk_ext hkb1 hC
                    replace hkb2 := blk_ext hkb2 hC
                    replace hk6 := blk_ext hk6 hC
                    replace hr3 := Row.ext hr3 hC
                    replace hr4 := Row.ext hr4 hC
                    replace hrO := Row.ext hrO hC
                    exact Runs.does (r_sub (C := (((op.length : Nat) : Int) - (1 : Int))) (congrArg some h4) rfl (by rw [IntKind.wrap_i64]; omega)) ⟨Below.refl _ _, rfl, nofr rfl⟩
                  refine ⟨fun wu6 hC hd => ?_, ?_⟩
                  · obtain ⟨h2, h5, _⟩ := hd
                    skip
                    skip
                    replace h2 : V 2 = (.slice (some ⟨rb1, 0, none⟩) op.length rOc) := h2
                    replace h5 : V 5 = (.int .i64 (((op.length : Nat) : Int) - (1 : Int))) := h5
                    replace hb := hb.trans (hC.mono hb.size)
                    replace hkb1 := blk_ext hkb1 hC
                    replace hkb2 := blk_ext hkb2 hC
                    replace hk6 := blk_ext hk6 hC
                    replace hr3 := Row.ext hr3 hC
                    replace hr4 := Row.ext hr4 hC
                    replace hrO := Row.ext hrO hC
                    exact Runs.does (r_ixa (sz := 1) (j := (op.length - 1)) (congrArg some h2) (congrArg some h5) Try.underlying28 (by kernel_rfl) (by omega) (by omega) rfl) ⟨Below.refl _ _, rfl, nofr rfl⟩
                  refine ⟨fun wu7 hC hd => ?_, ?_⟩
                  · obtain ⟨h6, _⟩ := hd
                    skip
                    replace h6 : V 6 = (.pointer (some ⟨rb1, (0 + (op.length - 1) * 1), none⟩)) := h6
                    replace hb := hb.trans (hC.mono hb.size)
                    replace hkb1 := blk_ext hkb1 hC
                    replace hkb2 := blk_ext hkb2 hC
                    replace hk6 := blk_ext hk6 hC
                    replace hr3 := Row.ext hr3 hC
                    replace hr4 := Row.ext hr4 hC
                    replace hrO := Row.ext hrO hC
                    exact Runs.does (r_load (v := (.int .i64 ((op.getD (op.length - 1) (0 : Int))))) (congrArg some h6) Try.underlying3 rfl (cellsAt_cell (cellsAt_below hel4 hC hlr3) (i := 0) rfl rfl)) ⟨Below.refl _ _, rfl, nofr rfl⟩
                  refine ⟨fun wu8 hC hd => ?_, ?_⟩
                  · clear hd
                    replace hb := hb.trans (hC.mono hb.size)
                    replace hkb1 := blk_ext hkb1 hC
                    replace hkb2 := blk_ext hkb2 hC
                    replace hk6 := blk_ext hk6 hC
                    replace hr3 := Row.ext hr3 hC
                    replace hr4 := Row.ext hr4 hC
                    replace hrO := Row.ext hrO hC
                    exact Runs.does (r_move rfl) ⟨Below.refl _ _, rfl, nofr rfl⟩
                  trivial
                · skip
                  clear hf fa; intro V w13 fa he7 hp hnb hf
                  have hv0 : V 0 = (.pointer (some ⟨b2, 1, none⟩)) := postsHold_at hp 0 rfl
                  have hv1 : V 1 = (.slice (some ⟨mb2, 0, none⟩) l.length l.length) := postsHold_at hp 1 rfl
                  have hv2 : V 2 = (.slice (some ⟨rb1, 0, none⟩) op.length rOc) := postsHold_at hp 2 rfl
                  have hv3 : V 3 = (.slice (some ⟨rb1, 0, none⟩) op.length rOc) := postsHold_at hp 3 rfl
                  have hv4 : V 4 = (.int .i64 ((op.length : Nat) : Int)) := postsHold_at hp 4 rfl
                  have hv5 : V 5 = (.int .i64 (((op.length : Nat) : Int) - (1 : Int))) := postsHold_at hp 5 rfl
                  have hv6 : V 6 = (.pointer (some ⟨rb1, (0 + (op.length - 1) * 1), none⟩)) := postsHold_at hp 6 rfl
                  have hv7 : V 7 = (.int .i64 ((op.getD (op.length - 1) (0 : Int)))) := postsHold_at hp 7 rfl
                  have hv8 : V 8 = (.int .i64 ((n : Nat) : Int)) := postsHold_at hp 8 rfl
                  simp only [List.take_succ_cons, List.take_zero, insAll, ins, hv0, hv1, hv2, hv3, hv4, hv5, hv6, hv7, hv8] at hf
                  clear hp hnb hv0 hv1 hv2 hv3 hv4 hv5 hv6 hv7 hv8
                  replace hkb1 := blk_ext hkb1 he7
                  replace hkb2 := blk_ext hkb2 he7
                  replace hk6 := blk_ext hk6 he7
                  replace hr3 := Row.ext hr3 he7
                  replace hr4 := Row.ext hr4 he7
                  replace hrO := Row.ext hrO he7
                  replace hb := hb.trans (Below.mono he7 hb.size)
                  simp only [List.drop_succ_cons, List.drop_zero]
                  have hy5 := getD_at (l := ((el).set n (-1 : Int))) (j := ((op.getD (op.length - 1) (0 : Int))).toNat) (0 : Int) (by first | omega | (simp only [List.length_set, List.length_take, List.length_append, List.length_replicate, List.length_cons, List.length_nil]; omega))
                  have hel5 := RdS.at (Row.rd (by intros; rfl) hr4) hy5
                  obtain ⟨_, _, hab, hlr4, hel5⟩ := hel5
                  cases hab
                  refine sqv hf (r_ixa (sz := 1) (j := ((op.getD (op.length - 1) (0 : Int))).toNat) rfl rfl Try.underlying28 (by kernel_rfl) (by omega) (by omega) rfl) rfl rfl rfl ?_; clear hf fa; intro fa hf
                  refine sqn hf (d_rowset (u := ((n : Nat) : Int)) (j := ((op.getD (op.length - 1) (0 : Int))).toNat) (by intros; rfl) (by intro x u hu; simp only [vInt, List.mem_singleton] at hu; subst hu; rfl) rfl rfl (by first | rfl | (simp; done) | (simp; omega)) (by kernel_rfl) hr4 (by first | omega | (simp only [List.length_set, List.length_take, List.length_append, List.length_replicate, List.length_cons, List.length_nil]; omega)) (by omega)) rfl rfl ?_; clear hf fa; rintro fa _ w14 ⟨hr6, hg7⟩ hf
                  replace hkb1 := blk_grown hkb1 hg7 (fun e => Row.ne_type hr4 hkb1 rfl (show some mb2 = some b1 by rw [e]))
                  replace hkb2 := blk_grown hkb2 hg7 (fun e => Row.ne_type hr4 hkb2 rfl (show some mb2 = some b2 by rw [e]))
                  replace hk6 := blk_grown hk6 hg7 (fun e => Row.ne_type hr4 hk6 rfl (show some mb2 = some b3 by rw [e]))
                  replace hr3 := Row.grown hr3 hg7 (fun e => by have e : mb1 = mb2 := Option.some.inj e; omega)
                  replace hrO := Row.grown hrO hg7 (fun e => by have e : rb1 = mb2 := Option.some.inj e; omega)
                  replace hb := hb.trans (grown_below hg7 hb.size (by first | omega | (have := Row.lt hr4 _ rfl; omega)))
                  apply wpList_nil
                  (try simp only [Exit.then, Exit.inBlock, ↓reduceIte, Nat.reduceEqDiff])
                  refine hK12 _ _ ?_
                  refine wp_region_lit ?_
                  refine sqv hf (r_add (C := (((n : Nat) : Int) + (1 : Int))) rfl rfl (by rw [IntKind.wrap_i64]; omega)) rfl rfl rfl ?_; clear hf fa; intro fa hf
                  refine sqv hf (r_move rfl) rfl rfl rfl ?_; clear hf fa; intro fa hf
                  apply wpList_nil
                  (try simp only [Exit.then, Exit.inBlock, ↓reduceIte, Nat.reduceEqDiff])
                  refine hKL1 _ _ _ (by omega) ⟨(n + 1), ((en).set n (-1 : Int)), ((((el).set n (-1 : Int))).set ((op.getD (op.length - 1) (0 : Int))).toNat ((n : Nat) : Int)), op, (some ⟨rb1, 0, none⟩), rOc, rfl, hf.sub ⟨rfl, rfl, rfl, (some_int (by first | rfl | omega)), rfl, rfl, rfl, trivial⟩, hb, hr3, hr6, (Row.relen hrO), hkb1, hkb2, by omega, (by simp only [List.length_set]; exact hel), (by simp only [List.length_set]; exact hll), (ShP.els hsh (opl_drop hy1) hqt37_1 hqt45_1), (by first | exact fun x hx => ⟨(hop x hx).1, by have := (hop x hx).2; omega⟩ | (intro x hx; rcases List.mem_append.1 hx with h | h; exact ⟨(hop x h).1, by have := (hop x h).2; omega⟩; (have : x = (n : Int) := by simpa using h); omega) | (intro x hx; have h := hop x (List.mem_of_mem_take hx); omega)), (by have h := Hs; rw [(opl_drop hy1), ofR] at h; simp only [if_neg hqt37_1, if_pos hqt45_1] at h; exact h), (by first | omega | (simp only [List.length_append, List.length_cons, List.length_nil, List.length_take]; omega))⟩
              · have hqt45_1b := hqt45_1
                replace hqt45_1 := Bool.eq_false_iff.1 hqt45_1
                try simp only [ne_eq, decide_eq_true_eq, Bool.and_eq_true, Bool.or_eq_true, Bool.not_eq_true', decide_eq_false_iff_not] at hqt45_1
                refine wp_seq_k (fun K17 hK17 => ?_)
                refine wp_region_lit ?_
                refine sqv hf (r_fa rfl Try.underlying39 (f := 0) (q := 0) rfl (by kernel_rfl) rfl) rfl rfl rfl ?_; clear hf fa; intro fa hf
                refine sqv hf (r_load (v := (.int .u8 y1.1)) rfl Try.underlying5 rfl (cell_blk hk6 rfl)) rfl rfl rfl ?_; clear hf fa; intro fa hf
                refine sqv hf (r_eq rfl rfl) rfl rfl rfl ?_; clear hf fa; intro fa hf
                refine sqv hf (r_move rfl) rfl rfl rfl ?_; clear hf fa; intro fa hf
                refine sqgT (act := (decide (y1.1 = (11 : Int)))) (ag := true) (c := (decide (y1.1 = (11 : Int)))) (v := (.slice rOa op.length rOc)) hf rfl rfl rfl (fun hact => (r_move rfl)) rfl rfl ?_; clear hf fa; intro fa hf
                refine sqgT (act := (decide (y1.1 = (11 : Int)))) (ag := true) (c := (decide (y1.1 = (11 : Int)))) (v := (.int .i64 ((op.length : Nat) : Int))) hf rfl rfl rfl (fun hact => (r_lensl (gb_ev hact rfl) Try.underlying28)) rfl rfl ?_; clear hf fa; intro fa hf
                refine sqgT (act := (decide (y1.1 = (11 : Int)))) (ag := true) (c := (decide (y1.1 = (11 : Int)))) (v := (.bool (decide ((0 : Int) < ((op.length : Nat) : Int))))) hf rfl rfl rfl (fun hact => (r_gt (gb_ev hact rfl) rfl)) rfl rfl ?_; clear hf fa; intro fa hf
                refine sqv hf (r_pickA (b := (decide (y1.1 = (11 : Int)))) (e := (decide ((0 : Int) < ((op.length : Nat) : Int)))) rfl rfl rfl) rfl rfl rfl ?_; clear hf fa; intro fa hf
                refine sqv hf (r_assign rfl) rfl rfl rfl ?_; clear hf fa; intro fa hf
                apply wpList_nil
                (try simp only [Exit.then, Exit.inBlock, ↓reduceIte, Nat.reduceEqDiff])
                refine hK17 _ _ ?_
                refine wp_cond_split (t := ((decide (y1.1 = (11 : Int))) && (decide ((0 : Int) < ((op.length : Nat) : Int))))) (hf.ev rfl) (fun hqt59_1 => ?_) (fun hqt59_1 => ?_)
                · have hqt59_1b := hqt59_1
                  try simp only [decide_eq_true_eq, Bool.and_eq_true, Bool.or_eq_true, Bool.not_eq_true', decide_eq_false_iff_not, ne_eq, Bool.not_eq_true] at hqt59_1
                  refine wp_seq_k (fun K18 hK18 => ?_)
                  have hk0 : 0 < op.length := by have := hqt59_1; omega
                  have hk1 := hlast hk0
                  obtain ⟨rb2, rfl, hbbrb2, hlbrb2⟩ := Row.some hrO (by omega)
                  have hy6 := getD_at (l := op) (j := (op.length - 1)) (0 : Int) (by first | omega | (simp only [List.length_set, List.length_take, List.length_append, List.length_replicate, List.length_cons, List.length_nil]; omega))
                  have hel6 := RdS.at (Row.rd (by intros; rfl) hrO) hy6
                  obtain ⟨_, _, hab, hlr5, hel6⟩ := hel6
                  cases hab
                  refine wp_region_unT 9 (fun wq => Below w10.heap.size w10 wq) (fun w w' => Below w.heap.size w w')
                    (fun V => [(fun x _ => x = (.pointer (some ⟨b2, 0, none⟩))), (fun x _ => x = (.slice (some ⟨mb1, 0, none⟩) l.length l.length)), (fun x _ => x = (.slice (some ⟨rb2, 0, none⟩) op.length rOc)), (fun x _ => x = (.slice (some ⟨rb2, 0, none⟩) op.length rOc)), (fun x _ => x = (.int .i64 ((op.length : Nat) : Int))), (fun x _ => x = (.int .i64 (((op.length : Nat) : Int) - (1 : Int)))), (fun x _ => x = (.pointer (some ⟨rb2, (0 + (op.length - 1) * 1), none⟩))), (fun x _ => x = (.int .i64 ((op.getD (op.length - 1) (0 : Int))))), (fun x _ => x = (.int .i64 ((n : Nat) : Int)))])
                    []
                    [[], [0], [], [], [3], [4], [2, 5], [6], [], [], []]
                    hf (by kernel_rfl) (by kernel_rfl) (by kernel_rfl) (fun _ => rfl) ((Below.refl _ _).drew) (fun a b h1 h2 => h1.trans (h2.mono h1.size)) (fun _ _ h => h.size) (fun V => ⟨kept_eq, kept_eq, kept_eq, kept_eq, kept_eq, kept_eq, kept_eq, kept_eq, kept_eq, trivial⟩) (fun _ _ _ _ _ => rfl) ?_ ?_
                  · skip
                    intro V
                    refine ⟨fun wu0 hC hd => ?_, ?_⟩
                    · clear hd
                      replace hb := hb.trans (hC.mono hb.size)
                      replace hkb1 := blk_ext hkb1 hC
                      replace hkb2 := blk_ext hkb2 hC
                      replace hk6 := blk_ext hk6 hC
                      replace hr3 := Row.ext hr3 hC
                      replace hr4 := Row.ext hr4 hC
                      replace hrO := Row.ext hrO hC
                      exact Runs.does (r_fa rfl Try.underlying30 (f := 0) (q := 0) rfl (by kernel_rfl) rfl) ⟨Below.refl _ _, rfl, nofr rfl⟩
                    refine ⟨fun wu1 hC hd => ?_, ?_⟩
                    · obtain ⟨h0, _⟩ := hd
                      skip
                      replace h0 : V 0 = (.pointer (some ⟨b2, 0, none⟩)) := h0
                      replace hb := hb.trans (hC.mono hb.size)
                      replace hkb1 := blk_ext hkb1 hC
                      replace hkb2 := blk_ext hkb2 hC
                      replace hk6 := blk_ext hk6 hC
                      replace hr3 := Row.ext hr3 hC
                      replace hr4 := Row.ext hr4 hC
                      replace hrO := Row.ext hrO hC
                      exact Runs.does (r_load (v := (.slice (some ⟨mb1, 0, none⟩) l.length l.length)) (congrArg some h0) Try.underlying28 rfl (cell_blk hkb2 rfl)) ⟨Below.refl _ _, rfl, nofr rfl⟩
                    refine ⟨fun wu2 hC hd => ?_, ?_⟩
                    · clear hd
                      replace hb := hb.trans (hC.mono hb.size)
                      replace hkb1 := blk_ext hkb1 hC
                      replace hkb2 := blk_ext hkb2 hC
                      replace hk6 := blk_ext hk6 hC
                      replace hr3 := Row.ext hr3 hC
                      replace hr4 := Row.ext hr4 hC
                      replace hrO := Row.ext hrO hC
                      exact Runs.does (r_move rfl) ⟨Below.refl _ _, rfl, nofr rfl⟩
                    refine ⟨fun wu3 hC hd => ?_, ?_⟩
                    · clear hd
                      replace hb := hb.trans (hC.mono hb.size)
                      replace hkb1 := blk_ext hkb1 hC
                      replace hkb2 := blk_ext hkb2 hC
                      replace hk6 := blk_ext hk6 hC
                      replace hr3 := Row.ext hr3 hC
                      replace hr4 := Row.ext hr4 hC
                      replace hrO := Row.ext hrO hC
                      exact Runs.does (r_move rfl) ⟨Below.refl _ _, rfl, nofr rfl⟩
                    refine ⟨fun wu4 hC hd => ?_, ?_⟩
                    · obtain ⟨h3, _⟩ := hd
                      skip
                      replace h3 : V 3 = (.slice (some ⟨rb2, 0, none⟩) op.length rOc) := h3
                      replace hb := hb.trans (hC.mono hb.size)
                      replace hkb1 := blk_ext hkb1 hC
                      replace hkb2 := blk_ext hkb2 hC
                      replace hk6 := blk_ext hk6 hC
                      replace hr3 := Row.ext hr3 hC
                      replace hr4 := Row.ext hr4 hC
                      replace hrO := Row.ext hrO hC
                      exact Runs.does (r_lensl (congrArg some h3) Try.underlying28) ⟨Below.refl _ _, rfl, nofr rfl⟩
                    refine ⟨fun wu5 hC hd => ?_, ?_⟩
                    · obtain ⟨h4, _⟩ := hd
                      skip
                      replace h4 : V 4 = (.int .i64 ((op.length : Nat) : Int)) := h4
                      replace hb := hb.trans (hC.mono hb.size)
                      replace hkb1 := blk_ext hkb1 hC
                      replace hkb2 := blk_ext hkb2 hC
                      replace hk6 := blk_ext hk6 hC
                      replace hr3 := Row.ext hr3 hC
                      replace hr4 := Row.ext hr4 hC
                      replace hrO := Row.ext hrO hC
                      exact Runs.does (r_sub (C := (((op.length : Nat) : Int) - (1 : Int))) (congrArg some h4) rfl (by rw [IntKind.wrap_i64]; omega)) ⟨Below.refl _ _, rfl, nofr rfl⟩
                    refine ⟨fun wu6 hC hd => ?_, ?_⟩
                    · obtain ⟨h2, h5, _⟩ := hd
                      skip
                      skip
                      replace h2 : V 2 = (.slice (some ⟨rb2, 0, none⟩) op.length rOc) := h2
                      replace h5 : V 5 = (.int .i64 (((op.length : Nat) : Int) - (1 : Int))) := h5
                      replace hb := hb.trans (hC.mono hb.size)
                      replace hkb1 := blk_ext hkb1 hC
                      replace hkb2 := blk_ext hkb2 hC
                      replace hk6 := blk_ext hk6 hC
                      replace hr3 := Row.ext hr3 hC
                      replace hr4 := Row.ext hr4 hC
                      replace hrO := Row.ext hrO hC
                      exact Runs.does (r_ixa (sz := 1) (j := (op.length - 1)) (congrArg some h2) (congrArg some h5) Try.underlying28 (by kernel_rfl) (by omega) (by omega) rfl) ⟨Below.refl _ _, rfl, nofr rfl⟩
                    refine ⟨fun wu7 hC hd => ?_, ?_⟩
                    · obtain ⟨h6, _⟩ := hd
                      skip
                      replace h6 : V 6 = (.pointer (some ⟨rb2, (0 + (op.length - 1) * 1), none⟩)) := h6
                      replace hb := hb.trans (hC.mono hb.size)
                      replace hkb1 := blk_ext hkb1 hC
                      replace hkb2 := blk_ext hkb2 hC
                      replace hk6 := blk_ext hk6 hC
                      replace hr3 := Row.ext hr3 hC
                      replace hr4 := Row.ext hr4 hC
                      replace hrO := Row.ext hrO hC
                      exact Runs.does (r_load (v := (.int .i64 ((op.getD (op.length - 1) (0 : Int))))) (congrArg some h6) Try.underlying3 rfl (cellsAt_cell (cellsAt_below hel6 hC hlr5) (i := 0) rfl rfl)) ⟨Below.refl _ _, rfl, nofr rfl⟩
                    refine ⟨fun wu8 hC hd => ?_, ?_⟩
                    · clear hd
                      replace hb := hb.trans (hC.mono hb.size)
                      replace hkb1 := blk_ext hkb1 hC
                      replace hkb2 := blk_ext hkb2 hC
                      replace hk6 := blk_ext hk6 hC
                      replace hr3 := Row.ext hr3 hC
                      replace hr4 := Row.ext hr4 hC
                      replace hrO := Row.ext hrO hC
                      exact Runs.does (r_move rfl) ⟨Below.refl _ _, rfl, nofr rfl⟩
                    trivial
                  · skip
                    clear hf fa; intro V w15 fa he8 hp hnb hf
                    have hv0 : V 0 = (.pointer (some ⟨b2, 0, none⟩)) := postsHold_at hp 0 rfl
                    have hv1 : V 1 = (.slice (some ⟨mb1, 0, none⟩) l.length l.length) := postsHold_at hp 1 rfl
                    have hv2 : V 2 = (.slice (some ⟨rb2, 0, none⟩) op.length rOc) := postsHold_at hp 2 rfl
                    have hv3 : V 3 = (.slice (some ⟨rb2, 0, none⟩) op.length rOc) := postsHold_at hp 3 rfl
                    have hv4 : V 4 = (.int .i64 ((op.length : Nat) : Int)) := postsHold_at hp 4 rfl
                    have hv5 : V 5 = (.int .i64 (((op.length : Nat) : Int) - (1 : Int))) := postsHold_at hp 5 rfl
                    have hv6 : V 6 = (.pointer (some ⟨rb2, (0 + (op.length - 1) * 1), none⟩)) := postsHold_at hp 6 rfl
                    have hv7 : V 7 = (.int .i64 ((op.getD (op.length - 1) (0 : Int)))) := postsHold_at hp 7 rfl
                    have hv8 : V 8 = (.int .i64 ((n : Nat) : Int)) := postsHold_at hp 8 rfl
                    simp only [List.take_succ_cons, List.take_zero, insAll, ins, hv0, hv1, hv2, hv3, hv4, hv5, hv6, hv7, hv8] at hf
                    clear hp hnb hv0 hv1 hv2 hv3 hv4 hv5 hv6 hv7 hv8
                    replace hkb1 := blk_ext hkb1 he8
                    replace hkb2 := blk_ext hkb2 he8
                    replace hk6 := blk_ext hk6 he8
                    replace hr3 := Row.ext hr3 he8
                    replace hr4 := Row.ext hr4 he8
                    replace hrO := Row.ext hrO he8
                    replace hb := hb.trans (Below.mono he8 hb.size)
                    simp only [List.drop_succ_cons, List.drop_zero]
                    have hy7 := getD_at (l := ((en).set n (-1 : Int))) (j := ((op.getD (op.length - 1) (0 : Int))).toNat) (0 : Int) (by first | omega | (simp only [List.length_set, List.length_take, List.length_append, List.length_replicate, List.length_cons, List.length_nil]; omega))
                    have hel7 := RdS.at (Row.rd (by intros; rfl) hr3) hy7
                    obtain ⟨_, _, hab, hlr6, hel7⟩ := hel7
                    cases hab
                    refine sqv hf (r_ixa (sz := 1) (j := ((op.getD (op.length - 1) (0 : Int))).toNat) rfl rfl Try.underlying28 (by kernel_rfl) (by omega) (by omega) rfl) rfl rfl rfl ?_; clear hf fa; intro fa hf
                    refine sqn hf (d_rowset (u := ((n : Nat) : Int)) (j := ((op.getD (op.length - 1) (0 : Int))).toNat) (by intros; rfl) (by intro x u hu; simp only [vInt, List.mem_singleton] at hu; subst hu; rfl) rfl rfl (by first | rfl | (simp; done) | (simp; omega)) (by kernel_rfl) hr3 (by first | omega | (simp only [List.length_set, List.length_take, List.length_append, List.length_replicate, List.length_cons, List.length_nil]; omega)) (by omega)) rfl rfl ?_; clear hf fa; rintro fa _ w16 ⟨hr7, hg8⟩ hf
                    replace hkb1 := blk_grown hkb1 hg8 (fun e => Row.ne_type hr3 hkb1 rfl (show some mb1 = some b1 by rw [e]))
                    replace hkb2 := blk_grown hkb2 hg8 (fun e => Row.ne_type hr3 hkb2 rfl (show some mb1 = some b2 by rw [e]))
                    replace hk6 := blk_grown hk6 hg8 (fun e => Row.ne_type hr3 hk6 rfl (show some mb1 = some b3 by rw [e]))
                    replace hr4 := Row.grown hr4 hg8 (fun e => by have e : mb2 = mb1 := Option.some.inj e; omega)
                    replace hrO := Row.grown hrO hg8 (fun e => by have e : rb2 = mb1 := Option.some.inj e; omega)
                    replace hb := hb.trans (grown_below hg8 hb.size (by first | omega | (have := Row.lt hr3 _ rfl; omega)))
                    apply wpList_nil
                    (try simp only [Exit.then, Exit.inBlock, ↓reduceIte, Nat.reduceEqDiff])
                    refine hK18 _ _ ?_
                    refine wp_region_lit ?_
                    refine sqv hf (r_move rfl) rfl rfl rfl ?_; clear hf fa; intro fa hf
                    refine sqv hf (r_move rfl) rfl rfl rfl ?_; clear hf fa; intro fa hf
                    refine sqv hf (r_lensl rfl Try.underlying28) rfl rfl rfl ?_; clear hf fa; intro fa hf
                    refine sqv hf (r_sub (C := (((op.length : Nat) : Int) - (1 : Int))) rfl rfl (by rw [IntKind.wrap_i64]; omega)) rfl rfl rfl ?_; clear hf fa; intro fa hf
                    refine sqv hf (r_slto (m := (op.length - 1)) rfl rfl Try.underlying28 (by kernel_rfl) (by omega) (by omega)) rfl rfl rfl ?_; clear hf fa; intro fa hf
                    have hr8 := Row.cut (m := (op.length - 1)) (by intros; rfl) hrO (Row.caps hrO).1 (by omega) (by omega)
                    refine sqv hf (r_assign rfl) rfl rfl rfl ?_; clear hf fa; intro fa hf
                    apply wpList_nil
                    (try simp only [Exit.then, Exit.inBlock, ↓reduceIte, Nat.reduceEqDiff])
                    refine hK12 _ _ ?_
                    refine wp_region_lit ?_
                    refine sqv hf (r_add (C := (((n : Nat) : Int) + (1 : Int))) rfl rfl (by rw [IntKind.wrap_i64]; omega)) rfl rfl rfl ?_; clear hf fa; intro fa hf
                    refine sqv hf (r_move rfl) rfl rfl rfl ?_; clear hf fa; intro fa hf
                    apply wpList_nil
                    (try simp only [Exit.then, Exit.inBlock, ↓reduceIte, Nat.reduceEqDiff])
                    refine hKL1 _ _ _ (by omega) ⟨(n + 1), ((((en).set n (-1 : Int))).set ((op.getD (op.length - 1) (0 : Int))).toNat ((n : Nat) : Int)), ((el).set n (-1 : Int)), ((op).take (op.length - 1)), (some ⟨rb2, 0, none⟩), rOc, rfl, hf.sub ⟨rfl, rfl, rfl, (some_int (by first | rfl | omega)), rfl, rfl, (some_sl (by simp <;> omega) rfl), trivial⟩, hb, hr7, hr4, (Row.relen hr8), hkb1, hkb2, by omega, (by simp only [List.length_set]; exact hel), (by simp only [List.length_set]; exact hll), (by have h := ShP.fin hsh (opl_drop hy1) hqt37_1 hqt45_1 hqt59_1; simpa using h), (by first | exact fun x hx => ⟨(hop x hx).1, by have := (hop x hx).2; omega⟩ | (intro x hx; rcases List.mem_append.1 hx with h | h; exact ⟨(hop x h).1, by have := (hop x h).2; omega⟩; (have : x = (n : Int) := by simpa using h); omega) | (intro x hx; have h := hop x (List.mem_of_mem_take hx); omega)), (by have h := Hs; rw [(opl_drop hy1), ofR] at h; simp only [if_neg hqt37_1, if_neg hqt45_1, if_pos hqt59_1] at h; exact h), (by first | omega | (simp only [List.length_append, List.length_cons, List.length_nil, List.length_take]; omega))⟩
                · have hqt59_1b := hqt59_1
                  replace hqt59_1 := Bool.eq_false_iff.1 hqt59_1
                  try simp only [ne_eq, decide_eq_true_eq, Bool.and_eq_true, Bool.or_eq_true, Bool.not_eq_true', decide_eq_false_iff_not] at hqt59_1
                  refine wp_skip ?_
                  (try simp only [Exit.then, Exit.inBlock, ↓reduceIte, Nat.reduceEqDiff])
                  refine hK12 _ _ ?_
                  refine wp_region_lit ?_
                  refine sqv hf (r_add (C := (((n : Nat) : Int) + (1 : Int))) rfl rfl (by rw [IntKind.wrap_i64]; omega)) rfl rfl rfl ?_; clear hf fa; intro fa hf
                  refine sqv hf (r_move rfl) rfl rfl rfl ?_; clear hf fa; intro fa hf
                  apply wpList_nil
                  (try simp only [Exit.then, Exit.inBlock, ↓reduceIte, Nat.reduceEqDiff])
                  refine hKL1 _ _ _ (by omega) ⟨(n + 1), ((en).set n (-1 : Int)), ((el).set n (-1 : Int)), op, rOa, rOc, rfl, hf.sub ⟨rfl, rfl, rfl, (some_int (by first | rfl | omega)), rfl, rfl, rfl, trivial⟩, hb, hr3, hr4, (Row.relen hrO), hkb1, hkb2, by omega, (by simp only [List.length_set]; exact hel), (by simp only [List.length_set]; exact hll), (ShP.other hsh (opl_drop hy1) hqt37_1 hqt45_1 hqt59_1), (by first | exact fun x hx => ⟨(hop x hx).1, by have := (hop x hx).2; omega⟩ | (intro x hx; rcases List.mem_append.1 hx with h | h; exact ⟨(hop x h).1, by have := (hop x h).2; omega⟩; (have : x = (n : Int) := by simpa using h); omega) | (intro x hx; have h := hop x (List.mem_of_mem_take hx); omega)), (by have h := Hs; rw [(opl_drop hy1), ofR] at h; simp only [if_neg hqt37_1, if_neg hqt45_1, if_neg hqt59_1] at h; exact h), (by first | omega | (simp only [List.length_append, List.length_cons, List.length_nil, List.length_take]; omega))⟩
        · have hqt25_1b := hqt25_1
          replace hqt25_1 := Bool.eq_false_iff.1 hqt25_1
          try simp only [ne_eq, decide_eq_true_eq, Bool.and_eq_true, Bool.or_eq_true, Bool.not_eq_true', decide_eq_false_iff_not] at hqt25_1
          refine wp_exit ?_
          (try simp only [Exit.then, Exit.inBlock, ↓reduceIte, Nat.reduceEqDiff])
          refine hK8 _ _ ?_
          refine wp_seq_k (fun K19 hK19 => ?_)
          refine wp_region_lit ?_
          refine sqv hf (r_loadA (cs := [(.slice (some ⟨mb1, 0, none⟩) l.length l.length), (.slice (some ⟨mb2, 0, none⟩) l.length l.length)]) rfl Try.underlying30 rfl (by kernel_rfl) (cellsAt_blk hkb2)) rfl rfl rfl ?_; clear hf fa; intro fa hf
          refine sqn hf (d_store (T := 30) (v := (.agg #[(.slice (some ⟨mb1, 0, none⟩) l.length l.length), (.slice (some ⟨mb2, 0, none⟩) l.length l.length)])) (cs := #[(.slice none 0 0), (.slice none 0 0)]) (cs' := #[(.slice (some ⟨mb1, 0, none⟩) l.length l.length), (.slice (some ⟨mb2, 0, none⟩) l.length l.length)]) rfl rfl (by kernel_rfl) (by intro u hu; simp only [Value.cells, List.mem_cons, List.mem_toArray, List.not_mem_nil, or_false] at hu; rcases hu with rfl | rfl <;> rfl) hkb1 (Nat.le_of_ble_eq_true rfl) rfl) rfl rfl ?_; clear hf fa; rintro fa _ w17 ⟨hk8, hg9⟩ hf
          replace hkb2 := blk_grown hkb2 hg9 (by omega)
          replace hrE := Row.grown hrE hg9 (Row.ne_type hrE hkb1 rfl)
          replace hrL := Row.grown hrL hg9 (Row.ne_type hrL hkb1 rfl)
          replace hrO := Row.grown hrO hg9 (Row.ne_type hrO hkb1 rfl)
          replace hb := hb.trans (grown_below hg9 hb.size hBb1)
          refine sqv hf (r_assign rfl) rfl rfl rfl ?_; clear hf fa; intro fa hf
          apply wpList_nil
          (try simp only [Exit.then, Exit.inBlock, ↓reduceIte, Nat.reduceEqDiff])
          refine hK19 _ _ ?_
          refine wp_ret ?_
          (try simp only [Exit.then, Exit.inBlock])
          refine retCT hf rfl rfl hk8 Try.underlying30 rfl (by kernel_rfl) rfl ?_
          have hfin : (en, el) = ofP (opl l) := by have h := Hs; rw [opl_end (by omega), ofR] at h; exact h
          rw [ofQ, if_neg hqt12_1, ← hfin] at hpq; cases hpq
          have hz2 := (Decidable.of_not_not hqt12_1); rw [hz] at hz2; subst hz2
          exact ⟨_, rfl, _, _, _, _, by rw [hel, hll], Row.relen hrE, Row.relen hrL, hb⟩
end Go.Proofs.Ytahgkfekggkjnaa
