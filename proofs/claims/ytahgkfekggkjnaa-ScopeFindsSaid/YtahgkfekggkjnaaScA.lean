/- What is proved here: what is found among units, and units of modules. -/
import Derived.Test.YtahgkfekggkjnaaScN
namespace Go.Proofs.Ytahgkfekggkjnaa
open Go.RowKit
set_option linter.unusedVariables false
set_option linter.unusedSimpArgs false
set_option maxHeartbeats 1000000 in
set_option maxRecDepth 100000 in
theorem findE_any (l : List MExp) (nm : ByteArray) (a : Option Addr) (n c : Nat) (w : World) (hl : RdS 3 vMExp w a l) (hn : l.length = n) (hnm : n ≤ 9223372036854775807) : Calls Try.prog 70 #[(.slice a n c), (.string nm)] w fun e w' => e = .returned (.tuple #[(.agg #[(.string (findE nm l).1.1), (.int .u8 ((findE nm l).1.2.1)), (.int .u32 ((findE nm l).1.2.2.1))]), .bool (findE nm l).2]) ∧ Below w.heap.size w w' := by
  refine sx_enter (L := [(0, (.slice a n c)), (1, (.string nm))]) Try.func70 rfl rfl rfl rfl (fun fa hf => ?_)
  have hb : Below w.heap.size w w := Below.refl _ _
  refine wp_seq_k (fun K1 hK1 => ?_)
  refine wp_region_lit ?_
  refine sqdt hf (d_alloc (z := (.agg #[(.string ⟨#[]⟩), (.int .u8 (0 : Int)), (.int .u32 (0 : Int))])) (cs := #[(.string ⟨#[]⟩), (.int .u8 (0 : Int)), (.int .u32 (0 : Int))]) (by kernel_rfl) rfl) rfl rfl rfl ?_; clear hf fa; rintro fa _ w1 ⟨b1, rfl, hle1, hk1, he1⟩ hf
  have hBb1 : w.heap.size ≤ b1 := Nat.le_trans hb.size hle1
  replace hb := hb.trans (Below.mono he1 hb.size)
  refine sqv hf (r_assign rfl) rfl rfl rfl ?_; clear hf fa; intro fa hf
  apply wpList_nil
  (try simp only [Exit.then, Exit.inBlock, ↓reduceIte, Nat.reduceEqDiff])
  refine hK1 _ _ ?_
  refine wp_seq_k (fun K2 hK2 => ?_)
  refine wp_seq_k (fun K3 hK3 => ?_)
  refine wp_region_lit ?_
  refine sqv hf (r_move rfl) rfl rfl rfl ?_; clear hf fa; intro fa hf
  refine sqv hf (r_lensl rfl Try.underlying60) rfl rfl rfl ?_; clear hf fa; intro fa hf
  refine sqv hf (r_move rfl) rfl rfl rfl ?_; clear hf fa; intro fa hf
  apply wpList_nil
  (try simp only [Exit.then, Exit.inBlock, ↓reduceIte, Nat.reduceEqDiff])
  refine hK3 _ _ ?_
  refine wp_block ?_
  refine wp_loop_k (fun mq fa wr => ∃ (k : Nat), mq = n - k ∧ Fr 21 fa [(1, (.string nm)), (4, (.pointer (some ⟨b1, 0, none⟩))), (8, (.slice a n c)), (9, (.int .i64 ((n : Nat) : Int))), (10, (.int .i64 ((k : Nat) : Int)))] ∧ Below w.heap.size w wr ∧ wr.heap[b1]? = some (.cells #[(.string ⟨#[]⟩), (.int .u8 (0 : Int)), (.int .u32 (0 : Int))] 94 (0, 0)) ∧ (k ≤ n) ∧ (findE nm l = findE nm (l.drop k))) ?_ ?_
  · skip
    exact ⟨_, 0, rfl, hf.sub ⟨rfl, rfl, rfl, rfl, (some_int (by first | rfl | omega)), trivial⟩, hb, hk1, by omega, rfl⟩
  · skip
    clear hf fa; intro mq1 fa w2 hI KL1 hKL1
    clear hb
    clear hk1
    obtain ⟨k, hmq1, hf, hb, hkb1, hk, Hs⟩ := hI
    refine wp_seq_k (fun K4 hK4 => ?_)
    refine wp_region_lit ?_
    refine sqv hf (r_lt rfl rfl) rfl rfl rfl ?_; clear hf fa; intro fa hf
    apply wpList_nil
    (try simp only [Exit.then, Exit.inBlock, ↓reduceIte, Nat.reduceEqDiff])
    refine hK4 _ _ ?_
    refine wp_seq_k (fun K5 hK5 => ?_)
    refine wp_cond_split (t := (decide (((k : Nat) : Int) < ((n : Nat) : Int)))) (hf.ev rfl) (fun hqt11_1 => ?_) (fun hqt11_1 => ?_)
    · have hqt11_1b := hqt11_1
      try simp only [decide_eq_true_eq, Bool.and_eq_true, Bool.or_eq_true, Bool.not_eq_true', decide_eq_false_iff_not, ne_eq, Bool.not_eq_true] at hqt11_1
      refine wp_skip ?_
      (try simp only [Exit.then, Exit.inBlock, ↓reduceIte, Nat.reduceEqDiff])
      refine hK5 _ _ ?_
      refine wp_seq_k (fun K6 hK6 => ?_)
      refine wp_block ?_
      refine wp_seq_k (fun K7 hK7 => ?_)
      refine wp_region_lit ?_
      obtain ⟨y1, hy1⟩ : ∃ x, (l)[k]? = some x := ⟨_, List.getElem?_eq_getElem (by (try simp only [Sl.list_length]); omega)⟩
      obtain ⟨ab1, aoff1, rfl, hlb1, hel1⟩ := RdS.at hl hy1
      refine sqv hf (r_ixa (sz := 3) (j := k) rfl rfl Try.underlying60 (by kernel_rfl) rfl (by omega) rfl) rfl rfl rfl ?_; clear hf fa; intro fa hf
      refine sqv hf (r_loadA (cs := [(.string y1.1), (.int .u8 y1.2.1), (.int .u32 y1.2.2.1)]) rfl Try.underlying94 rfl (by kernel_rfl) (cellsAt_below hel1 hb hlb1)) rfl rfl rfl ?_; clear hf fa; intro fa hf
      refine sqdt hf (d_alloc (z := (.agg #[(.string ⟨#[]⟩), (.int .u8 (0 : Int)), (.int .u32 (0 : Int))])) (cs := #[(.string ⟨#[]⟩), (.int .u8 (0 : Int)), (.int .u32 (0 : Int))]) (by kernel_rfl) rfl) rfl rfl rfl ?_; clear hf fa; rintro fa _ w3 ⟨b2, rfl, hle2, hk2, he2⟩ hf
      have hBb2 : w.heap.size ≤ b2 := Nat.le_trans hb.size hle2
      have : b1 < b2 := Nat.lt_of_lt_of_le (blk_lt hkb1) hle2
      replace hkb1 := blk_ext hkb1 he2
      replace hb := hb.trans (Below.mono he2 hb.size)
      refine sqn hf (d_storeK (T := 94) (v := (.agg #[(.string y1.1), (.int .u8 y1.2.1), (.int .u32 y1.2.2.1)])) (cs := #[(.string ⟨#[]⟩), (.int .u8 (0 : Int)), (.int .u32 (0 : Int))]) (cs' := #[(.string y1.1), (.int .u8 y1.2.1), (.int .u32 y1.2.2.1)]) rfl rfl (by kernel_rfl) (by kernel_rfl) hk2 (by kernel_rfl) (by kernel_rfl)) rfl rfl ?_; clear hf fa; rintro fa _ w4 ⟨hk3, hg1⟩ hf
      replace hkb1 := blk_grown hkb1 hg1 (by omega)
      replace hb := hb.trans (grown_below hg1 hb.size hBb2)
      apply wpList_nil
      (try simp only [Exit.then, Exit.inBlock, ↓reduceIte, Nat.reduceEqDiff])
      refine hK7 _ _ ?_
      refine wp_seq_k (fun K8 hK8 => ?_)
      refine wp_region_lit ?_
      refine sqv hf (r_fa rfl Try.underlying94 (f := 0) (q := 0) rfl (by kernel_rfl) rfl) rfl rfl rfl ?_; clear hf fa; intro fa hf
      refine sqv hf (r_load (v := (.string y1.1)) rfl Try.underlying9 rfl (cell_blk hk3 rfl)) rfl rfl rfl ?_; clear hf fa; intro fa hf
      refine sqv hf (r_move rfl) rfl rfl rfl ?_; clear hf fa; intro fa hf
      refine sqv hf (r_seq rfl rfl) rfl rfl rfl ?_; clear hf fa; intro fa hf
      apply wpList_nil
      (try simp only [Exit.then, Exit.inBlock, ↓reduceIte, Nat.reduceEqDiff])
      refine hK8 _ _ ?_
      refine wp_cond_split (t := (decide (y1.1 = nm))) (hf.ev rfl) (fun hqt17_1 => ?_) (fun hqt17_1 => ?_)
      · have hqt17_1b := hqt17_1
        try simp only [decide_eq_true_eq, Bool.and_eq_true, Bool.or_eq_true, Bool.not_eq_true', decide_eq_false_iff_not, ne_eq, Bool.not_eq_true] at hqt17_1
        refine wp_seq_k (fun K9 hK9 => ?_)
        refine wp_region_lit ?_
        refine sqv hf (r_loadA (cs := [(.string y1.1), (.int .u8 y1.2.1), (.int .u32 y1.2.2.1)]) rfl Try.underlying94 rfl (by kernel_rfl) (cellsAt_blk hk3)) rfl rfl rfl ?_; clear hf fa; intro fa hf
        refine sqn hf (d_storeK (T := 94) (v := (.agg #[(.string y1.1), (.int .u8 y1.2.1), (.int .u32 y1.2.2.1)])) (cs := #[(.string ⟨#[]⟩), (.int .u8 (0 : Int)), (.int .u32 (0 : Int))]) (cs' := #[(.string y1.1), (.int .u8 y1.2.1), (.int .u32 y1.2.2.1)]) rfl rfl (by kernel_rfl) (by kernel_rfl) hkb1 (by kernel_rfl) (by kernel_rfl)) rfl rfl ?_; clear hf fa; rintro fa _ w5 ⟨hk4, hg2⟩ hf
        replace hk3 := blk_grown hk3 hg2 (by omega)
        replace hb := hb.trans (grown_below hg2 hb.size hBb1)
        refine sqv hf (r_assign rfl) rfl rfl rfl ?_; clear hf fa; intro fa hf
        apply wpList_nil
        (try simp only [Exit.then, Exit.inBlock, ↓reduceIte, Nat.reduceEqDiff])
        refine hK9 _ _ ?_
        refine wp_ret ?_
        (try simp only [Exit.then, Exit.inBlock])
        refine retCT hf rfl rfl hk4 Try.underlying94 rfl (by kernel_rfl) rfl ?_
        have hP : findE nm l = (y1, true) := by rw [Hs, drop_at hy1, findE, if_pos hqt17_1]
        rw [hP]; exact ⟨rfl, hb⟩
      · have hqt17_1b := hqt17_1
        replace hqt17_1 := Bool.eq_false_iff.1 hqt17_1
        try simp only [ne_eq, decide_eq_true_eq, Bool.and_eq_true, Bool.or_eq_true, Bool.not_eq_true', decide_eq_false_iff_not] at hqt17_1
        refine wp_skip ?_
        (try simp only [Exit.then, Exit.inBlock, ↓reduceIte, Nat.reduceEqDiff])
        refine hK6 _ _ ?_
        refine wp_region_lit ?_
        refine sqv hf (r_add (C := (((k : Nat) : Int) + (1 : Int))) rfl rfl (by rw [IntKind.wrap_i64]; omega)) rfl rfl rfl ?_; clear hf fa; intro fa hf
        refine sqv hf (r_move rfl) rfl rfl rfl ?_; clear hf fa; intro fa hf
        apply wpList_nil
        (try simp only [Exit.then, Exit.inBlock, ↓reduceIte, Nat.reduceEqDiff])
        refine hKL1 _ _ _ (by omega) ⟨(k + 1), rfl, hf.sub ⟨rfl, rfl, rfl, rfl, (some_int (by first | rfl | omega)), trivial⟩, hb, hkb1, by omega, (by have h := Hs; rw [drop_at hy1, findE, if_neg hqt17_1] at h; exact h)⟩
    · have hqt11_1b := hqt11_1
      replace hqt11_1 := Bool.eq_false_iff.1 hqt11_1
      try simp only [ne_eq, decide_eq_true_eq, Bool.and_eq_true, Bool.or_eq_true, Bool.not_eq_true', decide_eq_false_iff_not] at hqt11_1
      refine wp_exit ?_
      (try simp only [Exit.then, Exit.inBlock, ↓reduceIte, Nat.reduceEqDiff])
      refine hK2 _ _ ?_
      refine wp_seq_k (fun K10 hK10 => ?_)
      refine wp_region_lit ?_
      refine sqv hf (r_build (vs := []) (cs := #[(.string ⟨#[]⟩), (.int .u8 (0 : Int)), (.int .u32 (0 : Int))]) rfl (fun _ => by kernel_rfl)) rfl rfl rfl ?_; clear hf fa; intro fa hf
      refine sqn hf (d_storeK (T := 94) (v := (.agg #[(.string ⟨#[]⟩), (.int .u8 (0 : Int)), (.int .u32 (0 : Int))])) (cs := #[(.string ⟨#[]⟩), (.int .u8 (0 : Int)), (.int .u32 (0 : Int))]) (cs' := #[(.string ⟨#[]⟩), (.int .u8 (0 : Int)), (.int .u32 (0 : Int))]) rfl rfl (by kernel_rfl) (by kernel_rfl) hkb1 (by kernel_rfl) (by kernel_rfl)) rfl rfl ?_; clear hf fa; rintro fa _ w6 ⟨hk5, hg3⟩ hf
      replace hb := hb.trans (grown_below hg3 hb.size hBb1)
      refine sqv hf (r_assign rfl) rfl rfl rfl ?_; clear hf fa; intro fa hf
      apply wpList_nil
      (try simp only [Exit.then, Exit.inBlock, ↓reduceIte, Nat.reduceEqDiff])
      refine hK10 _ _ ?_
      refine wp_ret ?_
      (try simp only [Exit.then, Exit.inBlock])
      refine retCT hf rfl rfl hk5 Try.underlying94 rfl (by kernel_rfl) rfl ?_
      have hP : findE nm l = (zMExp, false) := by rw [Hs, List.drop_eq_nil_of_le (by omega), findE]
      rw [hP]; exact ⟨rfl, hb⟩

set_option maxHeartbeats 1000000 in
set_option maxRecDepth 100000 in
theorem findU_any (l : List MUn) (nm : ByteArray) (a : Option Addr) (n c : Nat) (w : World) (hl : RdS 18 vMUn w a l) (hn : l.length = n) (hnm : n ≤ 9223372036854775807) (hF : ∀ u ∈ l, RdS 3 vMExp w (expsU u).at' (expsU u).list ∧ (expsU u).len ≤ 9223372036854775807) : Calls Try.prog 45 #[(.slice a n c), (.string nm)] w fun e w' => e = .returned (.tuple #[.int .i64 (findU nm l 0).1, (.agg #[(.string (findU nm l 0).2.1.1), (.int .u8 ((findU nm l 0).2.1.2.1)), (.int .u32 ((findU nm l 0).2.1.2.2.1))]), .bool (findU nm l 0).2.2]) ∧ Below w.heap.size w w' := by
  refine sx_enter (L := [(0, (.slice a n c)), (1, (.string nm))]) Try.func45 rfl rfl rfl rfl (fun fa hf => ?_)
  have hb : Below w.heap.size w w := Below.refl _ _
  refine wp_seq_k (fun K1 hK1 => ?_)
  refine wp_region_lit ?_
  refine sqv hf (r_assign rfl) rfl rfl rfl ?_; clear hf fa; intro fa hf
  refine sqdt hf (d_alloc (z := (.agg #[(.string ⟨#[]⟩), (.int .u8 (0 : Int)), (.int .u32 (0 : Int))])) (cs := #[(.string ⟨#[]⟩), (.int .u8 (0 : Int)), (.int .u32 (0 : Int))]) (by kernel_rfl) rfl) rfl rfl rfl ?_; clear hf fa; rintro fa _ w1 ⟨b1, rfl, hle1, hk1, he1⟩ hf
  have hBb1 : w.heap.size ≤ b1 := Nat.le_trans hb.size hle1
  replace hb := hb.trans (Below.mono he1 hb.size)
  refine sqv hf (r_assign rfl) rfl rfl rfl ?_; clear hf fa; intro fa hf
  apply wpList_nil
  (try simp only [Exit.then, Exit.inBlock, ↓reduceIte, Nat.reduceEqDiff])
  refine hK1 _ _ ?_
  refine wp_seq_k (fun K2 hK2 => ?_)
  refine wp_seq_k (fun K3 hK3 => ?_)
  refine wp_region_lit ?_
  refine sqv hf (r_move rfl) rfl rfl rfl ?_; clear hf fa; intro fa hf
  refine sqv hf (r_lensl rfl Try.underlying45) rfl rfl rfl ?_; clear hf fa; intro fa hf
  refine sqv hf (r_move rfl) rfl rfl rfl ?_; clear hf fa; intro fa hf
  apply wpList_nil
  (try simp only [Exit.then, Exit.inBlock, ↓reduceIte, Nat.reduceEqDiff])
  refine hK3 _ _ ?_
  refine wp_block ?_
  refine wp_loop_k (fun mq fa wr => ∃ (k : Nat), mq = n - k ∧ Fr 31 fa [(1, (.string nm)), (5, (.pointer (some ⟨b1, 0, none⟩))), (11, (.slice a n c)), (12, (.int .i64 ((n : Nat) : Int))), (13, (.int .i64 ((k : Nat) : Int)))] ∧ Below w.heap.size w wr ∧ wr.heap[b1]? = some (.cells #[(.string ⟨#[]⟩), (.int .u8 (0 : Int)), (.int .u32 (0 : Int))] 94 (0, 0)) ∧ (k ≤ n) ∧ (findU nm l 0 = findU nm (l.drop k) k)) ?_ ?_
  · skip
    exact ⟨_, 0, rfl, hf.sub ⟨rfl, rfl, rfl, rfl, (some_int (by first | rfl | omega)), trivial⟩, hb, hk1, by omega, rfl⟩
  · skip
    clear hf fa; intro mq1 fa w2 hI KL1 hKL1
    clear hb
    clear hk1
    obtain ⟨k, hmq1, hf, hb, hkb1, hk, Hs⟩ := hI
    refine wp_seq_k (fun K4 hK4 => ?_)
    refine wp_region_lit ?_
    refine sqv hf (r_lt rfl rfl) rfl rfl rfl ?_; clear hf fa; intro fa hf
    apply wpList_nil
    (try simp only [Exit.then, Exit.inBlock, ↓reduceIte, Nat.reduceEqDiff])
    refine hK4 _ _ ?_
    refine wp_seq_k (fun K5 hK5 => ?_)
    refine wp_cond_split (t := (decide (((k : Nat) : Int) < ((n : Nat) : Int)))) (hf.ev rfl) (fun hqt14_1 => ?_) (fun hqt14_1 => ?_)
    · have hqt14_1b := hqt14_1
      try simp only [decide_eq_true_eq, Bool.and_eq_true, Bool.or_eq_true, Bool.not_eq_true', decide_eq_false_iff_not, ne_eq, Bool.not_eq_true] at hqt14_1
      refine wp_skip ?_
      (try simp only [Exit.then, Exit.inBlock, ↓reduceIte, Nat.reduceEqDiff])
      refine hK5 _ _ ?_
      refine wp_seq_k (fun K6 hK6 => ?_)
      refine wp_block ?_
      refine wp_seq_k (fun K7 hK7 => ?_)
      refine wp_region_lit ?_
      refine sqv hf (r_move rfl) rfl rfl rfl ?_; clear hf fa; intro fa hf
      obtain ⟨y1, hy1⟩ : ∃ x, (l)[k]? = some x := ⟨_, List.getElem?_eq_getElem (by (try simp only [Sl.list_length]); omega)⟩
      obtain ⟨ab1, aoff1, rfl, hlb1, hel1⟩ := RdS.at hl hy1
      refine sqv hf (r_ixa (sz := 18) (j := k) rfl rfl Try.underlying45 (by kernel_rfl) rfl (by omega) rfl) rfl rfl rfl ?_; clear hf fa; intro fa hf
      refine sqv hf (r_loadA (cs := [(.string y1.1), (.slice y1.2.1.1.at' y1.2.1.1.len y1.2.1.1.cap), (.slice y1.2.1.2.1.at' y1.2.1.2.1.len y1.2.1.2.1.cap), (.slice y1.2.1.2.2.1.at' y1.2.1.2.2.1.len y1.2.1.2.2.1.cap), (.slice y1.2.1.2.2.2.1.at' y1.2.1.2.2.2.1.len y1.2.1.2.2.2.1.cap), (.slice y1.2.1.2.2.2.2.1.at' y1.2.1.2.2.2.2.1.len y1.2.1.2.2.2.2.1.cap), (.slice y1.2.1.2.2.2.2.2.1.at' y1.2.1.2.2.2.2.2.1.len y1.2.1.2.2.2.2.2.1.cap), (.slice y1.2.1.2.2.2.2.2.2.1.at' y1.2.1.2.2.2.2.2.2.1.len y1.2.1.2.2.2.2.2.2.1.cap), (.int .i64 y1.2.1.2.2.2.2.2.2.2.1), (.slice y1.2.1.2.2.2.2.2.2.2.2.1.at' y1.2.1.2.2.2.2.2.2.2.2.1.len y1.2.1.2.2.2.2.2.2.2.2.1.cap), (.slice y1.2.1.2.2.2.2.2.2.2.2.2.1.at' y1.2.1.2.2.2.2.2.2.2.2.2.1.len y1.2.1.2.2.2.2.2.2.2.2.2.1.cap), (.slice y1.2.1.2.2.2.2.2.2.2.2.2.2.1.at' y1.2.1.2.2.2.2.2.2.2.2.2.2.1.len y1.2.1.2.2.2.2.2.2.2.2.2.2.1.cap), (.bool y1.2.1.2.2.2.2.2.2.2.2.2.2.2.1.1), (.int .u32 y1.2.1.2.2.2.2.2.2.2.2.2.2.2.1.2.1), (.int .u32 y1.2.1.2.2.2.2.2.2.2.2.2.2.2.1.2.2.1), (.int .u32 y1.2.1.2.2.2.2.2.2.2.2.2.2.2.1.2.2.2.1), (.int .u32 y1.2.1.2.2.2.2.2.2.2.2.2.2.2.1.2.2.2.2.1), (.slice y1.2.1.2.2.2.2.2.2.2.2.2.2.2.1.2.2.2.2.2.1.at' y1.2.1.2.2.2.2.2.2.2.2.2.2.2.1.2.2.2.2.2.1.len y1.2.1.2.2.2.2.2.2.2.2.2.2.2.1.2.2.2.2.2.1.cap)]) rfl Try.underlying132 rfl (by kernel_rfl) (cellsAt_below hel1 hb hlb1)) rfl rfl rfl ?_; clear hf fa; intro fa hf
      refine sqdt hf (d_alloc (z := (.agg #[(.string ⟨#[]⟩), (.slice none 0 0), (.slice none 0 0), (.slice none 0 0), (.slice none 0 0), (.slice none 0 0), (.slice none 0 0), (.slice none 0 0), (.int .i64 (0 : Int)), (.slice none 0 0), (.slice none 0 0), (.slice none 0 0), (.bool false), (.int .u32 (0 : Int)), (.int .u32 (0 : Int)), (.int .u32 (0 : Int)), (.int .u32 (0 : Int)), (.slice none 0 0)])) (cs := #[(.string ⟨#[]⟩), (.slice none 0 0), (.slice none 0 0), (.slice none 0 0), (.slice none 0 0), (.slice none 0 0), (.slice none 0 0), (.slice none 0 0), (.int .i64 (0 : Int)), (.slice none 0 0), (.slice none 0 0), (.slice none 0 0), (.bool false), (.int .u32 (0 : Int)), (.int .u32 (0 : Int)), (.int .u32 (0 : Int)), (.int .u32 (0 : Int)), (.slice none 0 0)]) (by kernel_rfl) rfl) rfl rfl rfl ?_; clear hf fa; rintro fa _ w3 ⟨b2, rfl, hle2, hk2, he2⟩ hf
      have hBb2 : w.heap.size ≤ b2 := Nat.le_trans hb.size hle2
      have : b1 < b2 := Nat.lt_of_lt_of_le (blk_lt hkb1) hle2
      replace hkb1 := blk_ext hkb1 he2
      replace hb := hb.trans (Below.mono he2 hb.size)
      refine sqv hf (r_assign rfl) rfl rfl rfl ?_; clear hf fa; intro fa hf
      refine sqn hf (d_storeK (T := 132) (v := (.agg #[(.string y1.1), (.slice y1.2.1.1.at' y1.2.1.1.len y1.2.1.1.cap), (.slice y1.2.1.2.1.at' y1.2.1.2.1.len y1.2.1.2.1.cap), (.slice y1.2.1.2.2.1.at' y1.2.1.2.2.1.len y1.2.1.2.2.1.cap), (.slice y1.2.1.2.2.2.1.at' y1.2.1.2.2.2.1.len y1.2.1.2.2.2.1.cap), (.slice y1.2.1.2.2.2.2.1.at' y1.2.1.2.2.2.2.1.len y1.2.1.2.2.2.2.1.cap), (.slice y1.2.1.2.2.2.2.2.1.at' y1.2.1.2.2.2.2.2.1.len y1.2.1.2.2.2.2.2.1.cap), (.slice y1.2.1.2.2.2.2.2.2.1.at' y1.2.1.2.2.2.2.2.2.1.len y1.2.1.2.2.2.2.2.2.1.cap), (.int .i64 y1.2.1.2.2.2.2.2.2.2.1), (.slice y1.2.1.2.2.2.2.2.2.2.2.1.at' y1.2.1.2.2.2.2.2.2.2.2.1.len y1.2.1.2.2.2.2.2.2.2.2.1.cap), (.slice y1.2.1.2.2.2.2.2.2.2.2.2.1.at' y1.2.1.2.2.2.2.2.2.2.2.2.1.len y1.2.1.2.2.2.2.2.2.2.2.2.1.cap), (.slice y1.2.1.2.2.2.2.2.2.2.2.2.2.1.at' y1.2.1.2.2.2.2.2.2.2.2.2.2.1.len y1.2.1.2.2.2.2.2.2.2.2.2.2.1.cap), (.bool y1.2.1.2.2.2.2.2.2.2.2.2.2.2.1.1), (.int .u32 y1.2.1.2.2.2.2.2.2.2.2.2.2.2.1.2.1), (.int .u32 y1.2.1.2.2.2.2.2.2.2.2.2.2.2.1.2.2.1), (.int .u32 y1.2.1.2.2.2.2.2.2.2.2.2.2.2.1.2.2.2.1), (.int .u32 y1.2.1.2.2.2.2.2.2.2.2.2.2.2.1.2.2.2.2.1), (.slice y1.2.1.2.2.2.2.2.2.2.2.2.2.2.1.2.2.2.2.2.1.at' y1.2.1.2.2.2.2.2.2.2.2.2.2.2.1.2.2.2.2.2.1.len y1.2.1.2.2.2.2.2.2.2.2.2.2.2.1.2.2.2.2.2.1.cap)])) (cs := #[(.string ⟨#[]⟩), (.slice none 0 0), (.slice none 0 0), (.slice none 0 0), (.slice none 0 0), (.slice none 0 0), (.slice none 0 0), (.slice none 0 0), (.int .i64 (0 : Int)), (.slice none 0 0), (.slice none 0 0), (.slice none 0 0), (.bool false), (.int .u32 (0 : Int)), (.int .u32 (0 : Int)), (.int .u32 (0 : Int)), (.int .u32 (0 : Int)), (.slice none 0 0)]) (cs' := #[(.string y1.1), (.slice y1.2.1.1.at' y1.2.1.1.len y1.2.1.1.cap), (.slice y1.2.1.2.1.at' y1.2.1.2.1.len y1.2.1.2.1.cap), (.slice y1.2.1.2.2.1.at' y1.2.1.2.2.1.len y1.2.1.2.2.1.cap), (.slice y1.2.1.2.2.2.1.at' y1.2.1.2.2.2.1.len y1.2.1.2.2.2.1.cap), (.slice y1.2.1.2.2.2.2.1.at' y1.2.1.2.2.2.2.1.len y1.2.1.2.2.2.2.1.cap), (.slice y1.2.1.2.2.2.2.2.1.at' y1.2.1.2.2.2.2.2.1.len y1.2.1.2.2.2.2.2.1.cap), (.slice y1.2.1.2.2.2.2.2.2.1.at' y1.2.1.2.2.2.2.2.2.1.len y1.2.1.2.2.2.2.2.2.1.cap), (.int .i64 y1.2.1.2.2.2.2.2.2.2.1), (.slice y1.2.1.2.2.2.2.2.2.2.2.1.at' y1.2.1.2.2.2.2.2.2.2.2.1.len y1.2.1.2.2.2.2.2.2.2.2.1.cap), (.slice y1.2.1.2.2.2.2.2.2.2.2.2.1.at' y1.2.1.2.2.2.2.2.2.2.2.2.1.len y1.2.1.2.2.2.2.2.2.2.2.2.1.cap), (.slice y1.2.1.2.2.2.2.2.2.2.2.2.2.1.at' y1.2.1.2.2.2.2.2.2.2.2.2.2.1.len y1.2.1.2.2.2.2.2.2.2.2.2.2.1.cap), (.bool y1.2.1.2.2.2.2.2.2.2.2.2.2.2.1.1), (.int .u32 y1.2.1.2.2.2.2.2.2.2.2.2.2.2.1.2.1), (.int .u32 y1.2.1.2.2.2.2.2.2.2.2.2.2.2.1.2.2.1), (.int .u32 y1.2.1.2.2.2.2.2.2.2.2.2.2.2.1.2.2.2.1), (.int .u32 y1.2.1.2.2.2.2.2.2.2.2.2.2.2.1.2.2.2.2.1), (.slice y1.2.1.2.2.2.2.2.2.2.2.2.2.2.1.2.2.2.2.2.1.at' y1.2.1.2.2.2.2.2.2.2.2.2.2.2.1.2.2.2.2.2.1.len y1.2.1.2.2.2.2.2.2.2.2.2.2.2.1.2.2.2.2.2.1.cap)]) rfl rfl (by kernel_rfl) (by kernel_rfl) hk2 (by kernel_rfl) (by kernel_rfl)) rfl rfl ?_; clear hf fa; rintro fa _ w4 ⟨hk3, hg1⟩ hf
      replace hkb1 := blk_grown hkb1 hg1 (by omega)
      replace hb := hb.trans (grown_below hg1 hb.size hBb2)
      apply wpList_nil
      (try simp only [Exit.then, Exit.inBlock, ↓reduceIte, Nat.reduceEqDiff])
      refine hK7 _ _ ?_
      refine wp_seq_k (fun K8 hK8 => ?_)
      refine wp_region_lit ?_
      refine sqv hf (r_fa rfl Try.underlying132 (f := 1) (q := 1) rfl (by kernel_rfl) rfl) rfl rfl rfl ?_; clear hf fa; intro fa hf
      refine sqv hf (r_fa rfl Try.underlying67 (f := 6) (q := 7) rfl (by kernel_rfl) rfl) rfl rfl rfl ?_; clear hf fa; intro fa hf
      refine sqv hf (r_load (v := (.slice y1.2.1.2.2.2.2.2.2.1.at' y1.2.1.2.2.2.2.2.2.1.len y1.2.1.2.2.2.2.2.2.1.cap)) rfl Try.underlying60 rfl (cell_blk hk3 rfl)) rfl rfl rfl ?_; clear hf fa; intro fa hf
      refine sqv hf (r_move rfl) rfl rfl rfl ?_; clear hf fa; intro fa hf
      refine sqdt hf (d_callB (vs := [(.slice y1.2.1.2.2.2.2.2.2.1.at' y1.2.1.2.2.2.2.2.2.1.len y1.2.1.2.2.2.2.2.2.1.cap), (.string nm)]) rfl Try.func70 (by kernel_rfl) (by kernel_rfl) (findE_any y1.2.1.2.2.2.2.2.2.1.list nm _ _ _ _ (RdS.ext (hF _ (List.mem_of_getElem? hy1)).1 hb) (Sl.list_length _) (hF _ (List.mem_of_getElem? hy1)).2)) rfl rfl rfl ?_; clear hf fa; rintro fa _ w5 ⟨rfl, he3⟩ hf
      replace hkb1 := blk_ext hkb1 he3
      replace hk3 := blk_ext hk3 he3
      replace hb := hb.trans (Below.mono he3 hb.size)
      refine sqv hf (r_move rfl) rfl rfl rfl ?_; clear hf fa; intro fa hf
      refine sqv hf (r_extract rfl (i := 0) rfl) rfl rfl rfl ?_; clear hf fa; intro fa hf
      refine sqv hf (r_extract rfl (i := 1) rfl) rfl rfl rfl ?_; clear hf fa; intro fa hf
      refine sqdt hf (d_alloc (z := (.agg #[(.string ⟨#[]⟩), (.int .u8 (0 : Int)), (.int .u32 (0 : Int))])) (cs := #[(.string ⟨#[]⟩), (.int .u8 (0 : Int)), (.int .u32 (0 : Int))]) (by kernel_rfl) rfl) rfl rfl rfl ?_; clear hf fa; rintro fa _ w6 ⟨b3, rfl, hle3, hk4, he4⟩ hf
      have hBb3 : w.heap.size ≤ b3 := Nat.le_trans hb.size hle3
      have : b1 < b3 := Nat.lt_of_lt_of_le (blk_lt hkb1) hle3
      have : b2 < b3 := Nat.lt_of_lt_of_le (blk_lt hk3) hle3
      replace hkb1 := blk_ext hkb1 he4
      replace hk3 := blk_ext hk3 he4
      replace hb := hb.trans (Below.mono he4 hb.size)
      refine sqn hf (d_storeK (T := 94) (v := (.agg #[(.string (findE nm y1.2.1.2.2.2.2.2.2.1.list).1.1), (.int .u8 ((findE nm y1.2.1.2.2.2.2.2.2.1.list).1.2.1)), (.int .u32 ((findE nm y1.2.1.2.2.2.2.2.2.1.list).1.2.2.1))])) (cs := #[(.string ⟨#[]⟩), (.int .u8 (0 : Int)), (.int .u32 (0 : Int))]) (cs' := #[(.string (findE nm y1.2.1.2.2.2.2.2.2.1.list).1.1), (.int .u8 ((findE nm y1.2.1.2.2.2.2.2.2.1.list).1.2.1)), (.int .u32 ((findE nm y1.2.1.2.2.2.2.2.2.1.list).1.2.2.1))]) rfl rfl (by kernel_rfl) (by kernel_rfl) hk4 (by kernel_rfl) (by kernel_rfl)) rfl rfl ?_; clear hf fa; rintro fa _ w7 ⟨hk5, hg2⟩ hf
      replace hkb1 := blk_grown hkb1 hg2 (by omega)
      replace hk3 := blk_grown hk3 hg2 (by omega)
      replace hb := hb.trans (grown_below hg2 hb.size hBb3)
      refine sqv hf (r_assign rfl) rfl rfl rfl ?_; clear hf fa; intro fa hf
      apply wpList_nil
      (try simp only [Exit.then, Exit.inBlock, ↓reduceIte, Nat.reduceEqDiff])
      refine hK8 _ _ ?_
      refine wp_seq_k (fun K9 hK9 => ?_)
      refine wp_region_lit ?_
      refine sqv hf (r_move rfl) rfl rfl rfl ?_; clear hf fa; intro fa hf
      apply wpList_nil
      (try simp only [Exit.then, Exit.inBlock, ↓reduceIte, Nat.reduceEqDiff])
      refine hK9 _ _ ?_
      refine wp_cond_split (t := (findE nm y1.2.1.2.2.2.2.2.2.1.list).2) (hf.ev rfl) (fun hqt26_1 => ?_) (fun hqt26_1 => ?_)
      · have hqt26_1b := hqt26_1
        try simp only [decide_eq_true_eq, Bool.and_eq_true, Bool.or_eq_true, Bool.not_eq_true', decide_eq_false_iff_not, ne_eq, Bool.not_eq_true] at hqt26_1
        refine wp_seq_k (fun K10 hK10 => ?_)
        refine wp_region_unT 4 (fun wc => (w7.grownBy wc (some b1) ∧ (wc.heap[b1]? = some (.cells #[(.string ⟨#[]⟩), (.int .u8 (0 : Int)), (.int .u32 (0 : Int))] 94 (0, 0)) ∨ wc.heap[b1]? = some (.cells #[(.string (findE nm y1.2.1.2.2.2.2.2.2.1.list).1.1), (.int .u8 ((findE nm y1.2.1.2.2.2.2.2.2.1.list).1.2.1)), (.int .u32 ((findE nm y1.2.1.2.2.2.2.2.2.1.list).1.2.2.1))] 94 (0, 0))))) (fun wa wc => ((w7.grownBy wa (some b1) ∧ (wa.heap[b1]? = some (.cells #[(.string ⟨#[]⟩), (.int .u8 (0 : Int)), (.int .u32 (0 : Int))] 94 (0, 0)) ∨ wa.heap[b1]? = some (.cells #[(.string (findE nm y1.2.1.2.2.2.2.2.2.1.list).1.1), (.int .u8 ((findE nm y1.2.1.2.2.2.2.2.2.1.list).1.2.1)), (.int .u32 ((findE nm y1.2.1.2.2.2.2.2.2.1.list).1.2.2.1))] 94 (0, 0)))) → (w7.grownBy wc (some b1) ∧ (wc.heap[b1]? = some (.cells #[(.string ⟨#[]⟩), (.int .u8 (0 : Int)), (.int .u32 (0 : Int))] 94 (0, 0)) ∨ wc.heap[b1]? = some (.cells #[(.string (findE nm y1.2.1.2.2.2.2.2.2.1.list).1.1), (.int .u8 ((findE nm y1.2.1.2.2.2.2.2.2.1.list).1.2.1)), (.int .u32 ((findE nm y1.2.1.2.2.2.2.2.2.1.list).1.2.2.1))] 94 (0, 0))))) ∧ wa.heap.size ≤ wc.heap.size ∧ (wa.heap[b1]? = some (.cells #[(.string (findE nm y1.2.1.2.2.2.2.2.2.1.list).1.1), (.int .u8 ((findE nm y1.2.1.2.2.2.2.2.2.1.list).1.2.1)), (.int .u32 ((findE nm y1.2.1.2.2.2.2.2.2.1.list).1.2.2.1))] 94 (0, 0)) → wc.heap[b1]? = some (.cells #[(.string (findE nm y1.2.1.2.2.2.2.2.2.1.list).1.1), (.int .u8 ((findE nm y1.2.1.2.2.2.2.2.2.1.list).1.2.1)), (.int .u32 ((findE nm y1.2.1.2.2.2.2.2.2.1.list).1.2.2.1))] 94 (0, 0))))
          (fun V => [(fun x _ => x = (.int .i64 ((k : Nat) : Int))), (fun x _ => x = (.agg #[(.string (findE nm y1.2.1.2.2.2.2.2.2.1.list).1.1), (.int .u8 ((findE nm y1.2.1.2.2.2.2.2.2.1.list).1.2.1)), (.int .u32 ((findE nm y1.2.1.2.2.2.2.2.2.1.list).1.2.2.1))])), (fun x _ => x = (.int .i64 ((k : Nat) : Int))), (fun _ wq => wq.heap[b1]? = some (.cells #[(.string (findE nm y1.2.1.2.2.2.2.2.2.1.list).1.1), (.int .u8 ((findE nm y1.2.1.2.2.2.2.2.2.1.list).1.2.1)), (.int .u32 ((findE nm y1.2.1.2.2.2.2.2.2.1.list).1.2.2.1))] 94 (0, 0)))])
          []
          [[], [], [0], [0, 1, 2], []]
          hf (by kernel_rfl) (by kernel_rfl) (by kernel_rfl) (fun _ => rfl) ⟨below_grown (Below.refl _ _).drew, .inl (blk_ext hkb1 (Below.refl _ _).drew)⟩ (fun a b h1 h2 => h2.1 h1) (fun _ _ h => h.2.1) (fun V => ⟨(fun _ _ _ h _ => h), (fun _ _ _ h _ => h), (fun _ _ _ h _ => h), (fun _ _ _ h hG => hG.2.2 h), trivial⟩) (fun _ _ _ _ _ => rfl) ?_ ?_
        · skip
          intro V
          refine ⟨fun wu0 hC hd => ?_, ?_⟩
          · clear hd
            have hgC := hC.1
            replace hk3 := blk_grown hk3 hgC (by omega)
            replace hk5 := blk_grown hk5 hgC (by omega)
            replace hb := hb.trans (grown_below hgC hb.size hBb1)
            exact Runs.does (r_move rfl) ⟨⟨id, Nat.le_refl _, id⟩, rfl, nofr rfl⟩
          refine ⟨fun wu1 hC hd => ?_, ?_⟩
          · clear hd
            have hgC := hC.1
            replace hk3 := blk_grown hk3 hgC (by omega)
            replace hk5 := blk_grown hk5 hgC (by omega)
            replace hb := hb.trans (grown_below hgC hb.size hBb1)
            exact Runs.does (r_loadA (cs := [(.string (findE nm y1.2.1.2.2.2.2.2.2.1.list).1.1), (.int .u8 ((findE nm y1.2.1.2.2.2.2.2.2.1.list).1.2.1)), (.int .u32 ((findE nm y1.2.1.2.2.2.2.2.2.1.list).1.2.2.1))]) rfl Try.underlying94 rfl (by kernel_rfl) (cellsAt_blk hk5)) ⟨⟨id, Nat.le_refl _, id⟩, rfl, nofr rfl⟩
          refine ⟨fun wu2 hC hd => ?_, ?_⟩
          · obtain ⟨h0, _⟩ := hd
            replace h0 : V 0 = (.int .i64 ((k : Nat) : Int)) := h0
            have hgC := hC.1
            replace hk3 := blk_grown hk3 hgC (by omega)
            replace hk5 := blk_grown hk5 hgC (by omega)
            replace hb := hb.trans (grown_below hgC hb.size hBb1)
            exact Runs.does (r_assign (congrArg some h0)) ⟨⟨id, Nat.le_refl _, id⟩, rfl, nofr rfl⟩
          refine ⟨fun wu3 hC hd => ?_, ?_⟩
          · obtain ⟨h0, h1, h2, _⟩ := hd
            replace h0 : V 0 = (.int .i64 ((k : Nat) : Int)) := h0
            replace h1 : V 1 = (.agg #[(.string (findE nm y1.2.1.2.2.2.2.2.2.1.list).1.1), (.int .u8 ((findE nm y1.2.1.2.2.2.2.2.2.1.list).1.2.1)), (.int .u32 ((findE nm y1.2.1.2.2.2.2.2.2.1.list).1.2.2.1))]) := h1
            replace h2 : V 2 = (.int .i64 ((k : Nat) : Int)) := h2
            have hgC := hC.1
            replace hk3 := blk_grown hk3 hgC (by omega)
            replace hk5 := blk_grown hk5 hgC (by omega)
            replace hb := hb.trans (grown_below hgC hb.size hBb1)
            rcases hC.2 with hX | hX
            · refine Does.mono (d_storeK (T := 94) (v := (.agg #[(.string (findE nm y1.2.1.2.2.2.2.2.2.1.list).1.1), (.int .u8 ((findE nm y1.2.1.2.2.2.2.2.2.1.list).1.2.1)), (.int .u32 ((findE nm y1.2.1.2.2.2.2.2.2.1.list).1.2.2.1))])) (cs := #[(.string ⟨#[]⟩), (.int .u8 (0 : Int)), (.int .u32 (0 : Int))]) (cs' := #[(.string (findE nm y1.2.1.2.2.2.2.2.2.1.list).1.1), (.int .u8 ((findE nm y1.2.1.2.2.2.2.2.2.1.list).1.2.1)), (.int .u32 ((findE nm y1.2.1.2.2.2.2.2.2.1.list).1.2.2.1))]) rfl (congrArg some h1) (by kernel_rfl) (by kernel_rfl) hX (by kernel_rfl) (by kernel_rfl)) ?_
              rintro _ wz ⟨hY, hgY⟩
              exact ⟨⟨fun _ => ⟨grownBy_trans hgC hgY, .inr hY⟩, hgY.size, fun _ => hY⟩, hY, nofr rfl⟩
            · refine Does.mono (d_storeK (T := 94) (v := (.agg #[(.string (findE nm y1.2.1.2.2.2.2.2.2.1.list).1.1), (.int .u8 ((findE nm y1.2.1.2.2.2.2.2.2.1.list).1.2.1)), (.int .u32 ((findE nm y1.2.1.2.2.2.2.2.2.1.list).1.2.2.1))])) (cs := #[(.string (findE nm y1.2.1.2.2.2.2.2.2.1.list).1.1), (.int .u8 ((findE nm y1.2.1.2.2.2.2.2.2.1.list).1.2.1)), (.int .u32 ((findE nm y1.2.1.2.2.2.2.2.2.1.list).1.2.2.1))]) (cs' := #[(.string (findE nm y1.2.1.2.2.2.2.2.2.1.list).1.1), (.int .u8 ((findE nm y1.2.1.2.2.2.2.2.2.1.list).1.2.1)), (.int .u32 ((findE nm y1.2.1.2.2.2.2.2.2.1.list).1.2.2.1))]) rfl (congrArg some h1) (by kernel_rfl) (by kernel_rfl) hX (by kernel_rfl) (by kernel_rfl)) ?_
              rintro _ wz ⟨hY, hgY⟩
              exact ⟨⟨fun _ => ⟨grownBy_trans hgC hgY, .inr hY⟩, hgY.size, fun _ => hY⟩, hY, nofr rfl⟩
          trivial
        · skip
          clear hf fa; intro V w8 fa he5 hp hnb hf
          have hg3 := he5.1
          have hv0 : V 0 = (.int .i64 ((k : Nat) : Int)) := postsHold_at hp 0 rfl
          have hv1 : V 1 = (.agg #[(.string (findE nm y1.2.1.2.2.2.2.2.2.1.list).1.1), (.int .u8 ((findE nm y1.2.1.2.2.2.2.2.2.1.list).1.2.1)), (.int .u32 ((findE nm y1.2.1.2.2.2.2.2.2.1.list).1.2.2.1))]) := postsHold_at hp 1 rfl
          have hv2 : V 2 = (.int .i64 ((k : Nat) : Int)) := postsHold_at hp 2 rfl
          have hk6 := postsHold_at hp 3 rfl
          simp only [List.take_succ_cons, List.take_zero, insAll, ins, hv0, hv1, hv2] at hf
          clear hp hnb hv0 hv1 hv2
          replace hk3 := blk_grown hk3 hg3 (by omega)
          replace hk5 := blk_grown hk5 hg3 (by omega)
          replace hb := hb.trans (grown_below hg3 hb.size hBb1)
          replace hk6 : w8.heap[b1]? = some (.cells #[(.string (findE nm y1.2.1.2.2.2.2.2.2.1.list).1.1), (.int .u8 ((findE nm y1.2.1.2.2.2.2.2.2.1.list).1.2.1)), (.int .u32 ((findE nm y1.2.1.2.2.2.2.2.2.1.list).1.2.2.1))] 94 (0, 0)) := hk6
          simp only [List.drop_succ_cons, List.drop_zero]
          refine sqv hf (r_assign rfl) rfl rfl rfl ?_; clear hf fa; intro fa hf
          apply wpList_nil
          (try simp only [Exit.then, Exit.inBlock, ↓reduceIte, Nat.reduceEqDiff])
          refine hK10 _ _ ?_
          refine wp_ret ?_
          (try simp only [Exit.then, Exit.inBlock])
          refine retTCT hf rfl rfl rfl hk6 Try.underlying94 rfl (by kernel_rfl) rfl ?_
          have hP : findU nm l 0 = (((k : Nat) : Int), (findE nm y1.2.1.2.2.2.2.2.2.1.list).1, true) := by rw [Hs, drop_at hy1, findU, if_pos hqt26_1]
          rw [hP]; exact ⟨rfl, hb⟩
      · have hqt26_1b := hqt26_1
        replace hqt26_1 := Bool.eq_false_iff.1 hqt26_1
        try simp only [ne_eq, decide_eq_true_eq, Bool.and_eq_true, Bool.or_eq_true, Bool.not_eq_true', decide_eq_false_iff_not] at hqt26_1
        refine wp_skip ?_
        (try simp only [Exit.then, Exit.inBlock, ↓reduceIte, Nat.reduceEqDiff])
        refine hK6 _ _ ?_
        refine wp_region_lit ?_
        refine sqv hf (r_add (C := (((k : Nat) : Int) + (1 : Int))) rfl rfl (by rw [IntKind.wrap_i64]; omega)) rfl rfl rfl ?_; clear hf fa; intro fa hf
        refine sqv hf (r_move rfl) rfl rfl rfl ?_; clear hf fa; intro fa hf
        apply wpList_nil
        (try simp only [Exit.then, Exit.inBlock, ↓reduceIte, Nat.reduceEqDiff])
        refine hKL1 _ _ _ (by omega) ⟨(k + 1), rfl, hf.sub ⟨rfl, rfl, rfl, rfl, (some_int (by first | rfl | omega)), trivial⟩, hb, hkb1, by omega, (by have h := Hs; rw [drop_at hy1, findU, if_neg hqt26_1] at h; exact h)⟩
    · have hqt14_1b := hqt14_1
      replace hqt14_1 := Bool.eq_false_iff.1 hqt14_1
      try simp only [ne_eq, decide_eq_true_eq, Bool.and_eq_true, Bool.or_eq_true, Bool.not_eq_true', decide_eq_false_iff_not] at hqt14_1
      refine wp_exit ?_
      (try simp only [Exit.then, Exit.inBlock, ↓reduceIte, Nat.reduceEqDiff])
      refine hK2 _ _ ?_
      refine wp_seq_k (fun K11 hK11 => ?_)
      refine wp_region_lit ?_
      refine sqv hf (r_build (vs := []) (cs := #[(.string ⟨#[]⟩), (.int .u8 (0 : Int)), (.int .u32 (0 : Int))]) rfl (fun _ => by kernel_rfl)) rfl rfl rfl ?_; clear hf fa; intro fa hf
      refine sqv hf (r_assign rfl) rfl rfl rfl ?_; clear hf fa; intro fa hf
      refine sqn hf (d_storeK (T := 94) (v := (.agg #[(.string ⟨#[]⟩), (.int .u8 (0 : Int)), (.int .u32 (0 : Int))])) (cs := #[(.string ⟨#[]⟩), (.int .u8 (0 : Int)), (.int .u32 (0 : Int))]) (cs' := #[(.string ⟨#[]⟩), (.int .u8 (0 : Int)), (.int .u32 (0 : Int))]) rfl rfl (by kernel_rfl) (by kernel_rfl) hkb1 (by kernel_rfl) (by kernel_rfl)) rfl rfl ?_; clear hf fa; rintro fa _ w9 ⟨hk7, hg4⟩ hf
      replace hb := hb.trans (grown_below hg4 hb.size hBb1)
      refine sqv hf (r_assign rfl) rfl rfl rfl ?_; clear hf fa; intro fa hf
      apply wpList_nil
      (try simp only [Exit.then, Exit.inBlock, ↓reduceIte, Nat.reduceEqDiff])
      refine hK11 _ _ ?_
      refine wp_ret ?_
      (try simp only [Exit.then, Exit.inBlock])
      refine retTCT hf rfl rfl rfl hk7 Try.underlying94 rfl (by kernel_rfl) rfl ?_
      have hP : findU nm l 0 = (0, zMExp, false) := by rw [Hs, List.drop_eq_nil_of_le (by omega), findU]
      rw [hP]; exact ⟨rfl, hb⟩

set_option maxHeartbeats 1000000 in
set_option maxRecDepth 100000 in
theorem units_any (d : Sl MMd) (w : World) (g : fSlW 17 296 vMMd fMMd w d) : Calls Try.prog 27 #[(.slice d.at' d.len d.cap)] w fun e w' => ∃ v, e = .returned v ∧ (∃ a c b l, v = .tuple #[.slice a l.length c, .bool b] ∧ (b = true → l.length = d.len ∧ d.len ≤ 6 ∧ (∀ (j : Nat) (m : MMd), d.list[j]? = some m → l[j]? = some (unitU j m)) ∧ ∀ m ∈ d.list, smallP m) ∧ Row 18 vMUn 132 w.heap.size w' (.slice a l.length c) l ∧ Below w.heap.size w w') := by
  refine sx_enter (L := [(0, (.slice d.at' d.len d.cap))]) Try.func27 rfl rfl rfl rfl (fun fa hf => ?_)
  have hb : Below w.heap.size w w := Below.refl _ _
  refine wp_seq_k (fun K1 hK1 => ?_)
  refine wp_region_lit ?_
  refine sqv hf (r_assign rfl) rfl rfl rfl ?_; clear hf fa; intro fa hf
  refine sqv hf (r_assign rfl) rfl rfl rfl ?_; clear hf fa; intro fa hf
  apply wpList_nil
  (try simp only [Exit.then, Exit.inBlock, ↓reduceIte, Nat.reduceEqDiff])
  refine hK1 _ _ ?_
  refine wp_seq_k (fun K2 hK2 => ?_)
  refine wp_region_lit ?_
  refine sqv hf (r_assign rfl) rfl rfl rfl ?_; clear hf fa; intro fa hf
  apply wpList_nil
  (try simp only [Exit.then, Exit.inBlock, ↓reduceIte, Nat.reduceEqDiff])
  refine hK2 _ _ ?_
  refine wp_seq_k (fun K3 hK3 => ?_)
  refine wp_seq_k (fun K4 hK4 => ?_)
  refine wp_region_lit ?_
  refine sqv hf (r_move rfl) rfl rfl rfl ?_; clear hf fa; intro fa hf
  refine sqv hf (r_lensl rfl Try.underlying43) rfl rfl rfl ?_; clear hf fa; intro fa hf
  refine sqv hf (r_gt rfl rfl) rfl rfl rfl ?_; clear hf fa; intro fa hf
  apply wpList_nil
  (try simp only [Exit.then, Exit.inBlock, ↓reduceIte, Nat.reduceEqDiff])
  refine hK4 _ _ ?_
  refine wp_cond_split (t := (decide ((6 : Int) < ((d.len : Nat) : Int)))) (hf.ev rfl) (fun hqt8_1 => ?_) (fun hqt8_1 => ?_)
  · have hqt8_1b := hqt8_1
    try simp only [decide_eq_true_eq, Bool.and_eq_true, Bool.or_eq_true, Bool.not_eq_true', decide_eq_false_iff_not, ne_eq, Bool.not_eq_true] at hqt8_1
    refine wp_seq_k (fun K5 hK5 => ?_)
    refine wp_region_lit ?_
    refine sqv hf (r_assign rfl) rfl rfl rfl ?_; clear hf fa; intro fa hf
    refine sqv hf (r_assign rfl) rfl rfl rfl ?_; clear hf fa; intro fa hf
    apply wpList_nil
    (try simp only [Exit.then, Exit.inBlock, ↓reduceIte, Nat.reduceEqDiff])
    refine hK5 _ _ ?_
    refine wp_ret ?_
    (try simp only [Exit.then, Exit.inBlock])
    refine ret2 hf rfl rfl rfl ?_
    exact ⟨_, rfl, none, 0, false, [], rfl, (fun h => by cases h), Row.nil, hb⟩
  · have hqt8_1b := hqt8_1
    replace hqt8_1 := Bool.eq_false_iff.1 hqt8_1
    try simp only [ne_eq, decide_eq_true_eq, Bool.and_eq_true, Bool.or_eq_true, Bool.not_eq_true', decide_eq_false_iff_not] at hqt8_1
    refine wp_skip ?_
    (try simp only [Exit.then, Exit.inBlock, ↓reduceIte, Nat.reduceEqDiff])
    refine hK3 _ _ ?_
    refine wp_seq_k (fun K6 hK6 => ?_)
    refine wp_seq_k (fun K7 hK7 => ?_)
    refine wp_region_lit ?_
    refine sqv hf (r_assign rfl) rfl rfl rfl ?_; clear hf fa; intro fa hf
    apply wpList_nil
    (try simp only [Exit.then, Exit.inBlock, ↓reduceIte, Nat.reduceEqDiff])
    refine hK7 _ _ ?_
    refine wp_block ?_
    refine wp_loop_k (fun mq fa wr => ∃ (k : Nat) (xs : List MUn) (rua : Option Addr) (ruc : Nat), mq = d.len - k ∧ Fr 35 fa [(0, (.slice d.at' d.len d.cap)), (5, (.int .i64 ((k : Nat) : Int))), (4, (.slice rua xs.length ruc))] ∧ Below w.heap.size w wr ∧ Row 18 vMUn 132 (w.heap.size) wr (.slice rua (xs.length) ruc) xs ∧ (k ≤ d.len) ∧ (∀ (j : Nat) (m : MMd), j < k → d.list[j]? = some m → xs[j]? = some (unitU j m)) ∧ (xs.length = k) ∧ (∀ (j : Nat) (m : MMd), j < k → d.list[j]? = some m → smallP m)) ?_ ?_
    · skip
      exact ⟨_, 0, [], none, 0, rfl, hf.sub ⟨rfl, (some_int (by first | rfl | omega)), (some_sl (by simp <;> omega) rfl), trivial⟩, hb, Row.nil, by omega, (by intro j m hj; omega), rfl, (by intro j m hj; omega)⟩
    · skip
      clear hf fa; intro mq1 fa w1 hI KL1 hKL1
      clear hb
      obtain ⟨k, xs, rua, ruc, hmq1, hf, hb, hru, hk, hx, hxl, hsm⟩ := hI
      have hcru := Row.caps hru
      refine wp_seq_k (fun K8 hK8 => ?_)
      refine wp_seq_k (fun K9 hK9 => ?_)
      refine wp_region_lit ?_
      refine sqv hf (r_move rfl) rfl rfl rfl ?_; clear hf fa; intro fa hf
      refine sqv hf (r_move rfl) rfl rfl rfl ?_; clear hf fa; intro fa hf
      refine sqv hf (r_lensl rfl Try.underlying43) rfl rfl rfl ?_; clear hf fa; intro fa hf
      refine sqv hf (r_lt rfl rfl) rfl rfl rfl ?_; clear hf fa; intro fa hf
      apply wpList_nil
      (try simp only [Exit.then, Exit.inBlock, ↓reduceIte, Nat.reduceEqDiff])
      refine hK9 _ _ ?_
      refine wp_cond_split (t := (decide (((k : Nat) : Int) < ((d.len : Nat) : Int)))) (hf.ev rfl) (fun hqt12_1 => ?_) (fun hqt12_1 => ?_)
      · have hqt12_1b := hqt12_1
        try simp only [decide_eq_true_eq, Bool.and_eq_true, Bool.or_eq_true, Bool.not_eq_true', decide_eq_false_iff_not, ne_eq, Bool.not_eq_true] at hqt12_1
        refine wp_skip ?_
        (try simp only [Exit.then, Exit.inBlock, ↓reduceIte, Nat.reduceEqDiff])
        refine hK8 _ _ ?_
        refine wp_seq_k (fun K10 hK10 => ?_)
        refine wp_block ?_
        refine wp_seq_k (fun K11 hK11 => ?_)
        refine wp_seq_k (fun K12 hK12 => ?_)
        refine wp_region_lit ?_
        refine sqv hf (r_move rfl) rfl rfl rfl ?_; clear hf fa; intro fa hf
        refine sqv hf (r_move rfl) rfl rfl rfl ?_; clear hf fa; intro fa hf
        obtain ⟨y1, hy1⟩ : ∃ x, (d.list)[k]? = some x := ⟨_, List.getElem?_eq_getElem (by (try simp only [Sl.list_length]); omega)⟩
        obtain ⟨ab1, aoff1, hat1, hlb1, hel1⟩ := RdS.at (RdS.of_arg g.2) hy1
        refine sqv hf (r_ixa (sz := 17) (j := k) (evAt rfl hat1) rfl Try.underlying43 (by kernel_rfl) rfl (by omega) rfl) rfl rfl rfl ?_; clear hf fa; intro fa hf
        refine sqv hf (r_loadA (cs := [(.slice y1.1.at' y1.1.len y1.1.cap), (.slice y1.2.1.at' y1.2.1.len y1.2.1.cap), (.slice y1.2.2.1.at' y1.2.2.1.len y1.2.2.1.cap), (.slice y1.2.2.2.1.at' y1.2.2.2.1.len y1.2.2.2.1.cap), (.slice y1.2.2.2.2.1.at' y1.2.2.2.2.1.len y1.2.2.2.2.1.cap), (.slice y1.2.2.2.2.2.1.at' y1.2.2.2.2.2.1.len y1.2.2.2.2.2.1.cap), (.slice y1.2.2.2.2.2.2.1.at' y1.2.2.2.2.2.2.1.len y1.2.2.2.2.2.2.1.cap), (.int .i64 y1.2.2.2.2.2.2.2.1), (.slice y1.2.2.2.2.2.2.2.2.1.at' y1.2.2.2.2.2.2.2.2.1.len y1.2.2.2.2.2.2.2.2.1.cap), (.slice y1.2.2.2.2.2.2.2.2.2.1.at' y1.2.2.2.2.2.2.2.2.2.1.len y1.2.2.2.2.2.2.2.2.2.1.cap), (.slice y1.2.2.2.2.2.2.2.2.2.2.1.at' y1.2.2.2.2.2.2.2.2.2.2.1.len y1.2.2.2.2.2.2.2.2.2.2.1.cap), (.bool y1.2.2.2.2.2.2.2.2.2.2.2.1.1), (.int .u32 y1.2.2.2.2.2.2.2.2.2.2.2.1.2.1), (.int .u32 y1.2.2.2.2.2.2.2.2.2.2.2.1.2.2.1), (.int .u32 y1.2.2.2.2.2.2.2.2.2.2.2.1.2.2.2.1), (.int .u32 y1.2.2.2.2.2.2.2.2.2.2.2.1.2.2.2.2.1), (.slice y1.2.2.2.2.2.2.2.2.2.2.2.1.2.2.2.2.2.1.at' y1.2.2.2.2.2.2.2.2.2.2.2.1.2.2.2.2.2.1.len y1.2.2.2.2.2.2.2.2.2.2.2.1.2.2.2.2.2.1.cap)]) rfl Try.underlying67 rfl (by kernel_rfl) (cellsAt_below hel1 hb hlb1)) rfl rfl rfl ?_; clear hf fa; intro fa hf
        refine sqdt hf (d_callX (vs := [(.agg #[(.slice y1.1.at' y1.1.len y1.1.cap), (.slice y1.2.1.at' y1.2.1.len y1.2.1.cap), (.slice y1.2.2.1.at' y1.2.2.1.len y1.2.2.1.cap), (.slice y1.2.2.2.1.at' y1.2.2.2.1.len y1.2.2.2.1.cap), (.slice y1.2.2.2.2.1.at' y1.2.2.2.2.1.len y1.2.2.2.2.1.cap), (.slice y1.2.2.2.2.2.1.at' y1.2.2.2.2.2.1.len y1.2.2.2.2.2.1.cap), (.slice y1.2.2.2.2.2.2.1.at' y1.2.2.2.2.2.2.1.len y1.2.2.2.2.2.2.1.cap), (.int .i64 y1.2.2.2.2.2.2.2.1), (.slice y1.2.2.2.2.2.2.2.2.1.at' y1.2.2.2.2.2.2.2.2.1.len y1.2.2.2.2.2.2.2.2.1.cap), (.slice y1.2.2.2.2.2.2.2.2.2.1.at' y1.2.2.2.2.2.2.2.2.2.1.len y1.2.2.2.2.2.2.2.2.2.1.cap), (.slice y1.2.2.2.2.2.2.2.2.2.2.1.at' y1.2.2.2.2.2.2.2.2.2.2.1.len y1.2.2.2.2.2.2.2.2.2.2.1.cap), (.bool y1.2.2.2.2.2.2.2.2.2.2.2.1.1), (.int .u32 y1.2.2.2.2.2.2.2.2.2.2.2.1.2.1), (.int .u32 y1.2.2.2.2.2.2.2.2.2.2.2.1.2.2.1), (.int .u32 y1.2.2.2.2.2.2.2.2.2.2.2.1.2.2.2.1), (.int .u32 y1.2.2.2.2.2.2.2.2.2.2.2.1.2.2.2.2.1), (.slice y1.2.2.2.2.2.2.2.2.2.2.2.1.2.2.2.2.2.1.at' y1.2.2.2.2.2.2.2.2.2.2.2.1.2.2.2.2.2.1.len y1.2.2.2.2.2.2.2.2.2.2.2.1.2.2.2.2.2.1.cap)])]) rfl Try.func32 (by kernel_rfl) (by kernel_rfl) (small_any y1 _ (rdMMd.kept _ _ _ hb (fSl_el g.2 hy1)))) rfl rfl rfl ?_; clear hf fa; rintro fa _ w2 ⟨sb1, rfl, hfx1, he1⟩ hf
        replace hru := Row.ext hru he1
        replace hb := hb.trans (Below.mono he1 hb.size)
        refine sqv hf (r_not rfl) rfl rfl rfl ?_; clear hf fa; intro fa hf
        apply wpList_nil
        (try simp only [Exit.then, Exit.inBlock, ↓reduceIte, Nat.reduceEqDiff])
        refine hK12 _ _ ?_
        refine wp_cond_split (t := (!sb1)) (hf.ev rfl) (fun hqt20_1 => ?_) (fun hqt20_1 => ?_)
        · have hqt20_1b := hqt20_1
          try simp only [decide_eq_true_eq, Bool.and_eq_true, Bool.or_eq_true, Bool.not_eq_true', decide_eq_false_iff_not, ne_eq, Bool.not_eq_true] at hqt20_1
          refine wp_seq_k (fun K13 hK13 => ?_)
          refine wp_region_lit ?_
          refine sqv hf (r_assign rfl) rfl rfl rfl ?_; clear hf fa; intro fa hf
          refine sqv hf (r_assign rfl) rfl rfl rfl ?_; clear hf fa; intro fa hf
          apply wpList_nil
          (try simp only [Exit.then, Exit.inBlock, ↓reduceIte, Nat.reduceEqDiff])
          refine hK13 _ _ ?_
          refine wp_ret ?_
          (try simp only [Exit.then, Exit.inBlock])
          refine ret2 hf rfl rfl rfl ?_
          exact ⟨_, rfl, none, 0, false, [], rfl, (fun h => by cases h), Row.nil, hb⟩
        · have hqt20_1b := hqt20_1
          replace hqt20_1 := Bool.eq_false_iff.1 hqt20_1
          try simp only [ne_eq, decide_eq_true_eq, Bool.and_eq_true, Bool.or_eq_true, Bool.not_eq_true', decide_eq_false_iff_not] at hqt20_1
          refine wp_skip ?_
          (try simp only [Exit.then, Exit.inBlock, ↓reduceIte, Nat.reduceEqDiff])
          refine hK11 _ _ ?_
          refine wp_region_unT 12 (fun wq => Below w2.heap.size w2 wq) (fun w w' => Below w.heap.size w w')
            (fun V => [(fun x _ => x = (.slice rua xs.length ruc)), (fun x _ => x = (.int .i64 ((k : Nat) : Int))), (fun x _ => x = (.int .i64 ((97 : Int) + ((k : Nat) : Int)))), (fun x _ => x = (.int .u8 ((97 : Int) + ((k : Nat) : Int)))), (fun x wq => ∃ b, x = .slice (some ⟨b, 0, none⟩) 1 1 ∧ w2.heap.size ≤ b ∧ wq.heap[b]? = some (.cells #[(.int .u8 ((97 : Int) + ((k : Nat) : Int)))] 5 (0, 0))), (fun x _ => x = (.string (strOfNums [((97 : Int) + ((k : Nat) : Int))]))), (fun x _ => x = (.slice d.at' d.len d.cap)), (fun x _ => x = (.int .i64 ((k : Nat) : Int))), (fun x _ => x = (.pointer (some ⟨ab1, (aoff1 + k * 17), none⟩))), (fun x _ => x = (.agg #[(.slice y1.1.at' y1.1.len y1.1.cap), (.slice y1.2.1.at' y1.2.1.len y1.2.1.cap), (.slice y1.2.2.1.at' y1.2.2.1.len y1.2.2.1.cap), (.slice y1.2.2.2.1.at' y1.2.2.2.1.len y1.2.2.2.1.cap), (.slice y1.2.2.2.2.1.at' y1.2.2.2.2.1.len y1.2.2.2.2.1.cap), (.slice y1.2.2.2.2.2.1.at' y1.2.2.2.2.2.1.len y1.2.2.2.2.2.1.cap), (.slice y1.2.2.2.2.2.2.1.at' y1.2.2.2.2.2.2.1.len y1.2.2.2.2.2.2.1.cap), (.int .i64 y1.2.2.2.2.2.2.2.1), (.slice y1.2.2.2.2.2.2.2.2.1.at' y1.2.2.2.2.2.2.2.2.1.len y1.2.2.2.2.2.2.2.2.1.cap), (.slice y1.2.2.2.2.2.2.2.2.2.1.at' y1.2.2.2.2.2.2.2.2.2.1.len y1.2.2.2.2.2.2.2.2.2.1.cap), (.slice y1.2.2.2.2.2.2.2.2.2.2.1.at' y1.2.2.2.2.2.2.2.2.2.2.1.len y1.2.2.2.2.2.2.2.2.2.2.1.cap), (.bool y1.2.2.2.2.2.2.2.2.2.2.2.1.1), (.int .u32 y1.2.2.2.2.2.2.2.2.2.2.2.1.2.1), (.int .u32 y1.2.2.2.2.2.2.2.2.2.2.2.1.2.2.1), (.int .u32 y1.2.2.2.2.2.2.2.2.2.2.2.1.2.2.2.1), (.int .u32 y1.2.2.2.2.2.2.2.2.2.2.2.1.2.2.2.2.1), (.slice y1.2.2.2.2.2.2.2.2.2.2.2.1.2.2.2.2.2.1.at' y1.2.2.2.2.2.2.2.2.2.2.2.1.2.2.2.2.2.1.len y1.2.2.2.2.2.2.2.2.2.2.2.1.2.2.2.2.2.1.cap)])), (fun x _ => x = (.agg #[(.string (strOfNums [((97 : Int) + ((k : Nat) : Int))])), (.slice y1.1.at' y1.1.len y1.1.cap), (.slice y1.2.1.at' y1.2.1.len y1.2.1.cap), (.slice y1.2.2.1.at' y1.2.2.1.len y1.2.2.1.cap), (.slice y1.2.2.2.1.at' y1.2.2.2.1.len y1.2.2.2.1.cap), (.slice y1.2.2.2.2.1.at' y1.2.2.2.2.1.len y1.2.2.2.2.1.cap), (.slice y1.2.2.2.2.2.1.at' y1.2.2.2.2.2.1.len y1.2.2.2.2.2.1.cap), (.slice y1.2.2.2.2.2.2.1.at' y1.2.2.2.2.2.2.1.len y1.2.2.2.2.2.2.1.cap), (.int .i64 y1.2.2.2.2.2.2.2.1), (.slice y1.2.2.2.2.2.2.2.2.1.at' y1.2.2.2.2.2.2.2.2.1.len y1.2.2.2.2.2.2.2.2.1.cap), (.slice y1.2.2.2.2.2.2.2.2.2.1.at' y1.2.2.2.2.2.2.2.2.2.1.len y1.2.2.2.2.2.2.2.2.2.1.cap), (.slice y1.2.2.2.2.2.2.2.2.2.2.1.at' y1.2.2.2.2.2.2.2.2.2.2.1.len y1.2.2.2.2.2.2.2.2.2.2.1.cap), (.bool y1.2.2.2.2.2.2.2.2.2.2.2.1.1), (.int .u32 y1.2.2.2.2.2.2.2.2.2.2.2.1.2.1), (.int .u32 y1.2.2.2.2.2.2.2.2.2.2.2.1.2.2.1), (.int .u32 y1.2.2.2.2.2.2.2.2.2.2.2.1.2.2.2.1), (.int .u32 y1.2.2.2.2.2.2.2.2.2.2.2.1.2.2.2.2.1), (.slice y1.2.2.2.2.2.2.2.2.2.2.2.1.2.2.2.2.2.1.at' y1.2.2.2.2.2.2.2.2.2.2.2.1.2.2.2.2.2.1.len y1.2.2.2.2.2.2.2.2.2.2.2.1.2.2.2.2.2.1.cap)])), (fun x wq => ∃ b, x = .slice (some ⟨b, 0, none⟩) 1 1 ∧ w2.heap.size ≤ b ∧ wq.heap[b]? = some (.cells #[(.string (strOfNums [((97 : Int) + ((k : Nat) : Int))])), (.slice y1.1.at' y1.1.len y1.1.cap), (.slice y1.2.1.at' y1.2.1.len y1.2.1.cap), (.slice y1.2.2.1.at' y1.2.2.1.len y1.2.2.1.cap), (.slice y1.2.2.2.1.at' y1.2.2.2.1.len y1.2.2.2.1.cap), (.slice y1.2.2.2.2.1.at' y1.2.2.2.2.1.len y1.2.2.2.2.1.cap), (.slice y1.2.2.2.2.2.1.at' y1.2.2.2.2.2.1.len y1.2.2.2.2.2.1.cap), (.slice y1.2.2.2.2.2.2.1.at' y1.2.2.2.2.2.2.1.len y1.2.2.2.2.2.2.1.cap), (.int .i64 y1.2.2.2.2.2.2.2.1), (.slice y1.2.2.2.2.2.2.2.2.1.at' y1.2.2.2.2.2.2.2.2.1.len y1.2.2.2.2.2.2.2.2.1.cap), (.slice y1.2.2.2.2.2.2.2.2.2.1.at' y1.2.2.2.2.2.2.2.2.2.1.len y1.2.2.2.2.2.2.2.2.2.1.cap), (.slice y1.2.2.2.2.2.2.2.2.2.2.1.at' y1.2.2.2.2.2.2.2.2.2.2.1.len y1.2.2.2.2.2.2.2.2.2.2.1.cap), (.bool y1.2.2.2.2.2.2.2.2.2.2.2.1.1), (.int .u32 y1.2.2.2.2.2.2.2.2.2.2.2.1.2.1), (.int .u32 y1.2.2.2.2.2.2.2.2.2.2.2.1.2.2.1), (.int .u32 y1.2.2.2.2.2.2.2.2.2.2.2.1.2.2.2.1), (.int .u32 y1.2.2.2.2.2.2.2.2.2.2.2.1.2.2.2.2.1), (.slice y1.2.2.2.2.2.2.2.2.2.2.2.1.2.2.2.2.2.1.at' y1.2.2.2.2.2.2.2.2.2.2.2.1.2.2.2.2.2.1.len y1.2.2.2.2.2.2.2.2.2.2.2.1.2.2.2.2.2.1.cap)] 132 (0, 0)))])
            [4, 11]
            [[], [], [1], [2], [3], [4], [], [], [6, 7], [8], [5, 9], [10], [], []]
            hf (by kernel_rfl) (by kernel_rfl) (by kernel_rfl) (fun _ => rfl) ((Below.refl _ _).drew) (fun a b h1 h2 => h1.trans (h2.mono h1.size)) (fun _ _ h => h.size) (fun V => ⟨kept_eq, kept_eq, kept_eq, kept_eq, keptB, kept_eq, kept_eq, kept_eq, kept_eq, kept_eq, kept_eq, keptB, trivial⟩) (fun _ _ _ _ _ => rfl) ?_ ?_
          · skip
            intro V
            refine ⟨fun wu0 hC hd => ?_, ?_⟩
            · clear hd
              replace hb := hb.trans (hC.mono hb.size)
              replace hru := Row.ext hru hC
              exact Runs.does (r_move rfl) ⟨Below.refl _ _, rfl, nofr rfl⟩
            refine ⟨fun wu1 hC hd => ?_, ?_⟩
            · clear hd
              replace hb := hb.trans (hC.mono hb.size)
              replace hru := Row.ext hru hC
              exact Runs.does (r_move rfl) ⟨Below.refl _ _, rfl, nofr rfl⟩
            refine ⟨fun wu2 hC hd => ?_, ?_⟩
            · obtain ⟨h1, _⟩ := hd
              skip
              replace h1 : V 1 = (.int .i64 ((k : Nat) : Int)) := h1
              replace hb := hb.trans (hC.mono hb.size)
              replace hru := Row.ext hru hC
              exact Runs.does (r_add (C := ((97 : Int) + ((k : Nat) : Int))) rfl (congrArg some h1) (by rw [IntKind.wrap_i64]; omega)) ⟨Below.refl _ _, rfl, nofr rfl⟩
            refine ⟨fun wu3 hC hd => ?_, ?_⟩
            · obtain ⟨h2, _⟩ := hd
              skip
              replace h2 : V 2 = (.int .i64 ((97 : Int) + ((k : Nat) : Int))) := h2
              replace hb := hb.trans (hC.mono hb.size)
              replace hru := Row.ext hru hC
              exact Runs.does (r_conv (C := ((97 : Int) + ((k : Nat) : Int))) (congrArg some h2) Try.underlying3 Try.underlying5 (by rw [IntKind.wrap_u8]; omega)) ⟨Below.refl _ _, rfl, nofr rfl⟩
            refine ⟨fun wu4 hC hd => ?_, ?_⟩
            · obtain ⟨h3, _⟩ := hd
              skip
              replace h3 : V 3 = (.int .u8 ((97 : Int) + ((k : Nat) : Int))) := h3
              replace hb := hb.trans (hC.mono hb.size)
              replace hru := Row.ext hru hC
              refine Does.mono (d_bslice (z := (.int .u8 (0 : Int))) (sz := 1) (vs := [(0, (.int .u8 ((97 : Int) + ((k : Nat) : Int))))]) (cs := #[(.int .u8 ((97 : Int) + ((k : Nat) : Int)))]) (show [(0, some (V 3))] = [(0, some (.int .u8 ((97 : Int) + ((k : Nat) : Int))))] from by rw [h3]) Try.underlying86 (by kernel_rfl) rfl (by kernel_rfl)) ?_
              rintro _ w' ⟨b, rfl, hF⟩
              exact ⟨hF.2.2, ⟨b, rfl, Nat.le_trans hC.size hF.1, hF.2.1⟩, isfr rfl hF.1 (blk_lt hF.2.1)⟩
            refine ⟨fun wu5 hC hd => ?_, ?_⟩
            · obtain ⟨h4, _⟩ := hd
              skip
              obtain ⟨b1, h4, hle1, hk1⟩ := h4
              replace hb := hb.trans (hC.mono hb.size)
              replace hru := Row.ext hru hC
              exact Runs.does (r_rowstr (congrArg some h4) Try.underlying86 Try.underlying5 Try.underlying9 (Row.of_new (k := 1) (V := vInt .u8) (l := [((97 : Int) + ((k : Nat) : Int))]) hk1 (Nat.le_refl _) rfl rfl (Nat.le_of_ble_eq_true rfl))) ⟨Below.refl _ _, rfl, nofr rfl⟩
            refine ⟨fun wu6 hC hd => ?_, ?_⟩
            · clear hd
              replace hb := hb.trans (hC.mono hb.size)
              replace hru := Row.ext hru hC
              exact Runs.does (r_move rfl) ⟨Below.refl _ _, rfl, nofr rfl⟩
            refine ⟨fun wu7 hC hd => ?_, ?_⟩
            · clear hd
              replace hb := hb.trans (hC.mono hb.size)
              replace hru := Row.ext hru hC
              exact Runs.does (r_move rfl) ⟨Below.refl _ _, rfl, nofr rfl⟩
            refine ⟨fun wu8 hC hd => ?_, ?_⟩
            · obtain ⟨h6, h7, _⟩ := hd
              skip
              skip
              replace h6 : V 6 = (.slice d.at' d.len d.cap) := h6
              replace h7 : V 7 = (.int .i64 ((k : Nat) : Int)) := h7
              replace hb := hb.trans (hC.mono hb.size)
              replace hru := Row.ext hru hC
              exact Runs.does (r_ixa (sz := 17) (j := k) (evAt (congrArg some h6) hat1) (congrArg some h7) Try.underlying43 (by kernel_rfl) rfl (by omega) rfl) ⟨Below.refl _ _, rfl, nofr rfl⟩
            refine ⟨fun wu9 hC hd => ?_, ?_⟩
            · obtain ⟨h8, _⟩ := hd
              skip
              replace h8 : V 8 = (.pointer (some ⟨ab1, (aoff1 + k * 17), none⟩)) := h8
              replace hb := hb.trans (hC.mono hb.size)
              replace hru := Row.ext hru hC
              exact Runs.does (r_loadA (cs := [(.slice y1.1.at' y1.1.len y1.1.cap), (.slice y1.2.1.at' y1.2.1.len y1.2.1.cap), (.slice y1.2.2.1.at' y1.2.2.1.len y1.2.2.1.cap), (.slice y1.2.2.2.1.at' y1.2.2.2.1.len y1.2.2.2.1.cap), (.slice y1.2.2.2.2.1.at' y1.2.2.2.2.1.len y1.2.2.2.2.1.cap), (.slice y1.2.2.2.2.2.1.at' y1.2.2.2.2.2.1.len y1.2.2.2.2.2.1.cap), (.slice y1.2.2.2.2.2.2.1.at' y1.2.2.2.2.2.2.1.len y1.2.2.2.2.2.2.1.cap), (.int .i64 y1.2.2.2.2.2.2.2.1), (.slice y1.2.2.2.2.2.2.2.2.1.at' y1.2.2.2.2.2.2.2.2.1.len y1.2.2.2.2.2.2.2.2.1.cap), (.slice y1.2.2.2.2.2.2.2.2.2.1.at' y1.2.2.2.2.2.2.2.2.2.1.len y1.2.2.2.2.2.2.2.2.2.1.cap), (.slice y1.2.2.2.2.2.2.2.2.2.2.1.at' y1.2.2.2.2.2.2.2.2.2.2.1.len y1.2.2.2.2.2.2.2.2.2.2.1.cap), (.bool y1.2.2.2.2.2.2.2.2.2.2.2.1.1), (.int .u32 y1.2.2.2.2.2.2.2.2.2.2.2.1.2.1), (.int .u32 y1.2.2.2.2.2.2.2.2.2.2.2.1.2.2.1), (.int .u32 y1.2.2.2.2.2.2.2.2.2.2.2.1.2.2.2.1), (.int .u32 y1.2.2.2.2.2.2.2.2.2.2.2.1.2.2.2.2.1), (.slice y1.2.2.2.2.2.2.2.2.2.2.2.1.2.2.2.2.2.1.at' y1.2.2.2.2.2.2.2.2.2.2.2.1.2.2.2.2.2.1.len y1.2.2.2.2.2.2.2.2.2.2.2.1.2.2.2.2.2.1.cap)]) (congrArg some h8) Try.underlying67 rfl (by kernel_rfl) (cellsAt_below hel1 hb hlb1)) ⟨Below.refl _ _, rfl, nofr rfl⟩
            refine ⟨fun wu10 hC hd => ?_, ?_⟩
            · obtain ⟨h5, h9, _⟩ := hd
              skip
              skip
              replace h5 : V 5 = (.string (strOfNums [((97 : Int) + ((k : Nat) : Int))])) := h5
              replace h9 : V 9 = (.agg #[(.slice y1.1.at' y1.1.len y1.1.cap), (.slice y1.2.1.at' y1.2.1.len y1.2.1.cap), (.slice y1.2.2.1.at' y1.2.2.1.len y1.2.2.1.cap), (.slice y1.2.2.2.1.at' y1.2.2.2.1.len y1.2.2.2.1.cap), (.slice y1.2.2.2.2.1.at' y1.2.2.2.2.1.len y1.2.2.2.2.1.cap), (.slice y1.2.2.2.2.2.1.at' y1.2.2.2.2.2.1.len y1.2.2.2.2.2.1.cap), (.slice y1.2.2.2.2.2.2.1.at' y1.2.2.2.2.2.2.1.len y1.2.2.2.2.2.2.1.cap), (.int .i64 y1.2.2.2.2.2.2.2.1), (.slice y1.2.2.2.2.2.2.2.2.1.at' y1.2.2.2.2.2.2.2.2.1.len y1.2.2.2.2.2.2.2.2.1.cap), (.slice y1.2.2.2.2.2.2.2.2.2.1.at' y1.2.2.2.2.2.2.2.2.2.1.len y1.2.2.2.2.2.2.2.2.2.1.cap), (.slice y1.2.2.2.2.2.2.2.2.2.2.1.at' y1.2.2.2.2.2.2.2.2.2.2.1.len y1.2.2.2.2.2.2.2.2.2.2.1.cap), (.bool y1.2.2.2.2.2.2.2.2.2.2.2.1.1), (.int .u32 y1.2.2.2.2.2.2.2.2.2.2.2.1.2.1), (.int .u32 y1.2.2.2.2.2.2.2.2.2.2.2.1.2.2.1), (.int .u32 y1.2.2.2.2.2.2.2.2.2.2.2.1.2.2.2.1), (.int .u32 y1.2.2.2.2.2.2.2.2.2.2.2.1.2.2.2.2.1), (.slice y1.2.2.2.2.2.2.2.2.2.2.2.1.2.2.2.2.2.1.at' y1.2.2.2.2.2.2.2.2.2.2.2.1.2.2.2.2.2.1.len y1.2.2.2.2.2.2.2.2.2.2.2.1.2.2.2.2.2.1.cap)]) := h9
              replace hb := hb.trans (hC.mono hb.size)
              replace hru := Row.ext hru hC
              exact Runs.does (r_build (vs := [(0, (.string (strOfNums [((97 : Int) + ((k : Nat) : Int))]))), (1, (.agg #[(.slice y1.1.at' y1.1.len y1.1.cap), (.slice y1.2.1.at' y1.2.1.len y1.2.1.cap), (.slice y1.2.2.1.at' y1.2.2.1.len y1.2.2.1.cap), (.slice y1.2.2.2.1.at' y1.2.2.2.1.len y1.2.2.2.1.cap), (.slice y1.2.2.2.2.1.at' y1.2.2.2.2.1.len y1.2.2.2.2.1.cap), (.slice y1.2.2.2.2.2.1.at' y1.2.2.2.2.2.1.len y1.2.2.2.2.2.1.cap), (.slice y1.2.2.2.2.2.2.1.at' y1.2.2.2.2.2.2.1.len y1.2.2.2.2.2.2.1.cap), (.int .i64 y1.2.2.2.2.2.2.2.1), (.slice y1.2.2.2.2.2.2.2.2.1.at' y1.2.2.2.2.2.2.2.2.1.len y1.2.2.2.2.2.2.2.2.1.cap), (.slice y1.2.2.2.2.2.2.2.2.2.1.at' y1.2.2.2.2.2.2.2.2.2.1.len y1.2.2.2.2.2.2.2.2.2.1.cap), (.slice y1.2.2.2.2.2.2.2.2.2.2.1.at' y1.2.2.2.2.2.2.2.2.2.2.1.len y1.2.2.2.2.2.2.2.2.2.2.1.cap), (.bool y1.2.2.2.2.2.2.2.2.2.2.2.1.1), (.int .u32 y1.2.2.2.2.2.2.2.2.2.2.2.1.2.1), (.int .u32 y1.2.2.2.2.2.2.2.2.2.2.2.1.2.2.1), (.int .u32 y1.2.2.2.2.2.2.2.2.2.2.2.1.2.2.2.1), (.int .u32 y1.2.2.2.2.2.2.2.2.2.2.2.1.2.2.2.2.1), (.slice y1.2.2.2.2.2.2.2.2.2.2.2.1.2.2.2.2.2.1.at' y1.2.2.2.2.2.2.2.2.2.2.2.1.2.2.2.2.2.1.len y1.2.2.2.2.2.2.2.2.2.2.2.1.2.2.2.2.2.1.cap)]))]) (cs := #[(.string (strOfNums [((97 : Int) + ((k : Nat) : Int))])), (.slice y1.1.at' y1.1.len y1.1.cap), (.slice y1.2.1.at' y1.2.1.len y1.2.1.cap), (.slice y1.2.2.1.at' y1.2.2.1.len y1.2.2.1.cap), (.slice y1.2.2.2.1.at' y1.2.2.2.1.len y1.2.2.2.1.cap), (.slice y1.2.2.2.2.1.at' y1.2.2.2.2.1.len y1.2.2.2.2.1.cap), (.slice y1.2.2.2.2.2.1.at' y1.2.2.2.2.2.1.len y1.2.2.2.2.2.1.cap), (.slice y1.2.2.2.2.2.2.1.at' y1.2.2.2.2.2.2.1.len y1.2.2.2.2.2.2.1.cap), (.int .i64 y1.2.2.2.2.2.2.2.1), (.slice y1.2.2.2.2.2.2.2.2.1.at' y1.2.2.2.2.2.2.2.2.1.len y1.2.2.2.2.2.2.2.2.1.cap), (.slice y1.2.2.2.2.2.2.2.2.2.1.at' y1.2.2.2.2.2.2.2.2.2.1.len y1.2.2.2.2.2.2.2.2.2.1.cap), (.slice y1.2.2.2.2.2.2.2.2.2.2.1.at' y1.2.2.2.2.2.2.2.2.2.2.1.len y1.2.2.2.2.2.2.2.2.2.2.1.cap), (.bool y1.2.2.2.2.2.2.2.2.2.2.2.1.1), (.int .u32 y1.2.2.2.2.2.2.2.2.2.2.2.1.2.1), (.int .u32 y1.2.2.2.2.2.2.2.2.2.2.2.1.2.2.1), (.int .u32 y1.2.2.2.2.2.2.2.2.2.2.2.1.2.2.2.1), (.int .u32 y1.2.2.2.2.2.2.2.2.2.2.2.1.2.2.2.2.1), (.slice y1.2.2.2.2.2.2.2.2.2.2.2.1.2.2.2.2.2.1.at' y1.2.2.2.2.2.2.2.2.2.2.2.1.2.2.2.2.2.1.len y1.2.2.2.2.2.2.2.2.2.2.2.1.2.2.2.2.2.1.cap)]) (show [(0, some (V 5)), (1, some (V 9))] = [(0, some (.string (strOfNums [((97 : Int) + ((k : Nat) : Int))]))), (1, some (.agg #[(.slice y1.1.at' y1.1.len y1.1.cap), (.slice y1.2.1.at' y1.2.1.len y1.2.1.cap), (.slice y1.2.2.1.at' y1.2.2.1.len y1.2.2.1.cap), (.slice y1.2.2.2.1.at' y1.2.2.2.1.len y1.2.2.2.1.cap), (.slice y1.2.2.2.2.1.at' y1.2.2.2.2.1.len y1.2.2.2.2.1.cap), (.slice y1.2.2.2.2.2.1.at' y1.2.2.2.2.2.1.len y1.2.2.2.2.2.1.cap), (.slice y1.2.2.2.2.2.2.1.at' y1.2.2.2.2.2.2.1.len y1.2.2.2.2.2.2.1.cap), (.int .i64 y1.2.2.2.2.2.2.2.1), (.slice y1.2.2.2.2.2.2.2.2.1.at' y1.2.2.2.2.2.2.2.2.1.len y1.2.2.2.2.2.2.2.2.1.cap), (.slice y1.2.2.2.2.2.2.2.2.2.1.at' y1.2.2.2.2.2.2.2.2.2.1.len y1.2.2.2.2.2.2.2.2.2.1.cap), (.slice y1.2.2.2.2.2.2.2.2.2.2.1.at' y1.2.2.2.2.2.2.2.2.2.2.1.len y1.2.2.2.2.2.2.2.2.2.2.1.cap), (.bool y1.2.2.2.2.2.2.2.2.2.2.2.1.1), (.int .u32 y1.2.2.2.2.2.2.2.2.2.2.2.1.2.1), (.int .u32 y1.2.2.2.2.2.2.2.2.2.2.2.1.2.2.1), (.int .u32 y1.2.2.2.2.2.2.2.2.2.2.2.1.2.2.2.1), (.int .u32 y1.2.2.2.2.2.2.2.2.2.2.2.1.2.2.2.2.1), (.slice y1.2.2.2.2.2.2.2.2.2.2.2.1.2.2.2.2.2.1.at' y1.2.2.2.2.2.2.2.2.2.2.2.1.2.2.2.2.2.1.len y1.2.2.2.2.2.2.2.2.2.2.2.1.2.2.2.2.2.1.cap)]))] from by rw [h5, h9]) (fun _ => by kernel_rfl)) ⟨Below.refl _ _, rfl, nofr rfl⟩
            refine ⟨fun wu11 hC hd => ?_, ?_⟩
            · obtain ⟨h10, _⟩ := hd
              skip
              replace h10 : V 10 = (.agg #[(.string (strOfNums [((97 : Int) + ((k : Nat) : Int))])), (.slice y1.1.at' y1.1.len y1.1.cap), (.slice y1.2.1.at' y1.2.1.len y1.2.1.cap), (.slice y1.2.2.1.at' y1.2.2.1.len y1.2.2.1.cap), (.slice y1.2.2.2.1.at' y1.2.2.2.1.len y1.2.2.2.1.cap), (.slice y1.2.2.2.2.1.at' y1.2.2.2.2.1.len y1.2.2.2.2.1.cap), (.slice y1.2.2.2.2.2.1.at' y1.2.2.2.2.2.1.len y1.2.2.2.2.2.1.cap), (.slice y1.2.2.2.2.2.2.1.at' y1.2.2.2.2.2.2.1.len y1.2.2.2.2.2.2.1.cap), (.int .i64 y1.2.2.2.2.2.2.2.1), (.slice y1.2.2.2.2.2.2.2.2.1.at' y1.2.2.2.2.2.2.2.2.1.len y1.2.2.2.2.2.2.2.2.1.cap), (.slice y1.2.2.2.2.2.2.2.2.2.1.at' y1.2.2.2.2.2.2.2.2.2.1.len y1.2.2.2.2.2.2.2.2.2.1.cap), (.slice y1.2.2.2.2.2.2.2.2.2.2.1.at' y1.2.2.2.2.2.2.2.2.2.2.1.len y1.2.2.2.2.2.2.2.2.2.2.1.cap), (.bool y1.2.2.2.2.2.2.2.2.2.2.2.1.1), (.int .u32 y1.2.2.2.2.2.2.2.2.2.2.2.1.2.1), (.int .u32 y1.2.2.2.2.2.2.2.2.2.2.2.1.2.2.1), (.int .u32 y1.2.2.2.2.2.2.2.2.2.2.2.1.2.2.2.1), (.int .u32 y1.2.2.2.2.2.2.2.2.2.2.2.1.2.2.2.2.1), (.slice y1.2.2.2.2.2.2.2.2.2.2.2.1.2.2.2.2.2.1.at' y1.2.2.2.2.2.2.2.2.2.2.2.1.2.2.2.2.2.1.len y1.2.2.2.2.2.2.2.2.2.2.2.1.2.2.2.2.2.1.cap)]) := h10
              replace hb := hb.trans (hC.mono hb.size)
              replace hru := Row.ext hru hC
              refine Does.mono (d_bslice (z := (.agg #[(.string ⟨#[]⟩), (.slice none 0 0), (.slice none 0 0), (.slice none 0 0), (.slice none 0 0), (.slice none 0 0), (.slice none 0 0), (.slice none 0 0), (.int .i64 (0 : Int)), (.slice none 0 0), (.slice none 0 0), (.slice none 0 0), (.bool false), (.int .u32 (0 : Int)), (.int .u32 (0 : Int)), (.int .u32 (0 : Int)), (.int .u32 (0 : Int)), (.slice none 0 0)])) (sz := 18) (vs := [(0, (.agg #[(.string (strOfNums [((97 : Int) + ((k : Nat) : Int))])), (.slice y1.1.at' y1.1.len y1.1.cap), (.slice y1.2.1.at' y1.2.1.len y1.2.1.cap), (.slice y1.2.2.1.at' y1.2.2.1.len y1.2.2.1.cap), (.slice y1.2.2.2.1.at' y1.2.2.2.1.len y1.2.2.2.1.cap), (.slice y1.2.2.2.2.1.at' y1.2.2.2.2.1.len y1.2.2.2.2.1.cap), (.slice y1.2.2.2.2.2.1.at' y1.2.2.2.2.2.1.len y1.2.2.2.2.2.1.cap), (.slice y1.2.2.2.2.2.2.1.at' y1.2.2.2.2.2.2.1.len y1.2.2.2.2.2.2.1.cap), (.int .i64 y1.2.2.2.2.2.2.2.1), (.slice y1.2.2.2.2.2.2.2.2.1.at' y1.2.2.2.2.2.2.2.2.1.len y1.2.2.2.2.2.2.2.2.1.cap), (.slice y1.2.2.2.2.2.2.2.2.2.1.at' y1.2.2.2.2.2.2.2.2.2.1.len y1.2.2.2.2.2.2.2.2.2.1.cap), (.slice y1.2.2.2.2.2.2.2.2.2.2.1.at' y1.2.2.2.2.2.2.2.2.2.2.1.len y1.2.2.2.2.2.2.2.2.2.2.1.cap), (.bool y1.2.2.2.2.2.2.2.2.2.2.2.1.1), (.int .u32 y1.2.2.2.2.2.2.2.2.2.2.2.1.2.1), (.int .u32 y1.2.2.2.2.2.2.2.2.2.2.2.1.2.2.1), (.int .u32 y1.2.2.2.2.2.2.2.2.2.2.2.1.2.2.2.1), (.int .u32 y1.2.2.2.2.2.2.2.2.2.2.2.1.2.2.2.2.1), (.slice y1.2.2.2.2.2.2.2.2.2.2.2.1.2.2.2.2.2.1.at' y1.2.2.2.2.2.2.2.2.2.2.2.1.2.2.2.2.2.1.len y1.2.2.2.2.2.2.2.2.2.2.2.1.2.2.2.2.2.1.cap)]))]) (cs := #[(.string (strOfNums [((97 : Int) + ((k : Nat) : Int))])), (.slice y1.1.at' y1.1.len y1.1.cap), (.slice y1.2.1.at' y1.2.1.len y1.2.1.cap), (.slice y1.2.2.1.at' y1.2.2.1.len y1.2.2.1.cap), (.slice y1.2.2.2.1.at' y1.2.2.2.1.len y1.2.2.2.1.cap), (.slice y1.2.2.2.2.1.at' y1.2.2.2.2.1.len y1.2.2.2.2.1.cap), (.slice y1.2.2.2.2.2.1.at' y1.2.2.2.2.2.1.len y1.2.2.2.2.2.1.cap), (.slice y1.2.2.2.2.2.2.1.at' y1.2.2.2.2.2.2.1.len y1.2.2.2.2.2.2.1.cap), (.int .i64 y1.2.2.2.2.2.2.2.1), (.slice y1.2.2.2.2.2.2.2.2.1.at' y1.2.2.2.2.2.2.2.2.1.len y1.2.2.2.2.2.2.2.2.1.cap), (.slice y1.2.2.2.2.2.2.2.2.2.1.at' y1.2.2.2.2.2.2.2.2.2.1.len y1.2.2.2.2.2.2.2.2.2.1.cap), (.slice y1.2.2.2.2.2.2.2.2.2.2.1.at' y1.2.2.2.2.2.2.2.2.2.2.1.len y1.2.2.2.2.2.2.2.2.2.2.1.cap), (.bool y1.2.2.2.2.2.2.2.2.2.2.2.1.1), (.int .u32 y1.2.2.2.2.2.2.2.2.2.2.2.1.2.1), (.int .u32 y1.2.2.2.2.2.2.2.2.2.2.2.1.2.2.1), (.int .u32 y1.2.2.2.2.2.2.2.2.2.2.2.1.2.2.2.1), (.int .u32 y1.2.2.2.2.2.2.2.2.2.2.2.1.2.2.2.2.1), (.slice y1.2.2.2.2.2.2.2.2.2.2.2.1.2.2.2.2.2.1.at' y1.2.2.2.2.2.2.2.2.2.2.2.1.2.2.2.2.2.1.len y1.2.2.2.2.2.2.2.2.2.2.2.1.2.2.2.2.2.1.cap)]) (show [(0, some (V 10))] = [(0, some (.agg #[(.string (strOfNums [((97 : Int) + ((k : Nat) : Int))])), (.slice y1.1.at' y1.1.len y1.1.cap), (.slice y1.2.1.at' y1.2.1.len y1.2.1.cap), (.slice y1.2.2.1.at' y1.2.2.1.len y1.2.2.1.cap), (.slice y1.2.2.2.1.at' y1.2.2.2.1.len y1.2.2.2.1.cap), (.slice y1.2.2.2.2.1.at' y1.2.2.2.2.1.len y1.2.2.2.2.1.cap), (.slice y1.2.2.2.2.2.1.at' y1.2.2.2.2.2.1.len y1.2.2.2.2.2.1.cap), (.slice y1.2.2.2.2.2.2.1.at' y1.2.2.2.2.2.2.1.len y1.2.2.2.2.2.2.1.cap), (.int .i64 y1.2.2.2.2.2.2.2.1), (.slice y1.2.2.2.2.2.2.2.2.1.at' y1.2.2.2.2.2.2.2.2.1.len y1.2.2.2.2.2.2.2.2.1.cap), (.slice y1.2.2.2.2.2.2.2.2.2.1.at' y1.2.2.2.2.2.2.2.2.2.1.len y1.2.2.2.2.2.2.2.2.2.1.cap), (.slice y1.2.2.2.2.2.2.2.2.2.2.1.at' y1.2.2.2.2.2.2.2.2.2.2.1.len y1.2.2.2.2.2.2.2.2.2.2.1.cap), (.bool y1.2.2.2.2.2.2.2.2.2.2.2.1.1), (.int .u32 y1.2.2.2.2.2.2.2.2.2.2.2.1.2.1), (.int .u32 y1.2.2.2.2.2.2.2.2.2.2.2.1.2.2.1), (.int .u32 y1.2.2.2.2.2.2.2.2.2.2.2.1.2.2.2.1), (.int .u32 y1.2.2.2.2.2.2.2.2.2.2.2.1.2.2.2.2.1), (.slice y1.2.2.2.2.2.2.2.2.2.2.2.1.2.2.2.2.2.1.at' y1.2.2.2.2.2.2.2.2.2.2.2.1.2.2.2.2.2.1.len y1.2.2.2.2.2.2.2.2.2.2.2.1.2.2.2.2.2.1.cap)]))] from by rw [h10]) Try.underlying45 (by kernel_rfl) rfl (by kernel_rfl)) ?_
              rintro _ w' ⟨b, rfl, hF⟩
              exact ⟨hF.2.2, ⟨b, rfl, Nat.le_trans hC.size hF.1, hF.2.1⟩, isfr rfl hF.1 (blk_lt hF.2.1)⟩
            trivial
          · skip
            clear hf fa; intro V w3 fa he2 hp hnb hf
            have hv0 : V 0 = (.slice rua xs.length ruc) := postsHold_at hp 0 rfl
            have hv1 : V 1 = (.int .i64 ((k : Nat) : Int)) := postsHold_at hp 1 rfl
            have hv2 : V 2 = (.int .i64 ((97 : Int) + ((k : Nat) : Int))) := postsHold_at hp 2 rfl
            have hv3 : V 3 = (.int .u8 ((97 : Int) + ((k : Nat) : Int))) := postsHold_at hp 3 rfl
            have hv4 := postsHold_at hp 4 rfl
            obtain ⟨b1, hv4, hle1, hk1⟩ := hv4
            have hBb1 : w.heap.size ≤ b1 := Nat.le_trans hb.size hle1
            have hv5 : V 5 = (.string (strOfNums [((97 : Int) + ((k : Nat) : Int))])) := postsHold_at hp 5 rfl
            have hv6 : V 6 = (.slice d.at' d.len d.cap) := postsHold_at hp 6 rfl
            have hv7 : V 7 = (.int .i64 ((k : Nat) : Int)) := postsHold_at hp 7 rfl
            have hv8 : V 8 = (.pointer (some ⟨ab1, (aoff1 + k * 17), none⟩)) := postsHold_at hp 8 rfl
            have hv9 : V 9 = (.agg #[(.slice y1.1.at' y1.1.len y1.1.cap), (.slice y1.2.1.at' y1.2.1.len y1.2.1.cap), (.slice y1.2.2.1.at' y1.2.2.1.len y1.2.2.1.cap), (.slice y1.2.2.2.1.at' y1.2.2.2.1.len y1.2.2.2.1.cap), (.slice y1.2.2.2.2.1.at' y1.2.2.2.2.1.len y1.2.2.2.2.1.cap), (.slice y1.2.2.2.2.2.1.at' y1.2.2.2.2.2.1.len y1.2.2.2.2.2.1.cap), (.slice y1.2.2.2.2.2.2.1.at' y1.2.2.2.2.2.2.1.len y1.2.2.2.2.2.2.1.cap), (.int .i64 y1.2.2.2.2.2.2.2.1), (.slice y1.2.2.2.2.2.2.2.2.1.at' y1.2.2.2.2.2.2.2.2.1.len y1.2.2.2.2.2.2.2.2.1.cap), (.slice y1.2.2.2.2.2.2.2.2.2.1.at' y1.2.2.2.2.2.2.2.2.2.1.len y1.2.2.2.2.2.2.2.2.2.1.cap), (.slice y1.2.2.2.2.2.2.2.2.2.2.1.at' y1.2.2.2.2.2.2.2.2.2.2.1.len y1.2.2.2.2.2.2.2.2.2.2.1.cap), (.bool y1.2.2.2.2.2.2.2.2.2.2.2.1.1), (.int .u32 y1.2.2.2.2.2.2.2.2.2.2.2.1.2.1), (.int .u32 y1.2.2.2.2.2.2.2.2.2.2.2.1.2.2.1), (.int .u32 y1.2.2.2.2.2.2.2.2.2.2.2.1.2.2.2.1), (.int .u32 y1.2.2.2.2.2.2.2.2.2.2.2.1.2.2.2.2.1), (.slice y1.2.2.2.2.2.2.2.2.2.2.2.1.2.2.2.2.2.1.at' y1.2.2.2.2.2.2.2.2.2.2.2.1.2.2.2.2.2.1.len y1.2.2.2.2.2.2.2.2.2.2.2.1.2.2.2.2.2.1.cap)]) := postsHold_at hp 9 rfl
            have hv10 : V 10 = (.agg #[(.string (strOfNums [((97 : Int) + ((k : Nat) : Int))])), (.slice y1.1.at' y1.1.len y1.1.cap), (.slice y1.2.1.at' y1.2.1.len y1.2.1.cap), (.slice y1.2.2.1.at' y1.2.2.1.len y1.2.2.1.cap), (.slice y1.2.2.2.1.at' y1.2.2.2.1.len y1.2.2.2.1.cap), (.slice y1.2.2.2.2.1.at' y1.2.2.2.2.1.len y1.2.2.2.2.1.cap), (.slice y1.2.2.2.2.2.1.at' y1.2.2.2.2.2.1.len y1.2.2.2.2.2.1.cap), (.slice y1.2.2.2.2.2.2.1.at' y1.2.2.2.2.2.2.1.len y1.2.2.2.2.2.2.1.cap), (.int .i64 y1.2.2.2.2.2.2.2.1), (.slice y1.2.2.2.2.2.2.2.2.1.at' y1.2.2.2.2.2.2.2.2.1.len y1.2.2.2.2.2.2.2.2.1.cap), (.slice y1.2.2.2.2.2.2.2.2.2.1.at' y1.2.2.2.2.2.2.2.2.2.1.len y1.2.2.2.2.2.2.2.2.2.1.cap), (.slice y1.2.2.2.2.2.2.2.2.2.2.1.at' y1.2.2.2.2.2.2.2.2.2.2.1.len y1.2.2.2.2.2.2.2.2.2.2.1.cap), (.bool y1.2.2.2.2.2.2.2.2.2.2.2.1.1), (.int .u32 y1.2.2.2.2.2.2.2.2.2.2.2.1.2.1), (.int .u32 y1.2.2.2.2.2.2.2.2.2.2.2.1.2.2.1), (.int .u32 y1.2.2.2.2.2.2.2.2.2.2.2.1.2.2.2.1), (.int .u32 y1.2.2.2.2.2.2.2.2.2.2.2.1.2.2.2.2.1), (.slice y1.2.2.2.2.2.2.2.2.2.2.2.1.2.2.2.2.2.1.at' y1.2.2.2.2.2.2.2.2.2.2.2.1.2.2.2.2.2.1.len y1.2.2.2.2.2.2.2.2.2.2.2.1.2.2.2.2.2.1.cap)]) := postsHold_at hp 10 rfl
            have hv11 := postsHold_at hp 11 rfl
            obtain ⟨b2, hv11, hle2, hk2⟩ := hv11
            have hBb2 : w.heap.size ≤ b2 := Nat.le_trans hb.size hle2
            simp only [List.take_succ_cons, List.take_zero, insAll, ins, hv0, hv1, hv2, hv3, hv4, hv5, hv6, hv7, hv8, hv9, hv10, hv11] at hf
            have : b1 ≠ b2 := two_blk (i := 4) (j := 11) hnb rfl rfl rfl rfl rfl (by rw [hv4]; rfl) (by rw [hv11]; rfl)
            clear hp hnb hv0 hv1 hv2 hv3 hv4 hv5 hv6 hv7 hv8 hv9 hv10 hv11
            replace hru := Row.ext hru he2
            replace hb := hb.trans (Below.mono he2 hb.size)
            simp only [List.drop_succ_cons, List.drop_zero]
            have hs1 := Row.rd (by intros; rfl) (Row.of_new (k := 18) (V := vMUn) (l := [((strOfNums [((97 : Int) + ((k : Nat) : Int))]), y1, ())]) hk2 (Nat.le_refl _) rfl rfl (Nat.le_of_ble_eq_true rfl))
            refine sqdt hf (d_append (V := vMUn) (k := 18) (e := 132) (bytes := 312) (z := (.agg #[(.string ⟨#[]⟩), (.slice none 0 0), (.slice none 0 0), (.slice none 0 0), (.slice none 0 0), (.slice none 0 0), (.slice none 0 0), (.slice none 0 0), (.int .i64 (0 : Int)), (.slice none 0 0), (.slice none 0 0), (.slice none 0 0), (.bool false), (.int .u32 (0 : Int)), (.int .u32 (0 : Int)), (.int .u32 (0 : Int)), (.int .u32 (0 : Int)), (.slice none 0 0)])) (news := [((strOfNums [((97 : Int) + ((k : Nat) : Int))]), y1, ())]) (base := w.heap.size) (by intros; rfl) (by exact oneMUn) rfl rfl Try.underlying45 (by kernel_rfl) rfl rfl rfl hru hs1 rfl (fun h => by cases h) (by simp only [List.length_cons, List.length_nil, List.length_append]; omega) (by have := hb.size; omega)) rfl rfl rfl ?_; clear hf fa; rintro fa v w4 ⟨hr1, hg1⟩ hf; obtain ⟨ra1, rc1, rfl, hcrc1, hmrc1⟩ := Row.slice hr1
            replace hk1 := blk_row' hk1 hg1 (Row.ne_type hru hk1 rfl)
            replace hb := hb.trans (row_below hru hg1 hb.size (by have := hb.size; omega))
            refine sqv hf (r_assign rfl) rfl rfl rfl ?_; clear hf fa; intro fa hf
            apply wpList_nil
            (try simp only [Exit.then, Exit.inBlock, ↓reduceIte, Nat.reduceEqDiff])
            refine hK10 _ _ ?_
            refine wp_region_lit ?_
            refine sqv hf (r_move rfl) rfl rfl rfl ?_; clear hf fa; intro fa hf
            refine sqv hf (r_add (C := (((k : Nat) : Int) + (1 : Int))) rfl rfl (by rw [IntKind.wrap_i64]; omega)) rfl rfl rfl ?_; clear hf fa; intro fa hf
            refine sqv hf (r_assign rfl) rfl rfl rfl ?_; clear hf fa; intro fa hf
            apply wpList_nil
            (try simp only [Exit.then, Exit.inBlock, ↓reduceIte, Nat.reduceEqDiff])
            refine hKL1 _ _ _ (by omega) ⟨(k + 1), (xs ++ [((strOfNums [((97 : Int) + ((k : Nat) : Int))]), y1, ())]), ra1, rc1, rfl, hf.sub ⟨rfl, (some_int (by first | rfl | omega)), (some_sl (by simp <;> omega) rfl), trivial⟩, hb, (Row.relen hr1), by omega, (unit_snoc hxl hx hy1), (by rw [List.length_append, hxl]; rfl), (by intro j m hj hm; by_cases hjk : j < k; exact hsm j m hjk hm; (have e : j = k := by omega); subst e; rw [hy1] at hm; cases hm; exact hfx1 (by simpa using hqt20_1b))⟩
      · have hqt12_1b := hqt12_1
        replace hqt12_1 := Bool.eq_false_iff.1 hqt12_1
        try simp only [ne_eq, decide_eq_true_eq, Bool.and_eq_true, Bool.or_eq_true, Bool.not_eq_true', decide_eq_false_iff_not] at hqt12_1
        refine wp_exit ?_
        (try simp only [Exit.then, Exit.inBlock, ↓reduceIte, Nat.reduceEqDiff])
        refine hK6 _ _ ?_
        refine wp_seq_k (fun K14 hK14 => ?_)
        refine wp_region_lit ?_
        refine sqv hf (r_move rfl) rfl rfl rfl ?_; clear hf fa; intro fa hf
        refine sqv hf (r_assign rfl) rfl rfl rfl ?_; clear hf fa; intro fa hf
        refine sqv hf (r_assign rfl) rfl rfl rfl ?_; clear hf fa; intro fa hf
        apply wpList_nil
        (try simp only [Exit.then, Exit.inBlock, ↓reduceIte, Nat.reduceEqDiff])
        refine hK14 _ _ ?_
        refine wp_ret ?_
        (try simp only [Exit.then, Exit.inBlock])
        refine ret2 hf rfl rfl rfl ?_
        obtain rfl : k = d.len := by omega
        exact ⟨_, rfl, rua, ruc, true, xs, rfl, (fun _ => ⟨hxl, by have h := hqt8_1; omega, fun j m hm => hx j m (by have := (List.getElem?_eq_some_iff.1 hm).1; rwa [Sl.list_length] at this) hm, fun m hm => by obtain ⟨j, hj⟩ := List.getElem?_of_mem hm; exact hsm j m (by have := (List.getElem?_eq_some_iff.1 hj).1; rwa [Sl.list_length] at this) hj⟩), hru, hb⟩
end Go.Proofs.Ytahgkfekggkjnaa
