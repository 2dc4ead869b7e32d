/- What is proved here: Any, and the document's. -/
import Derived.Test.YtahgkfekggkjnaaBnM
namespace Go.Proofs.Ytahgkfekggkjnaa
open Go.RowKit
set_option linter.unusedVariables false
set_option linter.unusedSimpArgs false
def anyP (l : List MUn) (nm : ByteArray) : MPc × MFt × Int :=
  bif (!(findU nm l 0).2.2) then (((0 : Int), (0 : Int), ()), (⟨#[]⟩, ⟨#[]⟩, ()), (42 : Int))
  else bif (decide (((findU nm l 0).2.1.2.1) ≠ (0 : Int))) then (((0 : Int), (0 : Int), ()), (⟨#[]⟩, ⟨#[]⟩, ()), (43 : Int))
  else bif (!(typeofP (l.getD ((findU nm l 0).1).toNat zMUn).2.1 ((findU nm l 0).2.1.2.2.1)).2) then (((0 : Int), (0 : Int), ()), (⟨#[]⟩, ⟨#[]⟩, ()), (20 : Int))
  else (((findU nm l 0).1, (findU nm l 0).2.1.2.2.1, ()), (typeofP (l.getD ((findU nm l 0).1).toNat zMUn).2.1 ((findU nm l 0).2.1.2.2.1)).1, (0 : Int))

set_option maxHeartbeats 1000000 in
set_option maxRecDepth 100000 in
theorem any_any (l : List MUn) (nm : ByteArray) (w : World) (a : Option Addr) (n c : Nat) (hl : RdS 18 vMUn w a l) (hn : l.length = n) (hnm : n ≤ 9223372036854775807) (hM : ∀ u ∈ l, fMMd w u.2.1 ∧ smallP u.2.1) : Calls Try.prog 51 #[(.slice a n c), (.string nm)] w fun e w' => e = .returned (.tuple #[(.agg #[(.int .i64 ((anyP l nm).1.1)), (.int .u32 ((anyP l nm).1.2.1))]), (.agg #[(.string (anyP l nm).2.1.1), (.string (anyP l nm).2.1.2.1)]), (.int .i64 ((anyP l nm).2.2))]) ∧ Below w.heap.size w w' := by
  have hfb := findU_bd nm l 0
  refine sx_enter (L := [(0, (.slice a n c)), (1, (.string nm))]) Try.func51 rfl rfl rfl rfl (fun fa hf => ?_)
  have hb : Below w.heap.size w w := Below.refl _ _
  refine wp_seq_k (fun K1 hK1 => ?_)
  refine wp_region_lit ?_
  refine sqdt hf (d_alloc (z := (.agg #[(.int .i64 (0 : Int)), (.int .u32 (0 : Int))])) (cs := #[(.int .i64 (0 : Int)), (.int .u32 (0 : Int))]) (by kernel_rfl) rfl) rfl rfl rfl ?_; clear hf fa; rintro fa _ w1 ⟨b1, rfl, hle1, hk1, he1⟩ hf
  have hBb1 : w.heap.size ≤ b1 := Nat.le_trans hb.size hle1
  replace hb := hb.trans (Below.mono he1 hb.size)
  refine sqdt hf (d_alloc (z := (.agg #[(.string ⟨#[]⟩), (.string ⟨#[]⟩)])) (cs := #[(.string ⟨#[]⟩), (.string ⟨#[]⟩)]) (by kernel_rfl) rfl) rfl rfl rfl ?_; clear hf fa; rintro fa _ w2 ⟨b2, rfl, hle2, hk2, he2⟩ hf
  have hBb2 : w.heap.size ≤ b2 := Nat.le_trans hb.size hle2
  have : b1 < b2 := Nat.lt_of_lt_of_le (blk_lt hk1) hle2
  replace hk1 := blk_ext hk1 he2
  replace hb := hb.trans (Below.mono he2 hb.size)
  refine sqv hf (r_assign rfl) rfl rfl rfl ?_; clear hf fa; intro fa hf
  apply wpList_nil
  (try simp only [Exit.then, Exit.inBlock, ↓reduceIte, Nat.reduceEqDiff])
  refine hK1 _ _ ?_
  refine wp_seq_k (fun K2 hK2 => ?_)
  refine wp_region_lit ?_
  refine sqv hf (r_move rfl) rfl rfl rfl ?_; clear hf fa; intro fa hf
  refine sqv hf (r_move rfl) rfl rfl rfl ?_; clear hf fa; intro fa hf
  refine sqdt hf (d_callB (vs := [(.slice a n c), (.string nm)]) rfl Try.func45 (by kernel_rfl) (by kernel_rfl) (findU_any l nm _ _ _ _ (RdS.ext hl hb) hn hnm (fun u hu => exps_of (rdMMd.kept _ _ _ hb (hM u hu).1) (Below.refl _ _)))) rfl rfl rfl ?_; clear hf fa; rintro fa _ w3 ⟨rfl, he3⟩ hf
  replace hk1 := blk_ext hk1 he3
  replace hk2 := blk_ext hk2 he3
  replace hb := hb.trans (Below.mono he3 hb.size)
  refine sqv hf (r_move rfl) rfl rfl rfl ?_; clear hf fa; intro fa hf
  refine sqv hf (r_extract rfl (i := 0) rfl) rfl rfl rfl ?_; clear hf fa; intro fa hf
  refine sqv hf (r_extract rfl (i := 1) rfl) rfl rfl rfl ?_; clear hf fa; intro fa hf
  refine sqv hf (r_extract rfl (i := 2) rfl) rfl rfl rfl ?_; clear hf fa; intro fa hf
  refine sqdt hf (d_alloc (z := (.agg #[(.string ⟨#[]⟩), (.int .u8 (0 : Int)), (.int .u32 (0 : Int))])) (cs := #[(.string ⟨#[]⟩), (.int .u8 (0 : Int)), (.int .u32 (0 : Int))]) (by kernel_rfl) rfl) rfl rfl rfl ?_; clear hf fa; rintro fa _ w4 ⟨b3, rfl, hle3, hk3, he4⟩ hf
  have hBb3 : w.heap.size ≤ b3 := Nat.le_trans hb.size hle3
  have : b1 < b3 := Nat.lt_of_lt_of_le (blk_lt hk1) hle3
  have : b2 < b3 := Nat.lt_of_lt_of_le (blk_lt hk2) hle3
  replace hk1 := blk_ext hk1 he4
  replace hk2 := blk_ext hk2 he4
  replace hb := hb.trans (Below.mono he4 hb.size)
  refine sqv hf (r_assign rfl) rfl rfl rfl ?_; clear hf fa; intro fa hf
  refine sqn hf (d_storeK (T := 94) (v := (.agg #[(.string (findU nm l 0).2.1.1), (.int .u8 ((findU nm l 0).2.1.2.1)), (.int .u32 ((findU nm l 0).2.1.2.2.1))])) (cs := #[(.string ⟨#[]⟩), (.int .u8 (0 : Int)), (.int .u32 (0 : Int))]) (cs' := #[(.string (findU nm l 0).2.1.1), (.int .u8 ((findU nm l 0).2.1.2.1)), (.int .u32 ((findU nm l 0).2.1.2.2.1))]) rfl rfl (by kernel_rfl) (by kernel_rfl) hk3 (by kernel_rfl) (by kernel_rfl)) rfl rfl ?_; clear hf fa; rintro fa _ w5 ⟨hk4, hg1⟩ hf
  replace hk1 := blk_grown hk1 hg1 (by omega)
  replace hk2 := blk_grown hk2 hg1 (by omega)
  replace hb := hb.trans (grown_below hg1 hb.size hBb3)
  refine sqv hf (r_assign rfl) rfl rfl rfl ?_; clear hf fa; intro fa hf
  apply wpList_nil
  (try simp only [Exit.then, Exit.inBlock, ↓reduceIte, Nat.reduceEqDiff])
  refine hK2 _ _ ?_
  refine wp_seq_k (fun K3 hK3 => ?_)
  refine wp_seq_k (fun K4 hK4 => ?_)
  refine wp_region_lit ?_
  refine sqv hf (r_move rfl) rfl rfl rfl ?_; clear hf fa; intro fa hf
  refine sqv hf (r_not rfl) rfl rfl rfl ?_; clear hf fa; intro fa hf
  apply wpList_nil
  (try simp only [Exit.then, Exit.inBlock, ↓reduceIte, Nat.reduceEqDiff])
  refine hK4 _ _ ?_
  refine wp_cond_split (t := (!(findU nm l 0).2.2)) (hf.ev rfl) (fun hqt19_1 => ?_) (fun hqt19_1 => ?_)
  · have hqt19_1b := hqt19_1
    try simp only [decide_eq_true_eq, Bool.and_eq_true, Bool.or_eq_true, Bool.not_eq_true', decide_eq_false_iff_not, ne_eq, Bool.not_eq_true] at hqt19_1
    refine wp_seq_k (fun K5 hK5 => ?_)
    refine wp_region_lit ?_
    refine sqv hf (r_build (vs := []) (cs := #[(.int .i64 (0 : Int)), (.int .u32 (0 : Int))]) rfl (fun _ => by kernel_rfl)) rfl rfl rfl ?_; clear hf fa; intro fa hf
    refine sqv hf (r_build (vs := []) (cs := #[(.string ⟨#[]⟩), (.string ⟨#[]⟩)]) rfl (fun _ => by kernel_rfl)) rfl rfl rfl ?_; clear hf fa; intro fa hf
    refine sqn hf (d_storeK (T := 49) (v := (.agg #[(.int .i64 (0 : Int)), (.int .u32 (0 : Int))])) (cs := #[(.int .i64 (0 : Int)), (.int .u32 (0 : Int))]) (cs' := #[(.int .i64 (0 : Int)), (.int .u32 (0 : Int))]) rfl rfl (by kernel_rfl) (by kernel_rfl) hk1 (by kernel_rfl) (by kernel_rfl)) rfl rfl ?_; clear hf fa; rintro fa _ w6 ⟨hk5, hg2⟩ hf
    replace hk2 := blk_grown hk2 hg2 (by omega)
    replace hk4 := blk_grown hk4 hg2 (by omega)
    replace hb := hb.trans (grown_below hg2 hb.size hBb1)
    refine sqn hf (d_storeK (T := 78) (v := (.agg #[(.string ⟨#[]⟩), (.string ⟨#[]⟩)])) (cs := #[(.string ⟨#[]⟩), (.string ⟨#[]⟩)]) (cs' := #[(.string ⟨#[]⟩), (.string ⟨#[]⟩)]) rfl rfl (by kernel_rfl) (by kernel_rfl) hk2 (by kernel_rfl) (by kernel_rfl)) rfl rfl ?_; clear hf fa; rintro fa _ w7 ⟨hk6, hg3⟩ hf
    replace hk5 := blk_grown hk5 hg3 (by omega)
    replace hk4 := blk_grown hk4 hg3 (by omega)
    replace hb := hb.trans (grown_below hg3 hb.size hBb2)
    refine sqv hf (r_assign rfl) rfl rfl rfl ?_; clear hf fa; intro fa hf
    apply wpList_nil
    (try simp only [Exit.then, Exit.inBlock, ↓reduceIte, Nat.reduceEqDiff])
    refine hK5 _ _ ?_
    refine wp_ret ?_
    (try simp only [Exit.then, Exit.inBlock])
    refine retCCT hf rfl rfl hk5 Try.underlying49 rfl (by kernel_rfl) rfl hk6 Try.underlying78 rfl (by kernel_rfl) rfl ?_
    refine ⟨?_, hb⟩; unfold anyP; rw [hqt19_1b]; (try rfl)
  · have hqt19_1b := hqt19_1
    replace hqt19_1 := Bool.eq_false_iff.1 hqt19_1
    try simp only [ne_eq, decide_eq_true_eq, Bool.and_eq_true, Bool.or_eq_true, Bool.not_eq_true', decide_eq_false_iff_not] at hqt19_1
    refine wp_skip ?_
    (try simp only [Exit.then, Exit.inBlock, ↓reduceIte, Nat.reduceEqDiff])
    refine hK3 _ _ ?_
    refine wp_seq_k (fun K6 hK6 => ?_)
    refine wp_seq_k (fun K7 hK7 => ?_)
    refine wp_region_lit ?_
    refine sqv hf (r_fa rfl Try.underlying94 (f := 1) (q := 1) rfl (by kernel_rfl) rfl) rfl rfl rfl ?_; clear hf fa; intro fa hf
    refine sqv hf (r_load (v := (.int .u8 ((findU nm l 0).2.1.2.1))) rfl Try.underlying5 rfl (cell_blk hk4 rfl)) rfl rfl rfl ?_; clear hf fa; intro fa hf
    refine sqv hf (r_ne rfl rfl) rfl rfl rfl ?_; clear hf fa; intro fa hf
    apply wpList_nil
    (try simp only [Exit.then, Exit.inBlock, ↓reduceIte, Nat.reduceEqDiff])
    refine hK7 _ _ ?_
    refine wp_cond_split (t := (decide (((findU nm l 0).2.1.2.1) ≠ (0 : Int)))) (hf.ev rfl) (fun hqt24_1 => ?_) (fun hqt24_1 => ?_)
    · have hqt24_1b := hqt24_1
      try simp only [decide_eq_true_eq, Bool.and_eq_true, Bool.or_eq_true, Bool.not_eq_true', decide_eq_false_iff_not, ne_eq, Bool.not_eq_true] at hqt24_1
      refine wp_seq_k (fun K8 hK8 => ?_)
      refine wp_region_lit ?_
      refine sqv hf (r_build (vs := []) (cs := #[(.int .i64 (0 : Int)), (.int .u32 (0 : Int))]) rfl (fun _ => by kernel_rfl)) rfl rfl rfl ?_; clear hf fa; intro fa hf
      refine sqv hf (r_build (vs := []) (cs := #[(.string ⟨#[]⟩), (.string ⟨#[]⟩)]) rfl (fun _ => by kernel_rfl)) rfl rfl rfl ?_; clear hf fa; intro fa hf
      refine sqn hf (d_storeK (T := 49) (v := (.agg #[(.int .i64 (0 : Int)), (.int .u32 (0 : Int))])) (cs := #[(.int .i64 (0 : Int)), (.int .u32 (0 : Int))]) (cs' := #[(.int .i64 (0 : Int)), (.int .u32 (0 : Int))]) rfl rfl (by kernel_rfl) (by kernel_rfl) hk1 (by kernel_rfl) (by kernel_rfl)) rfl rfl ?_; clear hf fa; rintro fa _ w8 ⟨hk7, hg4⟩ hf
      replace hk2 := blk_grown hk2 hg4 (by omega)
      replace hk4 := blk_grown hk4 hg4 (by omega)
      replace hb := hb.trans (grown_below hg4 hb.size hBb1)
      refine sqn hf (d_storeK (T := 78) (v := (.agg #[(.string ⟨#[]⟩), (.string ⟨#[]⟩)])) (cs := #[(.string ⟨#[]⟩), (.string ⟨#[]⟩)]) (cs' := #[(.string ⟨#[]⟩), (.string ⟨#[]⟩)]) rfl rfl (by kernel_rfl) (by kernel_rfl) hk2 (by kernel_rfl) (by kernel_rfl)) rfl rfl ?_; clear hf fa; rintro fa _ w9 ⟨hk8, hg5⟩ hf
      replace hk7 := blk_grown hk7 hg5 (by omega)
      replace hk4 := blk_grown hk4 hg5 (by omega)
      replace hb := hb.trans (grown_below hg5 hb.size hBb2)
      refine sqv hf (r_assign rfl) rfl rfl rfl ?_; clear hf fa; intro fa hf
      apply wpList_nil
      (try simp only [Exit.then, Exit.inBlock, ↓reduceIte, Nat.reduceEqDiff])
      refine hK8 _ _ ?_
      refine wp_ret ?_
      (try simp only [Exit.then, Exit.inBlock])
      refine retCCT hf rfl rfl hk7 Try.underlying49 rfl (by kernel_rfl) rfl hk8 Try.underlying78 rfl (by kernel_rfl) rfl ?_
      refine ⟨?_, hb⟩; unfold anyP; rw [hqt19_1b, hqt24_1b]; (try rfl)
    · have hqt24_1b := hqt24_1
      replace hqt24_1 := Bool.eq_false_iff.1 hqt24_1
      try simp only [ne_eq, decide_eq_true_eq, Bool.and_eq_true, Bool.or_eq_true, Bool.not_eq_true', decide_eq_false_iff_not] at hqt24_1
      refine wp_skip ?_
      (try simp only [Exit.then, Exit.inBlock, ↓reduceIte, Nat.reduceEqDiff])
      refine hK6 _ _ ?_
      refine wp_seq_k (fun K9 hK9 => ?_)
      have hfd : (findU nm l 0).2.2 = true := by simpa using hqt19_1b
      have hlt := findU_lt hfd
      have hmem := getD_memL (z := zMUn) (show ((findU nm l 0).1).toNat < l.length by omega)
      have hMu := hM _ hmem
      have hxi := fInt_u32 (w := w) (findU_rng (fun u hu => (hM u hu).1) hfd).2.2.1
      have hy1 : (l)[((findU nm l 0).1).toNat]? = some (l.getD ((findU nm l 0).1).toNat zMUn) := (getD_at zMUn (by omega))
      obtain ⟨ab1, aoff1, rfl, hlb1, hel1⟩ := RdS.at hl hy1
      refine wp_region_unT 13 (fun wq => Below w5.heap.size w5 wq) (GA w5.heap.size (.cells #[(.string ⟨#[]⟩), (.string ⟨#[]⟩)] 78 (0, 0)) (.cells #[(.string (typeofP (l.getD ((findU nm l 0).1).toNat zMUn).2.1 ((findU nm l 0).2.1.2.2.1)).1.1), (.string (typeofP (l.getD ((findU nm l 0).1).toNat zMUn).2.1 ((findU nm l 0).2.1.2.2.1)).1.2.1)] 78 (0, 0)))
        (fun V => [(fun x _ => x = (.slice (some ⟨ab1, aoff1, none⟩) n c)), (fun x _ => x = (.int .i64 ((findU nm l 0).1))), (fun x _ => x = (.pointer (some ⟨ab1, (aoff1 + ((findU nm l 0).1).toNat * 18), none⟩))), (fun x _ => x = (.pointer (some ⟨ab1, ((aoff1 + ((findU nm l 0).1).toNat * 18) + 1), none⟩))), (fun x _ => x = (.agg #[(.slice (l.getD ((findU nm l 0).1).toNat zMUn).2.1.1.at' ((l.getD ((findU nm l 0).1).toNat zMUn).2.1.1.len) (l.getD ((findU nm l 0).1).toNat zMUn).2.1.1.cap), (.slice (l.getD ((findU nm l 0).1).toNat zMUn).2.1.2.1.at' ((l.getD ((findU nm l 0).1).toNat zMUn).2.1.2.1.len) (l.getD ((findU nm l 0).1).toNat zMUn).2.1.2.1.cap), (.slice (l.getD ((findU nm l 0).1).toNat zMUn).2.1.2.2.1.at' ((l.getD ((findU nm l 0).1).toNat zMUn).2.1.2.2.1.len) (l.getD ((findU nm l 0).1).toNat zMUn).2.1.2.2.1.cap), (.slice (l.getD ((findU nm l 0).1).toNat zMUn).2.1.2.2.2.1.at' ((l.getD ((findU nm l 0).1).toNat zMUn).2.1.2.2.2.1.len) (l.getD ((findU nm l 0).1).toNat zMUn).2.1.2.2.2.1.cap), (.slice (l.getD ((findU nm l 0).1).toNat zMUn).2.1.2.2.2.2.1.at' ((l.getD ((findU nm l 0).1).toNat zMUn).2.1.2.2.2.2.1.len) (l.getD ((findU nm l 0).1).toNat zMUn).2.1.2.2.2.2.1.cap), (.slice (l.getD ((findU nm l 0).1).toNat zMUn).2.1.2.2.2.2.2.1.at' ((l.getD ((findU nm l 0).1).toNat zMUn).2.1.2.2.2.2.2.1.len) (l.getD ((findU nm l 0).1).toNat zMUn).2.1.2.2.2.2.2.1.cap), (.slice (l.getD ((findU nm l 0).1).toNat zMUn).2.1.2.2.2.2.2.2.1.at' ((l.getD ((findU nm l 0).1).toNat zMUn).2.1.2.2.2.2.2.2.1.len) (l.getD ((findU nm l 0).1).toNat zMUn).2.1.2.2.2.2.2.2.1.cap), (.int .i64 ((l.getD ((findU nm l 0).1).toNat zMUn).2.1.2.2.2.2.2.2.2.1)), (.slice (l.getD ((findU nm l 0).1).toNat zMUn).2.1.2.2.2.2.2.2.2.2.1.at' ((l.getD ((findU nm l 0).1).toNat zMUn).2.1.2.2.2.2.2.2.2.2.1.len) (l.getD ((findU nm l 0).1).toNat zMUn).2.1.2.2.2.2.2.2.2.2.1.cap), (.slice (l.getD ((findU nm l 0).1).toNat zMUn).2.1.2.2.2.2.2.2.2.2.2.1.at' ((l.getD ((findU nm l 0).1).toNat zMUn).2.1.2.2.2.2.2.2.2.2.2.1.len) (l.getD ((findU nm l 0).1).toNat zMUn).2.1.2.2.2.2.2.2.2.2.2.1.cap), (.slice (l.getD ((findU nm l 0).1).toNat zMUn).2.1.2.2.2.2.2.2.2.2.2.2.1.at' ((l.getD ((findU nm l 0).1).toNat zMUn).2.1.2.2.2.2.2.2.2.2.2.2.1.len) (l.getD ((findU nm l 0).1).toNat zMUn).2.1.2.2.2.2.2.2.2.2.2.2.1.cap), (.bool (l.getD ((findU nm l 0).1).toNat zMUn).2.1.2.2.2.2.2.2.2.2.2.2.2.1.1), (.int .u32 ((l.getD ((findU nm l 0).1).toNat zMUn).2.1.2.2.2.2.2.2.2.2.2.2.2.1.2.1)), (.int .u32 ((l.getD ((findU nm l 0).1).toNat zMUn).2.1.2.2.2.2.2.2.2.2.2.2.2.1.2.2.1)), (.int .u32 ((l.getD ((findU nm l 0).1).toNat zMUn).2.1.2.2.2.2.2.2.2.2.2.2.2.1.2.2.2.1)), (.int .u32 ((l.getD ((findU nm l 0).1).toNat zMUn).2.1.2.2.2.2.2.2.2.2.2.2.2.1.2.2.2.2.1)), (.slice (l.getD ((findU nm l 0).1).toNat zMUn).2.1.2.2.2.2.2.2.2.2.2.2.2.1.2.2.2.2.2.1.at' ((l.getD ((findU nm l 0).1).toNat zMUn).2.1.2.2.2.2.2.2.2.2.2.2.2.1.2.2.2.2.2.1.len) (l.getD ((findU nm l 0).1).toNat zMUn).2.1.2.2.2.2.2.2.2.2.2.2.2.1.2.2.2.2.2.1.cap)])), (fun x _ => x = (.pointer (some ⟨b3, 2, none⟩))), (fun x _ => x = (.int .u32 ((findU nm l 0).2.1.2.2.1))), (fun x _ => x = (.tuple #[(.agg #[(.string (typeofP (l.getD ((findU nm l 0).1).toNat zMUn).2.1 ((findU nm l 0).2.1.2.2.1)).1.1), (.string (typeofP (l.getD ((findU nm l 0).1).toNat zMUn).2.1 ((findU nm l 0).2.1.2.2.1)).1.2.1)]), (.bool (typeofP (l.getD ((findU nm l 0).1).toNat zMUn).2.1 ((findU nm l 0).2.1.2.2.1)).2)])), (fun x _ => x = (.tuple #[(.agg #[(.string (typeofP (l.getD ((findU nm l 0).1).toNat zMUn).2.1 ((findU nm l 0).2.1.2.2.1)).1.1), (.string (typeofP (l.getD ((findU nm l 0).1).toNat zMUn).2.1 ((findU nm l 0).2.1.2.2.1)).1.2.1)]), (.bool (typeofP (l.getD ((findU nm l 0).1).toNat zMUn).2.1 ((findU nm l 0).2.1.2.2.1)).2)])), (fun x _ => x = (.agg #[(.string (typeofP (l.getD ((findU nm l 0).1).toNat zMUn).2.1 ((findU nm l 0).2.1.2.2.1)).1.1), (.string (typeofP (l.getD ((findU nm l 0).1).toNat zMUn).2.1 ((findU nm l 0).2.1.2.2.1)).1.2.1)])), (fun x _ => x = (.bool (typeofP (l.getD ((findU nm l 0).1).toNat zMUn).2.1 ((findU nm l 0).2.1.2.2.1)).2)), (fun x wq => ∃ b, x = .pointer (some ⟨b, 0, none⟩) ∧ w5.heap.size ≤ b ∧ (wq.heap[b]? = some (.cells #[(.string ⟨#[]⟩), (.string ⟨#[]⟩)] 78 (0, 0)) ∨ wq.heap[b]? = some (.cells #[(.string (typeofP (l.getD ((findU nm l 0).1).toNat zMUn).2.1 ((findU nm l 0).2.1.2.2.1)).1.1), (.string (typeofP (l.getD ((findU nm l 0).1).toNat zMUn).2.1 ((findU nm l 0).2.1.2.2.1)).1.2.1)] 78 (0, 0)))), (fun _ wq => wq.heap[(bk (V 11))]? = some (.cells #[(.string (typeofP (l.getD ((findU nm l 0).1).toNat zMUn).2.1 ((findU nm l 0).2.1.2.2.1)).1.1), (.string (typeofP (l.getD ((findU nm l 0).1).toNat zMUn).2.1 ((findU nm l 0).2.1.2.2.1)).1.2.1)] 78 (0, 0)))])
        [11]
        [[], [], [0, 1], [2], [3], [], [5], [4, 6], [7], [8], [8], [], [0, 1, 2, 3, 4, 5, 6, 7, 8, 9, 11], []]
        hf (by kernel_rfl) (by kernel_rfl) (by kernel_rfl) (fun _ => rfl) ((Below.refl _ _).drew) (fun a b h1 h2 => h1.trans h2.1) (fun _ _ h => h.1.size) (fun V => ⟨(fun _ _ _ h _ => h), (fun _ _ _ h _ => h), (fun _ _ _ h _ => h), (fun _ _ _ h _ => h), (fun _ _ _ h _ => h), (fun _ _ _ h _ => h), (fun _ _ _ h _ => h), (fun _ _ _ h _ => h), (fun _ _ _ h _ => h), (fun _ _ _ h _ => h), (fun _ _ _ h _ => h), keptA, (fun _ _ _ h hG => GA_new hG h), trivial⟩) (by
           intro V i v j h
           match j with
           | 0 => rfl
           | 1 => rfl
           | 2 => rfl
           | 3 => rfl
           | 4 => rfl
           | 5 => rfl
           | 6 => rfl
           | 7 => rfl
           | 8 => rfl
           | 9 => rfl
           | 10 => rfl
           | 11 => rfl
           | 12 => have e11 : ¬ (11 = i) := fun e => h (by rw [← e]; decide); simp only [List.getD_cons_succ, List.getD_cons_zero, e11, if_false]
           | _ + 13 => rfl) ?_ ?_
      · skip
        intro V
        refine ⟨fun wu0 hC hd => ?_, ?_⟩
        · clear hd
          replace hb := hb.trans (hC.mono hb.size)
          replace hk1 := blk_ext hk1 hC
          replace hk2 := blk_ext hk2 hC
          replace hk4 := blk_ext hk4 hC
          exact Runs.does (r_move rfl) ⟨GA_refl, rfl, nofr rfl⟩
        refine ⟨fun wu1 hC hd => ?_, ?_⟩
        · clear hd
          replace hb := hb.trans (hC.mono hb.size)
          replace hk1 := blk_ext hk1 hC
          replace hk2 := blk_ext hk2 hC
          replace hk4 := blk_ext hk4 hC
          exact Runs.does (r_move rfl) ⟨GA_refl, rfl, nofr rfl⟩
        refine ⟨fun wu2 hC hd => ?_, ?_⟩
        · obtain ⟨h0, h1, _⟩ := hd
          replace h0 : V 0 = (.slice (some ⟨ab1, aoff1, none⟩) n c) := h0
          replace h1 : V 1 = (.int .i64 ((findU nm l 0).1)) := h1
          replace hb := hb.trans (hC.mono hb.size)
          replace hk1 := blk_ext hk1 hC
          replace hk2 := blk_ext hk2 hC
          replace hk4 := blk_ext hk4 hC
          exact Runs.does (r_ixa (sz := 18) (j := ((findU nm l 0).1).toNat) (congrArg some h0) (congrArg some h1) Try.underlying45 (by kernel_rfl) (by omega) (by omega) rfl) ⟨GA_refl, rfl, nofr rfl⟩
        refine ⟨fun wu3 hC hd => ?_, ?_⟩
        · obtain ⟨h2, _⟩ := hd
          replace h2 : V 2 = (.pointer (some ⟨ab1, (aoff1 + ((findU nm l 0).1).toNat * 18), none⟩)) := h2
          replace hb := hb.trans (hC.mono hb.size)
          replace hk1 := blk_ext hk1 hC
          replace hk2 := blk_ext hk2 hC
          replace hk4 := blk_ext hk4 hC
          exact Runs.does (r_fa (congrArg some h2) Try.underlying132 (f := 1) (q := ((aoff1 + ((findU nm l 0).1).toNat * 18) + 1)) rfl (by kernel_rfl) rfl) ⟨GA_refl, rfl, nofr rfl⟩
        refine ⟨fun wu4 hC hd => ?_, ?_⟩
        · obtain ⟨h3, _⟩ := hd
          replace h3 : V 3 = (.pointer (some ⟨ab1, ((aoff1 + ((findU nm l 0).1).toNat * 18) + 1), none⟩)) := h3
          replace hb := hb.trans (hC.mono hb.size)
          replace hk1 := blk_ext hk1 hC
          replace hk2 := blk_ext hk2 hC
          replace hk4 := blk_ext hk4 hC
          exact Runs.does (r_loadA (cs := [(.slice (l.getD ((findU nm l 0).1).toNat zMUn).2.1.1.at' ((l.getD ((findU nm l 0).1).toNat zMUn).2.1.1.len) (l.getD ((findU nm l 0).1).toNat zMUn).2.1.1.cap), (.slice (l.getD ((findU nm l 0).1).toNat zMUn).2.1.2.1.at' ((l.getD ((findU nm l 0).1).toNat zMUn).2.1.2.1.len) (l.getD ((findU nm l 0).1).toNat zMUn).2.1.2.1.cap), (.slice (l.getD ((findU nm l 0).1).toNat zMUn).2.1.2.2.1.at' ((l.getD ((findU nm l 0).1).toNat zMUn).2.1.2.2.1.len) (l.getD ((findU nm l 0).1).toNat zMUn).2.1.2.2.1.cap), (.slice (l.getD ((findU nm l 0).1).toNat zMUn).2.1.2.2.2.1.at' ((l.getD ((findU nm l 0).1).toNat zMUn).2.1.2.2.2.1.len) (l.getD ((findU nm l 0).1).toNat zMUn).2.1.2.2.2.1.cap), (.slice (l.getD ((findU nm l 0).1).toNat zMUn).2.1.2.2.2.2.1.at' ((l.getD ((findU nm l 0).1).toNat zMUn).2.1.2.2.2.2.1.len) (l.getD ((findU nm l 0).1).toNat zMUn).2.1.2.2.2.2.1.cap), (.slice (l.getD ((findU nm l 0).1).toNat zMUn).2.1.2.2.2.2.2.1.at' ((l.getD ((findU nm l 0).1).toNat zMUn).2.1.2.2.2.2.2.1.len) (l.getD ((findU nm l 0).1).toNat zMUn).2.1.2.2.2.2.2.1.cap), (.slice (l.getD ((findU nm l 0).1).toNat zMUn).2.1.2.2.2.2.2.2.1.at' ((l.getD ((findU nm l 0).1).toNat zMUn).2.1.2.2.2.2.2.2.1.len) (l.getD ((findU nm l 0).1).toNat zMUn).2.1.2.2.2.2.2.2.1.cap), (.int .i64 ((l.getD ((findU nm l 0).1).toNat zMUn).2.1.2.2.2.2.2.2.2.1)), (.slice (l.getD ((findU nm l 0).1).toNat zMUn).2.1.2.2.2.2.2.2.2.2.1.at' ((l.getD ((findU nm l 0).1).toNat zMUn).2.1.2.2.2.2.2.2.2.2.1.len) (l.getD ((findU nm l 0).1).toNat zMUn).2.1.2.2.2.2.2.2.2.2.1.cap), (.slice (l.getD ((findU nm l 0).1).toNat zMUn).2.1.2.2.2.2.2.2.2.2.2.1.at' ((l.getD ((findU nm l 0).1).toNat zMUn).2.1.2.2.2.2.2.2.2.2.2.1.len) (l.getD ((findU nm l 0).1).toNat zMUn).2.1.2.2.2.2.2.2.2.2.2.1.cap), (.slice (l.getD ((findU nm l 0).1).toNat zMUn).2.1.2.2.2.2.2.2.2.2.2.2.1.at' ((l.getD ((findU nm l 0).1).toNat zMUn).2.1.2.2.2.2.2.2.2.2.2.2.1.len) (l.getD ((findU nm l 0).1).toNat zMUn).2.1.2.2.2.2.2.2.2.2.2.2.1.cap), (.bool (l.getD ((findU nm l 0).1).toNat zMUn).2.1.2.2.2.2.2.2.2.2.2.2.2.1.1), (.int .u32 ((l.getD ((findU nm l 0).1).toNat zMUn).2.1.2.2.2.2.2.2.2.2.2.2.2.1.2.1)), (.int .u32 ((l.getD ((findU nm l 0).1).toNat zMUn).2.1.2.2.2.2.2.2.2.2.2.2.2.1.2.2.1)), (.int .u32 ((l.getD ((findU nm l 0).1).toNat zMUn).2.1.2.2.2.2.2.2.2.2.2.2.2.1.2.2.2.1)), (.int .u32 ((l.getD ((findU nm l 0).1).toNat zMUn).2.1.2.2.2.2.2.2.2.2.2.2.2.1.2.2.2.2.1)), (.slice (l.getD ((findU nm l 0).1).toNat zMUn).2.1.2.2.2.2.2.2.2.2.2.2.2.1.2.2.2.2.2.1.at' ((l.getD ((findU nm l 0).1).toNat zMUn).2.1.2.2.2.2.2.2.2.2.2.2.2.1.2.2.2.2.2.1.len) (l.getD ((findU nm l 0).1).toNat zMUn).2.1.2.2.2.2.2.2.2.2.2.2.2.1.2.2.2.2.2.1.cap)]) (congrArg some h3) Try.underlying67 rfl (by kernel_rfl) (cellsAt_part (d := 1) (n := 17) (cellsAt_below hel1 hb hlb1) rfl rfl)) ⟨GA_refl, rfl, nofr rfl⟩
        refine ⟨fun wu5 hC hd => ?_, ?_⟩
        · clear hd
          replace hb := hb.trans (hC.mono hb.size)
          replace hk1 := blk_ext hk1 hC
          replace hk2 := blk_ext hk2 hC
          replace hk4 := blk_ext hk4 hC
          exact Runs.does (r_fa rfl Try.underlying94 (f := 2) (q := 2) rfl (by kernel_rfl) rfl) ⟨GA_refl, rfl, nofr rfl⟩
        refine ⟨fun wu6 hC hd => ?_, ?_⟩
        · obtain ⟨h5, _⟩ := hd
          replace h5 : V 5 = (.pointer (some ⟨b3, 2, none⟩)) := h5
          replace hb := hb.trans (hC.mono hb.size)
          replace hk1 := blk_ext hk1 hC
          replace hk2 := blk_ext hk2 hC
          replace hk4 := blk_ext hk4 hC
          exact Runs.does (r_load (v := (.int .u32 ((findU nm l 0).2.1.2.2.1))) (congrArg some h5) Try.underlying44 rfl (cell_blk hk4 rfl)) ⟨GA_refl, rfl, nofr rfl⟩
        refine ⟨fun wu7 hC hd => ?_, ?_⟩
        · obtain ⟨h4, h6, _⟩ := hd
          replace h4 : V 4 = (.agg #[(.slice (l.getD ((findU nm l 0).1).toNat zMUn).2.1.1.at' ((l.getD ((findU nm l 0).1).toNat zMUn).2.1.1.len) (l.getD ((findU nm l 0).1).toNat zMUn).2.1.1.cap), (.slice (l.getD ((findU nm l 0).1).toNat zMUn).2.1.2.1.at' ((l.getD ((findU nm l 0).1).toNat zMUn).2.1.2.1.len) (l.getD ((findU nm l 0).1).toNat zMUn).2.1.2.1.cap), (.slice (l.getD ((findU nm l 0).1).toNat zMUn).2.1.2.2.1.at' ((l.getD ((findU nm l 0).1).toNat zMUn).2.1.2.2.1.len) (l.getD ((findU nm l 0).1).toNat zMUn).2.1.2.2.1.cap), (.slice (l.getD ((findU nm l 0).1).toNat zMUn).2.1.2.2.2.1.at' ((l.getD ((findU nm l 0).1).toNat zMUn).2.1.2.2.2.1.len) (l.getD ((findU nm l 0).1).toNat zMUn).2.1.2.2.2.1.cap), (.slice (l.getD ((findU nm l 0).1).toNat zMUn).2.1.2.2.2.2.1.at' ((l.getD ((findU nm l 0).1).toNat zMUn).2.1.2.2.2.2.1.len) (l.getD ((findU nm l 0).1).toNat zMUn).2.1.2.2.2.2.1.cap), (.slice (l.getD ((findU nm l 0).1).toNat zMUn).2.1.2.2.2.2.2.1.at' ((l.getD ((findU nm l 0).1).toNat zMUn).2.1.2.2.2.2.2.1.len) (l.getD ((findU nm l 0).1).toNat zMUn).2.1.2.2.2.2.2.1.cap), (.slice (l.getD ((findU nm l 0).1).toNat zMUn).2.1.2.2.2.2.2.2.1.at' ((l.getD ((findU nm l 0).1).toNat zMUn).2.1.2.2.2.2.2.2.1.len) (l.getD ((findU nm l 0).1).toNat zMUn).2.1.2.2.2.2.2.2.1.cap), (.int .i64 ((l.getD ((findU nm l 0).1).toNat zMUn).2.1.2.2.2.2.2.2.2.1)), (.slice (l.getD ((findU nm l 0).1).toNat zMUn).2.1.2.2.2.2.2.2.2.2.1.at' ((l.getD ((findU nm l 0).1).toNat zMUn).2.1.2.2.2.2.2.2.2.2.1.len) (l.getD ((findU nm l 0).1).toNat zMUn).2.1.2.2.2.2.2.2.2.2.1.cap), (.slice (l.getD ((findU nm l 0).1).toNat zMUn).2.1.2.2.2.2.2.2.2.2.2.1.at' ((l.getD ((findU nm l 0).1).toNat zMUn).2.1.2.2.2.2.2.2.2.2.2.1.len) (l.getD ((findU nm l 0).1).toNat zMUn).2.1.2.2.2.2.2.2.2.2.2.1.cap), (.slice (l.getD ((findU nm l 0).1).toNat zMUn).2.1.2.2.2.2.2.2.2.2.2.2.1.at' ((l.getD ((findU nm l 0).1).toNat zMUn).2.1.2.2.2.2.2.2.2.2.2.2.1.len) (l.getD ((findU nm l 0).1).toNat zMUn).2.1.2.2.2.2.2.2.2.2.2.2.1.cap), (.bool (l.getD ((findU nm l 0).1).toNat zMUn).2.1.2.2.2.2.2.2.2.2.2.2.2.1.1), (.int .u32 ((l.getD ((findU nm l 0).1).toNat zMUn).2.1.2.2.2.2.2.2.2.2.2.2.2.1.2.1)), (.int .u32 ((l.getD ((findU nm l 0).1).toNat zMUn).2.1.2.2.2.2.2.2.2.2.2.2.2.1.2.2.1)), (.int .u32 ((l.getD ((findU nm l 0).1).toNat zMUn).2.1.2.2.2.2.2.2.2.2.2.2.2.1.2.2.2.1)), (.int .u32 ((l.getD ((findU nm l 0).1).toNat zMUn).2.1.2.2.2.2.2.2.2.2.2.2.2.1.2.2.2.2.1)), (.slice (l.getD ((findU nm l 0).1).toNat zMUn).2.1.2.2.2.2.2.2.2.2.2.2.2.1.2.2.2.2.2.1.at' ((l.getD ((findU nm l 0).1).toNat zMUn).2.1.2.2.2.2.2.2.2.2.2.2.2.1.2.2.2.2.2.1.len) (l.getD ((findU nm l 0).1).toNat zMUn).2.1.2.2.2.2.2.2.2.2.2.2.2.1.2.2.2.2.2.1.cap)]) := h4
          replace h6 : V 6 = (.int .u32 ((findU nm l 0).2.1.2.2.1)) := h6
          replace hb := hb.trans (hC.mono hb.size)
          replace hk1 := blk_ext hk1 hC
          replace hk2 := blk_ext hk2 hC
          replace hk4 := blk_ext hk4 hC
          refine Does.mono (d_callB (vs := [(.agg #[(.slice (l.getD ((findU nm l 0).1).toNat zMUn).2.1.1.at' ((l.getD ((findU nm l 0).1).toNat zMUn).2.1.1.len) (l.getD ((findU nm l 0).1).toNat zMUn).2.1.1.cap), (.slice (l.getD ((findU nm l 0).1).toNat zMUn).2.1.2.1.at' ((l.getD ((findU nm l 0).1).toNat zMUn).2.1.2.1.len) (l.getD ((findU nm l 0).1).toNat zMUn).2.1.2.1.cap), (.slice (l.getD ((findU nm l 0).1).toNat zMUn).2.1.2.2.1.at' ((l.getD ((findU nm l 0).1).toNat zMUn).2.1.2.2.1.len) (l.getD ((findU nm l 0).1).toNat zMUn).2.1.2.2.1.cap), (.slice (l.getD ((findU nm l 0).1).toNat zMUn).2.1.2.2.2.1.at' ((l.getD ((findU nm l 0).1).toNat zMUn).2.1.2.2.2.1.len) (l.getD ((findU nm l 0).1).toNat zMUn).2.1.2.2.2.1.cap), (.slice (l.getD ((findU nm l 0).1).toNat zMUn).2.1.2.2.2.2.1.at' ((l.getD ((findU nm l 0).1).toNat zMUn).2.1.2.2.2.2.1.len) (l.getD ((findU nm l 0).1).toNat zMUn).2.1.2.2.2.2.1.cap), (.slice (l.getD ((findU nm l 0).1).toNat zMUn).2.1.2.2.2.2.2.1.at' ((l.getD ((findU nm l 0).1).toNat zMUn).2.1.2.2.2.2.2.1.len) (l.getD ((findU nm l 0).1).toNat zMUn).2.1.2.2.2.2.2.1.cap), (.slice (l.getD ((findU nm l 0).1).toNat zMUn).2.1.2.2.2.2.2.2.1.at' ((l.getD ((findU nm l 0).1).toNat zMUn).2.1.2.2.2.2.2.2.1.len) (l.getD ((findU nm l 0).1).toNat zMUn).2.1.2.2.2.2.2.2.1.cap), (.int .i64 ((l.getD ((findU nm l 0).1).toNat zMUn).2.1.2.2.2.2.2.2.2.1)), (.slice (l.getD ((findU nm l 0).1).toNat zMUn).2.1.2.2.2.2.2.2.2.2.1.at' ((l.getD ((findU nm l 0).1).toNat zMUn).2.1.2.2.2.2.2.2.2.2.1.len) (l.getD ((findU nm l 0).1).toNat zMUn).2.1.2.2.2.2.2.2.2.2.1.cap), (.slice (l.getD ((findU nm l 0).1).toNat zMUn).2.1.2.2.2.2.2.2.2.2.2.1.at' ((l.getD ((findU nm l 0).1).toNat zMUn).2.1.2.2.2.2.2.2.2.2.2.1.len) (l.getD ((findU nm l 0).1).toNat zMUn).2.1.2.2.2.2.2.2.2.2.2.1.cap), (.slice (l.getD ((findU nm l 0).1).toNat zMUn).2.1.2.2.2.2.2.2.2.2.2.2.1.at' ((l.getD ((findU nm l 0).1).toNat zMUn).2.1.2.2.2.2.2.2.2.2.2.2.1.len) (l.getD ((findU nm l 0).1).toNat zMUn).2.1.2.2.2.2.2.2.2.2.2.2.1.cap), (.bool (l.getD ((findU nm l 0).1).toNat zMUn).2.1.2.2.2.2.2.2.2.2.2.2.2.1.1), (.int .u32 ((l.getD ((findU nm l 0).1).toNat zMUn).2.1.2.2.2.2.2.2.2.2.2.2.2.1.2.1)), (.int .u32 ((l.getD ((findU nm l 0).1).toNat zMUn).2.1.2.2.2.2.2.2.2.2.2.2.2.1.2.2.1)), (.int .u32 ((l.getD ((findU nm l 0).1).toNat zMUn).2.1.2.2.2.2.2.2.2.2.2.2.2.1.2.2.2.1)), (.int .u32 ((l.getD ((findU nm l 0).1).toNat zMUn).2.1.2.2.2.2.2.2.2.2.2.2.2.1.2.2.2.2.1)), (.slice (l.getD ((findU nm l 0).1).toNat zMUn).2.1.2.2.2.2.2.2.2.2.2.2.2.1.2.2.2.2.2.1.at' ((l.getD ((findU nm l 0).1).toNat zMUn).2.1.2.2.2.2.2.2.2.2.2.2.2.1.2.2.2.2.2.1.len) (l.getD ((findU nm l 0).1).toNat zMUn).2.1.2.2.2.2.2.2.2.2.2.2.2.1.2.2.2.2.2.1.cap)]), (.int .u32 ((findU nm l 0).2.1.2.2.1))]) (show [some (V 4), some (V 6)] = [some (.agg #[(.slice (l.getD ((findU nm l 0).1).toNat zMUn).2.1.1.at' ((l.getD ((findU nm l 0).1).toNat zMUn).2.1.1.len) (l.getD ((findU nm l 0).1).toNat zMUn).2.1.1.cap), (.slice (l.getD ((findU nm l 0).1).toNat zMUn).2.1.2.1.at' ((l.getD ((findU nm l 0).1).toNat zMUn).2.1.2.1.len) (l.getD ((findU nm l 0).1).toNat zMUn).2.1.2.1.cap), (.slice (l.getD ((findU nm l 0).1).toNat zMUn).2.1.2.2.1.at' ((l.getD ((findU nm l 0).1).toNat zMUn).2.1.2.2.1.len) (l.getD ((findU nm l 0).1).toNat zMUn).2.1.2.2.1.cap), (.slice (l.getD ((findU nm l 0).1).toNat zMUn).2.1.2.2.2.1.at' ((l.getD ((findU nm l 0).1).toNat zMUn).2.1.2.2.2.1.len) (l.getD ((findU nm l 0).1).toNat zMUn).2.1.2.2.2.1.cap), (.slice (l.getD ((findU nm l 0).1).toNat zMUn).2.1.2.2.2.2.1.at' ((l.getD ((findU nm l 0).1).toNat zMUn).2.1.2.2.2.2.1.len) (l.getD ((findU nm l 0).1).toNat zMUn).2.1.2.2.2.2.1.cap), (.slice (l.getD ((findU nm l 0).1).toNat zMUn).2.1.2.2.2.2.2.1.at' ((l.getD ((findU nm l 0).1).toNat zMUn).2.1.2.2.2.2.2.1.len) (l.getD ((findU nm l 0).1).toNat zMUn).2.1.2.2.2.2.2.1.cap), (.slice (l.getD ((findU nm l 0).1).toNat zMUn).2.1.2.2.2.2.2.2.1.at' ((l.getD ((findU nm l 0).1).toNat zMUn).2.1.2.2.2.2.2.2.1.len) (l.getD ((findU nm l 0).1).toNat zMUn).2.1.2.2.2.2.2.2.1.cap), (.int .i64 ((l.getD ((findU nm l 0).1).toNat zMUn).2.1.2.2.2.2.2.2.2.1)), (.slice (l.getD ((findU nm l 0).1).toNat zMUn).2.1.2.2.2.2.2.2.2.2.1.at' ((l.getD ((findU nm l 0).1).toNat zMUn).2.1.2.2.2.2.2.2.2.2.1.len) (l.getD ((findU nm l 0).1).toNat zMUn).2.1.2.2.2.2.2.2.2.2.1.cap), (.slice (l.getD ((findU nm l 0).1).toNat zMUn).2.1.2.2.2.2.2.2.2.2.2.1.at' ((l.getD ((findU nm l 0).1).toNat zMUn).2.1.2.2.2.2.2.2.2.2.2.1.len) (l.getD ((findU nm l 0).1).toNat zMUn).2.1.2.2.2.2.2.2.2.2.2.1.cap), (.slice (l.getD ((findU nm l 0).1).toNat zMUn).2.1.2.2.2.2.2.2.2.2.2.2.1.at' ((l.getD ((findU nm l 0).1).toNat zMUn).2.1.2.2.2.2.2.2.2.2.2.2.1.len) (l.getD ((findU nm l 0).1).toNat zMUn).2.1.2.2.2.2.2.2.2.2.2.2.1.cap), (.bool (l.getD ((findU nm l 0).1).toNat zMUn).2.1.2.2.2.2.2.2.2.2.2.2.2.1.1), (.int .u32 ((l.getD ((findU nm l 0).1).toNat zMUn).2.1.2.2.2.2.2.2.2.2.2.2.2.1.2.1)), (.int .u32 ((l.getD ((findU nm l 0).1).toNat zMUn).2.1.2.2.2.2.2.2.2.2.2.2.2.1.2.2.1)), (.int .u32 ((l.getD ((findU nm l 0).1).toNat zMUn).2.1.2.2.2.2.2.2.2.2.2.2.2.1.2.2.2.1)), (.int .u32 ((l.getD ((findU nm l 0).1).toNat zMUn).2.1.2.2.2.2.2.2.2.2.2.2.2.1.2.2.2.2.1)), (.slice (l.getD ((findU nm l 0).1).toNat zMUn).2.1.2.2.2.2.2.2.2.2.2.2.2.1.2.2.2.2.2.1.at' ((l.getD ((findU nm l 0).1).toNat zMUn).2.1.2.2.2.2.2.2.2.2.2.2.2.1.2.2.2.2.2.1.len) (l.getD ((findU nm l 0).1).toNat zMUn).2.1.2.2.2.2.2.2.2.2.2.2.2.1.2.2.2.2.2.1.cap)]), some (.int .u32 ((findU nm l 0).2.1.2.2.1))] from by rw [h4, h6]) Try.func72 (by kernel_rfl) (by kernel_rfl) (typeof_any (l.getD ((findU nm l 0).1).toNat zMUn).2.1 ((findU nm l 0).2.1.2.2.1) _ (rdMMd.kept _ _ _ hb hMu.1) hMu.2 hxi)) (fun _ _ h => ⟨GA_below h.2 hC.size, h.1, nofr rfl⟩)
        refine ⟨fun wu8 hC hd => ?_, ?_⟩
        · obtain ⟨h7, _⟩ := hd
          replace h7 : V 7 = (.tuple #[(.agg #[(.string (typeofP (l.getD ((findU nm l 0).1).toNat zMUn).2.1 ((findU nm l 0).2.1.2.2.1)).1.1), (.string (typeofP (l.getD ((findU nm l 0).1).toNat zMUn).2.1 ((findU nm l 0).2.1.2.2.1)).1.2.1)]), (.bool (typeofP (l.getD ((findU nm l 0).1).toNat zMUn).2.1 ((findU nm l 0).2.1.2.2.1)).2)]) := h7
          replace hb := hb.trans (hC.mono hb.size)
          replace hk1 := blk_ext hk1 hC
          replace hk2 := blk_ext hk2 hC
          replace hk4 := blk_ext hk4 hC
          exact Runs.does (r_move (congrArg some h7)) ⟨GA_refl, rfl, nofr rfl⟩
        refine ⟨fun wu9 hC hd => ?_, ?_⟩
        · obtain ⟨h8, _⟩ := hd
          replace h8 : V 8 = (.tuple #[(.agg #[(.string (typeofP (l.getD ((findU nm l 0).1).toNat zMUn).2.1 ((findU nm l 0).2.1.2.2.1)).1.1), (.string (typeofP (l.getD ((findU nm l 0).1).toNat zMUn).2.1 ((findU nm l 0).2.1.2.2.1)).1.2.1)]), (.bool (typeofP (l.getD ((findU nm l 0).1).toNat zMUn).2.1 ((findU nm l 0).2.1.2.2.1)).2)]) := h8
          replace hb := hb.trans (hC.mono hb.size)
          replace hk1 := blk_ext hk1 hC
          replace hk2 := blk_ext hk2 hC
          replace hk4 := blk_ext hk4 hC
          exact Runs.does (r_extract (congrArg some h8) (i := 0) rfl) ⟨GA_refl, rfl, nofr rfl⟩
        refine ⟨fun wu10 hC hd => ?_, ?_⟩
        · obtain ⟨h8, _⟩ := hd
          replace h8 : V 8 = (.tuple #[(.agg #[(.string (typeofP (l.getD ((findU nm l 0).1).toNat zMUn).2.1 ((findU nm l 0).2.1.2.2.1)).1.1), (.string (typeofP (l.getD ((findU nm l 0).1).toNat zMUn).2.1 ((findU nm l 0).2.1.2.2.1)).1.2.1)]), (.bool (typeofP (l.getD ((findU nm l 0).1).toNat zMUn).2.1 ((findU nm l 0).2.1.2.2.1)).2)]) := h8
          replace hb := hb.trans (hC.mono hb.size)
          replace hk1 := blk_ext hk1 hC
          replace hk2 := blk_ext hk2 hC
          replace hk4 := blk_ext hk4 hC
          exact Runs.does (r_extract (congrArg some h8) (i := 1) rfl) ⟨GA_refl, rfl, nofr rfl⟩
        refine ⟨fun wu11 hC hd => ?_, ?_⟩
        · clear hd
          replace hb := hb.trans (hC.mono hb.size)
          replace hk1 := blk_ext hk1 hC
          replace hk2 := blk_ext hk2 hC
          replace hk4 := blk_ext hk4 hC
          refine Does.mono (d_alloc (z := (.agg #[(.string ⟨#[]⟩), (.string ⟨#[]⟩)])) (cs := #[(.string ⟨#[]⟩), (.string ⟨#[]⟩)]) (by kernel_rfl) rfl) ?_
          rintro _ w' ⟨b, rfl, hF⟩
          exact ⟨GA_below hF.2.2 hC.size, ⟨b, rfl, Nat.le_trans hC.size hF.1, .inl hF.2.1⟩, isfr rfl hF.1 (blk_lt hF.2.1)⟩
        refine ⟨fun wu12 hC hd => ?_, ?_⟩
        · obtain ⟨h0, h1, h2, h3, h4, h5, h6, h7, h8, h9, h11, _⟩ := hd
          replace h0 : V 0 = (.slice (some ⟨ab1, aoff1, none⟩) n c) := h0
          replace h1 : V 1 = (.int .i64 ((findU nm l 0).1)) := h1
          replace h2 : V 2 = (.pointer (some ⟨ab1, (aoff1 + ((findU nm l 0).1).toNat * 18), none⟩)) := h2
          replace h3 : V 3 = (.pointer (some ⟨ab1, ((aoff1 + ((findU nm l 0).1).toNat * 18) + 1), none⟩)) := h3
          replace h4 : V 4 = (.agg #[(.slice (l.getD ((findU nm l 0).1).toNat zMUn).2.1.1.at' ((l.getD ((findU nm l 0).1).toNat zMUn).2.1.1.len) (l.getD ((findU nm l 0).1).toNat zMUn).2.1.1.cap), (.slice (l.getD ((findU nm l 0).1).toNat zMUn).2.1.2.1.at' ((l.getD ((findU nm l 0).1).toNat zMUn).2.1.2.1.len) (l.getD ((findU nm l 0).1).toNat zMUn).2.1.2.1.cap), (.slice (l.getD ((findU nm l 0).1).toNat zMUn).2.1.2.2.1.at' ((l.getD ((findU nm l 0).1).toNat zMUn).2.1.2.2.1.len) (l.getD ((findU nm l 0).1).toNat zMUn).2.1.2.2.1.cap), (.slice (l.getD ((findU nm l 0).1).toNat zMUn).2.1.2.2.2.1.at' ((l.getD ((findU nm l 0).1).toNat zMUn).2.1.2.2.2.1.len) (l.getD ((findU nm l 0).1).toNat zMUn).2.1.2.2.2.1.cap), (.slice (l.getD ((findU nm l 0).1).toNat zMUn).2.1.2.2.2.2.1.at' ((l.getD ((findU nm l 0).1).toNat zMUn).2.1.2.2.2.2.1.len) (l.getD ((findU nm l 0).1).toNat zMUn).2.1.2.2.2.2.1.cap), (.slice (l.getD ((findU nm l 0).1).toNat zMUn).2.1.2.2.2.2.2.1.at' ((l.getD ((findU nm l 0).1).toNat zMUn).2.1.2.2.2.2.2.1.len) (l.getD ((findU nm l 0).1).toNat zMUn).2.1.2.2.2.2.2.1.cap), (.slice (l.getD ((findU nm l 0).1).toNat zMUn).2.1.2.2.2.2.2.2.1.at' ((l.getD ((findU nm l 0).1).toNat zMUn).2.1.2.2.2.2.2.2.1.len) (l.getD ((findU nm l 0).1).toNat zMUn).2.1.2.2.2.2.2.2.1.cap), (.int .i64 ((l.getD ((findU nm l 0).1).toNat zMUn).2.1.2.2.2.2.2.2.2.1)), (.slice (l.getD ((findU nm l 0).1).toNat zMUn).2.1.2.2.2.2.2.2.2.2.1.at' ((l.getD ((findU nm l 0).1).toNat zMUn).2.1.2.2.2.2.2.2.2.2.1.len) (l.getD ((findU nm l 0).1).toNat zMUn).2.1.2.2.2.2.2.2.2.2.1.cap), (.slice (l.getD ((findU nm l 0).1).toNat zMUn).2.1.2.2.2.2.2.2.2.2.2.1.at' ((l.getD ((findU nm l 0).1).toNat zMUn).2.1.2.2.2.2.2.2.2.2.2.1.len) (l.getD ((findU nm l 0).1).toNat zMUn).2.1.2.2.2.2.2.2.2.2.2.1.cap), (.slice (l.getD ((findU nm l 0).1).toNat zMUn).2.1.2.2.2.2.2.2.2.2.2.2.1.at' ((l.getD ((findU nm l 0).1).toNat zMUn).2.1.2.2.2.2.2.2.2.2.2.2.1.len) (l.getD ((findU nm l 0).1).toNat zMUn).2.1.2.2.2.2.2.2.2.2.2.2.1.cap), (.bool (l.getD ((findU nm l 0).1).toNat zMUn).2.1.2.2.2.2.2.2.2.2.2.2.2.1.1), (.int .u32 ((l.getD ((findU nm l 0).1).toNat zMUn).2.1.2.2.2.2.2.2.2.2.2.2.2.1.2.1)), (.int .u32 ((l.getD ((findU nm l 0).1).toNat zMUn).2.1.2.2.2.2.2.2.2.2.2.2.2.1.2.2.1)), (.int .u32 ((l.getD ((findU nm l 0).1).toNat zMUn).2.1.2.2.2.2.2.2.2.2.2.2.2.1.2.2.2.1)), (.int .u32 ((l.getD ((findU nm l 0).1).toNat zMUn).2.1.2.2.2.2.2.2.2.2.2.2.2.1.2.2.2.2.1)), (.slice (l.getD ((findU nm l 0).1).toNat zMUn).2.1.2.2.2.2.2.2.2.2.2.2.2.1.2.2.2.2.2.1.at' ((l.getD ((findU nm l 0).1).toNat zMUn).2.1.2.2.2.2.2.2.2.2.2.2.2.1.2.2.2.2.2.1.len) (l.getD ((findU nm l 0).1).toNat zMUn).2.1.2.2.2.2.2.2.2.2.2.2.2.1.2.2.2.2.2.1.cap)]) := h4
          replace h5 : V 5 = (.pointer (some ⟨b3, 2, none⟩)) := h5
          replace h6 : V 6 = (.int .u32 ((findU nm l 0).2.1.2.2.1)) := h6
          replace h7 : V 7 = (.tuple #[(.agg #[(.string (typeofP (l.getD ((findU nm l 0).1).toNat zMUn).2.1 ((findU nm l 0).2.1.2.2.1)).1.1), (.string (typeofP (l.getD ((findU nm l 0).1).toNat zMUn).2.1 ((findU nm l 0).2.1.2.2.1)).1.2.1)]), (.bool (typeofP (l.getD ((findU nm l 0).1).toNat zMUn).2.1 ((findU nm l 0).2.1.2.2.1)).2)]) := h7
          replace h8 : V 8 = (.tuple #[(.agg #[(.string (typeofP (l.getD ((findU nm l 0).1).toNat zMUn).2.1 ((findU nm l 0).2.1.2.2.1)).1.1), (.string (typeofP (l.getD ((findU nm l 0).1).toNat zMUn).2.1 ((findU nm l 0).2.1.2.2.1)).1.2.1)]), (.bool (typeofP (l.getD ((findU nm l 0).1).toNat zMUn).2.1 ((findU nm l 0).2.1.2.2.1)).2)]) := h8
          replace h9 : V 9 = (.agg #[(.string (typeofP (l.getD ((findU nm l 0).1).toNat zMUn).2.1 ((findU nm l 0).2.1.2.2.1)).1.1), (.string (typeofP (l.getD ((findU nm l 0).1).toNat zMUn).2.1 ((findU nm l 0).2.1.2.2.1)).1.2.1)]) := h9
          obtain ⟨b4, h11, hle4, hk9⟩ := h11
          replace hb := hb.trans (hC.mono hb.size)
          replace hk1 := blk_ext hk1 hC
          replace hk2 := blk_ext hk2 hC
          replace hk4 := blk_ext hk4 hC
          refine Does.mono (R := fun _ wz => Wrote wu12 b4 #[(.string (typeofP (l.getD ((findU nm l 0).1).toNat zMUn).2.1 ((findU nm l 0).2.1.2.2.1)).1.1), (.string (typeofP (l.getD ((findU nm l 0).1).toNat zMUn).2.1 ((findU nm l 0).2.1.2.2.1)).1.2.1)] 78 wz) ?_ ?_
          · rcases hk9 with hX | hX
            · exact (d_storeK (T := 78) (v := (.agg #[(.string (typeofP (l.getD ((findU nm l 0).1).toNat zMUn).2.1 ((findU nm l 0).2.1.2.2.1)).1.1), (.string (typeofP (l.getD ((findU nm l 0).1).toNat zMUn).2.1 ((findU nm l 0).2.1.2.2.1)).1.2.1)])) (cs := #[(.string ⟨#[]⟩), (.string ⟨#[]⟩)]) (cs' := #[(.string (typeofP (l.getD ((findU nm l 0).1).toNat zMUn).2.1 ((findU nm l 0).2.1.2.2.1)).1.1), (.string (typeofP (l.getD ((findU nm l 0).1).toNat zMUn).2.1 ((findU nm l 0).2.1.2.2.1)).1.2.1)]) (congrArg some h11) (congrArg some h9) (by kernel_rfl) (by kernel_rfl) hX (by kernel_rfl) (by kernel_rfl))
            · exact (d_storeK (T := 78) (v := (.agg #[(.string (typeofP (l.getD ((findU nm l 0).1).toNat zMUn).2.1 ((findU nm l 0).2.1.2.2.1)).1.1), (.string (typeofP (l.getD ((findU nm l 0).1).toNat zMUn).2.1 ((findU nm l 0).2.1.2.2.1)).1.2.1)])) (cs := #[(.string (typeofP (l.getD ((findU nm l 0).1).toNat zMUn).2.1 ((findU nm l 0).2.1.2.2.1)).1.1), (.string (typeofP (l.getD ((findU nm l 0).1).toNat zMUn).2.1 ((findU nm l 0).2.1.2.2.1)).1.2.1)]) (cs' := #[(.string (typeofP (l.getD ((findU nm l 0).1).toNat zMUn).2.1 ((findU nm l 0).2.1.2.2.1)).1.1), (.string (typeofP (l.getD ((findU nm l 0).1).toNat zMUn).2.1 ((findU nm l 0).2.1.2.2.1)).1.2.1)]) (congrArg some h11) (congrArg some h9) (by kernel_rfl) (by kernel_rfl) hX (by kernel_rfl) (by kernel_rfl))
          · rintro _ wz ⟨hY, hgY⟩
            exact ⟨GA_store hC.size hle4 hk9 hY hgY, (by rw [h11]; exact hY), nofr rfl⟩
        trivial
      · skip
        clear hf fa; intro V w10 fa he5 hp hnb hf
        have hv0 : V 0 = (.slice (some ⟨ab1, aoff1, none⟩) n c) := postsHold_at hp 0 rfl
        have hv1 : V 1 = (.int .i64 ((findU nm l 0).1)) := postsHold_at hp 1 rfl
        have hv2 : V 2 = (.pointer (some ⟨ab1, (aoff1 + ((findU nm l 0).1).toNat * 18), none⟩)) := postsHold_at hp 2 rfl
        have hv3 : V 3 = (.pointer (some ⟨ab1, ((aoff1 + ((findU nm l 0).1).toNat * 18) + 1), none⟩)) := postsHold_at hp 3 rfl
        have hv4 : V 4 = (.agg #[(.slice (l.getD ((findU nm l 0).1).toNat zMUn).2.1.1.at' ((l.getD ((findU nm l 0).1).toNat zMUn).2.1.1.len) (l.getD ((findU nm l 0).1).toNat zMUn).2.1.1.cap), (.slice (l.getD ((findU nm l 0).1).toNat zMUn).2.1.2.1.at' ((l.getD ((findU nm l 0).1).toNat zMUn).2.1.2.1.len) (l.getD ((findU nm l 0).1).toNat zMUn).2.1.2.1.cap), (.slice (l.getD ((findU nm l 0).1).toNat zMUn).2.1.2.2.1.at' ((l.getD ((findU nm l 0).1).toNat zMUn).2.1.2.2.1.len) (l.getD ((findU nm l 0).1).toNat zMUn).2.1.2.2.1.cap), (.slice (l.getD ((findU nm l 0).1).toNat zMUn).2.1.2.2.2.1.at' ((l.getD ((findU nm l 0).1).toNat zMUn).2.1.2.2.2.1.len) (l.getD ((findU nm l 0).1).toNat zMUn).2.1.2.2.2.1.cap), (.slice (l.getD ((findU nm l 0).1).toNat zMUn).2.1.2.2.2.2.1.at' ((l.getD ((findU nm l 0).1).toNat zMUn).2.1.2.2.2.2.1.len) (l.getD ((findU nm l 0).1).toNat zMUn).2.1.2.2.2.2.1.cap), (.slice (l.getD ((findU nm l 0).1).toNat zMUn).2.1.2.2.2.2.2.1.at' ((l.getD ((findU nm l 0).1).toNat zMUn).2.1.2.2.2.2.2.1.len) (l.getD ((findU nm l 0).1).toNat zMUn).2.1.2.2.2.2.2.1.cap), (.slice (l.getD ((findU nm l 0).1).toNat zMUn).2.1.2.2.2.2.2.2.1.at' ((l.getD ((findU nm l 0).1).toNat zMUn).2.1.2.2.2.2.2.2.1.len) (l.getD ((findU nm l 0).1).toNat zMUn).2.1.2.2.2.2.2.2.1.cap), (.int .i64 ((l.getD ((findU nm l 0).1).toNat zMUn).2.1.2.2.2.2.2.2.2.1)), (.slice (l.getD ((findU nm l 0).1).toNat zMUn).2.1.2.2.2.2.2.2.2.2.1.at' ((l.getD ((findU nm l 0).1).toNat zMUn).2.1.2.2.2.2.2.2.2.2.1.len) (l.getD ((findU nm l 0).1).toNat zMUn).2.1.2.2.2.2.2.2.2.2.1.cap), (.slice (l.getD ((findU nm l 0).1).toNat zMUn).2.1.2.2.2.2.2.2.2.2.2.1.at' ((l.getD ((findU nm l 0).1).toNat zMUn).2.1.2.2.2.2.2.2.2.2.2.1.len) (l.getD ((findU nm l 0).1).toNat zMUn).2.1.2.2.2.2.2.2.2.2.2.1.cap), (.slice (l.getD ((findU nm l 0).1).toNat zMUn).2.1.2.2.2.2.2.2.2.2.2.2.1.at' ((l.getD ((findU nm l 0).1).toNat zMUn).2.1.2.2.2.2.2.2.2.2.2.2.1.len) (l.getD ((findU nm l 0).1).toNat zMUn).2.1.2.2.2.2.2.2.2.2.2.2.1.cap), (.bool (l.getD ((findU nm l 0).1).toNat zMUn).2.1.2.2.2.2.2.2.2.2.2.2.2.1.1), (.int .u32 ((l.getD ((findU nm l 0).1).toNat zMUn).2.1.2.2.2.2.2.2.2.2.2.2.2.1.2.1)), (.int .u32 ((l.getD ((findU nm l 0).1).toNat zMUn).2.1.2.2.2.2.2.2.2.2.2.2.2.1.2.2.1)), (.int .u32 ((l.getD ((findU nm l 0).1).toNat zMUn).2.1.2.2.2.2.2.2.2.2.2.2.2.1.2.2.2.1)), (.int .u32 ((l.getD ((findU nm l 0).1).toNat zMUn).2.1.2.2.2.2.2.2.2.2.2.2.2.1.2.2.2.2.1)), (.slice (l.getD ((findU nm l 0).1).toNat zMUn).2.1.2.2.2.2.2.2.2.2.2.2.2.1.2.2.2.2.2.1.at' ((l.getD ((findU nm l 0).1).toNat zMUn).2.1.2.2.2.2.2.2.2.2.2.2.2.1.2.2.2.2.2.1.len) (l.getD ((findU nm l 0).1).toNat zMUn).2.1.2.2.2.2.2.2.2.2.2.2.2.1.2.2.2.2.2.1.cap)]) := postsHold_at hp 4 rfl
        have hv5 : V 5 = (.pointer (some ⟨b3, 2, none⟩)) := postsHold_at hp 5 rfl
        have hv6 : V 6 = (.int .u32 ((findU nm l 0).2.1.2.2.1)) := postsHold_at hp 6 rfl
        have hv7 : V 7 = (.tuple #[(.agg #[(.string (typeofP (l.getD ((findU nm l 0).1).toNat zMUn).2.1 ((findU nm l 0).2.1.2.2.1)).1.1), (.string (typeofP (l.getD ((findU nm l 0).1).toNat zMUn).2.1 ((findU nm l 0).2.1.2.2.1)).1.2.1)]), (.bool (typeofP (l.getD ((findU nm l 0).1).toNat zMUn).2.1 ((findU nm l 0).2.1.2.2.1)).2)]) := postsHold_at hp 7 rfl
        have hv8 : V 8 = (.tuple #[(.agg #[(.string (typeofP (l.getD ((findU nm l 0).1).toNat zMUn).2.1 ((findU nm l 0).2.1.2.2.1)).1.1), (.string (typeofP (l.getD ((findU nm l 0).1).toNat zMUn).2.1 ((findU nm l 0).2.1.2.2.1)).1.2.1)]), (.bool (typeofP (l.getD ((findU nm l 0).1).toNat zMUn).2.1 ((findU nm l 0).2.1.2.2.1)).2)]) := postsHold_at hp 8 rfl
        have hv9 : V 9 = (.agg #[(.string (typeofP (l.getD ((findU nm l 0).1).toNat zMUn).2.1 ((findU nm l 0).2.1.2.2.1)).1.1), (.string (typeofP (l.getD ((findU nm l 0).1).toNat zMUn).2.1 ((findU nm l 0).2.1.2.2.1)).1.2.1)]) := postsHold_at hp 9 rfl
        have hv10 : V 10 = (.bool (typeofP (l.getD ((findU nm l 0).1).toNat zMUn).2.1 ((findU nm l 0).2.1.2.2.1)).2) := postsHold_at hp 10 rfl
        have hv11 := postsHold_at hp 11 rfl
        obtain ⟨b4, hv11, hle4, hk9⟩ := hv11
        have hBb4 : w.heap.size ≤ b4 := Nat.le_trans hb.size hle4
        have hk10 := postsHold_at hp 12 rfl
        replace hk10 : w10.heap[(bk (V 11))]? = some (.cells #[(.string (typeofP (l.getD ((findU nm l 0).1).toNat zMUn).2.1 ((findU nm l 0).2.1.2.2.1)).1.1), (.string (typeofP (l.getD ((findU nm l 0).1).toNat zMUn).2.1 ((findU nm l 0).2.1.2.2.1)).1.2.1)] 78 (0, 0)) := hk10
        rw [hv11] at hk10
        replace hk10 : w10.heap[b4]? = some (.cells #[(.string (typeofP (l.getD ((findU nm l 0).1).toNat zMUn).2.1 ((findU nm l 0).2.1.2.2.1)).1.1), (.string (typeofP (l.getD ((findU nm l 0).1).toNat zMUn).2.1 ((findU nm l 0).2.1.2.2.1)).1.2.1)] 78 (0, 0)) := hk10
        simp only [List.take_succ_cons, List.take_zero, insAll, ins, hv0, hv1, hv2, hv3, hv4, hv5, hv6, hv7, hv8, hv9, hv10, hv11] at hf
        have : b1 < b4 := Nat.lt_of_lt_of_le (blk_lt hk1) hle4
        have : b2 < b4 := Nat.lt_of_lt_of_le (blk_lt hk2) hle4
        have : b3 < b4 := Nat.lt_of_lt_of_le (blk_lt hk4) hle4
        clear hp hnb hv0 hv1 hv2 hv3 hv4 hv5 hv6 hv7 hv8 hv9 hv10 hv11
        replace hk1 := blk_ext hk1 he5
        replace hk2 := blk_ext hk2 he5
        replace hk4 := blk_ext hk4 he5
        replace hb := hb.trans (Below.mono he5 hb.size)
        simp only [List.drop_succ_cons, List.drop_zero]
        refine sqv hf (r_assign rfl) rfl rfl rfl ?_; clear hf fa; intro fa hf
        apply wpList_nil
        (try simp only [Exit.then, Exit.inBlock, ↓reduceIte, Nat.reduceEqDiff])
        refine hK9 _ _ ?_
        refine wp_seq_k (fun K10 hK10 => ?_)
        refine wp_seq_k (fun K11 hK11 => ?_)
        refine wp_region_lit ?_
        refine sqv hf (r_move rfl) rfl rfl rfl ?_; clear hf fa; intro fa hf
        refine sqv hf (r_not rfl) rfl rfl rfl ?_; clear hf fa; intro fa hf
        apply wpList_nil
        (try simp only [Exit.then, Exit.inBlock, ↓reduceIte, Nat.reduceEqDiff])
        refine hK11 _ _ ?_
        refine wp_cond_split (t := (!(typeofP (l.getD ((findU nm l 0).1).toNat zMUn).2.1 ((findU nm l 0).2.1.2.2.1)).2)) (hf.ev rfl) (fun hqt39_1 => ?_) (fun hqt39_1 => ?_)
        · have hqt39_1b := hqt39_1
          try simp only [decide_eq_true_eq, Bool.and_eq_true, Bool.or_eq_true, Bool.not_eq_true', decide_eq_false_iff_not, ne_eq, Bool.not_eq_true] at hqt39_1
          refine wp_seq_k (fun K12 hK12 => ?_)
          refine wp_region_lit ?_
          refine sqv hf (r_build (vs := []) (cs := #[(.int .i64 (0 : Int)), (.int .u32 (0 : Int))]) rfl (fun _ => by kernel_rfl)) rfl rfl rfl ?_; clear hf fa; intro fa hf
          refine sqv hf (r_build (vs := []) (cs := #[(.string ⟨#[]⟩), (.string ⟨#[]⟩)]) rfl (fun _ => by kernel_rfl)) rfl rfl rfl ?_; clear hf fa; intro fa hf
          refine sqn hf (d_storeK (T := 49) (v := (.agg #[(.int .i64 (0 : Int)), (.int .u32 (0 : Int))])) (cs := #[(.int .i64 (0 : Int)), (.int .u32 (0 : Int))]) (cs' := #[(.int .i64 (0 : Int)), (.int .u32 (0 : Int))]) rfl rfl (by kernel_rfl) (by kernel_rfl) hk1 (by kernel_rfl) (by kernel_rfl)) rfl rfl ?_; clear hf fa; rintro fa _ w11 ⟨hk11, hg6⟩ hf
          replace hk2 := blk_grown hk2 hg6 (by omega)
          replace hk4 := blk_grown hk4 hg6 (by omega)
          replace hk10 := blk_grown hk10 hg6 (by omega)
          replace hb := hb.trans (grown_below hg6 hb.size hBb1)
          refine sqn hf (d_storeK (T := 78) (v := (.agg #[(.string ⟨#[]⟩), (.string ⟨#[]⟩)])) (cs := #[(.string ⟨#[]⟩), (.string ⟨#[]⟩)]) (cs' := #[(.string ⟨#[]⟩), (.string ⟨#[]⟩)]) rfl rfl (by kernel_rfl) (by kernel_rfl) hk2 (by kernel_rfl) (by kernel_rfl)) rfl rfl ?_; clear hf fa; rintro fa _ w12 ⟨hk12, hg7⟩ hf
          replace hk11 := blk_grown hk11 hg7 (by omega)
          replace hk4 := blk_grown hk4 hg7 (by omega)
          replace hk10 := blk_grown hk10 hg7 (by omega)
          replace hb := hb.trans (grown_below hg7 hb.size hBb2)
          refine sqv hf (r_assign rfl) rfl rfl rfl ?_; clear hf fa; intro fa hf
          apply wpList_nil
          (try simp only [Exit.then, Exit.inBlock, ↓reduceIte, Nat.reduceEqDiff])
          refine hK12 _ _ ?_
          refine wp_ret ?_
          (try simp only [Exit.then, Exit.inBlock])
          refine retCCT hf rfl rfl hk11 Try.underlying49 rfl (by kernel_rfl) rfl hk12 Try.underlying78 rfl (by kernel_rfl) rfl ?_
          refine ⟨?_, hb⟩; unfold anyP; rw [hqt19_1b, hqt24_1b, hqt39_1b]; (try rfl)
        · have hqt39_1b := hqt39_1
          replace hqt39_1 := Bool.eq_false_iff.1 hqt39_1
          try simp only [ne_eq, decide_eq_true_eq, Bool.and_eq_true, Bool.or_eq_true, Bool.not_eq_true', decide_eq_false_iff_not] at hqt39_1
          refine wp_skip ?_
          (try simp only [Exit.then, Exit.inBlock, ↓reduceIte, Nat.reduceEqDiff])
          refine hK10 _ _ ?_
          refine wp_seq_k (fun K13 hK13 => ?_)
          refine wp_region_unT 6 (fun wc => (w10.grownBy wc (some b1) ∧ (wc.heap[b1]? = some (.cells #[(.int .i64 (0 : Int)), (.int .u32 (0 : Int))] 49 (0, 0)) ∨ wc.heap[b1]? = some (.cells #[(.int .i64 ((findU nm l 0).1)), (.int .u32 ((findU nm l 0).2.1.2.2.1))] 49 (0, 0))))) (fun wa wc => ((w10.grownBy wa (some b1) ∧ (wa.heap[b1]? = some (.cells #[(.int .i64 (0 : Int)), (.int .u32 (0 : Int))] 49 (0, 0)) ∨ wa.heap[b1]? = some (.cells #[(.int .i64 ((findU nm l 0).1)), (.int .u32 ((findU nm l 0).2.1.2.2.1))] 49 (0, 0)))) → (w10.grownBy wc (some b1) ∧ (wc.heap[b1]? = some (.cells #[(.int .i64 (0 : Int)), (.int .u32 (0 : Int))] 49 (0, 0)) ∨ wc.heap[b1]? = some (.cells #[(.int .i64 ((findU nm l 0).1)), (.int .u32 ((findU nm l 0).2.1.2.2.1))] 49 (0, 0))))) ∧ wa.heap.size ≤ wc.heap.size ∧ (wa.heap[b1]? = some (.cells #[(.int .i64 ((findU nm l 0).1)), (.int .u32 ((findU nm l 0).2.1.2.2.1))] 49 (0, 0)) → wc.heap[b1]? = some (.cells #[(.int .i64 ((findU nm l 0).1)), (.int .u32 ((findU nm l 0).2.1.2.2.1))] 49 (0, 0))))
            (fun V => [(fun x _ => x = (.int .i64 ((findU nm l 0).1))), (fun x _ => x = (.pointer (some ⟨b3, 2, none⟩))), (fun x _ => x = (.int .u32 ((findU nm l 0).2.1.2.2.1))), (fun x _ => x = (.agg #[(.int .i64 ((findU nm l 0).1)), (.int .u32 ((findU nm l 0).2.1.2.2.1))])), (fun x _ => x = (.agg #[(.string (typeofP (l.getD ((findU nm l 0).1).toNat zMUn).2.1 ((findU nm l 0).2.1.2.2.1)).1.1), (.string (typeofP (l.getD ((findU nm l 0).1).toNat zMUn).2.1 ((findU nm l 0).2.1.2.2.1)).1.2.1)])), (fun _ wq => wq.heap[b1]? = some (.cells #[(.int .i64 ((findU nm l 0).1)), (.int .u32 ((findU nm l 0).2.1.2.2.1))] 49 (0, 0)))])
            []
            [[], [], [1], [0, 2], [], [0, 1, 2, 3], [], []]
            hf (by kernel_rfl) (by kernel_rfl) (by kernel_rfl) (fun _ => rfl) ⟨below_grown (Below.refl _ _).drew, .inl (blk_ext hk1 (Below.refl _ _).drew)⟩ (fun a b h1 h2 => h2.1 h1) (fun _ _ h => h.2.1) (fun V => ⟨(fun _ _ _ h _ => h), (fun _ _ _ h _ => h), (fun _ _ _ h _ => h), (fun _ _ _ h _ => h), (fun _ _ _ h _ => h), (fun _ _ _ h hG => hG.2.2 h), trivial⟩) (fun _ _ _ _ _ => rfl) ?_ ?_
          · skip
            intro V
            refine ⟨fun wu0 hC hd => ?_, ?_⟩
            · clear hd
              have hgC := hC.1
              replace hk2 := blk_grown hk2 hgC (by omega)
              replace hk4 := blk_grown hk4 hgC (by omega)
              replace hk10 := blk_grown hk10 hgC (by omega)
              replace hb := hb.trans (grown_below hgC hb.size hBb1)
              exact Runs.does (r_move rfl) ⟨⟨id, Nat.le_refl _, id⟩, rfl, nofr rfl⟩
            refine ⟨fun wu1 hC hd => ?_, ?_⟩
            · clear hd
              have hgC := hC.1
              replace hk2 := blk_grown hk2 hgC (by omega)
              replace hk4 := blk_grown hk4 hgC (by omega)
              replace hk10 := blk_grown hk10 hgC (by omega)
              replace hb := hb.trans (grown_below hgC hb.size hBb1)
              exact Runs.does (r_fa rfl Try.underlying94 (f := 2) (q := 2) rfl (by kernel_rfl) rfl) ⟨⟨id, Nat.le_refl _, id⟩, rfl, nofr rfl⟩
            refine ⟨fun wu2 hC hd => ?_, ?_⟩
            · obtain ⟨h1, _⟩ := hd
              replace h1 : V 1 = (.pointer (some ⟨b3, 2, none⟩)) := h1
              have hgC := hC.1
              replace hk2 := blk_grown hk2 hgC (by omega)
              replace hk4 := blk_grown hk4 hgC (by omega)
              replace hk10 := blk_grown hk10 hgC (by omega)
              replace hb := hb.trans (grown_below hgC hb.size hBb1)
              exact Runs.does (r_load (v := (.int .u32 ((findU nm l 0).2.1.2.2.1))) (congrArg some h1) Try.underlying44 rfl (cell_blk hk4 rfl)) ⟨⟨id, Nat.le_refl _, id⟩, rfl, nofr rfl⟩
            refine ⟨fun wu3 hC hd => ?_, ?_⟩
            · obtain ⟨h0, h2, _⟩ := hd
              replace h0 : V 0 = (.int .i64 ((findU nm l 0).1)) := h0
              replace h2 : V 2 = (.int .u32 ((findU nm l 0).2.1.2.2.1)) := h2
              have hgC := hC.1
              replace hk2 := blk_grown hk2 hgC (by omega)
              replace hk4 := blk_grown hk4 hgC (by omega)
              replace hk10 := blk_grown hk10 hgC (by omega)
              replace hb := hb.trans (grown_below hgC hb.size hBb1)
              exact Runs.does (r_build (vs := [(0, (.int .i64 ((findU nm l 0).1))), (1, (.int .u32 ((findU nm l 0).2.1.2.2.1)))]) (cs := #[(.int .i64 ((findU nm l 0).1)), (.int .u32 ((findU nm l 0).2.1.2.2.1))]) (show [(0, some (V 0)), (1, some (V 2))] = [(0, some (.int .i64 ((findU nm l 0).1))), (1, some (.int .u32 ((findU nm l 0).2.1.2.2.1)))] from by rw [h0, h2]) (fun _ => by kernel_rfl)) ⟨⟨id, Nat.le_refl _, id⟩, rfl, nofr rfl⟩
            refine ⟨fun wu4 hC hd => ?_, ?_⟩
            · clear hd
              have hgC := hC.1
              replace hk2 := blk_grown hk2 hgC (by omega)
              replace hk4 := blk_grown hk4 hgC (by omega)
              replace hk10 := blk_grown hk10 hgC (by omega)
              replace hb := hb.trans (grown_below hgC hb.size hBb1)
              exact Runs.does (r_loadA (cs := [(.string (typeofP (l.getD ((findU nm l 0).1).toNat zMUn).2.1 ((findU nm l 0).2.1.2.2.1)).1.1), (.string (typeofP (l.getD ((findU nm l 0).1).toNat zMUn).2.1 ((findU nm l 0).2.1.2.2.1)).1.2.1)]) rfl Try.underlying78 rfl (by kernel_rfl) (cellsAt_blk hk10)) ⟨⟨id, Nat.le_refl _, id⟩, rfl, nofr rfl⟩
            refine ⟨fun wu5 hC hd => ?_, ?_⟩
            · obtain ⟨h0, h1, h2, h3, _⟩ := hd
              replace h0 : V 0 = (.int .i64 ((findU nm l 0).1)) := h0
              replace h1 : V 1 = (.pointer (some ⟨b3, 2, none⟩)) := h1
              replace h2 : V 2 = (.int .u32 ((findU nm l 0).2.1.2.2.1)) := h2
              replace h3 : V 3 = (.agg #[(.int .i64 ((findU nm l 0).1)), (.int .u32 ((findU nm l 0).2.1.2.2.1))]) := h3
              have hgC := hC.1
              replace hk2 := blk_grown hk2 hgC (by omega)
              replace hk4 := blk_grown hk4 hgC (by omega)
              replace hk10 := blk_grown hk10 hgC (by omega)
              replace hb := hb.trans (grown_below hgC hb.size hBb1)
              rcases hC.2 with hX | hX
              · refine Does.mono (d_storeK (T := 49) (v := (.agg #[(.int .i64 ((findU nm l 0).1)), (.int .u32 ((findU nm l 0).2.1.2.2.1))])) (cs := #[(.int .i64 (0 : Int)), (.int .u32 (0 : Int))]) (cs' := #[(.int .i64 ((findU nm l 0).1)), (.int .u32 ((findU nm l 0).2.1.2.2.1))]) rfl (congrArg some h3) (by kernel_rfl) (by kernel_rfl) hX (by kernel_rfl) (by kernel_rfl)) ?_
                rintro _ wz ⟨hY, hgY⟩
                exact ⟨⟨fun _ => ⟨grownBy_trans hgC hgY, .inr hY⟩, hgY.size, fun _ => hY⟩, hY, nofr rfl⟩
              · refine Does.mono (d_storeK (T := 49) (v := (.agg #[(.int .i64 ((findU nm l 0).1)), (.int .u32 ((findU nm l 0).2.1.2.2.1))])) (cs := #[(.int .i64 ((findU nm l 0).1)), (.int .u32 ((findU nm l 0).2.1.2.2.1))]) (cs' := #[(.int .i64 ((findU nm l 0).1)), (.int .u32 ((findU nm l 0).2.1.2.2.1))]) rfl (congrArg some h3) (by kernel_rfl) (by kernel_rfl) hX (by kernel_rfl) (by kernel_rfl)) ?_
                rintro _ wz ⟨hY, hgY⟩
                exact ⟨⟨fun _ => ⟨grownBy_trans hgC hgY, .inr hY⟩, hgY.size, fun _ => hY⟩, hY, nofr rfl⟩
            trivial
          · skip
            clear hf fa; intro V w13 fa he6 hp hnb hf
            have hg8 := he6.1
            have hv0 : V 0 = (.int .i64 ((findU nm l 0).1)) := postsHold_at hp 0 rfl
            have hv1 : V 1 = (.pointer (some ⟨b3, 2, none⟩)) := postsHold_at hp 1 rfl
            have hv2 : V 2 = (.int .u32 ((findU nm l 0).2.1.2.2.1)) := postsHold_at hp 2 rfl
            have hv3 : V 3 = (.agg #[(.int .i64 ((findU nm l 0).1)), (.int .u32 ((findU nm l 0).2.1.2.2.1))]) := postsHold_at hp 3 rfl
            have hv4 : V 4 = (.agg #[(.string (typeofP (l.getD ((findU nm l 0).1).toNat zMUn).2.1 ((findU nm l 0).2.1.2.2.1)).1.1), (.string (typeofP (l.getD ((findU nm l 0).1).toNat zMUn).2.1 ((findU nm l 0).2.1.2.2.1)).1.2.1)]) := postsHold_at hp 4 rfl
            have hk13 := postsHold_at hp 5 rfl
            simp only [List.take_succ_cons, List.take_zero, insAll, ins, hv0, hv1, hv2, hv3, hv4] at hf
            clear hp hnb hv0 hv1 hv2 hv3 hv4
            replace hk2 := blk_grown hk2 hg8 (by omega)
            replace hk4 := blk_grown hk4 hg8 (by omega)
            replace hk10 := blk_grown hk10 hg8 (by omega)
            replace hb := hb.trans (grown_below hg8 hb.size hBb1)
            replace hk13 : w13.heap[b1]? = some (.cells #[(.int .i64 ((findU nm l 0).1)), (.int .u32 ((findU nm l 0).2.1.2.2.1))] 49 (0, 0)) := hk13
            simp only [List.drop_succ_cons, List.drop_zero]
            refine sqn hf (d_storeK (T := 78) (v := (.agg #[(.string (typeofP (l.getD ((findU nm l 0).1).toNat zMUn).2.1 ((findU nm l 0).2.1.2.2.1)).1.1), (.string (typeofP (l.getD ((findU nm l 0).1).toNat zMUn).2.1 ((findU nm l 0).2.1.2.2.1)).1.2.1)])) (cs := #[(.string ⟨#[]⟩), (.string ⟨#[]⟩)]) (cs' := #[(.string (typeofP (l.getD ((findU nm l 0).1).toNat zMUn).2.1 ((findU nm l 0).2.1.2.2.1)).1.1), (.string (typeofP (l.getD ((findU nm l 0).1).toNat zMUn).2.1 ((findU nm l 0).2.1.2.2.1)).1.2.1)]) rfl rfl (by kernel_rfl) (by kernel_rfl) hk2 (by kernel_rfl) (by kernel_rfl)) rfl rfl ?_; clear hf fa; rintro fa _ w14 ⟨hk14, hg9⟩ hf
            replace hk13 := blk_grown hk13 hg9 (by omega)
            replace hk4 := blk_grown hk4 hg9 (by omega)
            replace hk10 := blk_grown hk10 hg9 (by omega)
            replace hb := hb.trans (grown_below hg9 hb.size hBb2)
            refine sqv hf (r_assign rfl) rfl rfl rfl ?_; clear hf fa; intro fa hf
            apply wpList_nil
            (try simp only [Exit.then, Exit.inBlock, ↓reduceIte, Nat.reduceEqDiff])
            refine hK13 _ _ ?_
            refine wp_ret ?_
            (try simp only [Exit.then, Exit.inBlock])
            refine retCCT hf rfl rfl hk13 Try.underlying49 rfl (by kernel_rfl) rfl hk14 Try.underlying78 rfl (by kernel_rfl) rfl ?_
            refine ⟨?_, hb⟩; unfold anyP; rw [hqt19_1b, hqt24_1b, hqt39_1b]; (try rfl)

set_option maxHeartbeats 1000000 in
set_option maxRecDepth 100000 in
theorem findRM_any (d : Sl MMd) (nm : ByteArray) (w : World) (g : fSlW 17 296 vMMd fMMd w d) : Calls Try.prog 50 #[(.slice d.at' d.len d.cap), (.string nm)] w fun e w' => e = .returned (.tuple #[.int .i64 (findRM nm d.list 0).1, .int .i64 (findRM nm d.list 0).2]) ∧ Below w.heap.size w w' := by
  have hdl := g.2.1; have hdc := g.2.2.1; unfold maxLen at hdc
  refine sx_enter (L := [(0, (.slice d.at' d.len d.cap)), (1, (.string nm))]) Try.func50 rfl rfl rfl rfl (fun fa hf => ?_)
  have hb : Below w.heap.size w w := Below.refl _ _
  refine wp_seq_k (fun K1 hK1 => ?_)
  refine wp_region_lit ?_
  refine sqv hf (r_assign rfl) rfl rfl rfl ?_; clear hf fa; intro fa hf
  refine sqv hf (r_assign rfl) rfl rfl rfl ?_; clear hf fa; intro fa hf
  apply wpList_nil
  (try simp only [Exit.then, Exit.inBlock, ↓reduceIte, Nat.reduceEqDiff])
  refine hK1 _ _ ?_
  refine wp_seq_k (fun K2 hK2 => ?_)
  refine wp_seq_k (fun K3 hK3 => ?_)
  refine wp_region_lit ?_
  refine sqv hf (r_assign rfl) rfl rfl rfl ?_; clear hf fa; intro fa hf
  apply wpList_nil
  (try simp only [Exit.then, Exit.inBlock, ↓reduceIte, Nat.reduceEqDiff])
  refine hK3 _ _ ?_
  refine wp_block ?_
  refine wp_loop_k (fun mq fa wr => ∃ (k : Nat), mq = d.len - k ∧ Fr 37 fa [(0, (.slice d.at' d.len d.cap)), (1, (.string nm)), (6, (.int .i64 ((k : Nat) : Int)))] ∧ Below w.heap.size w wr ∧ (k ≤ d.len) ∧ (findRM nm d.list 0 = findRM nm (d.list.drop k) k)) ?_ ?_
  · skip
    exact ⟨_, 0, rfl, hf.sub ⟨rfl, rfl, (some_int (by first | rfl | omega)), trivial⟩, hb, by omega, rfl⟩
  · skip
    clear hf fa; intro mq1 fa w1 hI KL1 hKL1
    clear hb
    obtain ⟨k, hmq1, hf, hb, hk, Hs⟩ := hI
    refine wp_seq_k (fun K4 hK4 => ?_)
    refine wp_seq_k (fun K5 hK5 => ?_)
    refine wp_region_lit ?_
    refine sqv hf (r_move rfl) rfl rfl rfl ?_; clear hf fa; intro fa hf
    refine sqv hf (r_move rfl) rfl rfl rfl ?_; clear hf fa; intro fa hf
    refine sqv hf (r_lensl rfl Try.underlying43) rfl rfl rfl ?_; clear hf fa; intro fa hf
    refine sqv hf (r_lt rfl rfl) rfl rfl rfl ?_; clear hf fa; intro fa hf
    apply wpList_nil
    (try simp only [Exit.then, Exit.inBlock, ↓reduceIte, Nat.reduceEqDiff])
    refine hK5 _ _ ?_
    refine wp_cond_split (t := (decide (((k : Nat) : Int) < ((d.len : Nat) : Int)))) (hf.ev rfl) (fun hqt11_1 => ?_) (fun hqt11_1 => ?_)
    · have hqt11_1b := hqt11_1
      try simp only [decide_eq_true_eq, Bool.and_eq_true, Bool.or_eq_true, Bool.not_eq_true', decide_eq_false_iff_not, ne_eq, Bool.not_eq_true] at hqt11_1
      refine wp_skip ?_
      (try simp only [Exit.then, Exit.inBlock, ↓reduceIte, Nat.reduceEqDiff])
      refine hK4 _ _ ?_
      refine wp_seq_k (fun K6 hK6 => ?_)
      refine wp_block ?_
      refine wp_seq_k (fun K7 hK7 => ?_)
      obtain ⟨y, hy⟩ : ∃ x, d.list[k]? = some x := ⟨_, List.getElem?_eq_getElem (by rw [Sl.list_length]; omega)⟩
      have gy := fSl_el g.2 hy
      have hyl := gy.2.2.2.2.2.2.1.2.1
      have hyc := gy.2.2.2.2.2.2.1.2.2.1
      unfold maxLen at hyc
      refine wp_region_lit ?_
      refine sqv hf (r_assign rfl) rfl rfl rfl ?_; clear hf fa; intro fa hf
      apply wpList_nil
      (try simp only [Exit.then, Exit.inBlock, ↓reduceIte, Nat.reduceEqDiff])
      refine hK7 _ _ ?_
      refine wp_block ?_
      refine wp_loop_k (fun mq fa wr => ∃ (q : Nat), mq = y.2.2.2.2.2.2.1.len - q ∧ Fr 37 fa [(0, (.slice d.at' d.len d.cap)), (1, (.string nm)), (6, (.int .i64 ((k : Nat) : Int))), (7, (.int .i64 ((q : Nat) : Int)))] ∧ Below w.heap.size w wr ∧ (q ≤ y.2.2.2.2.2.2.1.len) ∧ (findK nm y.2.2.2.2.2.2.1.list 0 = findK nm (y.2.2.2.2.2.2.1.list.drop q) q)) ?_ ?_
      · skip
        exact ⟨_, 0, rfl, hf.sub ⟨rfl, rfl, rfl, (some_int (by first | rfl | omega)), trivial⟩, hb, by omega, rfl⟩
      · skip
        clear hf fa; intro mq2 fa w2 hI KL2 hKL2
        clear hb
        obtain ⟨q, hmq2, hf, hb, hq, Hk⟩ := hI
        refine wp_seq_k (fun K8 hK8 => ?_)
        refine wp_seq_k (fun K9 hK9 => ?_)
        refine wp_region_lit ?_
        refine sqv hf (r_move rfl) rfl rfl rfl ?_; clear hf fa; intro fa hf
        refine sqv hf (r_move rfl) rfl rfl rfl ?_; clear hf fa; intro fa hf
        refine sqv hf (r_move rfl) rfl rfl rfl ?_; clear hf fa; intro fa hf
        have hy1 : (d.list)[k]? = some y := hy
        obtain ⟨ab1, aoff1, hat1, hlb1, hel1⟩ := RdS.at (RdS.of_arg g.2) hy1
        refine sqv hf (r_ixa (sz := 17) (j := k) (evAt rfl hat1) rfl Try.underlying43 (by kernel_rfl) rfl (by omega) rfl) rfl rfl rfl ?_; clear hf fa; intro fa hf
        refine sqv hf (r_fa rfl Try.underlying67 (f := 6) (q := ((aoff1 + k * 17) + 6)) rfl (by kernel_rfl) rfl) rfl rfl rfl ?_; clear hf fa; intro fa hf
        refine sqv hf (r_load (v := (.slice y.2.2.2.2.2.2.1.at' y.2.2.2.2.2.2.1.len y.2.2.2.2.2.2.1.cap)) rfl Try.underlying60 rfl (cellsAt_cell (cellsAt_below hel1 hb hlb1) (i := 6) rfl rfl)) rfl rfl rfl ?_; clear hf fa; intro fa hf
        refine sqv hf (r_lensl rfl Try.underlying60) rfl rfl rfl ?_; clear hf fa; intro fa hf
        refine sqv hf (r_lt rfl rfl) rfl rfl rfl ?_; clear hf fa; intro fa hf
        apply wpList_nil
        (try simp only [Exit.then, Exit.inBlock, ↓reduceIte, Nat.reduceEqDiff])
        refine hK9 _ _ ?_
        refine wp_cond_split (t := (decide (((q : Nat) : Int) < ((y.2.2.2.2.2.2.1.len : Nat) : Int)))) (hf.ev rfl) (fun hqt21_1 => ?_) (fun hqt21_1 => ?_)
        · have hqt21_1b := hqt21_1
          try simp only [decide_eq_true_eq, Bool.and_eq_true, Bool.or_eq_true, Bool.not_eq_true', decide_eq_false_iff_not, ne_eq, Bool.not_eq_true] at hqt21_1
          refine wp_skip ?_
          (try simp only [Exit.then, Exit.inBlock, ↓reduceIte, Nat.reduceEqDiff])
          refine hK8 _ _ ?_
          refine wp_seq_k (fun K10 hK10 => ?_)
          refine wp_block ?_
          refine wp_seq_k (fun K11 hK11 => ?_)
          refine wp_region_lit ?_
          refine sqv hf (r_move rfl) rfl rfl rfl ?_; clear hf fa; intro fa hf
          refine sqv hf (r_move rfl) rfl rfl rfl ?_; clear hf fa; intro fa hf
          refine sqv hf (r_ixa (sz := 17) (j := k) (evAt rfl hat1) rfl Try.underlying43 (by kernel_rfl) rfl (by omega) rfl) rfl rfl rfl ?_; clear hf fa; intro fa hf
          refine sqv hf (r_fa rfl Try.underlying67 (f := 6) (q := ((aoff1 + k * 17) + 6)) rfl (by kernel_rfl) rfl) rfl rfl rfl ?_; clear hf fa; intro fa hf
          refine sqv hf (r_load (v := (.slice y.2.2.2.2.2.2.1.at' y.2.2.2.2.2.2.1.len y.2.2.2.2.2.2.1.cap)) rfl Try.underlying60 rfl (cellsAt_cell (cellsAt_below hel1 hb hlb1) (i := 6) rfl rfl)) rfl rfl rfl ?_; clear hf fa; intro fa hf
          refine sqv hf (r_move rfl) rfl rfl rfl ?_; clear hf fa; intro fa hf
          obtain ⟨y2, hy2⟩ : ∃ x, (y.2.2.2.2.2.2.1.list)[q]? = some x := ⟨_, List.getElem?_eq_getElem (by (try simp only [Sl.list_length]); omega)⟩
          obtain ⟨ab2, aoff2, hat2, hlb2, hel2⟩ := RdS.at (RdS.of_arg gy.2.2.2.2.2.2.1.2) hy2
          refine sqv hf (r_ixa (sz := 3) (j := q) (evAt rfl hat2) rfl Try.underlying60 (by kernel_rfl) rfl (by omega) rfl) rfl rfl rfl ?_; clear hf fa; intro fa hf
          refine sqv hf (r_fa rfl Try.underlying94 (f := 0) (q := (aoff2 + q * 3)) rfl (by kernel_rfl) rfl) rfl rfl rfl ?_; clear hf fa; intro fa hf
          refine sqv hf (r_load (v := (.string y2.1)) rfl Try.underlying9 rfl (cellsAt_cell (cellsAt_below hel2 hb hlb2) (i := 0) rfl rfl)) rfl rfl rfl ?_; clear hf fa; intro fa hf
          refine sqv hf (r_move rfl) rfl rfl rfl ?_; clear hf fa; intro fa hf
          refine sqv hf (r_seq rfl rfl) rfl rfl rfl ?_; clear hf fa; intro fa hf
          apply wpList_nil
          (try simp only [Exit.then, Exit.inBlock, ↓reduceIte, Nat.reduceEqDiff])
          refine hK11 _ _ ?_
          refine wp_cond_split (t := (decide (y2.1 = nm))) (hf.ev rfl) (fun hqt34_1 => ?_) (fun hqt34_1 => ?_)
          · have hqt34_1b := hqt34_1
            try simp only [decide_eq_true_eq, Bool.and_eq_true, Bool.or_eq_true, Bool.not_eq_true', decide_eq_false_iff_not, ne_eq, Bool.not_eq_true] at hqt34_1
            refine wp_seq_k (fun K12 hK12 => ?_)
            refine wp_region_lit ?_
            refine sqv hf (r_move rfl) rfl rfl rfl ?_; clear hf fa; intro fa hf
            refine sqv hf (r_move rfl) rfl rfl rfl ?_; clear hf fa; intro fa hf
            refine sqv hf (r_assign rfl) rfl rfl rfl ?_; clear hf fa; intro fa hf
            refine sqv hf (r_assign rfl) rfl rfl rfl ?_; clear hf fa; intro fa hf
            apply wpList_nil
            (try simp only [Exit.then, Exit.inBlock, ↓reduceIte, Nat.reduceEqDiff])
            refine hK12 _ _ ?_
            refine wp_ret ?_
            (try simp only [Exit.then, Exit.inBlock])
            refine ret2 hf rfl rfl rfl ?_
            have hP : (findRM nm d.list 0) = (((k : Nat) : Int), ((q : Nat) : Int)) := by rw [Hs, drop_at hy, findRM, show expsM y = y.2.2.2.2.2.2.1 from rfl, Hk, drop_at hy2, findK, if_pos hqt34_1]
            rw [hP]; exact ⟨rfl, hb⟩
          · have hqt34_1b := hqt34_1
            replace hqt34_1 := Bool.eq_false_iff.1 hqt34_1
            try simp only [ne_eq, decide_eq_true_eq, Bool.and_eq_true, Bool.or_eq_true, Bool.not_eq_true', decide_eq_false_iff_not] at hqt34_1
            refine wp_skip ?_
            (try simp only [Exit.then, Exit.inBlock, ↓reduceIte, Nat.reduceEqDiff])
            refine hK10 _ _ ?_
            refine wp_region_lit ?_
            refine sqv hf (r_move rfl) rfl rfl rfl ?_; clear hf fa; intro fa hf
            refine sqv hf (r_add (C := (((q : Nat) : Int) + (1 : Int))) rfl rfl (by rw [IntKind.wrap_i64]; omega)) rfl rfl rfl ?_; clear hf fa; intro fa hf
            refine sqv hf (r_assign rfl) rfl rfl rfl ?_; clear hf fa; intro fa hf
            apply wpList_nil
            (try simp only [Exit.then, Exit.inBlock, ↓reduceIte, Nat.reduceEqDiff])
            refine hKL2 _ _ _ (by omega) ⟨(q + 1), rfl, hf.sub ⟨rfl, rfl, rfl, (some_int (by first | rfl | omega)), trivial⟩, hb, by omega, (by have h := Hk; rw [drop_at hy2, findK, if_neg hqt34_1] at h; exact h)⟩
        · have hqt21_1b := hqt21_1
          replace hqt21_1 := Bool.eq_false_iff.1 hqt21_1
          try simp only [ne_eq, decide_eq_true_eq, Bool.and_eq_true, Bool.or_eq_true, Bool.not_eq_true', decide_eq_false_iff_not] at hqt21_1
          refine wp_exit ?_
          (try simp only [Exit.then, Exit.inBlock, ↓reduceIte, Nat.reduceEqDiff])
          refine hK6 _ _ ?_
          refine wp_region_lit ?_
          refine sqv hf (r_move rfl) rfl rfl rfl ?_; clear hf fa; intro fa hf
          refine sqv hf (r_add (C := (((k : Nat) : Int) + (1 : Int))) rfl rfl (by rw [IntKind.wrap_i64]; omega)) rfl rfl rfl ?_; clear hf fa; intro fa hf
          refine sqv hf (r_assign rfl) rfl rfl rfl ?_; clear hf fa; intro fa hf
          apply wpList_nil
          (try simp only [Exit.then, Exit.inBlock, ↓reduceIte, Nat.reduceEqDiff])
          refine hKL1 _ _ _ (by omega) ⟨(k + 1), rfl, hf.sub ⟨rfl, rfl, (some_int (by first | rfl | omega)), trivial⟩, hb, by omega, (by have h := Hs; rw [drop_at hy, findRM, show expsM y = y.2.2.2.2.2.2.1 from rfl, Hk, List.drop_eq_nil_of_le (by rw [Sl.list_length]; omega), findK] at h; exact h)⟩
    · have hqt11_1b := hqt11_1
      replace hqt11_1 := Bool.eq_false_iff.1 hqt11_1
      try simp only [ne_eq, decide_eq_true_eq, Bool.and_eq_true, Bool.or_eq_true, Bool.not_eq_true', decide_eq_false_iff_not] at hqt11_1
      refine wp_exit ?_
      (try simp only [Exit.then, Exit.inBlock, ↓reduceIte, Nat.reduceEqDiff])
      refine hK2 _ _ ?_
      refine wp_seq_k (fun K13 hK13 => ?_)
      refine wp_region_lit ?_
      refine sqv hf (r_assign rfl) rfl rfl rfl ?_; clear hf fa; intro fa hf
      refine sqv hf (r_assign rfl) rfl rfl rfl ?_; clear hf fa; intro fa hf
      apply wpList_nil
      (try simp only [Exit.then, Exit.inBlock, ↓reduceIte, Nat.reduceEqDiff])
      refine hK13 _ _ ?_
      refine wp_ret ?_
      (try simp only [Exit.then, Exit.inBlock])
      refine ret2 hf rfl rfl rfl ?_
      have hP : (findRM nm d.list 0) = (-1, -1) := by rw [Hs, List.drop_eq_nil_of_le (by rw [Sl.list_length]; omega), findRM]
      rw [hP]; exact ⟨rfl, hb⟩

def ranyP (d : Sl MMd) (nm : ByteArray) : Int × Int × MFt × Int :=
  bif (decide (((findRM nm d.list 0).1) < (0 : Int))) then ((0 : Int), (0 : Int), (⟨#[]⟩, ⟨#[]⟩, ()), (42 : Int))
  else bif (decide ((((d.list.getD ((findRM nm d.list 0).1).toNat zMMd).2.2.2.2.2.2.1.list.getD ((findRM nm d.list 0).2).toNat zMExp).2.1) ≠ (0 : Int))) then ((0 : Int), (0 : Int), (⟨#[]⟩, ⟨#[]⟩, ()), (43 : Int))
  else bif (decide ((((d.list.getD ((findRM nm d.list 0).1).toNat zMMd).2.2.2.2.2.2.1.list.getD ((findRM nm d.list 0).2).toNat zMExp).2.2.1).toNat < (funcsP (d.list.getD ((findRM nm d.list 0).1).toNat zMMd)).length)) then bif (decide ((((d.list.getD ((findRM nm d.list 0).1).toNat zMMd).1.len : Nat) : Int) ≤ (((funcsP (d.list.getD ((findRM nm d.list 0).1).toNat zMMd)).getD (((d.list.getD ((findRM nm d.list 0).1).toNat zMMd).2.2.2.2.2.2.1.list.getD ((findRM nm d.list 0).2).toNat zMExp).2.2.1).toNat (0 : Int))))) then ((0 : Int), (0 : Int), (⟨#[]⟩, ⟨#[]⟩, ()), (20 : Int))
  else ((findRM nm d.list 0).1, ((d.list.getD ((findRM nm d.list 0).1).toNat zMMd).2.2.2.2.2.2.1.list.getD ((findRM nm d.list 0).2).toNat zMExp).2.2.1, ((d.list.getD ((findRM nm d.list 0).1).toNat zMMd).1.list.getD (((funcsP (d.list.getD ((findRM nm d.list 0).1).toNat zMMd)).getD (((d.list.getD ((findRM nm d.list 0).1).toNat zMMd).2.2.2.2.2.2.1.list.getD ((findRM nm d.list 0).2).toNat zMExp).2.2.1).toNat (0 : Int))).toNat zMFt), (0 : Int))
  else ((0 : Int), (0 : Int), (⟨#[]⟩, ⟨#[]⟩, ()), (20 : Int))

set_option maxHeartbeats 1000000 in
set_option maxRecDepth 100000 in
theorem rany_any (d : Sl MMd) (nm : ByteArray) (w : World) (g : fSlW 17 296 vMMd fMMd w d) (hS : ∀ m ∈ d.list, smallP m) : Calls Try.prog 52 #[(.slice d.at' d.len d.cap), (.string nm)] w fun e w' => e = .returned (.tuple #[(.int .i64 ((ranyP d nm).1)), (.int .u32 ((ranyP d nm).2.1)), (.agg #[(.string (ranyP d nm).2.2.1.1), (.string (ranyP d nm).2.2.1.2.1)]), (.int .i64 ((ranyP d nm).2.2.2))]) ∧ Below w.heap.size w w' := by
  have hdl := g.2.1; have hdc := g.2.2.1; unfold maxLen at hdc
  refine sx_enter (L := [(0, (.slice d.at' d.len d.cap)), (1, (.string nm))]) Try.func52 rfl rfl rfl rfl (fun fa hf => ?_)
  have hb : Below w.heap.size w w := Below.refl _ _
  refine wp_seq_k (fun K1 hK1 => ?_)
  refine wp_region_lit ?_
  refine sqv hf (r_assign rfl) rfl rfl rfl ?_; clear hf fa; intro fa hf
  refine sqv hf (r_assign rfl) rfl rfl rfl ?_; clear hf fa; intro fa hf
  refine sqdt hf (d_alloc (z := (.agg #[(.string ⟨#[]⟩), (.string ⟨#[]⟩)])) (cs := #[(.string ⟨#[]⟩), (.string ⟨#[]⟩)]) (by kernel_rfl) rfl) rfl rfl rfl ?_; clear hf fa; rintro fa _ w1 ⟨b1, rfl, hle1, hk1, he1⟩ hf
  have hBb1 : w.heap.size ≤ b1 := Nat.le_trans hb.size hle1
  replace hb := hb.trans (Below.mono he1 hb.size)
  refine sqv hf (r_assign rfl) rfl rfl rfl ?_; clear hf fa; intro fa hf
  apply wpList_nil
  (try simp only [Exit.then, Exit.inBlock, ↓reduceIte, Nat.reduceEqDiff])
  refine hK1 _ _ ?_
  refine wp_seq_k (fun K2 hK2 => ?_)
  refine wp_region_lit ?_
  refine sqv hf (r_move rfl) rfl rfl rfl ?_; clear hf fa; intro fa hf
  refine sqv hf (r_move rfl) rfl rfl rfl ?_; clear hf fa; intro fa hf
  refine sqdt hf (d_callB (vs := [(.slice d.at' d.len d.cap), (.string nm)]) rfl Try.func50 (by kernel_rfl) (by kernel_rfl) (findRM_any d nm _ ⟨g.1, fSl_kept g.2 hb⟩)) rfl rfl rfl ?_; clear hf fa; rintro fa _ w2 ⟨rfl, he2⟩ hf
  replace hk1 := blk_ext hk1 he2
  replace hb := hb.trans (Below.mono he2 hb.size)
  refine sqv hf (r_move rfl) rfl rfl rfl ?_; clear hf fa; intro fa hf
  refine sqv hf (r_extract rfl (i := 0) rfl) rfl rfl rfl ?_; clear hf fa; intro fa hf
  refine sqv hf (r_extract rfl (i := 1) rfl) rfl rfl rfl ?_; clear hf fa; intro fa hf
  refine sqv hf (r_assign rfl) rfl rfl rfl ?_; clear hf fa; intro fa hf
  refine sqv hf (r_assign rfl) rfl rfl rfl ?_; clear hf fa; intro fa hf
  apply wpList_nil
  (try simp only [Exit.then, Exit.inBlock, ↓reduceIte, Nat.reduceEqDiff])
  refine hK2 _ _ ?_
  refine wp_seq_k (fun K3 hK3 => ?_)
  refine wp_seq_k (fun K4 hK4 => ?_)
  refine wp_region_lit ?_
  refine sqv hf (r_move rfl) rfl rfl rfl ?_; clear hf fa; intro fa hf
  refine sqv hf (r_lt rfl rfl) rfl rfl rfl ?_; clear hf fa; intro fa hf
  apply wpList_nil
  (try simp only [Exit.then, Exit.inBlock, ↓reduceIte, Nat.reduceEqDiff])
  refine hK4 _ _ ?_
  refine wp_cond_split (t := (decide (((findRM nm d.list 0).1) < (0 : Int)))) (hf.ev rfl) (fun hqt19_1 => ?_) (fun hqt19_1 => ?_)
  · have hqt19_1b := hqt19_1
    try simp only [decide_eq_true_eq, Bool.and_eq_true, Bool.or_eq_true, Bool.not_eq_true', decide_eq_false_iff_not, ne_eq, Bool.not_eq_true] at hqt19_1
    refine wp_seq_k (fun K5 hK5 => ?_)
    refine wp_region_lit ?_
    refine sqv hf (r_build (vs := []) (cs := #[(.string ⟨#[]⟩), (.string ⟨#[]⟩)]) rfl (fun _ => by kernel_rfl)) rfl rfl rfl ?_; clear hf fa; intro fa hf
    refine sqv hf (r_assign rfl) rfl rfl rfl ?_; clear hf fa; intro fa hf
    refine sqv hf (r_assign rfl) rfl rfl rfl ?_; clear hf fa; intro fa hf
    refine sqn hf (d_storeK (T := 78) (v := (.agg #[(.string ⟨#[]⟩), (.string ⟨#[]⟩)])) (cs := #[(.string ⟨#[]⟩), (.string ⟨#[]⟩)]) (cs' := #[(.string ⟨#[]⟩), (.string ⟨#[]⟩)]) rfl rfl (by kernel_rfl) (by kernel_rfl) hk1 (by kernel_rfl) (by kernel_rfl)) rfl rfl ?_; clear hf fa; rintro fa _ w3 ⟨hk2, hg1⟩ hf
    replace hb := hb.trans (grown_below hg1 hb.size hBb1)
    refine sqv hf (r_assign rfl) rfl rfl rfl ?_; clear hf fa; intro fa hf
    apply wpList_nil
    (try simp only [Exit.then, Exit.inBlock, ↓reduceIte, Nat.reduceEqDiff])
    refine hK5 _ _ ?_
    refine wp_ret ?_
    (try simp only [Exit.then, Exit.inBlock])
    refine retTTCT hf rfl rfl rfl rfl hk2 Try.underlying78 rfl (by kernel_rfl) rfl ?_
    refine ⟨?_, hb⟩; unfold ranyP; rw [hqt19_1b]; (try rfl)
  · have hqt19_1b := hqt19_1
    replace hqt19_1 := Bool.eq_false_iff.1 hqt19_1
    try simp only [ne_eq, decide_eq_true_eq, Bool.and_eq_true, Bool.or_eq_true, Bool.not_eq_true', decide_eq_false_iff_not] at hqt19_1
    refine wp_skip ?_
    (try simp only [Exit.then, Exit.inBlock, ↓reduceIte, Nat.reduceEqDiff])
    refine hK3 _ _ ?_
    refine wp_seq_k (fun K6 hK6 => ?_)
    obtain ⟨fj, fk, fm, fx, hf1, hf2, hf3⟩ := findRM_ok (l := d.list) (i := 0) hqt19_1
    have hj0 : (findRM nm d.list 0).1 = ((fj : Nat) : Int) := by rw [hf1]; simp
    have hk0 : (findRM nm d.list 0).2 = ((fk : Nat) : Int) := by rw [hf1]
    have hjl : fj < d.len := by have := (List.getElem?_eq_some_iff.1 hf2).1; rwa [Sl.list_length] at this
    have hMe : (d.list.getD ((findRM nm d.list 0).1).toNat zMMd) = fm := by rw [hj0, show ((fj : Nat) : Int).toNat = fj from rfl, List.getD_eq_getElem?_getD, hf2]; rfl
    have hkl : fk < (d.list.getD ((findRM nm d.list 0).1).toNat zMMd).2.2.2.2.2.2.1.len := by have := (List.getElem?_eq_some_iff.1 hf3).1; rw [Sl.list_length] at this; rw [hMe]; exact this
    have hmm : (d.list.getD ((findRM nm d.list 0).1).toNat zMMd) ∈ d.list := getD_memL (by rw [Sl.list_length]; omega)
    have gM := fSl_mem g.2 hmm
    have hX := fInt_u32 (w := w) (fSl_mem gM.2.2.2.2.2.2.1.2 (getD_memL (z := zMExp) (show ((findRM nm d.list 0).2).toNat < (d.list.getD ((findRM nm d.list 0).1).toNat zMMd).2.2.2.2.2.2.1.list.length by rw [Sl.list_length]; omega))).2.2.1
    have hml : maxLen = 9223372036854775807 := rfl
    have hfr := funcs_rng gM
    have hTb := gM.1.1
    refine wp_region_lit ?_
    refine sqv hf (r_move rfl) rfl rfl rfl ?_; clear hf fa; intro fa hf
    refine sqv hf (r_move rfl) rfl rfl rfl ?_; clear hf fa; intro fa hf
    have hy1 : (d.list)[((findRM nm d.list 0).1).toNat]? = some (d.list.getD ((findRM nm d.list 0).1).toNat zMMd) := (getD_at zMMd (by rw [Sl.list_length]; omega))
    obtain ⟨ab1, aoff1, hat1, hlb1, hel1⟩ := RdS.at (RdS.of_arg g.2) hy1
    refine sqv hf (r_ixa (sz := 17) (j := ((findRM nm d.list 0).1).toNat) (evAt rfl hat1) rfl Try.underlying43 (by kernel_rfl) (by omega) (by omega) rfl) rfl rfl rfl ?_; clear hf fa; intro fa hf
    refine sqv hf (r_fa rfl Try.underlying67 (f := 6) (q := ((aoff1 + ((findRM nm d.list 0).1).toNat * 17) + 6)) rfl (by kernel_rfl) rfl) rfl rfl rfl ?_; clear hf fa; intro fa hf
    refine sqv hf (r_load (v := (.slice (d.list.getD ((findRM nm d.list 0).1).toNat zMMd).2.2.2.2.2.2.1.at' ((d.list.getD ((findRM nm d.list 0).1).toNat zMMd).2.2.2.2.2.2.1.len) (d.list.getD ((findRM nm d.list 0).1).toNat zMMd).2.2.2.2.2.2.1.cap)) rfl Try.underlying60 rfl (cellsAt_cell (cellsAt_below hel1 hb hlb1) (i := 6) rfl rfl)) rfl rfl rfl ?_; clear hf fa; intro fa hf
    refine sqv hf (r_move rfl) rfl rfl rfl ?_; clear hf fa; intro fa hf
    have hy2 : ((d.list.getD ((findRM nm d.list 0).1).toNat zMMd).2.2.2.2.2.2.1.list)[((findRM nm d.list 0).2).toNat]? = some ((d.list.getD ((findRM nm d.list 0).1).toNat zMMd).2.2.2.2.2.2.1.list.getD ((findRM nm d.list 0).2).toNat zMExp) := (getD_at zMExp (by rw [Sl.list_length]; omega))
    obtain ⟨ab2, aoff2, hat2, hlb2, hel2⟩ := RdS.at (RdS.of_arg gM.2.2.2.2.2.2.1.2) hy2
    refine sqv hf (r_ixa (sz := 3) (j := ((findRM nm d.list 0).2).toNat) (evAt rfl hat2) rfl Try.underlying60 (by kernel_rfl) (by omega) (by omega) rfl) rfl rfl rfl ?_; clear hf fa; intro fa hf
    refine sqv hf (r_loadA (cs := [(.string ((d.list.getD ((findRM nm d.list 0).1).toNat zMMd).2.2.2.2.2.2.1.list.getD ((findRM nm d.list 0).2).toNat zMExp).1), (.int .u8 (((d.list.getD ((findRM nm d.list 0).1).toNat zMMd).2.2.2.2.2.2.1.list.getD ((findRM nm d.list 0).2).toNat zMExp).2.1)), (.int .u32 (((d.list.getD ((findRM nm d.list 0).1).toNat zMMd).2.2.2.2.2.2.1.list.getD ((findRM nm d.list 0).2).toNat zMExp).2.2.1))]) rfl Try.underlying94 rfl (by kernel_rfl) (cellsAt_below hel2 hb hlb2)) rfl rfl rfl ?_; clear hf fa; intro fa hf
    refine sqdt hf (d_alloc (z := (.agg #[(.string ⟨#[]⟩), (.int .u8 (0 : Int)), (.int .u32 (0 : Int))])) (cs := #[(.string ⟨#[]⟩), (.int .u8 (0 : Int)), (.int .u32 (0 : Int))]) (by kernel_rfl) rfl) rfl rfl rfl ?_; clear hf fa; rintro fa _ w4 ⟨b2, rfl, hle2, hk3, he3⟩ hf
    have hBb2 : w.heap.size ≤ b2 := Nat.le_trans hb.size hle2
    have : b1 < b2 := Nat.lt_of_lt_of_le (blk_lt hk1) hle2
    replace hk1 := blk_ext hk1 he3
    replace hb := hb.trans (Below.mono he3 hb.size)
    refine sqn hf (d_storeK (T := 94) (v := (.agg #[(.string ((d.list.getD ((findRM nm d.list 0).1).toNat zMMd).2.2.2.2.2.2.1.list.getD ((findRM nm d.list 0).2).toNat zMExp).1), (.int .u8 (((d.list.getD ((findRM nm d.list 0).1).toNat zMMd).2.2.2.2.2.2.1.list.getD ((findRM nm d.list 0).2).toNat zMExp).2.1)), (.int .u32 (((d.list.getD ((findRM nm d.list 0).1).toNat zMMd).2.2.2.2.2.2.1.list.getD ((findRM nm d.list 0).2).toNat zMExp).2.2.1))])) (cs := #[(.string ⟨#[]⟩), (.int .u8 (0 : Int)), (.int .u32 (0 : Int))]) (cs' := #[(.string ((d.list.getD ((findRM nm d.list 0).1).toNat zMMd).2.2.2.2.2.2.1.list.getD ((findRM nm d.list 0).2).toNat zMExp).1), (.int .u8 (((d.list.getD ((findRM nm d.list 0).1).toNat zMMd).2.2.2.2.2.2.1.list.getD ((findRM nm d.list 0).2).toNat zMExp).2.1)), (.int .u32 (((d.list.getD ((findRM nm d.list 0).1).toNat zMMd).2.2.2.2.2.2.1.list.getD ((findRM nm d.list 0).2).toNat zMExp).2.2.1))]) rfl rfl (by kernel_rfl) (by kernel_rfl) hk3 (by kernel_rfl) (by kernel_rfl)) rfl rfl ?_; clear hf fa; rintro fa _ w5 ⟨hk4, hg2⟩ hf
    replace hk1 := blk_grown hk1 hg2 (by omega)
    replace hb := hb.trans (grown_below hg2 hb.size hBb2)
    apply wpList_nil
    (try simp only [Exit.then, Exit.inBlock, ↓reduceIte, Nat.reduceEqDiff])
    refine hK6 _ _ ?_
    refine wp_seq_k (fun K7 hK7 => ?_)
    refine wp_seq_k (fun K8 hK8 => ?_)
    refine wp_region_lit ?_
    refine sqv hf (r_fa rfl Try.underlying94 (f := 1) (q := 1) rfl (by kernel_rfl) rfl) rfl rfl rfl ?_; clear hf fa; intro fa hf
    refine sqv hf (r_load (v := (.int .u8 (((d.list.getD ((findRM nm d.list 0).1).toNat zMMd).2.2.2.2.2.2.1.list.getD ((findRM nm d.list 0).2).toNat zMExp).2.1))) rfl Try.underlying5 rfl (cell_blk hk4 rfl)) rfl rfl rfl ?_; clear hf fa; intro fa hf
    refine sqv hf (r_ne rfl rfl) rfl rfl rfl ?_; clear hf fa; intro fa hf
    apply wpList_nil
    (try simp only [Exit.then, Exit.inBlock, ↓reduceIte, Nat.reduceEqDiff])
    refine hK8 _ _ ?_
    refine wp_cond_split (t := (decide ((((d.list.getD ((findRM nm d.list 0).1).toNat zMMd).2.2.2.2.2.2.1.list.getD ((findRM nm d.list 0).2).toNat zMExp).2.1) ≠ (0 : Int)))) (hf.ev rfl) (fun hqt31_1 => ?_) (fun hqt31_1 => ?_)
    · have hqt31_1b := hqt31_1
      try simp only [decide_eq_true_eq, Bool.and_eq_true, Bool.or_eq_true, Bool.not_eq_true', decide_eq_false_iff_not, ne_eq, Bool.not_eq_true] at hqt31_1
      refine wp_seq_k (fun K9 hK9 => ?_)
      refine wp_region_lit ?_
      refine sqv hf (r_build (vs := []) (cs := #[(.string ⟨#[]⟩), (.string ⟨#[]⟩)]) rfl (fun _ => by kernel_rfl)) rfl rfl rfl ?_; clear hf fa; intro fa hf
      refine sqv hf (r_assign rfl) rfl rfl rfl ?_; clear hf fa; intro fa hf
      refine sqv hf (r_assign rfl) rfl rfl rfl ?_; clear hf fa; intro fa hf
      refine sqn hf (d_storeK (T := 78) (v := (.agg #[(.string ⟨#[]⟩), (.string ⟨#[]⟩)])) (cs := #[(.string ⟨#[]⟩), (.string ⟨#[]⟩)]) (cs' := #[(.string ⟨#[]⟩), (.string ⟨#[]⟩)]) rfl rfl (by kernel_rfl) (by kernel_rfl) hk1 (by kernel_rfl) (by kernel_rfl)) rfl rfl ?_; clear hf fa; rintro fa _ w6 ⟨hk5, hg3⟩ hf
      replace hk4 := blk_grown hk4 hg3 (by omega)
      replace hb := hb.trans (grown_below hg3 hb.size hBb1)
      refine sqv hf (r_assign rfl) rfl rfl rfl ?_; clear hf fa; intro fa hf
      apply wpList_nil
      (try simp only [Exit.then, Exit.inBlock, ↓reduceIte, Nat.reduceEqDiff])
      refine hK9 _ _ ?_
      refine wp_ret ?_
      (try simp only [Exit.then, Exit.inBlock])
      refine retTTCT hf rfl rfl rfl rfl hk5 Try.underlying78 rfl (by kernel_rfl) rfl ?_
      refine ⟨?_, hb⟩; unfold ranyP; rw [hqt19_1b, hqt31_1b]; (try rfl)
    · have hqt31_1b := hqt31_1
      replace hqt31_1 := Bool.eq_false_iff.1 hqt31_1
      try simp only [ne_eq, decide_eq_true_eq, Bool.and_eq_true, Bool.or_eq_true, Bool.not_eq_true', decide_eq_false_iff_not] at hqt31_1
      refine wp_skip ?_
      (try simp only [Exit.then, Exit.inBlock, ↓reduceIte, Nat.reduceEqDiff])
      refine hK7 _ _ ?_
      refine wp_seq_k (fun K10 hK10 => ?_)
      refine wp_region_lit ?_
      refine sqv hf (r_move rfl) rfl rfl rfl ?_; clear hf fa; intro fa hf
      refine sqv hf (r_move rfl) rfl rfl rfl ?_; clear hf fa; intro fa hf
      refine sqv hf (r_ixa (sz := 17) (j := ((findRM nm d.list 0).1).toNat) (evAt rfl hat1) rfl Try.underlying43 (by kernel_rfl) (by omega) (by omega) rfl) rfl rfl rfl ?_; clear hf fa; intro fa hf
      refine sqv hf (r_loadA (cs := [(.slice (d.list.getD ((findRM nm d.list 0).1).toNat zMMd).1.at' ((d.list.getD ((findRM nm d.list 0).1).toNat zMMd).1.len) (d.list.getD ((findRM nm d.list 0).1).toNat zMMd).1.cap), (.slice (d.list.getD ((findRM nm d.list 0).1).toNat zMMd).2.1.at' ((d.list.getD ((findRM nm d.list 0).1).toNat zMMd).2.1.len) (d.list.getD ((findRM nm d.list 0).1).toNat zMMd).2.1.cap), (.slice (d.list.getD ((findRM nm d.list 0).1).toNat zMMd).2.2.1.at' ((d.list.getD ((findRM nm d.list 0).1).toNat zMMd).2.2.1.len) (d.list.getD ((findRM nm d.list 0).1).toNat zMMd).2.2.1.cap), (.slice (d.list.getD ((findRM nm d.list 0).1).toNat zMMd).2.2.2.1.at' ((d.list.getD ((findRM nm d.list 0).1).toNat zMMd).2.2.2.1.len) (d.list.getD ((findRM nm d.list 0).1).toNat zMMd).2.2.2.1.cap), (.slice (d.list.getD ((findRM nm d.list 0).1).toNat zMMd).2.2.2.2.1.at' ((d.list.getD ((findRM nm d.list 0).1).toNat zMMd).2.2.2.2.1.len) (d.list.getD ((findRM nm d.list 0).1).toNat zMMd).2.2.2.2.1.cap), (.slice (d.list.getD ((findRM nm d.list 0).1).toNat zMMd).2.2.2.2.2.1.at' ((d.list.getD ((findRM nm d.list 0).1).toNat zMMd).2.2.2.2.2.1.len) (d.list.getD ((findRM nm d.list 0).1).toNat zMMd).2.2.2.2.2.1.cap), (.slice (d.list.getD ((findRM nm d.list 0).1).toNat zMMd).2.2.2.2.2.2.1.at' ((d.list.getD ((findRM nm d.list 0).1).toNat zMMd).2.2.2.2.2.2.1.len) (d.list.getD ((findRM nm d.list 0).1).toNat zMMd).2.2.2.2.2.2.1.cap), (.int .i64 ((d.list.getD ((findRM nm d.list 0).1).toNat zMMd).2.2.2.2.2.2.2.1)), (.slice (d.list.getD ((findRM nm d.list 0).1).toNat zMMd).2.2.2.2.2.2.2.2.1.at' ((d.list.getD ((findRM nm d.list 0).1).toNat zMMd).2.2.2.2.2.2.2.2.1.len) (d.list.getD ((findRM nm d.list 0).1).toNat zMMd).2.2.2.2.2.2.2.2.1.cap), (.slice (d.list.getD ((findRM nm d.list 0).1).toNat zMMd).2.2.2.2.2.2.2.2.2.1.at' ((d.list.getD ((findRM nm d.list 0).1).toNat zMMd).2.2.2.2.2.2.2.2.2.1.len) (d.list.getD ((findRM nm d.list 0).1).toNat zMMd).2.2.2.2.2.2.2.2.2.1.cap), (.slice (d.list.getD ((findRM nm d.list 0).1).toNat zMMd).2.2.2.2.2.2.2.2.2.2.1.at' ((d.list.getD ((findRM nm d.list 0).1).toNat zMMd).2.2.2.2.2.2.2.2.2.2.1.len) (d.list.getD ((findRM nm d.list 0).1).toNat zMMd).2.2.2.2.2.2.2.2.2.2.1.cap), (.bool (d.list.getD ((findRM nm d.list 0).1).toNat zMMd).2.2.2.2.2.2.2.2.2.2.2.1.1), (.int .u32 ((d.list.getD ((findRM nm d.list 0).1).toNat zMMd).2.2.2.2.2.2.2.2.2.2.2.1.2.1)), (.int .u32 ((d.list.getD ((findRM nm d.list 0).1).toNat zMMd).2.2.2.2.2.2.2.2.2.2.2.1.2.2.1)), (.int .u32 ((d.list.getD ((findRM nm d.list 0).1).toNat zMMd).2.2.2.2.2.2.2.2.2.2.2.1.2.2.2.1)), (.int .u32 ((d.list.getD ((findRM nm d.list 0).1).toNat zMMd).2.2.2.2.2.2.2.2.2.2.2.1.2.2.2.2.1)), (.slice (d.list.getD ((findRM nm d.list 0).1).toNat zMMd).2.2.2.2.2.2.2.2.2.2.2.1.2.2.2.2.2.1.at' ((d.list.getD ((findRM nm d.list 0).1).toNat zMMd).2.2.2.2.2.2.2.2.2.2.2.1.2.2.2.2.2.1.len) (d.list.getD ((findRM nm d.list 0).1).toNat zMMd).2.2.2.2.2.2.2.2.2.2.2.1.2.2.2.2.2.1.cap)]) rfl Try.underlying67 rfl (by kernel_rfl) (cellsAt_below hel1 hb hlb1)) rfl rfl rfl ?_; clear hf fa; intro fa hf
      refine sqdt hf (d_callX (vs := [(.agg #[(.slice (d.list.getD ((findRM nm d.list 0).1).toNat zMMd).1.at' ((d.list.getD ((findRM nm d.list 0).1).toNat zMMd).1.len) (d.list.getD ((findRM nm d.list 0).1).toNat zMMd).1.cap), (.slice (d.list.getD ((findRM nm d.list 0).1).toNat zMMd).2.1.at' ((d.list.getD ((findRM nm d.list 0).1).toNat zMMd).2.1.len) (d.list.getD ((findRM nm d.list 0).1).toNat zMMd).2.1.cap), (.slice (d.list.getD ((findRM nm d.list 0).1).toNat zMMd).2.2.1.at' ((d.list.getD ((findRM nm d.list 0).1).toNat zMMd).2.2.1.len) (d.list.getD ((findRM nm d.list 0).1).toNat zMMd).2.2.1.cap), (.slice (d.list.getD ((findRM nm d.list 0).1).toNat zMMd).2.2.2.1.at' ((d.list.getD ((findRM nm d.list 0).1).toNat zMMd).2.2.2.1.len) (d.list.getD ((findRM nm d.list 0).1).toNat zMMd).2.2.2.1.cap), (.slice (d.list.getD ((findRM nm d.list 0).1).toNat zMMd).2.2.2.2.1.at' ((d.list.getD ((findRM nm d.list 0).1).toNat zMMd).2.2.2.2.1.len) (d.list.getD ((findRM nm d.list 0).1).toNat zMMd).2.2.2.2.1.cap), (.slice (d.list.getD ((findRM nm d.list 0).1).toNat zMMd).2.2.2.2.2.1.at' ((d.list.getD ((findRM nm d.list 0).1).toNat zMMd).2.2.2.2.2.1.len) (d.list.getD ((findRM nm d.list 0).1).toNat zMMd).2.2.2.2.2.1.cap), (.slice (d.list.getD ((findRM nm d.list 0).1).toNat zMMd).2.2.2.2.2.2.1.at' ((d.list.getD ((findRM nm d.list 0).1).toNat zMMd).2.2.2.2.2.2.1.len) (d.list.getD ((findRM nm d.list 0).1).toNat zMMd).2.2.2.2.2.2.1.cap), (.int .i64 ((d.list.getD ((findRM nm d.list 0).1).toNat zMMd).2.2.2.2.2.2.2.1)), (.slice (d.list.getD ((findRM nm d.list 0).1).toNat zMMd).2.2.2.2.2.2.2.2.1.at' ((d.list.getD ((findRM nm d.list 0).1).toNat zMMd).2.2.2.2.2.2.2.2.1.len) (d.list.getD ((findRM nm d.list 0).1).toNat zMMd).2.2.2.2.2.2.2.2.1.cap), (.slice (d.list.getD ((findRM nm d.list 0).1).toNat zMMd).2.2.2.2.2.2.2.2.2.1.at' ((d.list.getD ((findRM nm d.list 0).1).toNat zMMd).2.2.2.2.2.2.2.2.2.1.len) (d.list.getD ((findRM nm d.list 0).1).toNat zMMd).2.2.2.2.2.2.2.2.2.1.cap), (.slice (d.list.getD ((findRM nm d.list 0).1).toNat zMMd).2.2.2.2.2.2.2.2.2.2.1.at' ((d.list.getD ((findRM nm d.list 0).1).toNat zMMd).2.2.2.2.2.2.2.2.2.2.1.len) (d.list.getD ((findRM nm d.list 0).1).toNat zMMd).2.2.2.2.2.2.2.2.2.2.1.cap), (.bool (d.list.getD ((findRM nm d.list 0).1).toNat zMMd).2.2.2.2.2.2.2.2.2.2.2.1.1), (.int .u32 ((d.list.getD ((findRM nm d.list 0).1).toNat zMMd).2.2.2.2.2.2.2.2.2.2.2.1.2.1)), (.int .u32 ((d.list.getD ((findRM nm d.list 0).1).toNat zMMd).2.2.2.2.2.2.2.2.2.2.2.1.2.2.1)), (.int .u32 ((d.list.getD ((findRM nm d.list 0).1).toNat zMMd).2.2.2.2.2.2.2.2.2.2.2.1.2.2.2.1)), (.int .u32 ((d.list.getD ((findRM nm d.list 0).1).toNat zMMd).2.2.2.2.2.2.2.2.2.2.2.1.2.2.2.2.1)), (.slice (d.list.getD ((findRM nm d.list 0).1).toNat zMMd).2.2.2.2.2.2.2.2.2.2.2.1.2.2.2.2.2.1.at' ((d.list.getD ((findRM nm d.list 0).1).toNat zMMd).2.2.2.2.2.2.2.2.2.2.2.1.2.2.2.2.2.1.len) (d.list.getD ((findRM nm d.list 0).1).toNat zMMd).2.2.2.2.2.2.2.2.2.2.2.1.2.2.2.2.2.1.cap)])]) rfl Try.func73 (by kernel_rfl) (by kernel_rfl) (rfuncs_any (d.list.getD ((findRM nm d.list 0).1).toNat zMMd) _ (rdMMd.kept _ _ _ hb gM) (hS _ hmm))) rfl rfl rfl ?_; clear hf fa; rintro fa v w7 ⟨hr1, he4⟩ hf; obtain ⟨ra1, rc1, rfl, hcrc1, hmrc1⟩ := Row.slice hr1
      replace hr1 := Row.rebase hr1 hb.size
      replace hk1 := blk_ext hk1 he4
      replace hk4 := blk_ext hk4 he4
      replace hb := hb.trans (Below.mono he4 hb.size)
      refine sqv hf (r_assign rfl) rfl rfl rfl ?_; clear hf fa; intro fa hf
      apply wpList_nil
      (try simp only [Exit.then, Exit.inBlock, ↓reduceIte, Nat.reduceEqDiff])
      refine hK10 _ _ ?_
      refine wp_seq_k (fun K11 hK11 => ?_)
      refine wp_seq_k (fun K12 hK12 => ?_)
      skip
      by_cases hsp1 : (((d.list.getD ((findRM nm d.list 0).1).toNat zMMd).2.2.2.2.2.2.1.list.getD ((findRM nm d.list 0).2).toNat zMExp).2.2.1).toNat < (funcsP (d.list.getD ((findRM nm d.list 0).1).toNat zMMd)).length
      · have hsp1b : decide ((((d.list.getD ((findRM nm d.list 0).1).toNat zMMd).2.2.2.2.2.2.1.list.getD ((findRM nm d.list 0).2).toNat zMExp).2.2.1).toNat < (funcsP (d.list.getD ((findRM nm d.list 0).1).toNat zMMd)).length) = true := decide_eq_true hsp1
        have hfr2 := hfr _ (getD_memL (z := (0 : Int)) hsp1)
        obtain ⟨rb1, rfl, hbbrb1, hlbrb1⟩ := Row.some hr1 (by first | omega | (simp only [Sl.list_length, List.length_set, List.length_take, List.length_drop, List.length_append, List.length_replicate, List.length_cons, List.length_nil]; omega))
        have hy3 := getD_at (l := (funcsP (d.list.getD ((findRM nm d.list 0).1).toNat zMMd))) (j := (((d.list.getD ((findRM nm d.list 0).1).toNat zMMd).2.2.2.2.2.2.1.list.getD ((findRM nm d.list 0).2).toNat zMExp).2.2.1).toNat) (0 : Int) (by first | omega | (simp only [Sl.list_length, List.length_set, List.length_take, List.length_drop, List.length_append, List.length_replicate, List.length_cons, List.length_nil]; omega))
        have hel3 := RdS.at (Row.rd (by intros; rfl) hr1) hy3
        obtain ⟨_, _, hab, hlr1, hel3⟩ := hel3
        cases hab
        refine wp_region_un (fun wq => Below w7.heap.size w7 wq) (fun w w' => Below w.heap.size w w')
          (fun V => [(fun x _ => x = (.pointer (some ⟨b2, 2, none⟩))), (fun x _ => x = (.int .u32 (((d.list.getD ((findRM nm d.list 0).1).toNat zMMd).2.2.2.2.2.2.1.list.getD ((findRM nm d.list 0).2).toNat zMExp).2.2.1))), (fun x _ => x = (.int .i64 (((d.list.getD ((findRM nm d.list 0).1).toNat zMMd).2.2.2.2.2.2.1.list.getD ((findRM nm d.list 0).2).toNat zMExp).2.2.1))), (fun x _ => x = (.slice (some ⟨rb1, 0, none⟩) (((funcsP (d.list.getD ((findRM nm d.list 0).1).toNat zMMd))).length) rc1)), (fun x _ => x = (.int .i64 ((((funcsP (d.list.getD ((findRM nm d.list 0).1).toNat zMMd))).length : Nat) : Int))), (fun x _ => x = (.bool (decide (((((funcsP (d.list.getD ((findRM nm d.list 0).1).toNat zMMd))).length : Nat) : Int) ≤ (((d.list.getD ((findRM nm d.list 0).1).toNat zMMd).2.2.2.2.2.2.1.list.getD ((findRM nm d.list 0).2).toNat zMExp).2.2.1))))), (fun x _ => x = (.bool (decide (((((funcsP (d.list.getD ((findRM nm d.list 0).1).toNat zMMd))).length : Nat) : Int) ≤ (((d.list.getD ((findRM nm d.list 0).1).toNat zMMd).2.2.2.2.2.2.1.list.getD ((findRM nm d.list 0).2).toNat zMExp).2.2.1))))), (fun x _ => x = (.slice (some ⟨rb1, 0, none⟩) (((funcsP (d.list.getD ((findRM nm d.list 0).1).toNat zMMd))).length) rc1)), (fun x _ => x = (.pointer (some ⟨b2, 2, none⟩))), (fun x _ => x = (.int .u32 (((d.list.getD ((findRM nm d.list 0).1).toNat zMMd).2.2.2.2.2.2.1.list.getD ((findRM nm d.list 0).2).toNat zMExp).2.2.1))), (fun x _ => x = (.pointer (some ⟨rb1, (0 + (((d.list.getD ((findRM nm d.list 0).1).toNat zMMd).2.2.2.2.2.2.1.list.getD ((findRM nm d.list 0).2).toNat zMExp).2.2.1).toNat * 1), none⟩))), (fun x _ => x = (.int .u32 (((funcsP (d.list.getD ((findRM nm d.list 0).1).toNat zMMd)).getD (((d.list.getD ((findRM nm d.list 0).1).toNat zMMd).2.2.2.2.2.2.1.list.getD ((findRM nm d.list 0).2).toNat zMExp).2.2.1).toNat (0 : Int))))), (fun x _ => x = (.int .i64 (((funcsP (d.list.getD ((findRM nm d.list 0).1).toNat zMMd)).getD (((d.list.getD ((findRM nm d.list 0).1).toNat zMMd).2.2.2.2.2.2.1.list.getD ((findRM nm d.list 0).2).toNat zMExp).2.2.1).toNat (0 : Int))))), (fun x _ => x = (.slice d.at' d.len d.cap)), (fun x _ => x = (.int .i64 ((findRM nm d.list 0).1))), (fun x _ => x = (.pointer (some ⟨ab1, (aoff1 + ((findRM nm d.list 0).1).toNat * 17), none⟩))), (fun x _ => x = (.pointer (some ⟨ab1, (aoff1 + ((findRM nm d.list 0).1).toNat * 17), none⟩))), (fun x _ => x = (.slice (d.list.getD ((findRM nm d.list 0).1).toNat zMMd).1.at' ((d.list.getD ((findRM nm d.list 0).1).toNat zMMd).1.len) (d.list.getD ((findRM nm d.list 0).1).toNat zMMd).1.cap)), (fun x _ => x = (.int .i64 (((d.list.getD ((findRM nm d.list 0).1).toNat zMMd).1.len : Nat) : Int))), (fun x _ => x = (.bool (decide ((((d.list.getD ((findRM nm d.list 0).1).toNat zMMd).1.len : Nat) : Int) ≤ (((funcsP (d.list.getD ((findRM nm d.list 0).1).toNat zMMd)).getD (((d.list.getD ((findRM nm d.list 0).1).toNat zMMd).2.2.2.2.2.2.1.list.getD ((findRM nm d.list 0).2).toNat zMExp).2.2.1).toNat (0 : Int))))))), (fun x _ => x = (.bool (decide ((((d.list.getD ((findRM nm d.list 0).1).toNat zMMd).1.len : Nat) : Int) ≤ (((funcsP (d.list.getD ((findRM nm d.list 0).1).toNat zMMd)).getD (((d.list.getD ((findRM nm d.list 0).1).toNat zMMd).2.2.2.2.2.2.1.list.getD ((findRM nm d.list 0).2).toNat zMExp).2.2.1).toNat (0 : Int)))))))])
          []
          [[], [0], [1], [], [3], [2, 4], [5], [6], [6], [6, 8], [6, 7, 9], [6, 10], [6, 11], [6], [6], [6, 13, 14], [6, 15], [6, 16], [6, 17], [6, 12, 18], [6, 19]]
          hf (by kernel_rfl) (by kernel_rfl) (fun _ => rfl) ((Below.refl _ _).drew) (fun a b h1 h2 => h1.trans (h2.mono h1.size)) (fun _ _ h => h.size) (fun V => ⟨kept_eq, kept_eq, kept_eq, kept_eq, kept_eq, kept_eq, kept_eq, kept_eq, kept_eq, kept_eq, kept_eq, kept_eq, kept_eq, kept_eq, kept_eq, kept_eq, kept_eq, kept_eq, kept_eq, kept_eq, kept_eq, trivial⟩) (fun _ _ _ _ _ => rfl) ?_ ?_
        · skip
          intro V
          refine ⟨fun wu0 hC hd => ?_, ?_⟩
          · clear hd
            replace hb := hb.trans (hC.mono hb.size)
            replace hk1 := blk_ext hk1 hC
            replace hk4 := blk_ext hk4 hC
            replace hr1 := Row.ext hr1 hC
            exact Runs.does (r_fa rfl Try.underlying94 (f := 2) (q := 2) rfl (by kernel_rfl) rfl) ⟨Below.refl _ _, rfl, nofr rfl⟩
          refine ⟨fun wu1 hC hd => ?_, ?_⟩
          · obtain ⟨h0, _⟩ := hd
            skip
            replace h0 : V 0 = (.pointer (some ⟨b2, 2, none⟩)) := h0
            replace hb := hb.trans (hC.mono hb.size)
            replace hk1 := blk_ext hk1 hC
            replace hk4 := blk_ext hk4 hC
            replace hr1 := Row.ext hr1 hC
            exact Runs.does (r_load (v := (.int .u32 (((d.list.getD ((findRM nm d.list 0).1).toNat zMMd).2.2.2.2.2.2.1.list.getD ((findRM nm d.list 0).2).toNat zMExp).2.2.1))) (congrArg some h0) Try.underlying44 rfl (cell_blk hk4 rfl)) ⟨Below.refl _ _, rfl, nofr rfl⟩
          refine ⟨fun wu2 hC hd => ?_, ?_⟩
          · obtain ⟨h1, _⟩ := hd
            skip
            replace h1 : V 1 = (.int .u32 (((d.list.getD ((findRM nm d.list 0).1).toNat zMMd).2.2.2.2.2.2.1.list.getD ((findRM nm d.list 0).2).toNat zMExp).2.2.1)) := h1
            replace hb := hb.trans (hC.mono hb.size)
            replace hk1 := blk_ext hk1 hC
            replace hk4 := blk_ext hk4 hC
            replace hr1 := Row.ext hr1 hC
            exact Runs.does (r_conv (C := (((d.list.getD ((findRM nm d.list 0).1).toNat zMMd).2.2.2.2.2.2.1.list.getD ((findRM nm d.list 0).2).toNat zMExp).2.2.1)) (congrArg some h1) Try.underlying44 Try.underlying3 (by rw [IntKind.wrap_i64]; omega)) ⟨Below.refl _ _, rfl, nofr rfl⟩
          refine ⟨fun wu3 hC hd => ?_, ?_⟩
          · clear hd
            replace hb := hb.trans (hC.mono hb.size)
            replace hk1 := blk_ext hk1 hC
            replace hk4 := blk_ext hk4 hC
            replace hr1 := Row.ext hr1 hC
            exact Runs.does (r_move rfl) ⟨Below.refl _ _, rfl, nofr rfl⟩
          refine ⟨fun wu4 hC hd => ?_, ?_⟩
          · obtain ⟨h3, _⟩ := hd
            skip
            replace h3 : V 3 = (.slice (some ⟨rb1, 0, none⟩) (((funcsP (d.list.getD ((findRM nm d.list 0).1).toNat zMMd))).length) rc1) := h3
            replace hb := hb.trans (hC.mono hb.size)
            replace hk1 := blk_ext hk1 hC
            replace hk4 := blk_ext hk4 hC
            replace hr1 := Row.ext hr1 hC
            exact Runs.does (r_lensl (congrArg some h3) Try.underlying37) ⟨Below.refl _ _, rfl, nofr rfl⟩
          refine ⟨fun wu5 hC hd => ?_, ?_⟩
          · obtain ⟨h2, h4, _⟩ := hd
            skip
            skip
            replace h2 : V 2 = (.int .i64 (((d.list.getD ((findRM nm d.list 0).1).toNat zMMd).2.2.2.2.2.2.1.list.getD ((findRM nm d.list 0).2).toNat zMExp).2.2.1)) := h2
            replace h4 : V 4 = (.int .i64 ((((funcsP (d.list.getD ((findRM nm d.list 0).1).toNat zMMd))).length : Nat) : Int)) := h4
            replace hb := hb.trans (hC.mono hb.size)
            replace hk1 := blk_ext hk1 hC
            replace hk4 := blk_ext hk4 hC
            replace hr1 := Row.ext hr1 hC
            exact Runs.does (r_ge (congrArg some h2) (congrArg some h4)) ⟨Below.refl _ _, rfl, nofr rfl⟩
          refine ⟨fun wu6 hC hd => ?_, ?_⟩
          · obtain ⟨h5, _⟩ := hd
            skip
            replace h5 : V 5 = (.bool (decide (((((funcsP (d.list.getD ((findRM nm d.list 0).1).toNat zMMd))).length : Nat) : Int) ≤ (((d.list.getD ((findRM nm d.list 0).1).toNat zMMd).2.2.2.2.2.2.1.list.getD ((findRM nm d.list 0).2).toNat zMExp).2.2.1)))) := h5
            replace hb := hb.trans (hC.mono hb.size)
            replace hk1 := blk_ext hk1 hC
            replace hk4 := blk_ext hk4 hC
            replace hr1 := Row.ext hr1 hC
            exact Runs.does (r_move (congrArg some h5)) ⟨Below.refl _ _, rfl, nofr rfl⟩
          refine ⟨fun wu7 hC hd => ?_, ?_⟩
          · obtain ⟨h6, _⟩ := hd
            skip
            replace h6 : V 6 = (.bool (decide (((((funcsP (d.list.getD ((findRM nm d.list 0).1).toNat zMMd))).length : Nat) : Int) ≤ (((d.list.getD ((findRM nm d.list 0).1).toNat zMMd).2.2.2.2.2.2.1.list.getD ((findRM nm d.list 0).2).toNat zMExp).2.2.1)))) := h6
            replace hb := hb.trans (hC.mono hb.size)
            replace hk1 := blk_ext hk1 hC
            replace hk4 := blk_ext hk4 hC
            replace hr1 := Row.ext hr1 hC
            refine ⟨true, (decide (((((funcsP (d.list.getD ((findRM nm d.list 0).1).toNat zMMd))).length : Nat) : Int) ≤ (((d.list.getD ((findRM nm d.list 0).1).toNat zMMd).2.2.2.2.2.2.1.list.getD ((findRM nm d.list 0).2).toNat zMExp).2.2.1))), congrArg some h6, fun hact => ?_, fun hact => ?_⟩
            · exact Runs.does (r_move rfl) ⟨Below.refl _ _, rfl, nofr rfl⟩
            · exfalso; replace hact : (!(decide (((((funcsP (d.list.getD ((findRM nm d.list 0).1).toNat zMMd))).length : Nat) : Int) ≤ (((d.list.getD ((findRM nm d.list 0).1).toNat zMMd).2.2.2.2.2.2.1.list.getD ((findRM nm d.list 0).2).toNat zMExp).2.2.1)))) = false := by simpa using hact
              rw [show (!(decide (((((funcsP (d.list.getD ((findRM nm d.list 0).1).toNat zMMd))).length : Nat) : Int) ≤ (((d.list.getD ((findRM nm d.list 0).1).toNat zMMd).2.2.2.2.2.2.1.list.getD ((findRM nm d.list 0).2).toNat zMExp).2.2.1)))) = true from (by simp only [Bool.not_eq_true', Bool.not_eq_false', decide_eq_false_iff_not, decide_eq_true_eq]; omega)] at hact; cases hact
          refine ⟨fun wu8 hC hd => ?_, ?_⟩
          · obtain ⟨h6, _⟩ := hd
            skip
            replace h6 : V 6 = (.bool (decide (((((funcsP (d.list.getD ((findRM nm d.list 0).1).toNat zMMd))).length : Nat) : Int) ≤ (((d.list.getD ((findRM nm d.list 0).1).toNat zMMd).2.2.2.2.2.2.1.list.getD ((findRM nm d.list 0).2).toNat zMExp).2.2.1)))) := h6
            replace hb := hb.trans (hC.mono hb.size)
            replace hk1 := blk_ext hk1 hC
            replace hk4 := blk_ext hk4 hC
            replace hr1 := Row.ext hr1 hC
            refine ⟨true, (decide (((((funcsP (d.list.getD ((findRM nm d.list 0).1).toNat zMMd))).length : Nat) : Int) ≤ (((d.list.getD ((findRM nm d.list 0).1).toNat zMMd).2.2.2.2.2.2.1.list.getD ((findRM nm d.list 0).2).toNat zMExp).2.2.1))), congrArg some h6, fun hact => ?_, fun hact => ?_⟩
            · exact Runs.does (r_fa rfl Try.underlying94 (f := 2) (q := 2) rfl (by kernel_rfl) rfl) ⟨Below.refl _ _, rfl, nofr rfl⟩
            · exfalso; replace hact : (!(decide (((((funcsP (d.list.getD ((findRM nm d.list 0).1).toNat zMMd))).length : Nat) : Int) ≤ (((d.list.getD ((findRM nm d.list 0).1).toNat zMMd).2.2.2.2.2.2.1.list.getD ((findRM nm d.list 0).2).toNat zMExp).2.2.1)))) = false := by simpa using hact
              rw [show (!(decide (((((funcsP (d.list.getD ((findRM nm d.list 0).1).toNat zMMd))).length : Nat) : Int) ≤ (((d.list.getD ((findRM nm d.list 0).1).toNat zMMd).2.2.2.2.2.2.1.list.getD ((findRM nm d.list 0).2).toNat zMExp).2.2.1)))) = true from (by simp only [Bool.not_eq_true', Bool.not_eq_false', decide_eq_false_iff_not, decide_eq_true_eq]; omega)] at hact; cases hact
          refine ⟨fun wu9 hC hd => ?_, ?_⟩
          · obtain ⟨h6, h8, _⟩ := hd
            skip
            skip
            replace h6 : V 6 = (.bool (decide (((((funcsP (d.list.getD ((findRM nm d.list 0).1).toNat zMMd))).length : Nat) : Int) ≤ (((d.list.getD ((findRM nm d.list 0).1).toNat zMMd).2.2.2.2.2.2.1.list.getD ((findRM nm d.list 0).2).toNat zMExp).2.2.1)))) := h6
            replace h8 : V 8 = (.pointer (some ⟨b2, 2, none⟩)) := h8
            replace hb := hb.trans (hC.mono hb.size)
            replace hk1 := blk_ext hk1 hC
            replace hk4 := blk_ext hk4 hC
            replace hr1 := Row.ext hr1 hC
            refine ⟨true, (decide (((((funcsP (d.list.getD ((findRM nm d.list 0).1).toNat zMMd))).length : Nat) : Int) ≤ (((d.list.getD ((findRM nm d.list 0).1).toNat zMMd).2.2.2.2.2.2.1.list.getD ((findRM nm d.list 0).2).toNat zMExp).2.2.1))), congrArg some h6, fun hact => ?_, fun hact => ?_⟩
            · exact Runs.does (r_load (v := (.int .u32 (((d.list.getD ((findRM nm d.list 0).1).toNat zMMd).2.2.2.2.2.2.1.list.getD ((findRM nm d.list 0).2).toNat zMExp).2.2.1))) (congrArg some h8) Try.underlying44 rfl (cell_blk hk4 rfl)) ⟨Below.refl _ _, rfl, nofr rfl⟩
            · exfalso; replace hact : (!(decide (((((funcsP (d.list.getD ((findRM nm d.list 0).1).toNat zMMd))).length : Nat) : Int) ≤ (((d.list.getD ((findRM nm d.list 0).1).toNat zMMd).2.2.2.2.2.2.1.list.getD ((findRM nm d.list 0).2).toNat zMExp).2.2.1)))) = false := by simpa using hact
              rw [show (!(decide (((((funcsP (d.list.getD ((findRM nm d.list 0).1).toNat zMMd))).length : Nat) : Int) ≤ (((d.list.getD ((findRM nm d.list 0).1).toNat zMMd).2.2.2.2.2.2.1.list.getD ((findRM nm d.list 0).2).toNat zMExp).2.2.1)))) = true from (by simp only [Bool.not_eq_true', Bool.not_eq_false', decide_eq_false_iff_not, decide_eq_true_eq]; omega)] at hact; cases hact
          refine ⟨fun wu10 hC hd => ?_, ?_⟩
          · obtain ⟨h6, h7, h9, _⟩ := hd
            skip
            skip
            skip
            replace h6 : V 6 = (.bool (decide (((((funcsP (d.list.getD ((findRM nm d.list 0).1).toNat zMMd))).length : Nat) : Int) ≤ (((d.list.getD ((findRM nm d.list 0).1).toNat zMMd).2.2.2.2.2.2.1.list.getD ((findRM nm d.list 0).2).toNat zMExp).2.2.1)))) := h6
            replace h7 : V 7 = (.slice (some ⟨rb1, 0, none⟩) (((funcsP (d.list.getD ((findRM nm d.list 0).1).toNat zMMd))).length) rc1) := h7
            replace h9 : V 9 = (.int .u32 (((d.list.getD ((findRM nm d.list 0).1).toNat zMMd).2.2.2.2.2.2.1.list.getD ((findRM nm d.list 0).2).toNat zMExp).2.2.1)) := h9
            replace hb := hb.trans (hC.mono hb.size)
            replace hk1 := blk_ext hk1 hC
            replace hk4 := blk_ext hk4 hC
            replace hr1 := Row.ext hr1 hC
            refine ⟨true, (decide (((((funcsP (d.list.getD ((findRM nm d.list 0).1).toNat zMMd))).length : Nat) : Int) ≤ (((d.list.getD ((findRM nm d.list 0).1).toNat zMMd).2.2.2.2.2.2.1.list.getD ((findRM nm d.list 0).2).toNat zMExp).2.2.1))), congrArg some h6, fun hact => ?_, fun hact => ?_⟩
            · exact Runs.does (r_ixa (sz := 1) (j := (((d.list.getD ((findRM nm d.list 0).1).toNat zMMd).2.2.2.2.2.2.1.list.getD ((findRM nm d.list 0).2).toNat zMExp).2.2.1).toNat) (congrArg some h7) (congrArg some h9) Try.underlying37 (by kernel_rfl) (by omega) (by omega) rfl) ⟨Below.refl _ _, rfl, nofr rfl⟩
            · exfalso; replace hact : (!(decide (((((funcsP (d.list.getD ((findRM nm d.list 0).1).toNat zMMd))).length : Nat) : Int) ≤ (((d.list.getD ((findRM nm d.list 0).1).toNat zMMd).2.2.2.2.2.2.1.list.getD ((findRM nm d.list 0).2).toNat zMExp).2.2.1)))) = false := by simpa using hact
              rw [show (!(decide (((((funcsP (d.list.getD ((findRM nm d.list 0).1).toNat zMMd))).length : Nat) : Int) ≤ (((d.list.getD ((findRM nm d.list 0).1).toNat zMMd).2.2.2.2.2.2.1.list.getD ((findRM nm d.list 0).2).toNat zMExp).2.2.1)))) = true from (by simp only [Bool.not_eq_true', Bool.not_eq_false', decide_eq_false_iff_not, decide_eq_true_eq]; omega)] at hact; cases hact
          refine ⟨fun wu11 hC hd => ?_, ?_⟩
          · obtain ⟨h6, h10, _⟩ := hd
            skip
            skip
            replace h6 : V 6 = (.bool (decide (((((funcsP (d.list.getD ((findRM nm d.list 0).1).toNat zMMd))).length : Nat) : Int) ≤ (((d.list.getD ((findRM nm d.list 0).1).toNat zMMd).2.2.2.2.2.2.1.list.getD ((findRM nm d.list 0).2).toNat zMExp).2.2.1)))) := h6
            replace h10 : V 10 = (.pointer (some ⟨rb1, (0 + (((d.list.getD ((findRM nm d.list 0).1).toNat zMMd).2.2.2.2.2.2.1.list.getD ((findRM nm d.list 0).2).toNat zMExp).2.2.1).toNat * 1), none⟩)) := h10
            replace hb := hb.trans (hC.mono hb.size)
            replace hk1 := blk_ext hk1 hC
            replace hk4 := blk_ext hk4 hC
            replace hr1 := Row.ext hr1 hC
            refine ⟨true, (decide (((((funcsP (d.list.getD ((findRM nm d.list 0).1).toNat zMMd))).length : Nat) : Int) ≤ (((d.list.getD ((findRM nm d.list 0).1).toNat zMMd).2.2.2.2.2.2.1.list.getD ((findRM nm d.list 0).2).toNat zMExp).2.2.1))), congrArg some h6, fun hact => ?_, fun hact => ?_⟩
            · exact Runs.does (r_load (v := (.int .u32 (((funcsP (d.list.getD ((findRM nm d.list 0).1).toNat zMMd)).getD (((d.list.getD ((findRM nm d.list 0).1).toNat zMMd).2.2.2.2.2.2.1.list.getD ((findRM nm d.list 0).2).toNat zMExp).2.2.1).toNat (0 : Int))))) (congrArg some h10) Try.underlying44 rfl (cellsAt_cell (cellsAt_below hel3 hC hlr1) (i := 0) rfl rfl)) ⟨Below.refl _ _, rfl, nofr rfl⟩
            · exfalso; replace hact : (!(decide (((((funcsP (d.list.getD ((findRM nm d.list 0).1).toNat zMMd))).length : Nat) : Int) ≤ (((d.list.getD ((findRM nm d.list 0).1).toNat zMMd).2.2.2.2.2.2.1.list.getD ((findRM nm d.list 0).2).toNat zMExp).2.2.1)))) = false := by simpa using hact
              rw [show (!(decide (((((funcsP (d.list.getD ((findRM nm d.list 0).1).toNat zMMd))).length : Nat) : Int) ≤ (((d.list.getD ((findRM nm d.list 0).1).toNat zMMd).2.2.2.2.2.2.1.list.getD ((findRM nm d.list 0).2).toNat zMExp).2.2.1)))) = true from (by simp only [Bool.not_eq_true', Bool.not_eq_false', decide_eq_false_iff_not, decide_eq_true_eq]; omega)] at hact; cases hact
          refine ⟨fun wu12 hC hd => ?_, ?_⟩
          · obtain ⟨h6, h11, _⟩ := hd
            skip
            skip
            replace h6 : V 6 = (.bool (decide (((((funcsP (d.list.getD ((findRM nm d.list 0).1).toNat zMMd))).length : Nat) : Int) ≤ (((d.list.getD ((findRM nm d.list 0).1).toNat zMMd).2.2.2.2.2.2.1.list.getD ((findRM nm d.list 0).2).toNat zMExp).2.2.1)))) := h6
            replace h11 : V 11 = (.int .u32 (((funcsP (d.list.getD ((findRM nm d.list 0).1).toNat zMMd)).getD (((d.list.getD ((findRM nm d.list 0).1).toNat zMMd).2.2.2.2.2.2.1.list.getD ((findRM nm d.list 0).2).toNat zMExp).2.2.1).toNat (0 : Int)))) := h11
            replace hb := hb.trans (hC.mono hb.size)
            replace hk1 := blk_ext hk1 hC
            replace hk4 := blk_ext hk4 hC
            replace hr1 := Row.ext hr1 hC
            refine ⟨true, (decide (((((funcsP (d.list.getD ((findRM nm d.list 0).1).toNat zMMd))).length : Nat) : Int) ≤ (((d.list.getD ((findRM nm d.list 0).1).toNat zMMd).2.2.2.2.2.2.1.list.getD ((findRM nm d.list 0).2).toNat zMExp).2.2.1))), congrArg some h6, fun hact => ?_, fun hact => ?_⟩
            · exact Runs.does (r_conv (C := (((funcsP (d.list.getD ((findRM nm d.list 0).1).toNat zMMd)).getD (((d.list.getD ((findRM nm d.list 0).1).toNat zMMd).2.2.2.2.2.2.1.list.getD ((findRM nm d.list 0).2).toNat zMExp).2.2.1).toNat (0 : Int)))) (congrArg some h11) Try.underlying44 Try.underlying3 (by rw [IntKind.wrap_i64]; omega)) ⟨Below.refl _ _, rfl, nofr rfl⟩
            · exfalso; replace hact : (!(decide (((((funcsP (d.list.getD ((findRM nm d.list 0).1).toNat zMMd))).length : Nat) : Int) ≤ (((d.list.getD ((findRM nm d.list 0).1).toNat zMMd).2.2.2.2.2.2.1.list.getD ((findRM nm d.list 0).2).toNat zMExp).2.2.1)))) = false := by simpa using hact
              rw [show (!(decide (((((funcsP (d.list.getD ((findRM nm d.list 0).1).toNat zMMd))).length : Nat) : Int) ≤ (((d.list.getD ((findRM nm d.list 0).1).toNat zMMd).2.2.2.2.2.2.1.list.getD ((findRM nm d.list 0).2).toNat zMExp).2.2.1)))) = true from (by simp only [Bool.not_eq_true', Bool.not_eq_false', decide_eq_false_iff_not, decide_eq_true_eq]; omega)] at hact; cases hact
          refine ⟨fun wu13 hC hd => ?_, ?_⟩
          · obtain ⟨h6, _⟩ := hd
            skip
            replace h6 : V 6 = (.bool (decide (((((funcsP (d.list.getD ((findRM nm d.list 0).1).toNat zMMd))).length : Nat) : Int) ≤ (((d.list.getD ((findRM nm d.list 0).1).toNat zMMd).2.2.2.2.2.2.1.list.getD ((findRM nm d.list 0).2).toNat zMExp).2.2.1)))) := h6
            replace hb := hb.trans (hC.mono hb.size)
            replace hk1 := blk_ext hk1 hC
            replace hk4 := blk_ext hk4 hC
            replace hr1 := Row.ext hr1 hC
            refine ⟨true, (decide (((((funcsP (d.list.getD ((findRM nm d.list 0).1).toNat zMMd))).length : Nat) : Int) ≤ (((d.list.getD ((findRM nm d.list 0).1).toNat zMMd).2.2.2.2.2.2.1.list.getD ((findRM nm d.list 0).2).toNat zMExp).2.2.1))), congrArg some h6, fun hact => ?_, fun hact => ?_⟩
            · exact Runs.does (r_move rfl) ⟨Below.refl _ _, rfl, nofr rfl⟩
            · exfalso; replace hact : (!(decide (((((funcsP (d.list.getD ((findRM nm d.list 0).1).toNat zMMd))).length : Nat) : Int) ≤ (((d.list.getD ((findRM nm d.list 0).1).toNat zMMd).2.2.2.2.2.2.1.list.getD ((findRM nm d.list 0).2).toNat zMExp).2.2.1)))) = false := by simpa using hact
              rw [show (!(decide (((((funcsP (d.list.getD ((findRM nm d.list 0).1).toNat zMMd))).length : Nat) : Int) ≤ (((d.list.getD ((findRM nm d.list 0).1).toNat zMMd).2.2.2.2.2.2.1.list.getD ((findRM nm d.list 0).2).toNat zMExp).2.2.1)))) = true from (by simp only [Bool.not_eq_true', Bool.not_eq_false', decide_eq_false_iff_not, decide_eq_true_eq]; omega)] at hact; cases hact
          refine ⟨fun wu14 hC hd => ?_, ?_⟩
          · obtain ⟨h6, _⟩ := hd
            skip
            replace h6 : V 6 = (.bool (decide (((((funcsP (d.list.getD ((findRM nm d.list 0).1).toNat zMMd))).length : Nat) : Int) ≤ (((d.list.getD ((findRM nm d.list 0).1).toNat zMMd).2.2.2.2.2.2.1.list.getD ((findRM nm d.list 0).2).toNat zMExp).2.2.1)))) := h6
            replace hb := hb.trans (hC.mono hb.size)
            replace hk1 := blk_ext hk1 hC
            replace hk4 := blk_ext hk4 hC
            replace hr1 := Row.ext hr1 hC
            refine ⟨true, (decide (((((funcsP (d.list.getD ((findRM nm d.list 0).1).toNat zMMd))).length : Nat) : Int) ≤ (((d.list.getD ((findRM nm d.list 0).1).toNat zMMd).2.2.2.2.2.2.1.list.getD ((findRM nm d.list 0).2).toNat zMExp).2.2.1))), congrArg some h6, fun hact => ?_, fun hact => ?_⟩
            · exact Runs.does (r_move rfl) ⟨Below.refl _ _, rfl, nofr rfl⟩
            · exfalso; replace hact : (!(decide (((((funcsP (d.list.getD ((findRM nm d.list 0).1).toNat zMMd))).length : Nat) : Int) ≤ (((d.list.getD ((findRM nm d.list 0).1).toNat zMMd).2.2.2.2.2.2.1.list.getD ((findRM nm d.list 0).2).toNat zMExp).2.2.1)))) = false := by simpa using hact
              rw [show (!(decide (((((funcsP (d.list.getD ((findRM nm d.list 0).1).toNat zMMd))).length : Nat) : Int) ≤ (((d.list.getD ((findRM nm d.list 0).1).toNat zMMd).2.2.2.2.2.2.1.list.getD ((findRM nm d.list 0).2).toNat zMExp).2.2.1)))) = true from (by simp only [Bool.not_eq_true', Bool.not_eq_false', decide_eq_false_iff_not, decide_eq_true_eq]; omega)] at hact; cases hact
          refine ⟨fun wu15 hC hd => ?_, ?_⟩
          · obtain ⟨h6, h13, h14, _⟩ := hd
            skip
            skip
            skip
            replace h6 : V 6 = (.bool (decide (((((funcsP (d.list.getD ((findRM nm d.list 0).1).toNat zMMd))).length : Nat) : Int) ≤ (((d.list.getD ((findRM nm d.list 0).1).toNat zMMd).2.2.2.2.2.2.1.list.getD ((findRM nm d.list 0).2).toNat zMExp).2.2.1)))) := h6
            replace h13 : V 13 = (.slice d.at' d.len d.cap) := h13
            replace h14 : V 14 = (.int .i64 ((findRM nm d.list 0).1)) := h14
            replace hb := hb.trans (hC.mono hb.size)
            replace hk1 := blk_ext hk1 hC
            replace hk4 := blk_ext hk4 hC
            replace hr1 := Row.ext hr1 hC
            refine ⟨true, (decide (((((funcsP (d.list.getD ((findRM nm d.list 0).1).toNat zMMd))).length : Nat) : Int) ≤ (((d.list.getD ((findRM nm d.list 0).1).toNat zMMd).2.2.2.2.2.2.1.list.getD ((findRM nm d.list 0).2).toNat zMExp).2.2.1))), congrArg some h6, fun hact => ?_, fun hact => ?_⟩
            · exact Runs.does (r_ixa (sz := 17) (j := ((findRM nm d.list 0).1).toNat) (evAt (congrArg some h13) hat1) (congrArg some h14) Try.underlying43 (by kernel_rfl) (by omega) (by omega) rfl) ⟨Below.refl _ _, rfl, nofr rfl⟩
            · exfalso; replace hact : (!(decide (((((funcsP (d.list.getD ((findRM nm d.list 0).1).toNat zMMd))).length : Nat) : Int) ≤ (((d.list.getD ((findRM nm d.list 0).1).toNat zMMd).2.2.2.2.2.2.1.list.getD ((findRM nm d.list 0).2).toNat zMExp).2.2.1)))) = false := by simpa using hact
              rw [show (!(decide (((((funcsP (d.list.getD ((findRM nm d.list 0).1).toNat zMMd))).length : Nat) : Int) ≤ (((d.list.getD ((findRM nm d.list 0).1).toNat zMMd).2.2.2.2.2.2.1.list.getD ((findRM nm d.list 0).2).toNat zMExp).2.2.1)))) = true from (by simp only [Bool.not_eq_true', Bool.not_eq_false', decide_eq_false_iff_not, decide_eq_true_eq]; omega)] at hact; cases hact
          refine ⟨fun wu16 hC hd => ?_, ?_⟩
          · obtain ⟨h6, h15, _⟩ := hd
            skip
            skip
            replace h6 : V 6 = (.bool (decide (((((funcsP (d.list.getD ((findRM nm d.list 0).1).toNat zMMd))).length : Nat) : Int) ≤ (((d.list.getD ((findRM nm d.list 0).1).toNat zMMd).2.2.2.2.2.2.1.list.getD ((findRM nm d.list 0).2).toNat zMExp).2.2.1)))) := h6
            replace h15 : V 15 = (.pointer (some ⟨ab1, (aoff1 + ((findRM nm d.list 0).1).toNat * 17), none⟩)) := h15
            replace hb := hb.trans (hC.mono hb.size)
            replace hk1 := blk_ext hk1 hC
            replace hk4 := blk_ext hk4 hC
            replace hr1 := Row.ext hr1 hC
            refine ⟨true, (decide (((((funcsP (d.list.getD ((findRM nm d.list 0).1).toNat zMMd))).length : Nat) : Int) ≤ (((d.list.getD ((findRM nm d.list 0).1).toNat zMMd).2.2.2.2.2.2.1.list.getD ((findRM nm d.list 0).2).toNat zMExp).2.2.1))), congrArg some h6, fun hact => ?_, fun hact => ?_⟩
            · exact Runs.does (r_fa (congrArg some h15) Try.underlying67 (f := 0) (q := (aoff1 + ((findRM nm d.list 0).1).toNat * 17)) rfl (by kernel_rfl) rfl) ⟨Below.refl _ _, rfl, nofr rfl⟩
            · exfalso; replace hact : (!(decide (((((funcsP (d.list.getD ((findRM nm d.list 0).1).toNat zMMd))).length : Nat) : Int) ≤ (((d.list.getD ((findRM nm d.list 0).1).toNat zMMd).2.2.2.2.2.2.1.list.getD ((findRM nm d.list 0).2).toNat zMExp).2.2.1)))) = false := by simpa using hact
              rw [show (!(decide (((((funcsP (d.list.getD ((findRM nm d.list 0).1).toNat zMMd))).length : Nat) : Int) ≤ (((d.list.getD ((findRM nm d.list 0).1).toNat zMMd).2.2.2.2.2.2.1.list.getD ((findRM nm d.list 0).2).toNat zMExp).2.2.1)))) = true from (by simp only [Bool.not_eq_true', Bool.not_eq_false', decide_eq_false_iff_not, decide_eq_true_eq]; omega)] at hact; cases hact
          refine ⟨fun wu17 hC hd => ?_, ?_⟩
          · obtain ⟨h6, h16, _⟩ := hd
            skip
            skip
            replace h6 : V 6 = (.bool (decide (((((funcsP (d.list.getD ((findRM nm d.list 0).1).toNat zMMd))).length : Nat) : Int) ≤ (((d.list.getD ((findRM nm d.list 0).1).toNat zMMd).2.2.2.2.2.2.1.list.getD ((findRM nm d.list 0).2).toNat zMExp).2.2.1)))) := h6
            replace h16 : V 16 = (.pointer (some ⟨ab1, (aoff1 + ((findRM nm d.list 0).1).toNat * 17), none⟩)) := h16
            replace hb := hb.trans (hC.mono hb.size)
            replace hk1 := blk_ext hk1 hC
            replace hk4 := blk_ext hk4 hC
            replace hr1 := Row.ext hr1 hC
            refine ⟨true, (decide (((((funcsP (d.list.getD ((findRM nm d.list 0).1).toNat zMMd))).length : Nat) : Int) ≤ (((d.list.getD ((findRM nm d.list 0).1).toNat zMMd).2.2.2.2.2.2.1.list.getD ((findRM nm d.list 0).2).toNat zMExp).2.2.1))), congrArg some h6, fun hact => ?_, fun hact => ?_⟩
            · exact Runs.does (r_load (v := (.slice (d.list.getD ((findRM nm d.list 0).1).toNat zMMd).1.at' ((d.list.getD ((findRM nm d.list 0).1).toNat zMMd).1.len) (d.list.getD ((findRM nm d.list 0).1).toNat zMMd).1.cap)) (congrArg some h16) Try.underlying56 rfl (cellsAt_cell (cellsAt_below hel1 hb hlb1) (i := 0) rfl rfl)) ⟨Below.refl _ _, rfl, nofr rfl⟩
            · exfalso; replace hact : (!(decide (((((funcsP (d.list.getD ((findRM nm d.list 0).1).toNat zMMd))).length : Nat) : Int) ≤ (((d.list.getD ((findRM nm d.list 0).1).toNat zMMd).2.2.2.2.2.2.1.list.getD ((findRM nm d.list 0).2).toNat zMExp).2.2.1)))) = false := by simpa using hact
              rw [show (!(decide (((((funcsP (d.list.getD ((findRM nm d.list 0).1).toNat zMMd))).length : Nat) : Int) ≤ (((d.list.getD ((findRM nm d.list 0).1).toNat zMMd).2.2.2.2.2.2.1.list.getD ((findRM nm d.list 0).2).toNat zMExp).2.2.1)))) = true from (by simp only [Bool.not_eq_true', Bool.not_eq_false', decide_eq_false_iff_not, decide_eq_true_eq]; omega)] at hact; cases hact
          refine ⟨fun wu18 hC hd => ?_, ?_⟩
          · obtain ⟨h6, h17, _⟩ := hd
            skip
            skip
            replace h6 : V 6 = (.bool (decide (((((funcsP (d.list.getD ((findRM nm d.list 0).1).toNat zMMd))).length : Nat) : Int) ≤ (((d.list.getD ((findRM nm d.list 0).1).toNat zMMd).2.2.2.2.2.2.1.list.getD ((findRM nm d.list 0).2).toNat zMExp).2.2.1)))) := h6
            replace h17 : V 17 = (.slice (d.list.getD ((findRM nm d.list 0).1).toNat zMMd).1.at' ((d.list.getD ((findRM nm d.list 0).1).toNat zMMd).1.len) (d.list.getD ((findRM nm d.list 0).1).toNat zMMd).1.cap) := h17
            replace hb := hb.trans (hC.mono hb.size)
            replace hk1 := blk_ext hk1 hC
            replace hk4 := blk_ext hk4 hC
            replace hr1 := Row.ext hr1 hC
            refine ⟨true, (decide (((((funcsP (d.list.getD ((findRM nm d.list 0).1).toNat zMMd))).length : Nat) : Int) ≤ (((d.list.getD ((findRM nm d.list 0).1).toNat zMMd).2.2.2.2.2.2.1.list.getD ((findRM nm d.list 0).2).toNat zMExp).2.2.1))), congrArg some h6, fun hact => ?_, fun hact => ?_⟩
            · exact Runs.does (r_lensl (congrArg some h17) Try.underlying56) ⟨Below.refl _ _, rfl, nofr rfl⟩
            · exfalso; replace hact : (!(decide (((((funcsP (d.list.getD ((findRM nm d.list 0).1).toNat zMMd))).length : Nat) : Int) ≤ (((d.list.getD ((findRM nm d.list 0).1).toNat zMMd).2.2.2.2.2.2.1.list.getD ((findRM nm d.list 0).2).toNat zMExp).2.2.1)))) = false := by simpa using hact
              rw [show (!(decide (((((funcsP (d.list.getD ((findRM nm d.list 0).1).toNat zMMd))).length : Nat) : Int) ≤ (((d.list.getD ((findRM nm d.list 0).1).toNat zMMd).2.2.2.2.2.2.1.list.getD ((findRM nm d.list 0).2).toNat zMExp).2.2.1)))) = true from (by simp only [Bool.not_eq_true', Bool.not_eq_false', decide_eq_false_iff_not, decide_eq_true_eq]; omega)] at hact; cases hact
          refine ⟨fun wu19 hC hd => ?_, ?_⟩
          · obtain ⟨h6, h12, h18, _⟩ := hd
            skip
            skip
            skip
            replace h6 : V 6 = (.bool (decide (((((funcsP (d.list.getD ((findRM nm d.list 0).1).toNat zMMd))).length : Nat) : Int) ≤ (((d.list.getD ((findRM nm d.list 0).1).toNat zMMd).2.2.2.2.2.2.1.list.getD ((findRM nm d.list 0).2).toNat zMExp).2.2.1)))) := h6
            replace h12 : V 12 = (.int .i64 (((funcsP (d.list.getD ((findRM nm d.list 0).1).toNat zMMd)).getD (((d.list.getD ((findRM nm d.list 0).1).toNat zMMd).2.2.2.2.2.2.1.list.getD ((findRM nm d.list 0).2).toNat zMExp).2.2.1).toNat (0 : Int)))) := h12
            replace h18 : V 18 = (.int .i64 (((d.list.getD ((findRM nm d.list 0).1).toNat zMMd).1.len : Nat) : Int)) := h18
            replace hb := hb.trans (hC.mono hb.size)
            replace hk1 := blk_ext hk1 hC
            replace hk4 := blk_ext hk4 hC
            replace hr1 := Row.ext hr1 hC
            refine ⟨true, (decide (((((funcsP (d.list.getD ((findRM nm d.list 0).1).toNat zMMd))).length : Nat) : Int) ≤ (((d.list.getD ((findRM nm d.list 0).1).toNat zMMd).2.2.2.2.2.2.1.list.getD ((findRM nm d.list 0).2).toNat zMExp).2.2.1))), congrArg some h6, fun hact => ?_, fun hact => ?_⟩
            · exact Runs.does (r_ge (congrArg some h12) (congrArg some h18)) ⟨Below.refl _ _, rfl, nofr rfl⟩
            · exfalso; replace hact : (!(decide (((((funcsP (d.list.getD ((findRM nm d.list 0).1).toNat zMMd))).length : Nat) : Int) ≤ (((d.list.getD ((findRM nm d.list 0).1).toNat zMMd).2.2.2.2.2.2.1.list.getD ((findRM nm d.list 0).2).toNat zMExp).2.2.1)))) = false := by simpa using hact
              rw [show (!(decide (((((funcsP (d.list.getD ((findRM nm d.list 0).1).toNat zMMd))).length : Nat) : Int) ≤ (((d.list.getD ((findRM nm d.list 0).1).toNat zMMd).2.2.2.2.2.2.1.list.getD ((findRM nm d.list 0).2).toNat zMExp).2.2.1)))) = true from (by simp only [Bool.not_eq_true', Bool.not_eq_false', decide_eq_false_iff_not, decide_eq_true_eq]; omega)] at hact; cases hact
          refine ⟨fun wu20 hC hd => ?_, ?_⟩
          · obtain ⟨h6, h19, _⟩ := hd
            skip
            skip
            replace h6 : V 6 = (.bool (decide (((((funcsP (d.list.getD ((findRM nm d.list 0).1).toNat zMMd))).length : Nat) : Int) ≤ (((d.list.getD ((findRM nm d.list 0).1).toNat zMMd).2.2.2.2.2.2.1.list.getD ((findRM nm d.list 0).2).toNat zMExp).2.2.1)))) := h6
            replace h19 : V 19 = (.bool (decide ((((d.list.getD ((findRM nm d.list 0).1).toNat zMMd).1.len : Nat) : Int) ≤ (((funcsP (d.list.getD ((findRM nm d.list 0).1).toNat zMMd)).getD (((d.list.getD ((findRM nm d.list 0).1).toNat zMMd).2.2.2.2.2.2.1.list.getD ((findRM nm d.list 0).2).toNat zMExp).2.2.1).toNat (0 : Int)))))) := h19
            replace hb := hb.trans (hC.mono hb.size)
            replace hk1 := blk_ext hk1 hC
            replace hk4 := blk_ext hk4 hC
            replace hr1 := Row.ext hr1 hC
            exact Runs.does (r_pick (b := (decide (((((funcsP (d.list.getD ((findRM nm d.list 0).1).toNat zMMd))).length : Nat) : Int) ≤ (((d.list.getD ((findRM nm d.list 0).1).toNat zMMd).2.2.2.2.2.2.1.list.getD ((findRM nm d.list 0).2).toNat zMExp).2.2.1)))) (congrArg some h6) rfl (congrArg some h19) (by rw [show (decide (((((funcsP (d.list.getD ((findRM nm d.list 0).1).toNat zMMd))).length : Nat) : Int) ≤ (((d.list.getD ((findRM nm d.list 0).1).toNat zMMd).2.2.2.2.2.2.1.list.getD ((findRM nm d.list 0).2).toNat zMExp).2.2.1))) = false from (by simp only [Bool.not_eq_true', Bool.not_eq_false', decide_eq_false_iff_not, decide_eq_true_eq]; omega)]; rfl)) ⟨Below.refl _ _, rfl, nofr rfl⟩
          trivial
        · skip
          clear hf fa; intro V w8 fa he5 hp hnb hf
          have hv0 : V 0 = (.pointer (some ⟨b2, 2, none⟩)) := postsHold_at hp 0 rfl
          have hv1 : V 1 = (.int .u32 (((d.list.getD ((findRM nm d.list 0).1).toNat zMMd).2.2.2.2.2.2.1.list.getD ((findRM nm d.list 0).2).toNat zMExp).2.2.1)) := postsHold_at hp 1 rfl
          have hv2 : V 2 = (.int .i64 (((d.list.getD ((findRM nm d.list 0).1).toNat zMMd).2.2.2.2.2.2.1.list.getD ((findRM nm d.list 0).2).toNat zMExp).2.2.1)) := postsHold_at hp 2 rfl
          have hv3 : V 3 = (.slice (some ⟨rb1, 0, none⟩) (((funcsP (d.list.getD ((findRM nm d.list 0).1).toNat zMMd))).length) rc1) := postsHold_at hp 3 rfl
          have hv4 : V 4 = (.int .i64 ((((funcsP (d.list.getD ((findRM nm d.list 0).1).toNat zMMd))).length : Nat) : Int)) := postsHold_at hp 4 rfl
          have hv5 : V 5 = (.bool (decide (((((funcsP (d.list.getD ((findRM nm d.list 0).1).toNat zMMd))).length : Nat) : Int) ≤ (((d.list.getD ((findRM nm d.list 0).1).toNat zMMd).2.2.2.2.2.2.1.list.getD ((findRM nm d.list 0).2).toNat zMExp).2.2.1)))) := postsHold_at hp 5 rfl
          have hv6 : V 6 = (.bool (decide (((((funcsP (d.list.getD ((findRM nm d.list 0).1).toNat zMMd))).length : Nat) : Int) ≤ (((d.list.getD ((findRM nm d.list 0).1).toNat zMMd).2.2.2.2.2.2.1.list.getD ((findRM nm d.list 0).2).toNat zMExp).2.2.1)))) := postsHold_at hp 6 rfl
          have hv7 : V 7 = (.slice (some ⟨rb1, 0, none⟩) (((funcsP (d.list.getD ((findRM nm d.list 0).1).toNat zMMd))).length) rc1) := postsHold_at hp 7 rfl
          have hv8 : V 8 = (.pointer (some ⟨b2, 2, none⟩)) := postsHold_at hp 8 rfl
          have hv9 : V 9 = (.int .u32 (((d.list.getD ((findRM nm d.list 0).1).toNat zMMd).2.2.2.2.2.2.1.list.getD ((findRM nm d.list 0).2).toNat zMExp).2.2.1)) := postsHold_at hp 9 rfl
          have hv10 : V 10 = (.pointer (some ⟨rb1, (0 + (((d.list.getD ((findRM nm d.list 0).1).toNat zMMd).2.2.2.2.2.2.1.list.getD ((findRM nm d.list 0).2).toNat zMExp).2.2.1).toNat * 1), none⟩)) := postsHold_at hp 10 rfl
          have hv11 : V 11 = (.int .u32 (((funcsP (d.list.getD ((findRM nm d.list 0).1).toNat zMMd)).getD (((d.list.getD ((findRM nm d.list 0).1).toNat zMMd).2.2.2.2.2.2.1.list.getD ((findRM nm d.list 0).2).toNat zMExp).2.2.1).toNat (0 : Int)))) := postsHold_at hp 11 rfl
          have hv12 : V 12 = (.int .i64 (((funcsP (d.list.getD ((findRM nm d.list 0).1).toNat zMMd)).getD (((d.list.getD ((findRM nm d.list 0).1).toNat zMMd).2.2.2.2.2.2.1.list.getD ((findRM nm d.list 0).2).toNat zMExp).2.2.1).toNat (0 : Int)))) := postsHold_at hp 12 rfl
          have hv13 : V 13 = (.slice d.at' d.len d.cap) := postsHold_at hp 13 rfl
          have hv14 : V 14 = (.int .i64 ((findRM nm d.list 0).1)) := postsHold_at hp 14 rfl
          have hv15 : V 15 = (.pointer (some ⟨ab1, (aoff1 + ((findRM nm d.list 0).1).toNat * 17), none⟩)) := postsHold_at hp 15 rfl
          have hv16 : V 16 = (.pointer (some ⟨ab1, (aoff1 + ((findRM nm d.list 0).1).toNat * 17), none⟩)) := postsHold_at hp 16 rfl
          have hv17 : V 17 = (.slice (d.list.getD ((findRM nm d.list 0).1).toNat zMMd).1.at' ((d.list.getD ((findRM nm d.list 0).1).toNat zMMd).1.len) (d.list.getD ((findRM nm d.list 0).1).toNat zMMd).1.cap) := postsHold_at hp 17 rfl
          have hv18 : V 18 = (.int .i64 (((d.list.getD ((findRM nm d.list 0).1).toNat zMMd).1.len : Nat) : Int)) := postsHold_at hp 18 rfl
          have hv19 : V 19 = (.bool (decide ((((d.list.getD ((findRM nm d.list 0).1).toNat zMMd).1.len : Nat) : Int) ≤ (((funcsP (d.list.getD ((findRM nm d.list 0).1).toNat zMMd)).getD (((d.list.getD ((findRM nm d.list 0).1).toNat zMMd).2.2.2.2.2.2.1.list.getD ((findRM nm d.list 0).2).toNat zMExp).2.2.1).toNat (0 : Int)))))) := postsHold_at hp 19 rfl
          have hv20 : V 20 = (.bool (decide ((((d.list.getD ((findRM nm d.list 0).1).toNat zMMd).1.len : Nat) : Int) ≤ (((funcsP (d.list.getD ((findRM nm d.list 0).1).toNat zMMd)).getD (((d.list.getD ((findRM nm d.list 0).1).toNat zMMd).2.2.2.2.2.2.1.list.getD ((findRM nm d.list 0).2).toNat zMExp).2.2.1).toNat (0 : Int)))))) := postsHold_at hp 20 rfl
          simp only [List.take_succ_cons, List.take_zero, insAll, ins, hv0, hv1, hv2, hv3, hv4, hv5, hv6, hv7, hv8, hv9, hv10, hv11, hv12, hv13, hv14, hv15, hv16, hv17, hv18, hv19, hv20] at hf
          clear hp hnb hv0 hv1 hv2 hv3 hv4 hv5 hv6 hv7 hv8 hv9 hv10 hv11 hv12 hv13 hv14 hv15 hv16 hv17 hv18 hv19 hv20
          replace hk1 := blk_ext hk1 he5
          replace hk4 := blk_ext hk4 he5
          replace hr1 := Row.ext hr1 he5
          replace hb := hb.trans (Below.mono he5 hb.size)
          (try simp only [Exit.then, Exit.inBlock, ↓reduceIte, Nat.reduceEqDiff])
          refine hK12 _ _ ?_
          refine wp_cond_split (t := (decide ((((d.list.getD ((findRM nm d.list 0).1).toNat zMMd).1.len : Nat) : Int) ≤ (((funcsP (d.list.getD ((findRM nm d.list 0).1).toNat zMMd)).getD (((d.list.getD ((findRM nm d.list 0).1).toNat zMMd).2.2.2.2.2.2.1.list.getD ((findRM nm d.list 0).2).toNat zMExp).2.2.1).toNat (0 : Int)))))) (hf.ev rfl) (fun hqt58_1 => ?_) (fun hqt58_1 => ?_)
          · have hqt58_1b := hqt58_1
            try simp only [decide_eq_true_eq, Bool.and_eq_true, Bool.or_eq_true, Bool.not_eq_true', decide_eq_false_iff_not, ne_eq, Bool.not_eq_true] at hqt58_1
            refine wp_seq_k (fun K13 hK13 => ?_)
            refine wp_region_lit ?_
            refine sqv hf (r_build (vs := []) (cs := #[(.string ⟨#[]⟩), (.string ⟨#[]⟩)]) rfl (fun _ => by kernel_rfl)) rfl rfl rfl ?_; clear hf fa; intro fa hf
            refine sqv hf (r_assign rfl) rfl rfl rfl ?_; clear hf fa; intro fa hf
            refine sqv hf (r_assign rfl) rfl rfl rfl ?_; clear hf fa; intro fa hf
            refine sqn hf (d_storeK (T := 78) (v := (.agg #[(.string ⟨#[]⟩), (.string ⟨#[]⟩)])) (cs := #[(.string ⟨#[]⟩), (.string ⟨#[]⟩)]) (cs' := #[(.string ⟨#[]⟩), (.string ⟨#[]⟩)]) rfl rfl (by kernel_rfl) (by kernel_rfl) hk1 (by kernel_rfl) (by kernel_rfl)) rfl rfl ?_; clear hf fa; rintro fa _ w9 ⟨hk6, hg4⟩ hf
            replace hk4 := blk_grown hk4 hg4 (by omega)
            replace hr1 := Row.grown hr1 hg4 (Row.ne_type hr1 hk1 rfl)
            replace hb := hb.trans (grown_below hg4 hb.size hBb1)
            refine sqv hf (r_assign rfl) rfl rfl rfl ?_; clear hf fa; intro fa hf
            apply wpList_nil
            (try simp only [Exit.then, Exit.inBlock, ↓reduceIte, Nat.reduceEqDiff])
            refine hK13 _ _ ?_
            refine wp_ret ?_
            (try simp only [Exit.then, Exit.inBlock])
            refine retTTCT hf rfl rfl rfl rfl hk6 Try.underlying78 rfl (by kernel_rfl) rfl ?_
            refine ⟨?_, hb⟩; unfold ranyP; rw [hqt19_1b, hqt31_1b, hsp1b, hqt58_1b]; (try rfl)
          · have hqt58_1b := hqt58_1
            replace hqt58_1 := Bool.eq_false_iff.1 hqt58_1
            try simp only [ne_eq, decide_eq_true_eq, Bool.and_eq_true, Bool.or_eq_true, Bool.not_eq_true', decide_eq_false_iff_not] at hqt58_1
            refine wp_skip ?_
            (try simp only [Exit.then, Exit.inBlock, ↓reduceIte, Nat.reduceEqDiff])
            refine hK11 _ _ ?_
            refine wp_seq_k (fun K14 hK14 => ?_)
            have hy4 := getD_at (l := (funcsP (d.list.getD ((findRM nm d.list 0).1).toNat zMMd))) (j := (((d.list.getD ((findRM nm d.list 0).1).toNat zMMd).2.2.2.2.2.2.1.list.getD ((findRM nm d.list 0).2).toNat zMExp).2.2.1).toNat) (0 : Int) (by first | omega | (simp only [Sl.list_length, List.length_set, List.length_take, List.length_drop, List.length_append, List.length_replicate, List.length_cons, List.length_nil]; omega))
            have hel4 := RdS.at (Row.rd (by intros; rfl) hr1) hy4
            obtain ⟨_, _, hab, hlr2, hel4⟩ := hel4
            cases hab
            have hy5 : ((d.list.getD ((findRM nm d.list 0).1).toNat zMMd).1.list)[(((funcsP (d.list.getD ((findRM nm d.list 0).1).toNat zMMd)).getD (((d.list.getD ((findRM nm d.list 0).1).toNat zMMd).2.2.2.2.2.2.1.list.getD ((findRM nm d.list 0).2).toNat zMExp).2.2.1).toNat (0 : Int))).toNat]? = some ((d.list.getD ((findRM nm d.list 0).1).toNat zMMd).1.list.getD (((funcsP (d.list.getD ((findRM nm d.list 0).1).toNat zMMd)).getD (((d.list.getD ((findRM nm d.list 0).1).toNat zMMd).2.2.2.2.2.2.1.list.getD ((findRM nm d.list 0).2).toNat zMExp).2.2.1).toNat (0 : Int))).toNat zMFt) := (getD_at zMFt (by rw [Sl.list_length]; omega))
            obtain ⟨ab3, aoff3, hat3, hlb3, hel5⟩ := RdS.at (RdS.of_arg gM.1.2) hy5
            refine wp_region_unT 17 (fun wq => Below w8.heap.size w8 wq) (fun w w' => Below w.heap.size w w')
              (fun V => [(fun x _ => x = (.int .i64 ((findRM nm d.list 0).1))), (fun x _ => x = (.pointer (some ⟨b2, 2, none⟩))), (fun x _ => x = (.int .u32 (((d.list.getD ((findRM nm d.list 0).1).toNat zMMd).2.2.2.2.2.2.1.list.getD ((findRM nm d.list 0).2).toNat zMExp).2.2.1))), (fun x _ => x = (.slice d.at' d.len d.cap)), (fun x _ => x = (.int .i64 ((findRM nm d.list 0).1))), (fun x _ => x = (.pointer (some ⟨ab1, (aoff1 + ((findRM nm d.list 0).1).toNat * 17), none⟩))), (fun x _ => x = (.pointer (some ⟨ab1, (aoff1 + ((findRM nm d.list 0).1).toNat * 17), none⟩))), (fun x _ => x = (.slice (d.list.getD ((findRM nm d.list 0).1).toNat zMMd).1.at' ((d.list.getD ((findRM nm d.list 0).1).toNat zMMd).1.len) (d.list.getD ((findRM nm d.list 0).1).toNat zMMd).1.cap)), (fun x _ => x = (.slice (some ⟨rb1, 0, none⟩) (((funcsP (d.list.getD ((findRM nm d.list 0).1).toNat zMMd))).length) rc1)), (fun x _ => x = (.pointer (some ⟨b2, 2, none⟩))), (fun x _ => x = (.int .u32 (((d.list.getD ((findRM nm d.list 0).1).toNat zMMd).2.2.2.2.2.2.1.list.getD ((findRM nm d.list 0).2).toNat zMExp).2.2.1))), (fun x _ => x = (.pointer (some ⟨rb1, (0 + (((d.list.getD ((findRM nm d.list 0).1).toNat zMMd).2.2.2.2.2.2.1.list.getD ((findRM nm d.list 0).2).toNat zMExp).2.2.1).toNat * 1), none⟩))), (fun x _ => x = (.int .u32 (((funcsP (d.list.getD ((findRM nm d.list 0).1).toNat zMMd)).getD (((d.list.getD ((findRM nm d.list 0).1).toNat zMMd).2.2.2.2.2.2.1.list.getD ((findRM nm d.list 0).2).toNat zMExp).2.2.1).toNat (0 : Int))))), (fun x _ => x = (.pointer (some ⟨ab3, (aoff3 + (((funcsP (d.list.getD ((findRM nm d.list 0).1).toNat zMMd)).getD (((d.list.getD ((findRM nm d.list 0).1).toNat zMMd).2.2.2.2.2.2.1.list.getD ((findRM nm d.list 0).2).toNat zMExp).2.2.1).toNat (0 : Int))).toNat * 2), none⟩))), (fun x _ => x = (.agg #[(.string ((d.list.getD ((findRM nm d.list 0).1).toNat zMMd).1.list.getD (((funcsP (d.list.getD ((findRM nm d.list 0).1).toNat zMMd)).getD (((d.list.getD ((findRM nm d.list 0).1).toNat zMMd).2.2.2.2.2.2.1.list.getD ((findRM nm d.list 0).2).toNat zMExp).2.2.1).toNat (0 : Int))).toNat zMFt).1), (.string ((d.list.getD ((findRM nm d.list 0).1).toNat zMMd).1.list.getD (((funcsP (d.list.getD ((findRM nm d.list 0).1).toNat zMMd)).getD (((d.list.getD ((findRM nm d.list 0).1).toNat zMMd).2.2.2.2.2.2.1.list.getD ((findRM nm d.list 0).2).toNat zMExp).2.2.1).toNat (0 : Int))).toNat zMFt).2.1)])), (fun x _ => x = (.int .i64 ((findRM nm d.list 0).1))), (fun x _ => x = (.int .u32 (((d.list.getD ((findRM nm d.list 0).1).toNat zMMd).2.2.2.2.2.2.1.list.getD ((findRM nm d.list 0).2).toNat zMExp).2.2.1)))])
              []
              [[], [], [1], [], [], [3, 4], [5], [6], [], [], [9], [8, 10], [11], [7, 12], [13], [0], [0, 1, 2, 15], [], []]
              hf (by kernel_rfl) (by kernel_rfl) (by kernel_rfl) (fun _ => rfl) ((Below.refl _ _).drew) (fun a b h1 h2 => h1.trans (h2.mono h1.size)) (fun _ _ h => h.size) (fun V => ⟨kept_eq, kept_eq, kept_eq, kept_eq, kept_eq, kept_eq, kept_eq, kept_eq, kept_eq, kept_eq, kept_eq, kept_eq, kept_eq, kept_eq, kept_eq, kept_eq, kept_eq, trivial⟩) (fun _ _ _ _ _ => rfl) ?_ ?_
            · skip
              intro V
              refine ⟨fun wu0 hC hd => ?_, ?_⟩
              · clear hd
                replace hb := hb.trans (hC.mono hb.size)
                replace hk1 := blk_ext hk1 hC
                replace hk4 := blk_ext hk4 hC
                replace hr1 := Row.ext hr1 hC
                exact Runs.does (r_move rfl) ⟨Below.refl _ _, rfl, nofr rfl⟩
              refine ⟨fun wu1 hC hd => ?_, ?_⟩
              · clear hd
                replace hb := hb.trans (hC.mono hb.size)
                replace hk1 := blk_ext hk1 hC
                replace hk4 := blk_ext hk4 hC
                replace hr1 := Row.ext hr1 hC
                exact Runs.does (r_fa rfl Try.underlying94 (f := 2) (q := 2) rfl (by kernel_rfl) rfl) ⟨Below.refl _ _, rfl, nofr rfl⟩
              refine ⟨fun wu2 hC hd => ?_, ?_⟩
              · obtain ⟨h1, _⟩ := hd
                skip
                replace h1 : V 1 = (.pointer (some ⟨b2, 2, none⟩)) := h1
                replace hb := hb.trans (hC.mono hb.size)
                replace hk1 := blk_ext hk1 hC
                replace hk4 := blk_ext hk4 hC
                replace hr1 := Row.ext hr1 hC
                exact Runs.does (r_load (v := (.int .u32 (((d.list.getD ((findRM nm d.list 0).1).toNat zMMd).2.2.2.2.2.2.1.list.getD ((findRM nm d.list 0).2).toNat zMExp).2.2.1))) (congrArg some h1) Try.underlying44 rfl (cell_blk hk4 rfl)) ⟨Below.refl _ _, rfl, nofr rfl⟩
              refine ⟨fun wu3 hC hd => ?_, ?_⟩
              · clear hd
                replace hb := hb.trans (hC.mono hb.size)
                replace hk1 := blk_ext hk1 hC
                replace hk4 := blk_ext hk4 hC
                replace hr1 := Row.ext hr1 hC
                exact Runs.does (r_move rfl) ⟨Below.refl _ _, rfl, nofr rfl⟩
              refine ⟨fun wu4 hC hd => ?_, ?_⟩
              · clear hd
                replace hb := hb.trans (hC.mono hb.size)
                replace hk1 := blk_ext hk1 hC
                replace hk4 := blk_ext hk4 hC
                replace hr1 := Row.ext hr1 hC
                exact Runs.does (r_move rfl) ⟨Below.refl _ _, rfl, nofr rfl⟩
              refine ⟨fun wu5 hC hd => ?_, ?_⟩
              · obtain ⟨h3, h4, _⟩ := hd
                skip
                skip
                replace h3 : V 3 = (.slice d.at' d.len d.cap) := h3
                replace h4 : V 4 = (.int .i64 ((findRM nm d.list 0).1)) := h4
                replace hb := hb.trans (hC.mono hb.size)
                replace hk1 := blk_ext hk1 hC
                replace hk4 := blk_ext hk4 hC
                replace hr1 := Row.ext hr1 hC
                exact Runs.does (r_ixa (sz := 17) (j := ((findRM nm d.list 0).1).toNat) (evAt (congrArg some h3) hat1) (congrArg some h4) Try.underlying43 (by kernel_rfl) (by omega) (by omega) rfl) ⟨Below.refl _ _, rfl, nofr rfl⟩
              refine ⟨fun wu6 hC hd => ?_, ?_⟩
              · obtain ⟨h5, _⟩ := hd
                skip
                replace h5 : V 5 = (.pointer (some ⟨ab1, (aoff1 + ((findRM nm d.list 0).1).toNat * 17), none⟩)) := h5
                replace hb := hb.trans (hC.mono hb.size)
                replace hk1 := blk_ext hk1 hC
                replace hk4 := blk_ext hk4 hC
                replace hr1 := Row.ext hr1 hC
                exact Runs.does (r_fa (congrArg some h5) Try.underlying67 (f := 0) (q := (aoff1 + ((findRM nm d.list 0).1).toNat * 17)) rfl (by kernel_rfl) rfl) ⟨Below.refl _ _, rfl, nofr rfl⟩
              refine ⟨fun wu7 hC hd => ?_, ?_⟩
              · obtain ⟨h6, _⟩ := hd
                skip
                replace h6 : V 6 = (.pointer (some ⟨ab1, (aoff1 + ((findRM nm d.list 0).1).toNat * 17), none⟩)) := h6
                replace hb := hb.trans (hC.mono hb.size)
                replace hk1 := blk_ext hk1 hC
                replace hk4 := blk_ext hk4 hC
                replace hr1 := Row.ext hr1 hC
                exact Runs.does (r_load (v := (.slice (d.list.getD ((findRM nm d.list 0).1).toNat zMMd).1.at' ((d.list.getD ((findRM nm d.list 0).1).toNat zMMd).1.len) (d.list.getD ((findRM nm d.list 0).1).toNat zMMd).1.cap)) (congrArg some h6) Try.underlying56 rfl (cellsAt_cell (cellsAt_below hel1 hb hlb1) (i := 0) rfl rfl)) ⟨Below.refl _ _, rfl, nofr rfl⟩
              refine ⟨fun wu8 hC hd => ?_, ?_⟩
              · clear hd
                replace hb := hb.trans (hC.mono hb.size)
                replace hk1 := blk_ext hk1 hC
                replace hk4 := blk_ext hk4 hC
                replace hr1 := Row.ext hr1 hC
                exact Runs.does (r_move rfl) ⟨Below.refl _ _, rfl, nofr rfl⟩
              refine ⟨fun wu9 hC hd => ?_, ?_⟩
              · clear hd
                replace hb := hb.trans (hC.mono hb.size)
                replace hk1 := blk_ext hk1 hC
                replace hk4 := blk_ext hk4 hC
                replace hr1 := Row.ext hr1 hC
                exact Runs.does (r_fa rfl Try.underlying94 (f := 2) (q := 2) rfl (by kernel_rfl) rfl) ⟨Below.refl _ _, rfl, nofr rfl⟩
              refine ⟨fun wu10 hC hd => ?_, ?_⟩
              · obtain ⟨h9, _⟩ := hd
                skip
                replace h9 : V 9 = (.pointer (some ⟨b2, 2, none⟩)) := h9
                replace hb := hb.trans (hC.mono hb.size)
                replace hk1 := blk_ext hk1 hC
                replace hk4 := blk_ext hk4 hC
                replace hr1 := Row.ext hr1 hC
                exact Runs.does (r_load (v := (.int .u32 (((d.list.getD ((findRM nm d.list 0).1).toNat zMMd).2.2.2.2.2.2.1.list.getD ((findRM nm d.list 0).2).toNat zMExp).2.2.1))) (congrArg some h9) Try.underlying44 rfl (cell_blk hk4 rfl)) ⟨Below.refl _ _, rfl, nofr rfl⟩
              refine ⟨fun wu11 hC hd => ?_, ?_⟩
              · obtain ⟨h8, h10, _⟩ := hd
                skip
                skip
                replace h8 : V 8 = (.slice (some ⟨rb1, 0, none⟩) (((funcsP (d.list.getD ((findRM nm d.list 0).1).toNat zMMd))).length) rc1) := h8
                replace h10 : V 10 = (.int .u32 (((d.list.getD ((findRM nm d.list 0).1).toNat zMMd).2.2.2.2.2.2.1.list.getD ((findRM nm d.list 0).2).toNat zMExp).2.2.1)) := h10
                replace hb := hb.trans (hC.mono hb.size)
                replace hk1 := blk_ext hk1 hC
                replace hk4 := blk_ext hk4 hC
                replace hr1 := Row.ext hr1 hC
                exact Runs.does (r_ixa (sz := 1) (j := (((d.list.getD ((findRM nm d.list 0).1).toNat zMMd).2.2.2.2.2.2.1.list.getD ((findRM nm d.list 0).2).toNat zMExp).2.2.1).toNat) (congrArg some h8) (congrArg some h10) Try.underlying37 (by kernel_rfl) (by omega) (by omega) rfl) ⟨Below.refl _ _, rfl, nofr rfl⟩
              refine ⟨fun wu12 hC hd => ?_, ?_⟩
              · obtain ⟨h11, _⟩ := hd
                skip
                replace h11 : V 11 = (.pointer (some ⟨rb1, (0 + (((d.list.getD ((findRM nm d.list 0).1).toNat zMMd).2.2.2.2.2.2.1.list.getD ((findRM nm d.list 0).2).toNat zMExp).2.2.1).toNat * 1), none⟩)) := h11
                replace hb := hb.trans (hC.mono hb.size)
                replace hk1 := blk_ext hk1 hC
                replace hk4 := blk_ext hk4 hC
                replace hr1 := Row.ext hr1 hC
                exact Runs.does (r_load (v := (.int .u32 (((funcsP (d.list.getD ((findRM nm d.list 0).1).toNat zMMd)).getD (((d.list.getD ((findRM nm d.list 0).1).toNat zMMd).2.2.2.2.2.2.1.list.getD ((findRM nm d.list 0).2).toNat zMExp).2.2.1).toNat (0 : Int))))) (congrArg some h11) Try.underlying44 rfl (cellsAt_cell (cellsAt_below hel4 hC hlr2) (i := 0) rfl rfl)) ⟨Below.refl _ _, rfl, nofr rfl⟩
              refine ⟨fun wu13 hC hd => ?_, ?_⟩
              · obtain ⟨h7, h12, _⟩ := hd
                skip
                skip
                replace h7 : V 7 = (.slice (d.list.getD ((findRM nm d.list 0).1).toNat zMMd).1.at' ((d.list.getD ((findRM nm d.list 0).1).toNat zMMd).1.len) (d.list.getD ((findRM nm d.list 0).1).toNat zMMd).1.cap) := h7
                replace h12 : V 12 = (.int .u32 (((funcsP (d.list.getD ((findRM nm d.list 0).1).toNat zMMd)).getD (((d.list.getD ((findRM nm d.list 0).1).toNat zMMd).2.2.2.2.2.2.1.list.getD ((findRM nm d.list 0).2).toNat zMExp).2.2.1).toNat (0 : Int)))) := h12
                replace hb := hb.trans (hC.mono hb.size)
                replace hk1 := blk_ext hk1 hC
                replace hk4 := blk_ext hk4 hC
                replace hr1 := Row.ext hr1 hC
                exact Runs.does (r_ixa (sz := 2) (j := (((funcsP (d.list.getD ((findRM nm d.list 0).1).toNat zMMd)).getD (((d.list.getD ((findRM nm d.list 0).1).toNat zMMd).2.2.2.2.2.2.1.list.getD ((findRM nm d.list 0).2).toNat zMExp).2.2.1).toNat (0 : Int))).toNat) (evAt (congrArg some h7) hat3) (congrArg some h12) Try.underlying56 (by kernel_rfl) (by omega) (by omega) rfl) ⟨Below.refl _ _, rfl, nofr rfl⟩
              refine ⟨fun wu14 hC hd => ?_, ?_⟩
              · obtain ⟨h13, _⟩ := hd
                skip
                replace h13 : V 13 = (.pointer (some ⟨ab3, (aoff3 + (((funcsP (d.list.getD ((findRM nm d.list 0).1).toNat zMMd)).getD (((d.list.getD ((findRM nm d.list 0).1).toNat zMMd).2.2.2.2.2.2.1.list.getD ((findRM nm d.list 0).2).toNat zMExp).2.2.1).toNat (0 : Int))).toNat * 2), none⟩)) := h13
                replace hb := hb.trans (hC.mono hb.size)
                replace hk1 := blk_ext hk1 hC
                replace hk4 := blk_ext hk4 hC
                replace hr1 := Row.ext hr1 hC
                exact Runs.does (r_loadA (cs := [(.string ((d.list.getD ((findRM nm d.list 0).1).toNat zMMd).1.list.getD (((funcsP (d.list.getD ((findRM nm d.list 0).1).toNat zMMd)).getD (((d.list.getD ((findRM nm d.list 0).1).toNat zMMd).2.2.2.2.2.2.1.list.getD ((findRM nm d.list 0).2).toNat zMExp).2.2.1).toNat (0 : Int))).toNat zMFt).1), (.string ((d.list.getD ((findRM nm d.list 0).1).toNat zMMd).1.list.getD (((funcsP (d.list.getD ((findRM nm d.list 0).1).toNat zMMd)).getD (((d.list.getD ((findRM nm d.list 0).1).toNat zMMd).2.2.2.2.2.2.1.list.getD ((findRM nm d.list 0).2).toNat zMExp).2.2.1).toNat (0 : Int))).toNat zMFt).2.1)]) (congrArg some h13) Try.underlying78 rfl (by kernel_rfl) (cellsAt_below hel5 hb hlb3)) ⟨Below.refl _ _, rfl, nofr rfl⟩
              refine ⟨fun wu15 hC hd => ?_, ?_⟩
              · obtain ⟨h0, _⟩ := hd
                skip
                replace h0 : V 0 = (.int .i64 ((findRM nm d.list 0).1)) := h0
                replace hb := hb.trans (hC.mono hb.size)
                replace hk1 := blk_ext hk1 hC
                replace hk4 := blk_ext hk4 hC
                replace hr1 := Row.ext hr1 hC
                exact Runs.does (r_assign (congrArg some h0)) ⟨Below.refl _ _, rfl, nofr rfl⟩
              refine ⟨fun wu16 hC hd => ?_, ?_⟩
              · obtain ⟨h0, h1, h2, h15, _⟩ := hd
                skip
                skip
                skip
                skip
                replace h0 : V 0 = (.int .i64 ((findRM nm d.list 0).1)) := h0
                replace h1 : V 1 = (.pointer (some ⟨b2, 2, none⟩)) := h1
                replace h2 : V 2 = (.int .u32 (((d.list.getD ((findRM nm d.list 0).1).toNat zMMd).2.2.2.2.2.2.1.list.getD ((findRM nm d.list 0).2).toNat zMExp).2.2.1)) := h2
                replace h15 : V 15 = (.int .i64 ((findRM nm d.list 0).1)) := h15
                replace hb := hb.trans (hC.mono hb.size)
                replace hk1 := blk_ext hk1 hC
                replace hk4 := blk_ext hk4 hC
                replace hr1 := Row.ext hr1 hC
                exact Runs.does (r_assign (congrArg some h2)) ⟨Below.refl _ _, rfl, nofr rfl⟩
              trivial
            · skip
              clear hf fa; intro V w10 fa he6 hp hnb hf
              have hv0 : V 0 = (.int .i64 ((findRM nm d.list 0).1)) := postsHold_at hp 0 rfl
              have hv1 : V 1 = (.pointer (some ⟨b2, 2, none⟩)) := postsHold_at hp 1 rfl
              have hv2 : V 2 = (.int .u32 (((d.list.getD ((findRM nm d.list 0).1).toNat zMMd).2.2.2.2.2.2.1.list.getD ((findRM nm d.list 0).2).toNat zMExp).2.2.1)) := postsHold_at hp 2 rfl
              have hv3 : V 3 = (.slice d.at' d.len d.cap) := postsHold_at hp 3 rfl
              have hv4 : V 4 = (.int .i64 ((findRM nm d.list 0).1)) := postsHold_at hp 4 rfl
              have hv5 : V 5 = (.pointer (some ⟨ab1, (aoff1 + ((findRM nm d.list 0).1).toNat * 17), none⟩)) := postsHold_at hp 5 rfl
              have hv6 : V 6 = (.pointer (some ⟨ab1, (aoff1 + ((findRM nm d.list 0).1).toNat * 17), none⟩)) := postsHold_at hp 6 rfl
              have hv7 : V 7 = (.slice (d.list.getD ((findRM nm d.list 0).1).toNat zMMd).1.at' ((d.list.getD ((findRM nm d.list 0).1).toNat zMMd).1.len) (d.list.getD ((findRM nm d.list 0).1).toNat zMMd).1.cap) := postsHold_at hp 7 rfl
              have hv8 : V 8 = (.slice (some ⟨rb1, 0, none⟩) (((funcsP (d.list.getD ((findRM nm d.list 0).1).toNat zMMd))).length) rc1) := postsHold_at hp 8 rfl
              have hv9 : V 9 = (.pointer (some ⟨b2, 2, none⟩)) := postsHold_at hp 9 rfl
              have hv10 : V 10 = (.int .u32 (((d.list.getD ((findRM nm d.list 0).1).toNat zMMd).2.2.2.2.2.2.1.list.getD ((findRM nm d.list 0).2).toNat zMExp).2.2.1)) := postsHold_at hp 10 rfl
              have hv11 : V 11 = (.pointer (some ⟨rb1, (0 + (((d.list.getD ((findRM nm d.list 0).1).toNat zMMd).2.2.2.2.2.2.1.list.getD ((findRM nm d.list 0).2).toNat zMExp).2.2.1).toNat * 1), none⟩)) := postsHold_at hp 11 rfl
              have hv12 : V 12 = (.int .u32 (((funcsP (d.list.getD ((findRM nm d.list 0).1).toNat zMMd)).getD (((d.list.getD ((findRM nm d.list 0).1).toNat zMMd).2.2.2.2.2.2.1.list.getD ((findRM nm d.list 0).2).toNat zMExp).2.2.1).toNat (0 : Int)))) := postsHold_at hp 12 rfl
              have hv13 : V 13 = (.pointer (some ⟨ab3, (aoff3 + (((funcsP (d.list.getD ((findRM nm d.list 0).1).toNat zMMd)).getD (((d.list.getD ((findRM nm d.list 0).1).toNat zMMd).2.2.2.2.2.2.1.list.getD ((findRM nm d.list 0).2).toNat zMExp).2.2.1).toNat (0 : Int))).toNat * 2), none⟩)) := postsHold_at hp 13 rfl
              have hv14 : V 14 = (.agg #[(.string ((d.list.getD ((findRM nm d.list 0).1).toNat zMMd).1.list.getD (((funcsP (d.list.getD ((findRM nm d.list 0).1).toNat zMMd)).getD (((d.list.getD ((findRM nm d.list 0).1).toNat zMMd).2.2.2.2.2.2.1.list.getD ((findRM nm d.list 0).2).toNat zMExp).2.2.1).toNat (0 : Int))).toNat zMFt).1), (.string ((d.list.getD ((findRM nm d.list 0).1).toNat zMMd).1.list.getD (((funcsP (d.list.getD ((findRM nm d.list 0).1).toNat zMMd)).getD (((d.list.getD ((findRM nm d.list 0).1).toNat zMMd).2.2.2.2.2.2.1.list.getD ((findRM nm d.list 0).2).toNat zMExp).2.2.1).toNat (0 : Int))).toNat zMFt).2.1)]) := postsHold_at hp 14 rfl
              have hv15 : V 15 = (.int .i64 ((findRM nm d.list 0).1)) := postsHold_at hp 15 rfl
              have hv16 : V 16 = (.int .u32 (((d.list.getD ((findRM nm d.list 0).1).toNat zMMd).2.2.2.2.2.2.1.list.getD ((findRM nm d.list 0).2).toNat zMExp).2.2.1)) := postsHold_at hp 16 rfl
              simp only [List.take_succ_cons, List.take_zero, insAll, ins, hv0, hv1, hv2, hv3, hv4, hv5, hv6, hv7, hv8, hv9, hv10, hv11, hv12, hv13, hv14, hv15, hv16] at hf
              clear hp hnb hv0 hv1 hv2 hv3 hv4 hv5 hv6 hv7 hv8 hv9 hv10 hv11 hv12 hv13 hv14 hv15 hv16
              replace hk1 := blk_ext hk1 he6
              replace hk4 := blk_ext hk4 he6
              replace hr1 := Row.ext hr1 he6
              replace hb := hb.trans (Below.mono he6 hb.size)
              simp only [List.drop_succ_cons, List.drop_zero]
              refine sqn hf (d_storeK (T := 78) (v := (.agg #[(.string ((d.list.getD ((findRM nm d.list 0).1).toNat zMMd).1.list.getD (((funcsP (d.list.getD ((findRM nm d.list 0).1).toNat zMMd)).getD (((d.list.getD ((findRM nm d.list 0).1).toNat zMMd).2.2.2.2.2.2.1.list.getD ((findRM nm d.list 0).2).toNat zMExp).2.2.1).toNat (0 : Int))).toNat zMFt).1), (.string ((d.list.getD ((findRM nm d.list 0).1).toNat zMMd).1.list.getD (((funcsP (d.list.getD ((findRM nm d.list 0).1).toNat zMMd)).getD (((d.list.getD ((findRM nm d.list 0).1).toNat zMMd).2.2.2.2.2.2.1.list.getD ((findRM nm d.list 0).2).toNat zMExp).2.2.1).toNat (0 : Int))).toNat zMFt).2.1)])) (cs := #[(.string ⟨#[]⟩), (.string ⟨#[]⟩)]) (cs' := #[(.string ((d.list.getD ((findRM nm d.list 0).1).toNat zMMd).1.list.getD (((funcsP (d.list.getD ((findRM nm d.list 0).1).toNat zMMd)).getD (((d.list.getD ((findRM nm d.list 0).1).toNat zMMd).2.2.2.2.2.2.1.list.getD ((findRM nm d.list 0).2).toNat zMExp).2.2.1).toNat (0 : Int))).toNat zMFt).1), (.string ((d.list.getD ((findRM nm d.list 0).1).toNat zMMd).1.list.getD (((funcsP (d.list.getD ((findRM nm d.list 0).1).toNat zMMd)).getD (((d.list.getD ((findRM nm d.list 0).1).toNat zMMd).2.2.2.2.2.2.1.list.getD ((findRM nm d.list 0).2).toNat zMExp).2.2.1).toNat (0 : Int))).toNat zMFt).2.1)]) rfl rfl (by kernel_rfl) (by kernel_rfl) hk1 (by kernel_rfl) (by kernel_rfl)) rfl rfl ?_; clear hf fa; rintro fa _ w11 ⟨hk7, hg5⟩ hf
              replace hk4 := blk_grown hk4 hg5 (by omega)
              replace hr1 := Row.grown hr1 hg5 (Row.ne_type hr1 hk1 rfl)
              replace hb := hb.trans (grown_below hg5 hb.size hBb1)
              refine sqv hf (r_assign rfl) rfl rfl rfl ?_; clear hf fa; intro fa hf
              apply wpList_nil
              (try simp only [Exit.then, Exit.inBlock, ↓reduceIte, Nat.reduceEqDiff])
              refine hK14 _ _ ?_
              refine wp_ret ?_
              (try simp only [Exit.then, Exit.inBlock])
              refine retTTCT hf rfl rfl rfl rfl hk7 Try.underlying78 rfl (by kernel_rfl) rfl ?_
              refine ⟨?_, hb⟩; unfold ranyP; rw [hqt19_1b, hqt31_1b, hsp1b, hqt58_1b]; (try rfl)
      · have hsp1b : decide ((((d.list.getD ((findRM nm d.list 0).1).toNat zMMd).2.2.2.2.2.2.1.list.getD ((findRM nm d.list 0).2).toNat zMExp).2.2.1).toNat < (funcsP (d.list.getD ((findRM nm d.list 0).1).toNat zMMd)).length) = false := decide_eq_false hsp1
        skip
        refine wp_region_un (fun wq => Below w7.heap.size w7 wq) (fun w w' => Below w.heap.size w w')
          (fun V => [(fun x _ => x = (.pointer (some ⟨b2, 2, none⟩))), (fun x _ => x = (.int .u32 (((d.list.getD ((findRM nm d.list 0).1).toNat zMMd).2.2.2.2.2.2.1.list.getD ((findRM nm d.list 0).2).toNat zMExp).2.2.1))), (fun x _ => x = (.int .i64 (((d.list.getD ((findRM nm d.list 0).1).toNat zMMd).2.2.2.2.2.2.1.list.getD ((findRM nm d.list 0).2).toNat zMExp).2.2.1))), (fun x _ => x = (.slice ra1 (((funcsP (d.list.getD ((findRM nm d.list 0).1).toNat zMMd))).length) rc1)), (fun x _ => x = (.int .i64 ((((funcsP (d.list.getD ((findRM nm d.list 0).1).toNat zMMd))).length : Nat) : Int))), (fun x _ => x = (.bool (decide (((((funcsP (d.list.getD ((findRM nm d.list 0).1).toNat zMMd))).length : Nat) : Int) ≤ (((d.list.getD ((findRM nm d.list 0).1).toNat zMMd).2.2.2.2.2.2.1.list.getD ((findRM nm d.list 0).2).toNat zMExp).2.2.1))))), (fun x _ => x = (.bool (decide (((((funcsP (d.list.getD ((findRM nm d.list 0).1).toNat zMMd))).length : Nat) : Int) ≤ (((d.list.getD ((findRM nm d.list 0).1).toNat zMMd).2.2.2.2.2.2.1.list.getD ((findRM nm d.list 0).2).toNat zMExp).2.2.1))))), (fun x _ => x = gb false (.bool false)), (fun x _ => x = gb false (.bool false)), (fun x _ => x = gb false (.bool false)), (fun x _ => x = gb false (.bool false)), (fun x _ => x = gb false (.bool false)), (fun x _ => x = gb false (.bool false)), (fun x _ => x = gb false (.bool false)), (fun x _ => x = gb false (.bool false)), (fun x _ => x = gb false (.bool false)), (fun x _ => x = gb false (.bool false)), (fun x _ => x = gb false (.bool false)), (fun x _ => x = gb false (.bool false)), (fun x _ => x = gb false (.bool false)), (fun x _ => x = (.bool true))])
          []
          [[], [0], [1], [], [3], [2, 4], [5], [6], [6], [6, 8], [6, 7, 9], [6, 10], [6, 11], [6], [6], [6, 13, 14], [6, 15], [6, 16], [6, 17], [6, 12, 18], [6, 19]]
          hf (by kernel_rfl) (by kernel_rfl) (fun _ => rfl) ((Below.refl _ _).drew) (fun a b h1 h2 => h1.trans (h2.mono h1.size)) (fun _ _ h => h.size) (fun V => ⟨kept_eq, kept_eq, kept_eq, kept_eq, kept_eq, kept_eq, kept_eq, kept_eq, kept_eq, kept_eq, kept_eq, kept_eq, kept_eq, kept_eq, kept_eq, kept_eq, kept_eq, kept_eq, kept_eq, kept_eq, kept_eq, trivial⟩) (fun _ _ _ _ _ => rfl) ?_ ?_
        · skip
          intro V
          refine ⟨fun wu0 hC hd => ?_, ?_⟩
          · clear hd
            replace hb := hb.trans (hC.mono hb.size)
            replace hk1 := blk_ext hk1 hC
            replace hk4 := blk_ext hk4 hC
            replace hr1 := Row.ext hr1 hC
            exact Runs.does (r_fa rfl Try.underlying94 (f := 2) (q := 2) rfl (by kernel_rfl) rfl) ⟨Below.refl _ _, rfl, nofr rfl⟩
          refine ⟨fun wu1 hC hd => ?_, ?_⟩
          · obtain ⟨h0, _⟩ := hd
            skip
            replace h0 : V 0 = (.pointer (some ⟨b2, 2, none⟩)) := h0
            replace hb := hb.trans (hC.mono hb.size)
            replace hk1 := blk_ext hk1 hC
            replace hk4 := blk_ext hk4 hC
            replace hr1 := Row.ext hr1 hC
            exact Runs.does (r_load (v := (.int .u32 (((d.list.getD ((findRM nm d.list 0).1).toNat zMMd).2.2.2.2.2.2.1.list.getD ((findRM nm d.list 0).2).toNat zMExp).2.2.1))) (congrArg some h0) Try.underlying44 rfl (cell_blk hk4 rfl)) ⟨Below.refl _ _, rfl, nofr rfl⟩
          refine ⟨fun wu2 hC hd => ?_, ?_⟩
          · obtain ⟨h1, _⟩ := hd
            skip
            replace h1 : V 1 = (.int .u32 (((d.list.getD ((findRM nm d.list 0).1).toNat zMMd).2.2.2.2.2.2.1.list.getD ((findRM nm d.list 0).2).toNat zMExp).2.2.1)) := h1
            replace hb := hb.trans (hC.mono hb.size)
            replace hk1 := blk_ext hk1 hC
            replace hk4 := blk_ext hk4 hC
            replace hr1 := Row.ext hr1 hC
            exact Runs.does (r_conv (C := (((d.list.getD ((findRM nm d.list 0).1).toNat zMMd).2.2.2.2.2.2.1.list.getD ((findRM nm d.list 0).2).toNat zMExp).2.2.1)) (congrArg some h1) Try.underlying44 Try.underlying3 (by rw [IntKind.wrap_i64]; omega)) ⟨Below.refl _ _, rfl, nofr rfl⟩
          refine ⟨fun wu3 hC hd => ?_, ?_⟩
          · clear hd
            replace hb := hb.trans (hC.mono hb.size)
            replace hk1 := blk_ext hk1 hC
            replace hk4 := blk_ext hk4 hC
            replace hr1 := Row.ext hr1 hC
            exact Runs.does (r_move rfl) ⟨Below.refl _ _, rfl, nofr rfl⟩
          refine ⟨fun wu4 hC hd => ?_, ?_⟩
          · obtain ⟨h3, _⟩ := hd
            skip
            replace h3 : V 3 = (.slice ra1 (((funcsP (d.list.getD ((findRM nm d.list 0).1).toNat zMMd))).length) rc1) := h3
            replace hb := hb.trans (hC.mono hb.size)
            replace hk1 := blk_ext hk1 hC
            replace hk4 := blk_ext hk4 hC
            replace hr1 := Row.ext hr1 hC
            exact Runs.does (r_lensl (congrArg some h3) Try.underlying37) ⟨Below.refl _ _, rfl, nofr rfl⟩
          refine ⟨fun wu5 hC hd => ?_, ?_⟩
          · obtain ⟨h2, h4, _⟩ := hd
            skip
            skip
            replace h2 : V 2 = (.int .i64 (((d.list.getD ((findRM nm d.list 0).1).toNat zMMd).2.2.2.2.2.2.1.list.getD ((findRM nm d.list 0).2).toNat zMExp).2.2.1)) := h2
            replace h4 : V 4 = (.int .i64 ((((funcsP (d.list.getD ((findRM nm d.list 0).1).toNat zMMd))).length : Nat) : Int)) := h4
            replace hb := hb.trans (hC.mono hb.size)
            replace hk1 := blk_ext hk1 hC
            replace hk4 := blk_ext hk4 hC
            replace hr1 := Row.ext hr1 hC
            exact Runs.does (r_ge (congrArg some h2) (congrArg some h4)) ⟨Below.refl _ _, rfl, nofr rfl⟩
          refine ⟨fun wu6 hC hd => ?_, ?_⟩
          · obtain ⟨h5, _⟩ := hd
            skip
            replace h5 : V 5 = (.bool (decide (((((funcsP (d.list.getD ((findRM nm d.list 0).1).toNat zMMd))).length : Nat) : Int) ≤ (((d.list.getD ((findRM nm d.list 0).1).toNat zMMd).2.2.2.2.2.2.1.list.getD ((findRM nm d.list 0).2).toNat zMExp).2.2.1)))) := h5
            replace hb := hb.trans (hC.mono hb.size)
            replace hk1 := blk_ext hk1 hC
            replace hk4 := blk_ext hk4 hC
            replace hr1 := Row.ext hr1 hC
            exact Runs.does (r_move (congrArg some h5)) ⟨Below.refl _ _, rfl, nofr rfl⟩
          refine ⟨fun wu7 hC hd => ?_, ?_⟩
          · obtain ⟨h6, _⟩ := hd
            skip
            replace h6 : V 6 = (.bool (decide (((((funcsP (d.list.getD ((findRM nm d.list 0).1).toNat zMMd))).length : Nat) : Int) ≤ (((d.list.getD ((findRM nm d.list 0).1).toNat zMMd).2.2.2.2.2.2.1.list.getD ((findRM nm d.list 0).2).toNat zMExp).2.2.1)))) := h6
            replace hb := hb.trans (hC.mono hb.size)
            replace hk1 := blk_ext hk1 hC
            replace hk4 := blk_ext hk4 hC
            replace hr1 := Row.ext hr1 hC
            refine ⟨true, (decide (((((funcsP (d.list.getD ((findRM nm d.list 0).1).toNat zMMd))).length : Nat) : Int) ≤ (((d.list.getD ((findRM nm d.list 0).1).toNat zMMd).2.2.2.2.2.2.1.list.getD ((findRM nm d.list 0).2).toNat zMExp).2.2.1))), congrArg some h6, fun hact => ?_, fun hact => ?_⟩
            · exfalso; replace hact : (!(decide (((((funcsP (d.list.getD ((findRM nm d.list 0).1).toNat zMMd))).length : Nat) : Int) ≤ (((d.list.getD ((findRM nm d.list 0).1).toNat zMMd).2.2.2.2.2.2.1.list.getD ((findRM nm d.list 0).2).toNat zMExp).2.2.1)))) = true := by simpa using hact
              rw [show (!(decide (((((funcsP (d.list.getD ((findRM nm d.list 0).1).toNat zMMd))).length : Nat) : Int) ≤ (((d.list.getD ((findRM nm d.list 0).1).toNat zMMd).2.2.2.2.2.2.1.list.getD ((findRM nm d.list 0).2).toNat zMExp).2.2.1)))) = false from (by simp only [Bool.not_eq_true', Bool.not_eq_false', decide_eq_false_iff_not, decide_eq_true_eq]; omega)] at hact; cases hact
            · exact ⟨Below.refl _ _, rfl, nofr rfl⟩
          refine ⟨fun wu8 hC hd => ?_, ?_⟩
          · obtain ⟨h6, _⟩ := hd
            skip
            replace h6 : V 6 = (.bool (decide (((((funcsP (d.list.getD ((findRM nm d.list 0).1).toNat zMMd))).length : Nat) : Int) ≤ (((d.list.getD ((findRM nm d.list 0).1).toNat zMMd).2.2.2.2.2.2.1.list.getD ((findRM nm d.list 0).2).toNat zMExp).2.2.1)))) := h6
            replace hb := hb.trans (hC.mono hb.size)
            replace hk1 := blk_ext hk1 hC
            replace hk4 := blk_ext hk4 hC
            replace hr1 := Row.ext hr1 hC
            refine ⟨true, (decide (((((funcsP (d.list.getD ((findRM nm d.list 0).1).toNat zMMd))).length : Nat) : Int) ≤ (((d.list.getD ((findRM nm d.list 0).1).toNat zMMd).2.2.2.2.2.2.1.list.getD ((findRM nm d.list 0).2).toNat zMExp).2.2.1))), congrArg some h6, fun hact => ?_, fun hact => ?_⟩
            · exfalso; replace hact : (!(decide (((((funcsP (d.list.getD ((findRM nm d.list 0).1).toNat zMMd))).length : Nat) : Int) ≤ (((d.list.getD ((findRM nm d.list 0).1).toNat zMMd).2.2.2.2.2.2.1.list.getD ((findRM nm d.list 0).2).toNat zMExp).2.2.1)))) = true := by simpa using hact
              rw [show (!(decide (((((funcsP (d.list.getD ((findRM nm d.list 0).1).toNat zMMd))).length : Nat) : Int) ≤ (((d.list.getD ((findRM nm d.list 0).1).toNat zMMd).2.2.2.2.2.2.1.list.getD ((findRM nm d.list 0).2).toNat zMExp).2.2.1)))) = false from (by simp only [Bool.not_eq_true', Bool.not_eq_false', decide_eq_false_iff_not, decide_eq_true_eq]; omega)] at hact; cases hact
            · exact ⟨Below.refl _ _, rfl, nofr rfl⟩
          refine ⟨fun wu9 hC hd => ?_, ?_⟩
          · obtain ⟨h6, h8, _⟩ := hd
            skip
            skip
            replace h6 : V 6 = (.bool (decide (((((funcsP (d.list.getD ((findRM nm d.list 0).1).toNat zMMd))).length : Nat) : Int) ≤ (((d.list.getD ((findRM nm d.list 0).1).toNat zMMd).2.2.2.2.2.2.1.list.getD ((findRM nm d.list 0).2).toNat zMExp).2.2.1)))) := h6
            replace h8 : V 8 = gb false (.bool false) := h8
            replace hb := hb.trans (hC.mono hb.size)
            replace hk1 := blk_ext hk1 hC
            replace hk4 := blk_ext hk4 hC
            replace hr1 := Row.ext hr1 hC
            refine ⟨true, (decide (((((funcsP (d.list.getD ((findRM nm d.list 0).1).toNat zMMd))).length : Nat) : Int) ≤ (((d.list.getD ((findRM nm d.list 0).1).toNat zMMd).2.2.2.2.2.2.1.list.getD ((findRM nm d.list 0).2).toNat zMExp).2.2.1))), congrArg some h6, fun hact => ?_, fun hact => ?_⟩
            · exfalso; replace hact : (!(decide (((((funcsP (d.list.getD ((findRM nm d.list 0).1).toNat zMMd))).length : Nat) : Int) ≤ (((d.list.getD ((findRM nm d.list 0).1).toNat zMMd).2.2.2.2.2.2.1.list.getD ((findRM nm d.list 0).2).toNat zMExp).2.2.1)))) = true := by simpa using hact
              rw [show (!(decide (((((funcsP (d.list.getD ((findRM nm d.list 0).1).toNat zMMd))).length : Nat) : Int) ≤ (((d.list.getD ((findRM nm d.list 0).1).toNat zMMd).2.2.2.2.2.2.1.list.getD ((findRM nm d.list 0).2).toNat zMExp).2.2.1)))) = false from (by simp only [Bool.not_eq_true', Bool.not_eq_false', decide_eq_false_iff_not, decide_eq_true_eq]; omega)] at hact; cases hact
            · exact ⟨Below.refl _ _, rfl, nofr rfl⟩
          refine ⟨fun wu10 hC hd => ?_, ?_⟩
          · obtain ⟨h6, h7, h9, _⟩ := hd
            skip
            skip
            skip
            replace h6 : V 6 = (.bool (decide (((((funcsP (d.list.getD ((findRM nm d.list 0).1).toNat zMMd))).length : Nat) : Int) ≤ (((d.list.getD ((findRM nm d.list 0).1).toNat zMMd).2.2.2.2.2.2.1.list.getD ((findRM nm d.list 0).2).toNat zMExp).2.2.1)))) := h6
            replace h7 : V 7 = gb false (.bool false) := h7
            replace h9 : V 9 = gb false (.bool false) := h9
            replace hb := hb.trans (hC.mono hb.size)
            replace hk1 := blk_ext hk1 hC
            replace hk4 := blk_ext hk4 hC
            replace hr1 := Row.ext hr1 hC
            refine ⟨true, (decide (((((funcsP (d.list.getD ((findRM nm d.list 0).1).toNat zMMd))).length : Nat) : Int) ≤ (((d.list.getD ((findRM nm d.list 0).1).toNat zMMd).2.2.2.2.2.2.1.list.getD ((findRM nm d.list 0).2).toNat zMExp).2.2.1))), congrArg some h6, fun hact => ?_, fun hact => ?_⟩
            · exfalso; replace hact : (!(decide (((((funcsP (d.list.getD ((findRM nm d.list 0).1).toNat zMMd))).length : Nat) : Int) ≤ (((d.list.getD ((findRM nm d.list 0).1).toNat zMMd).2.2.2.2.2.2.1.list.getD ((findRM nm d.list 0).2).toNat zMExp).2.2.1)))) = true := by simpa using hact
              rw [show (!(decide (((((funcsP (d.list.getD ((findRM nm d.list 0).1).toNat zMMd))).length : Nat) : Int) ≤ (((d.list.getD ((findRM nm d.list 0).1).toNat zMMd).2.2.2.2.2.2.1.list.getD ((findRM nm d.list 0).2).toNat zMExp).2.2.1)))) = false from (by simp only [Bool.not_eq_true', Bool.not_eq_false', decide_eq_false_iff_not, decide_eq_true_eq]; omega)] at hact; cases hact
            · exact ⟨Below.refl _ _, rfl, nofr rfl⟩
          refine ⟨fun wu11 hC hd => ?_, ?_⟩
          · obtain ⟨h6, h10, _⟩ := hd
            skip
            skip
            replace h6 : V 6 = (.bool (decide (((((funcsP (d.list.getD ((findRM nm d.list 0).1).toNat zMMd))).length : Nat) : Int) ≤ (((d.list.getD ((findRM nm d.list 0).1).toNat zMMd).2.2.2.2.2.2.1.list.getD ((findRM nm d.list 0).2).toNat zMExp).2.2.1)))) := h6
            replace h10 : V 10 = gb false (.bool false) := h10
            replace hb := hb.trans (hC.mono hb.size)
            replace hk1 := blk_ext hk1 hC
            replace hk4 := blk_ext hk4 hC
            replace hr1 := Row.ext hr1 hC
            refine ⟨true, (decide (((((funcsP (d.list.getD ((findRM nm d.list 0).1).toNat zMMd))).length : Nat) : Int) ≤ (((d.list.getD ((findRM nm d.list 0).1).toNat zMMd).2.2.2.2.2.2.1.list.getD ((findRM nm d.list 0).2).toNat zMExp).2.2.1))), congrArg some h6, fun hact => ?_, fun hact => ?_⟩
            · exfalso; replace hact : (!(decide (((((funcsP (d.list.getD ((findRM nm d.list 0).1).toNat zMMd))).length : Nat) : Int) ≤ (((d.list.getD ((findRM nm d.list 0).1).toNat zMMd).2.2.2.2.2.2.1.list.getD ((findRM nm d.list 0).2).toNat zMExp).2.2.1)))) = true := by simpa using hact
              rw [show (!(decide (((((funcsP (d.list.getD ((findRM nm d.list 0).1).toNat zMMd))).length : Nat) : Int) ≤ (((d.list.getD ((findRM nm d.list 0).1).toNat zMMd).2.2.2.2.2.2.1.list.getD ((findRM nm d.list 0).2).toNat zMExp).2.2.1)))) = false from (by simp only [Bool.not_eq_true', Bool.not_eq_false', decide_eq_false_iff_not, decide_eq_true_eq]; omega)] at hact; cases hact
            · exact ⟨Below.refl _ _, rfl, nofr rfl⟩
          refine ⟨fun wu12 hC hd => ?_, ?_⟩
          · obtain ⟨h6, h11, _⟩ := hd
            skip
            skip
            replace h6 : V 6 = (.bool (decide (((((funcsP (d.list.getD ((findRM nm d.list 0).1).toNat zMMd))).length : Nat) : Int) ≤ (((d.list.getD ((findRM nm d.list 0).1).toNat zMMd).2.2.2.2.2.2.1.list.getD ((findRM nm d.list 0).2).toNat zMExp).2.2.1)))) := h6
            replace h11 : V 11 = gb false (.bool false) := h11
            replace hb := hb.trans (hC.mono hb.size)
            replace hk1 := blk_ext hk1 hC
            replace hk4 := blk_ext hk4 hC
            replace hr1 := Row.ext hr1 hC
            refine ⟨true, (decide (((((funcsP (d.list.getD ((findRM nm d.list 0).1).toNat zMMd))).length : Nat) : Int) ≤ (((d.list.getD ((findRM nm d.list 0).1).toNat zMMd).2.2.2.2.2.2.1.list.getD ((findRM nm d.list 0).2).toNat zMExp).2.2.1))), congrArg some h6, fun hact => ?_, fun hact => ?_⟩
            · exfalso; replace hact : (!(decide (((((funcsP (d.list.getD ((findRM nm d.list 0).1).toNat zMMd))).length : Nat) : Int) ≤ (((d.list.getD ((findRM nm d.list 0).1).toNat zMMd).2.2.2.2.2.2.1.list.getD ((findRM nm d.list 0).2).toNat zMExp).2.2.1)))) = true := by simpa using hact
              rw [show (!(decide (((((funcsP (d.list.getD ((findRM nm d.list 0).1).toNat zMMd))).length : Nat) : Int) ≤ (((d.list.getD ((findRM nm d.list 0).1).toNat zMMd).2.2.2.2.2.2.1.list.getD ((findRM nm d.list 0).2).toNat zMExp).2.2.1)))) = false from (by simp only [Bool.not_eq_true', Bool.not_eq_false', decide_eq_false_iff_not, decide_eq_true_eq]; omega)] at hact; cases hact
            · exact ⟨Below.refl _ _, rfl, nofr rfl⟩
          refine ⟨fun wu13 hC hd => ?_, ?_⟩
          · obtain ⟨h6, _⟩ := hd
            skip
            replace h6 : V 6 = (.bool (decide (((((funcsP (d.list.getD ((findRM nm d.list 0).1).toNat zMMd))).length : Nat) : Int) ≤ (((d.list.getD ((findRM nm d.list 0).1).toNat zMMd).2.2.2.2.2.2.1.list.getD ((findRM nm d.list 0).2).toNat zMExp).2.2.1)))) := h6
            replace hb := hb.trans (hC.mono hb.size)
            replace hk1 := blk_ext hk1 hC
            replace hk4 := blk_ext hk4 hC
            replace hr1 := Row.ext hr1 hC
            refine ⟨true, (decide (((((funcsP (d.list.getD ((findRM nm d.list 0).1).toNat zMMd))).length : Nat) : Int) ≤ (((d.list.getD ((findRM nm d.list 0).1).toNat zMMd).2.2.2.2.2.2.1.list.getD ((findRM nm d.list 0).2).toNat zMExp).2.2.1))), congrArg some h6, fun hact => ?_, fun hact => ?_⟩
            · exfalso; replace hact : (!(decide (((((funcsP (d.list.getD ((findRM nm d.list 0).1).toNat zMMd))).length : Nat) : Int) ≤ (((d.list.getD ((findRM nm d.list 0).1).toNat zMMd).2.2.2.2.2.2.1.list.getD ((findRM nm d.list 0).2).toNat zMExp).2.2.1)))) = true := by simpa using hact
              rw [show (!(decide (((((funcsP (d.list.getD ((findRM nm d.list 0).1).toNat zMMd))).length : Nat) : Int) ≤ (((d.list.getD ((findRM nm d.list 0).1).toNat zMMd).2.2.2.2.2.2.1.list.getD ((findRM nm d.list 0).2).toNat zMExp).2.2.1)))) = false from (by simp only [Bool.not_eq_true', Bool.not_eq_false', decide_eq_false_iff_not, decide_eq_true_eq]; omega)] at hact; cases hact
            · exact ⟨Below.refl _ _, rfl, nofr rfl⟩
          refine ⟨fun wu14 hC hd => ?_, ?_⟩
          · obtain ⟨h6, _⟩ := hd
            skip
            replace h6 : V 6 = (.bool (decide (((((funcsP (d.list.getD ((findRM nm d.list 0).1).toNat zMMd))).length : Nat) : Int) ≤ (((d.list.getD ((findRM nm d.list 0).1).toNat zMMd).2.2.2.2.2.2.1.list.getD ((findRM nm d.list 0).2).toNat zMExp).2.2.1)))) := h6
            replace hb := hb.trans (hC.mono hb.size)
            replace hk1 := blk_ext hk1 hC
            replace hk4 := blk_ext hk4 hC
            replace hr1 := Row.ext hr1 hC
            refine ⟨true, (decide (((((funcsP (d.list.getD ((findRM nm d.list 0).1).toNat zMMd))).length : Nat) : Int) ≤ (((d.list.getD ((findRM nm d.list 0).1).toNat zMMd).2.2.2.2.2.2.1.list.getD ((findRM nm d.list 0).2).toNat zMExp).2.2.1))), congrArg some h6, fun hact => ?_, fun hact => ?_⟩
            · exfalso; replace hact : (!(decide (((((funcsP (d.list.getD ((findRM nm d.list 0).1).toNat zMMd))).length : Nat) : Int) ≤ (((d.list.getD ((findRM nm d.list 0).1).toNat zMMd).2.2.2.2.2.2.1.list.getD ((findRM nm d.list 0).2).toNat zMExp).2.2.1)))) = true := by simpa using hact
              rw [show (!(decide (((((funcsP (d.list.getD ((findRM nm d.list 0).1).toNat zMMd))).length : Nat) : Int) ≤ (((d.list.getD ((findRM nm d.list 0).1).toNat zMMd).2.2.2.2.2.2.1.list.getD ((findRM nm d.list 0).2).toNat zMExp).2.2.1)))) = false from (by simp only [Bool.not_eq_true', Bool.not_eq_false', decide_eq_false_iff_not, decide_eq_true_eq]; omega)] at hact; cases hact
            · exact ⟨Below.refl _ _, rfl, nofr rfl⟩
          refine ⟨fun wu15 hC hd => ?_, ?_⟩
          · obtain ⟨h6, h13, h14, _⟩ := hd
            skip
            skip
            skip
            replace h6 : V 6 = (.bool (decide (((((funcsP (d.list.getD ((findRM nm d.list 0).1).toNat zMMd))).length : Nat) : Int) ≤ (((d.list.getD ((findRM nm d.list 0).1).toNat zMMd).2.2.2.2.2.2.1.list.getD ((findRM nm d.list 0).2).toNat zMExp).2.2.1)))) := h6
            replace h13 : V 13 = gb false (.bool false) := h13
            replace h14 : V 14 = gb false (.bool false) := h14
            replace hb := hb.trans (hC.mono hb.size)
            replace hk1 := blk_ext hk1 hC
            replace hk4 := blk_ext hk4 hC
            replace hr1 := Row.ext hr1 hC
            refine ⟨true, (decide (((((funcsP (d.list.getD ((findRM nm d.list 0).1).toNat zMMd))).length : Nat) : Int) ≤ (((d.list.getD ((findRM nm d.list 0).1).toNat zMMd).2.2.2.2.2.2.1.list.getD ((findRM nm d.list 0).2).toNat zMExp).2.2.1))), congrArg some h6, fun hact => ?_, fun hact => ?_⟩
            · exfalso; replace hact : (!(decide (((((funcsP (d.list.getD ((findRM nm d.list 0).1).toNat zMMd))).length : Nat) : Int) ≤ (((d.list.getD ((findRM nm d.list 0).1).toNat zMMd).2.2.2.2.2.2.1.list.getD ((findRM nm d.list 0).2).toNat zMExp).2.2.1)))) = true := by simpa using hact
              rw [show (!(decide (((((funcsP (d.list.getD ((findRM nm d.list 0).1).toNat zMMd))).length : Nat) : Int) ≤ (((d.list.getD ((findRM nm d.list 0).1).toNat zMMd).2.2.2.2.2.2.1.list.getD ((findRM nm d.list 0).2).toNat zMExp).2.2.1)))) = false from (by simp only [Bool.not_eq_true', Bool.not_eq_false', decide_eq_false_iff_not, decide_eq_true_eq]; omega)] at hact; cases hact
            · exact ⟨Below.refl _ _, rfl, nofr rfl⟩
          refine ⟨fun wu16 hC hd => ?_, ?_⟩
          · obtain ⟨h6, h15, _⟩ := hd
            skip
            skip
            replace h6 : V 6 = (.bool (decide (((((funcsP (d.list.getD ((findRM nm d.list 0).1).toNat zMMd))).length : Nat) : Int) ≤ (((d.list.getD ((findRM nm d.list 0).1).toNat zMMd).2.2.2.2.2.2.1.list.getD ((findRM nm d.list 0).2).toNat zMExp).2.2.1)))) := h6
            replace h15 : V 15 = gb false (.bool false) := h15
            replace hb := hb.trans (hC.mono hb.size)
            replace hk1 := blk_ext hk1 hC
            replace hk4 := blk_ext hk4 hC
            replace hr1 := Row.ext hr1 hC
            refine ⟨true, (decide (((((funcsP (d.list.getD ((findRM nm d.list 0).1).toNat zMMd))).length : Nat) : Int) ≤ (((d.list.getD ((findRM nm d.list 0).1).toNat zMMd).2.2.2.2.2.2.1.list.getD ((findRM nm d.list 0).2).toNat zMExp).2.2.1))), congrArg some h6, fun hact => ?_, fun hact => ?_⟩
            · exfalso; replace hact : (!(decide (((((funcsP (d.list.getD ((findRM nm d.list 0).1).toNat zMMd))).length : Nat) : Int) ≤ (((d.list.getD ((findRM nm d.list 0).1).toNat zMMd).2.2.2.2.2.2.1.list.getD ((findRM nm d.list 0).2).toNat zMExp).2.2.1)))) = true := by simpa using hact
              rw [show (!(decide (((((funcsP (d.list.getD ((findRM nm d.list 0).1).toNat zMMd))).length : Nat) : Int) ≤ (((d.list.getD ((findRM nm d.list 0).1).toNat zMMd).2.2.2.2.2.2.1.list.getD ((findRM nm d.list 0).2).toNat zMExp).2.2.1)))) = false from (by simp only [Bool.not_eq_true', Bool.not_eq_false', decide_eq_false_iff_not, decide_eq_true_eq]; omega)] at hact; cases hact
            · exact ⟨Below.refl _ _, rfl, nofr rfl⟩
          refine ⟨fun wu17 hC hd => ?_, ?_⟩
          · obtain ⟨h6, h16, _⟩ := hd
            skip
            skip
            replace h6 : V 6 = (.bool (decide (((((funcsP (d.list.getD ((findRM nm d.list 0).1).toNat zMMd))).length : Nat) : Int) ≤ (((d.list.getD ((findRM nm d.list 0).1).toNat zMMd).2.2.2.2.2.2.1.list.getD ((findRM nm d.list 0).2).toNat zMExp).2.2.1)))) := h6
            replace h16 : V 16 = gb false (.bool false) := h16
            replace hb := hb.trans (hC.mono hb.size)
            replace hk1 := blk_ext hk1 hC
            replace hk4 := blk_ext hk4 hC
            replace hr1 := Row.ext hr1 hC
            refine ⟨true, (decide (((((funcsP (d.list.getD ((findRM nm d.list 0).1).toNat zMMd))).length : Nat) : Int) ≤ (((d.list.getD ((findRM nm d.list 0).1).toNat zMMd).2.2.2.2.2.2.1.list.getD ((findRM nm d.list 0).2).toNat zMExp).2.2.1))), congrArg some h6, fun hact => ?_, fun hact => ?_⟩
            · exfalso; replace hact : (!(decide (((((funcsP (d.list.getD ((findRM nm d.list 0).1).toNat zMMd))).length : Nat) : Int) ≤ (((d.list.getD ((findRM nm d.list 0).1).toNat zMMd).2.2.2.2.2.2.1.list.getD ((findRM nm d.list 0).2).toNat zMExp).2.2.1)))) = true := by simpa using hact
              rw [show (!(decide (((((funcsP (d.list.getD ((findRM nm d.list 0).1).toNat zMMd))).length : Nat) : Int) ≤ (((d.list.getD ((findRM nm d.list 0).1).toNat zMMd).2.2.2.2.2.2.1.list.getD ((findRM nm d.list 0).2).toNat zMExp).2.2.1)))) = false from (by simp only [Bool.not_eq_true', Bool.not_eq_false', decide_eq_false_iff_not, decide_eq_true_eq]; omega)] at hact; cases hact
            · exact ⟨Below.refl _ _, rfl, nofr rfl⟩
          refine ⟨fun wu18 hC hd => ?_, ?_⟩
          · obtain ⟨h6, h17, _⟩ := hd
            skip
            skip
            replace h6 : V 6 = (.bool (decide (((((funcsP (d.list.getD ((findRM nm d.list 0).1).toNat zMMd))).length : Nat) : Int) ≤ (((d.list.getD ((findRM nm d.list 0).1).toNat zMMd).2.2.2.2.2.2.1.list.getD ((findRM nm d.list 0).2).toNat zMExp).2.2.1)))) := h6
            replace h17 : V 17 = gb false (.bool false) := h17
            replace hb := hb.trans (hC.mono hb.size)
            replace hk1 := blk_ext hk1 hC
            replace hk4 := blk_ext hk4 hC
            replace hr1 := Row.ext hr1 hC
            refine ⟨true, (decide (((((funcsP (d.list.getD ((findRM nm d.list 0).1).toNat zMMd))).length : Nat) : Int) ≤ (((d.list.getD ((findRM nm d.list 0).1).toNat zMMd).2.2.2.2.2.2.1.list.getD ((findRM nm d.list 0).2).toNat zMExp).2.2.1))), congrArg some h6, fun hact => ?_, fun hact => ?_⟩
            · exfalso; replace hact : (!(decide (((((funcsP (d.list.getD ((findRM nm d.list 0).1).toNat zMMd))).length : Nat) : Int) ≤ (((d.list.getD ((findRM nm d.list 0).1).toNat zMMd).2.2.2.2.2.2.1.list.getD ((findRM nm d.list 0).2).toNat zMExp).2.2.1)))) = true := by simpa using hact
              rw [show (!(decide (((((funcsP (d.list.getD ((findRM nm d.list 0).1).toNat zMMd))).length : Nat) : Int) ≤ (((d.list.getD ((findRM nm d.list 0).1).toNat zMMd).2.2.2.2.2.2.1.list.getD ((findRM nm d.list 0).2).toNat zMExp).2.2.1)))) = false from (by simp only [Bool.not_eq_true', Bool.not_eq_false', decide_eq_false_iff_not, decide_eq_true_eq]; omega)] at hact; cases hact
            · exact ⟨Below.refl _ _, rfl, nofr rfl⟩
          refine ⟨fun wu19 hC hd => ?_, ?_⟩
          · obtain ⟨h6, h12, h18, _⟩ := hd
            skip
            skip
            skip
            replace h6 : V 6 = (.bool (decide (((((funcsP (d.list.getD ((findRM nm d.list 0).1).toNat zMMd))).length : Nat) : Int) ≤ (((d.list.getD ((findRM nm d.list 0).1).toNat zMMd).2.2.2.2.2.2.1.list.getD ((findRM nm d.list 0).2).toNat zMExp).2.2.1)))) := h6
            replace h12 : V 12 = gb false (.bool false) := h12
            replace h18 : V 18 = gb false (.bool false) := h18
            replace hb := hb.trans (hC.mono hb.size)
            replace hk1 := blk_ext hk1 hC
            replace hk4 := blk_ext hk4 hC
            replace hr1 := Row.ext hr1 hC
            refine ⟨true, (decide (((((funcsP (d.list.getD ((findRM nm d.list 0).1).toNat zMMd))).length : Nat) : Int) ≤ (((d.list.getD ((findRM nm d.list 0).1).toNat zMMd).2.2.2.2.2.2.1.list.getD ((findRM nm d.list 0).2).toNat zMExp).2.2.1))), congrArg some h6, fun hact => ?_, fun hact => ?_⟩
            · exfalso; replace hact : (!(decide (((((funcsP (d.list.getD ((findRM nm d.list 0).1).toNat zMMd))).length : Nat) : Int) ≤ (((d.list.getD ((findRM nm d.list 0).1).toNat zMMd).2.2.2.2.2.2.1.list.getD ((findRM nm d.list 0).2).toNat zMExp).2.2.1)))) = true := by simpa using hact
              rw [show (!(decide (((((funcsP (d.list.getD ((findRM nm d.list 0).1).toNat zMMd))).length : Nat) : Int) ≤ (((d.list.getD ((findRM nm d.list 0).1).toNat zMMd).2.2.2.2.2.2.1.list.getD ((findRM nm d.list 0).2).toNat zMExp).2.2.1)))) = false from (by simp only [Bool.not_eq_true', Bool.not_eq_false', decide_eq_false_iff_not, decide_eq_true_eq]; omega)] at hact; cases hact
            · exact ⟨Below.refl _ _, rfl, nofr rfl⟩
          refine ⟨fun wu20 hC hd => ?_, ?_⟩
          · obtain ⟨h6, h19, _⟩ := hd
            skip
            skip
            replace h6 : V 6 = (.bool (decide (((((funcsP (d.list.getD ((findRM nm d.list 0).1).toNat zMMd))).length : Nat) : Int) ≤ (((d.list.getD ((findRM nm d.list 0).1).toNat zMMd).2.2.2.2.2.2.1.list.getD ((findRM nm d.list 0).2).toNat zMExp).2.2.1)))) := h6
            replace h19 : V 19 = gb false (.bool false) := h19
            replace hb := hb.trans (hC.mono hb.size)
            replace hk1 := blk_ext hk1 hC
            replace hk4 := blk_ext hk4 hC
            replace hr1 := Row.ext hr1 hC
            exact Runs.does (r_pick (b := (decide (((((funcsP (d.list.getD ((findRM nm d.list 0).1).toNat zMMd))).length : Nat) : Int) ≤ (((d.list.getD ((findRM nm d.list 0).1).toNat zMMd).2.2.2.2.2.2.1.list.getD ((findRM nm d.list 0).2).toNat zMExp).2.2.1)))) (congrArg some h6) rfl (congrArg some h19) (by rw [show (decide (((((funcsP (d.list.getD ((findRM nm d.list 0).1).toNat zMMd))).length : Nat) : Int) ≤ (((d.list.getD ((findRM nm d.list 0).1).toNat zMMd).2.2.2.2.2.2.1.list.getD ((findRM nm d.list 0).2).toNat zMExp).2.2.1))) = true from (by simp only [Bool.not_eq_true', Bool.not_eq_false', decide_eq_false_iff_not, decide_eq_true_eq]; omega)]; rfl)) ⟨Below.refl _ _, rfl, nofr rfl⟩
          trivial
        · skip
          clear hf fa; intro V w12 fa he7 hp hnb hf
          have hv0 : V 0 = (.pointer (some ⟨b2, 2, none⟩)) := postsHold_at hp 0 rfl
          have hv1 : V 1 = (.int .u32 (((d.list.getD ((findRM nm d.list 0).1).toNat zMMd).2.2.2.2.2.2.1.list.getD ((findRM nm d.list 0).2).toNat zMExp).2.2.1)) := postsHold_at hp 1 rfl
          have hv2 : V 2 = (.int .i64 (((d.list.getD ((findRM nm d.list 0).1).toNat zMMd).2.2.2.2.2.2.1.list.getD ((findRM nm d.list 0).2).toNat zMExp).2.2.1)) := postsHold_at hp 2 rfl
          have hv3 : V 3 = (.slice ra1 (((funcsP (d.list.getD ((findRM nm d.list 0).1).toNat zMMd))).length) rc1) := postsHold_at hp 3 rfl
          have hv4 : V 4 = (.int .i64 ((((funcsP (d.list.getD ((findRM nm d.list 0).1).toNat zMMd))).length : Nat) : Int)) := postsHold_at hp 4 rfl
          have hv5 : V 5 = (.bool (decide (((((funcsP (d.list.getD ((findRM nm d.list 0).1).toNat zMMd))).length : Nat) : Int) ≤ (((d.list.getD ((findRM nm d.list 0).1).toNat zMMd).2.2.2.2.2.2.1.list.getD ((findRM nm d.list 0).2).toNat zMExp).2.2.1)))) := postsHold_at hp 5 rfl
          have hv6 : V 6 = (.bool (decide (((((funcsP (d.list.getD ((findRM nm d.list 0).1).toNat zMMd))).length : Nat) : Int) ≤ (((d.list.getD ((findRM nm d.list 0).1).toNat zMMd).2.2.2.2.2.2.1.list.getD ((findRM nm d.list 0).2).toNat zMExp).2.2.1)))) := postsHold_at hp 6 rfl
          have hv7 : V 7 = gb false (.bool false) := postsHold_at hp 7 rfl
          have hv8 : V 8 = gb false (.bool false) := postsHold_at hp 8 rfl
          have hv9 : V 9 = gb false (.bool false) := postsHold_at hp 9 rfl
          have hv10 : V 10 = gb false (.bool false) := postsHold_at hp 10 rfl
          have hv11 : V 11 = gb false (.bool false) := postsHold_at hp 11 rfl
          have hv12 : V 12 = gb false (.bool false) := postsHold_at hp 12 rfl
          have hv13 : V 13 = gb false (.bool false) := postsHold_at hp 13 rfl
          have hv14 : V 14 = gb false (.bool false) := postsHold_at hp 14 rfl
          have hv15 : V 15 = gb false (.bool false) := postsHold_at hp 15 rfl
          have hv16 : V 16 = gb false (.bool false) := postsHold_at hp 16 rfl
          have hv17 : V 17 = gb false (.bool false) := postsHold_at hp 17 rfl
          have hv18 : V 18 = gb false (.bool false) := postsHold_at hp 18 rfl
          have hv19 : V 19 = gb false (.bool false) := postsHold_at hp 19 rfl
          have hv20 : V 20 = (.bool true) := postsHold_at hp 20 rfl
          simp only [List.take_succ_cons, List.take_zero, insAll, ins, hv0, hv1, hv2, hv3, hv4, hv5, hv6, hv7, hv8, hv9, hv10, hv11, hv12, hv13, hv14, hv15, hv16, hv17, hv18, hv19, hv20] at hf
          clear hp hnb hv0 hv1 hv2 hv3 hv4 hv5 hv6 hv7 hv8 hv9 hv10 hv11 hv12 hv13 hv14 hv15 hv16 hv17 hv18 hv19 hv20
          replace hk1 := blk_ext hk1 he7
          replace hk4 := blk_ext hk4 he7
          replace hr1 := Row.ext hr1 he7
          replace hb := hb.trans (Below.mono he7 hb.size)
          (try simp only [Exit.then, Exit.inBlock, ↓reduceIte, Nat.reduceEqDiff])
          refine hK12 _ _ ?_
          refine wp_cond_true (hf.ev rfl) ?_
          refine wp_seq_k (fun K15 hK15 => ?_)
          refine wp_region_lit ?_
          refine sqv hf (r_build (vs := []) (cs := #[(.string ⟨#[]⟩), (.string ⟨#[]⟩)]) rfl (fun _ => by kernel_rfl)) rfl rfl rfl ?_; clear hf fa; intro fa hf
          refine sqv hf (r_assign rfl) rfl rfl rfl ?_; clear hf fa; intro fa hf
          refine sqv hf (r_assign rfl) rfl rfl rfl ?_; clear hf fa; intro fa hf
          refine sqn hf (d_storeK (T := 78) (v := (.agg #[(.string ⟨#[]⟩), (.string ⟨#[]⟩)])) (cs := #[(.string ⟨#[]⟩), (.string ⟨#[]⟩)]) (cs' := #[(.string ⟨#[]⟩), (.string ⟨#[]⟩)]) rfl rfl (by kernel_rfl) (by kernel_rfl) hk1 (by kernel_rfl) (by kernel_rfl)) rfl rfl ?_; clear hf fa; rintro fa _ w13 ⟨hk8, hg6⟩ hf
          replace hk4 := blk_grown hk4 hg6 (by omega)
          replace hr1 := Row.grown hr1 hg6 (Row.ne_type hr1 hk1 rfl)
          replace hb := hb.trans (grown_below hg6 hb.size hBb1)
          refine sqv hf (r_assign rfl) rfl rfl rfl ?_; clear hf fa; intro fa hf
          apply wpList_nil
          (try simp only [Exit.then, Exit.inBlock, ↓reduceIte, Nat.reduceEqDiff])
          refine hK15 _ _ ?_
          refine wp_ret ?_
          (try simp only [Exit.then, Exit.inBlock])
          refine retTTCT hf rfl rfl rfl rfl hk8 Try.underlying78 rfl (by kernel_rfl) rfl ?_
          refine ⟨?_, hb⟩; unfold ranyP; rw [hqt19_1b, hqt31_1b, hsp1b]; (try rfl)
end Go.Proofs.Ytahgkfekggkjnaa
