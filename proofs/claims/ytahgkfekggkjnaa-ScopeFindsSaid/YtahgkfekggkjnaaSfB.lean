/- What is proved here: places in memory, and functions of a type. -/
import Derived.Test.YtahgkfekggkjnaaSfA
namespace Go.Proofs.Ytahgkfekggkjnaa
open Go.RowKit
set_option linter.unusedVariables false
set_option linter.unusedSimpArgs false
def dataP (l : List MUn) (nm : ByteArray) : MPc × Int :=
  bif (!(findU nm l 0).2.2) then (((0 : Int), (0 : Int), ()), (42 : Int))
  else bif (decide (((findU nm l 0).2.1.2.1) ≠ (3 : Int))) then (((0 : Int), (0 : Int), ()), (43 : Int))
  else bif (decide (((findU nm l 0).2.1.2.2.1).toNat < (gtypesP (l.getD ((findU nm l 0).1).toNat zMUn).2.1).length)) then bif (((decide (((((gtypesP (l.getD ((findU nm l 0).1).toNat zMUn).2.1)).length : Nat) : Int) ≤ ((findU nm l 0).2.1.2.2.1))) || (decide (((findU nm l 0).2.1.2.2.1) < (((gtT (l.getD ((findU nm l 0).1).toNat zMUn).2.1.2.1.list).length : Nat) : Int)))) || (!((decide ((((gtypesP (l.getD ((findU nm l 0).1).toNat zMUn).2.1).getD ((findU nm l 0).2.1.2.2.1).toNat zMGt).1) = (127 : Int))) && (((gtypesP (l.getD ((findU nm l 0).1).toNat zMUn).2.1).getD ((findU nm l 0).2.1.2.2.1).toNat zMGt).2.1 == false)))) then (((0 : Int), (0 : Int), ()), (7 : Int))
  else (((findU nm l 0).1, (findU nm l 0).2.1.2.2.1, ()), (0 : Int))
  else bif (((decide (((((gtypesP (l.getD ((findU nm l 0).1).toNat zMUn).2.1)).length : Nat) : Int) ≤ ((findU nm l 0).2.1.2.2.1))) || (decide (((findU nm l 0).2.1.2.2.1) < (((gtT (l.getD ((findU nm l 0).1).toNat zMUn).2.1.2.1.list).length : Nat) : Int)))) || false) then (((0 : Int), (0 : Int), ()), (7 : Int))
  else (((findU nm l 0).1, (findU nm l 0).2.1.2.2.1, ()), (0 : Int))

set_option maxHeartbeats 1000000 in
set_option maxRecDepth 100000 in
theorem data_any (l : List MUn) (nm : ByteArray) (w : World) (a : Option Addr) (n c : Nat) (hl : RdS 18 vMUn w a l) (hn : l.length = n) (hnm : n ≤ 9223372036854775807) (hM : ∀ u ∈ l, fMMd w u.2.1 ∧ smallP u.2.1) : Calls Try.prog 54 #[(.slice a n c), (.string nm)] w fun e w' => e = .returned (.tuple #[(.agg #[(.int .i64 ((dataP l nm).1.1)), (.int .u32 ((dataP l nm).1.2.1))]), (.int .i64 ((dataP l nm).2))]) ∧ Below w.heap.size w w' := by
  have hfb := findU_bd nm l 0
  refine sx_enter (L := [(0, (.slice a n c)), (1, (.string nm))]) Try.func54 rfl rfl rfl rfl (fun fa hf => ?_)
  have hb : Below w.heap.size w w := Below.refl _ _
  refine wp_seq_k (fun K1 hK1 => ?_)
  refine wp_region_lit ?_
  refine sqdt hf (d_alloc (z := (.agg #[(.int .i64 (0 : Int)), (.int .u32 (0 : Int))])) (cs := #[(.int .i64 (0 : Int)), (.int .u32 (0 : Int))]) (by kernel_rfl) rfl) rfl rfl rfl ?_; clear hf fa; rintro fa _ w1 ⟨b1, rfl, hle1, hk1, he1⟩ hf
  have hBb1 : w.heap.size ≤ b1 := Nat.le_trans hb.size hle1
  replace hb := hb.trans (Below.mono he1 hb.size)
  refine sqv hf (r_assign rfl) rfl rfl rfl ?_; clear hf fa; intro fa hf
  apply wpList_nil
  (try simp only [Exit.then, Exit.inBlock, ↓reduceIte, Nat.reduceEqDiff])
  refine hK1 _ _ ?_
  refine wp_seq_k (fun K2 hK2 => ?_)
  refine wp_region_lit ?_
  refine sqv hf (r_move rfl) rfl rfl rfl ?_; clear hf fa; intro fa hf
  refine sqv hf (r_move rfl) rfl rfl rfl ?_; clear hf fa; intro fa hf
  refine sqdt hf (d_callB (vs := [(.slice a n c), (.string nm)]) rfl Try.func45 (by kernel_rfl) (by kernel_rfl) (findU_any l nm _ _ _ _ (RdS.ext hl hb) hn hnm (fun u hu => exps_of (rdMMd.kept _ _ _ hb (hM u hu).1) (Below.refl _ _)))) rfl rfl rfl ?_; clear hf fa; rintro fa _ w2 ⟨rfl, he2⟩ hf
  replace hk1 := blk_ext hk1 he2
  replace hb := hb.trans (Below.mono he2 hb.size)
  refine sqv hf (r_move rfl) rfl rfl rfl ?_; clear hf fa; intro fa hf
  refine sqv hf (r_extract rfl (i := 0) rfl) rfl rfl rfl ?_; clear hf fa; intro fa hf
  refine sqv hf (r_extract rfl (i := 1) rfl) rfl rfl rfl ?_; clear hf fa; intro fa hf
  refine sqv hf (r_extract rfl (i := 2) rfl) rfl rfl rfl ?_; clear hf fa; intro fa hf
  refine sqdt hf (d_alloc (z := (.agg #[(.string ⟨#[]⟩), (.int .u8 (0 : Int)), (.int .u32 (0 : Int))])) (cs := #[(.string ⟨#[]⟩), (.int .u8 (0 : Int)), (.int .u32 (0 : Int))]) (by kernel_rfl) rfl) rfl rfl rfl ?_; clear hf fa; rintro fa _ w3 ⟨b2, rfl, hle2, hk2, he3⟩ hf
  have hBb2 : w.heap.size ≤ b2 := Nat.le_trans hb.size hle2
  have : b1 < b2 := Nat.lt_of_lt_of_le (blk_lt hk1) hle2
  replace hk1 := blk_ext hk1 he3
  replace hb := hb.trans (Below.mono he3 hb.size)
  refine sqv hf (r_assign rfl) rfl rfl rfl ?_; clear hf fa; intro fa hf
  refine sqn hf (d_storeK (T := 94) (v := (.agg #[(.string (findU nm l 0).2.1.1), (.int .u8 ((findU nm l 0).2.1.2.1)), (.int .u32 ((findU nm l 0).2.1.2.2.1))])) (cs := #[(.string ⟨#[]⟩), (.int .u8 (0 : Int)), (.int .u32 (0 : Int))]) (cs' := #[(.string (findU nm l 0).2.1.1), (.int .u8 ((findU nm l 0).2.1.2.1)), (.int .u32 ((findU nm l 0).2.1.2.2.1))]) rfl rfl (by kernel_rfl) (by kernel_rfl) hk2 (by kernel_rfl) (by kernel_rfl)) rfl rfl ?_; clear hf fa; rintro fa _ w4 ⟨hk3, hg1⟩ hf
  replace hk1 := blk_grown hk1 hg1 (by omega)
  replace hb := hb.trans (grown_below hg1 hb.size hBb2)
  refine sqv hf (r_assign rfl) rfl rfl rfl ?_; clear hf fa; intro fa hf
  apply wpList_nil
  (try simp only [Exit.then, Exit.inBlock, ↓reduceIte, Nat.reduceEqDiff])
  refine hK2 _ _ ?_
  refine wp_seq_k (fun K3 hK3 => ?_)
  refine wp_block ?_
  refine wp_seq_k (fun K4 hK4 => ?_)
  refine wp_region_lit ?_
  refine sqv hf (r_move rfl) rfl rfl rfl ?_; clear hf fa; intro fa hf
  refine sqv hf (r_not rfl) rfl rfl rfl ?_; clear hf fa; intro fa hf
  refine sqv hf (r_assign rfl) rfl rfl rfl ?_; clear hf fa; intro fa hf
  apply wpList_nil
  (try simp only [Exit.then, Exit.inBlock, ↓reduceIte, Nat.reduceEqDiff])
  refine hK4 _ _ ?_
  refine wp_cond_split (t := (!(findU nm l 0).2.2)) (hf.ev rfl) (fun hqt19_1 => ?_) (fun hqt19_1 => ?_)
  · have hqt19_1b := hqt19_1
    try simp only [decide_eq_true_eq, Bool.and_eq_true, Bool.or_eq_true, Bool.not_eq_true', decide_eq_false_iff_not, ne_eq, Bool.not_eq_true] at hqt19_1
    refine wp_seq_k (fun K5 hK5 => ?_)
    refine wp_region_lit ?_
    refine sqv hf (r_build (vs := []) (cs := #[(.int .i64 (0 : Int)), (.int .u32 (0 : Int))]) rfl (fun _ => by kernel_rfl)) rfl rfl rfl ?_; clear hf fa; intro fa hf
    refine sqn hf (d_storeK (T := 49) (v := (.agg #[(.int .i64 (0 : Int)), (.int .u32 (0 : Int))])) (cs := #[(.int .i64 (0 : Int)), (.int .u32 (0 : Int))]) (cs' := #[(.int .i64 (0 : Int)), (.int .u32 (0 : Int))]) rfl rfl (by kernel_rfl) (by kernel_rfl) hk1 (by kernel_rfl) (by kernel_rfl)) rfl rfl ?_; clear hf fa; rintro fa _ w5 ⟨hk4, hg2⟩ hf
    replace hk3 := blk_grown hk3 hg2 (by omega)
    replace hb := hb.trans (grown_below hg2 hb.size hBb1)
    refine sqv hf (r_assign rfl) rfl rfl rfl ?_; clear hf fa; intro fa hf
    apply wpList_nil
    (try simp only [Exit.then, Exit.inBlock, ↓reduceIte, Nat.reduceEqDiff])
    refine hK5 _ _ ?_
    refine wp_ret ?_
    (try simp only [Exit.then, Exit.inBlock])
    refine retCT hf rfl rfl hk4 Try.underlying49 rfl (by kernel_rfl) rfl ?_
    refine ⟨?_, hb⟩; unfold dataP; rw [hqt19_1b]; (try rfl)
  · have hqt19_1b := hqt19_1
    replace hqt19_1 := Bool.eq_false_iff.1 hqt19_1
    try simp only [ne_eq, decide_eq_true_eq, Bool.and_eq_true, Bool.or_eq_true, Bool.not_eq_true', decide_eq_false_iff_not] at hqt19_1
    refine wp_seq_k (fun K6 hK6 => ?_)
    refine wp_region_lit ?_
    refine sqv hf (r_fa rfl Try.underlying94 (f := 1) (q := 1) rfl (by kernel_rfl) rfl) rfl rfl rfl ?_; clear hf fa; intro fa hf
    refine sqv hf (r_load (v := (.int .u8 ((findU nm l 0).2.1.2.1))) rfl Try.underlying5 rfl (cell_blk hk3 rfl)) rfl rfl rfl ?_; clear hf fa; intro fa hf
    refine sqv hf (r_ne rfl rfl) rfl rfl rfl ?_; clear hf fa; intro fa hf
    refine sqv hf (r_assign rfl) rfl rfl rfl ?_; clear hf fa; intro fa hf
    apply wpList_nil
    (try simp only [Exit.then, Exit.inBlock, ↓reduceIte, Nat.reduceEqDiff])
    refine hK6 _ _ ?_
    refine wp_cond_split (t := (decide (((findU nm l 0).2.1.2.1) ≠ (3 : Int)))) (hf.ev rfl) (fun hqt23_1 => ?_) (fun hqt23_1 => ?_)
    · have hqt23_1b := hqt23_1
      try simp only [decide_eq_true_eq, Bool.and_eq_true, Bool.or_eq_true, Bool.not_eq_true', decide_eq_false_iff_not, ne_eq, Bool.not_eq_true] at hqt23_1
      refine wp_seq_k (fun K7 hK7 => ?_)
      refine wp_region_lit ?_
      refine sqv hf (r_build (vs := []) (cs := #[(.int .i64 (0 : Int)), (.int .u32 (0 : Int))]) rfl (fun _ => by kernel_rfl)) rfl rfl rfl ?_; clear hf fa; intro fa hf
      refine sqn hf (d_storeK (T := 49) (v := (.agg #[(.int .i64 (0 : Int)), (.int .u32 (0 : Int))])) (cs := #[(.int .i64 (0 : Int)), (.int .u32 (0 : Int))]) (cs' := #[(.int .i64 (0 : Int)), (.int .u32 (0 : Int))]) rfl rfl (by kernel_rfl) (by kernel_rfl) hk1 (by kernel_rfl) (by kernel_rfl)) rfl rfl ?_; clear hf fa; rintro fa _ w6 ⟨hk5, hg3⟩ hf
      replace hk3 := blk_grown hk3 hg3 (by omega)
      replace hb := hb.trans (grown_below hg3 hb.size hBb1)
      refine sqv hf (r_assign rfl) rfl rfl rfl ?_; clear hf fa; intro fa hf
      apply wpList_nil
      (try simp only [Exit.then, Exit.inBlock, ↓reduceIte, Nat.reduceEqDiff])
      refine hK7 _ _ ?_
      refine wp_ret ?_
      (try simp only [Exit.then, Exit.inBlock])
      refine retCT hf rfl rfl hk5 Try.underlying49 rfl (by kernel_rfl) rfl ?_
      refine ⟨?_, hb⟩; unfold dataP; rw [hqt19_1b, hqt23_1b]; (try rfl)
    · have hqt23_1b := hqt23_1
      replace hqt23_1 := Bool.eq_false_iff.1 hqt23_1
      try simp only [ne_eq, decide_eq_true_eq, Bool.and_eq_true, Bool.or_eq_true, Bool.not_eq_true', decide_eq_false_iff_not] at hqt23_1
      refine wp_skip ?_
      (try simp only [Exit.then, Exit.inBlock, ↓reduceIte, Nat.reduceEqDiff])
      refine hK3 _ _ ?_
      refine wp_seq_k (fun K8 hK8 => ?_)
      have hfd : (findU nm l 0).2.2 = true := by simpa using hqt19_1b
      have hlt := findU_lt hfd
      have hmem := getD_memL (z := zMUn) (show ((findU nm l 0).1).toNat < l.length by omega)
      have hMu := hM _ hmem
      have hxi := fInt_u32 (w := w) (findU_rng (fun u hu => (hM u hu).1) hfd).2.2.1
      have hml : maxLen = 9223372036854775807 := rfl
      have hgy := gtypes_len (l.getD ((findU nm l 0).1).toNat zMUn).2.1
      have hsm := hMu.2
      unfold smallP at hsm
      have hgl := gt_len (l.getD ((findU nm l 0).1).toNat zMUn).2.1.2.1.list (l.getD ((findU nm l 0).1).toNat zMUn).2.1.2.1.len
      rw [take_list] at hgl
      refine wp_region_lit ?_
      refine sqv hf (r_move rfl) rfl rfl rfl ?_; clear hf fa; intro fa hf
      refine sqv hf (r_move rfl) rfl rfl rfl ?_; clear hf fa; intro fa hf
      have hy1 : (l)[((findU nm l 0).1).toNat]? = some (l.getD ((findU nm l 0).1).toNat zMUn) := (getD_at zMUn (by omega))
      obtain ⟨ab1, aoff1, rfl, hlb1, hel1⟩ := RdS.at hl hy1
      refine sqv hf (r_ixa (sz := 18) (j := ((findU nm l 0).1).toNat) rfl rfl Try.underlying45 (by kernel_rfl) (by omega) (by omega) rfl) rfl rfl rfl ?_; clear hf fa; intro fa hf
      refine sqv hf (r_fa rfl Try.underlying132 (f := 1) (q := ((aoff1 + ((findU nm l 0).1).toNat * 18) + 1)) rfl (by kernel_rfl) rfl) rfl rfl rfl ?_; clear hf fa; intro fa hf
      refine sqv hf (r_loadA (cs := [(.slice (l.getD ((findU nm l 0).1).toNat zMUn).2.1.1.at' ((l.getD ((findU nm l 0).1).toNat zMUn).2.1.1.len) (l.getD ((findU nm l 0).1).toNat zMUn).2.1.1.cap), (.slice (l.getD ((findU nm l 0).1).toNat zMUn).2.1.2.1.at' ((l.getD ((findU nm l 0).1).toNat zMUn).2.1.2.1.len) (l.getD ((findU nm l 0).1).toNat zMUn).2.1.2.1.cap), (.slice (l.getD ((findU nm l 0).1).toNat zMUn).2.1.2.2.1.at' ((l.getD ((findU nm l 0).1).toNat zMUn).2.1.2.2.1.len) (l.getD ((findU nm l 0).1).toNat zMUn).2.1.2.2.1.cap), (.slice (l.getD ((findU nm l 0).1).toNat zMUn).2.1.2.2.2.1.at' ((l.getD ((findU nm l 0).1).toNat zMUn).2.1.2.2.2.1.len) (l.getD ((findU nm l 0).1).toNat zMUn).2.1.2.2.2.1.cap), (.slice (l.getD ((findU nm l 0).1).toNat zMUn).2.1.2.2.2.2.1.at' ((l.getD ((findU nm l 0).1).toNat zMUn).2.1.2.2.2.2.1.len) (l.getD ((findU nm l 0).1).toNat zMUn).2.1.2.2.2.2.1.cap), (.slice (l.getD ((findU nm l 0).1).toNat zMUn).2.1.2.2.2.2.2.1.at' ((l.getD ((findU nm l 0).1).toNat zMUn).2.1.2.2.2.2.2.1.len) (l.getD ((findU nm l 0).1).toNat zMUn).2.1.2.2.2.2.2.1.cap), (.slice (l.getD ((findU nm l 0).1).toNat zMUn).2.1.2.2.2.2.2.2.1.at' ((l.getD ((findU nm l 0).1).toNat zMUn).2.1.2.2.2.2.2.2.1.len) (l.getD ((findU nm l 0).1).toNat zMUn).2.1.2.2.2.2.2.2.1.cap), (.int .i64 ((l.getD ((findU nm l 0).1).toNat zMUn).2.1.2.2.2.2.2.2.2.1)), (.slice (l.getD ((findU nm l 0).1).toNat zMUn).2.1.2.2.2.2.2.2.2.2.1.at' ((l.getD ((findU nm l 0).1).toNat zMUn).2.1.2.2.2.2.2.2.2.2.1.len) (l.getD ((findU nm l 0).1).toNat zMUn).2.1.2.2.2.2.2.2.2.2.1.cap), (.slice (l.getD ((findU nm l 0).1).toNat zMUn).2.1.2.2.2.2.2.2.2.2.2.1.at' ((l.getD ((findU nm l 0).1).toNat zMUn).2.1.2.2.2.2.2.2.2.2.2.1.len) (l.getD ((findU nm l 0).1).toNat zMUn).2.1.2.2.2.2.2.2.2.2.2.1.cap), (.slice (l.getD ((findU nm l 0).1).toNat zMUn).2.1.2.2.2.2.2.2.2.2.2.2.1.at' ((l.getD ((findU nm l 0).1).toNat zMUn).2.1.2.2.2.2.2.2.2.2.2.2.1.len) (l.getD ((findU nm l 0).1).toNat zMUn).2.1.2.2.2.2.2.2.2.2.2.2.1.cap), (.bool (l.getD ((findU nm l 0).1).toNat zMUn).2.1.2.2.2.2.2.2.2.2.2.2.2.1.1), (.int .u32 ((l.getD ((findU nm l 0).1).toNat zMUn).2.1.2.2.2.2.2.2.2.2.2.2.2.1.2.1)), (.int .u32 ((l.getD ((findU nm l 0).1).toNat zMUn).2.1.2.2.2.2.2.2.2.2.2.2.2.1.2.2.1)), (.int .u32 ((l.getD ((findU nm l 0).1).toNat zMUn).2.1.2.2.2.2.2.2.2.2.2.2.2.1.2.2.2.1)), (.int .u32 ((l.getD ((findU nm l 0).1).toNat zMUn).2.1.2.2.2.2.2.2.2.2.2.2.2.1.2.2.2.2.1)), (.slice (l.getD ((findU nm l 0).1).toNat zMUn).2.1.2.2.2.2.2.2.2.2.2.2.2.1.2.2.2.2.2.1.at' ((l.getD ((findU nm l 0).1).toNat zMUn).2.1.2.2.2.2.2.2.2.2.2.2.2.1.2.2.2.2.2.1.len) (l.getD ((findU nm l 0).1).toNat zMUn).2.1.2.2.2.2.2.2.2.2.2.2.2.1.2.2.2.2.2.1.cap)]) rfl Try.underlying67 rfl (by kernel_rfl) (cellsAt_part (d := 1) (n := 17) (cellsAt_below hel1 hb hlb1) rfl rfl)) rfl rfl rfl ?_; clear hf fa; intro fa hf
      refine sqdt hf (d_alloc (z := (.agg #[(.slice none 0 0), (.slice none 0 0), (.slice none 0 0), (.slice none 0 0), (.slice none 0 0), (.slice none 0 0), (.slice none 0 0), (.int .i64 (0 : Int)), (.slice none 0 0), (.slice none 0 0), (.slice none 0 0), (.bool false), (.int .u32 (0 : Int)), (.int .u32 (0 : Int)), (.int .u32 (0 : Int)), (.int .u32 (0 : Int)), (.slice none 0 0)])) (cs := #[(.slice none 0 0), (.slice none 0 0), (.slice none 0 0), (.slice none 0 0), (.slice none 0 0), (.slice none 0 0), (.slice none 0 0), (.int .i64 (0 : Int)), (.slice none 0 0), (.slice none 0 0), (.slice none 0 0), (.bool false), (.int .u32 (0 : Int)), (.int .u32 (0 : Int)), (.int .u32 (0 : Int)), (.int .u32 (0 : Int)), (.slice none 0 0)]) (by kernel_rfl) rfl) rfl rfl rfl ?_; clear hf fa; rintro fa _ w7 ⟨b3, rfl, hle3, hk6, he4⟩ hf
      have hBb3 : w.heap.size ≤ b3 := Nat.le_trans hb.size hle3
      have : b1 < b3 := Nat.lt_of_lt_of_le (blk_lt hk1) hle3
      have : b2 < b3 := Nat.lt_of_lt_of_le (blk_lt hk3) hle3
      replace hk1 := blk_ext hk1 he4
      replace hk3 := blk_ext hk3 he4
      replace hb := hb.trans (Below.mono he4 hb.size)
      refine sqn hf (d_storeK (T := 67) (v := (.agg #[(.slice (l.getD ((findU nm l 0).1).toNat zMUn).2.1.1.at' ((l.getD ((findU nm l 0).1).toNat zMUn).2.1.1.len) (l.getD ((findU nm l 0).1).toNat zMUn).2.1.1.cap), (.slice (l.getD ((findU nm l 0).1).toNat zMUn).2.1.2.1.at' ((l.getD ((findU nm l 0).1).toNat zMUn).2.1.2.1.len) (l.getD ((findU nm l 0).1).toNat zMUn).2.1.2.1.cap), (.slice (l.getD ((findU nm l 0).1).toNat zMUn).2.1.2.2.1.at' ((l.getD ((findU nm l 0).1).toNat zMUn).2.1.2.2.1.len) (l.getD ((findU nm l 0).1).toNat zMUn).2.1.2.2.1.cap), (.slice (l.getD ((findU nm l 0).1).toNat zMUn).2.1.2.2.2.1.at' ((l.getD ((findU nm l 0).1).toNat zMUn).2.1.2.2.2.1.len) (l.getD ((findU nm l 0).1).toNat zMUn).2.1.2.2.2.1.cap), (.slice (l.getD ((findU nm l 0).1).toNat zMUn).2.1.2.2.2.2.1.at' ((l.getD ((findU nm l 0).1).toNat zMUn).2.1.2.2.2.2.1.len) (l.getD ((findU nm l 0).1).toNat zMUn).2.1.2.2.2.2.1.cap), (.slice (l.getD ((findU nm l 0).1).toNat zMUn).2.1.2.2.2.2.2.1.at' ((l.getD ((findU nm l 0).1).toNat zMUn).2.1.2.2.2.2.2.1.len) (l.getD ((findU nm l 0).1).toNat zMUn).2.1.2.2.2.2.2.1.cap), (.slice (l.getD ((findU nm l 0).1).toNat zMUn).2.1.2.2.2.2.2.2.1.at' ((l.getD ((findU nm l 0).1).toNat zMUn).2.1.2.2.2.2.2.2.1.len) (l.getD ((findU nm l 0).1).toNat zMUn).2.1.2.2.2.2.2.2.1.cap), (.int .i64 ((l.getD ((findU nm l 0).1).toNat zMUn).2.1.2.2.2.2.2.2.2.1)), (.slice (l.getD ((findU nm l 0).1).toNat zMUn).2.1.2.2.2.2.2.2.2.2.1.at' ((l.getD ((findU nm l 0).1).toNat zMUn).2.1.2.2.2.2.2.2.2.2.1.len) (l.getD ((findU nm l 0).1).toNat zMUn).2.1.2.2.2.2.2.2.2.2.1.cap), (.slice (l.getD ((findU nm l 0).1).toNat zMUn).2.1.2.2.2.2.2.2.2.2.2.1.at' ((l.getD ((findU nm l 0).1).toNat zMUn).2.1.2.2.2.2.2.2.2.2.2.1.len) (l.getD ((findU nm l 0).1).toNat zMUn).2.1.2.2.2.2.2.2.2.2.2.1.cap), (.slice (l.getD ((findU nm l 0).1).toNat zMUn).2.1.2.2.2.2.2.2.2.2.2.2.1.at' ((l.getD ((findU nm l 0).1).toNat zMUn).2.1.2.2.2.2.2.2.2.2.2.2.1.len) (l.getD ((findU nm l 0).1).toNat zMUn).2.1.2.2.2.2.2.2.2.2.2.2.1.cap), (.bool (l.getD ((findU nm l 0).1).toNat zMUn).2.1.2.2.2.2.2.2.2.2.2.2.2.1.1), (.int .u32 ((l.getD ((findU nm l 0).1).toNat zMUn).2.1.2.2.2.2.2.2.2.2.2.2.2.1.2.1)), (.int .u32 ((l.getD ((findU nm l 0).1).toNat zMUn).2.1.2.2.2.2.2.2.2.2.2.2.2.1.2.2.1)), (.int .u32 ((l.getD ((findU nm l 0).1).toNat zMUn).2.1.2.2.2.2.2.2.2.2.2.2.2.1.2.2.2.1)), (.int .u32 ((l.getD ((findU nm l 0).1).toNat zMUn).2.1.2.2.2.2.2.2.2.2.2.2.2.1.2.2.2.2.1)), (.slice (l.getD ((findU nm l 0).1).toNat zMUn).2.1.2.2.2.2.2.2.2.2.2.2.2.1.2.2.2.2.2.1.at' ((l.getD ((findU nm l 0).1).toNat zMUn).2.1.2.2.2.2.2.2.2.2.2.2.2.1.2.2.2.2.2.1.len) (l.getD ((findU nm l 0).1).toNat zMUn).2.1.2.2.2.2.2.2.2.2.2.2.2.1.2.2.2.2.2.1.cap)])) (cs := #[(.slice none 0 0), (.slice none 0 0), (.slice none 0 0), (.slice none 0 0), (.slice none 0 0), (.slice none 0 0), (.slice none 0 0), (.int .i64 (0 : Int)), (.slice none 0 0), (.slice none 0 0), (.slice none 0 0), (.bool false), (.int .u32 (0 : Int)), (.int .u32 (0 : Int)), (.int .u32 (0 : Int)), (.int .u32 (0 : Int)), (.slice none 0 0)]) (cs' := #[(.slice (l.getD ((findU nm l 0).1).toNat zMUn).2.1.1.at' ((l.getD ((findU nm l 0).1).toNat zMUn).2.1.1.len) (l.getD ((findU nm l 0).1).toNat zMUn).2.1.1.cap), (.slice (l.getD ((findU nm l 0).1).toNat zMUn).2.1.2.1.at' ((l.getD ((findU nm l 0).1).toNat zMUn).2.1.2.1.len) (l.getD ((findU nm l 0).1).toNat zMUn).2.1.2.1.cap), (.slice (l.getD ((findU nm l 0).1).toNat zMUn).2.1.2.2.1.at' ((l.getD ((findU nm l 0).1).toNat zMUn).2.1.2.2.1.len) (l.getD ((findU nm l 0).1).toNat zMUn).2.1.2.2.1.cap), (.slice (l.getD ((findU nm l 0).1).toNat zMUn).2.1.2.2.2.1.at' ((l.getD ((findU nm l 0).1).toNat zMUn).2.1.2.2.2.1.len) (l.getD ((findU nm l 0).1).toNat zMUn).2.1.2.2.2.1.cap), (.slice (l.getD ((findU nm l 0).1).toNat zMUn).2.1.2.2.2.2.1.at' ((l.getD ((findU nm l 0).1).toNat zMUn).2.1.2.2.2.2.1.len) (l.getD ((findU nm l 0).1).toNat zMUn).2.1.2.2.2.2.1.cap), (.slice (l.getD ((findU nm l 0).1).toNat zMUn).2.1.2.2.2.2.2.1.at' ((l.getD ((findU nm l 0).1).toNat zMUn).2.1.2.2.2.2.2.1.len) (l.getD ((findU nm l 0).1).toNat zMUn).2.1.2.2.2.2.2.1.cap), (.slice (l.getD ((findU nm l 0).1).toNat zMUn).2.1.2.2.2.2.2.2.1.at' ((l.getD ((findU nm l 0).1).toNat zMUn).2.1.2.2.2.2.2.2.1.len) (l.getD ((findU nm l 0).1).toNat zMUn).2.1.2.2.2.2.2.2.1.cap), (.int .i64 ((l.getD ((findU nm l 0).1).toNat zMUn).2.1.2.2.2.2.2.2.2.1)), (.slice (l.getD ((findU nm l 0).1).toNat zMUn).2.1.2.2.2.2.2.2.2.2.1.at' ((l.getD ((findU nm l 0).1).toNat zMUn).2.1.2.2.2.2.2.2.2.2.1.len) (l.getD ((findU nm l 0).1).toNat zMUn).2.1.2.2.2.2.2.2.2.2.1.cap), (.slice (l.getD ((findU nm l 0).1).toNat zMUn).2.1.2.2.2.2.2.2.2.2.2.1.at' ((l.getD ((findU nm l 0).1).toNat zMUn).2.1.2.2.2.2.2.2.2.2.2.1.len) (l.getD ((findU nm l 0).1).toNat zMUn).2.1.2.2.2.2.2.2.2.2.2.1.cap), (.slice (l.getD ((findU nm l 0).1).toNat zMUn).2.1.2.2.2.2.2.2.2.2.2.2.1.at' ((l.getD ((findU nm l 0).1).toNat zMUn).2.1.2.2.2.2.2.2.2.2.2.2.1.len) (l.getD ((findU nm l 0).1).toNat zMUn).2.1.2.2.2.2.2.2.2.2.2.2.1.cap), (.bool (l.getD ((findU nm l 0).1).toNat zMUn).2.1.2.2.2.2.2.2.2.2.2.2.2.1.1), (.int .u32 ((l.getD ((findU nm l 0).1).toNat zMUn).2.1.2.2.2.2.2.2.2.2.2.2.2.1.2.1)), (.int .u32 ((l.getD ((findU nm l 0).1).toNat zMUn).2.1.2.2.2.2.2.2.2.2.2.2.2.1.2.2.1)), (.int .u32 ((l.getD ((findU nm l 0).1).toNat zMUn).2.1.2.2.2.2.2.2.2.2.2.2.2.1.2.2.2.1)), (.int .u32 ((l.getD ((findU nm l 0).1).toNat zMUn).2.1.2.2.2.2.2.2.2.2.2.2.2.1.2.2.2.2.1)), (.slice (l.getD ((findU nm l 0).1).toNat zMUn).2.1.2.2.2.2.2.2.2.2.2.2.2.1.2.2.2.2.2.1.at' ((l.getD ((findU nm l 0).1).toNat zMUn).2.1.2.2.2.2.2.2.2.2.2.2.2.1.2.2.2.2.2.1.len) (l.getD ((findU nm l 0).1).toNat zMUn).2.1.2.2.2.2.2.2.2.2.2.2.2.1.2.2.2.2.2.1.cap)]) rfl rfl (by kernel_rfl) (by kernel_rfl) hk6 (by kernel_rfl) (by kernel_rfl)) rfl rfl ?_; clear hf fa; rintro fa _ w8 ⟨hk7, hg4⟩ hf
      replace hk1 := blk_grown hk1 hg4 (by omega)
      replace hk3 := blk_grown hk3 hg4 (by omega)
      replace hb := hb.trans (grown_below hg4 hb.size hBb3)
      apply wpList_nil
      (try simp only [Exit.then, Exit.inBlock, ↓reduceIte, Nat.reduceEqDiff])
      refine hK8 _ _ ?_
      refine wp_seq_k (fun K9 hK9 => ?_)
      refine wp_region_unT 6 (fun wq => Below w8.heap.size w8 wq) (fun w w' => Below w.heap.size w w')
        (fun V => [(fun x _ => x = (.agg #[(.slice (l.getD ((findU nm l 0).1).toNat zMUn).2.1.1.at' ((l.getD ((findU nm l 0).1).toNat zMUn).2.1.1.len) (l.getD ((findU nm l 0).1).toNat zMUn).2.1.1.cap), (.slice (l.getD ((findU nm l 0).1).toNat zMUn).2.1.2.1.at' ((l.getD ((findU nm l 0).1).toNat zMUn).2.1.2.1.len) (l.getD ((findU nm l 0).1).toNat zMUn).2.1.2.1.cap), (.slice (l.getD ((findU nm l 0).1).toNat zMUn).2.1.2.2.1.at' ((l.getD ((findU nm l 0).1).toNat zMUn).2.1.2.2.1.len) (l.getD ((findU nm l 0).1).toNat zMUn).2.1.2.2.1.cap), (.slice (l.getD ((findU nm l 0).1).toNat zMUn).2.1.2.2.2.1.at' ((l.getD ((findU nm l 0).1).toNat zMUn).2.1.2.2.2.1.len) (l.getD ((findU nm l 0).1).toNat zMUn).2.1.2.2.2.1.cap), (.slice (l.getD ((findU nm l 0).1).toNat zMUn).2.1.2.2.2.2.1.at' ((l.getD ((findU nm l 0).1).toNat zMUn).2.1.2.2.2.2.1.len) (l.getD ((findU nm l 0).1).toNat zMUn).2.1.2.2.2.2.1.cap), (.slice (l.getD ((findU nm l 0).1).toNat zMUn).2.1.2.2.2.2.2.1.at' ((l.getD ((findU nm l 0).1).toNat zMUn).2.1.2.2.2.2.2.1.len) (l.getD ((findU nm l 0).1).toNat zMUn).2.1.2.2.2.2.2.1.cap), (.slice (l.getD ((findU nm l 0).1).toNat zMUn).2.1.2.2.2.2.2.2.1.at' ((l.getD ((findU nm l 0).1).toNat zMUn).2.1.2.2.2.2.2.2.1.len) (l.getD ((findU nm l 0).1).toNat zMUn).2.1.2.2.2.2.2.2.1.cap), (.int .i64 ((l.getD ((findU nm l 0).1).toNat zMUn).2.1.2.2.2.2.2.2.2.1)), (.slice (l.getD ((findU nm l 0).1).toNat zMUn).2.1.2.2.2.2.2.2.2.2.1.at' ((l.getD ((findU nm l 0).1).toNat zMUn).2.1.2.2.2.2.2.2.2.2.1.len) (l.getD ((findU nm l 0).1).toNat zMUn).2.1.2.2.2.2.2.2.2.2.1.cap), (.slice (l.getD ((findU nm l 0).1).toNat zMUn).2.1.2.2.2.2.2.2.2.2.2.1.at' ((l.getD ((findU nm l 0).1).toNat zMUn).2.1.2.2.2.2.2.2.2.2.2.1.len) (l.getD ((findU nm l 0).1).toNat zMUn).2.1.2.2.2.2.2.2.2.2.2.1.cap), (.slice (l.getD ((findU nm l 0).1).toNat zMUn).2.1.2.2.2.2.2.2.2.2.2.2.1.at' ((l.getD ((findU nm l 0).1).toNat zMUn).2.1.2.2.2.2.2.2.2.2.2.2.1.len) (l.getD ((findU nm l 0).1).toNat zMUn).2.1.2.2.2.2.2.2.2.2.2.2.1.cap), (.bool (l.getD ((findU nm l 0).1).toNat zMUn).2.1.2.2.2.2.2.2.2.2.2.2.2.1.1), (.int .u32 ((l.getD ((findU nm l 0).1).toNat zMUn).2.1.2.2.2.2.2.2.2.2.2.2.2.1.2.1)), (.int .u32 ((l.getD ((findU nm l 0).1).toNat zMUn).2.1.2.2.2.2.2.2.2.2.2.2.2.1.2.2.1)), (.int .u32 ((l.getD ((findU nm l 0).1).toNat zMUn).2.1.2.2.2.2.2.2.2.2.2.2.2.1.2.2.2.1)), (.int .u32 ((l.getD ((findU nm l 0).1).toNat zMUn).2.1.2.2.2.2.2.2.2.2.2.2.2.1.2.2.2.2.1)), (.slice (l.getD ((findU nm l 0).1).toNat zMUn).2.1.2.2.2.2.2.2.2.2.2.2.2.1.2.2.2.2.2.1.at' ((l.getD ((findU nm l 0).1).toNat zMUn).2.1.2.2.2.2.2.2.2.2.2.2.2.1.2.2.2.2.2.1.len) (l.getD ((findU nm l 0).1).toNat zMUn).2.1.2.2.2.2.2.2.2.2.2.2.2.1.2.2.2.2.2.1.cap)])), (fun x wq => ∃ a c, x = .slice a (((gtypesP (l.getD ((findU nm l 0).1).toNat zMUn).2.1)).length) c ∧ Row 2 vMGt 101 w8.heap.size wq x (gtypesP (l.getD ((findU nm l 0).1).toNat zMUn).2.1)), (fun x _ => x = (.agg #[(.slice (l.getD ((findU nm l 0).1).toNat zMUn).2.1.1.at' ((l.getD ((findU nm l 0).1).toNat zMUn).2.1.1.len) (l.getD ((findU nm l 0).1).toNat zMUn).2.1.1.cap), (.slice (l.getD ((findU nm l 0).1).toNat zMUn).2.1.2.1.at' ((l.getD ((findU nm l 0).1).toNat zMUn).2.1.2.1.len) (l.getD ((findU nm l 0).1).toNat zMUn).2.1.2.1.cap), (.slice (l.getD ((findU nm l 0).1).toNat zMUn).2.1.2.2.1.at' ((l.getD ((findU nm l 0).1).toNat zMUn).2.1.2.2.1.len) (l.getD ((findU nm l 0).1).toNat zMUn).2.1.2.2.1.cap), (.slice (l.getD ((findU nm l 0).1).toNat zMUn).2.1.2.2.2.1.at' ((l.getD ((findU nm l 0).1).toNat zMUn).2.1.2.2.2.1.len) (l.getD ((findU nm l 0).1).toNat zMUn).2.1.2.2.2.1.cap), (.slice (l.getD ((findU nm l 0).1).toNat zMUn).2.1.2.2.2.2.1.at' ((l.getD ((findU nm l 0).1).toNat zMUn).2.1.2.2.2.2.1.len) (l.getD ((findU nm l 0).1).toNat zMUn).2.1.2.2.2.2.1.cap), (.slice (l.getD ((findU nm l 0).1).toNat zMUn).2.1.2.2.2.2.2.1.at' ((l.getD ((findU nm l 0).1).toNat zMUn).2.1.2.2.2.2.2.1.len) (l.getD ((findU nm l 0).1).toNat zMUn).2.1.2.2.2.2.2.1.cap), (.slice (l.getD ((findU nm l 0).1).toNat zMUn).2.1.2.2.2.2.2.2.1.at' ((l.getD ((findU nm l 0).1).toNat zMUn).2.1.2.2.2.2.2.2.1.len) (l.getD ((findU nm l 0).1).toNat zMUn).2.1.2.2.2.2.2.2.1.cap), (.int .i64 ((l.getD ((findU nm l 0).1).toNat zMUn).2.1.2.2.2.2.2.2.2.1)), (.slice (l.getD ((findU nm l 0).1).toNat zMUn).2.1.2.2.2.2.2.2.2.2.1.at' ((l.getD ((findU nm l 0).1).toNat zMUn).2.1.2.2.2.2.2.2.2.2.1.len) (l.getD ((findU nm l 0).1).toNat zMUn).2.1.2.2.2.2.2.2.2.2.1.cap), (.slice (l.getD ((findU nm l 0).1).toNat zMUn).2.1.2.2.2.2.2.2.2.2.2.1.at' ((l.getD ((findU nm l 0).1).toNat zMUn).2.1.2.2.2.2.2.2.2.2.2.1.len) (l.getD ((findU nm l 0).1).toNat zMUn).2.1.2.2.2.2.2.2.2.2.2.1.cap), (.slice (l.getD ((findU nm l 0).1).toNat zMUn).2.1.2.2.2.2.2.2.2.2.2.2.1.at' ((l.getD ((findU nm l 0).1).toNat zMUn).2.1.2.2.2.2.2.2.2.2.2.2.1.len) (l.getD ((findU nm l 0).1).toNat zMUn).2.1.2.2.2.2.2.2.2.2.2.2.1.cap), (.bool (l.getD ((findU nm l 0).1).toNat zMUn).2.1.2.2.2.2.2.2.2.2.2.2.2.1.1), (.int .u32 ((l.getD ((findU nm l 0).1).toNat zMUn).2.1.2.2.2.2.2.2.2.2.2.2.2.1.2.1)), (.int .u32 ((l.getD ((findU nm l 0).1).toNat zMUn).2.1.2.2.2.2.2.2.2.2.2.2.2.1.2.2.1)), (.int .u32 ((l.getD ((findU nm l 0).1).toNat zMUn).2.1.2.2.2.2.2.2.2.2.2.2.2.1.2.2.2.1)), (.int .u32 ((l.getD ((findU nm l 0).1).toNat zMUn).2.1.2.2.2.2.2.2.2.2.2.2.2.1.2.2.2.2.1)), (.slice (l.getD ((findU nm l 0).1).toNat zMUn).2.1.2.2.2.2.2.2.2.2.2.2.2.1.2.2.2.2.2.1.at' ((l.getD ((findU nm l 0).1).toNat zMUn).2.1.2.2.2.2.2.2.2.2.2.2.2.1.2.2.2.2.2.1.len) (l.getD ((findU nm l 0).1).toNat zMUn).2.1.2.2.2.2.2.2.2.2.2.2.2.1.2.2.2.2.2.1.cap)])), (fun x wq => ∃ a c, x = .slice a ((gtT (l.getD ((findU nm l 0).1).toNat zMUn).2.1.2.1.list).length) c), (fun x _ => x = (.int .i64 (((gtT (l.getD ((findU nm l 0).1).toNat zMUn).2.1.2.1.list).length : Nat) : Int))), (fun x _ => x = V 1)])
        []
        [[], [0], [], [1, 2], [3], [0, 1, 3], []]
        hf (by kernel_rfl) (by kernel_rfl) (by kernel_rfl) (fun _ => rfl) ((Below.refl _ _).drew) (fun a b h1 h2 => h1.trans (h2.mono h1.size)) (fun _ _ h => h.size) (fun V => ⟨kept_eq, keptE, kept_eq, (fun _ _ _ h _ => h), kept_eq, kept_eq, trivial⟩) (by
           intro V i v j h
           match j with
           | 0 => rfl
           | 1 => rfl
           | 2 => rfl
           | 3 => rfl
           | 4 => rfl
           | 5 => have e1 : ¬ (1 = i) := fun e => h (by rw [← e]; decide); simp only [List.getD_cons_succ, List.getD_cons_zero, e1, if_false]
           | _ + 6 => rfl) ?_ ?_
      · skip
        intro V
        refine ⟨fun wu0 hC hd => ?_, ?_⟩
        · clear hd
          replace hb := hb.trans (hC.mono hb.size)
          replace hk1 := blk_ext hk1 hC
          replace hk3 := blk_ext hk3 hC
          replace hk7 := blk_ext hk7 hC
          exact Runs.does (r_loadA (cs := [(.slice (l.getD ((findU nm l 0).1).toNat zMUn).2.1.1.at' ((l.getD ((findU nm l 0).1).toNat zMUn).2.1.1.len) (l.getD ((findU nm l 0).1).toNat zMUn).2.1.1.cap), (.slice (l.getD ((findU nm l 0).1).toNat zMUn).2.1.2.1.at' ((l.getD ((findU nm l 0).1).toNat zMUn).2.1.2.1.len) (l.getD ((findU nm l 0).1).toNat zMUn).2.1.2.1.cap), (.slice (l.getD ((findU nm l 0).1).toNat zMUn).2.1.2.2.1.at' ((l.getD ((findU nm l 0).1).toNat zMUn).2.1.2.2.1.len) (l.getD ((findU nm l 0).1).toNat zMUn).2.1.2.2.1.cap), (.slice (l.getD ((findU nm l 0).1).toNat zMUn).2.1.2.2.2.1.at' ((l.getD ((findU nm l 0).1).toNat zMUn).2.1.2.2.2.1.len) (l.getD ((findU nm l 0).1).toNat zMUn).2.1.2.2.2.1.cap), (.slice (l.getD ((findU nm l 0).1).toNat zMUn).2.1.2.2.2.2.1.at' ((l.getD ((findU nm l 0).1).toNat zMUn).2.1.2.2.2.2.1.len) (l.getD ((findU nm l 0).1).toNat zMUn).2.1.2.2.2.2.1.cap), (.slice (l.getD ((findU nm l 0).1).toNat zMUn).2.1.2.2.2.2.2.1.at' ((l.getD ((findU nm l 0).1).toNat zMUn).2.1.2.2.2.2.2.1.len) (l.getD ((findU nm l 0).1).toNat zMUn).2.1.2.2.2.2.2.1.cap), (.slice (l.getD ((findU nm l 0).1).toNat zMUn).2.1.2.2.2.2.2.2.1.at' ((l.getD ((findU nm l 0).1).toNat zMUn).2.1.2.2.2.2.2.2.1.len) (l.getD ((findU nm l 0).1).toNat zMUn).2.1.2.2.2.2.2.2.1.cap), (.int .i64 ((l.getD ((findU nm l 0).1).toNat zMUn).2.1.2.2.2.2.2.2.2.1)), (.slice (l.getD ((findU nm l 0).1).toNat zMUn).2.1.2.2.2.2.2.2.2.2.1.at' ((l.getD ((findU nm l 0).1).toNat zMUn).2.1.2.2.2.2.2.2.2.2.1.len) (l.getD ((findU nm l 0).1).toNat zMUn).2.1.2.2.2.2.2.2.2.2.1.cap), (.slice (l.getD ((findU nm l 0).1).toNat zMUn).2.1.2.2.2.2.2.2.2.2.2.1.at' ((l.getD ((findU nm l 0).1).toNat zMUn).2.1.2.2.2.2.2.2.2.2.2.1.len) (l.getD ((findU nm l 0).1).toNat zMUn).2.1.2.2.2.2.2.2.2.2.2.1.cap), (.slice (l.getD ((findU nm l 0).1).toNat zMUn).2.1.2.2.2.2.2.2.2.2.2.2.1.at' ((l.getD ((findU nm l 0).1).toNat zMUn).2.1.2.2.2.2.2.2.2.2.2.2.1.len) (l.getD ((findU nm l 0).1).toNat zMUn).2.1.2.2.2.2.2.2.2.2.2.2.1.cap), (.bool (l.getD ((findU nm l 0).1).toNat zMUn).2.1.2.2.2.2.2.2.2.2.2.2.2.1.1), (.int .u32 ((l.getD ((findU nm l 0).1).toNat zMUn).2.1.2.2.2.2.2.2.2.2.2.2.2.1.2.1)), (.int .u32 ((l.getD ((findU nm l 0).1).toNat zMUn).2.1.2.2.2.2.2.2.2.2.2.2.2.1.2.2.1)), (.int .u32 ((l.getD ((findU nm l 0).1).toNat zMUn).2.1.2.2.2.2.2.2.2.2.2.2.2.1.2.2.2.1)), (.int .u32 ((l.getD ((findU nm l 0).1).toNat zMUn).2.1.2.2.2.2.2.2.2.2.2.2.2.1.2.2.2.2.1)), (.slice (l.getD ((findU nm l 0).1).toNat zMUn).2.1.2.2.2.2.2.2.2.2.2.2.2.1.2.2.2.2.2.1.at' ((l.getD ((findU nm l 0).1).toNat zMUn).2.1.2.2.2.2.2.2.2.2.2.2.2.1.2.2.2.2.2.1.len) (l.getD ((findU nm l 0).1).toNat zMUn).2.1.2.2.2.2.2.2.2.2.2.2.2.1.2.2.2.2.2.1.cap)]) rfl Try.underlying67 rfl (by kernel_rfl) (cellsAt_blk hk7)) ⟨Below.refl _ _, rfl, nofr rfl⟩
        refine ⟨fun wu1 hC hd => ?_, ?_⟩
        · obtain ⟨h0, _⟩ := hd
          skip
          replace h0 : V 0 = (.agg #[(.slice (l.getD ((findU nm l 0).1).toNat zMUn).2.1.1.at' ((l.getD ((findU nm l 0).1).toNat zMUn).2.1.1.len) (l.getD ((findU nm l 0).1).toNat zMUn).2.1.1.cap), (.slice (l.getD ((findU nm l 0).1).toNat zMUn).2.1.2.1.at' ((l.getD ((findU nm l 0).1).toNat zMUn).2.1.2.1.len) (l.getD ((findU nm l 0).1).toNat zMUn).2.1.2.1.cap), (.slice (l.getD ((findU nm l 0).1).toNat zMUn).2.1.2.2.1.at' ((l.getD ((findU nm l 0).1).toNat zMUn).2.1.2.2.1.len) (l.getD ((findU nm l 0).1).toNat zMUn).2.1.2.2.1.cap), (.slice (l.getD ((findU nm l 0).1).toNat zMUn).2.1.2.2.2.1.at' ((l.getD ((findU nm l 0).1).toNat zMUn).2.1.2.2.2.1.len) (l.getD ((findU nm l 0).1).toNat zMUn).2.1.2.2.2.1.cap), (.slice (l.getD ((findU nm l 0).1).toNat zMUn).2.1.2.2.2.2.1.at' ((l.getD ((findU nm l 0).1).toNat zMUn).2.1.2.2.2.2.1.len) (l.getD ((findU nm l 0).1).toNat zMUn).2.1.2.2.2.2.1.cap), (.slice (l.getD ((findU nm l 0).1).toNat zMUn).2.1.2.2.2.2.2.1.at' ((l.getD ((findU nm l 0).1).toNat zMUn).2.1.2.2.2.2.2.1.len) (l.getD ((findU nm l 0).1).toNat zMUn).2.1.2.2.2.2.2.1.cap), (.slice (l.getD ((findU nm l 0).1).toNat zMUn).2.1.2.2.2.2.2.2.1.at' ((l.getD ((findU nm l 0).1).toNat zMUn).2.1.2.2.2.2.2.2.1.len) (l.getD ((findU nm l 0).1).toNat zMUn).2.1.2.2.2.2.2.2.1.cap), (.int .i64 ((l.getD ((findU nm l 0).1).toNat zMUn).2.1.2.2.2.2.2.2.2.1)), (.slice (l.getD ((findU nm l 0).1).toNat zMUn).2.1.2.2.2.2.2.2.2.2.1.at' ((l.getD ((findU nm l 0).1).toNat zMUn).2.1.2.2.2.2.2.2.2.2.1.len) (l.getD ((findU nm l 0).1).toNat zMUn).2.1.2.2.2.2.2.2.2.2.1.cap), (.slice (l.getD ((findU nm l 0).1).toNat zMUn).2.1.2.2.2.2.2.2.2.2.2.1.at' ((l.getD ((findU nm l 0).1).toNat zMUn).2.1.2.2.2.2.2.2.2.2.2.1.len) (l.getD ((findU nm l 0).1).toNat zMUn).2.1.2.2.2.2.2.2.2.2.2.1.cap), (.slice (l.getD ((findU nm l 0).1).toNat zMUn).2.1.2.2.2.2.2.2.2.2.2.2.1.at' ((l.getD ((findU nm l 0).1).toNat zMUn).2.1.2.2.2.2.2.2.2.2.2.2.1.len) (l.getD ((findU nm l 0).1).toNat zMUn).2.1.2.2.2.2.2.2.2.2.2.2.1.cap), (.bool (l.getD ((findU nm l 0).1).toNat zMUn).2.1.2.2.2.2.2.2.2.2.2.2.2.1.1), (.int .u32 ((l.getD ((findU nm l 0).1).toNat zMUn).2.1.2.2.2.2.2.2.2.2.2.2.2.1.2.1)), (.int .u32 ((l.getD ((findU nm l 0).1).toNat zMUn).2.1.2.2.2.2.2.2.2.2.2.2.2.1.2.2.1)), (.int .u32 ((l.getD ((findU nm l 0).1).toNat zMUn).2.1.2.2.2.2.2.2.2.2.2.2.2.1.2.2.2.1)), (.int .u32 ((l.getD ((findU nm l 0).1).toNat zMUn).2.1.2.2.2.2.2.2.2.2.2.2.2.1.2.2.2.2.1)), (.slice (l.getD ((findU nm l 0).1).toNat zMUn).2.1.2.2.2.2.2.2.2.2.2.2.2.1.2.2.2.2.2.1.at' ((l.getD ((findU nm l 0).1).toNat zMUn).2.1.2.2.2.2.2.2.2.2.2.2.2.1.2.2.2.2.2.1.len) (l.getD ((findU nm l 0).1).toNat zMUn).2.1.2.2.2.2.2.2.2.2.2.2.2.1.2.2.2.2.2.1.cap)]) := h0
          replace hb := hb.trans (hC.mono hb.size)
          replace hk1 := blk_ext hk1 hC
          replace hk3 := blk_ext hk3 hC
          replace hk7 := blk_ext hk7 hC
          refine Does.mono (d_callX (vs := [(.agg #[(.slice (l.getD ((findU nm l 0).1).toNat zMUn).2.1.1.at' ((l.getD ((findU nm l 0).1).toNat zMUn).2.1.1.len) (l.getD ((findU nm l 0).1).toNat zMUn).2.1.1.cap), (.slice (l.getD ((findU nm l 0).1).toNat zMUn).2.1.2.1.at' ((l.getD ((findU nm l 0).1).toNat zMUn).2.1.2.1.len) (l.getD ((findU nm l 0).1).toNat zMUn).2.1.2.1.cap), (.slice (l.getD ((findU nm l 0).1).toNat zMUn).2.1.2.2.1.at' ((l.getD ((findU nm l 0).1).toNat zMUn).2.1.2.2.1.len) (l.getD ((findU nm l 0).1).toNat zMUn).2.1.2.2.1.cap), (.slice (l.getD ((findU nm l 0).1).toNat zMUn).2.1.2.2.2.1.at' ((l.getD ((findU nm l 0).1).toNat zMUn).2.1.2.2.2.1.len) (l.getD ((findU nm l 0).1).toNat zMUn).2.1.2.2.2.1.cap), (.slice (l.getD ((findU nm l 0).1).toNat zMUn).2.1.2.2.2.2.1.at' ((l.getD ((findU nm l 0).1).toNat zMUn).2.1.2.2.2.2.1.len) (l.getD ((findU nm l 0).1).toNat zMUn).2.1.2.2.2.2.1.cap), (.slice (l.getD ((findU nm l 0).1).toNat zMUn).2.1.2.2.2.2.2.1.at' ((l.getD ((findU nm l 0).1).toNat zMUn).2.1.2.2.2.2.2.1.len) (l.getD ((findU nm l 0).1).toNat zMUn).2.1.2.2.2.2.2.1.cap), (.slice (l.getD ((findU nm l 0).1).toNat zMUn).2.1.2.2.2.2.2.2.1.at' ((l.getD ((findU nm l 0).1).toNat zMUn).2.1.2.2.2.2.2.2.1.len) (l.getD ((findU nm l 0).1).toNat zMUn).2.1.2.2.2.2.2.2.1.cap), (.int .i64 ((l.getD ((findU nm l 0).1).toNat zMUn).2.1.2.2.2.2.2.2.2.1)), (.slice (l.getD ((findU nm l 0).1).toNat zMUn).2.1.2.2.2.2.2.2.2.2.1.at' ((l.getD ((findU nm l 0).1).toNat zMUn).2.1.2.2.2.2.2.2.2.2.1.len) (l.getD ((findU nm l 0).1).toNat zMUn).2.1.2.2.2.2.2.2.2.2.1.cap), (.slice (l.getD ((findU nm l 0).1).toNat zMUn).2.1.2.2.2.2.2.2.2.2.2.1.at' ((l.getD ((findU nm l 0).1).toNat zMUn).2.1.2.2.2.2.2.2.2.2.2.1.len) (l.getD ((findU nm l 0).1).toNat zMUn).2.1.2.2.2.2.2.2.2.2.2.1.cap), (.slice (l.getD ((findU nm l 0).1).toNat zMUn).2.1.2.2.2.2.2.2.2.2.2.2.1.at' ((l.getD ((findU nm l 0).1).toNat zMUn).2.1.2.2.2.2.2.2.2.2.2.2.1.len) (l.getD ((findU nm l 0).1).toNat zMUn).2.1.2.2.2.2.2.2.2.2.2.2.1.cap), (.bool (l.getD ((findU nm l 0).1).toNat zMUn).2.1.2.2.2.2.2.2.2.2.2.2.2.1.1), (.int .u32 ((l.getD ((findU nm l 0).1).toNat zMUn).2.1.2.2.2.2.2.2.2.2.2.2.2.1.2.1)), (.int .u32 ((l.getD ((findU nm l 0).1).toNat zMUn).2.1.2.2.2.2.2.2.2.2.2.2.2.1.2.2.1)), (.int .u32 ((l.getD ((findU nm l 0).1).toNat zMUn).2.1.2.2.2.2.2.2.2.2.2.2.2.1.2.2.2.1)), (.int .u32 ((l.getD ((findU nm l 0).1).toNat zMUn).2.1.2.2.2.2.2.2.2.2.2.2.2.1.2.2.2.2.1)), (.slice (l.getD ((findU nm l 0).1).toNat zMUn).2.1.2.2.2.2.2.2.2.2.2.2.2.1.2.2.2.2.2.1.at' ((l.getD ((findU nm l 0).1).toNat zMUn).2.1.2.2.2.2.2.2.2.2.2.2.2.1.2.2.2.2.2.1.len) (l.getD ((findU nm l 0).1).toNat zMUn).2.1.2.2.2.2.2.2.2.2.2.2.2.1.2.2.2.2.2.1.cap)])]) (show [some (V 0)] = [some (.agg #[(.slice (l.getD ((findU nm l 0).1).toNat zMUn).2.1.1.at' ((l.getD ((findU nm l 0).1).toNat zMUn).2.1.1.len) (l.getD ((findU nm l 0).1).toNat zMUn).2.1.1.cap), (.slice (l.getD ((findU nm l 0).1).toNat zMUn).2.1.2.1.at' ((l.getD ((findU nm l 0).1).toNat zMUn).2.1.2.1.len) (l.getD ((findU nm l 0).1).toNat zMUn).2.1.2.1.cap), (.slice (l.getD ((findU nm l 0).1).toNat zMUn).2.1.2.2.1.at' ((l.getD ((findU nm l 0).1).toNat zMUn).2.1.2.2.1.len) (l.getD ((findU nm l 0).1).toNat zMUn).2.1.2.2.1.cap), (.slice (l.getD ((findU nm l 0).1).toNat zMUn).2.1.2.2.2.1.at' ((l.getD ((findU nm l 0).1).toNat zMUn).2.1.2.2.2.1.len) (l.getD ((findU nm l 0).1).toNat zMUn).2.1.2.2.2.1.cap), (.slice (l.getD ((findU nm l 0).1).toNat zMUn).2.1.2.2.2.2.1.at' ((l.getD ((findU nm l 0).1).toNat zMUn).2.1.2.2.2.2.1.len) (l.getD ((findU nm l 0).1).toNat zMUn).2.1.2.2.2.2.1.cap), (.slice (l.getD ((findU nm l 0).1).toNat zMUn).2.1.2.2.2.2.2.1.at' ((l.getD ((findU nm l 0).1).toNat zMUn).2.1.2.2.2.2.2.1.len) (l.getD ((findU nm l 0).1).toNat zMUn).2.1.2.2.2.2.2.1.cap), (.slice (l.getD ((findU nm l 0).1).toNat zMUn).2.1.2.2.2.2.2.2.1.at' ((l.getD ((findU nm l 0).1).toNat zMUn).2.1.2.2.2.2.2.2.1.len) (l.getD ((findU nm l 0).1).toNat zMUn).2.1.2.2.2.2.2.2.1.cap), (.int .i64 ((l.getD ((findU nm l 0).1).toNat zMUn).2.1.2.2.2.2.2.2.2.1)), (.slice (l.getD ((findU nm l 0).1).toNat zMUn).2.1.2.2.2.2.2.2.2.2.1.at' ((l.getD ((findU nm l 0).1).toNat zMUn).2.1.2.2.2.2.2.2.2.2.1.len) (l.getD ((findU nm l 0).1).toNat zMUn).2.1.2.2.2.2.2.2.2.2.1.cap), (.slice (l.getD ((findU nm l 0).1).toNat zMUn).2.1.2.2.2.2.2.2.2.2.2.1.at' ((l.getD ((findU nm l 0).1).toNat zMUn).2.1.2.2.2.2.2.2.2.2.2.1.len) (l.getD ((findU nm l 0).1).toNat zMUn).2.1.2.2.2.2.2.2.2.2.2.1.cap), (.slice (l.getD ((findU nm l 0).1).toNat zMUn).2.1.2.2.2.2.2.2.2.2.2.2.1.at' ((l.getD ((findU nm l 0).1).toNat zMUn).2.1.2.2.2.2.2.2.2.2.2.2.1.len) (l.getD ((findU nm l 0).1).toNat zMUn).2.1.2.2.2.2.2.2.2.2.2.2.1.cap), (.bool (l.getD ((findU nm l 0).1).toNat zMUn).2.1.2.2.2.2.2.2.2.2.2.2.2.1.1), (.int .u32 ((l.getD ((findU nm l 0).1).toNat zMUn).2.1.2.2.2.2.2.2.2.2.2.2.2.1.2.1)), (.int .u32 ((l.getD ((findU nm l 0).1).toNat zMUn).2.1.2.2.2.2.2.2.2.2.2.2.2.1.2.2.1)), (.int .u32 ((l.getD ((findU nm l 0).1).toNat zMUn).2.1.2.2.2.2.2.2.2.2.2.2.2.1.2.2.2.1)), (.int .u32 ((l.getD ((findU nm l 0).1).toNat zMUn).2.1.2.2.2.2.2.2.2.2.2.2.2.1.2.2.2.2.1)), (.slice (l.getD ((findU nm l 0).1).toNat zMUn).2.1.2.2.2.2.2.2.2.2.2.2.2.1.2.2.2.2.2.1.at' ((l.getD ((findU nm l 0).1).toNat zMUn).2.1.2.2.2.2.2.2.2.2.2.2.2.1.2.2.2.2.2.1.len) (l.getD ((findU nm l 0).1).toNat zMUn).2.1.2.2.2.2.2.2.2.2.2.2.2.1.2.2.2.2.2.1.cap)])] from by rw [h0]) Try.func74 (by kernel_rfl) (by kernel_rfl) (gtypes_any (l.getD ((findU nm l 0).1).toNat zMUn).2.1 _ (rdMMd.kept _ _ _ hb hMu.1) hMu.2)) ?_
          rintro _ w' ⟨hF2, hF3⟩
          obtain ⟨ra, rc, rfl, _, _⟩ := Row.slice hF2
          exact ⟨hF3, ⟨ra, rc, rfl, hF2.rebase hC.size⟩, nofr rfl⟩
        refine ⟨fun wu2 hC hd => ?_, ?_⟩
        · clear hd
          replace hb := hb.trans (hC.mono hb.size)
          replace hk1 := blk_ext hk1 hC
          replace hk3 := blk_ext hk3 hC
          replace hk7 := blk_ext hk7 hC
          exact Runs.does (r_loadA (cs := [(.slice (l.getD ((findU nm l 0).1).toNat zMUn).2.1.1.at' ((l.getD ((findU nm l 0).1).toNat zMUn).2.1.1.len) (l.getD ((findU nm l 0).1).toNat zMUn).2.1.1.cap), (.slice (l.getD ((findU nm l 0).1).toNat zMUn).2.1.2.1.at' ((l.getD ((findU nm l 0).1).toNat zMUn).2.1.2.1.len) (l.getD ((findU nm l 0).1).toNat zMUn).2.1.2.1.cap), (.slice (l.getD ((findU nm l 0).1).toNat zMUn).2.1.2.2.1.at' ((l.getD ((findU nm l 0).1).toNat zMUn).2.1.2.2.1.len) (l.getD ((findU nm l 0).1).toNat zMUn).2.1.2.2.1.cap), (.slice (l.getD ((findU nm l 0).1).toNat zMUn).2.1.2.2.2.1.at' ((l.getD ((findU nm l 0).1).toNat zMUn).2.1.2.2.2.1.len) (l.getD ((findU nm l 0).1).toNat zMUn).2.1.2.2.2.1.cap), (.slice (l.getD ((findU nm l 0).1).toNat zMUn).2.1.2.2.2.2.1.at' ((l.getD ((findU nm l 0).1).toNat zMUn).2.1.2.2.2.2.1.len) (l.getD ((findU nm l 0).1).toNat zMUn).2.1.2.2.2.2.1.cap), (.slice (l.getD ((findU nm l 0).1).toNat zMUn).2.1.2.2.2.2.2.1.at' ((l.getD ((findU nm l 0).1).toNat zMUn).2.1.2.2.2.2.2.1.len) (l.getD ((findU nm l 0).1).toNat zMUn).2.1.2.2.2.2.2.1.cap), (.slice (l.getD ((findU nm l 0).1).toNat zMUn).2.1.2.2.2.2.2.2.1.at' ((l.getD ((findU nm l 0).1).toNat zMUn).2.1.2.2.2.2.2.2.1.len) (l.getD ((findU nm l 0).1).toNat zMUn).2.1.2.2.2.2.2.2.1.cap), (.int .i64 ((l.getD ((findU nm l 0).1).toNat zMUn).2.1.2.2.2.2.2.2.2.1)), (.slice (l.getD ((findU nm l 0).1).toNat zMUn).2.1.2.2.2.2.2.2.2.2.1.at' ((l.getD ((findU nm l 0).1).toNat zMUn).2.1.2.2.2.2.2.2.2.2.1.len) (l.getD ((findU nm l 0).1).toNat zMUn).2.1.2.2.2.2.2.2.2.2.1.cap), (.slice (l.getD ((findU nm l 0).1).toNat zMUn).2.1.2.2.2.2.2.2.2.2.2.1.at' ((l.getD ((findU nm l 0).1).toNat zMUn).2.1.2.2.2.2.2.2.2.2.2.1.len) (l.getD ((findU nm l 0).1).toNat zMUn).2.1.2.2.2.2.2.2.2.2.2.1.cap), (.slice (l.getD ((findU nm l 0).1).toNat zMUn).2.1.2.2.2.2.2.2.2.2.2.2.1.at' ((l.getD ((findU nm l 0).1).toNat zMUn).2.1.2.2.2.2.2.2.2.2.2.2.1.len) (l.getD ((findU nm l 0).1).toNat zMUn).2.1.2.2.2.2.2.2.2.2.2.2.1.cap), (.bool (l.getD ((findU nm l 0).1).toNat zMUn).2.1.2.2.2.2.2.2.2.2.2.2.2.1.1), (.int .u32 ((l.getD ((findU nm l 0).1).toNat zMUn).2.1.2.2.2.2.2.2.2.2.2.2.2.1.2.1)), (.int .u32 ((l.getD ((findU nm l 0).1).toNat zMUn).2.1.2.2.2.2.2.2.2.2.2.2.2.1.2.2.1)), (.int .u32 ((l.getD ((findU nm l 0).1).toNat zMUn).2.1.2.2.2.2.2.2.2.2.2.2.2.1.2.2.2.1)), (.int .u32 ((l.getD ((findU nm l 0).1).toNat zMUn).2.1.2.2.2.2.2.2.2.2.2.2.2.1.2.2.2.2.1)), (.slice (l.getD ((findU nm l 0).1).toNat zMUn).2.1.2.2.2.2.2.2.2.2.2.2.2.1.2.2.2.2.2.1.at' ((l.getD ((findU nm l 0).1).toNat zMUn).2.1.2.2.2.2.2.2.2.2.2.2.2.1.2.2.2.2.2.1.len) (l.getD ((findU nm l 0).1).toNat zMUn).2.1.2.2.2.2.2.2.2.2.2.2.2.1.2.2.2.2.2.1.cap)]) rfl Try.underlying67 rfl (by kernel_rfl) (cellsAt_blk hk7)) ⟨Below.refl _ _, rfl, nofr rfl⟩
        refine ⟨fun wu3 hC hd => ?_, ?_⟩
        · obtain ⟨h1, h2, _⟩ := hd
          skip
          skip
          obtain ⟨ea1, ec1, h1, hr1⟩ := h1
          rw [h1] at hr1
          replace h2 : V 2 = (.agg #[(.slice (l.getD ((findU nm l 0).1).toNat zMUn).2.1.1.at' ((l.getD ((findU nm l 0).1).toNat zMUn).2.1.1.len) (l.getD ((findU nm l 0).1).toNat zMUn).2.1.1.cap), (.slice (l.getD ((findU nm l 0).1).toNat zMUn).2.1.2.1.at' ((l.getD ((findU nm l 0).1).toNat zMUn).2.1.2.1.len) (l.getD ((findU nm l 0).1).toNat zMUn).2.1.2.1.cap), (.slice (l.getD ((findU nm l 0).1).toNat zMUn).2.1.2.2.1.at' ((l.getD ((findU nm l 0).1).toNat zMUn).2.1.2.2.1.len) (l.getD ((findU nm l 0).1).toNat zMUn).2.1.2.2.1.cap), (.slice (l.getD ((findU nm l 0).1).toNat zMUn).2.1.2.2.2.1.at' ((l.getD ((findU nm l 0).1).toNat zMUn).2.1.2.2.2.1.len) (l.getD ((findU nm l 0).1).toNat zMUn).2.1.2.2.2.1.cap), (.slice (l.getD ((findU nm l 0).1).toNat zMUn).2.1.2.2.2.2.1.at' ((l.getD ((findU nm l 0).1).toNat zMUn).2.1.2.2.2.2.1.len) (l.getD ((findU nm l 0).1).toNat zMUn).2.1.2.2.2.2.1.cap), (.slice (l.getD ((findU nm l 0).1).toNat zMUn).2.1.2.2.2.2.2.1.at' ((l.getD ((findU nm l 0).1).toNat zMUn).2.1.2.2.2.2.2.1.len) (l.getD ((findU nm l 0).1).toNat zMUn).2.1.2.2.2.2.2.1.cap), (.slice (l.getD ((findU nm l 0).1).toNat zMUn).2.1.2.2.2.2.2.2.1.at' ((l.getD ((findU nm l 0).1).toNat zMUn).2.1.2.2.2.2.2.2.1.len) (l.getD ((findU nm l 0).1).toNat zMUn).2.1.2.2.2.2.2.2.1.cap), (.int .i64 ((l.getD ((findU nm l 0).1).toNat zMUn).2.1.2.2.2.2.2.2.2.1)), (.slice (l.getD ((findU nm l 0).1).toNat zMUn).2.1.2.2.2.2.2.2.2.2.1.at' ((l.getD ((findU nm l 0).1).toNat zMUn).2.1.2.2.2.2.2.2.2.2.1.len) (l.getD ((findU nm l 0).1).toNat zMUn).2.1.2.2.2.2.2.2.2.2.1.cap), (.slice (l.getD ((findU nm l 0).1).toNat zMUn).2.1.2.2.2.2.2.2.2.2.2.1.at' ((l.getD ((findU nm l 0).1).toNat zMUn).2.1.2.2.2.2.2.2.2.2.2.1.len) (l.getD ((findU nm l 0).1).toNat zMUn).2.1.2.2.2.2.2.2.2.2.2.1.cap), (.slice (l.getD ((findU nm l 0).1).toNat zMUn).2.1.2.2.2.2.2.2.2.2.2.2.1.at' ((l.getD ((findU nm l 0).1).toNat zMUn).2.1.2.2.2.2.2.2.2.2.2.2.1.len) (l.getD ((findU nm l 0).1).toNat zMUn).2.1.2.2.2.2.2.2.2.2.2.2.1.cap), (.bool (l.getD ((findU nm l 0).1).toNat zMUn).2.1.2.2.2.2.2.2.2.2.2.2.2.1.1), (.int .u32 ((l.getD ((findU nm l 0).1).toNat zMUn).2.1.2.2.2.2.2.2.2.2.2.2.2.1.2.1)), (.int .u32 ((l.getD ((findU nm l 0).1).toNat zMUn).2.1.2.2.2.2.2.2.2.2.2.2.2.1.2.2.1)), (.int .u32 ((l.getD ((findU nm l 0).1).toNat zMUn).2.1.2.2.2.2.2.2.2.2.2.2.2.1.2.2.2.1)), (.int .u32 ((l.getD ((findU nm l 0).1).toNat zMUn).2.1.2.2.2.2.2.2.2.2.2.2.2.1.2.2.2.2.1)), (.slice (l.getD ((findU nm l 0).1).toNat zMUn).2.1.2.2.2.2.2.2.2.2.2.2.2.1.2.2.2.2.2.1.at' ((l.getD ((findU nm l 0).1).toNat zMUn).2.1.2.2.2.2.2.2.2.2.2.2.2.1.2.2.2.2.2.1.len) (l.getD ((findU nm l 0).1).toNat zMUn).2.1.2.2.2.2.2.2.2.2.2.2.2.1.2.2.2.2.2.1.cap)]) := h2
          replace hb := hb.trans (hC.mono hb.size)
          replace hk1 := blk_ext hk1 hC
          replace hk3 := blk_ext hk3 hC
          replace hk7 := blk_ext hk7 hC
          refine Does.mono (d_callX (vs := [(.agg #[(.slice (l.getD ((findU nm l 0).1).toNat zMUn).2.1.1.at' ((l.getD ((findU nm l 0).1).toNat zMUn).2.1.1.len) (l.getD ((findU nm l 0).1).toNat zMUn).2.1.1.cap), (.slice (l.getD ((findU nm l 0).1).toNat zMUn).2.1.2.1.at' ((l.getD ((findU nm l 0).1).toNat zMUn).2.1.2.1.len) (l.getD ((findU nm l 0).1).toNat zMUn).2.1.2.1.cap), (.slice (l.getD ((findU nm l 0).1).toNat zMUn).2.1.2.2.1.at' ((l.getD ((findU nm l 0).1).toNat zMUn).2.1.2.2.1.len) (l.getD ((findU nm l 0).1).toNat zMUn).2.1.2.2.1.cap), (.slice (l.getD ((findU nm l 0).1).toNat zMUn).2.1.2.2.2.1.at' ((l.getD ((findU nm l 0).1).toNat zMUn).2.1.2.2.2.1.len) (l.getD ((findU nm l 0).1).toNat zMUn).2.1.2.2.2.1.cap), (.slice (l.getD ((findU nm l 0).1).toNat zMUn).2.1.2.2.2.2.1.at' ((l.getD ((findU nm l 0).1).toNat zMUn).2.1.2.2.2.2.1.len) (l.getD ((findU nm l 0).1).toNat zMUn).2.1.2.2.2.2.1.cap), (.slice (l.getD ((findU nm l 0).1).toNat zMUn).2.1.2.2.2.2.2.1.at' ((l.getD ((findU nm l 0).1).toNat zMUn).2.1.2.2.2.2.2.1.len) (l.getD ((findU nm l 0).1).toNat zMUn).2.1.2.2.2.2.2.1.cap), (.slice (l.getD ((findU nm l 0).1).toNat zMUn).2.1.2.2.2.2.2.2.1.at' ((l.getD ((findU nm l 0).1).toNat zMUn).2.1.2.2.2.2.2.2.1.len) (l.getD ((findU nm l 0).1).toNat zMUn).2.1.2.2.2.2.2.2.1.cap), (.int .i64 ((l.getD ((findU nm l 0).1).toNat zMUn).2.1.2.2.2.2.2.2.2.1)), (.slice (l.getD ((findU nm l 0).1).toNat zMUn).2.1.2.2.2.2.2.2.2.2.1.at' ((l.getD ((findU nm l 0).1).toNat zMUn).2.1.2.2.2.2.2.2.2.2.1.len) (l.getD ((findU nm l 0).1).toNat zMUn).2.1.2.2.2.2.2.2.2.2.1.cap), (.slice (l.getD ((findU nm l 0).1).toNat zMUn).2.1.2.2.2.2.2.2.2.2.2.1.at' ((l.getD ((findU nm l 0).1).toNat zMUn).2.1.2.2.2.2.2.2.2.2.2.1.len) (l.getD ((findU nm l 0).1).toNat zMUn).2.1.2.2.2.2.2.2.2.2.2.1.cap), (.slice (l.getD ((findU nm l 0).1).toNat zMUn).2.1.2.2.2.2.2.2.2.2.2.2.1.at' ((l.getD ((findU nm l 0).1).toNat zMUn).2.1.2.2.2.2.2.2.2.2.2.2.1.len) (l.getD ((findU nm l 0).1).toNat zMUn).2.1.2.2.2.2.2.2.2.2.2.2.1.cap), (.bool (l.getD ((findU nm l 0).1).toNat zMUn).2.1.2.2.2.2.2.2.2.2.2.2.2.1.1), (.int .u32 ((l.getD ((findU nm l 0).1).toNat zMUn).2.1.2.2.2.2.2.2.2.2.2.2.2.1.2.1)), (.int .u32 ((l.getD ((findU nm l 0).1).toNat zMUn).2.1.2.2.2.2.2.2.2.2.2.2.2.1.2.2.1)), (.int .u32 ((l.getD ((findU nm l 0).1).toNat zMUn).2.1.2.2.2.2.2.2.2.2.2.2.2.1.2.2.2.1)), (.int .u32 ((l.getD ((findU nm l 0).1).toNat zMUn).2.1.2.2.2.2.2.2.2.2.2.2.2.1.2.2.2.2.1)), (.slice (l.getD ((findU nm l 0).1).toNat zMUn).2.1.2.2.2.2.2.2.2.2.2.2.2.1.2.2.2.2.2.1.at' ((l.getD ((findU nm l 0).1).toNat zMUn).2.1.2.2.2.2.2.2.2.2.2.2.2.1.2.2.2.2.2.1.len) (l.getD ((findU nm l 0).1).toNat zMUn).2.1.2.2.2.2.2.2.2.2.2.2.2.1.2.2.2.2.2.1.cap)])]) (show [some (V 2)] = [some (.agg #[(.slice (l.getD ((findU nm l 0).1).toNat zMUn).2.1.1.at' ((l.getD ((findU nm l 0).1).toNat zMUn).2.1.1.len) (l.getD ((findU nm l 0).1).toNat zMUn).2.1.1.cap), (.slice (l.getD ((findU nm l 0).1).toNat zMUn).2.1.2.1.at' ((l.getD ((findU nm l 0).1).toNat zMUn).2.1.2.1.len) (l.getD ((findU nm l 0).1).toNat zMUn).2.1.2.1.cap), (.slice (l.getD ((findU nm l 0).1).toNat zMUn).2.1.2.2.1.at' ((l.getD ((findU nm l 0).1).toNat zMUn).2.1.2.2.1.len) (l.getD ((findU nm l 0).1).toNat zMUn).2.1.2.2.1.cap), (.slice (l.getD ((findU nm l 0).1).toNat zMUn).2.1.2.2.2.1.at' ((l.getD ((findU nm l 0).1).toNat zMUn).2.1.2.2.2.1.len) (l.getD ((findU nm l 0).1).toNat zMUn).2.1.2.2.2.1.cap), (.slice (l.getD ((findU nm l 0).1).toNat zMUn).2.1.2.2.2.2.1.at' ((l.getD ((findU nm l 0).1).toNat zMUn).2.1.2.2.2.2.1.len) (l.getD ((findU nm l 0).1).toNat zMUn).2.1.2.2.2.2.1.cap), (.slice (l.getD ((findU nm l 0).1).toNat zMUn).2.1.2.2.2.2.2.1.at' ((l.getD ((findU nm l 0).1).toNat zMUn).2.1.2.2.2.2.2.1.len) (l.getD ((findU nm l 0).1).toNat zMUn).2.1.2.2.2.2.2.1.cap), (.slice (l.getD ((findU nm l 0).1).toNat zMUn).2.1.2.2.2.2.2.2.1.at' ((l.getD ((findU nm l 0).1).toNat zMUn).2.1.2.2.2.2.2.2.1.len) (l.getD ((findU nm l 0).1).toNat zMUn).2.1.2.2.2.2.2.2.1.cap), (.int .i64 ((l.getD ((findU nm l 0).1).toNat zMUn).2.1.2.2.2.2.2.2.2.1)), (.slice (l.getD ((findU nm l 0).1).toNat zMUn).2.1.2.2.2.2.2.2.2.2.1.at' ((l.getD ((findU nm l 0).1).toNat zMUn).2.1.2.2.2.2.2.2.2.2.1.len) (l.getD ((findU nm l 0).1).toNat zMUn).2.1.2.2.2.2.2.2.2.2.1.cap), (.slice (l.getD ((findU nm l 0).1).toNat zMUn).2.1.2.2.2.2.2.2.2.2.2.1.at' ((l.getD ((findU nm l 0).1).toNat zMUn).2.1.2.2.2.2.2.2.2.2.2.1.len) (l.getD ((findU nm l 0).1).toNat zMUn).2.1.2.2.2.2.2.2.2.2.2.1.cap), (.slice (l.getD ((findU nm l 0).1).toNat zMUn).2.1.2.2.2.2.2.2.2.2.2.2.1.at' ((l.getD ((findU nm l 0).1).toNat zMUn).2.1.2.2.2.2.2.2.2.2.2.2.1.len) (l.getD ((findU nm l 0).1).toNat zMUn).2.1.2.2.2.2.2.2.2.2.2.2.1.cap), (.bool (l.getD ((findU nm l 0).1).toNat zMUn).2.1.2.2.2.2.2.2.2.2.2.2.2.1.1), (.int .u32 ((l.getD ((findU nm l 0).1).toNat zMUn).2.1.2.2.2.2.2.2.2.2.2.2.2.1.2.1)), (.int .u32 ((l.getD ((findU nm l 0).1).toNat zMUn).2.1.2.2.2.2.2.2.2.2.2.2.2.1.2.2.1)), (.int .u32 ((l.getD ((findU nm l 0).1).toNat zMUn).2.1.2.2.2.2.2.2.2.2.2.2.2.1.2.2.2.1)), (.int .u32 ((l.getD ((findU nm l 0).1).toNat zMUn).2.1.2.2.2.2.2.2.2.2.2.2.2.1.2.2.2.2.1)), (.slice (l.getD ((findU nm l 0).1).toNat zMUn).2.1.2.2.2.2.2.2.2.2.2.2.2.1.2.2.2.2.2.1.at' ((l.getD ((findU nm l 0).1).toNat zMUn).2.1.2.2.2.2.2.2.2.2.2.2.2.1.2.2.2.2.2.1.len) (l.getD ((findU nm l 0).1).toNat zMUn).2.1.2.2.2.2.2.2.2.2.2.2.2.1.2.2.2.2.2.1.cap)])] from by rw [h2]) Try.func75 (by kernel_rfl) (by kernel_rfl) (gtaken_any (l.getD ((findU nm l 0).1).toNat zMUn).2.1 _ (rdMMd.kept _ _ _ hb hMu.1) hMu.2)) ?_
          rintro _ w' ⟨a, c, rfl, hF⟩
          exact ⟨hF, ⟨a, c, rfl⟩, nofr rfl⟩
        refine ⟨fun wu4 hC hd => ?_, ?_⟩
        · obtain ⟨h3, _⟩ := hd
          skip
          obtain ⟨ea2, ec2, h3⟩ := h3
          skip
          replace hb := hb.trans (hC.mono hb.size)
          replace hk1 := blk_ext hk1 hC
          replace hk3 := blk_ext hk3 hC
          replace hk7 := blk_ext hk7 hC
          exact Runs.does (r_lensl (congrArg some h3) Try.underlying153) ⟨Below.refl _ _, rfl, nofr rfl⟩
        refine ⟨fun wu5 hC hd => ?_, ?_⟩
        · obtain ⟨h0, h1, h3, _⟩ := hd
          skip
          skip
          skip
          replace h0 : V 0 = (.agg #[(.slice (l.getD ((findU nm l 0).1).toNat zMUn).2.1.1.at' ((l.getD ((findU nm l 0).1).toNat zMUn).2.1.1.len) (l.getD ((findU nm l 0).1).toNat zMUn).2.1.1.cap), (.slice (l.getD ((findU nm l 0).1).toNat zMUn).2.1.2.1.at' ((l.getD ((findU nm l 0).1).toNat zMUn).2.1.2.1.len) (l.getD ((findU nm l 0).1).toNat zMUn).2.1.2.1.cap), (.slice (l.getD ((findU nm l 0).1).toNat zMUn).2.1.2.2.1.at' ((l.getD ((findU nm l 0).1).toNat zMUn).2.1.2.2.1.len) (l.getD ((findU nm l 0).1).toNat zMUn).2.1.2.2.1.cap), (.slice (l.getD ((findU nm l 0).1).toNat zMUn).2.1.2.2.2.1.at' ((l.getD ((findU nm l 0).1).toNat zMUn).2.1.2.2.2.1.len) (l.getD ((findU nm l 0).1).toNat zMUn).2.1.2.2.2.1.cap), (.slice (l.getD ((findU nm l 0).1).toNat zMUn).2.1.2.2.2.2.1.at' ((l.getD ((findU nm l 0).1).toNat zMUn).2.1.2.2.2.2.1.len) (l.getD ((findU nm l 0).1).toNat zMUn).2.1.2.2.2.2.1.cap), (.slice (l.getD ((findU nm l 0).1).toNat zMUn).2.1.2.2.2.2.2.1.at' ((l.getD ((findU nm l 0).1).toNat zMUn).2.1.2.2.2.2.2.1.len) (l.getD ((findU nm l 0).1).toNat zMUn).2.1.2.2.2.2.2.1.cap), (.slice (l.getD ((findU nm l 0).1).toNat zMUn).2.1.2.2.2.2.2.2.1.at' ((l.getD ((findU nm l 0).1).toNat zMUn).2.1.2.2.2.2.2.2.1.len) (l.getD ((findU nm l 0).1).toNat zMUn).2.1.2.2.2.2.2.2.1.cap), (.int .i64 ((l.getD ((findU nm l 0).1).toNat zMUn).2.1.2.2.2.2.2.2.2.1)), (.slice (l.getD ((findU nm l 0).1).toNat zMUn).2.1.2.2.2.2.2.2.2.2.1.at' ((l.getD ((findU nm l 0).1).toNat zMUn).2.1.2.2.2.2.2.2.2.2.1.len) (l.getD ((findU nm l 0).1).toNat zMUn).2.1.2.2.2.2.2.2.2.2.1.cap), (.slice (l.getD ((findU nm l 0).1).toNat zMUn).2.1.2.2.2.2.2.2.2.2.2.1.at' ((l.getD ((findU nm l 0).1).toNat zMUn).2.1.2.2.2.2.2.2.2.2.2.1.len) (l.getD ((findU nm l 0).1).toNat zMUn).2.1.2.2.2.2.2.2.2.2.2.1.cap), (.slice (l.getD ((findU nm l 0).1).toNat zMUn).2.1.2.2.2.2.2.2.2.2.2.2.1.at' ((l.getD ((findU nm l 0).1).toNat zMUn).2.1.2.2.2.2.2.2.2.2.2.2.1.len) (l.getD ((findU nm l 0).1).toNat zMUn).2.1.2.2.2.2.2.2.2.2.2.2.1.cap), (.bool (l.getD ((findU nm l 0).1).toNat zMUn).2.1.2.2.2.2.2.2.2.2.2.2.2.1.1), (.int .u32 ((l.getD ((findU nm l 0).1).toNat zMUn).2.1.2.2.2.2.2.2.2.2.2.2.2.1.2.1)), (.int .u32 ((l.getD ((findU nm l 0).1).toNat zMUn).2.1.2.2.2.2.2.2.2.2.2.2.2.1.2.2.1)), (.int .u32 ((l.getD ((findU nm l 0).1).toNat zMUn).2.1.2.2.2.2.2.2.2.2.2.2.2.1.2.2.2.1)), (.int .u32 ((l.getD ((findU nm l 0).1).toNat zMUn).2.1.2.2.2.2.2.2.2.2.2.2.2.1.2.2.2.2.1)), (.slice (l.getD ((findU nm l 0).1).toNat zMUn).2.1.2.2.2.2.2.2.2.2.2.2.2.1.2.2.2.2.2.1.at' ((l.getD ((findU nm l 0).1).toNat zMUn).2.1.2.2.2.2.2.2.2.2.2.2.2.1.2.2.2.2.2.1.len) (l.getD ((findU nm l 0).1).toNat zMUn).2.1.2.2.2.2.2.2.2.2.2.2.2.1.2.2.2.2.2.1.cap)]) := h0
          obtain ⟨ea1, ec1, h1, hr1⟩ := h1
          rw [h1] at hr1
          obtain ⟨ea2, ec2, h3⟩ := h3
          skip
          replace hb := hb.trans (hC.mono hb.size)
          replace hk1 := blk_ext hk1 hC
          replace hk3 := blk_ext hk3 hC
          replace hk7 := blk_ext hk7 hC
          exact Runs.does (r_assign (v := V 1) rfl) ⟨Below.refl _ _, (by simp only [h1, bk_slice, bk_ptr]), nofr rfl⟩
        trivial
      · skip
        clear hf fa; intro V w9 fa he5 hp hnb hf
        have hv0 : V 0 = (.agg #[(.slice (l.getD ((findU nm l 0).1).toNat zMUn).2.1.1.at' ((l.getD ((findU nm l 0).1).toNat zMUn).2.1.1.len) (l.getD ((findU nm l 0).1).toNat zMUn).2.1.1.cap), (.slice (l.getD ((findU nm l 0).1).toNat zMUn).2.1.2.1.at' ((l.getD ((findU nm l 0).1).toNat zMUn).2.1.2.1.len) (l.getD ((findU nm l 0).1).toNat zMUn).2.1.2.1.cap), (.slice (l.getD ((findU nm l 0).1).toNat zMUn).2.1.2.2.1.at' ((l.getD ((findU nm l 0).1).toNat zMUn).2.1.2.2.1.len) (l.getD ((findU nm l 0).1).toNat zMUn).2.1.2.2.1.cap), (.slice (l.getD ((findU nm l 0).1).toNat zMUn).2.1.2.2.2.1.at' ((l.getD ((findU nm l 0).1).toNat zMUn).2.1.2.2.2.1.len) (l.getD ((findU nm l 0).1).toNat zMUn).2.1.2.2.2.1.cap), (.slice (l.getD ((findU nm l 0).1).toNat zMUn).2.1.2.2.2.2.1.at' ((l.getD ((findU nm l 0).1).toNat zMUn).2.1.2.2.2.2.1.len) (l.getD ((findU nm l 0).1).toNat zMUn).2.1.2.2.2.2.1.cap), (.slice (l.getD ((findU nm l 0).1).toNat zMUn).2.1.2.2.2.2.2.1.at' ((l.getD ((findU nm l 0).1).toNat zMUn).2.1.2.2.2.2.2.1.len) (l.getD ((findU nm l 0).1).toNat zMUn).2.1.2.2.2.2.2.1.cap), (.slice (l.getD ((findU nm l 0).1).toNat zMUn).2.1.2.2.2.2.2.2.1.at' ((l.getD ((findU nm l 0).1).toNat zMUn).2.1.2.2.2.2.2.2.1.len) (l.getD ((findU nm l 0).1).toNat zMUn).2.1.2.2.2.2.2.2.1.cap), (.int .i64 ((l.getD ((findU nm l 0).1).toNat zMUn).2.1.2.2.2.2.2.2.2.1)), (.slice (l.getD ((findU nm l 0).1).toNat zMUn).2.1.2.2.2.2.2.2.2.2.1.at' ((l.getD ((findU nm l 0).1).toNat zMUn).2.1.2.2.2.2.2.2.2.2.1.len) (l.getD ((findU nm l 0).1).toNat zMUn).2.1.2.2.2.2.2.2.2.2.1.cap), (.slice (l.getD ((findU nm l 0).1).toNat zMUn).2.1.2.2.2.2.2.2.2.2.2.1.at' ((l.getD ((findU nm l 0).1).toNat zMUn).2.1.2.2.2.2.2.2.2.2.2.1.len) (l.getD ((findU nm l 0).1).toNat zMUn).2.1.2.2.2.2.2.2.2.2.2.1.cap), (.slice (l.getD ((findU nm l 0).1).toNat zMUn).2.1.2.2.2.2.2.2.2.2.2.2.1.at' ((l.getD ((findU nm l 0).1).toNat zMUn).2.1.2.2.2.2.2.2.2.2.2.2.1.len) (l.getD ((findU nm l 0).1).toNat zMUn).2.1.2.2.2.2.2.2.2.2.2.2.1.cap), (.bool (l.getD ((findU nm l 0).1).toNat zMUn).2.1.2.2.2.2.2.2.2.2.2.2.2.1.1), (.int .u32 ((l.getD ((findU nm l 0).1).toNat zMUn).2.1.2.2.2.2.2.2.2.2.2.2.2.1.2.1)), (.int .u32 ((l.getD ((findU nm l 0).1).toNat zMUn).2.1.2.2.2.2.2.2.2.2.2.2.2.1.2.2.1)), (.int .u32 ((l.getD ((findU nm l 0).1).toNat zMUn).2.1.2.2.2.2.2.2.2.2.2.2.2.1.2.2.2.1)), (.int .u32 ((l.getD ((findU nm l 0).1).toNat zMUn).2.1.2.2.2.2.2.2.2.2.2.2.2.1.2.2.2.2.1)), (.slice (l.getD ((findU nm l 0).1).toNat zMUn).2.1.2.2.2.2.2.2.2.2.2.2.2.1.2.2.2.2.2.1.at' ((l.getD ((findU nm l 0).1).toNat zMUn).2.1.2.2.2.2.2.2.2.2.2.2.2.1.2.2.2.2.2.1.len) (l.getD ((findU nm l 0).1).toNat zMUn).2.1.2.2.2.2.2.2.2.2.2.2.2.1.2.2.2.2.2.1.cap)]) := postsHold_at hp 0 rfl
        have hv1 := postsHold_at hp 1 rfl
        obtain ⟨ea1, ec1, hv1, hr1⟩ := hv1
        rw [hv1] at hr1
        have hv2 : V 2 = (.agg #[(.slice (l.getD ((findU nm l 0).1).toNat zMUn).2.1.1.at' ((l.getD ((findU nm l 0).1).toNat zMUn).2.1.1.len) (l.getD ((findU nm l 0).1).toNat zMUn).2.1.1.cap), (.slice (l.getD ((findU nm l 0).1).toNat zMUn).2.1.2.1.at' ((l.getD ((findU nm l 0).1).toNat zMUn).2.1.2.1.len) (l.getD ((findU nm l 0).1).toNat zMUn).2.1.2.1.cap), (.slice (l.getD ((findU nm l 0).1).toNat zMUn).2.1.2.2.1.at' ((l.getD ((findU nm l 0).1).toNat zMUn).2.1.2.2.1.len) (l.getD ((findU nm l 0).1).toNat zMUn).2.1.2.2.1.cap), (.slice (l.getD ((findU nm l 0).1).toNat zMUn).2.1.2.2.2.1.at' ((l.getD ((findU nm l 0).1).toNat zMUn).2.1.2.2.2.1.len) (l.getD ((findU nm l 0).1).toNat zMUn).2.1.2.2.2.1.cap), (.slice (l.getD ((findU nm l 0).1).toNat zMUn).2.1.2.2.2.2.1.at' ((l.getD ((findU nm l 0).1).toNat zMUn).2.1.2.2.2.2.1.len) (l.getD ((findU nm l 0).1).toNat zMUn).2.1.2.2.2.2.1.cap), (.slice (l.getD ((findU nm l 0).1).toNat zMUn).2.1.2.2.2.2.2.1.at' ((l.getD ((findU nm l 0).1).toNat zMUn).2.1.2.2.2.2.2.1.len) (l.getD ((findU nm l 0).1).toNat zMUn).2.1.2.2.2.2.2.1.cap), (.slice (l.getD ((findU nm l 0).1).toNat zMUn).2.1.2.2.2.2.2.2.1.at' ((l.getD ((findU nm l 0).1).toNat zMUn).2.1.2.2.2.2.2.2.1.len) (l.getD ((findU nm l 0).1).toNat zMUn).2.1.2.2.2.2.2.2.1.cap), (.int .i64 ((l.getD ((findU nm l 0).1).toNat zMUn).2.1.2.2.2.2.2.2.2.1)), (.slice (l.getD ((findU nm l 0).1).toNat zMUn).2.1.2.2.2.2.2.2.2.2.1.at' ((l.getD ((findU nm l 0).1).toNat zMUn).2.1.2.2.2.2.2.2.2.2.1.len) (l.getD ((findU nm l 0).1).toNat zMUn).2.1.2.2.2.2.2.2.2.2.1.cap), (.slice (l.getD ((findU nm l 0).1).toNat zMUn).2.1.2.2.2.2.2.2.2.2.2.1.at' ((l.getD ((findU nm l 0).1).toNat zMUn).2.1.2.2.2.2.2.2.2.2.2.1.len) (l.getD ((findU nm l 0).1).toNat zMUn).2.1.2.2.2.2.2.2.2.2.2.1.cap), (.slice (l.getD ((findU nm l 0).1).toNat zMUn).2.1.2.2.2.2.2.2.2.2.2.2.1.at' ((l.getD ((findU nm l 0).1).toNat zMUn).2.1.2.2.2.2.2.2.2.2.2.2.1.len) (l.getD ((findU nm l 0).1).toNat zMUn).2.1.2.2.2.2.2.2.2.2.2.2.1.cap), (.bool (l.getD ((findU nm l 0).1).toNat zMUn).2.1.2.2.2.2.2.2.2.2.2.2.2.1.1), (.int .u32 ((l.getD ((findU nm l 0).1).toNat zMUn).2.1.2.2.2.2.2.2.2.2.2.2.2.1.2.1)), (.int .u32 ((l.getD ((findU nm l 0).1).toNat zMUn).2.1.2.2.2.2.2.2.2.2.2.2.2.1.2.2.1)), (.int .u32 ((l.getD ((findU nm l 0).1).toNat zMUn).2.1.2.2.2.2.2.2.2.2.2.2.2.1.2.2.2.1)), (.int .u32 ((l.getD ((findU nm l 0).1).toNat zMUn).2.1.2.2.2.2.2.2.2.2.2.2.2.1.2.2.2.2.1)), (.slice (l.getD ((findU nm l 0).1).toNat zMUn).2.1.2.2.2.2.2.2.2.2.2.2.2.1.2.2.2.2.2.1.at' ((l.getD ((findU nm l 0).1).toNat zMUn).2.1.2.2.2.2.2.2.2.2.2.2.2.1.2.2.2.2.2.1.len) (l.getD ((findU nm l 0).1).toNat zMUn).2.1.2.2.2.2.2.2.2.2.2.2.2.1.2.2.2.2.2.1.cap)]) := postsHold_at hp 2 rfl
        have hv3 := postsHold_at hp 3 rfl
        obtain ⟨ea2, ec2, hv3⟩ := hv3
        skip
        have hv4 : V 4 = (.int .i64 (((gtT (l.getD ((findU nm l 0).1).toNat zMUn).2.1.2.1.list).length : Nat) : Int)) := postsHold_at hp 4 rfl
        have hv5 : V 5 = V 1 := postsHold_at hp 5 rfl
        simp only [hv1, bk_slice, bk_ptr] at hv5
        simp only [List.take_succ_cons, List.take_zero, insAll, ins, hv0, hv1, hv2, hv3, hv4, hv5] at hf
        clear hp hnb hv0 hv1 hv2 hv3 hv4 hv5
        replace hk1 := blk_ext hk1 he5
        replace hk3 := blk_ext hk3 he5
        replace hk7 := blk_ext hk7 he5
        replace hb := hb.trans (Below.mono he5 hb.size)
        simp only [List.drop_succ_cons, List.drop_zero]
        refine sqv hf (r_assign rfl) rfl rfl rfl ?_; clear hf fa; intro fa hf
        apply wpList_nil
        (try simp only [Exit.then, Exit.inBlock, ↓reduceIte, Nat.reduceEqDiff])
        refine hK9 _ _ ?_
        refine wp_seq_k (fun K10 hK10 => ?_)
        refine wp_seq_k (fun K11 hK11 => ?_)
        by_cases hsp1 : ((findU nm l 0).2.1.2.2.1).toNat < (gtypesP (l.getD ((findU nm l 0).1).toNat zMUn).2.1).length
        · have hsp1b : decide (((findU nm l 0).2.1.2.2.1).toNat < (gtypesP (l.getD ((findU nm l 0).1).toNat zMUn).2.1).length) = true := decide_eq_true hsp1
          refine wp_region_lit ?_
          refine sqv hf (r_fa rfl Try.underlying94 (f := 2) (q := 2) rfl (by kernel_rfl) rfl) rfl rfl rfl ?_; clear hf fa; intro fa hf
          refine sqv hf (r_load (v := (.int .u32 ((findU nm l 0).2.1.2.2.1))) rfl Try.underlying44 rfl (cell_blk hk3 rfl)) rfl rfl rfl ?_; clear hf fa; intro fa hf
          refine sqv hf (r_conv (C := ((findU nm l 0).2.1.2.2.1)) rfl Try.underlying44 Try.underlying36 (by rw [IntKind.wrap_u64]; omega)) rfl rfl rfl ?_; clear hf fa; intro fa hf
          refine sqv hf (r_move rfl) rfl rfl rfl ?_; clear hf fa; intro fa hf
          refine sqv hf (r_lensl rfl Try.underlying153) rfl rfl rfl ?_; clear hf fa; intro fa hf
          refine sqv hf (r_conv (C := ((((gtypesP (l.getD ((findU nm l 0).1).toNat zMUn).2.1)).length : Nat) : Int)) rfl Try.underlying3 Try.underlying36 (by rw [IntKind.wrap_u64]; omega)) rfl rfl rfl ?_; clear hf fa; intro fa hf
          refine sqv hf (r_ge rfl rfl) rfl rfl rfl ?_; clear hf fa; intro fa hf
          refine sqv hf (r_move rfl) rfl rfl rfl ?_; clear hf fa; intro fa hf
          refine sqgF (act := (!(decide (((((gtypesP (l.getD ((findU nm l 0).1).toNat zMUn).2.1)).length : Nat) : Int) ≤ ((findU nm l 0).2.1.2.2.1))))) (ag := true) (c := (decide (((((gtypesP (l.getD ((findU nm l 0).1).toNat zMUn).2.1)).length : Nat) : Int) ≤ ((findU nm l 0).2.1.2.2.1)))) (v := (.pointer (some ⟨b2, 2, none⟩))) hf rfl rfl rfl (fun hact => (r_fa rfl Try.underlying94 (f := 2) (q := 2) rfl (by kernel_rfl) rfl)) rfl rfl ?_; clear hf fa; intro fa hf
          refine sqgF (act := (!(decide (((((gtypesP (l.getD ((findU nm l 0).1).toNat zMUn).2.1)).length : Nat) : Int) ≤ ((findU nm l 0).2.1.2.2.1))))) (ag := true) (c := (decide (((((gtypesP (l.getD ((findU nm l 0).1).toNat zMUn).2.1)).length : Nat) : Int) ≤ ((findU nm l 0).2.1.2.2.1)))) (v := (.int .u32 ((findU nm l 0).2.1.2.2.1))) hf rfl rfl rfl (fun hact => (r_load (v := (.int .u32 ((findU nm l 0).2.1.2.2.1))) (gb_ev hact rfl) Try.underlying44 rfl (cell_blk hk3 rfl))) rfl rfl ?_; clear hf fa; intro fa hf
          refine sqgF (act := (!(decide (((((gtypesP (l.getD ((findU nm l 0).1).toNat zMUn).2.1)).length : Nat) : Int) ≤ ((findU nm l 0).2.1.2.2.1))))) (ag := true) (c := (decide (((((gtypesP (l.getD ((findU nm l 0).1).toNat zMUn).2.1)).length : Nat) : Int) ≤ ((findU nm l 0).2.1.2.2.1)))) (v := (.int .u64 ((findU nm l 0).2.1.2.2.1))) hf rfl rfl rfl (fun hact => (by have hact0 := hact; (try simp only [Bool.and_eq_true, Bool.not_eq_true', Bool.or_eq_false_iff, Bool.or_eq_true, Bool.and_eq_false_iff, ne_eq, decide_eq_true_eq, decide_eq_false_iff_not] at hact0); exact (r_conv (C := ((findU nm l 0).2.1.2.2.1)) (gb_ev hact rfl) Try.underlying44 Try.underlying36 (by rw [IntKind.wrap_u64]; omega)))) rfl rfl ?_; clear hf fa; intro fa hf
          refine sqgF (act := (!(decide (((((gtypesP (l.getD ((findU nm l 0).1).toNat zMUn).2.1)).length : Nat) : Int) ≤ ((findU nm l 0).2.1.2.2.1))))) (ag := true) (c := (decide (((((gtypesP (l.getD ((findU nm l 0).1).toNat zMUn).2.1)).length : Nat) : Int) ≤ ((findU nm l 0).2.1.2.2.1)))) (v := (.int .i64 (((gtT (l.getD ((findU nm l 0).1).toNat zMUn).2.1.2.1.list).length : Nat) : Int))) hf rfl rfl rfl (fun hact => (r_move rfl)) rfl rfl ?_; clear hf fa; intro fa hf
          refine sqgF (act := (!(decide (((((gtypesP (l.getD ((findU nm l 0).1).toNat zMUn).2.1)).length : Nat) : Int) ≤ ((findU nm l 0).2.1.2.2.1))))) (ag := true) (c := (decide (((((gtypesP (l.getD ((findU nm l 0).1).toNat zMUn).2.1)).length : Nat) : Int) ≤ ((findU nm l 0).2.1.2.2.1)))) (v := (.int .u64 (((gtT (l.getD ((findU nm l 0).1).toNat zMUn).2.1.2.1.list).length : Nat) : Int))) hf rfl rfl rfl (fun hact => (by have hact0 := hact; (try simp only [Bool.and_eq_true, Bool.not_eq_true', Bool.or_eq_false_iff, Bool.or_eq_true, Bool.and_eq_false_iff, ne_eq, decide_eq_true_eq, decide_eq_false_iff_not] at hact0); exact (r_conv (C := (((gtT (l.getD ((findU nm l 0).1).toNat zMUn).2.1.2.1.list).length : Nat) : Int)) (gb_ev hact rfl) Try.underlying3 Try.underlying36 (by rw [IntKind.wrap_u64]; omega)))) rfl rfl ?_; clear hf fa; intro fa hf
          refine sqgF (act := (!(decide (((((gtypesP (l.getD ((findU nm l 0).1).toNat zMUn).2.1)).length : Nat) : Int) ≤ ((findU nm l 0).2.1.2.2.1))))) (ag := true) (c := (decide (((((gtypesP (l.getD ((findU nm l 0).1).toNat zMUn).2.1)).length : Nat) : Int) ≤ ((findU nm l 0).2.1.2.2.1)))) (v := (.bool (decide (((findU nm l 0).2.1.2.2.1) < (((gtT (l.getD ((findU nm l 0).1).toNat zMUn).2.1.2.1.list).length : Nat) : Int))))) hf rfl rfl rfl (fun hact => (r_lt (gb_ev hact rfl) (gb_ev hact rfl))) rfl rfl ?_; clear hf fa; intro fa hf
          refine sqv hf (r_pickO (b := (decide (((((gtypesP (l.getD ((findU nm l 0).1).toNat zMUn).2.1)).length : Nat) : Int) ≤ ((findU nm l 0).2.1.2.2.1)))) (e := (decide (((findU nm l 0).2.1.2.2.1) < (((gtT (l.getD ((findU nm l 0).1).toNat zMUn).2.1.2.1.list).length : Nat) : Int)))) rfl rfl rfl) rfl rfl rfl ?_; clear hf fa; intro fa hf
          refine sqv hf (r_move rfl) rfl rfl rfl ?_; clear hf fa; intro fa hf
          refine sqgF (act := (!((decide (((((gtypesP (l.getD ((findU nm l 0).1).toNat zMUn).2.1)).length : Nat) : Int) ≤ ((findU nm l 0).2.1.2.2.1))) || (decide (((findU nm l 0).2.1.2.2.1) < (((gtT (l.getD ((findU nm l 0).1).toNat zMUn).2.1.2.1.list).length : Nat) : Int)))))) (ag := true) (c := ((decide (((((gtypesP (l.getD ((findU nm l 0).1).toNat zMUn).2.1)).length : Nat) : Int) ≤ ((findU nm l 0).2.1.2.2.1))) || (decide (((findU nm l 0).2.1.2.2.1) < (((gtT (l.getD ((findU nm l 0).1).toNat zMUn).2.1.2.1.list).length : Nat) : Int))))) (v := (.slice ea1 (((gtypesP (l.getD ((findU nm l 0).1).toNat zMUn).2.1)).length) ec1)) hf rfl rfl rfl (fun hact => (r_move rfl)) rfl rfl ?_; clear hf fa; intro fa hf
          refine sqgF (act := (!((decide (((((gtypesP (l.getD ((findU nm l 0).1).toNat zMUn).2.1)).length : Nat) : Int) ≤ ((findU nm l 0).2.1.2.2.1))) || (decide (((findU nm l 0).2.1.2.2.1) < (((gtT (l.getD ((findU nm l 0).1).toNat zMUn).2.1.2.1.list).length : Nat) : Int)))))) (ag := true) (c := ((decide (((((gtypesP (l.getD ((findU nm l 0).1).toNat zMUn).2.1)).length : Nat) : Int) ≤ ((findU nm l 0).2.1.2.2.1))) || (decide (((findU nm l 0).2.1.2.2.1) < (((gtT (l.getD ((findU nm l 0).1).toNat zMUn).2.1.2.1.list).length : Nat) : Int))))) (v := (.pointer (some ⟨b2, 2, none⟩))) hf rfl rfl rfl (fun hact => (r_fa rfl Try.underlying94 (f := 2) (q := 2) rfl (by kernel_rfl) rfl)) rfl rfl ?_; clear hf fa; intro fa hf
          refine sqgF (act := (!((decide (((((gtypesP (l.getD ((findU nm l 0).1).toNat zMUn).2.1)).length : Nat) : Int) ≤ ((findU nm l 0).2.1.2.2.1))) || (decide (((findU nm l 0).2.1.2.2.1) < (((gtT (l.getD ((findU nm l 0).1).toNat zMUn).2.1.2.1.list).length : Nat) : Int)))))) (ag := true) (c := ((decide (((((gtypesP (l.getD ((findU nm l 0).1).toNat zMUn).2.1)).length : Nat) : Int) ≤ ((findU nm l 0).2.1.2.2.1))) || (decide (((findU nm l 0).2.1.2.2.1) < (((gtT (l.getD ((findU nm l 0).1).toNat zMUn).2.1.2.1.list).length : Nat) : Int))))) (v := (.int .u32 ((findU nm l 0).2.1.2.2.1))) hf rfl rfl rfl (fun hact => (r_load (v := (.int .u32 ((findU nm l 0).2.1.2.2.1))) (gb_ev hact rfl) Try.underlying44 rfl (cell_blk hk3 rfl))) rfl rfl ?_; clear hf fa; intro fa hf
          obtain ⟨rb1, rfl, hbbrb1, hlbrb1⟩ := Row.some hr1 (by first | omega | (simp only [Sl.list_length, List.length_set, List.length_take, List.length_drop, List.length_append, List.length_replicate, List.length_cons, List.length_nil]; omega))
          have hy2 := getD_at (l := (gtypesP (l.getD ((findU nm l 0).1).toNat zMUn).2.1)) (j := ((findU nm l 0).2.1.2.2.1).toNat) zMGt (by first | omega | (simp only [Sl.list_length, List.length_set, List.length_take, List.length_drop, List.length_append, List.length_replicate, List.length_cons, List.length_nil]; omega))
          have hel2 := RdS.at (Row.rd (by intros; rfl) hr1) hy2
          obtain ⟨_, _, hab, hlr1, hel2⟩ := hel2
          cases hab
          refine sqgF (act := (!((decide (((((gtypesP (l.getD ((findU nm l 0).1).toNat zMUn).2.1)).length : Nat) : Int) ≤ ((findU nm l 0).2.1.2.2.1))) || (decide (((findU nm l 0).2.1.2.2.1) < (((gtT (l.getD ((findU nm l 0).1).toNat zMUn).2.1.2.1.list).length : Nat) : Int)))))) (ag := true) (c := ((decide (((((gtypesP (l.getD ((findU nm l 0).1).toNat zMUn).2.1)).length : Nat) : Int) ≤ ((findU nm l 0).2.1.2.2.1))) || (decide (((findU nm l 0).2.1.2.2.1) < (((gtT (l.getD ((findU nm l 0).1).toNat zMUn).2.1.2.1.list).length : Nat) : Int))))) (v := (.pointer (some ⟨rb1, (0 + ((findU nm l 0).2.1.2.2.1).toNat * 2), none⟩))) hf rfl rfl rfl (fun hact => (by have hact0 := hact; (try simp only [Bool.and_eq_true, Bool.not_eq_true', Bool.or_eq_false_iff, Bool.or_eq_true, Bool.and_eq_false_iff, ne_eq, decide_eq_true_eq, decide_eq_false_iff_not] at hact0); exact (r_ixa (sz := 2) (j := ((findU nm l 0).2.1.2.2.1).toNat) (gb_ev hact rfl) (gb_ev hact rfl) Try.underlying153 (by kernel_rfl) (by omega) (by omega) rfl))) rfl rfl ?_; clear hf fa; intro fa hf
          refine sqgF (act := (!((decide (((((gtypesP (l.getD ((findU nm l 0).1).toNat zMUn).2.1)).length : Nat) : Int) ≤ ((findU nm l 0).2.1.2.2.1))) || (decide (((findU nm l 0).2.1.2.2.1) < (((gtT (l.getD ((findU nm l 0).1).toNat zMUn).2.1.2.1.list).length : Nat) : Int)))))) (ag := true) (c := ((decide (((((gtypesP (l.getD ((findU nm l 0).1).toNat zMUn).2.1)).length : Nat) : Int) ≤ ((findU nm l 0).2.1.2.2.1))) || (decide (((findU nm l 0).2.1.2.2.1) < (((gtT (l.getD ((findU nm l 0).1).toNat zMUn).2.1.2.1.list).length : Nat) : Int))))) (v := (.agg #[(.int .u8 (((gtypesP (l.getD ((findU nm l 0).1).toNat zMUn).2.1).getD ((findU nm l 0).2.1.2.2.1).toNat zMGt).1)), (.bool ((gtypesP (l.getD ((findU nm l 0).1).toNat zMUn).2.1).getD ((findU nm l 0).2.1.2.2.1).toNat zMGt).2.1)])) hf rfl rfl rfl (fun hact => (r_loadA (cs := [(.int .u8 (((gtypesP (l.getD ((findU nm l 0).1).toNat zMUn).2.1).getD ((findU nm l 0).2.1.2.2.1).toNat zMGt).1)), (.bool ((gtypesP (l.getD ((findU nm l 0).1).toNat zMUn).2.1).getD ((findU nm l 0).2.1.2.2.1).toNat zMGt).2.1)]) (gb_ev hact rfl) Try.underlying101 rfl (by kernel_rfl) hel2)) rfl rfl ?_; clear hf fa; intro fa hf
          refine sqgF (act := (!((decide (((((gtypesP (l.getD ((findU nm l 0).1).toNat zMUn).2.1)).length : Nat) : Int) ≤ ((findU nm l 0).2.1.2.2.1))) || (decide (((findU nm l 0).2.1.2.2.1) < (((gtT (l.getD ((findU nm l 0).1).toNat zMUn).2.1.2.1.list).length : Nat) : Int)))))) (ag := true) (c := ((decide (((((gtypesP (l.getD ((findU nm l 0).1).toNat zMUn).2.1)).length : Nat) : Int) ≤ ((findU nm l 0).2.1.2.2.1))) || (decide (((findU nm l 0).2.1.2.2.1) < (((gtT (l.getD ((findU nm l 0).1).toNat zMUn).2.1.2.1.list).length : Nat) : Int))))) (v := (.agg #[(.int .u8 (127 : Int)), (.bool false)])) hf rfl rfl rfl (fun hact => (r_build (vs := [(0, (.int .u8 (127 : Int)))]) (cs := #[(.int .u8 (127 : Int)), (.bool false)]) rfl (fun _ => by kernel_rfl))) rfl rfl ?_; clear hf fa; intro fa hf
          refine sqgF (act := (!((decide (((((gtypesP (l.getD ((findU nm l 0).1).toNat zMUn).2.1)).length : Nat) : Int) ≤ ((findU nm l 0).2.1.2.2.1))) || (decide (((findU nm l 0).2.1.2.2.1) < (((gtT (l.getD ((findU nm l 0).1).toNat zMUn).2.1.2.1.list).length : Nat) : Int)))))) (ag := true) (c := ((decide (((((gtypesP (l.getD ((findU nm l 0).1).toNat zMUn).2.1)).length : Nat) : Int) ≤ ((findU nm l 0).2.1.2.2.1))) || (decide (((findU nm l 0).2.1.2.2.1) < (((gtT (l.getD ((findU nm l 0).1).toNat zMUn).2.1.2.1.list).length : Nat) : Int))))) (v := (.bool (!((decide ((((gtypesP (l.getD ((findU nm l 0).1).toNat zMUn).2.1).getD ((findU nm l 0).2.1.2.2.1).toNat zMGt).1) = (127 : Int))) && (((gtypesP (l.getD ((findU nm l 0).1).toNat zMUn).2.1).getD ((findU nm l 0).2.1.2.2.1).toNat zMGt).2.1 == false))))) hf rfl rfl rfl (fun hact => (r_ane (k := 5) (gb_ev hact rfl) (gb_ev hact rfl) (by kernel_rfl) (eqt_struct (xs := #[(.int .u8 (((gtypesP (l.getD ((findU nm l 0).1).toNat zMUn).2.1).getD ((findU nm l 0).2.1.2.2.1).toNat zMGt).1)), (.bool ((gtypesP (l.getD ((findU nm l 0).1).toNat zMUn).2.1).getD ((findU nm l 0).2.1.2.2.1).toNat zMGt).2.1)]) (ys := #[(.int .u8 (127 : Int)), (.bool false)]) Try.underlying101 (by kernel_rfl) (eqf_cons (by kernel_rfl) (fun _ => by kernel_rfl) (fun _ => by kernel_rfl) (eqt_int (kk := .u8) (a := (((gtypesP (l.getD ((findU nm l 0).1).toNat zMUn).2.1).getD ((findU nm l 0).2.1.2.2.1).toNat zMGt).1)) (b := (127 : Int)) Try.underlying5) (eqf_one (by kernel_rfl) (fun _ => by kernel_rfl) (fun _ => by kernel_rfl) (eqt_bool (a := ((gtypesP (l.getD ((findU nm l 0).1).toNat zMUn).2.1).getD ((findU nm l 0).2.1.2.2.1).toNat zMGt).2.1) (b := false) Try.underlying4)))) rfl)) rfl rfl ?_; clear hf fa; intro fa hf
          refine sqv hf (r_pickO (b := ((decide (((((gtypesP (l.getD ((findU nm l 0).1).toNat zMUn).2.1)).length : Nat) : Int) ≤ ((findU nm l 0).2.1.2.2.1))) || (decide (((findU nm l 0).2.1.2.2.1) < (((gtT (l.getD ((findU nm l 0).1).toNat zMUn).2.1.2.1.list).length : Nat) : Int))))) (e := (!((decide ((((gtypesP (l.getD ((findU nm l 0).1).toNat zMUn).2.1).getD ((findU nm l 0).2.1.2.2.1).toNat zMGt).1) = (127 : Int))) && (((gtypesP (l.getD ((findU nm l 0).1).toNat zMUn).2.1).getD ((findU nm l 0).2.1.2.2.1).toNat zMGt).2.1 == false)))) rfl rfl rfl) rfl rfl rfl ?_; clear hf fa; intro fa hf
          apply wpList_nil
          (try simp only [Exit.then, Exit.inBlock, ↓reduceIte, Nat.reduceEqDiff])
          refine hK11 _ _ ?_
          refine wp_cond_split (t := (((decide (((((gtypesP (l.getD ((findU nm l 0).1).toNat zMUn).2.1)).length : Nat) : Int) ≤ ((findU nm l 0).2.1.2.2.1))) || (decide (((findU nm l 0).2.1.2.2.1) < (((gtT (l.getD ((findU nm l 0).1).toNat zMUn).2.1.2.1.list).length : Nat) : Int)))) || (!((decide ((((gtypesP (l.getD ((findU nm l 0).1).toNat zMUn).2.1).getD ((findU nm l 0).2.1.2.2.1).toNat zMGt).1) = (127 : Int))) && (((gtypesP (l.getD ((findU nm l 0).1).toNat zMUn).2.1).getD ((findU nm l 0).2.1.2.2.1).toNat zMGt).2.1 == false))))) (hf.ev rfl) (fun hqt61_1 => ?_) (fun hqt61_1 => ?_)
          · have hqt61_1b := hqt61_1
            try simp only [decide_eq_true_eq, Bool.and_eq_true, Bool.or_eq_true, Bool.not_eq_true', decide_eq_false_iff_not, ne_eq, Bool.not_eq_true] at hqt61_1
            refine wp_seq_k (fun K12 hK12 => ?_)
            refine wp_region_lit ?_
            refine sqv hf (r_build (vs := []) (cs := #[(.int .i64 (0 : Int)), (.int .u32 (0 : Int))]) rfl (fun _ => by kernel_rfl)) rfl rfl rfl ?_; clear hf fa; intro fa hf
            refine sqn hf (d_storeK (T := 49) (v := (.agg #[(.int .i64 (0 : Int)), (.int .u32 (0 : Int))])) (cs := #[(.int .i64 (0 : Int)), (.int .u32 (0 : Int))]) (cs' := #[(.int .i64 (0 : Int)), (.int .u32 (0 : Int))]) rfl rfl (by kernel_rfl) (by kernel_rfl) hk1 (by kernel_rfl) (by kernel_rfl)) rfl rfl ?_; clear hf fa; rintro fa _ w10 ⟨hk8, hg5⟩ hf
            replace hk3 := blk_grown hk3 hg5 (by omega)
            replace hk7 := blk_grown hk7 hg5 (by omega)
            replace hr1 := Row.grown hr1 hg5 (Row.ne_type hr1 hk1 rfl)
            replace hb := hb.trans (grown_below hg5 hb.size hBb1)
            refine sqv hf (r_assign rfl) rfl rfl rfl ?_; clear hf fa; intro fa hf
            apply wpList_nil
            (try simp only [Exit.then, Exit.inBlock, ↓reduceIte, Nat.reduceEqDiff])
            refine hK12 _ _ ?_
            refine wp_ret ?_
            (try simp only [Exit.then, Exit.inBlock])
            refine retCT hf rfl rfl hk8 Try.underlying49 rfl (by kernel_rfl) rfl ?_
            refine ⟨?_, hb⟩; unfold dataP; rw [hqt19_1b, hqt23_1b, hsp1b, hqt61_1b]; (try rfl)
          · have hqt61_1b := hqt61_1
            replace hqt61_1 := Bool.eq_false_iff.1 hqt61_1
            try simp only [ne_eq, decide_eq_true_eq, Bool.and_eq_true, Bool.or_eq_true, Bool.not_eq_true', decide_eq_false_iff_not] at hqt61_1
            refine wp_skip ?_
            (try simp only [Exit.then, Exit.inBlock, ↓reduceIte, Nat.reduceEqDiff])
            refine hK10 _ _ ?_
            refine wp_seq_k (fun K13 hK13 => ?_)
            refine wp_region_lit ?_
            refine sqv hf (r_move rfl) rfl rfl rfl ?_; clear hf fa; intro fa hf
            refine sqv hf (r_fa rfl Try.underlying94 (f := 2) (q := 2) rfl (by kernel_rfl) rfl) rfl rfl rfl ?_; clear hf fa; intro fa hf
            refine sqv hf (r_load (v := (.int .u32 ((findU nm l 0).2.1.2.2.1))) rfl Try.underlying44 rfl (cell_blk hk3 rfl)) rfl rfl rfl ?_; clear hf fa; intro fa hf
            refine sqv hf (r_build (vs := [(0, (.int .i64 ((findU nm l 0).1))), (1, (.int .u32 ((findU nm l 0).2.1.2.2.1)))]) (cs := #[(.int .i64 ((findU nm l 0).1)), (.int .u32 ((findU nm l 0).2.1.2.2.1))]) rfl (fun _ => by kernel_rfl)) rfl rfl rfl ?_; clear hf fa; intro fa hf
            refine sqn hf (d_storeK (T := 49) (v := (.agg #[(.int .i64 ((findU nm l 0).1)), (.int .u32 ((findU nm l 0).2.1.2.2.1))])) (cs := #[(.int .i64 (0 : Int)), (.int .u32 (0 : Int))]) (cs' := #[(.int .i64 ((findU nm l 0).1)), (.int .u32 ((findU nm l 0).2.1.2.2.1))]) rfl rfl (by kernel_rfl) (by kernel_rfl) hk1 (by kernel_rfl) (by kernel_rfl)) rfl rfl ?_; clear hf fa; rintro fa _ w11 ⟨hk9, hg6⟩ hf
            replace hk3 := blk_grown hk3 hg6 (by omega)
            replace hk7 := blk_grown hk7 hg6 (by omega)
            replace hr1 := Row.grown hr1 hg6 (Row.ne_type hr1 hk1 rfl)
            replace hb := hb.trans (grown_below hg6 hb.size hBb1)
            refine sqv hf (r_assign rfl) rfl rfl rfl ?_; clear hf fa; intro fa hf
            apply wpList_nil
            (try simp only [Exit.then, Exit.inBlock, ↓reduceIte, Nat.reduceEqDiff])
            refine hK13 _ _ ?_
            refine wp_ret ?_
            (try simp only [Exit.then, Exit.inBlock])
            refine retCT hf rfl rfl hk9 Try.underlying49 rfl (by kernel_rfl) rfl ?_
            refine ⟨?_, hb⟩; unfold dataP; rw [hqt19_1b, hqt23_1b, hsp1b, hqt61_1b]; (try rfl)
        · have hsp1b : decide (((findU nm l 0).2.1.2.2.1).toNat < (gtypesP (l.getD ((findU nm l 0).1).toNat zMUn).2.1).length) = false := decide_eq_false hsp1
          refine wp_region_lit ?_
          refine sqv hf (r_fa rfl Try.underlying94 (f := 2) (q := 2) rfl (by kernel_rfl) rfl) rfl rfl rfl ?_; clear hf fa; intro fa hf
          refine sqv hf (r_load (v := (.int .u32 ((findU nm l 0).2.1.2.2.1))) rfl Try.underlying44 rfl (cell_blk hk3 rfl)) rfl rfl rfl ?_; clear hf fa; intro fa hf
          refine sqv hf (r_conv (C := ((findU nm l 0).2.1.2.2.1)) rfl Try.underlying44 Try.underlying36 (by rw [IntKind.wrap_u64]; omega)) rfl rfl rfl ?_; clear hf fa; intro fa hf
          refine sqv hf (r_move rfl) rfl rfl rfl ?_; clear hf fa; intro fa hf
          refine sqv hf (r_lensl rfl Try.underlying153) rfl rfl rfl ?_; clear hf fa; intro fa hf
          refine sqv hf (r_conv (C := ((((gtypesP (l.getD ((findU nm l 0).1).toNat zMUn).2.1)).length : Nat) : Int)) rfl Try.underlying3 Try.underlying36 (by rw [IntKind.wrap_u64]; omega)) rfl rfl rfl ?_; clear hf fa; intro fa hf
          refine sqv hf (r_ge rfl rfl) rfl rfl rfl ?_; clear hf fa; intro fa hf
          refine sqv hf (r_move rfl) rfl rfl rfl ?_; clear hf fa; intro fa hf
          refine sqgF (act := (!(decide (((((gtypesP (l.getD ((findU nm l 0).1).toNat zMUn).2.1)).length : Nat) : Int) ≤ ((findU nm l 0).2.1.2.2.1))))) (ag := true) (c := (decide (((((gtypesP (l.getD ((findU nm l 0).1).toNat zMUn).2.1)).length : Nat) : Int) ≤ ((findU nm l 0).2.1.2.2.1)))) (v := (.pointer (some ⟨b2, 2, none⟩))) hf rfl rfl rfl (fun hact => (r_fa rfl Try.underlying94 (f := 2) (q := 2) rfl (by kernel_rfl) rfl)) rfl rfl ?_; clear hf fa; intro fa hf
          refine sqgF (act := (!(decide (((((gtypesP (l.getD ((findU nm l 0).1).toNat zMUn).2.1)).length : Nat) : Int) ≤ ((findU nm l 0).2.1.2.2.1))))) (ag := true) (c := (decide (((((gtypesP (l.getD ((findU nm l 0).1).toNat zMUn).2.1)).length : Nat) : Int) ≤ ((findU nm l 0).2.1.2.2.1)))) (v := (.int .u32 ((findU nm l 0).2.1.2.2.1))) hf rfl rfl rfl (fun hact => (r_load (v := (.int .u32 ((findU nm l 0).2.1.2.2.1))) (gb_ev hact rfl) Try.underlying44 rfl (cell_blk hk3 rfl))) rfl rfl ?_; clear hf fa; intro fa hf
          refine sqgF (act := (!(decide (((((gtypesP (l.getD ((findU nm l 0).1).toNat zMUn).2.1)).length : Nat) : Int) ≤ ((findU nm l 0).2.1.2.2.1))))) (ag := true) (c := (decide (((((gtypesP (l.getD ((findU nm l 0).1).toNat zMUn).2.1)).length : Nat) : Int) ≤ ((findU nm l 0).2.1.2.2.1)))) (v := (.int .u64 ((findU nm l 0).2.1.2.2.1))) hf rfl rfl rfl (fun hact => (by have hact0 := hact; (try simp only [Bool.and_eq_true, Bool.not_eq_true', Bool.or_eq_false_iff, Bool.or_eq_true, Bool.and_eq_false_iff, ne_eq, decide_eq_true_eq, decide_eq_false_iff_not] at hact0); exact (r_conv (C := ((findU nm l 0).2.1.2.2.1)) (gb_ev hact rfl) Try.underlying44 Try.underlying36 (by rw [IntKind.wrap_u64]; omega)))) rfl rfl ?_; clear hf fa; intro fa hf
          refine sqgF (act := (!(decide (((((gtypesP (l.getD ((findU nm l 0).1).toNat zMUn).2.1)).length : Nat) : Int) ≤ ((findU nm l 0).2.1.2.2.1))))) (ag := true) (c := (decide (((((gtypesP (l.getD ((findU nm l 0).1).toNat zMUn).2.1)).length : Nat) : Int) ≤ ((findU nm l 0).2.1.2.2.1)))) (v := (.int .i64 (((gtT (l.getD ((findU nm l 0).1).toNat zMUn).2.1.2.1.list).length : Nat) : Int))) hf rfl rfl rfl (fun hact => (r_move rfl)) rfl rfl ?_; clear hf fa; intro fa hf
          refine sqgF (act := (!(decide (((((gtypesP (l.getD ((findU nm l 0).1).toNat zMUn).2.1)).length : Nat) : Int) ≤ ((findU nm l 0).2.1.2.2.1))))) (ag := true) (c := (decide (((((gtypesP (l.getD ((findU nm l 0).1).toNat zMUn).2.1)).length : Nat) : Int) ≤ ((findU nm l 0).2.1.2.2.1)))) (v := (.int .u64 (((gtT (l.getD ((findU nm l 0).1).toNat zMUn).2.1.2.1.list).length : Nat) : Int))) hf rfl rfl rfl (fun hact => (by have hact0 := hact; (try simp only [Bool.and_eq_true, Bool.not_eq_true', Bool.or_eq_false_iff, Bool.or_eq_true, Bool.and_eq_false_iff, ne_eq, decide_eq_true_eq, decide_eq_false_iff_not] at hact0); exact (r_conv (C := (((gtT (l.getD ((findU nm l 0).1).toNat zMUn).2.1.2.1.list).length : Nat) : Int)) (gb_ev hact rfl) Try.underlying3 Try.underlying36 (by rw [IntKind.wrap_u64]; omega)))) rfl rfl ?_; clear hf fa; intro fa hf
          refine sqgF (act := (!(decide (((((gtypesP (l.getD ((findU nm l 0).1).toNat zMUn).2.1)).length : Nat) : Int) ≤ ((findU nm l 0).2.1.2.2.1))))) (ag := true) (c := (decide (((((gtypesP (l.getD ((findU nm l 0).1).toNat zMUn).2.1)).length : Nat) : Int) ≤ ((findU nm l 0).2.1.2.2.1)))) (v := (.bool (decide (((findU nm l 0).2.1.2.2.1) < (((gtT (l.getD ((findU nm l 0).1).toNat zMUn).2.1.2.1.list).length : Nat) : Int))))) hf rfl rfl rfl (fun hact => (r_lt (gb_ev hact rfl) (gb_ev hact rfl))) rfl rfl ?_; clear hf fa; intro fa hf
          refine sqv hf (r_pickO (b := (decide (((((gtypesP (l.getD ((findU nm l 0).1).toNat zMUn).2.1)).length : Nat) : Int) ≤ ((findU nm l 0).2.1.2.2.1)))) (e := (decide (((findU nm l 0).2.1.2.2.1) < (((gtT (l.getD ((findU nm l 0).1).toNat zMUn).2.1.2.1.list).length : Nat) : Int)))) rfl rfl rfl) rfl rfl rfl ?_; clear hf fa; intro fa hf
          refine sqv hf (r_move rfl) rfl rfl rfl ?_; clear hf fa; intro fa hf
          refine sqgF (act := (!((decide (((((gtypesP (l.getD ((findU nm l 0).1).toNat zMUn).2.1)).length : Nat) : Int) ≤ ((findU nm l 0).2.1.2.2.1))) || (decide (((findU nm l 0).2.1.2.2.1) < (((gtT (l.getD ((findU nm l 0).1).toNat zMUn).2.1.2.1.list).length : Nat) : Int)))))) (ag := true) (c := ((decide (((((gtypesP (l.getD ((findU nm l 0).1).toNat zMUn).2.1)).length : Nat) : Int) ≤ ((findU nm l 0).2.1.2.2.1))) || (decide (((findU nm l 0).2.1.2.2.1) < (((gtT (l.getD ((findU nm l 0).1).toNat zMUn).2.1.2.1.list).length : Nat) : Int))))) (v := (.slice ea1 (((gtypesP (l.getD ((findU nm l 0).1).toNat zMUn).2.1)).length) ec1)) hf rfl rfl rfl (fun hact => (r_move rfl)) rfl rfl ?_; clear hf fa; intro fa hf
          refine sqgF (act := (!((decide (((((gtypesP (l.getD ((findU nm l 0).1).toNat zMUn).2.1)).length : Nat) : Int) ≤ ((findU nm l 0).2.1.2.2.1))) || (decide (((findU nm l 0).2.1.2.2.1) < (((gtT (l.getD ((findU nm l 0).1).toNat zMUn).2.1.2.1.list).length : Nat) : Int)))))) (ag := true) (c := ((decide (((((gtypesP (l.getD ((findU nm l 0).1).toNat zMUn).2.1)).length : Nat) : Int) ≤ ((findU nm l 0).2.1.2.2.1))) || (decide (((findU nm l 0).2.1.2.2.1) < (((gtT (l.getD ((findU nm l 0).1).toNat zMUn).2.1.2.1.list).length : Nat) : Int))))) (v := (.pointer (some ⟨b2, 2, none⟩))) hf rfl rfl rfl (fun hact => (r_fa rfl Try.underlying94 (f := 2) (q := 2) rfl (by kernel_rfl) rfl)) rfl rfl ?_; clear hf fa; intro fa hf
          refine sqgF (act := (!((decide (((((gtypesP (l.getD ((findU nm l 0).1).toNat zMUn).2.1)).length : Nat) : Int) ≤ ((findU nm l 0).2.1.2.2.1))) || (decide (((findU nm l 0).2.1.2.2.1) < (((gtT (l.getD ((findU nm l 0).1).toNat zMUn).2.1.2.1.list).length : Nat) : Int)))))) (ag := true) (c := ((decide (((((gtypesP (l.getD ((findU nm l 0).1).toNat zMUn).2.1)).length : Nat) : Int) ≤ ((findU nm l 0).2.1.2.2.1))) || (decide (((findU nm l 0).2.1.2.2.1) < (((gtT (l.getD ((findU nm l 0).1).toNat zMUn).2.1.2.1.list).length : Nat) : Int))))) (v := (.int .u32 ((findU nm l 0).2.1.2.2.1))) hf rfl rfl rfl (fun hact => (r_load (v := (.int .u32 ((findU nm l 0).2.1.2.2.1))) (gb_ev hact rfl) Try.underlying44 rfl (cell_blk hk3 rfl))) rfl rfl ?_; clear hf fa; intro fa hf
          refine sqgF (act := (!((decide (((((gtypesP (l.getD ((findU nm l 0).1).toNat zMUn).2.1)).length : Nat) : Int) ≤ ((findU nm l 0).2.1.2.2.1))) || (decide (((findU nm l 0).2.1.2.2.1) < (((gtT (l.getD ((findU nm l 0).1).toNat zMUn).2.1.2.1.list).length : Nat) : Int)))))) (ag := true) (c := ((decide (((((gtypesP (l.getD ((findU nm l 0).1).toNat zMUn).2.1)).length : Nat) : Int) ≤ ((findU nm l 0).2.1.2.2.1))) || (decide (((findU nm l 0).2.1.2.2.1) < (((gtT (l.getD ((findU nm l 0).1).toNat zMUn).2.1.2.1.list).length : Nat) : Int))))) (v := (.bool false)) hf rfl rfl rfl (fun hact => (by have hact0 := hact; (try simp only [Bool.and_eq_true, Bool.not_eq_true', Bool.or_eq_false_iff, Bool.or_eq_true, Bool.and_eq_false_iff, ne_eq, decide_eq_true_eq, decide_eq_false_iff_not] at hact0); exact (absurd hact (by simp only [Bool.not_eq_true', Bool.or_eq_false_iff, decide_eq_false_iff_not]; omega)))) rfl rfl ?_; clear hf fa; intro fa hf
          refine sqgF (act := (!((decide (((((gtypesP (l.getD ((findU nm l 0).1).toNat zMUn).2.1)).length : Nat) : Int) ≤ ((findU nm l 0).2.1.2.2.1))) || (decide (((findU nm l 0).2.1.2.2.1) < (((gtT (l.getD ((findU nm l 0).1).toNat zMUn).2.1.2.1.list).length : Nat) : Int)))))) (ag := true) (c := ((decide (((((gtypesP (l.getD ((findU nm l 0).1).toNat zMUn).2.1)).length : Nat) : Int) ≤ ((findU nm l 0).2.1.2.2.1))) || (decide (((findU nm l 0).2.1.2.2.1) < (((gtT (l.getD ((findU nm l 0).1).toNat zMUn).2.1.2.1.list).length : Nat) : Int))))) (v := (.bool false)) hf rfl rfl rfl (fun hact => (by have hact0 := hact; (try simp only [Bool.and_eq_true, Bool.not_eq_true', Bool.or_eq_false_iff, Bool.or_eq_true, Bool.and_eq_false_iff, ne_eq, decide_eq_true_eq, decide_eq_false_iff_not] at hact0); exact (absurd hact (by simp only [Bool.not_eq_true', Bool.or_eq_false_iff, decide_eq_false_iff_not]; omega)))) rfl rfl ?_; clear hf fa; intro fa hf
          refine sqgF (act := (!((decide (((((gtypesP (l.getD ((findU nm l 0).1).toNat zMUn).2.1)).length : Nat) : Int) ≤ ((findU nm l 0).2.1.2.2.1))) || (decide (((findU nm l 0).2.1.2.2.1) < (((gtT (l.getD ((findU nm l 0).1).toNat zMUn).2.1.2.1.list).length : Nat) : Int)))))) (ag := true) (c := ((decide (((((gtypesP (l.getD ((findU nm l 0).1).toNat zMUn).2.1)).length : Nat) : Int) ≤ ((findU nm l 0).2.1.2.2.1))) || (decide (((findU nm l 0).2.1.2.2.1) < (((gtT (l.getD ((findU nm l 0).1).toNat zMUn).2.1.2.1.list).length : Nat) : Int))))) (v := (.bool false)) hf rfl rfl rfl (fun hact => (by have hact0 := hact; (try simp only [Bool.and_eq_true, Bool.not_eq_true', Bool.or_eq_false_iff, Bool.or_eq_true, Bool.and_eq_false_iff, ne_eq, decide_eq_true_eq, decide_eq_false_iff_not] at hact0); exact (absurd hact (by simp only [Bool.not_eq_true', Bool.or_eq_false_iff, decide_eq_false_iff_not]; omega)))) rfl rfl ?_; clear hf fa; intro fa hf
          refine sqgF (act := (!((decide (((((gtypesP (l.getD ((findU nm l 0).1).toNat zMUn).2.1)).length : Nat) : Int) ≤ ((findU nm l 0).2.1.2.2.1))) || (decide (((findU nm l 0).2.1.2.2.1) < (((gtT (l.getD ((findU nm l 0).1).toNat zMUn).2.1.2.1.list).length : Nat) : Int)))))) (ag := true) (c := ((decide (((((gtypesP (l.getD ((findU nm l 0).1).toNat zMUn).2.1)).length : Nat) : Int) ≤ ((findU nm l 0).2.1.2.2.1))) || (decide (((findU nm l 0).2.1.2.2.1) < (((gtT (l.getD ((findU nm l 0).1).toNat zMUn).2.1.2.1.list).length : Nat) : Int))))) (v := (.bool false)) hf rfl rfl rfl (fun hact => (by have hact0 := hact; (try simp only [Bool.and_eq_true, Bool.not_eq_true', Bool.or_eq_false_iff, Bool.or_eq_true, Bool.and_eq_false_iff, ne_eq, decide_eq_true_eq, decide_eq_false_iff_not] at hact0); exact (absurd hact (by simp only [Bool.not_eq_true', Bool.or_eq_false_iff, decide_eq_false_iff_not]; omega)))) rfl rfl ?_; clear hf fa; intro fa hf
          refine sqv hf (r_pickO (b := ((decide (((((gtypesP (l.getD ((findU nm l 0).1).toNat zMUn).2.1)).length : Nat) : Int) ≤ ((findU nm l 0).2.1.2.2.1))) || (decide (((findU nm l 0).2.1.2.2.1) < (((gtT (l.getD ((findU nm l 0).1).toNat zMUn).2.1.2.1.list).length : Nat) : Int))))) (e := false) rfl rfl rfl) rfl rfl rfl ?_; clear hf fa; intro fa hf
          apply wpList_nil
          (try simp only [Exit.then, Exit.inBlock, ↓reduceIte, Nat.reduceEqDiff])
          refine hK11 _ _ ?_
          refine wp_cond_split (t := (((decide (((((gtypesP (l.getD ((findU nm l 0).1).toNat zMUn).2.1)).length : Nat) : Int) ≤ ((findU nm l 0).2.1.2.2.1))) || (decide (((findU nm l 0).2.1.2.2.1) < (((gtT (l.getD ((findU nm l 0).1).toNat zMUn).2.1.2.1.list).length : Nat) : Int)))) || false)) (hf.ev rfl) (fun hqt61_2 => ?_) (fun hqt61_2 => ?_)
          · have hqt61_2b := hqt61_2
            try simp only [decide_eq_true_eq, Bool.and_eq_true, Bool.or_eq_true, Bool.not_eq_true', decide_eq_false_iff_not, ne_eq, Bool.not_eq_true] at hqt61_2
            refine wp_seq_k (fun K14 hK14 => ?_)
            refine wp_region_lit ?_
            refine sqv hf (r_build (vs := []) (cs := #[(.int .i64 (0 : Int)), (.int .u32 (0 : Int))]) rfl (fun _ => by kernel_rfl)) rfl rfl rfl ?_; clear hf fa; intro fa hf
            refine sqn hf (d_storeK (T := 49) (v := (.agg #[(.int .i64 (0 : Int)), (.int .u32 (0 : Int))])) (cs := #[(.int .i64 (0 : Int)), (.int .u32 (0 : Int))]) (cs' := #[(.int .i64 (0 : Int)), (.int .u32 (0 : Int))]) rfl rfl (by kernel_rfl) (by kernel_rfl) hk1 (by kernel_rfl) (by kernel_rfl)) rfl rfl ?_; clear hf fa; rintro fa _ w12 ⟨hk10, hg7⟩ hf
            replace hk3 := blk_grown hk3 hg7 (by omega)
            replace hk7 := blk_grown hk7 hg7 (by omega)
            replace hr1 := Row.grown hr1 hg7 (Row.ne_type hr1 hk1 rfl)
            replace hb := hb.trans (grown_below hg7 hb.size hBb1)
            refine sqv hf (r_assign rfl) rfl rfl rfl ?_; clear hf fa; intro fa hf
            apply wpList_nil
            (try simp only [Exit.then, Exit.inBlock, ↓reduceIte, Nat.reduceEqDiff])
            refine hK14 _ _ ?_
            refine wp_ret ?_
            (try simp only [Exit.then, Exit.inBlock])
            refine retCT hf rfl rfl hk10 Try.underlying49 rfl (by kernel_rfl) rfl ?_
            refine ⟨?_, hb⟩; unfold dataP; rw [hqt19_1b, hqt23_1b, hsp1b, hqt61_2b]; (try rfl)
          · have hqt61_2b := hqt61_2
            replace hqt61_2 := Bool.eq_false_iff.1 hqt61_2
            try simp only [ne_eq, decide_eq_true_eq, Bool.and_eq_true, Bool.or_eq_true, Bool.not_eq_true', decide_eq_false_iff_not] at hqt61_2
            refine wp_skip ?_
            (try simp only [Exit.then, Exit.inBlock, ↓reduceIte, Nat.reduceEqDiff])
            refine hK10 _ _ ?_
            refine wp_seq_k (fun K15 hK15 => ?_)
            refine wp_region_lit ?_
            refine sqv hf (r_move rfl) rfl rfl rfl ?_; clear hf fa; intro fa hf
            refine sqv hf (r_fa rfl Try.underlying94 (f := 2) (q := 2) rfl (by kernel_rfl) rfl) rfl rfl rfl ?_; clear hf fa; intro fa hf
            refine sqv hf (r_load (v := (.int .u32 ((findU nm l 0).2.1.2.2.1))) rfl Try.underlying44 rfl (cell_blk hk3 rfl)) rfl rfl rfl ?_; clear hf fa; intro fa hf
            refine sqv hf (r_build (vs := [(0, (.int .i64 ((findU nm l 0).1))), (1, (.int .u32 ((findU nm l 0).2.1.2.2.1)))]) (cs := #[(.int .i64 ((findU nm l 0).1)), (.int .u32 ((findU nm l 0).2.1.2.2.1))]) rfl (fun _ => by kernel_rfl)) rfl rfl rfl ?_; clear hf fa; intro fa hf
            refine sqn hf (d_storeK (T := 49) (v := (.agg #[(.int .i64 ((findU nm l 0).1)), (.int .u32 ((findU nm l 0).2.1.2.2.1))])) (cs := #[(.int .i64 (0 : Int)), (.int .u32 (0 : Int))]) (cs' := #[(.int .i64 ((findU nm l 0).1)), (.int .u32 ((findU nm l 0).2.1.2.2.1))]) rfl rfl (by kernel_rfl) (by kernel_rfl) hk1 (by kernel_rfl) (by kernel_rfl)) rfl rfl ?_; clear hf fa; rintro fa _ w13 ⟨hk11, hg8⟩ hf
            replace hk3 := blk_grown hk3 hg8 (by omega)
            replace hk7 := blk_grown hk7 hg8 (by omega)
            replace hr1 := Row.grown hr1 hg8 (Row.ne_type hr1 hk1 rfl)
            replace hb := hb.trans (grown_below hg8 hb.size hBb1)
            refine sqv hf (r_assign rfl) rfl rfl rfl ?_; clear hf fa; intro fa hf
            apply wpList_nil
            (try simp only [Exit.then, Exit.inBlock, ↓reduceIte, Nat.reduceEqDiff])
            refine hK15 _ _ ?_
            refine wp_ret ?_
            (try simp only [Exit.then, Exit.inBlock])
            refine retCT hf rfl rfl hk11 Try.underlying49 rfl (by kernel_rfl) rfl ?_
            refine ⟨?_, hb⟩; unfold dataP; rw [hqt19_1b, hqt23_1b, hsp1b, hqt61_2b]; (try rfl)

def rdataP (d : Sl MMd) (nm : ByteArray) : Int × Int × Int :=
  bif (decide (((findRM nm d.list 0).1) < (0 : Int))) then ((0 : Int), (0 : Int), (42 : Int))
  else bif (decide ((((d.list.getD ((findRM nm d.list 0).1).toNat zMMd).2.2.2.2.2.2.1.list.getD ((findRM nm d.list 0).2).toNat zMExp).2.1) ≠ (3 : Int))) then ((0 : Int), (0 : Int), (43 : Int))
  else bif (decide ((((d.list.getD ((findRM nm d.list 0).1).toNat zMMd).2.2.2.2.2.2.1.list.getD ((findRM nm d.list 0).2).toNat zMExp).2.2.1).toNat < (gtypesP (d.list.getD ((findRM nm d.list 0).1).toNat zMMd)).length)) then bif ((((decide ((((d.list.getD ((findRM nm d.list 0).1).toNat zMMd).2.2.2.2.2.2.1.list.getD ((findRM nm d.list 0).2).toNat zMExp).2.2.1) < (((gtT (d.list.getD ((findRM nm d.list 0).1).toNat zMMd).2.1.list).length : Nat) : Int))) || (decide ((((gtypesP (d.list.getD ((findRM nm d.list 0).1).toNat zMMd)).length : Nat) : Int) ≤ (((d.list.getD ((findRM nm d.list 0).1).toNat zMMd).2.2.2.2.2.2.1.list.getD ((findRM nm d.list 0).2).toNat zMExp).2.2.1)))) || (decide ((((gtypesP (d.list.getD ((findRM nm d.list 0).1).toNat zMMd)).getD (((d.list.getD ((findRM nm d.list 0).1).toNat zMMd).2.2.2.2.2.2.1.list.getD ((findRM nm d.list 0).2).toNat zMExp).2.2.1).toNat zMGt).1) ≠ (127 : Int)))) || ((gtypesP (d.list.getD ((findRM nm d.list 0).1).toNat zMMd)).getD (((d.list.getD ((findRM nm d.list 0).1).toNat zMMd).2.2.2.2.2.2.1.list.getD ((findRM nm d.list 0).2).toNat zMExp).2.2.1).toNat zMGt).2.1) then ((0 : Int), (0 : Int), (7 : Int))
  else ((findRM nm d.list 0).1, ((d.list.getD ((findRM nm d.list 0).1).toNat zMMd).2.2.2.2.2.2.1.list.getD ((findRM nm d.list 0).2).toNat zMExp).2.2.1, (0 : Int))
  else bif ((((decide ((((d.list.getD ((findRM nm d.list 0).1).toNat zMMd).2.2.2.2.2.2.1.list.getD ((findRM nm d.list 0).2).toNat zMExp).2.2.1) < (((gtT (d.list.getD ((findRM nm d.list 0).1).toNat zMMd).2.1.list).length : Nat) : Int))) || (decide ((((gtypesP (d.list.getD ((findRM nm d.list 0).1).toNat zMMd)).length : Nat) : Int) ≤ (((d.list.getD ((findRM nm d.list 0).1).toNat zMMd).2.2.2.2.2.2.1.list.getD ((findRM nm d.list 0).2).toNat zMExp).2.2.1)))) || false) || false) then ((0 : Int), (0 : Int), (7 : Int))
  else ((findRM nm d.list 0).1, ((d.list.getD ((findRM nm d.list 0).1).toNat zMMd).2.2.2.2.2.2.1.list.getD ((findRM nm d.list 0).2).toNat zMExp).2.2.1, (0 : Int))

set_option maxHeartbeats 1000000 in
set_option maxRecDepth 100000 in
theorem rdata_any (d : Sl MMd) (nm : ByteArray) (w : World) (g : fSlW 17 296 vMMd fMMd w d) (hS : ∀ m ∈ d.list, smallP m) : Calls Try.prog 55 #[(.slice d.at' d.len d.cap), (.string nm)] w fun e w' => e = .returned (.tuple #[(.int .i64 ((rdataP d nm).1)), (.int .u32 ((rdataP d nm).2.1)), (.int .i64 ((rdataP d nm).2.2))]) ∧ Below w.heap.size w w' := by
  have hdl := g.2.1; have hdc := g.2.2.1; unfold maxLen at hdc
  refine sx_enter (L := [(0, (.slice d.at' d.len d.cap)), (1, (.string nm))]) Try.func55 rfl rfl rfl rfl (fun fa hf => ?_)
  have hb : Below w.heap.size w w := Below.refl _ _
  refine wp_seq_k (fun K1 hK1 => ?_)
  refine wp_region_lit ?_
  refine sqv hf (r_assign rfl) rfl rfl rfl ?_; clear hf fa; intro fa hf
  refine sqv hf (r_assign rfl) rfl rfl rfl ?_; clear hf fa; intro fa hf
  refine sqv hf (r_assign rfl) rfl rfl rfl ?_; clear hf fa; intro fa hf
  apply wpList_nil
  (try simp only [Exit.then, Exit.inBlock, ↓reduceIte, Nat.reduceEqDiff])
  refine hK1 _ _ ?_
  refine wp_seq_k (fun K2 hK2 => ?_)
  refine wp_region_lit ?_
  refine sqv hf (r_move rfl) rfl rfl rfl ?_; clear hf fa; intro fa hf
  refine sqv hf (r_move rfl) rfl rfl rfl ?_; clear hf fa; intro fa hf
  refine sqdt hf (d_callB (vs := [(.slice d.at' d.len d.cap), (.string nm)]) rfl Try.func50 (by kernel_rfl) (by kernel_rfl) (findRM_any d nm _ ⟨g.1, fSl_kept g.2 hb⟩)) rfl rfl rfl ?_; clear hf fa; rintro fa _ w1 ⟨rfl, he1⟩ hf
  replace hb := hb.trans (Below.mono he1 hb.size)
  refine sqv hf (r_move rfl) rfl rfl rfl ?_; clear hf fa; intro fa hf
  refine sqv hf (r_extract rfl (i := 0) rfl) rfl rfl rfl ?_; clear hf fa; intro fa hf
  refine sqv hf (r_extract rfl (i := 1) rfl) rfl rfl rfl ?_; clear hf fa; intro fa hf
  refine sqv hf (r_assign rfl) rfl rfl rfl ?_; clear hf fa; intro fa hf
  refine sqv hf (r_assign rfl) rfl rfl rfl ?_; clear hf fa; intro fa hf
  apply wpList_nil
  (try simp only [Exit.then, Exit.inBlock, ↓reduceIte, Nat.reduceEqDiff])
  refine hK2 _ _ ?_
  refine wp_seq_k (fun K3 hK3 => ?_)
  refine wp_seq_k (fun K4 hK4 => ?_)
  refine wp_region_lit ?_
  refine sqv hf (r_move rfl) rfl rfl rfl ?_; clear hf fa; intro fa hf
  refine sqv hf (r_lt rfl rfl) rfl rfl rfl ?_; clear hf fa; intro fa hf
  apply wpList_nil
  (try simp only [Exit.then, Exit.inBlock, ↓reduceIte, Nat.reduceEqDiff])
  refine hK4 _ _ ?_
  refine wp_cond_split (t := (decide (((findRM nm d.list 0).1) < (0 : Int)))) (hf.ev rfl) (fun hqt20_1 => ?_) (fun hqt20_1 => ?_)
  · have hqt20_1b := hqt20_1
    try simp only [decide_eq_true_eq, Bool.and_eq_true, Bool.or_eq_true, Bool.not_eq_true', decide_eq_false_iff_not, ne_eq, Bool.not_eq_true] at hqt20_1
    refine wp_seq_k (fun K5 hK5 => ?_)
    refine wp_region_lit ?_
    refine sqv hf (r_assign rfl) rfl rfl rfl ?_; clear hf fa; intro fa hf
    refine sqv hf (r_assign rfl) rfl rfl rfl ?_; clear hf fa; intro fa hf
    refine sqv hf (r_assign rfl) rfl rfl rfl ?_; clear hf fa; intro fa hf
    apply wpList_nil
    (try simp only [Exit.then, Exit.inBlock, ↓reduceIte, Nat.reduceEqDiff])
    refine hK5 _ _ ?_
    refine wp_ret ?_
    (try simp only [Exit.then, Exit.inBlock])
    refine ret3 hf rfl rfl rfl rfl ?_
    refine ⟨?_, hb⟩; unfold rdataP; rw [hqt20_1b]; (try rfl)
  · have hqt20_1b := hqt20_1
    replace hqt20_1 := Bool.eq_false_iff.1 hqt20_1
    try simp only [ne_eq, decide_eq_true_eq, Bool.and_eq_true, Bool.or_eq_true, Bool.not_eq_true', decide_eq_false_iff_not] at hqt20_1
    refine wp_skip ?_
    (try simp only [Exit.then, Exit.inBlock, ↓reduceIte, Nat.reduceEqDiff])
    refine hK3 _ _ ?_
    refine wp_seq_k (fun K6 hK6 => ?_)
    obtain ⟨fj, fk, fm, fx, hf1, hf2, hf3⟩ := findRM_ok (l := d.list) (i := 0) hqt20_1
    have hj0 : (findRM nm d.list 0).1 = ((fj : Nat) : Int) := by rw [hf1]; simp
    have hk0 : (findRM nm d.list 0).2 = ((fk : Nat) : Int) := by rw [hf1]
    have hjl : fj < d.len := by have := (List.getElem?_eq_some_iff.1 hf2).1; rwa [Sl.list_length] at this
    have hMe : (d.list.getD ((findRM nm d.list 0).1).toNat zMMd) = fm := by rw [hj0, show ((fj : Nat) : Int).toNat = fj from rfl, List.getD_eq_getElem?_getD, hf2]; rfl
    have hkl : fk < (d.list.getD ((findRM nm d.list 0).1).toNat zMMd).2.2.2.2.2.2.1.len := by have := (List.getElem?_eq_some_iff.1 hf3).1; rw [Sl.list_length] at this; rw [hMe]; exact this
    have hmm : (d.list.getD ((findRM nm d.list 0).1).toNat zMMd) ∈ d.list := getD_memL (by rw [Sl.list_length]; omega)
    have gM := fSl_mem g.2 hmm
    have hX := fInt_u32 (w := w) (fSl_mem gM.2.2.2.2.2.2.1.2 (getD_memL (z := zMExp) (show ((findRM nm d.list 0).2).toNat < (d.list.getD ((findRM nm d.list 0).1).toNat zMMd).2.2.2.2.2.2.1.list.length by rw [Sl.list_length]; omega))).2.2.1
    have hml : maxLen = 9223372036854775807 := rfl
    have hfr := funcs_rng gM
    have hTb := gM.1.1
    have hgy := gtypes_len (d.list.getD ((findRM nm d.list 0).1).toNat zMMd)
    have hsm := hS _ hmm
    unfold smallP at hsm
    have hgl := gt_len (d.list.getD ((findRM nm d.list 0).1).toNat zMMd).2.1.list (d.list.getD ((findRM nm d.list 0).1).toNat zMMd).2.1.len
    rw [take_list] at hgl
    refine wp_region_lit ?_
    refine sqv hf (r_move rfl) rfl rfl rfl ?_; clear hf fa; intro fa hf
    refine sqv hf (r_move rfl) rfl rfl rfl ?_; clear hf fa; intro fa hf
    have hy1 : (d.list)[((findRM nm d.list 0).1).toNat]? = some (d.list.getD ((findRM nm d.list 0).1).toNat zMMd) := (getD_at zMMd (by rw [Sl.list_length]; omega))
    obtain ⟨ab1, aoff1, hat1, hlb1, hel1⟩ := RdS.at (RdS.of_arg g.2) hy1
    refine sqv hf (r_ixa (sz := 17) (j := ((findRM nm d.list 0).1).toNat) (evAt rfl hat1) rfl Try.underlying43 (by kernel_rfl) (by omega) (by omega) rfl) rfl rfl rfl ?_; clear hf fa; intro fa hf
    refine sqv hf (r_fa rfl Try.underlying67 (f := 6) (q := ((aoff1 + ((findRM nm d.list 0).1).toNat * 17) + 6)) rfl (by kernel_rfl) rfl) rfl rfl rfl ?_; clear hf fa; intro fa hf
    refine sqv hf (r_load (v := (.slice (d.list.getD ((findRM nm d.list 0).1).toNat zMMd).2.2.2.2.2.2.1.at' ((d.list.getD ((findRM nm d.list 0).1).toNat zMMd).2.2.2.2.2.2.1.len) (d.list.getD ((findRM nm d.list 0).1).toNat zMMd).2.2.2.2.2.2.1.cap)) rfl Try.underlying60 rfl (cellsAt_cell (cellsAt_below hel1 hb hlb1) (i := 6) rfl rfl)) rfl rfl rfl ?_; clear hf fa; intro fa hf
    refine sqv hf (r_move rfl) rfl rfl rfl ?_; clear hf fa; intro fa hf
    have hy2 : ((d.list.getD ((findRM nm d.list 0).1).toNat zMMd).2.2.2.2.2.2.1.list)[((findRM nm d.list 0).2).toNat]? = some ((d.list.getD ((findRM nm d.list 0).1).toNat zMMd).2.2.2.2.2.2.1.list.getD ((findRM nm d.list 0).2).toNat zMExp) := (getD_at zMExp (by rw [Sl.list_length]; omega))
    obtain ⟨ab2, aoff2, hat2, hlb2, hel2⟩ := RdS.at (RdS.of_arg gM.2.2.2.2.2.2.1.2) hy2
    refine sqv hf (r_ixa (sz := 3) (j := ((findRM nm d.list 0).2).toNat) (evAt rfl hat2) rfl Try.underlying60 (by kernel_rfl) (by omega) (by omega) rfl) rfl rfl rfl ?_; clear hf fa; intro fa hf
    refine sqv hf (r_loadA (cs := [(.string ((d.list.getD ((findRM nm d.list 0).1).toNat zMMd).2.2.2.2.2.2.1.list.getD ((findRM nm d.list 0).2).toNat zMExp).1), (.int .u8 (((d.list.getD ((findRM nm d.list 0).1).toNat zMMd).2.2.2.2.2.2.1.list.getD ((findRM nm d.list 0).2).toNat zMExp).2.1)), (.int .u32 (((d.list.getD ((findRM nm d.list 0).1).toNat zMMd).2.2.2.2.2.2.1.list.getD ((findRM nm d.list 0).2).toNat zMExp).2.2.1))]) rfl Try.underlying94 rfl (by kernel_rfl) (cellsAt_below hel2 hb hlb2)) rfl rfl rfl ?_; clear hf fa; intro fa hf
    refine sqdt hf (d_alloc (z := (.agg #[(.string ⟨#[]⟩), (.int .u8 (0 : Int)), (.int .u32 (0 : Int))])) (cs := #[(.string ⟨#[]⟩), (.int .u8 (0 : Int)), (.int .u32 (0 : Int))]) (by kernel_rfl) rfl) rfl rfl rfl ?_; clear hf fa; rintro fa _ w2 ⟨b1, rfl, hle1, hk1, he2⟩ hf
    have hBb1 : w.heap.size ≤ b1 := Nat.le_trans hb.size hle1
    replace hb := hb.trans (Below.mono he2 hb.size)
    refine sqn hf (d_storeK (T := 94) (v := (.agg #[(.string ((d.list.getD ((findRM nm d.list 0).1).toNat zMMd).2.2.2.2.2.2.1.list.getD ((findRM nm d.list 0).2).toNat zMExp).1), (.int .u8 (((d.list.getD ((findRM nm d.list 0).1).toNat zMMd).2.2.2.2.2.2.1.list.getD ((findRM nm d.list 0).2).toNat zMExp).2.1)), (.int .u32 (((d.list.getD ((findRM nm d.list 0).1).toNat zMMd).2.2.2.2.2.2.1.list.getD ((findRM nm d.list 0).2).toNat zMExp).2.2.1))])) (cs := #[(.string ⟨#[]⟩), (.int .u8 (0 : Int)), (.int .u32 (0 : Int))]) (cs' := #[(.string ((d.list.getD ((findRM nm d.list 0).1).toNat zMMd).2.2.2.2.2.2.1.list.getD ((findRM nm d.list 0).2).toNat zMExp).1), (.int .u8 (((d.list.getD ((findRM nm d.list 0).1).toNat zMMd).2.2.2.2.2.2.1.list.getD ((findRM nm d.list 0).2).toNat zMExp).2.1)), (.int .u32 (((d.list.getD ((findRM nm d.list 0).1).toNat zMMd).2.2.2.2.2.2.1.list.getD ((findRM nm d.list 0).2).toNat zMExp).2.2.1))]) rfl rfl (by kernel_rfl) (by kernel_rfl) hk1 (by kernel_rfl) (by kernel_rfl)) rfl rfl ?_; clear hf fa; rintro fa _ w3 ⟨hk2, hg1⟩ hf
    replace hb := hb.trans (grown_below hg1 hb.size hBb1)
    apply wpList_nil
    (try simp only [Exit.then, Exit.inBlock, ↓reduceIte, Nat.reduceEqDiff])
    refine hK6 _ _ ?_
    refine wp_seq_k (fun K7 hK7 => ?_)
    refine wp_seq_k (fun K8 hK8 => ?_)
    refine wp_region_lit ?_
    refine sqv hf (r_fa rfl Try.underlying94 (f := 1) (q := 1) rfl (by kernel_rfl) rfl) rfl rfl rfl ?_; clear hf fa; intro fa hf
    refine sqv hf (r_load (v := (.int .u8 (((d.list.getD ((findRM nm d.list 0).1).toNat zMMd).2.2.2.2.2.2.1.list.getD ((findRM nm d.list 0).2).toNat zMExp).2.1))) rfl Try.underlying5 rfl (cell_blk hk2 rfl)) rfl rfl rfl ?_; clear hf fa; intro fa hf
    refine sqv hf (r_ne rfl rfl) rfl rfl rfl ?_; clear hf fa; intro fa hf
    apply wpList_nil
    (try simp only [Exit.then, Exit.inBlock, ↓reduceIte, Nat.reduceEqDiff])
    refine hK8 _ _ ?_
    refine wp_cond_split (t := (decide ((((d.list.getD ((findRM nm d.list 0).1).toNat zMMd).2.2.2.2.2.2.1.list.getD ((findRM nm d.list 0).2).toNat zMExp).2.1) ≠ (3 : Int)))) (hf.ev rfl) (fun hqt31_1 => ?_) (fun hqt31_1 => ?_)
    · have hqt31_1b := hqt31_1
      try simp only [decide_eq_true_eq, Bool.and_eq_true, Bool.or_eq_true, Bool.not_eq_true', decide_eq_false_iff_not, ne_eq, Bool.not_eq_true] at hqt31_1
      refine wp_seq_k (fun K9 hK9 => ?_)
      refine wp_region_lit ?_
      refine sqv hf (r_assign rfl) rfl rfl rfl ?_; clear hf fa; intro fa hf
      refine sqv hf (r_assign rfl) rfl rfl rfl ?_; clear hf fa; intro fa hf
      refine sqv hf (r_assign rfl) rfl rfl rfl ?_; clear hf fa; intro fa hf
      apply wpList_nil
      (try simp only [Exit.then, Exit.inBlock, ↓reduceIte, Nat.reduceEqDiff])
      refine hK9 _ _ ?_
      refine wp_ret ?_
      (try simp only [Exit.then, Exit.inBlock])
      refine ret3 hf rfl rfl rfl rfl ?_
      refine ⟨?_, hb⟩; unfold rdataP; rw [hqt20_1b, hqt31_1b]; (try rfl)
    · have hqt31_1b := hqt31_1
      replace hqt31_1 := Bool.eq_false_iff.1 hqt31_1
      try simp only [ne_eq, decide_eq_true_eq, Bool.and_eq_true, Bool.or_eq_true, Bool.not_eq_true', decide_eq_false_iff_not] at hqt31_1
      refine wp_skip ?_
      (try simp only [Exit.then, Exit.inBlock, ↓reduceIte, Nat.reduceEqDiff])
      refine hK7 _ _ ?_
      refine wp_seq_k (fun K10 hK10 => ?_)
      refine wp_region_lit ?_
      refine sqv hf (r_move rfl) rfl rfl rfl ?_; clear hf fa; intro fa hf
      refine sqv hf (r_move rfl) rfl rfl rfl ?_; clear hf fa; intro fa hf
      refine sqv hf (r_ixa (sz := 17) (j := ((findRM nm d.list 0).1).toNat) (evAt rfl hat1) rfl Try.underlying43 (by kernel_rfl) (by omega) (by omega) rfl) rfl rfl rfl ?_; clear hf fa; intro fa hf
      refine sqv hf (r_loadA (cs := [(.slice (d.list.getD ((findRM nm d.list 0).1).toNat zMMd).1.at' ((d.list.getD ((findRM nm d.list 0).1).toNat zMMd).1.len) (d.list.getD ((findRM nm d.list 0).1).toNat zMMd).1.cap), (.slice (d.list.getD ((findRM nm d.list 0).1).toNat zMMd).2.1.at' ((d.list.getD ((findRM nm d.list 0).1).toNat zMMd).2.1.len) (d.list.getD ((findRM nm d.list 0).1).toNat zMMd).2.1.cap), (.slice (d.list.getD ((findRM nm d.list 0).1).toNat zMMd).2.2.1.at' ((d.list.getD ((findRM nm d.list 0).1).toNat zMMd).2.2.1.len) (d.list.getD ((findRM nm d.list 0).1).toNat zMMd).2.2.1.cap), (.slice (d.list.getD ((findRM nm d.list 0).1).toNat zMMd).2.2.2.1.at' ((d.list.getD ((findRM nm d.list 0).1).toNat zMMd).2.2.2.1.len) (d.list.getD ((findRM nm d.list 0).1).toNat zMMd).2.2.2.1.cap), (.slice (d.list.getD ((findRM nm d.list 0).1).toNat zMMd).2.2.2.2.1.at' ((d.list.getD ((findRM nm d.list 0).1).toNat zMMd).2.2.2.2.1.len) (d.list.getD ((findRM nm d.list 0).1).toNat zMMd).2.2.2.2.1.cap), (.slice (d.list.getD ((findRM nm d.list 0).1).toNat zMMd).2.2.2.2.2.1.at' ((d.list.getD ((findRM nm d.list 0).1).toNat zMMd).2.2.2.2.2.1.len) (d.list.getD ((findRM nm d.list 0).1).toNat zMMd).2.2.2.2.2.1.cap), (.slice (d.list.getD ((findRM nm d.list 0).1).toNat zMMd).2.2.2.2.2.2.1.at' ((d.list.getD ((findRM nm d.list 0).1).toNat zMMd).2.2.2.2.2.2.1.len) (d.list.getD ((findRM nm d.list 0).1).toNat zMMd).2.2.2.2.2.2.1.cap), (.int .i64 ((d.list.getD ((findRM nm d.list 0).1).toNat zMMd).2.2.2.2.2.2.2.1)), (.slice (d.list.getD ((findRM nm d.list 0).1).toNat zMMd).2.2.2.2.2.2.2.2.1.at' ((d.list.getD ((findRM nm d.list 0).1).toNat zMMd).2.2.2.2.2.2.2.2.1.len) (d.list.getD ((findRM nm d.list 0).1).toNat zMMd).2.2.2.2.2.2.2.2.1.cap), (.slice (d.list.getD ((findRM nm d.list 0).1).toNat zMMd).2.2.2.2.2.2.2.2.2.1.at' ((d.list.getD ((findRM nm d.list 0).1).toNat zMMd).2.2.2.2.2.2.2.2.2.1.len) (d.list.getD ((findRM nm d.list 0).1).toNat zMMd).2.2.2.2.2.2.2.2.2.1.cap), (.slice (d.list.getD ((findRM nm d.list 0).1).toNat zMMd).2.2.2.2.2.2.2.2.2.2.1.at' ((d.list.getD ((findRM nm d.list 0).1).toNat zMMd).2.2.2.2.2.2.2.2.2.2.1.len) (d.list.getD ((findRM nm d.list 0).1).toNat zMMd).2.2.2.2.2.2.2.2.2.2.1.cap), (.bool (d.list.getD ((findRM nm d.list 0).1).toNat zMMd).2.2.2.2.2.2.2.2.2.2.2.1.1), (.int .u32 ((d.list.getD ((findRM nm d.list 0).1).toNat zMMd).2.2.2.2.2.2.2.2.2.2.2.1.2.1)), (.int .u32 ((d.list.getD ((findRM nm d.list 0).1).toNat zMMd).2.2.2.2.2.2.2.2.2.2.2.1.2.2.1)), (.int .u32 ((d.list.getD ((findRM nm d.list 0).1).toNat zMMd).2.2.2.2.2.2.2.2.2.2.2.1.2.2.2.1)), (.int .u32 ((d.list.getD ((findRM nm d.list 0).1).toNat zMMd).2.2.2.2.2.2.2.2.2.2.2.1.2.2.2.2.1)), (.slice (d.list.getD ((findRM nm d.list 0).1).toNat zMMd).2.2.2.2.2.2.2.2.2.2.2.1.2.2.2.2.2.1.at' ((d.list.getD ((findRM nm d.list 0).1).toNat zMMd).2.2.2.2.2.2.2.2.2.2.2.1.2.2.2.2.2.1.len) (d.list.getD ((findRM nm d.list 0).1).toNat zMMd).2.2.2.2.2.2.2.2.2.2.2.1.2.2.2.2.2.1.cap)]) rfl Try.underlying67 rfl (by kernel_rfl) (cellsAt_below hel1 hb hlb1)) rfl rfl rfl ?_; clear hf fa; intro fa hf
      refine sqdt hf (d_callX (vs := [(.agg #[(.slice (d.list.getD ((findRM nm d.list 0).1).toNat zMMd).1.at' ((d.list.getD ((findRM nm d.list 0).1).toNat zMMd).1.len) (d.list.getD ((findRM nm d.list 0).1).toNat zMMd).1.cap), (.slice (d.list.getD ((findRM nm d.list 0).1).toNat zMMd).2.1.at' ((d.list.getD ((findRM nm d.list 0).1).toNat zMMd).2.1.len) (d.list.getD ((findRM nm d.list 0).1).toNat zMMd).2.1.cap), (.slice (d.list.getD ((findRM nm d.list 0).1).toNat zMMd).2.2.1.at' ((d.list.getD ((findRM nm d.list 0).1).toNat zMMd).2.2.1.len) (d.list.getD ((findRM nm d.list 0).1).toNat zMMd).2.2.1.cap), (.slice (d.list.getD ((findRM nm d.list 0).1).toNat zMMd).2.2.2.1.at' ((d.list.getD ((findRM nm d.list 0).1).toNat zMMd).2.2.2.1.len) (d.list.getD ((findRM nm d.list 0).1).toNat zMMd).2.2.2.1.cap), (.slice (d.list.getD ((findRM nm d.list 0).1).toNat zMMd).2.2.2.2.1.at' ((d.list.getD ((findRM nm d.list 0).1).toNat zMMd).2.2.2.2.1.len) (d.list.getD ((findRM nm d.list 0).1).toNat zMMd).2.2.2.2.1.cap), (.slice (d.list.getD ((findRM nm d.list 0).1).toNat zMMd).2.2.2.2.2.1.at' ((d.list.getD ((findRM nm d.list 0).1).toNat zMMd).2.2.2.2.2.1.len) (d.list.getD ((findRM nm d.list 0).1).toNat zMMd).2.2.2.2.2.1.cap), (.slice (d.list.getD ((findRM nm d.list 0).1).toNat zMMd).2.2.2.2.2.2.1.at' ((d.list.getD ((findRM nm d.list 0).1).toNat zMMd).2.2.2.2.2.2.1.len) (d.list.getD ((findRM nm d.list 0).1).toNat zMMd).2.2.2.2.2.2.1.cap), (.int .i64 ((d.list.getD ((findRM nm d.list 0).1).toNat zMMd).2.2.2.2.2.2.2.1)), (.slice (d.list.getD ((findRM nm d.list 0).1).toNat zMMd).2.2.2.2.2.2.2.2.1.at' ((d.list.getD ((findRM nm d.list 0).1).toNat zMMd).2.2.2.2.2.2.2.2.1.len) (d.list.getD ((findRM nm d.list 0).1).toNat zMMd).2.2.2.2.2.2.2.2.1.cap), (.slice (d.list.getD ((findRM nm d.list 0).1).toNat zMMd).2.2.2.2.2.2.2.2.2.1.at' ((d.list.getD ((findRM nm d.list 0).1).toNat zMMd).2.2.2.2.2.2.2.2.2.1.len) (d.list.getD ((findRM nm d.list 0).1).toNat zMMd).2.2.2.2.2.2.2.2.2.1.cap), (.slice (d.list.getD ((findRM nm d.list 0).1).toNat zMMd).2.2.2.2.2.2.2.2.2.2.1.at' ((d.list.getD ((findRM nm d.list 0).1).toNat zMMd).2.2.2.2.2.2.2.2.2.2.1.len) (d.list.getD ((findRM nm d.list 0).1).toNat zMMd).2.2.2.2.2.2.2.2.2.2.1.cap), (.bool (d.list.getD ((findRM nm d.list 0).1).toNat zMMd).2.2.2.2.2.2.2.2.2.2.2.1.1), (.int .u32 ((d.list.getD ((findRM nm d.list 0).1).toNat zMMd).2.2.2.2.2.2.2.2.2.2.2.1.2.1)), (.int .u32 ((d.list.getD ((findRM nm d.list 0).1).toNat zMMd).2.2.2.2.2.2.2.2.2.2.2.1.2.2.1)), (.int .u32 ((d.list.getD ((findRM nm d.list 0).1).toNat zMMd).2.2.2.2.2.2.2.2.2.2.2.1.2.2.2.1)), (.int .u32 ((d.list.getD ((findRM nm d.list 0).1).toNat zMMd).2.2.2.2.2.2.2.2.2.2.2.1.2.2.2.2.1)), (.slice (d.list.getD ((findRM nm d.list 0).1).toNat zMMd).2.2.2.2.2.2.2.2.2.2.2.1.2.2.2.2.2.1.at' ((d.list.getD ((findRM nm d.list 0).1).toNat zMMd).2.2.2.2.2.2.2.2.2.2.2.1.2.2.2.2.2.1.len) (d.list.getD ((findRM nm d.list 0).1).toNat zMMd).2.2.2.2.2.2.2.2.2.2.2.1.2.2.2.2.2.1.cap)])]) rfl Try.func76 (by kernel_rfl) (by kernel_rfl) (rgtypes_any (d.list.getD ((findRM nm d.list 0).1).toNat zMMd) _ (rdMMd.kept _ _ _ hb gM) (hS _ hmm))) rfl rfl rfl ?_; clear hf fa; rintro fa _ w4 ⟨gya, gyc, rfl, hr1, he3⟩ hf
      replace hr1 := Row.rebase hr1 hb.size
      replace hk2 := blk_ext hk2 he3
      replace hb := hb.trans (Below.mono he3 hb.size)
      have hcgy := Row.caps hr1
      refine sqv hf (r_move rfl) rfl rfl rfl ?_; clear hf fa; intro fa hf
      refine sqv hf (r_extract rfl (i := 0) rfl) rfl rfl rfl ?_; clear hf fa; intro fa hf
      refine sqv hf (r_extract rfl (i := 1) rfl) rfl rfl rfl ?_; clear hf fa; intro fa hf
      refine sqv hf (r_assign rfl) rfl rfl rfl ?_; clear hf fa; intro fa hf
      refine sqv hf (r_assign rfl) rfl rfl rfl ?_; clear hf fa; intro fa hf
      apply wpList_nil
      (try simp only [Exit.then, Exit.inBlock, ↓reduceIte, Nat.reduceEqDiff])
      refine hK10 _ _ ?_
      refine wp_seq_k (fun K11 hK11 => ?_)
      refine wp_region_lit ?_
      refine sqv hf (r_fa rfl Try.underlying94 (f := 2) (q := 2) rfl (by kernel_rfl) rfl) rfl rfl rfl ?_; clear hf fa; intro fa hf
      refine sqv hf (r_load (v := (.int .u32 (((d.list.getD ((findRM nm d.list 0).1).toNat zMMd).2.2.2.2.2.2.1.list.getD ((findRM nm d.list 0).2).toNat zMExp).2.2.1))) rfl Try.underlying44 rfl (cell_blk hk2 rfl)) rfl rfl rfl ?_; clear hf fa; intro fa hf
      refine sqv hf (r_conv (C := (((d.list.getD ((findRM nm d.list 0).1).toNat zMMd).2.2.2.2.2.2.1.list.getD ((findRM nm d.list 0).2).toNat zMExp).2.2.1)) rfl Try.underlying44 Try.underlying3 (by rw [IntKind.wrap_i64]; omega)) rfl rfl rfl ?_; clear hf fa; intro fa hf
      refine sqv hf (r_assign rfl) rfl rfl rfl ?_; clear hf fa; intro fa hf
      apply wpList_nil
      (try simp only [Exit.then, Exit.inBlock, ↓reduceIte, Nat.reduceEqDiff])
      refine hK11 _ _ ?_
      refine wp_seq_k (fun K12 hK12 => ?_)
      refine wp_seq_k (fun K13 hK13 => ?_)
      by_cases hsp1 : (((d.list.getD ((findRM nm d.list 0).1).toNat zMMd).2.2.2.2.2.2.1.list.getD ((findRM nm d.list 0).2).toNat zMExp).2.2.1).toNat < (gtypesP (d.list.getD ((findRM nm d.list 0).1).toNat zMMd)).length
      · have hsp1b : decide ((((d.list.getD ((findRM nm d.list 0).1).toNat zMMd).2.2.2.2.2.2.1.list.getD ((findRM nm d.list 0).2).toNat zMExp).2.2.1).toNat < (gtypesP (d.list.getD ((findRM nm d.list 0).1).toNat zMMd)).length) = true := decide_eq_true hsp1
        refine wp_region_lit ?_
        refine sqv hf (r_move rfl) rfl rfl rfl ?_; clear hf fa; intro fa hf
        refine sqv hf (r_move rfl) rfl rfl rfl ?_; clear hf fa; intro fa hf
        refine sqv hf (r_lt rfl rfl) rfl rfl rfl ?_; clear hf fa; intro fa hf
        refine sqv hf (r_move rfl) rfl rfl rfl ?_; clear hf fa; intro fa hf
        refine sqgF (act := (!(decide ((((d.list.getD ((findRM nm d.list 0).1).toNat zMMd).2.2.2.2.2.2.1.list.getD ((findRM nm d.list 0).2).toNat zMExp).2.2.1) < (((gtT (d.list.getD ((findRM nm d.list 0).1).toNat zMMd).2.1.list).length : Nat) : Int))))) (ag := true) (c := (decide ((((d.list.getD ((findRM nm d.list 0).1).toNat zMMd).2.2.2.2.2.2.1.list.getD ((findRM nm d.list 0).2).toNat zMExp).2.2.1) < (((gtT (d.list.getD ((findRM nm d.list 0).1).toNat zMMd).2.1.list).length : Nat) : Int)))) (v := (.int .i64 (((d.list.getD ((findRM nm d.list 0).1).toNat zMMd).2.2.2.2.2.2.1.list.getD ((findRM nm d.list 0).2).toNat zMExp).2.2.1))) hf rfl rfl rfl (fun hact => (r_move rfl)) rfl rfl ?_; clear hf fa; intro fa hf
        refine sqgF (act := (!(decide ((((d.list.getD ((findRM nm d.list 0).1).toNat zMMd).2.2.2.2.2.2.1.list.getD ((findRM nm d.list 0).2).toNat zMExp).2.2.1) < (((gtT (d.list.getD ((findRM nm d.list 0).1).toNat zMMd).2.1.list).length : Nat) : Int))))) (ag := true) (c := (decide ((((d.list.getD ((findRM nm d.list 0).1).toNat zMMd).2.2.2.2.2.2.1.list.getD ((findRM nm d.list 0).2).toNat zMExp).2.2.1) < (((gtT (d.list.getD ((findRM nm d.list 0).1).toNat zMMd).2.1.list).length : Nat) : Int)))) (v := (.slice gya ((gtypesP (d.list.getD ((findRM nm d.list 0).1).toNat zMMd)).length) gyc)) hf rfl rfl rfl (fun hact => (r_move rfl)) rfl rfl ?_; clear hf fa; intro fa hf
        refine sqgF (act := (!(decide ((((d.list.getD ((findRM nm d.list 0).1).toNat zMMd).2.2.2.2.2.2.1.list.getD ((findRM nm d.list 0).2).toNat zMExp).2.2.1) < (((gtT (d.list.getD ((findRM nm d.list 0).1).toNat zMMd).2.1.list).length : Nat) : Int))))) (ag := true) (c := (decide ((((d.list.getD ((findRM nm d.list 0).1).toNat zMMd).2.2.2.2.2.2.1.list.getD ((findRM nm d.list 0).2).toNat zMExp).2.2.1) < (((gtT (d.list.getD ((findRM nm d.list 0).1).toNat zMMd).2.1.list).length : Nat) : Int)))) (v := (.int .i64 (((gtypesP (d.list.getD ((findRM nm d.list 0).1).toNat zMMd)).length : Nat) : Int))) hf rfl rfl rfl (fun hact => (r_lensl (gb_ev hact rfl) Try.underlying153)) rfl rfl ?_; clear hf fa; intro fa hf
        refine sqgF (act := (!(decide ((((d.list.getD ((findRM nm d.list 0).1).toNat zMMd).2.2.2.2.2.2.1.list.getD ((findRM nm d.list 0).2).toNat zMExp).2.2.1) < (((gtT (d.list.getD ((findRM nm d.list 0).1).toNat zMMd).2.1.list).length : Nat) : Int))))) (ag := true) (c := (decide ((((d.list.getD ((findRM nm d.list 0).1).toNat zMMd).2.2.2.2.2.2.1.list.getD ((findRM nm d.list 0).2).toNat zMExp).2.2.1) < (((gtT (d.list.getD ((findRM nm d.list 0).1).toNat zMMd).2.1.list).length : Nat) : Int)))) (v := (.bool (decide ((((gtypesP (d.list.getD ((findRM nm d.list 0).1).toNat zMMd)).length : Nat) : Int) ≤ (((d.list.getD ((findRM nm d.list 0).1).toNat zMMd).2.2.2.2.2.2.1.list.getD ((findRM nm d.list 0).2).toNat zMExp).2.2.1))))) hf rfl rfl rfl (fun hact => (r_ge (gb_ev hact rfl) (gb_ev hact rfl))) rfl rfl ?_; clear hf fa; intro fa hf
        refine sqv hf (r_pickO (b := (decide ((((d.list.getD ((findRM nm d.list 0).1).toNat zMMd).2.2.2.2.2.2.1.list.getD ((findRM nm d.list 0).2).toNat zMExp).2.2.1) < (((gtT (d.list.getD ((findRM nm d.list 0).1).toNat zMMd).2.1.list).length : Nat) : Int)))) (e := (decide ((((gtypesP (d.list.getD ((findRM nm d.list 0).1).toNat zMMd)).length : Nat) : Int) ≤ (((d.list.getD ((findRM nm d.list 0).1).toNat zMMd).2.2.2.2.2.2.1.list.getD ((findRM nm d.list 0).2).toNat zMExp).2.2.1)))) rfl rfl rfl) rfl rfl rfl ?_; clear hf fa; intro fa hf
        refine sqv hf (r_move rfl) rfl rfl rfl ?_; clear hf fa; intro fa hf
        refine sqgF (act := (!((decide ((((d.list.getD ((findRM nm d.list 0).1).toNat zMMd).2.2.2.2.2.2.1.list.getD ((findRM nm d.list 0).2).toNat zMExp).2.2.1) < (((gtT (d.list.getD ((findRM nm d.list 0).1).toNat zMMd).2.1.list).length : Nat) : Int))) || (decide ((((gtypesP (d.list.getD ((findRM nm d.list 0).1).toNat zMMd)).length : Nat) : Int) ≤ (((d.list.getD ((findRM nm d.list 0).1).toNat zMMd).2.2.2.2.2.2.1.list.getD ((findRM nm d.list 0).2).toNat zMExp).2.2.1)))))) (ag := true) (c := ((decide ((((d.list.getD ((findRM nm d.list 0).1).toNat zMMd).2.2.2.2.2.2.1.list.getD ((findRM nm d.list 0).2).toNat zMExp).2.2.1) < (((gtT (d.list.getD ((findRM nm d.list 0).1).toNat zMMd).2.1.list).length : Nat) : Int))) || (decide ((((gtypesP (d.list.getD ((findRM nm d.list 0).1).toNat zMMd)).length : Nat) : Int) ≤ (((d.list.getD ((findRM nm d.list 0).1).toNat zMMd).2.2.2.2.2.2.1.list.getD ((findRM nm d.list 0).2).toNat zMExp).2.2.1))))) (v := (.slice gya ((gtypesP (d.list.getD ((findRM nm d.list 0).1).toNat zMMd)).length) gyc)) hf rfl rfl rfl (fun hact => (r_move rfl)) rfl rfl ?_; clear hf fa; intro fa hf
        refine sqgF (act := (!((decide ((((d.list.getD ((findRM nm d.list 0).1).toNat zMMd).2.2.2.2.2.2.1.list.getD ((findRM nm d.list 0).2).toNat zMExp).2.2.1) < (((gtT (d.list.getD ((findRM nm d.list 0).1).toNat zMMd).2.1.list).length : Nat) : Int))) || (decide ((((gtypesP (d.list.getD ((findRM nm d.list 0).1).toNat zMMd)).length : Nat) : Int) ≤ (((d.list.getD ((findRM nm d.list 0).1).toNat zMMd).2.2.2.2.2.2.1.list.getD ((findRM nm d.list 0).2).toNat zMExp).2.2.1)))))) (ag := true) (c := ((decide ((((d.list.getD ((findRM nm d.list 0).1).toNat zMMd).2.2.2.2.2.2.1.list.getD ((findRM nm d.list 0).2).toNat zMExp).2.2.1) < (((gtT (d.list.getD ((findRM nm d.list 0).1).toNat zMMd).2.1.list).length : Nat) : Int))) || (decide ((((gtypesP (d.list.getD ((findRM nm d.list 0).1).toNat zMMd)).length : Nat) : Int) ≤ (((d.list.getD ((findRM nm d.list 0).1).toNat zMMd).2.2.2.2.2.2.1.list.getD ((findRM nm d.list 0).2).toNat zMExp).2.2.1))))) (v := (.int .i64 (((d.list.getD ((findRM nm d.list 0).1).toNat zMMd).2.2.2.2.2.2.1.list.getD ((findRM nm d.list 0).2).toNat zMExp).2.2.1))) hf rfl rfl rfl (fun hact => (r_move rfl)) rfl rfl ?_; clear hf fa; intro fa hf
        obtain ⟨rb1, rfl, hbbrb1, hlbrb1⟩ := Row.some hr1 (by first | omega | (simp only [Sl.list_length, List.length_set, List.length_take, List.length_drop, List.length_append, List.length_replicate, List.length_cons, List.length_nil]; omega))
        have hy3 := getD_at (l := (gtypesP (d.list.getD ((findRM nm d.list 0).1).toNat zMMd))) (j := (((d.list.getD ((findRM nm d.list 0).1).toNat zMMd).2.2.2.2.2.2.1.list.getD ((findRM nm d.list 0).2).toNat zMExp).2.2.1).toNat) zMGt (by first | omega | (simp only [Sl.list_length, List.length_set, List.length_take, List.length_drop, List.length_append, List.length_replicate, List.length_cons, List.length_nil]; omega))
        have hel3 := RdS.at (Row.rd (by intros; rfl) hr1) hy3
        obtain ⟨_, _, hab, hlr1, hel3⟩ := hel3
        cases hab
        refine sqgF (act := (!((decide ((((d.list.getD ((findRM nm d.list 0).1).toNat zMMd).2.2.2.2.2.2.1.list.getD ((findRM nm d.list 0).2).toNat zMExp).2.2.1) < (((gtT (d.list.getD ((findRM nm d.list 0).1).toNat zMMd).2.1.list).length : Nat) : Int))) || (decide ((((gtypesP (d.list.getD ((findRM nm d.list 0).1).toNat zMMd)).length : Nat) : Int) ≤ (((d.list.getD ((findRM nm d.list 0).1).toNat zMMd).2.2.2.2.2.2.1.list.getD ((findRM nm d.list 0).2).toNat zMExp).2.2.1)))))) (ag := true) (c := ((decide ((((d.list.getD ((findRM nm d.list 0).1).toNat zMMd).2.2.2.2.2.2.1.list.getD ((findRM nm d.list 0).2).toNat zMExp).2.2.1) < (((gtT (d.list.getD ((findRM nm d.list 0).1).toNat zMMd).2.1.list).length : Nat) : Int))) || (decide ((((gtypesP (d.list.getD ((findRM nm d.list 0).1).toNat zMMd)).length : Nat) : Int) ≤ (((d.list.getD ((findRM nm d.list 0).1).toNat zMMd).2.2.2.2.2.2.1.list.getD ((findRM nm d.list 0).2).toNat zMExp).2.2.1))))) (v := (.pointer (some ⟨rb1, (0 + (((d.list.getD ((findRM nm d.list 0).1).toNat zMMd).2.2.2.2.2.2.1.list.getD ((findRM nm d.list 0).2).toNat zMExp).2.2.1).toNat * 2), none⟩))) hf rfl rfl rfl (fun hact => (by have hact0 := hact; (try simp only [Bool.and_eq_true, Bool.not_eq_true', Bool.or_eq_false_iff, Bool.or_eq_true, Bool.and_eq_false_iff, ne_eq, decide_eq_true_eq, decide_eq_false_iff_not] at hact0); exact (r_ixa (sz := 2) (j := (((d.list.getD ((findRM nm d.list 0).1).toNat zMMd).2.2.2.2.2.2.1.list.getD ((findRM nm d.list 0).2).toNat zMExp).2.2.1).toNat) (gb_ev hact rfl) (gb_ev hact rfl) Try.underlying153 (by kernel_rfl) (by omega) (by omega) rfl))) rfl rfl ?_; clear hf fa; intro fa hf
        refine sqgF (act := (!((decide ((((d.list.getD ((findRM nm d.list 0).1).toNat zMMd).2.2.2.2.2.2.1.list.getD ((findRM nm d.list 0).2).toNat zMExp).2.2.1) < (((gtT (d.list.getD ((findRM nm d.list 0).1).toNat zMMd).2.1.list).length : Nat) : Int))) || (decide ((((gtypesP (d.list.getD ((findRM nm d.list 0).1).toNat zMMd)).length : Nat) : Int) ≤ (((d.list.getD ((findRM nm d.list 0).1).toNat zMMd).2.2.2.2.2.2.1.list.getD ((findRM nm d.list 0).2).toNat zMExp).2.2.1)))))) (ag := true) (c := ((decide ((((d.list.getD ((findRM nm d.list 0).1).toNat zMMd).2.2.2.2.2.2.1.list.getD ((findRM nm d.list 0).2).toNat zMExp).2.2.1) < (((gtT (d.list.getD ((findRM nm d.list 0).1).toNat zMMd).2.1.list).length : Nat) : Int))) || (decide ((((gtypesP (d.list.getD ((findRM nm d.list 0).1).toNat zMMd)).length : Nat) : Int) ≤ (((d.list.getD ((findRM nm d.list 0).1).toNat zMMd).2.2.2.2.2.2.1.list.getD ((findRM nm d.list 0).2).toNat zMExp).2.2.1))))) (v := (.pointer (some ⟨rb1, (0 + (((d.list.getD ((findRM nm d.list 0).1).toNat zMMd).2.2.2.2.2.2.1.list.getD ((findRM nm d.list 0).2).toNat zMExp).2.2.1).toNat * 2), none⟩))) hf rfl rfl rfl (fun hact => (r_fa (gb_ev hact rfl) Try.underlying101 (f := 0) (q := (0 + (((d.list.getD ((findRM nm d.list 0).1).toNat zMMd).2.2.2.2.2.2.1.list.getD ((findRM nm d.list 0).2).toNat zMExp).2.2.1).toNat * 2)) rfl (by kernel_rfl) rfl)) rfl rfl ?_; clear hf fa; intro fa hf
        refine sqgF (act := (!((decide ((((d.list.getD ((findRM nm d.list 0).1).toNat zMMd).2.2.2.2.2.2.1.list.getD ((findRM nm d.list 0).2).toNat zMExp).2.2.1) < (((gtT (d.list.getD ((findRM nm d.list 0).1).toNat zMMd).2.1.list).length : Nat) : Int))) || (decide ((((gtypesP (d.list.getD ((findRM nm d.list 0).1).toNat zMMd)).length : Nat) : Int) ≤ (((d.list.getD ((findRM nm d.list 0).1).toNat zMMd).2.2.2.2.2.2.1.list.getD ((findRM nm d.list 0).2).toNat zMExp).2.2.1)))))) (ag := true) (c := ((decide ((((d.list.getD ((findRM nm d.list 0).1).toNat zMMd).2.2.2.2.2.2.1.list.getD ((findRM nm d.list 0).2).toNat zMExp).2.2.1) < (((gtT (d.list.getD ((findRM nm d.list 0).1).toNat zMMd).2.1.list).length : Nat) : Int))) || (decide ((((gtypesP (d.list.getD ((findRM nm d.list 0).1).toNat zMMd)).length : Nat) : Int) ≤ (((d.list.getD ((findRM nm d.list 0).1).toNat zMMd).2.2.2.2.2.2.1.list.getD ((findRM nm d.list 0).2).toNat zMExp).2.2.1))))) (v := (.int .u8 (((gtypesP (d.list.getD ((findRM nm d.list 0).1).toNat zMMd)).getD (((d.list.getD ((findRM nm d.list 0).1).toNat zMMd).2.2.2.2.2.2.1.list.getD ((findRM nm d.list 0).2).toNat zMExp).2.2.1).toNat zMGt).1))) hf rfl rfl rfl (fun hact => (r_load (v := (.int .u8 (((gtypesP (d.list.getD ((findRM nm d.list 0).1).toNat zMMd)).getD (((d.list.getD ((findRM nm d.list 0).1).toNat zMMd).2.2.2.2.2.2.1.list.getD ((findRM nm d.list 0).2).toNat zMExp).2.2.1).toNat zMGt).1))) (gb_ev hact rfl) Try.underlying5 rfl (cellsAt_cell hel3 (i := 0) rfl rfl))) rfl rfl ?_; clear hf fa; intro fa hf
        refine sqgF (act := (!((decide ((((d.list.getD ((findRM nm d.list 0).1).toNat zMMd).2.2.2.2.2.2.1.list.getD ((findRM nm d.list 0).2).toNat zMExp).2.2.1) < (((gtT (d.list.getD ((findRM nm d.list 0).1).toNat zMMd).2.1.list).length : Nat) : Int))) || (decide ((((gtypesP (d.list.getD ((findRM nm d.list 0).1).toNat zMMd)).length : Nat) : Int) ≤ (((d.list.getD ((findRM nm d.list 0).1).toNat zMMd).2.2.2.2.2.2.1.list.getD ((findRM nm d.list 0).2).toNat zMExp).2.2.1)))))) (ag := true) (c := ((decide ((((d.list.getD ((findRM nm d.list 0).1).toNat zMMd).2.2.2.2.2.2.1.list.getD ((findRM nm d.list 0).2).toNat zMExp).2.2.1) < (((gtT (d.list.getD ((findRM nm d.list 0).1).toNat zMMd).2.1.list).length : Nat) : Int))) || (decide ((((gtypesP (d.list.getD ((findRM nm d.list 0).1).toNat zMMd)).length : Nat) : Int) ≤ (((d.list.getD ((findRM nm d.list 0).1).toNat zMMd).2.2.2.2.2.2.1.list.getD ((findRM nm d.list 0).2).toNat zMExp).2.2.1))))) (v := (.bool (decide ((((gtypesP (d.list.getD ((findRM nm d.list 0).1).toNat zMMd)).getD (((d.list.getD ((findRM nm d.list 0).1).toNat zMMd).2.2.2.2.2.2.1.list.getD ((findRM nm d.list 0).2).toNat zMExp).2.2.1).toNat zMGt).1) ≠ (127 : Int))))) hf rfl rfl rfl (fun hact => (r_ne (gb_ev hact rfl) rfl)) rfl rfl ?_; clear hf fa; intro fa hf
        refine sqv hf (r_pickO (b := ((decide ((((d.list.getD ((findRM nm d.list 0).1).toNat zMMd).2.2.2.2.2.2.1.list.getD ((findRM nm d.list 0).2).toNat zMExp).2.2.1) < (((gtT (d.list.getD ((findRM nm d.list 0).1).toNat zMMd).2.1.list).length : Nat) : Int))) || (decide ((((gtypesP (d.list.getD ((findRM nm d.list 0).1).toNat zMMd)).length : Nat) : Int) ≤ (((d.list.getD ((findRM nm d.list 0).1).toNat zMMd).2.2.2.2.2.2.1.list.getD ((findRM nm d.list 0).2).toNat zMExp).2.2.1))))) (e := (decide ((((gtypesP (d.list.getD ((findRM nm d.list 0).1).toNat zMMd)).getD (((d.list.getD ((findRM nm d.list 0).1).toNat zMMd).2.2.2.2.2.2.1.list.getD ((findRM nm d.list 0).2).toNat zMExp).2.2.1).toNat zMGt).1) ≠ (127 : Int)))) rfl rfl rfl) rfl rfl rfl ?_; clear hf fa; intro fa hf
        refine sqv hf (r_move rfl) rfl rfl rfl ?_; clear hf fa; intro fa hf
        refine sqgF (act := (!(((decide ((((d.list.getD ((findRM nm d.list 0).1).toNat zMMd).2.2.2.2.2.2.1.list.getD ((findRM nm d.list 0).2).toNat zMExp).2.2.1) < (((gtT (d.list.getD ((findRM nm d.list 0).1).toNat zMMd).2.1.list).length : Nat) : Int))) || (decide ((((gtypesP (d.list.getD ((findRM nm d.list 0).1).toNat zMMd)).length : Nat) : Int) ≤ (((d.list.getD ((findRM nm d.list 0).1).toNat zMMd).2.2.2.2.2.2.1.list.getD ((findRM nm d.list 0).2).toNat zMExp).2.2.1)))) || (decide ((((gtypesP (d.list.getD ((findRM nm d.list 0).1).toNat zMMd)).getD (((d.list.getD ((findRM nm d.list 0).1).toNat zMMd).2.2.2.2.2.2.1.list.getD ((findRM nm d.list 0).2).toNat zMExp).2.2.1).toNat zMGt).1) ≠ (127 : Int)))))) (ag := true) (c := (((decide ((((d.list.getD ((findRM nm d.list 0).1).toNat zMMd).2.2.2.2.2.2.1.list.getD ((findRM nm d.list 0).2).toNat zMExp).2.2.1) < (((gtT (d.list.getD ((findRM nm d.list 0).1).toNat zMMd).2.1.list).length : Nat) : Int))) || (decide ((((gtypesP (d.list.getD ((findRM nm d.list 0).1).toNat zMMd)).length : Nat) : Int) ≤ (((d.list.getD ((findRM nm d.list 0).1).toNat zMMd).2.2.2.2.2.2.1.list.getD ((findRM nm d.list 0).2).toNat zMExp).2.2.1)))) || (decide ((((gtypesP (d.list.getD ((findRM nm d.list 0).1).toNat zMMd)).getD (((d.list.getD ((findRM nm d.list 0).1).toNat zMMd).2.2.2.2.2.2.1.list.getD ((findRM nm d.list 0).2).toNat zMExp).2.2.1).toNat zMGt).1) ≠ (127 : Int))))) (v := (.slice (some ⟨rb1, 0, none⟩) ((gtypesP (d.list.getD ((findRM nm d.list 0).1).toNat zMMd)).length) gyc)) hf rfl rfl rfl (fun hact => (r_move rfl)) rfl rfl ?_; clear hf fa; intro fa hf
        refine sqgF (act := (!(((decide ((((d.list.getD ((findRM nm d.list 0).1).toNat zMMd).2.2.2.2.2.2.1.list.getD ((findRM nm d.list 0).2).toNat zMExp).2.2.1) < (((gtT (d.list.getD ((findRM nm d.list 0).1).toNat zMMd).2.1.list).length : Nat) : Int))) || (decide ((((gtypesP (d.list.getD ((findRM nm d.list 0).1).toNat zMMd)).length : Nat) : Int) ≤ (((d.list.getD ((findRM nm d.list 0).1).toNat zMMd).2.2.2.2.2.2.1.list.getD ((findRM nm d.list 0).2).toNat zMExp).2.2.1)))) || (decide ((((gtypesP (d.list.getD ((findRM nm d.list 0).1).toNat zMMd)).getD (((d.list.getD ((findRM nm d.list 0).1).toNat zMMd).2.2.2.2.2.2.1.list.getD ((findRM nm d.list 0).2).toNat zMExp).2.2.1).toNat zMGt).1) ≠ (127 : Int)))))) (ag := true) (c := (((decide ((((d.list.getD ((findRM nm d.list 0).1).toNat zMMd).2.2.2.2.2.2.1.list.getD ((findRM nm d.list 0).2).toNat zMExp).2.2.1) < (((gtT (d.list.getD ((findRM nm d.list 0).1).toNat zMMd).2.1.list).length : Nat) : Int))) || (decide ((((gtypesP (d.list.getD ((findRM nm d.list 0).1).toNat zMMd)).length : Nat) : Int) ≤ (((d.list.getD ((findRM nm d.list 0).1).toNat zMMd).2.2.2.2.2.2.1.list.getD ((findRM nm d.list 0).2).toNat zMExp).2.2.1)))) || (decide ((((gtypesP (d.list.getD ((findRM nm d.list 0).1).toNat zMMd)).getD (((d.list.getD ((findRM nm d.list 0).1).toNat zMMd).2.2.2.2.2.2.1.list.getD ((findRM nm d.list 0).2).toNat zMExp).2.2.1).toNat zMGt).1) ≠ (127 : Int))))) (v := (.int .i64 (((d.list.getD ((findRM nm d.list 0).1).toNat zMMd).2.2.2.2.2.2.1.list.getD ((findRM nm d.list 0).2).toNat zMExp).2.2.1))) hf rfl rfl rfl (fun hact => (r_move rfl)) rfl rfl ?_; clear hf fa; intro fa hf
        have hy4 := getD_at (l := (gtypesP (d.list.getD ((findRM nm d.list 0).1).toNat zMMd))) (j := (((d.list.getD ((findRM nm d.list 0).1).toNat zMMd).2.2.2.2.2.2.1.list.getD ((findRM nm d.list 0).2).toNat zMExp).2.2.1).toNat) zMGt (by first | omega | (simp only [Sl.list_length, List.length_set, List.length_take, List.length_drop, List.length_append, List.length_replicate, List.length_cons, List.length_nil]; omega))
        have hel4 := RdS.at (Row.rd (by intros; rfl) hr1) hy4
        obtain ⟨_, _, hab, hlr2, hel4⟩ := hel4
        cases hab
        refine sqgF (act := (!(((decide ((((d.list.getD ((findRM nm d.list 0).1).toNat zMMd).2.2.2.2.2.2.1.list.getD ((findRM nm d.list 0).2).toNat zMExp).2.2.1) < (((gtT (d.list.getD ((findRM nm d.list 0).1).toNat zMMd).2.1.list).length : Nat) : Int))) || (decide ((((gtypesP (d.list.getD ((findRM nm d.list 0).1).toNat zMMd)).length : Nat) : Int) ≤ (((d.list.getD ((findRM nm d.list 0).1).toNat zMMd).2.2.2.2.2.2.1.list.getD ((findRM nm d.list 0).2).toNat zMExp).2.2.1)))) || (decide ((((gtypesP (d.list.getD ((findRM nm d.list 0).1).toNat zMMd)).getD (((d.list.getD ((findRM nm d.list 0).1).toNat zMMd).2.2.2.2.2.2.1.list.getD ((findRM nm d.list 0).2).toNat zMExp).2.2.1).toNat zMGt).1) ≠ (127 : Int)))))) (ag := true) (c := (((decide ((((d.list.getD ((findRM nm d.list 0).1).toNat zMMd).2.2.2.2.2.2.1.list.getD ((findRM nm d.list 0).2).toNat zMExp).2.2.1) < (((gtT (d.list.getD ((findRM nm d.list 0).1).toNat zMMd).2.1.list).length : Nat) : Int))) || (decide ((((gtypesP (d.list.getD ((findRM nm d.list 0).1).toNat zMMd)).length : Nat) : Int) ≤ (((d.list.getD ((findRM nm d.list 0).1).toNat zMMd).2.2.2.2.2.2.1.list.getD ((findRM nm d.list 0).2).toNat zMExp).2.2.1)))) || (decide ((((gtypesP (d.list.getD ((findRM nm d.list 0).1).toNat zMMd)).getD (((d.list.getD ((findRM nm d.list 0).1).toNat zMMd).2.2.2.2.2.2.1.list.getD ((findRM nm d.list 0).2).toNat zMExp).2.2.1).toNat zMGt).1) ≠ (127 : Int))))) (v := (.pointer (some ⟨rb1, (0 + (((d.list.getD ((findRM nm d.list 0).1).toNat zMMd).2.2.2.2.2.2.1.list.getD ((findRM nm d.list 0).2).toNat zMExp).2.2.1).toNat * 2), none⟩))) hf rfl rfl rfl (fun hact => (by have hact0 := hact; (try simp only [Bool.and_eq_true, Bool.not_eq_true', Bool.or_eq_false_iff, Bool.or_eq_true, Bool.and_eq_false_iff, ne_eq, decide_eq_true_eq, decide_eq_false_iff_not] at hact0); exact (r_ixa (sz := 2) (j := (((d.list.getD ((findRM nm d.list 0).1).toNat zMMd).2.2.2.2.2.2.1.list.getD ((findRM nm d.list 0).2).toNat zMExp).2.2.1).toNat) (gb_ev hact rfl) (gb_ev hact rfl) Try.underlying153 (by kernel_rfl) (by omega) (by omega) rfl))) rfl rfl ?_; clear hf fa; intro fa hf
        refine sqgF (act := (!(((decide ((((d.list.getD ((findRM nm d.list 0).1).toNat zMMd).2.2.2.2.2.2.1.list.getD ((findRM nm d.list 0).2).toNat zMExp).2.2.1) < (((gtT (d.list.getD ((findRM nm d.list 0).1).toNat zMMd).2.1.list).length : Nat) : Int))) || (decide ((((gtypesP (d.list.getD ((findRM nm d.list 0).1).toNat zMMd)).length : Nat) : Int) ≤ (((d.list.getD ((findRM nm d.list 0).1).toNat zMMd).2.2.2.2.2.2.1.list.getD ((findRM nm d.list 0).2).toNat zMExp).2.2.1)))) || (decide ((((gtypesP (d.list.getD ((findRM nm d.list 0).1).toNat zMMd)).getD (((d.list.getD ((findRM nm d.list 0).1).toNat zMMd).2.2.2.2.2.2.1.list.getD ((findRM nm d.list 0).2).toNat zMExp).2.2.1).toNat zMGt).1) ≠ (127 : Int)))))) (ag := true) (c := (((decide ((((d.list.getD ((findRM nm d.list 0).1).toNat zMMd).2.2.2.2.2.2.1.list.getD ((findRM nm d.list 0).2).toNat zMExp).2.2.1) < (((gtT (d.list.getD ((findRM nm d.list 0).1).toNat zMMd).2.1.list).length : Nat) : Int))) || (decide ((((gtypesP (d.list.getD ((findRM nm d.list 0).1).toNat zMMd)).length : Nat) : Int) ≤ (((d.list.getD ((findRM nm d.list 0).1).toNat zMMd).2.2.2.2.2.2.1.list.getD ((findRM nm d.list 0).2).toNat zMExp).2.2.1)))) || (decide ((((gtypesP (d.list.getD ((findRM nm d.list 0).1).toNat zMMd)).getD (((d.list.getD ((findRM nm d.list 0).1).toNat zMMd).2.2.2.2.2.2.1.list.getD ((findRM nm d.list 0).2).toNat zMExp).2.2.1).toNat zMGt).1) ≠ (127 : Int))))) (v := (.pointer (some ⟨rb1, ((0 + (((d.list.getD ((findRM nm d.list 0).1).toNat zMMd).2.2.2.2.2.2.1.list.getD ((findRM nm d.list 0).2).toNat zMExp).2.2.1).toNat * 2) + 1), none⟩))) hf rfl rfl rfl (fun hact => (r_fa (gb_ev hact rfl) Try.underlying101 (f := 1) (q := ((0 + (((d.list.getD ((findRM nm d.list 0).1).toNat zMMd).2.2.2.2.2.2.1.list.getD ((findRM nm d.list 0).2).toNat zMExp).2.2.1).toNat * 2) + 1)) rfl (by kernel_rfl) rfl)) rfl rfl ?_; clear hf fa; intro fa hf
        refine sqgF (act := (!(((decide ((((d.list.getD ((findRM nm d.list 0).1).toNat zMMd).2.2.2.2.2.2.1.list.getD ((findRM nm d.list 0).2).toNat zMExp).2.2.1) < (((gtT (d.list.getD ((findRM nm d.list 0).1).toNat zMMd).2.1.list).length : Nat) : Int))) || (decide ((((gtypesP (d.list.getD ((findRM nm d.list 0).1).toNat zMMd)).length : Nat) : Int) ≤ (((d.list.getD ((findRM nm d.list 0).1).toNat zMMd).2.2.2.2.2.2.1.list.getD ((findRM nm d.list 0).2).toNat zMExp).2.2.1)))) || (decide ((((gtypesP (d.list.getD ((findRM nm d.list 0).1).toNat zMMd)).getD (((d.list.getD ((findRM nm d.list 0).1).toNat zMMd).2.2.2.2.2.2.1.list.getD ((findRM nm d.list 0).2).toNat zMExp).2.2.1).toNat zMGt).1) ≠ (127 : Int)))))) (ag := true) (c := (((decide ((((d.list.getD ((findRM nm d.list 0).1).toNat zMMd).2.2.2.2.2.2.1.list.getD ((findRM nm d.list 0).2).toNat zMExp).2.2.1) < (((gtT (d.list.getD ((findRM nm d.list 0).1).toNat zMMd).2.1.list).length : Nat) : Int))) || (decide ((((gtypesP (d.list.getD ((findRM nm d.list 0).1).toNat zMMd)).length : Nat) : Int) ≤ (((d.list.getD ((findRM nm d.list 0).1).toNat zMMd).2.2.2.2.2.2.1.list.getD ((findRM nm d.list 0).2).toNat zMExp).2.2.1)))) || (decide ((((gtypesP (d.list.getD ((findRM nm d.list 0).1).toNat zMMd)).getD (((d.list.getD ((findRM nm d.list 0).1).toNat zMMd).2.2.2.2.2.2.1.list.getD ((findRM nm d.list 0).2).toNat zMExp).2.2.1).toNat zMGt).1) ≠ (127 : Int))))) (v := (.bool ((gtypesP (d.list.getD ((findRM nm d.list 0).1).toNat zMMd)).getD (((d.list.getD ((findRM nm d.list 0).1).toNat zMMd).2.2.2.2.2.2.1.list.getD ((findRM nm d.list 0).2).toNat zMExp).2.2.1).toNat zMGt).2.1)) hf rfl rfl rfl (fun hact => (r_load (v := (.bool ((gtypesP (d.list.getD ((findRM nm d.list 0).1).toNat zMMd)).getD (((d.list.getD ((findRM nm d.list 0).1).toNat zMMd).2.2.2.2.2.2.1.list.getD ((findRM nm d.list 0).2).toNat zMExp).2.2.1).toNat zMGt).2.1)) (gb_ev hact rfl) Try.underlying4 rfl (cellsAt_cell hel4 (i := 1) rfl rfl))) rfl rfl ?_; clear hf fa; intro fa hf
        refine sqv hf (r_pickO (b := (((decide ((((d.list.getD ((findRM nm d.list 0).1).toNat zMMd).2.2.2.2.2.2.1.list.getD ((findRM nm d.list 0).2).toNat zMExp).2.2.1) < (((gtT (d.list.getD ((findRM nm d.list 0).1).toNat zMMd).2.1.list).length : Nat) : Int))) || (decide ((((gtypesP (d.list.getD ((findRM nm d.list 0).1).toNat zMMd)).length : Nat) : Int) ≤ (((d.list.getD ((findRM nm d.list 0).1).toNat zMMd).2.2.2.2.2.2.1.list.getD ((findRM nm d.list 0).2).toNat zMExp).2.2.1)))) || (decide ((((gtypesP (d.list.getD ((findRM nm d.list 0).1).toNat zMMd)).getD (((d.list.getD ((findRM nm d.list 0).1).toNat zMMd).2.2.2.2.2.2.1.list.getD ((findRM nm d.list 0).2).toNat zMExp).2.2.1).toNat zMGt).1) ≠ (127 : Int))))) (e := ((gtypesP (d.list.getD ((findRM nm d.list 0).1).toNat zMMd)).getD (((d.list.getD ((findRM nm d.list 0).1).toNat zMMd).2.2.2.2.2.2.1.list.getD ((findRM nm d.list 0).2).toNat zMExp).2.2.1).toNat zMGt).2.1) rfl rfl rfl) rfl rfl rfl ?_; clear hf fa; intro fa hf
        apply wpList_nil
        (try simp only [Exit.then, Exit.inBlock, ↓reduceIte, Nat.reduceEqDiff])
        refine hK13 _ _ ?_
        refine wp_cond_split (t := ((((decide ((((d.list.getD ((findRM nm d.list 0).1).toNat zMMd).2.2.2.2.2.2.1.list.getD ((findRM nm d.list 0).2).toNat zMExp).2.2.1) < (((gtT (d.list.getD ((findRM nm d.list 0).1).toNat zMMd).2.1.list).length : Nat) : Int))) || (decide ((((gtypesP (d.list.getD ((findRM nm d.list 0).1).toNat zMMd)).length : Nat) : Int) ≤ (((d.list.getD ((findRM nm d.list 0).1).toNat zMMd).2.2.2.2.2.2.1.list.getD ((findRM nm d.list 0).2).toNat zMExp).2.2.1)))) || (decide ((((gtypesP (d.list.getD ((findRM nm d.list 0).1).toNat zMMd)).getD (((d.list.getD ((findRM nm d.list 0).1).toNat zMMd).2.2.2.2.2.2.1.list.getD ((findRM nm d.list 0).2).toNat zMExp).2.2.1).toNat zMGt).1) ≠ (127 : Int)))) || ((gtypesP (d.list.getD ((findRM nm d.list 0).1).toNat zMMd)).getD (((d.list.getD ((findRM nm d.list 0).1).toNat zMMd).2.2.2.2.2.2.1.list.getD ((findRM nm d.list 0).2).toNat zMExp).2.2.1).toNat zMGt).2.1)) (hf.ev rfl) (fun hqt66_1 => ?_) (fun hqt66_1 => ?_)
        · have hqt66_1b := hqt66_1
          try simp only [decide_eq_true_eq, Bool.and_eq_true, Bool.or_eq_true, Bool.not_eq_true', decide_eq_false_iff_not, ne_eq, Bool.not_eq_true] at hqt66_1
          refine wp_seq_k (fun K14 hK14 => ?_)
          refine wp_region_lit ?_
          refine sqv hf (r_assign rfl) rfl rfl rfl ?_; clear hf fa; intro fa hf
          refine sqv hf (r_assign rfl) rfl rfl rfl ?_; clear hf fa; intro fa hf
          refine sqv hf (r_assign rfl) rfl rfl rfl ?_; clear hf fa; intro fa hf
          apply wpList_nil
          (try simp only [Exit.then, Exit.inBlock, ↓reduceIte, Nat.reduceEqDiff])
          refine hK14 _ _ ?_
          refine wp_ret ?_
          (try simp only [Exit.then, Exit.inBlock])
          refine ret3 hf rfl rfl rfl rfl ?_
          refine ⟨?_, hb⟩; unfold rdataP; rw [hqt20_1b, hqt31_1b, hsp1b, hqt66_1b]; (try rfl)
        · have hqt66_1b := hqt66_1
          replace hqt66_1 := Bool.eq_false_iff.1 hqt66_1
          try simp only [ne_eq, decide_eq_true_eq, Bool.and_eq_true, Bool.or_eq_true, Bool.not_eq_true', decide_eq_false_iff_not] at hqt66_1
          refine wp_skip ?_
          (try simp only [Exit.then, Exit.inBlock, ↓reduceIte, Nat.reduceEqDiff])
          refine hK12 _ _ ?_
          refine wp_seq_k (fun K15 hK15 => ?_)
          refine wp_region_un (fun wq => Below w4.heap.size w4 wq) (fun w w' => Below w.heap.size w w')
            (fun V => [(fun x _ => x = (.int .i64 ((findRM nm d.list 0).1))), (fun x _ => x = (.pointer (some ⟨b1, 2, none⟩))), (fun x _ => x = (.int .u32 (((d.list.getD ((findRM nm d.list 0).1).toNat zMMd).2.2.2.2.2.2.1.list.getD ((findRM nm d.list 0).2).toNat zMExp).2.2.1))), (fun x _ => x = (.int .i64 ((findRM nm d.list 0).1))), (fun x _ => x = (.int .u32 (((d.list.getD ((findRM nm d.list 0).1).toNat zMMd).2.2.2.2.2.2.1.list.getD ((findRM nm d.list 0).2).toNat zMExp).2.2.1))), (fun x _ => x = (.int .i64 (0 : Int)))])
            []
            [[], [], [1], [0], [0, 1, 2, 3], [0, 1, 2, 3, 4]]
            hf (by kernel_rfl) (by kernel_rfl) (fun _ => rfl) ((Below.refl _ _).drew) (fun a b h1 h2 => h1.trans (h2.mono h1.size)) (fun _ _ h => h.size) (fun V => ⟨kept_eq, kept_eq, kept_eq, kept_eq, kept_eq, kept_eq, trivial⟩) (fun _ _ _ _ _ => rfl) ?_ ?_
          · skip
            intro V
            refine ⟨fun wu0 hC hd => ?_, ?_⟩
            · clear hd
              replace hb := hb.trans (hC.mono hb.size)
              replace hk2 := blk_ext hk2 hC
              replace hr1 := Row.ext hr1 hC
              exact Runs.does (r_move rfl) ⟨Below.refl _ _, rfl, nofr rfl⟩
            refine ⟨fun wu1 hC hd => ?_, ?_⟩
            · clear hd
              replace hb := hb.trans (hC.mono hb.size)
              replace hk2 := blk_ext hk2 hC
              replace hr1 := Row.ext hr1 hC
              exact Runs.does (r_fa rfl Try.underlying94 (f := 2) (q := 2) rfl (by kernel_rfl) rfl) ⟨Below.refl _ _, rfl, nofr rfl⟩
            refine ⟨fun wu2 hC hd => ?_, ?_⟩
            · obtain ⟨h1, _⟩ := hd
              skip
              replace h1 : V 1 = (.pointer (some ⟨b1, 2, none⟩)) := h1
              replace hb := hb.trans (hC.mono hb.size)
              replace hk2 := blk_ext hk2 hC
              replace hr1 := Row.ext hr1 hC
              exact Runs.does (r_load (v := (.int .u32 (((d.list.getD ((findRM nm d.list 0).1).toNat zMMd).2.2.2.2.2.2.1.list.getD ((findRM nm d.list 0).2).toNat zMExp).2.2.1))) (congrArg some h1) Try.underlying44 rfl (cell_blk hk2 rfl)) ⟨Below.refl _ _, rfl, nofr rfl⟩
            refine ⟨fun wu3 hC hd => ?_, ?_⟩
            · obtain ⟨h0, _⟩ := hd
              skip
              replace h0 : V 0 = (.int .i64 ((findRM nm d.list 0).1)) := h0
              replace hb := hb.trans (hC.mono hb.size)
              replace hk2 := blk_ext hk2 hC
              replace hr1 := Row.ext hr1 hC
              exact Runs.does (r_assign (congrArg some h0)) ⟨Below.refl _ _, rfl, nofr rfl⟩
            refine ⟨fun wu4 hC hd => ?_, ?_⟩
            · obtain ⟨h0, h1, h2, h3, _⟩ := hd
              skip
              skip
              skip
              skip
              replace h0 : V 0 = (.int .i64 ((findRM nm d.list 0).1)) := h0
              replace h1 : V 1 = (.pointer (some ⟨b1, 2, none⟩)) := h1
              replace h2 : V 2 = (.int .u32 (((d.list.getD ((findRM nm d.list 0).1).toNat zMMd).2.2.2.2.2.2.1.list.getD ((findRM nm d.list 0).2).toNat zMExp).2.2.1)) := h2
              replace h3 : V 3 = (.int .i64 ((findRM nm d.list 0).1)) := h3
              replace hb := hb.trans (hC.mono hb.size)
              replace hk2 := blk_ext hk2 hC
              replace hr1 := Row.ext hr1 hC
              exact Runs.does (r_assign (congrArg some h2)) ⟨Below.refl _ _, rfl, nofr rfl⟩
            refine ⟨fun wu5 hC hd => ?_, ?_⟩
            · obtain ⟨h0, h1, h2, h3, h4, _⟩ := hd
              skip
              skip
              skip
              skip
              skip
              replace h0 : V 0 = (.int .i64 ((findRM nm d.list 0).1)) := h0
              replace h1 : V 1 = (.pointer (some ⟨b1, 2, none⟩)) := h1
              replace h2 : V 2 = (.int .u32 (((d.list.getD ((findRM nm d.list 0).1).toNat zMMd).2.2.2.2.2.2.1.list.getD ((findRM nm d.list 0).2).toNat zMExp).2.2.1)) := h2
              replace h3 : V 3 = (.int .i64 ((findRM nm d.list 0).1)) := h3
              replace h4 : V 4 = (.int .u32 (((d.list.getD ((findRM nm d.list 0).1).toNat zMMd).2.2.2.2.2.2.1.list.getD ((findRM nm d.list 0).2).toNat zMExp).2.2.1)) := h4
              replace hb := hb.trans (hC.mono hb.size)
              replace hk2 := blk_ext hk2 hC
              replace hr1 := Row.ext hr1 hC
              exact Runs.does (r_assign rfl) ⟨Below.refl _ _, rfl, nofr rfl⟩
            trivial
          · skip
            clear hf fa; intro V w5 fa he4 hp hnb hf
            have hv0 : V 0 = (.int .i64 ((findRM nm d.list 0).1)) := postsHold_at hp 0 rfl
            have hv1 : V 1 = (.pointer (some ⟨b1, 2, none⟩)) := postsHold_at hp 1 rfl
            have hv2 : V 2 = (.int .u32 (((d.list.getD ((findRM nm d.list 0).1).toNat zMMd).2.2.2.2.2.2.1.list.getD ((findRM nm d.list 0).2).toNat zMExp).2.2.1)) := postsHold_at hp 2 rfl
            have hv3 : V 3 = (.int .i64 ((findRM nm d.list 0).1)) := postsHold_at hp 3 rfl
            have hv4 : V 4 = (.int .u32 (((d.list.getD ((findRM nm d.list 0).1).toNat zMMd).2.2.2.2.2.2.1.list.getD ((findRM nm d.list 0).2).toNat zMExp).2.2.1)) := postsHold_at hp 4 rfl
            have hv5 : V 5 = (.int .i64 (0 : Int)) := postsHold_at hp 5 rfl
            simp only [List.take_succ_cons, List.take_zero, insAll, ins, hv0, hv1, hv2, hv3, hv4, hv5] at hf
            clear hp hnb hv0 hv1 hv2 hv3 hv4 hv5
            replace hk2 := blk_ext hk2 he4
            replace hr1 := Row.ext hr1 he4
            replace hb := hb.trans (Below.mono he4 hb.size)
            (try simp only [Exit.then, Exit.inBlock, ↓reduceIte, Nat.reduceEqDiff])
            refine hK15 _ _ ?_
            refine wp_ret ?_
            (try simp only [Exit.then, Exit.inBlock])
            refine ret3 hf rfl rfl rfl rfl ?_
            refine ⟨?_, hb⟩; unfold rdataP; rw [hqt20_1b, hqt31_1b, hsp1b, hqt66_1b]; (try rfl)
      · have hsp1b : decide ((((d.list.getD ((findRM nm d.list 0).1).toNat zMMd).2.2.2.2.2.2.1.list.getD ((findRM nm d.list 0).2).toNat zMExp).2.2.1).toNat < (gtypesP (d.list.getD ((findRM nm d.list 0).1).toNat zMMd)).length) = false := decide_eq_false hsp1
        refine wp_region_lit ?_
        refine sqv hf (r_move rfl) rfl rfl rfl ?_; clear hf fa; intro fa hf
        refine sqv hf (r_move rfl) rfl rfl rfl ?_; clear hf fa; intro fa hf
        refine sqv hf (r_lt rfl rfl) rfl rfl rfl ?_; clear hf fa; intro fa hf
        refine sqv hf (r_move rfl) rfl rfl rfl ?_; clear hf fa; intro fa hf
        refine sqgF (act := (!(decide ((((d.list.getD ((findRM nm d.list 0).1).toNat zMMd).2.2.2.2.2.2.1.list.getD ((findRM nm d.list 0).2).toNat zMExp).2.2.1) < (((gtT (d.list.getD ((findRM nm d.list 0).1).toNat zMMd).2.1.list).length : Nat) : Int))))) (ag := true) (c := (decide ((((d.list.getD ((findRM nm d.list 0).1).toNat zMMd).2.2.2.2.2.2.1.list.getD ((findRM nm d.list 0).2).toNat zMExp).2.2.1) < (((gtT (d.list.getD ((findRM nm d.list 0).1).toNat zMMd).2.1.list).length : Nat) : Int)))) (v := (.int .i64 (((d.list.getD ((findRM nm d.list 0).1).toNat zMMd).2.2.2.2.2.2.1.list.getD ((findRM nm d.list 0).2).toNat zMExp).2.2.1))) hf rfl rfl rfl (fun hact => (r_move rfl)) rfl rfl ?_; clear hf fa; intro fa hf
        refine sqgF (act := (!(decide ((((d.list.getD ((findRM nm d.list 0).1).toNat zMMd).2.2.2.2.2.2.1.list.getD ((findRM nm d.list 0).2).toNat zMExp).2.2.1) < (((gtT (d.list.getD ((findRM nm d.list 0).1).toNat zMMd).2.1.list).length : Nat) : Int))))) (ag := true) (c := (decide ((((d.list.getD ((findRM nm d.list 0).1).toNat zMMd).2.2.2.2.2.2.1.list.getD ((findRM nm d.list 0).2).toNat zMExp).2.2.1) < (((gtT (d.list.getD ((findRM nm d.list 0).1).toNat zMMd).2.1.list).length : Nat) : Int)))) (v := (.slice gya ((gtypesP (d.list.getD ((findRM nm d.list 0).1).toNat zMMd)).length) gyc)) hf rfl rfl rfl (fun hact => (r_move rfl)) rfl rfl ?_; clear hf fa; intro fa hf
        refine sqgF (act := (!(decide ((((d.list.getD ((findRM nm d.list 0).1).toNat zMMd).2.2.2.2.2.2.1.list.getD ((findRM nm d.list 0).2).toNat zMExp).2.2.1) < (((gtT (d.list.getD ((findRM nm d.list 0).1).toNat zMMd).2.1.list).length : Nat) : Int))))) (ag := true) (c := (decide ((((d.list.getD ((findRM nm d.list 0).1).toNat zMMd).2.2.2.2.2.2.1.list.getD ((findRM nm d.list 0).2).toNat zMExp).2.2.1) < (((gtT (d.list.getD ((findRM nm d.list 0).1).toNat zMMd).2.1.list).length : Nat) : Int)))) (v := (.int .i64 (((gtypesP (d.list.getD ((findRM nm d.list 0).1).toNat zMMd)).length : Nat) : Int))) hf rfl rfl rfl (fun hact => (r_lensl (gb_ev hact rfl) Try.underlying153)) rfl rfl ?_; clear hf fa; intro fa hf
        refine sqgF (act := (!(decide ((((d.list.getD ((findRM nm d.list 0).1).toNat zMMd).2.2.2.2.2.2.1.list.getD ((findRM nm d.list 0).2).toNat zMExp).2.2.1) < (((gtT (d.list.getD ((findRM nm d.list 0).1).toNat zMMd).2.1.list).length : Nat) : Int))))) (ag := true) (c := (decide ((((d.list.getD ((findRM nm d.list 0).1).toNat zMMd).2.2.2.2.2.2.1.list.getD ((findRM nm d.list 0).2).toNat zMExp).2.2.1) < (((gtT (d.list.getD ((findRM nm d.list 0).1).toNat zMMd).2.1.list).length : Nat) : Int)))) (v := (.bool (decide ((((gtypesP (d.list.getD ((findRM nm d.list 0).1).toNat zMMd)).length : Nat) : Int) ≤ (((d.list.getD ((findRM nm d.list 0).1).toNat zMMd).2.2.2.2.2.2.1.list.getD ((findRM nm d.list 0).2).toNat zMExp).2.2.1))))) hf rfl rfl rfl (fun hact => (r_ge (gb_ev hact rfl) (gb_ev hact rfl))) rfl rfl ?_; clear hf fa; intro fa hf
        refine sqv hf (r_pickO (b := (decide ((((d.list.getD ((findRM nm d.list 0).1).toNat zMMd).2.2.2.2.2.2.1.list.getD ((findRM nm d.list 0).2).toNat zMExp).2.2.1) < (((gtT (d.list.getD ((findRM nm d.list 0).1).toNat zMMd).2.1.list).length : Nat) : Int)))) (e := (decide ((((gtypesP (d.list.getD ((findRM nm d.list 0).1).toNat zMMd)).length : Nat) : Int) ≤ (((d.list.getD ((findRM nm d.list 0).1).toNat zMMd).2.2.2.2.2.2.1.list.getD ((findRM nm d.list 0).2).toNat zMExp).2.2.1)))) rfl rfl rfl) rfl rfl rfl ?_; clear hf fa; intro fa hf
        refine sqv hf (r_move rfl) rfl rfl rfl ?_; clear hf fa; intro fa hf
        refine sqgF (act := (!((decide ((((d.list.getD ((findRM nm d.list 0).1).toNat zMMd).2.2.2.2.2.2.1.list.getD ((findRM nm d.list 0).2).toNat zMExp).2.2.1) < (((gtT (d.list.getD ((findRM nm d.list 0).1).toNat zMMd).2.1.list).length : Nat) : Int))) || (decide ((((gtypesP (d.list.getD ((findRM nm d.list 0).1).toNat zMMd)).length : Nat) : Int) ≤ (((d.list.getD ((findRM nm d.list 0).1).toNat zMMd).2.2.2.2.2.2.1.list.getD ((findRM nm d.list 0).2).toNat zMExp).2.2.1)))))) (ag := true) (c := ((decide ((((d.list.getD ((findRM nm d.list 0).1).toNat zMMd).2.2.2.2.2.2.1.list.getD ((findRM nm d.list 0).2).toNat zMExp).2.2.1) < (((gtT (d.list.getD ((findRM nm d.list 0).1).toNat zMMd).2.1.list).length : Nat) : Int))) || (decide ((((gtypesP (d.list.getD ((findRM nm d.list 0).1).toNat zMMd)).length : Nat) : Int) ≤ (((d.list.getD ((findRM nm d.list 0).1).toNat zMMd).2.2.2.2.2.2.1.list.getD ((findRM nm d.list 0).2).toNat zMExp).2.2.1))))) (v := (.slice gya ((gtypesP (d.list.getD ((findRM nm d.list 0).1).toNat zMMd)).length) gyc)) hf rfl rfl rfl (fun hact => (r_move rfl)) rfl rfl ?_; clear hf fa; intro fa hf
        refine sqgF (act := (!((decide ((((d.list.getD ((findRM nm d.list 0).1).toNat zMMd).2.2.2.2.2.2.1.list.getD ((findRM nm d.list 0).2).toNat zMExp).2.2.1) < (((gtT (d.list.getD ((findRM nm d.list 0).1).toNat zMMd).2.1.list).length : Nat) : Int))) || (decide ((((gtypesP (d.list.getD ((findRM nm d.list 0).1).toNat zMMd)).length : Nat) : Int) ≤ (((d.list.getD ((findRM nm d.list 0).1).toNat zMMd).2.2.2.2.2.2.1.list.getD ((findRM nm d.list 0).2).toNat zMExp).2.2.1)))))) (ag := true) (c := ((decide ((((d.list.getD ((findRM nm d.list 0).1).toNat zMMd).2.2.2.2.2.2.1.list.getD ((findRM nm d.list 0).2).toNat zMExp).2.2.1) < (((gtT (d.list.getD ((findRM nm d.list 0).1).toNat zMMd).2.1.list).length : Nat) : Int))) || (decide ((((gtypesP (d.list.getD ((findRM nm d.list 0).1).toNat zMMd)).length : Nat) : Int) ≤ (((d.list.getD ((findRM nm d.list 0).1).toNat zMMd).2.2.2.2.2.2.1.list.getD ((findRM nm d.list 0).2).toNat zMExp).2.2.1))))) (v := (.int .i64 (((d.list.getD ((findRM nm d.list 0).1).toNat zMMd).2.2.2.2.2.2.1.list.getD ((findRM nm d.list 0).2).toNat zMExp).2.2.1))) hf rfl rfl rfl (fun hact => (r_move rfl)) rfl rfl ?_; clear hf fa; intro fa hf
        refine sqgF (act := (!((decide ((((d.list.getD ((findRM nm d.list 0).1).toNat zMMd).2.2.2.2.2.2.1.list.getD ((findRM nm d.list 0).2).toNat zMExp).2.2.1) < (((gtT (d.list.getD ((findRM nm d.list 0).1).toNat zMMd).2.1.list).length : Nat) : Int))) || (decide ((((gtypesP (d.list.getD ((findRM nm d.list 0).1).toNat zMMd)).length : Nat) : Int) ≤ (((d.list.getD ((findRM nm d.list 0).1).toNat zMMd).2.2.2.2.2.2.1.list.getD ((findRM nm d.list 0).2).toNat zMExp).2.2.1)))))) (ag := true) (c := ((decide ((((d.list.getD ((findRM nm d.list 0).1).toNat zMMd).2.2.2.2.2.2.1.list.getD ((findRM nm d.list 0).2).toNat zMExp).2.2.1) < (((gtT (d.list.getD ((findRM nm d.list 0).1).toNat zMMd).2.1.list).length : Nat) : Int))) || (decide ((((gtypesP (d.list.getD ((findRM nm d.list 0).1).toNat zMMd)).length : Nat) : Int) ≤ (((d.list.getD ((findRM nm d.list 0).1).toNat zMMd).2.2.2.2.2.2.1.list.getD ((findRM nm d.list 0).2).toNat zMExp).2.2.1))))) (v := (.bool false)) hf rfl rfl rfl (fun hact => (by have hact0 := hact; (try simp only [Bool.and_eq_true, Bool.not_eq_true', Bool.or_eq_false_iff, Bool.or_eq_true, Bool.and_eq_false_iff, ne_eq, decide_eq_true_eq, decide_eq_false_iff_not] at hact0); exact (absurd hact (by simp only [Bool.not_eq_true', Bool.or_eq_false_iff, decide_eq_false_iff_not]; omega)))) rfl rfl ?_; clear hf fa; intro fa hf
        refine sqgF (act := (!((decide ((((d.list.getD ((findRM nm d.list 0).1).toNat zMMd).2.2.2.2.2.2.1.list.getD ((findRM nm d.list 0).2).toNat zMExp).2.2.1) < (((gtT (d.list.getD ((findRM nm d.list 0).1).toNat zMMd).2.1.list).length : Nat) : Int))) || (decide ((((gtypesP (d.list.getD ((findRM nm d.list 0).1).toNat zMMd)).length : Nat) : Int) ≤ (((d.list.getD ((findRM nm d.list 0).1).toNat zMMd).2.2.2.2.2.2.1.list.getD ((findRM nm d.list 0).2).toNat zMExp).2.2.1)))))) (ag := true) (c := ((decide ((((d.list.getD ((findRM nm d.list 0).1).toNat zMMd).2.2.2.2.2.2.1.list.getD ((findRM nm d.list 0).2).toNat zMExp).2.2.1) < (((gtT (d.list.getD ((findRM nm d.list 0).1).toNat zMMd).2.1.list).length : Nat) : Int))) || (decide ((((gtypesP (d.list.getD ((findRM nm d.list 0).1).toNat zMMd)).length : Nat) : Int) ≤ (((d.list.getD ((findRM nm d.list 0).1).toNat zMMd).2.2.2.2.2.2.1.list.getD ((findRM nm d.list 0).2).toNat zMExp).2.2.1))))) (v := (.bool false)) hf rfl rfl rfl (fun hact => (by have hact0 := hact; (try simp only [Bool.and_eq_true, Bool.not_eq_true', Bool.or_eq_false_iff, Bool.or_eq_true, Bool.and_eq_false_iff, ne_eq, decide_eq_true_eq, decide_eq_false_iff_not] at hact0); exact (absurd hact (by simp only [Bool.not_eq_true', Bool.or_eq_false_iff, decide_eq_false_iff_not]; omega)))) rfl rfl ?_; clear hf fa; intro fa hf
        refine sqgF (act := (!((decide ((((d.list.getD ((findRM nm d.list 0).1).toNat zMMd).2.2.2.2.2.2.1.list.getD ((findRM nm d.list 0).2).toNat zMExp).2.2.1) < (((gtT (d.list.getD ((findRM nm d.list 0).1).toNat zMMd).2.1.list).length : Nat) : Int))) || (decide ((((gtypesP (d.list.getD ((findRM nm d.list 0).1).toNat zMMd)).length : Nat) : Int) ≤ (((d.list.getD ((findRM nm d.list 0).1).toNat zMMd).2.2.2.2.2.2.1.list.getD ((findRM nm d.list 0).2).toNat zMExp).2.2.1)))))) (ag := true) (c := ((decide ((((d.list.getD ((findRM nm d.list 0).1).toNat zMMd).2.2.2.2.2.2.1.list.getD ((findRM nm d.list 0).2).toNat zMExp).2.2.1) < (((gtT (d.list.getD ((findRM nm d.list 0).1).toNat zMMd).2.1.list).length : Nat) : Int))) || (decide ((((gtypesP (d.list.getD ((findRM nm d.list 0).1).toNat zMMd)).length : Nat) : Int) ≤ (((d.list.getD ((findRM nm d.list 0).1).toNat zMMd).2.2.2.2.2.2.1.list.getD ((findRM nm d.list 0).2).toNat zMExp).2.2.1))))) (v := (.bool false)) hf rfl rfl rfl (fun hact => (by have hact0 := hact; (try simp only [Bool.and_eq_true, Bool.not_eq_true', Bool.or_eq_false_iff, Bool.or_eq_true, Bool.and_eq_false_iff, ne_eq, decide_eq_true_eq, decide_eq_false_iff_not] at hact0); exact (absurd hact (by simp only [Bool.not_eq_true', Bool.or_eq_false_iff, decide_eq_false_iff_not]; omega)))) rfl rfl ?_; clear hf fa; intro fa hf
        refine sqgF (act := (!((decide ((((d.list.getD ((findRM nm d.list 0).1).toNat zMMd).2.2.2.2.2.2.1.list.getD ((findRM nm d.list 0).2).toNat zMExp).2.2.1) < (((gtT (d.list.getD ((findRM nm d.list 0).1).toNat zMMd).2.1.list).length : Nat) : Int))) || (decide ((((gtypesP (d.list.getD ((findRM nm d.list 0).1).toNat zMMd)).length : Nat) : Int) ≤ (((d.list.getD ((findRM nm d.list 0).1).toNat zMMd).2.2.2.2.2.2.1.list.getD ((findRM nm d.list 0).2).toNat zMExp).2.2.1)))))) (ag := true) (c := ((decide ((((d.list.getD ((findRM nm d.list 0).1).toNat zMMd).2.2.2.2.2.2.1.list.getD ((findRM nm d.list 0).2).toNat zMExp).2.2.1) < (((gtT (d.list.getD ((findRM nm d.list 0).1).toNat zMMd).2.1.list).length : Nat) : Int))) || (decide ((((gtypesP (d.list.getD ((findRM nm d.list 0).1).toNat zMMd)).length : Nat) : Int) ≤ (((d.list.getD ((findRM nm d.list 0).1).toNat zMMd).2.2.2.2.2.2.1.list.getD ((findRM nm d.list 0).2).toNat zMExp).2.2.1))))) (v := (.bool false)) hf rfl rfl rfl (fun hact => (by have hact0 := hact; (try simp only [Bool.and_eq_true, Bool.not_eq_true', Bool.or_eq_false_iff, Bool.or_eq_true, Bool.and_eq_false_iff, ne_eq, decide_eq_true_eq, decide_eq_false_iff_not] at hact0); exact (absurd hact (by simp only [Bool.not_eq_true', Bool.or_eq_false_iff, decide_eq_false_iff_not]; omega)))) rfl rfl ?_; clear hf fa; intro fa hf
        refine sqv hf (r_pickO (b := ((decide ((((d.list.getD ((findRM nm d.list 0).1).toNat zMMd).2.2.2.2.2.2.1.list.getD ((findRM nm d.list 0).2).toNat zMExp).2.2.1) < (((gtT (d.list.getD ((findRM nm d.list 0).1).toNat zMMd).2.1.list).length : Nat) : Int))) || (decide ((((gtypesP (d.list.getD ((findRM nm d.list 0).1).toNat zMMd)).length : Nat) : Int) ≤ (((d.list.getD ((findRM nm d.list 0).1).toNat zMMd).2.2.2.2.2.2.1.list.getD ((findRM nm d.list 0).2).toNat zMExp).2.2.1))))) (e := false) rfl rfl rfl) rfl rfl rfl ?_; clear hf fa; intro fa hf
        refine sqv hf (r_move rfl) rfl rfl rfl ?_; clear hf fa; intro fa hf
        refine sqgF (act := (!(((decide ((((d.list.getD ((findRM nm d.list 0).1).toNat zMMd).2.2.2.2.2.2.1.list.getD ((findRM nm d.list 0).2).toNat zMExp).2.2.1) < (((gtT (d.list.getD ((findRM nm d.list 0).1).toNat zMMd).2.1.list).length : Nat) : Int))) || (decide ((((gtypesP (d.list.getD ((findRM nm d.list 0).1).toNat zMMd)).length : Nat) : Int) ≤ (((d.list.getD ((findRM nm d.list 0).1).toNat zMMd).2.2.2.2.2.2.1.list.getD ((findRM nm d.list 0).2).toNat zMExp).2.2.1)))) || false))) (ag := true) (c := (((decide ((((d.list.getD ((findRM nm d.list 0).1).toNat zMMd).2.2.2.2.2.2.1.list.getD ((findRM nm d.list 0).2).toNat zMExp).2.2.1) < (((gtT (d.list.getD ((findRM nm d.list 0).1).toNat zMMd).2.1.list).length : Nat) : Int))) || (decide ((((gtypesP (d.list.getD ((findRM nm d.list 0).1).toNat zMMd)).length : Nat) : Int) ≤ (((d.list.getD ((findRM nm d.list 0).1).toNat zMMd).2.2.2.2.2.2.1.list.getD ((findRM nm d.list 0).2).toNat zMExp).2.2.1)))) || false)) (v := (.slice gya ((gtypesP (d.list.getD ((findRM nm d.list 0).1).toNat zMMd)).length) gyc)) hf rfl rfl rfl (fun hact => (r_move rfl)) rfl rfl ?_; clear hf fa; intro fa hf
        refine sqgF (act := (!(((decide ((((d.list.getD ((findRM nm d.list 0).1).toNat zMMd).2.2.2.2.2.2.1.list.getD ((findRM nm d.list 0).2).toNat zMExp).2.2.1) < (((gtT (d.list.getD ((findRM nm d.list 0).1).toNat zMMd).2.1.list).length : Nat) : Int))) || (decide ((((gtypesP (d.list.getD ((findRM nm d.list 0).1).toNat zMMd)).length : Nat) : Int) ≤ (((d.list.getD ((findRM nm d.list 0).1).toNat zMMd).2.2.2.2.2.2.1.list.getD ((findRM nm d.list 0).2).toNat zMExp).2.2.1)))) || false))) (ag := true) (c := (((decide ((((d.list.getD ((findRM nm d.list 0).1).toNat zMMd).2.2.2.2.2.2.1.list.getD ((findRM nm d.list 0).2).toNat zMExp).2.2.1) < (((gtT (d.list.getD ((findRM nm d.list 0).1).toNat zMMd).2.1.list).length : Nat) : Int))) || (decide ((((gtypesP (d.list.getD ((findRM nm d.list 0).1).toNat zMMd)).length : Nat) : Int) ≤ (((d.list.getD ((findRM nm d.list 0).1).toNat zMMd).2.2.2.2.2.2.1.list.getD ((findRM nm d.list 0).2).toNat zMExp).2.2.1)))) || false)) (v := (.int .i64 (((d.list.getD ((findRM nm d.list 0).1).toNat zMMd).2.2.2.2.2.2.1.list.getD ((findRM nm d.list 0).2).toNat zMExp).2.2.1))) hf rfl rfl rfl (fun hact => (r_move rfl)) rfl rfl ?_; clear hf fa; intro fa hf
        refine sqgF (act := (!(((decide ((((d.list.getD ((findRM nm d.list 0).1).toNat zMMd).2.2.2.2.2.2.1.list.getD ((findRM nm d.list 0).2).toNat zMExp).2.2.1) < (((gtT (d.list.getD ((findRM nm d.list 0).1).toNat zMMd).2.1.list).length : Nat) : Int))) || (decide ((((gtypesP (d.list.getD ((findRM nm d.list 0).1).toNat zMMd)).length : Nat) : Int) ≤ (((d.list.getD ((findRM nm d.list 0).1).toNat zMMd).2.2.2.2.2.2.1.list.getD ((findRM nm d.list 0).2).toNat zMExp).2.2.1)))) || false))) (ag := true) (c := (((decide ((((d.list.getD ((findRM nm d.list 0).1).toNat zMMd).2.2.2.2.2.2.1.list.getD ((findRM nm d.list 0).2).toNat zMExp).2.2.1) < (((gtT (d.list.getD ((findRM nm d.list 0).1).toNat zMMd).2.1.list).length : Nat) : Int))) || (decide ((((gtypesP (d.list.getD ((findRM nm d.list 0).1).toNat zMMd)).length : Nat) : Int) ≤ (((d.list.getD ((findRM nm d.list 0).1).toNat zMMd).2.2.2.2.2.2.1.list.getD ((findRM nm d.list 0).2).toNat zMExp).2.2.1)))) || false)) (v := (.bool false)) hf rfl rfl rfl (fun hact => (by have hact0 := hact; (try simp only [Bool.and_eq_true, Bool.not_eq_true', Bool.or_eq_false_iff, Bool.or_eq_true, Bool.and_eq_false_iff, ne_eq, decide_eq_true_eq, decide_eq_false_iff_not] at hact0); exact (absurd hact (by simp only [Bool.not_eq_true', Bool.or_eq_false_iff, decide_eq_false_iff_not]; omega)))) rfl rfl ?_; clear hf fa; intro fa hf
        refine sqgF (act := (!(((decide ((((d.list.getD ((findRM nm d.list 0).1).toNat zMMd).2.2.2.2.2.2.1.list.getD ((findRM nm d.list 0).2).toNat zMExp).2.2.1) < (((gtT (d.list.getD ((findRM nm d.list 0).1).toNat zMMd).2.1.list).length : Nat) : Int))) || (decide ((((gtypesP (d.list.getD ((findRM nm d.list 0).1).toNat zMMd)).length : Nat) : Int) ≤ (((d.list.getD ((findRM nm d.list 0).1).toNat zMMd).2.2.2.2.2.2.1.list.getD ((findRM nm d.list 0).2).toNat zMExp).2.2.1)))) || false))) (ag := true) (c := (((decide ((((d.list.getD ((findRM nm d.list 0).1).toNat zMMd).2.2.2.2.2.2.1.list.getD ((findRM nm d.list 0).2).toNat zMExp).2.2.1) < (((gtT (d.list.getD ((findRM nm d.list 0).1).toNat zMMd).2.1.list).length : Nat) : Int))) || (decide ((((gtypesP (d.list.getD ((findRM nm d.list 0).1).toNat zMMd)).length : Nat) : Int) ≤ (((d.list.getD ((findRM nm d.list 0).1).toNat zMMd).2.2.2.2.2.2.1.list.getD ((findRM nm d.list 0).2).toNat zMExp).2.2.1)))) || false)) (v := (.bool false)) hf rfl rfl rfl (fun hact => (by have hact0 := hact; (try simp only [Bool.and_eq_true, Bool.not_eq_true', Bool.or_eq_false_iff, Bool.or_eq_true, Bool.and_eq_false_iff, ne_eq, decide_eq_true_eq, decide_eq_false_iff_not] at hact0); exact (absurd hact (by simp only [Bool.not_eq_true', Bool.or_eq_false_iff, decide_eq_false_iff_not]; omega)))) rfl rfl ?_; clear hf fa; intro fa hf
        refine sqgF (act := (!(((decide ((((d.list.getD ((findRM nm d.list 0).1).toNat zMMd).2.2.2.2.2.2.1.list.getD ((findRM nm d.list 0).2).toNat zMExp).2.2.1) < (((gtT (d.list.getD ((findRM nm d.list 0).1).toNat zMMd).2.1.list).length : Nat) : Int))) || (decide ((((gtypesP (d.list.getD ((findRM nm d.list 0).1).toNat zMMd)).length : Nat) : Int) ≤ (((d.list.getD ((findRM nm d.list 0).1).toNat zMMd).2.2.2.2.2.2.1.list.getD ((findRM nm d.list 0).2).toNat zMExp).2.2.1)))) || false))) (ag := true) (c := (((decide ((((d.list.getD ((findRM nm d.list 0).1).toNat zMMd).2.2.2.2.2.2.1.list.getD ((findRM nm d.list 0).2).toNat zMExp).2.2.1) < (((gtT (d.list.getD ((findRM nm d.list 0).1).toNat zMMd).2.1.list).length : Nat) : Int))) || (decide ((((gtypesP (d.list.getD ((findRM nm d.list 0).1).toNat zMMd)).length : Nat) : Int) ≤ (((d.list.getD ((findRM nm d.list 0).1).toNat zMMd).2.2.2.2.2.2.1.list.getD ((findRM nm d.list 0).2).toNat zMExp).2.2.1)))) || false)) (v := (.bool false)) hf rfl rfl rfl (fun hact => (by have hact0 := hact; (try simp only [Bool.and_eq_true, Bool.not_eq_true', Bool.or_eq_false_iff, Bool.or_eq_true, Bool.and_eq_false_iff, ne_eq, decide_eq_true_eq, decide_eq_false_iff_not] at hact0); exact (absurd hact (by simp only [Bool.not_eq_true', Bool.or_eq_false_iff, decide_eq_false_iff_not]; omega)))) rfl rfl ?_; clear hf fa; intro fa hf
        refine sqv hf (r_pickO (b := (((decide ((((d.list.getD ((findRM nm d.list 0).1).toNat zMMd).2.2.2.2.2.2.1.list.getD ((findRM nm d.list 0).2).toNat zMExp).2.2.1) < (((gtT (d.list.getD ((findRM nm d.list 0).1).toNat zMMd).2.1.list).length : Nat) : Int))) || (decide ((((gtypesP (d.list.getD ((findRM nm d.list 0).1).toNat zMMd)).length : Nat) : Int) ≤ (((d.list.getD ((findRM nm d.list 0).1).toNat zMMd).2.2.2.2.2.2.1.list.getD ((findRM nm d.list 0).2).toNat zMExp).2.2.1)))) || false)) (e := false) rfl rfl rfl) rfl rfl rfl ?_; clear hf fa; intro fa hf
        apply wpList_nil
        (try simp only [Exit.then, Exit.inBlock, ↓reduceIte, Nat.reduceEqDiff])
        refine hK13 _ _ ?_
        refine wp_cond_split (t := ((((decide ((((d.list.getD ((findRM nm d.list 0).1).toNat zMMd).2.2.2.2.2.2.1.list.getD ((findRM nm d.list 0).2).toNat zMExp).2.2.1) < (((gtT (d.list.getD ((findRM nm d.list 0).1).toNat zMMd).2.1.list).length : Nat) : Int))) || (decide ((((gtypesP (d.list.getD ((findRM nm d.list 0).1).toNat zMMd)).length : Nat) : Int) ≤ (((d.list.getD ((findRM nm d.list 0).1).toNat zMMd).2.2.2.2.2.2.1.list.getD ((findRM nm d.list 0).2).toNat zMExp).2.2.1)))) || false) || false)) (hf.ev rfl) (fun hqt66_2 => ?_) (fun hqt66_2 => ?_)
        · have hqt66_2b := hqt66_2
          try simp only [decide_eq_true_eq, Bool.and_eq_true, Bool.or_eq_true, Bool.not_eq_true', decide_eq_false_iff_not, ne_eq, Bool.not_eq_true] at hqt66_2
          refine wp_seq_k (fun K16 hK16 => ?_)
          refine wp_region_lit ?_
          refine sqv hf (r_assign rfl) rfl rfl rfl ?_; clear hf fa; intro fa hf
          refine sqv hf (r_assign rfl) rfl rfl rfl ?_; clear hf fa; intro fa hf
          refine sqv hf (r_assign rfl) rfl rfl rfl ?_; clear hf fa; intro fa hf
          apply wpList_nil
          (try simp only [Exit.then, Exit.inBlock, ↓reduceIte, Nat.reduceEqDiff])
          refine hK16 _ _ ?_
          refine wp_ret ?_
          (try simp only [Exit.then, Exit.inBlock])
          refine ret3 hf rfl rfl rfl rfl ?_
          refine ⟨?_, hb⟩; unfold rdataP; rw [hqt20_1b, hqt31_1b, hsp1b, hqt66_2b]; (try rfl)
        · have hqt66_2b := hqt66_2
          replace hqt66_2 := Bool.eq_false_iff.1 hqt66_2
          try simp only [ne_eq, decide_eq_true_eq, Bool.and_eq_true, Bool.or_eq_true, Bool.not_eq_true', decide_eq_false_iff_not] at hqt66_2
          refine wp_skip ?_
          (try simp only [Exit.then, Exit.inBlock, ↓reduceIte, Nat.reduceEqDiff])
          refine hK12 _ _ ?_
          refine wp_seq_k (fun K17 hK17 => ?_)
          refine wp_region_un (fun wq => Below w4.heap.size w4 wq) (fun w w' => Below w.heap.size w w')
            (fun V => [(fun x _ => x = (.int .i64 ((findRM nm d.list 0).1))), (fun x _ => x = (.pointer (some ⟨b1, 2, none⟩))), (fun x _ => x = (.int .u32 (((d.list.getD ((findRM nm d.list 0).1).toNat zMMd).2.2.2.2.2.2.1.list.getD ((findRM nm d.list 0).2).toNat zMExp).2.2.1))), (fun x _ => x = (.int .i64 ((findRM nm d.list 0).1))), (fun x _ => x = (.int .u32 (((d.list.getD ((findRM nm d.list 0).1).toNat zMMd).2.2.2.2.2.2.1.list.getD ((findRM nm d.list 0).2).toNat zMExp).2.2.1))), (fun x _ => x = (.int .i64 (0 : Int)))])
            []
            [[], [], [1], [0], [0, 1, 2, 3], [0, 1, 2, 3, 4]]
            hf (by kernel_rfl) (by kernel_rfl) (fun _ => rfl) ((Below.refl _ _).drew) (fun a b h1 h2 => h1.trans (h2.mono h1.size)) (fun _ _ h => h.size) (fun V => ⟨kept_eq, kept_eq, kept_eq, kept_eq, kept_eq, kept_eq, trivial⟩) (fun _ _ _ _ _ => rfl) ?_ ?_
          · skip
            intro V
            refine ⟨fun wu0 hC hd => ?_, ?_⟩
            · clear hd
              replace hb := hb.trans (hC.mono hb.size)
              replace hk2 := blk_ext hk2 hC
              replace hr1 := Row.ext hr1 hC
              exact Runs.does (r_move rfl) ⟨Below.refl _ _, rfl, nofr rfl⟩
            refine ⟨fun wu1 hC hd => ?_, ?_⟩
            · clear hd
              replace hb := hb.trans (hC.mono hb.size)
              replace hk2 := blk_ext hk2 hC
              replace hr1 := Row.ext hr1 hC
              exact Runs.does (r_fa rfl Try.underlying94 (f := 2) (q := 2) rfl (by kernel_rfl) rfl) ⟨Below.refl _ _, rfl, nofr rfl⟩
            refine ⟨fun wu2 hC hd => ?_, ?_⟩
            · obtain ⟨h1, _⟩ := hd
              skip
              replace h1 : V 1 = (.pointer (some ⟨b1, 2, none⟩)) := h1
              replace hb := hb.trans (hC.mono hb.size)
              replace hk2 := blk_ext hk2 hC
              replace hr1 := Row.ext hr1 hC
              exact Runs.does (r_load (v := (.int .u32 (((d.list.getD ((findRM nm d.list 0).1).toNat zMMd).2.2.2.2.2.2.1.list.getD ((findRM nm d.list 0).2).toNat zMExp).2.2.1))) (congrArg some h1) Try.underlying44 rfl (cell_blk hk2 rfl)) ⟨Below.refl _ _, rfl, nofr rfl⟩
            refine ⟨fun wu3 hC hd => ?_, ?_⟩
            · obtain ⟨h0, _⟩ := hd
              skip
              replace h0 : V 0 = (.int .i64 ((findRM nm d.list 0).1)) := h0
              replace hb := hb.trans (hC.mono hb.size)
              replace hk2 := blk_ext hk2 hC
              replace hr1 := Row.ext hr1 hC
              exact Runs.does (r_assign (congrArg some h0)) ⟨Below.refl _ _, rfl, nofr rfl⟩
            refine ⟨fun wu4 hC hd => ?_, ?_⟩
            · obtain ⟨h0, h1, h2, h3, _⟩ := hd
              skip
              skip
              skip
              skip
              replace h0 : V 0 = (.int .i64 ((findRM nm d.list 0).1)) := h0
              replace h1 : V 1 = (.pointer (some ⟨b1, 2, none⟩)) := h1
              replace h2 : V 2 = (.int .u32 (((d.list.getD ((findRM nm d.list 0).1).toNat zMMd).2.2.2.2.2.2.1.list.getD ((findRM nm d.list 0).2).toNat zMExp).2.2.1)) := h2
              replace h3 : V 3 = (.int .i64 ((findRM nm d.list 0).1)) := h3
              replace hb := hb.trans (hC.mono hb.size)
              replace hk2 := blk_ext hk2 hC
              replace hr1 := Row.ext hr1 hC
              exact Runs.does (r_assign (congrArg some h2)) ⟨Below.refl _ _, rfl, nofr rfl⟩
            refine ⟨fun wu5 hC hd => ?_, ?_⟩
            · obtain ⟨h0, h1, h2, h3, h4, _⟩ := hd
              skip
              skip
              skip
              skip
              skip
              replace h0 : V 0 = (.int .i64 ((findRM nm d.list 0).1)) := h0
              replace h1 : V 1 = (.pointer (some ⟨b1, 2, none⟩)) := h1
              replace h2 : V 2 = (.int .u32 (((d.list.getD ((findRM nm d.list 0).1).toNat zMMd).2.2.2.2.2.2.1.list.getD ((findRM nm d.list 0).2).toNat zMExp).2.2.1)) := h2
              replace h3 : V 3 = (.int .i64 ((findRM nm d.list 0).1)) := h3
              replace h4 : V 4 = (.int .u32 (((d.list.getD ((findRM nm d.list 0).1).toNat zMMd).2.2.2.2.2.2.1.list.getD ((findRM nm d.list 0).2).toNat zMExp).2.2.1)) := h4
              replace hb := hb.trans (hC.mono hb.size)
              replace hk2 := blk_ext hk2 hC
              replace hr1 := Row.ext hr1 hC
              exact Runs.does (r_assign rfl) ⟨Below.refl _ _, rfl, nofr rfl⟩
            trivial
          · skip
            clear hf fa; intro V w6 fa he5 hp hnb hf
            have hv0 : V 0 = (.int .i64 ((findRM nm d.list 0).1)) := postsHold_at hp 0 rfl
            have hv1 : V 1 = (.pointer (some ⟨b1, 2, none⟩)) := postsHold_at hp 1 rfl
            have hv2 : V 2 = (.int .u32 (((d.list.getD ((findRM nm d.list 0).1).toNat zMMd).2.2.2.2.2.2.1.list.getD ((findRM nm d.list 0).2).toNat zMExp).2.2.1)) := postsHold_at hp 2 rfl
            have hv3 : V 3 = (.int .i64 ((findRM nm d.list 0).1)) := postsHold_at hp 3 rfl
            have hv4 : V 4 = (.int .u32 (((d.list.getD ((findRM nm d.list 0).1).toNat zMMd).2.2.2.2.2.2.1.list.getD ((findRM nm d.list 0).2).toNat zMExp).2.2.1)) := postsHold_at hp 4 rfl
            have hv5 : V 5 = (.int .i64 (0 : Int)) := postsHold_at hp 5 rfl
            simp only [List.take_succ_cons, List.take_zero, insAll, ins, hv0, hv1, hv2, hv3, hv4, hv5] at hf
            clear hp hnb hv0 hv1 hv2 hv3 hv4 hv5
            replace hk2 := blk_ext hk2 he5
            replace hr1 := Row.ext hr1 he5
            replace hb := hb.trans (Below.mono he5 hb.size)
            (try simp only [Exit.then, Exit.inBlock, ↓reduceIte, Nat.reduceEqDiff])
            refine hK17 _ _ ?_
            refine wp_ret ?_
            (try simp only [Exit.then, Exit.inBlock])
            refine ret3 hf rfl rfl rfl rfl ?_
            refine ⟨?_, hb⟩; unfold rdataP; rw [hqt20_1b, hqt31_1b, hsp1b, hqt66_2b]; (try rfl)

def funcP (d : Sl MMd) (nm : ByteArray) (t : MFt) : MPc × Int :=
  bif (decide (((ranyP d nm).2.2.2) ≠ (0 : Int))) then (((0 : Int), (0 : Int), ()), (ranyP d nm).2.2.2)
  else bif (!((decide ((ranyP d nm).2.2.1.1 = t.1)) && (decide ((ranyP d nm).2.2.1.2.1 = t.2.1)))) then (((0 : Int), (0 : Int), ()), (7 : Int))
  else (((ranyP d nm).fst, (ranyP d nm).2.1, ()), (0 : Int))

set_option maxHeartbeats 1000000 in
set_option maxRecDepth 100000 in
theorem func_any (d : Sl MMd) (nm : ByteArray) (t : MFt) (w : World) (l : List MUn) (g : fSlW 17 296 vMMd fMMd w d) (hS : ∀ m ∈ d.list, smallP m) (a : Option Addr) (n c : Nat) (hl : RdS 18 vMUn w a l) (hn : l.length = n) (hnm : n ≤ 9223372036854775807) (hum : l.map modU = d.list) : Calls Try.prog 53 #[(.slice a n c), (.string nm), (.agg #[(.string t.1), (.string t.2.1)])] w fun e w' => e = .returned (.tuple #[(.agg #[(.int .i64 ((funcP d nm t).1.1)), (.int .u32 ((funcP d nm t).1.2.1))]), (.int .i64 ((funcP d nm t).2))]) ∧ Below w.heap.size w w' := by
  refine sx_enter (L := [(0, (.slice a n c)), (1, (.string nm)), (2, (.agg #[(.string t.1), (.string t.2.1)]))]) Try.func53 rfl rfl rfl rfl (fun fa hf => ?_)
  have hb : Below w.heap.size w w := Below.refl _ _
  refine wp_seq_k (fun K1 hK1 => ?_)
  refine wp_region_lit ?_
  refine sqdt hf (d_box (cs := #[(.string t.1), (.string t.2.1)]) rfl rfl) rfl rfl rfl ?_; clear hf fa; rintro fa _ w1 ⟨b1, rfl, hle1, hk1, he1⟩ hf
  have hBb1 : w.heap.size ≤ b1 := Nat.le_trans hb.size hle1
  replace hb := hb.trans (Below.mono he1 hb.size)
  refine sqdt hf (d_alloc (z := (.agg #[(.int .i64 (0 : Int)), (.int .u32 (0 : Int))])) (cs := #[(.int .i64 (0 : Int)), (.int .u32 (0 : Int))]) (by kernel_rfl) rfl) rfl rfl rfl ?_; clear hf fa; rintro fa _ w2 ⟨b2, rfl, hle2, hk2, he2⟩ hf
  have hBb2 : w.heap.size ≤ b2 := Nat.le_trans hb.size hle2
  have : b1 < b2 := Nat.lt_of_lt_of_le (blk_lt hk1) hle2
  replace hk1 := blk_ext hk1 he2
  replace hb := hb.trans (Below.mono he2 hb.size)
  refine sqv hf (r_assign rfl) rfl rfl rfl ?_; clear hf fa; intro fa hf
  apply wpList_nil
  (try simp only [Exit.then, Exit.inBlock, ↓reduceIte, Nat.reduceEqDiff])
  refine hK1 _ _ ?_
  refine wp_seq_k (fun K2 hK2 => ?_)
  refine wp_region_lit ?_
  refine sqv hf (r_move rfl) rfl rfl rfl ?_; clear hf fa; intro fa hf
  refine sqv hf (r_move rfl) rfl rfl rfl ?_; clear hf fa; intro fa hf
  refine sqdt hf (d_callB (v := (.tuple #[(.agg #[(.int .i64 ((ranyP d nm).fst)), (.int .u32 ((ranyP d nm).2.1))]), (.agg #[(.string (ranyP d nm).2.2.1.1), (.string (ranyP d nm).2.2.1.2.1)]), (.int .i64 ((ranyP d nm).2.2.2))])) (vs := [(.slice a n c), (.string nm)]) rfl Try.func51 (by kernel_rfl) (by kernel_rfl) (by have h := any_any l nm _ a n c (RdS.ext hl hb) hn hnm (fun u hu => ⟨rdMMd.kept _ _ _ hb (units_M g hS hum u hu).1, (units_M g hS hum u hu).2⟩); rw [any_eq nm hum] at h; exact h)) rfl rfl rfl ?_; clear hf fa; rintro fa _ w3 ⟨rfl, he3⟩ hf
  replace hk1 := blk_ext hk1 he3
  replace hk2 := blk_ext hk2 he3
  replace hb := hb.trans (Below.mono he3 hb.size)
  refine sqv hf (r_move rfl) rfl rfl rfl ?_; clear hf fa; intro fa hf
  refine sqv hf (r_extract rfl (i := 0) rfl) rfl rfl rfl ?_; clear hf fa; intro fa hf
  refine sqv hf (r_extract rfl (i := 1) rfl) rfl rfl rfl ?_; clear hf fa; intro fa hf
  refine sqv hf (r_extract rfl (i := 2) rfl) rfl rfl rfl ?_; clear hf fa; intro fa hf
  refine sqdt hf (d_alloc (z := (.agg #[(.int .i64 (0 : Int)), (.int .u32 (0 : Int))])) (cs := #[(.int .i64 (0 : Int)), (.int .u32 (0 : Int))]) (by kernel_rfl) rfl) rfl rfl rfl ?_; clear hf fa; rintro fa _ w4 ⟨b3, rfl, hle3, hk3, he4⟩ hf
  have hBb3 : w.heap.size ≤ b3 := Nat.le_trans hb.size hle3
  have : b1 < b3 := Nat.lt_of_lt_of_le (blk_lt hk1) hle3
  have : b2 < b3 := Nat.lt_of_lt_of_le (blk_lt hk2) hle3
  replace hk1 := blk_ext hk1 he4
  replace hk2 := blk_ext hk2 he4
  replace hb := hb.trans (Below.mono he4 hb.size)
  refine sqdt hf (d_alloc (z := (.agg #[(.string ⟨#[]⟩), (.string ⟨#[]⟩)])) (cs := #[(.string ⟨#[]⟩), (.string ⟨#[]⟩)]) (by kernel_rfl) rfl) rfl rfl rfl ?_; clear hf fa; rintro fa _ w5 ⟨b4, rfl, hle4, hk4, he5⟩ hf
  have hBb4 : w.heap.size ≤ b4 := Nat.le_trans hb.size hle4
  have : b1 < b4 := Nat.lt_of_lt_of_le (blk_lt hk1) hle4
  have : b2 < b4 := Nat.lt_of_lt_of_le (blk_lt hk2) hle4
  have : b3 < b4 := Nat.lt_of_lt_of_le (blk_lt hk3) hle4
  replace hk1 := blk_ext hk1 he5
  replace hk2 := blk_ext hk2 he5
  replace hk3 := blk_ext hk3 he5
  replace hb := hb.trans (Below.mono he5 hb.size)
  refine sqn hf (d_storeK (T := 49) (v := (.agg #[(.int .i64 ((ranyP d nm).fst)), (.int .u32 ((ranyP d nm).2.1))])) (cs := #[(.int .i64 (0 : Int)), (.int .u32 (0 : Int))]) (cs' := #[(.int .i64 ((ranyP d nm).fst)), (.int .u32 ((ranyP d nm).2.1))]) rfl rfl (by kernel_rfl) (by kernel_rfl) hk3 (by kernel_rfl) (by kernel_rfl)) rfl rfl ?_; clear hf fa; rintro fa _ w6 ⟨hk5, hg1⟩ hf
  replace hk1 := blk_grown hk1 hg1 (by omega)
  replace hk2 := blk_grown hk2 hg1 (by omega)
  replace hk4 := blk_grown hk4 hg1 (by omega)
  replace hb := hb.trans (grown_below hg1 hb.size hBb3)
  refine sqn hf (d_storeK (T := 78) (v := (.agg #[(.string (ranyP d nm).2.2.1.1), (.string (ranyP d nm).2.2.1.2.1)])) (cs := #[(.string ⟨#[]⟩), (.string ⟨#[]⟩)]) (cs' := #[(.string (ranyP d nm).2.2.1.1), (.string (ranyP d nm).2.2.1.2.1)]) rfl rfl (by kernel_rfl) (by kernel_rfl) hk4 (by kernel_rfl) (by kernel_rfl)) rfl rfl ?_; clear hf fa; rintro fa _ w7 ⟨hk6, hg2⟩ hf
  replace hk1 := blk_grown hk1 hg2 (by omega)
  replace hk2 := blk_grown hk2 hg2 (by omega)
  replace hk5 := blk_grown hk5 hg2 (by omega)
  replace hb := hb.trans (grown_below hg2 hb.size hBb4)
  refine sqv hf (r_assign rfl) rfl rfl rfl ?_; clear hf fa; intro fa hf
  apply wpList_nil
  (try simp only [Exit.then, Exit.inBlock, ↓reduceIte, Nat.reduceEqDiff])
  refine hK2 _ _ ?_
  refine wp_seq_k (fun K3 hK3 => ?_)
  refine wp_block ?_
  refine wp_seq_k (fun K4 hK4 => ?_)
  refine wp_region_lit ?_
  refine sqv hf (r_move rfl) rfl rfl rfl ?_; clear hf fa; intro fa hf
  refine sqv hf (r_ne rfl rfl) rfl rfl rfl ?_; clear hf fa; intro fa hf
  refine sqv hf (r_assign rfl) rfl rfl rfl ?_; clear hf fa; intro fa hf
  apply wpList_nil
  (try simp only [Exit.then, Exit.inBlock, ↓reduceIte, Nat.reduceEqDiff])
  refine hK4 _ _ ?_
  refine wp_cond_split (t := (decide (((ranyP d nm).2.2.2) ≠ (0 : Int)))) (hf.ev rfl) (fun hqt18_1 => ?_) (fun hqt18_1 => ?_)
  · have hqt18_1b := hqt18_1
    try simp only [decide_eq_true_eq, Bool.and_eq_true, Bool.or_eq_true, Bool.not_eq_true', decide_eq_false_iff_not, ne_eq, Bool.not_eq_true] at hqt18_1
    refine wp_seq_k (fun K5 hK5 => ?_)
    refine wp_region_lit ?_
    refine sqv hf (r_build (vs := []) (cs := #[(.int .i64 (0 : Int)), (.int .u32 (0 : Int))]) rfl (fun _ => by kernel_rfl)) rfl rfl rfl ?_; clear hf fa; intro fa hf
    refine sqv hf (r_move rfl) rfl rfl rfl ?_; clear hf fa; intro fa hf
    refine sqn hf (d_storeK (T := 49) (v := (.agg #[(.int .i64 (0 : Int)), (.int .u32 (0 : Int))])) (cs := #[(.int .i64 (0 : Int)), (.int .u32 (0 : Int))]) (cs' := #[(.int .i64 (0 : Int)), (.int .u32 (0 : Int))]) rfl rfl (by kernel_rfl) (by kernel_rfl) hk2 (by kernel_rfl) (by kernel_rfl)) rfl rfl ?_; clear hf fa; rintro fa _ w8 ⟨hk7, hg3⟩ hf
    replace hk1 := blk_grown hk1 hg3 (by omega)
    replace hk5 := blk_grown hk5 hg3 (by omega)
    replace hk6 := blk_grown hk6 hg3 (by omega)
    replace hb := hb.trans (grown_below hg3 hb.size hBb2)
    refine sqv hf (r_assign rfl) rfl rfl rfl ?_; clear hf fa; intro fa hf
    apply wpList_nil
    (try simp only [Exit.then, Exit.inBlock, ↓reduceIte, Nat.reduceEqDiff])
    refine hK5 _ _ ?_
    refine wp_ret ?_
    (try simp only [Exit.then, Exit.inBlock])
    refine retCT hf rfl rfl hk7 Try.underlying49 rfl (by kernel_rfl) rfl ?_
    refine ⟨?_, hb⟩; unfold funcP; rw [hqt18_1b]; (try rfl)
  · have hqt18_1b := hqt18_1
    replace hqt18_1 := Bool.eq_false_iff.1 hqt18_1
    try simp only [ne_eq, decide_eq_true_eq, Bool.and_eq_true, Bool.or_eq_true, Bool.not_eq_true', decide_eq_false_iff_not] at hqt18_1
    refine wp_seq_k (fun K6 hK6 => ?_)
    refine wp_region_lit ?_
    refine sqv hf (r_loadA (cs := [(.string (ranyP d nm).2.2.1.1), (.string (ranyP d nm).2.2.1.2.1)]) rfl Try.underlying78 rfl (by kernel_rfl) (cellsAt_blk hk6)) rfl rfl rfl ?_; clear hf fa; intro fa hf
    refine sqv hf (r_loadA (cs := [(.string t.1), (.string t.2.1)]) rfl Try.underlying78 rfl (by kernel_rfl) (cellsAt_blk hk1)) rfl rfl rfl ?_; clear hf fa; intro fa hf
    refine sqv hf (r_ane (k := 5) rfl rfl (by kernel_rfl) (eqt_struct (xs := #[(.string (ranyP d nm).2.2.1.1), (.string (ranyP d nm).2.2.1.2.1)]) (ys := #[(.string t.1), (.string t.2.1)]) Try.underlying78 (by kernel_rfl) (eqf_cons (by kernel_rfl) (fun _ => by kernel_rfl) (fun _ => by kernel_rfl) (eqt_str (a := (ranyP d nm).2.2.1.1) (b := t.1) Try.underlying9) (eqf_one (by kernel_rfl) (fun _ => by kernel_rfl) (fun _ => by kernel_rfl) (eqt_str (a := (ranyP d nm).2.2.1.2.1) (b := t.2.1) Try.underlying9)))) rfl) rfl rfl rfl ?_; clear hf fa; intro fa hf
    refine sqv hf (r_assign rfl) rfl rfl rfl ?_; clear hf fa; intro fa hf
    apply wpList_nil
    (try simp only [Exit.then, Exit.inBlock, ↓reduceIte, Nat.reduceEqDiff])
    refine hK6 _ _ ?_
    refine wp_cond_split (t := (!((decide ((ranyP d nm).2.2.1.1 = t.1)) && (decide ((ranyP d nm).2.2.1.2.1 = t.2.1))))) (hf.ev rfl) (fun hqt23_1 => ?_) (fun hqt23_1 => ?_)
    · have hqt23_1b := hqt23_1
      try simp only [decide_eq_true_eq, Bool.and_eq_true, Bool.or_eq_true, Bool.not_eq_true', decide_eq_false_iff_not, ne_eq, Bool.not_eq_true] at hqt23_1
      refine wp_seq_k (fun K7 hK7 => ?_)
      refine wp_region_lit ?_
      refine sqv hf (r_build (vs := []) (cs := #[(.int .i64 (0 : Int)), (.int .u32 (0 : Int))]) rfl (fun _ => by kernel_rfl)) rfl rfl rfl ?_; clear hf fa; intro fa hf
      refine sqn hf (d_storeK (T := 49) (v := (.agg #[(.int .i64 (0 : Int)), (.int .u32 (0 : Int))])) (cs := #[(.int .i64 (0 : Int)), (.int .u32 (0 : Int))]) (cs' := #[(.int .i64 (0 : Int)), (.int .u32 (0 : Int))]) rfl rfl (by kernel_rfl) (by kernel_rfl) hk2 (by kernel_rfl) (by kernel_rfl)) rfl rfl ?_; clear hf fa; rintro fa _ w9 ⟨hk8, hg4⟩ hf
      replace hk1 := blk_grown hk1 hg4 (by omega)
      replace hk5 := blk_grown hk5 hg4 (by omega)
      replace hk6 := blk_grown hk6 hg4 (by omega)
      replace hb := hb.trans (grown_below hg4 hb.size hBb2)
      refine sqv hf (r_assign rfl) rfl rfl rfl ?_; clear hf fa; intro fa hf
      apply wpList_nil
      (try simp only [Exit.then, Exit.inBlock, ↓reduceIte, Nat.reduceEqDiff])
      refine hK7 _ _ ?_
      refine wp_ret ?_
      (try simp only [Exit.then, Exit.inBlock])
      refine retCT hf rfl rfl hk8 Try.underlying49 rfl (by kernel_rfl) rfl ?_
      refine ⟨?_, hb⟩; unfold funcP; rw [hqt18_1b, hqt23_1b]; (try rfl)
    · have hqt23_1b := hqt23_1
      replace hqt23_1 := Bool.eq_false_iff.1 hqt23_1
      try simp only [ne_eq, decide_eq_true_eq, Bool.and_eq_true, Bool.or_eq_true, Bool.not_eq_true', decide_eq_false_iff_not] at hqt23_1
      refine wp_skip ?_
      (try simp only [Exit.then, Exit.inBlock, ↓reduceIte, Nat.reduceEqDiff])
      refine hK3 _ _ ?_
      refine wp_seq_k (fun K8 hK8 => ?_)
      refine wp_region_lit ?_
      refine sqv hf (r_loadA (cs := [(.int .i64 ((ranyP d nm).fst)), (.int .u32 ((ranyP d nm).2.1))]) rfl Try.underlying49 rfl (by kernel_rfl) (cellsAt_blk hk5)) rfl rfl rfl ?_; clear hf fa; intro fa hf
      refine sqn hf (d_storeK (T := 49) (v := (.agg #[(.int .i64 ((ranyP d nm).fst)), (.int .u32 ((ranyP d nm).2.1))])) (cs := #[(.int .i64 (0 : Int)), (.int .u32 (0 : Int))]) (cs' := #[(.int .i64 ((ranyP d nm).fst)), (.int .u32 ((ranyP d nm).2.1))]) rfl rfl (by kernel_rfl) (by kernel_rfl) hk2 (by kernel_rfl) (by kernel_rfl)) rfl rfl ?_; clear hf fa; rintro fa _ w10 ⟨hk9, hg5⟩ hf
      replace hk1 := blk_grown hk1 hg5 (by omega)
      replace hk5 := blk_grown hk5 hg5 (by omega)
      replace hk6 := blk_grown hk6 hg5 (by omega)
      replace hb := hb.trans (grown_below hg5 hb.size hBb2)
      refine sqv hf (r_assign rfl) rfl rfl rfl ?_; clear hf fa; intro fa hf
      apply wpList_nil
      (try simp only [Exit.then, Exit.inBlock, ↓reduceIte, Nat.reduceEqDiff])
      refine hK8 _ _ ?_
      refine wp_ret ?_
      (try simp only [Exit.then, Exit.inBlock])
      refine retCT hf rfl rfl hk9 Try.underlying49 rfl (by kernel_rfl) rfl ?_
      refine ⟨?_, hb⟩; unfold funcP; rw [hqt18_1b, hqt23_1b]; (try rfl)
end Go.Proofs.Ytahgkfekggkjnaa
