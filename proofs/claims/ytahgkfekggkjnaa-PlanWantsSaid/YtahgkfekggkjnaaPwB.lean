/- What is proved here: the law PlanWants is true. -/
import Derived.Test.YtahgkfekggkjnaaPwM
import Derived.Test.YtahgkfekggkjnaaPlD
namespace Go.Proofs.Ytahgkfekggkjnaa
open Go.RowKit
set_option linter.unusedVariables false
set_option linter.unusedSimpArgs false
set_option maxHeartbeats 1000000 in
set_option maxRecDepth 100000 in
theorem all_any (pa : Option Addr) (pn pc : Nat) (A B C D E : Int) (w : World) (hr : -9223372036854775808 ≤ B + E ∧ B + E < 9223372036854775808) : Calls Try.prog 47 #[(.agg #[(.slice pa pn pc), (.int .i64 A), (.int .i64 B), (.int .u32 C), (.int .u32 D), (.int .i64 E)])] w fun e w' => e = .returned (.int .i64 (B + E)) ∧ Below w.heap.size w w' := by
  refine sx_enter (L := [(0, (.agg #[(.slice pa pn pc), (.int .i64 A), (.int .i64 B), (.int .u32 C), (.int .u32 D), (.int .i64 E)]))]) Try.func47 rfl rfl rfl rfl (fun fa hf => ?_)
  have hb : Below w.heap.size w w := Below.refl _ _
  refine wp_seq_k (fun K1 hK1 => ?_)
  refine wp_region_lit ?_
  refine sqdt hf (d_box (cs := #[(.slice pa pn pc), (.int .i64 A), (.int .i64 B), (.int .u32 C), (.int .u32 D), (.int .i64 E)]) rfl rfl) rfl rfl rfl ?_; clear hf fa; rintro fa _ w1 ⟨b1, rfl, hle1, hk1, he1⟩ hf
  have hBb1 : w.heap.size ≤ b1 := Nat.le_trans hb.size hle1
  replace hb := hb.trans (Below.mono he1 hb.size)
  refine sqv hf (r_assign rfl) rfl rfl rfl ?_; clear hf fa; intro fa hf
  apply wpList_nil
  (try simp only [Exit.then, Exit.inBlock, ↓reduceIte, Nat.reduceEqDiff])
  refine hK1 _ _ ?_
  refine wp_seq_k (fun K2 hK2 => ?_)
  refine wp_region_lit ?_
  refine sqv hf (r_fa rfl Try.underlying72 (f := 2) (q := 2) rfl (by kernel_rfl) rfl) rfl rfl rfl ?_; clear hf fa; intro fa hf
  refine sqv hf (r_load (v := (.int .i64 B)) rfl Try.underlying3 rfl (cell_blk hk1 rfl)) rfl rfl rfl ?_; clear hf fa; intro fa hf
  refine sqv hf (r_fa rfl Try.underlying72 (f := 5) (q := 5) rfl (by kernel_rfl) rfl) rfl rfl rfl ?_; clear hf fa; intro fa hf
  refine sqv hf (r_load (v := (.int .i64 E)) rfl Try.underlying3 rfl (cell_blk hk1 rfl)) rfl rfl rfl ?_; clear hf fa; intro fa hf
  refine sqv hf (r_add (C := (B + E)) rfl rfl (by rw [IntKind.wrap_i64]; omega)) rfl rfl rfl ?_; clear hf fa; intro fa hf
  refine sqv hf (r_assign rfl) rfl rfl rfl ?_; clear hf fa; intro fa hf
  apply wpList_nil
  (try simp only [Exit.then, Exit.inBlock, ↓reduceIte, Nat.reduceEqDiff])
  refine hK2 _ _ ?_
  refine wp_ret ?_
  (try simp only [Exit.then, Exit.inBlock])
  refine ret1 hf rfl rfl ?_
  exact ⟨rfl, hb⟩

set_option maxHeartbeats 1000000 in
set_option maxRecDepth 100000 in
theorem symbols_any (l : List MWt) (kd : Int) (pa : Option Addr) (pn pc : Nat) (A B C D E : Int) (w : World) (hl : RdS 8 vMWt w pa l) (hn : l.length = pn) (hnm : pn ≤ 1000) : Calls Try.prog 49 #[(.agg #[(.slice pa pn pc), (.int .i64 A), (.int .i64 B), (.int .u32 C), (.int .u32 D), (.int .i64 E)]), (.int .i64 kd)] w fun e w' => ∃ v, e = .returned v ∧ Row 1 vStr 9 w.heap.size w' v (symP kd l) ∧ Below w.heap.size w w' := by
  refine sx_enter (L := [(0, (.agg #[(.slice pa pn pc), (.int .i64 A), (.int .i64 B), (.int .u32 C), (.int .u32 D), (.int .i64 E)])), (1, (.int .i64 kd))]) Try.func49 rfl rfl rfl rfl (fun fa hf => ?_)
  have hb : Below w.heap.size w w := Below.refl _ _
  refine wp_seq_k (fun K1 hK1 => ?_)
  refine wp_region_lit ?_
  refine sqdt hf (d_box (cs := #[(.slice pa pn pc), (.int .i64 A), (.int .i64 B), (.int .u32 C), (.int .u32 D), (.int .i64 E)]) rfl rfl) rfl rfl rfl ?_; clear hf fa; rintro fa _ w1 ⟨b1, rfl, hle1, hk1, he1⟩ hf
  have hBb1 : w.heap.size ≤ b1 := Nat.le_trans hb.size hle1
  replace hb := hb.trans (Below.mono he1 hb.size)
  refine sqv hf (r_assign rfl) rfl rfl rfl ?_; clear hf fa; intro fa hf
  apply wpList_nil
  (try simp only [Exit.then, Exit.inBlock, ↓reduceIte, Nat.reduceEqDiff])
  refine hK1 _ _ ?_
  refine wp_seq_k (fun K2 hK2 => ?_)
  refine wp_region_lit ?_
  refine sqv hf (r_assign rfl) rfl rfl rfl ?_; clear hf fa; intro fa hf
  apply wpList_nil
  (try simp only [Exit.then, Exit.inBlock, ↓reduceIte, Nat.reduceEqDiff])
  refine hK2 _ _ ?_
  refine wp_seq_k (fun K3 hK3 => ?_)
  refine wp_seq_k (fun K4 hK4 => ?_)
  refine wp_region_lit ?_
  refine sqv hf (r_fa rfl Try.underlying72 (f := 0) (q := 0) rfl (by kernel_rfl) rfl) rfl rfl rfl ?_; clear hf fa; intro fa hf
  refine sqv hf (r_load (v := (.slice pa pn pc)) rfl Try.underlying70 rfl (cell_blk hk1 rfl)) rfl rfl rfl ?_; clear hf fa; intro fa hf
  refine sqv hf (r_lensl rfl Try.underlying70) rfl rfl rfl ?_; clear hf fa; intro fa hf
  refine sqv hf (r_move rfl) rfl rfl rfl ?_; clear hf fa; intro fa hf
  apply wpList_nil
  (try simp only [Exit.then, Exit.inBlock, ↓reduceIte, Nat.reduceEqDiff])
  refine hK4 _ _ ?_
  refine wp_block ?_
  refine wp_loop_k (fun mq fa wr => ∃ (k : Nat) (roa : Option Addr) (roc : Nat), mq = pn - k ∧ Fr 26 fa [(1, (.int .i64 kd)), (2, (.pointer (some ⟨b1, 0, none⟩))), (9, (.slice pa pn pc)), (10, (.int .i64 ((pn : Nat) : Int))), (11, (.int .i64 ((k : Nat) : Int))), (5, (.slice roa (((symP kd (l.take k))).length) roc))] ∧ Below w.heap.size w wr ∧ Row 1 vStr 9 (w.heap.size) wr (.slice roa (((symP kd (l.take k))).length) roc) (symP kd (l.take k)) ∧ wr.heap[b1]? = some (.cells #[(.slice pa pn pc), (.int .i64 A), (.int .i64 B), (.int .u32 C), (.int .u32 D), (.int .i64 E)] 72 (0, 0)) ∧ (k ≤ pn)) ?_ ?_
  · skip
    exact ⟨_, 0, none, 0, rfl, hf.sub ⟨rfl, rfl, rfl, rfl, (some_int (by first | rfl | omega)), (some_sl (by first | omega | (simp only [List.length_append, List.length_cons, List.length_nil]; omega) | (simp <;> omega)) rfl), trivial⟩, hb, Row.nil, hk1, by omega⟩
  · skip
    clear hf fa; intro mq1 fa w2 hI KL1 hKL1
    clear hb
    clear hk1
    obtain ⟨k, roa, roc, hmq1, hf, hb, hro, hkb1, hk⟩ := hI
    have hcro := Row.caps hro
    have hbl := symP_len kd l k
    refine wp_seq_k (fun K5 hK5 => ?_)
    refine wp_region_lit ?_
    refine sqv hf (r_lt rfl rfl) rfl rfl rfl ?_; clear hf fa; intro fa hf
    apply wpList_nil
    (try simp only [Exit.then, Exit.inBlock, ↓reduceIte, Nat.reduceEqDiff])
    refine hK5 _ _ ?_
    refine wp_seq_k (fun K6 hK6 => ?_)
    refine wp_cond_split (t := (decide (((k : Nat) : Int) < ((pn : Nat) : Int)))) (hf.ev rfl) (fun hqt12_1 => ?_) (fun hqt12_1 => ?_)
    · have hqt12_1b := hqt12_1
      try simp only [decide_eq_true_eq, Bool.and_eq_true, Bool.or_eq_true, Bool.not_eq_true', decide_eq_false_iff_not, ne_eq, Bool.not_eq_true] at hqt12_1
      refine wp_skip ?_
      (try simp only [Exit.then, Exit.inBlock, ↓reduceIte, Nat.reduceEqDiff])
      refine hK6 _ _ ?_
      refine wp_seq_k (fun K7 hK7 => ?_)
      refine wp_block ?_
      refine wp_seq_k (fun K8 hK8 => ?_)
      refine wp_region_lit ?_
      obtain ⟨y1, hy1⟩ : ∃ x, (l)[k]? = some x := ⟨_, List.getElem?_eq_getElem (by (try simp only [Sl.list_length]); omega)⟩
      obtain ⟨ab1, aoff1, rfl, hlb1, hel1⟩ := RdS.at hl hy1
      refine sqv hf (r_ixa (sz := 8) (j := k) rfl rfl Try.underlying70 (by kernel_rfl) rfl (by omega) rfl) rfl rfl rfl ?_; clear hf fa; intro fa hf
      refine sqv hf (r_loadA (cs := [(.int .i64 y1.1), (.int .i64 y1.2.1), (.string y1.2.2.1), (.string y1.2.2.2.1.1), (.string y1.2.2.2.1.2.1), (.int .u32 y1.2.2.2.2.1.1), (.int .u32 y1.2.2.2.2.1.2.1), (.bool y1.2.2.2.2.1.2.2.1)]) rfl Try.underlying80 rfl (by kernel_rfl) (cellsAt_below hel1 hb hlb1)) rfl rfl rfl ?_; clear hf fa; intro fa hf
      refine sqdt hf (d_alloc (z := (.agg #[(.int .i64 (0 : Int)), (.int .i64 (0 : Int)), (.string ⟨#[]⟩), (.string ⟨#[]⟩), (.string ⟨#[]⟩), (.int .u32 (0 : Int)), (.int .u32 (0 : Int)), (.bool false)])) (cs := #[(.int .i64 (0 : Int)), (.int .i64 (0 : Int)), (.string ⟨#[]⟩), (.string ⟨#[]⟩), (.string ⟨#[]⟩), (.int .u32 (0 : Int)), (.int .u32 (0 : Int)), (.bool false)]) (by kernel_rfl) rfl) rfl rfl rfl ?_; clear hf fa; rintro fa _ w3 ⟨b2, rfl, hle2, hk2, he2⟩ hf
      have hBb2 : w.heap.size ≤ b2 := Nat.le_trans hb.size hle2
      have : b1 < b2 := Nat.lt_of_lt_of_le (blk_lt hkb1) hle2
      replace hkb1 := blk_ext hkb1 he2
      replace hro := Row.ext hro he2
      replace hb := hb.trans (Below.mono he2 hb.size)
      refine sqn hf (d_storeK (T := 80) (v := (.agg #[(.int .i64 y1.1), (.int .i64 y1.2.1), (.string y1.2.2.1), (.string y1.2.2.2.1.1), (.string y1.2.2.2.1.2.1), (.int .u32 y1.2.2.2.2.1.1), (.int .u32 y1.2.2.2.2.1.2.1), (.bool y1.2.2.2.2.1.2.2.1)])) (cs := #[(.int .i64 (0 : Int)), (.int .i64 (0 : Int)), (.string ⟨#[]⟩), (.string ⟨#[]⟩), (.string ⟨#[]⟩), (.int .u32 (0 : Int)), (.int .u32 (0 : Int)), (.bool false)]) (cs' := #[(.int .i64 y1.1), (.int .i64 y1.2.1), (.string y1.2.2.1), (.string y1.2.2.2.1.1), (.string y1.2.2.2.1.2.1), (.int .u32 y1.2.2.2.2.1.1), (.int .u32 y1.2.2.2.2.1.2.1), (.bool y1.2.2.2.2.1.2.2.1)]) rfl rfl (by kernel_rfl) (by kernel_rfl) hk2 (by kernel_rfl) (by kernel_rfl)) rfl rfl ?_; clear hf fa; rintro fa _ w4 ⟨hk3, hg1⟩ hf
      replace hkb1 := blk_grown hkb1 hg1 (by omega)
      replace hro := Row.grown hro hg1 (Row.ne_type hro hk2 rfl)
      replace hb := hb.trans (grown_below hg1 hb.size hBb2)
      apply wpList_nil
      (try simp only [Exit.then, Exit.inBlock, ↓reduceIte, Nat.reduceEqDiff])
      refine hK8 _ _ ?_
      refine wp_seq_k (fun K9 hK9 => ?_)
      refine wp_region_lit ?_
      refine sqv hf (r_fa rfl Try.underlying80 (f := 1) (q := 1) rfl (by kernel_rfl) rfl) rfl rfl rfl ?_; clear hf fa; intro fa hf
      refine sqv hf (r_load (v := (.int .i64 y1.2.1)) rfl Try.underlying3 rfl (cell_blk hk3 rfl)) rfl rfl rfl ?_; clear hf fa; intro fa hf
      refine sqv hf (r_move rfl) rfl rfl rfl ?_; clear hf fa; intro fa hf
      refine sqv hf (r_eq rfl rfl) rfl rfl rfl ?_; clear hf fa; intro fa hf
      apply wpList_nil
      (try simp only [Exit.then, Exit.inBlock, ↓reduceIte, Nat.reduceEqDiff])
      refine hK9 _ _ ?_
      refine wp_cond_split (t := (decide (y1.2.1 = kd))) (hf.ev rfl) (fun hqt18_1 => ?_) (fun hqt18_1 => ?_)
      · have hqt18_1b := hqt18_1
        try simp only [decide_eq_true_eq, Bool.and_eq_true, Bool.or_eq_true, Bool.not_eq_true', decide_eq_false_iff_not, ne_eq, Bool.not_eq_true] at hqt18_1
        refine wp_region_lit ?_
        refine sqv hf (r_move rfl) rfl rfl rfl ?_; clear hf fa; intro fa hf
        refine sqv hf (r_fa rfl Try.underlying80 (f := 2) (q := 2) rfl (by kernel_rfl) rfl) rfl rfl rfl ?_; clear hf fa; intro fa hf
        refine sqv hf (r_load (v := (.string y1.2.2.1)) rfl Try.underlying9 rfl (cell_blk hk3 rfl)) rfl rfl rfl ?_; clear hf fa; intro fa hf
        refine sqdt hf (d_bslice (z := (.string ⟨#[]⟩)) (sz := 1) (vs := [(0, (.string y1.2.2.1))]) (cs := #[(.string y1.2.2.1)]) rfl Try.underlying54 (by kernel_rfl) rfl (by kernel_rfl)) rfl rfl rfl ?_; clear hf fa; rintro fa _ w5 ⟨b3, rfl, hle3, hk4, he3⟩ hf
        have hBb3 : w.heap.size ≤ b3 := Nat.le_trans hb.size hle3
        have : b1 < b3 := Nat.lt_of_lt_of_le (blk_lt hkb1) hle3
        have : b2 < b3 := Nat.lt_of_lt_of_le (blk_lt hk3) hle3
        have hnr1 : (Value.slice roa ((((symP kd (l.take k))).length)) roc).ownBlock ≠ some b3 := fun hq => by have := (Row.lt hro _ hq).2; omega
        replace hkb1 := blk_ext hkb1 he3
        replace hk3 := blk_ext hk3 he3
        replace hro := Row.ext hro he3
        replace hb := hb.trans (Below.mono he3 hb.size)
        have hs1 := Row.rd (by intros; rfl) (Row.of_new (k := 1) (V := vStr) (l := [y1.2.2.1]) hk4 (Nat.le_refl _) rfl rfl (Nat.le_of_ble_eq_true rfl))
        refine sqdt hf (d_append (V := vStr) (k := 1) (e := 9) (bytes := 16) (z := (.string ⟨#[]⟩)) (news := [y1.2.2.1]) (base := w.heap.size) (by intros; rfl) (by intro x u hu; simp only [vStr, List.mem_singleton] at hu; subst hu; rfl) rfl rfl Try.underlying54 (by kernel_rfl) rfl rfl rfl hro hs1 rfl (fun h => by cases h) (by first | omega | (simp only [List.length_cons, List.length_nil, List.length_append]; omega)) (by have := hb.size; omega)) rfl rfl rfl ?_; clear hf fa; rintro fa v w6 ⟨hr1, hg2⟩ hf; obtain ⟨ra1, rc1, rfl, hcrc1, hmrc1⟩ := Row.slice hr1
        replace hkb1 := blk_row' hkb1 hg2 (Row.ne_type hro hkb1 rfl)
        replace hk3 := blk_row' hk3 hg2 (Row.ne_type hro hk3 rfl)
        replace hb := hb.trans (row_below hro hg2 hb.size (by have := hb.size; omega))
        refine sqv hf (r_assign rfl) rfl rfl rfl ?_; clear hf fa; intro fa hf
        apply wpList_nil
        (try simp only [Exit.then, Exit.inBlock, ↓reduceIte, Nat.reduceEqDiff])
        refine hK7 _ _ ?_
        refine wp_region_lit ?_
        refine sqv hf (r_add (C := (((k : Nat) : Int) + (1 : Int))) rfl rfl (by rw [IntKind.wrap_i64]; omega)) rfl rfl rfl ?_; clear hf fa; intro fa hf
        refine sqv hf (r_move rfl) rfl rfl rfl ?_; clear hf fa; intro fa hf
        apply wpList_nil
        (try simp only [Exit.then, Exit.inBlock, ↓reduceIte, Nat.reduceEqDiff])
        have hle := congrArg List.length (symP_yes hy1 hqt18_1)
        simp only [List.length_append, List.length_cons, List.length_nil] at hle
        refine hKL1 _ _ _ (by omega) ⟨(k + 1), ra1, rc1, rfl, hf.sub ⟨rfl, rfl, rfl, rfl, (some_int (by first | rfl | omega)), (some_sl (by first | omega | (simp only [List.length_append, List.length_cons, List.length_nil]; omega) | (simp <;> omega)) rfl), trivial⟩, hb, (rowToK hr1 (symP_yes hy1 hqt18_1)), hkb1, by omega⟩
      · have hqt18_1b := hqt18_1
        replace hqt18_1 := Bool.eq_false_iff.1 hqt18_1
        try simp only [ne_eq, decide_eq_true_eq, Bool.and_eq_true, Bool.or_eq_true, Bool.not_eq_true', decide_eq_false_iff_not] at hqt18_1
        refine wp_skip ?_
        (try simp only [Exit.then, Exit.inBlock, ↓reduceIte, Nat.reduceEqDiff])
        refine hK7 _ _ ?_
        refine wp_region_lit ?_
        refine sqv hf (r_add (C := (((k : Nat) : Int) + (1 : Int))) rfl rfl (by rw [IntKind.wrap_i64]; omega)) rfl rfl rfl ?_; clear hf fa; intro fa hf
        refine sqv hf (r_move rfl) rfl rfl rfl ?_; clear hf fa; intro fa hf
        apply wpList_nil
        (try simp only [Exit.then, Exit.inBlock, ↓reduceIte, Nat.reduceEqDiff])
        have hle := congrArg List.length (symP_no hy1 hqt18_1)
        refine hKL1 _ _ _ (by omega) ⟨(k + 1), roa, roc, rfl, hf.sub ⟨rfl, rfl, rfl, rfl, (some_int (by first | rfl | omega)), (some_sl (by first | omega | (simp only [List.length_append, List.length_cons, List.length_nil]; omega) | (simp <;> omega)) rfl), trivial⟩, hb, (rowToK hro (symP_no hy1 hqt18_1)), hkb1, by omega⟩
    · have hqt12_1b := hqt12_1
      replace hqt12_1 := Bool.eq_false_iff.1 hqt12_1
      try simp only [ne_eq, decide_eq_true_eq, Bool.and_eq_true, Bool.or_eq_true, Bool.not_eq_true', decide_eq_false_iff_not] at hqt12_1
      refine wp_exit ?_
      (try simp only [Exit.then, Exit.inBlock, ↓reduceIte, Nat.reduceEqDiff])
      refine hK3 _ _ ?_
      refine wp_seq_k (fun K10 hK10 => ?_)
      refine wp_region_lit ?_
      refine sqv hf (r_move rfl) rfl rfl rfl ?_; clear hf fa; intro fa hf
      refine sqv hf (r_assign rfl) rfl rfl rfl ?_; clear hf fa; intro fa hf
      apply wpList_nil
      (try simp only [Exit.then, Exit.inBlock, ↓reduceIte, Nat.reduceEqDiff])
      refine hK10 _ _ ?_
      refine wp_ret ?_
      (try simp only [Exit.then, Exit.inBlock])
      refine ret1 hf rfl rfl ?_
      have htn : l.take k = l := List.take_of_length_le (by omega)
      rw [htn] at hro
      exact ⟨_, rfl, by rw [htn]; exact hro, hb⟩

set_option maxHeartbeats 1000000 in
set_option maxRecDepth 100000 in
theorem same_any (la lb : List ByteArray) (aa ab : Option Addr) (ca cb : Nat) (w : World) (ha : RdS 1 vStr w aa la) (hbb : RdS 1 vStr w ab lb) (hma : la.length ≤ 1000) (hmb : lb.length ≤ 1000) : Calls Try.prog 48 #[(.slice aa la.length ca), (.slice ab lb.length cb)] w fun e w' => e = .returned (.bool (decide (la = lb))) ∧ Below w.heap.size w w' := by
  refine sx_enter (L := [(0, (.slice aa la.length ca)), (1, (.slice ab lb.length cb))]) Try.func48 rfl rfl rfl rfl (fun fa hf => ?_)
  have hb : Below w.heap.size w w := Below.refl _ _
  refine wp_seq_k (fun K1 hK1 => ?_)
  refine wp_region_lit ?_
  refine sqv hf (r_assign rfl) rfl rfl rfl ?_; clear hf fa; intro fa hf
  apply wpList_nil
  (try simp only [Exit.then, Exit.inBlock, ↓reduceIte, Nat.reduceEqDiff])
  refine hK1 _ _ ?_
  refine wp_seq_k (fun K2 hK2 => ?_)
  refine wp_seq_k (fun K3 hK3 => ?_)
  refine wp_region_lit ?_
  refine sqv hf (r_move rfl) rfl rfl rfl ?_; clear hf fa; intro fa hf
  refine sqv hf (r_lensl rfl Try.underlying54) rfl rfl rfl ?_; clear hf fa; intro fa hf
  refine sqv hf (r_move rfl) rfl rfl rfl ?_; clear hf fa; intro fa hf
  refine sqv hf (r_lensl rfl Try.underlying54) rfl rfl rfl ?_; clear hf fa; intro fa hf
  refine sqv hf (r_ne rfl rfl) rfl rfl rfl ?_; clear hf fa; intro fa hf
  apply wpList_nil
  (try simp only [Exit.then, Exit.inBlock, ↓reduceIte, Nat.reduceEqDiff])
  refine hK3 _ _ ?_
  refine wp_cond_split (t := (decide (((la.length : Nat) : Int) ≠ ((lb.length : Nat) : Int)))) (hf.ev rfl) (fun hqt10_1 => ?_) (fun hqt10_1 => ?_)
  · have hqt10_1b := hqt10_1
    try simp only [decide_eq_true_eq, Bool.and_eq_true, Bool.or_eq_true, Bool.not_eq_true', decide_eq_false_iff_not, ne_eq, Bool.not_eq_true] at hqt10_1
    refine wp_seq_k (fun K4 hK4 => ?_)
    refine wp_region_lit ?_
    refine sqv hf (r_assign rfl) rfl rfl rfl ?_; clear hf fa; intro fa hf
    apply wpList_nil
    (try simp only [Exit.then, Exit.inBlock, ↓reduceIte, Nat.reduceEqDiff])
    refine hK4 _ _ ?_
    refine wp_ret ?_
    (try simp only [Exit.then, Exit.inBlock])
    refine ret1 hf rfl rfl ?_
    refine ⟨congrArg (fun b => Ending.returned (.bool b)) ?_, hb⟩
    rw [decide_eq_false]; intro h; have h2 := hqt10_1; rw [h] at h2; exact h2 rfl
  · have hqt10_1b := hqt10_1
    replace hqt10_1 := Bool.eq_false_iff.1 hqt10_1
    try simp only [ne_eq, decide_eq_true_eq, Bool.and_eq_true, Bool.or_eq_true, Bool.not_eq_true', decide_eq_false_iff_not] at hqt10_1
    refine wp_skip ?_
    (try simp only [Exit.then, Exit.inBlock, ↓reduceIte, Nat.reduceEqDiff])
    refine hK2 _ _ ?_
    refine wp_seq_k (fun K5 hK5 => ?_)
    refine wp_seq_k (fun K6 hK6 => ?_)
    refine wp_region_lit ?_
    refine sqv hf (r_assign rfl) rfl rfl rfl ?_; clear hf fa; intro fa hf
    apply wpList_nil
    (try simp only [Exit.then, Exit.inBlock, ↓reduceIte, Nat.reduceEqDiff])
    refine hK6 _ _ ?_
    refine wp_block ?_
    refine wp_loop_k (fun mq fa wr => ∃ (k : Nat), mq = la.length - k ∧ Fr 26 fa [(0, (.slice aa la.length ca)), (1, (.slice ab lb.length cb)), (5, (.int .i64 ((k : Nat) : Int)))] ∧ Below w.heap.size w wr ∧ (k ≤ la.length) ∧ (la.take k = lb.take k)) ?_ ?_
    · skip
      exact ⟨_, 0, rfl, hf.sub ⟨rfl, rfl, (some_int (by first | rfl | omega)), trivial⟩, hb, by omega, rfl⟩
    · skip
      clear hf fa; intro mq1 fa w1 hI KL1 hKL1
      clear hb
      obtain ⟨k, hmq1, hf, hb, hk, Hs⟩ := hI
      refine wp_seq_k (fun K7 hK7 => ?_)
      refine wp_seq_k (fun K8 hK8 => ?_)
      refine wp_region_lit ?_
      refine sqv hf (r_move rfl) rfl rfl rfl ?_; clear hf fa; intro fa hf
      refine sqv hf (r_move rfl) rfl rfl rfl ?_; clear hf fa; intro fa hf
      refine sqv hf (r_lensl rfl Try.underlying54) rfl rfl rfl ?_; clear hf fa; intro fa hf
      refine sqv hf (r_lt rfl rfl) rfl rfl rfl ?_; clear hf fa; intro fa hf
      apply wpList_nil
      (try simp only [Exit.then, Exit.inBlock, ↓reduceIte, Nat.reduceEqDiff])
      refine hK8 _ _ ?_
      refine wp_cond_split (t := (decide (((k : Nat) : Int) < ((la.length : Nat) : Int)))) (hf.ev rfl) (fun hqt14_1 => ?_) (fun hqt14_1 => ?_)
      · have hqt14_1b := hqt14_1
        try simp only [decide_eq_true_eq, Bool.and_eq_true, Bool.or_eq_true, Bool.not_eq_true', decide_eq_false_iff_not, ne_eq, Bool.not_eq_true] at hqt14_1
        refine wp_skip ?_
        (try simp only [Exit.then, Exit.inBlock, ↓reduceIte, Nat.reduceEqDiff])
        refine hK7 _ _ ?_
        refine wp_seq_k (fun K9 hK9 => ?_)
        refine wp_block ?_
        refine wp_seq_k (fun K10 hK10 => ?_)
        obtain ⟨y1, hy1⟩ : ∃ x, (la)[k]? = some x := ⟨_, List.getElem?_eq_getElem (by (try simp only [Sl.list_length]); omega)⟩
        obtain ⟨ab1, aoff1, rfl, hlb1, hel1⟩ := RdS.at ha hy1
        obtain ⟨y2, hy2⟩ : ∃ x, (lb)[k]? = some x := ⟨_, List.getElem?_eq_getElem (by (try simp only [Sl.list_length]); omega)⟩
        obtain ⟨ab2, aoff2, rfl, hlb2, hel2⟩ := RdS.at hbb hy2
        refine wp_region_un (fun wq => Below w1.heap.size w1 wq) (fun w w' => Below w.heap.size w w')
          (fun V => [(fun x _ => x = (.slice (some ⟨ab1, aoff1, none⟩) la.length ca)), (fun x _ => x = (.int .i64 ((k : Nat) : Int))), (fun x _ => x = (.pointer (some ⟨ab1, (aoff1 + k * 1), none⟩))), (fun x _ => x = (.string y1)), (fun x _ => x = (.slice (some ⟨ab2, aoff2, none⟩) lb.length cb)), (fun x _ => x = (.int .i64 ((k : Nat) : Int))), (fun x _ => x = (.pointer (some ⟨ab2, (aoff2 + k * 1), none⟩))), (fun x _ => x = (.string y2)), (fun x _ => x = (.bool (decide (y1 ≠ y2))))])
          []
          [[], [], [0, 1], [2], [], [], [4, 5], [6], [3, 7]]
          hf (by kernel_rfl) (by kernel_rfl) (fun _ => rfl) ((Below.refl _ _).drew) (fun a b h1 h2 => h1.trans (h2.mono h1.size)) (fun _ _ h => h.size) (fun V => ⟨kept_eq, kept_eq, kept_eq, kept_eq, kept_eq, kept_eq, kept_eq, kept_eq, kept_eq, trivial⟩) (fun _ _ _ _ _ => rfl) ?_ ?_
        · skip
          intro V
          refine ⟨fun wu0 hC hd => ?_, ?_⟩
          · clear hd
            replace hb := hb.trans (hC.mono hb.size)
            exact Runs.does (r_move rfl) ⟨Below.refl _ _, rfl, nofr rfl⟩
          refine ⟨fun wu1 hC hd => ?_, ?_⟩
          · clear hd
            replace hb := hb.trans (hC.mono hb.size)
            exact Runs.does (r_move rfl) ⟨Below.refl _ _, rfl, nofr rfl⟩
          refine ⟨fun wu2 hC hd => ?_, ?_⟩
          · obtain ⟨h0, h1, _⟩ := hd
            skip
            skip
            replace h0 : V 0 = (.slice (some ⟨ab1, aoff1, none⟩) la.length ca) := h0
            replace h1 : V 1 = (.int .i64 ((k : Nat) : Int)) := h1
            replace hb := hb.trans (hC.mono hb.size)
            exact Runs.does (r_ixa (sz := 1) (j := k) (congrArg some h0) (congrArg some h1) Try.underlying54 (by kernel_rfl) rfl (by omega) rfl) ⟨Below.refl _ _, rfl, nofr rfl⟩
          refine ⟨fun wu3 hC hd => ?_, ?_⟩
          · obtain ⟨h2, _⟩ := hd
            skip
            replace h2 : V 2 = (.pointer (some ⟨ab1, (aoff1 + k * 1), none⟩)) := h2
            replace hb := hb.trans (hC.mono hb.size)
            exact Runs.does (r_load (v := (.string y1)) (congrArg some h2) Try.underlying9 rfl (cellsAt_cell (cellsAt_below hel1 hb hlb1) (i := 0) rfl rfl)) ⟨Below.refl _ _, rfl, nofr rfl⟩
          refine ⟨fun wu4 hC hd => ?_, ?_⟩
          · clear hd
            replace hb := hb.trans (hC.mono hb.size)
            exact Runs.does (r_move rfl) ⟨Below.refl _ _, rfl, nofr rfl⟩
          refine ⟨fun wu5 hC hd => ?_, ?_⟩
          · clear hd
            replace hb := hb.trans (hC.mono hb.size)
            exact Runs.does (r_move rfl) ⟨Below.refl _ _, rfl, nofr rfl⟩
          refine ⟨fun wu6 hC hd => ?_, ?_⟩
          · obtain ⟨h4, h5, _⟩ := hd
            skip
            skip
            replace h4 : V 4 = (.slice (some ⟨ab2, aoff2, none⟩) lb.length cb) := h4
            replace h5 : V 5 = (.int .i64 ((k : Nat) : Int)) := h5
            replace hb := hb.trans (hC.mono hb.size)
            exact Runs.does (r_ixa (sz := 1) (j := k) (congrArg some h4) (congrArg some h5) Try.underlying54 (by kernel_rfl) rfl (by omega) rfl) ⟨Below.refl _ _, rfl, nofr rfl⟩
          refine ⟨fun wu7 hC hd => ?_, ?_⟩
          · obtain ⟨h6, _⟩ := hd
            skip
            replace h6 : V 6 = (.pointer (some ⟨ab2, (aoff2 + k * 1), none⟩)) := h6
            replace hb := hb.trans (hC.mono hb.size)
            exact Runs.does (r_load (v := (.string y2)) (congrArg some h6) Try.underlying9 rfl (cellsAt_cell (cellsAt_below hel2 hb hlb2) (i := 0) rfl rfl)) ⟨Below.refl _ _, rfl, nofr rfl⟩
          refine ⟨fun wu8 hC hd => ?_, ?_⟩
          · obtain ⟨h3, h7, _⟩ := hd
            skip
            skip
            replace h3 : V 3 = (.string y1) := h3
            replace h7 : V 7 = (.string y2) := h7
            replace hb := hb.trans (hC.mono hb.size)
            exact Runs.does (r_sne (congrArg some h3) (congrArg some h7)) ⟨Below.refl _ _, rfl, nofr rfl⟩
          trivial
        · skip
          clear hf fa; intro V w2 fa he1 hp hnb hf
          have hv0 : V 0 = (.slice (some ⟨ab1, aoff1, none⟩) la.length ca) := postsHold_at hp 0 rfl
          have hv1 : V 1 = (.int .i64 ((k : Nat) : Int)) := postsHold_at hp 1 rfl
          have hv2 : V 2 = (.pointer (some ⟨ab1, (aoff1 + k * 1), none⟩)) := postsHold_at hp 2 rfl
          have hv3 : V 3 = (.string y1) := postsHold_at hp 3 rfl
          have hv4 : V 4 = (.slice (some ⟨ab2, aoff2, none⟩) lb.length cb) := postsHold_at hp 4 rfl
          have hv5 : V 5 = (.int .i64 ((k : Nat) : Int)) := postsHold_at hp 5 rfl
          have hv6 : V 6 = (.pointer (some ⟨ab2, (aoff2 + k * 1), none⟩)) := postsHold_at hp 6 rfl
          have hv7 : V 7 = (.string y2) := postsHold_at hp 7 rfl
          have hv8 : V 8 = (.bool (decide (y1 ≠ y2))) := postsHold_at hp 8 rfl
          simp only [List.take_succ_cons, List.take_zero, insAll, ins, hv0, hv1, hv2, hv3, hv4, hv5, hv6, hv7, hv8] at hf
          clear hp hnb hv0 hv1 hv2 hv3 hv4 hv5 hv6 hv7 hv8
          replace hb := hb.trans (Below.mono he1 hb.size)
          (try simp only [Exit.then, Exit.inBlock, ↓reduceIte, Nat.reduceEqDiff])
          refine hK10 _ _ ?_
          refine wp_cond_split (t := (decide (y1 ≠ y2))) (hf.ev rfl) (fun hqt25_1 => ?_) (fun hqt25_1 => ?_)
          · have hqt25_1b := hqt25_1
            try simp only [decide_eq_true_eq, Bool.and_eq_true, Bool.or_eq_true, Bool.not_eq_true', decide_eq_false_iff_not, ne_eq, Bool.not_eq_true] at hqt25_1
            refine wp_seq_k (fun K11 hK11 => ?_)
            refine wp_region_lit ?_
            refine sqv hf (r_assign rfl) rfl rfl rfl ?_; clear hf fa; intro fa hf
            apply wpList_nil
            (try simp only [Exit.then, Exit.inBlock, ↓reduceIte, Nat.reduceEqDiff])
            refine hK11 _ _ ?_
            refine wp_ret ?_
            (try simp only [Exit.then, Exit.inBlock])
            refine ret1 hf rfl rfl ?_
            refine ⟨congrArg (fun b => Ending.returned (.bool b)) ?_, hb⟩
            rw [decide_eq_false]; intro h; have h2 := hqt25_1; have e1 := hy1; have e2 := hy2; rw [h, e2] at e1; exact h2 (Option.some.inj e1).symm
          · have hqt25_1b := hqt25_1
            replace hqt25_1 := Bool.eq_false_iff.1 hqt25_1
            try simp only [ne_eq, decide_eq_true_eq, Bool.and_eq_true, Bool.or_eq_true, Bool.not_eq_true', decide_eq_false_iff_not] at hqt25_1
            refine wp_skip ?_
            (try simp only [Exit.then, Exit.inBlock, ↓reduceIte, Nat.reduceEqDiff])
            refine hK9 _ _ ?_
            refine wp_region_lit ?_
            refine sqv hf (r_move rfl) rfl rfl rfl ?_; clear hf fa; intro fa hf
            refine sqv hf (r_add (C := (((k : Nat) : Int) + (1 : Int))) rfl rfl (by rw [IntKind.wrap_i64]; omega)) rfl rfl rfl ?_; clear hf fa; intro fa hf
            refine sqv hf (r_assign rfl) rfl rfl rfl ?_; clear hf fa; intro fa hf
            apply wpList_nil
            (try simp only [Exit.then, Exit.inBlock, ↓reduceIte, Nat.reduceEqDiff])
            refine hKL1 _ _ _ (by omega) ⟨(k + 1), rfl, hf.sub ⟨rfl, rfl, (some_int (by first | rfl | omega)), trivial⟩, hb, by omega, (by rw [List.take_add_one, List.take_add_one, hy1, hy2, Hs]; have h := hqt25_1; simpa using h)⟩
      · have hqt14_1b := hqt14_1
        replace hqt14_1 := Bool.eq_false_iff.1 hqt14_1
        try simp only [ne_eq, decide_eq_true_eq, Bool.and_eq_true, Bool.or_eq_true, Bool.not_eq_true', decide_eq_false_iff_not] at hqt14_1
        refine wp_exit ?_
        (try simp only [Exit.then, Exit.inBlock, ↓reduceIte, Nat.reduceEqDiff])
        refine hK5 _ _ ?_
        refine wp_seq_k (fun K12 hK12 => ?_)
        refine wp_region_lit ?_
        refine sqv hf (r_assign rfl) rfl rfl rfl ?_; clear hf fa; intro fa hf
        apply wpList_nil
        (try simp only [Exit.then, Exit.inBlock, ↓reduceIte, Nat.reduceEqDiff])
        refine hK12 _ _ ?_
        refine wp_ret ?_
        (try simp only [Exit.then, Exit.inBlock])
        refine ret1 hf rfl rfl ?_
        refine ⟨congrArg (fun b => Ending.returned (.bool b)) ?_, hb⟩
        have h2 := hqt10_1
        rw [decide_eq_true]; have h := Hs; rw [List.take_of_length_le (by omega), List.take_of_length_le (by omega)] at h; exact h

set_option maxHeartbeats 1000000 in
set_option maxRecDepth 100000 in
theorem planWants_any (m : MMd) (kd : Int) (w : World) (g : fMMd w m) : Calls Try.prog 12 #[(.agg #[(.slice m.1.at' m.1.len m.1.cap), (.slice m.2.1.at' m.2.1.len m.2.1.cap), (.slice m.2.2.1.at' m.2.2.1.len m.2.2.1.cap), (.slice m.2.2.2.1.at' m.2.2.2.1.len m.2.2.2.1.cap), (.slice m.2.2.2.2.1.at' m.2.2.2.2.1.len m.2.2.2.2.1.cap), (.slice m.2.2.2.2.2.1.at' m.2.2.2.2.2.1.len m.2.2.2.2.2.1.cap), (.slice m.2.2.2.2.2.2.1.at' m.2.2.2.2.2.2.1.len m.2.2.2.2.2.2.1.cap), (.int .i64 m.2.2.2.2.2.2.2.1), (.slice m.2.2.2.2.2.2.2.2.1.at' m.2.2.2.2.2.2.2.2.1.len m.2.2.2.2.2.2.2.2.1.cap), (.slice m.2.2.2.2.2.2.2.2.2.1.at' m.2.2.2.2.2.2.2.2.2.1.len m.2.2.2.2.2.2.2.2.2.1.cap), (.slice m.2.2.2.2.2.2.2.2.2.2.1.at' m.2.2.2.2.2.2.2.2.2.2.1.len m.2.2.2.2.2.2.2.2.2.2.1.cap), (.bool m.2.2.2.2.2.2.2.2.2.2.2.1.1), (.int .u32 m.2.2.2.2.2.2.2.2.2.2.2.1.2.1), (.int .u32 m.2.2.2.2.2.2.2.2.2.2.2.1.2.2.1), (.int .u32 m.2.2.2.2.2.2.2.2.2.2.2.1.2.2.2.1), (.int .u32 m.2.2.2.2.2.2.2.2.2.2.2.1.2.2.2.2.1), (.slice m.2.2.2.2.2.2.2.2.2.2.2.1.2.2.2.2.2.1.at' m.2.2.2.2.2.2.2.2.2.2.2.1.2.2.2.2.2.1.len m.2.2.2.2.2.2.2.2.2.2.2.1.2.2.2.2.2.1.cap)]), (.int .i64 kd)] w fun e w' => e = .returned (.bool true) ∧ Below w.heap.size w w' := by
  have hT := RdS.of_arg g.1.2
  have hI := RdS.of_arg g.2.1.2
  have hlc := g.2.1.2.1
  have hF : ∀ y ∈ m.2.1.list, 0 ≤ y.2.2.2.1 ∧ y.2.2.2.1 < 4294967296 := fun y hy => fInt_u32 (w := w) (fSl_mem g.2.1.2 hy).2.2.2.1
  have hD := And.intro (fInt_u32 (w := w) g.2.2.2.2.2.2.2.2.2.2.2.1.2.1) (fInt_u32 (w := w) g.2.2.2.2.2.2.2.2.2.2.2.1.2.2.2.1)
  have hTl : m.1.len ≤ 4398046510976 := by have := g.1.1; omega
  refine sx_enter (L := [(0, (.agg #[(.slice m.1.at' m.1.len m.1.cap), (.slice m.2.1.at' m.2.1.len m.2.1.cap), (.slice m.2.2.1.at' m.2.2.1.len m.2.2.1.cap), (.slice m.2.2.2.1.at' m.2.2.2.1.len m.2.2.2.1.cap), (.slice m.2.2.2.2.1.at' m.2.2.2.2.1.len m.2.2.2.2.1.cap), (.slice m.2.2.2.2.2.1.at' m.2.2.2.2.2.1.len m.2.2.2.2.2.1.cap), (.slice m.2.2.2.2.2.2.1.at' m.2.2.2.2.2.2.1.len m.2.2.2.2.2.2.1.cap), (.int .i64 m.2.2.2.2.2.2.2.1), (.slice m.2.2.2.2.2.2.2.2.1.at' m.2.2.2.2.2.2.2.2.1.len m.2.2.2.2.2.2.2.2.1.cap), (.slice m.2.2.2.2.2.2.2.2.2.1.at' m.2.2.2.2.2.2.2.2.2.1.len m.2.2.2.2.2.2.2.2.2.1.cap), (.slice m.2.2.2.2.2.2.2.2.2.2.1.at' m.2.2.2.2.2.2.2.2.2.2.1.len m.2.2.2.2.2.2.2.2.2.2.1.cap), (.bool m.2.2.2.2.2.2.2.2.2.2.2.1.1), (.int .u32 m.2.2.2.2.2.2.2.2.2.2.2.1.2.1), (.int .u32 m.2.2.2.2.2.2.2.2.2.2.2.1.2.2.1), (.int .u32 m.2.2.2.2.2.2.2.2.2.2.2.1.2.2.2.1), (.int .u32 m.2.2.2.2.2.2.2.2.2.2.2.1.2.2.2.2.1), (.slice m.2.2.2.2.2.2.2.2.2.2.2.1.2.2.2.2.2.1.at' m.2.2.2.2.2.2.2.2.2.2.2.1.2.2.2.2.2.1.len m.2.2.2.2.2.2.2.2.2.2.2.1.2.2.2.2.2.1.cap)])), (1, (.int .i64 kd))]) Try.func12 rfl rfl rfl rfl (fun fa hf => ?_)
  have hb : Below w.heap.size w w := Below.refl _ _
  refine wp_seq_k (fun K1 hK1 => ?_)
  refine wp_region_lit ?_
  refine sqdt hf (d_box (cs := #[(.slice m.1.at' m.1.len m.1.cap), (.slice m.2.1.at' m.2.1.len m.2.1.cap), (.slice m.2.2.1.at' m.2.2.1.len m.2.2.1.cap), (.slice m.2.2.2.1.at' m.2.2.2.1.len m.2.2.2.1.cap), (.slice m.2.2.2.2.1.at' m.2.2.2.2.1.len m.2.2.2.2.1.cap), (.slice m.2.2.2.2.2.1.at' m.2.2.2.2.2.1.len m.2.2.2.2.2.1.cap), (.slice m.2.2.2.2.2.2.1.at' m.2.2.2.2.2.2.1.len m.2.2.2.2.2.2.1.cap), (.int .i64 m.2.2.2.2.2.2.2.1), (.slice m.2.2.2.2.2.2.2.2.1.at' m.2.2.2.2.2.2.2.2.1.len m.2.2.2.2.2.2.2.2.1.cap), (.slice m.2.2.2.2.2.2.2.2.2.1.at' m.2.2.2.2.2.2.2.2.2.1.len m.2.2.2.2.2.2.2.2.2.1.cap), (.slice m.2.2.2.2.2.2.2.2.2.2.1.at' m.2.2.2.2.2.2.2.2.2.2.1.len m.2.2.2.2.2.2.2.2.2.2.1.cap), (.bool m.2.2.2.2.2.2.2.2.2.2.2.1.1), (.int .u32 m.2.2.2.2.2.2.2.2.2.2.2.1.2.1), (.int .u32 m.2.2.2.2.2.2.2.2.2.2.2.1.2.2.1), (.int .u32 m.2.2.2.2.2.2.2.2.2.2.2.1.2.2.2.1), (.int .u32 m.2.2.2.2.2.2.2.2.2.2.2.1.2.2.2.2.1), (.slice m.2.2.2.2.2.2.2.2.2.2.2.1.2.2.2.2.2.1.at' m.2.2.2.2.2.2.2.2.2.2.2.1.2.2.2.2.2.1.len m.2.2.2.2.2.2.2.2.2.2.2.1.2.2.2.2.2.1.cap)]) rfl rfl) rfl rfl rfl ?_; clear hf fa; rintro fa _ w1 ⟨b1, rfl, hle1, hk1, he1⟩ hf
  have hBb1 : w.heap.size ≤ b1 := Nat.le_trans hb.size hle1
  replace hb := hb.trans (Below.mono he1 hb.size)
  refine sqv hf (r_assign rfl) rfl rfl rfl ?_; clear hf fa; intro fa hf
  apply wpList_nil
  (try simp only [Exit.then, Exit.inBlock, ↓reduceIte, Nat.reduceEqDiff])
  refine hK1 _ _ ?_
  refine wp_seq_k (fun K2 hK2 => ?_)
  refine wp_seq_k (fun K3 hK3 => ?_)
  refine wp_region_lit ?_
  refine sqdt hf (d_callB (vs := []) rfl Try.func31 (by kernel_rfl) (by kernel_rfl) (awake38_any _)) rfl rfl rfl ?_; clear hf fa; rintro fa _ w2 ⟨rfl, he2⟩ hf
  replace hk1 := blk_ext hk1 he2
  replace hb := hb.trans (Below.mono he2 hb.size)
  refine sqv hf (Runs.veq (v' := (.bool false)) (r_not rfl) rfl) rfl rfl rfl ?_; clear hf fa; intro fa hf
  apply wpList_nil
  (try simp only [Exit.then, Exit.inBlock, ↓reduceIte, Nat.reduceEqDiff])
  refine hK3 _ _ ?_
  refine wp_cond_false (hf.ev rfl) ?_
  refine wp_skip ?_
  (try simp only [Exit.then, Exit.inBlock, ↓reduceIte, Nat.reduceEqDiff])
  refine hK2 _ _ ?_
  refine wp_seq_k (fun K4 hK4 => ?_)
  refine wp_seq_k (fun K5 hK5 => ?_)
  refine wp_region_lit ?_
  refine sqv hf (r_loadA (cs := [(.slice m.1.at' m.1.len m.1.cap), (.slice m.2.1.at' m.2.1.len m.2.1.cap), (.slice m.2.2.1.at' m.2.2.1.len m.2.2.1.cap), (.slice m.2.2.2.1.at' m.2.2.2.1.len m.2.2.2.1.cap), (.slice m.2.2.2.2.1.at' m.2.2.2.2.1.len m.2.2.2.2.1.cap), (.slice m.2.2.2.2.2.1.at' m.2.2.2.2.2.1.len m.2.2.2.2.2.1.cap), (.slice m.2.2.2.2.2.2.1.at' m.2.2.2.2.2.2.1.len m.2.2.2.2.2.2.1.cap), (.int .i64 m.2.2.2.2.2.2.2.1), (.slice m.2.2.2.2.2.2.2.2.1.at' m.2.2.2.2.2.2.2.2.1.len m.2.2.2.2.2.2.2.2.1.cap), (.slice m.2.2.2.2.2.2.2.2.2.1.at' m.2.2.2.2.2.2.2.2.2.1.len m.2.2.2.2.2.2.2.2.2.1.cap), (.slice m.2.2.2.2.2.2.2.2.2.2.1.at' m.2.2.2.2.2.2.2.2.2.2.1.len m.2.2.2.2.2.2.2.2.2.2.1.cap), (.bool m.2.2.2.2.2.2.2.2.2.2.2.1.1), (.int .u32 m.2.2.2.2.2.2.2.2.2.2.2.1.2.1), (.int .u32 m.2.2.2.2.2.2.2.2.2.2.2.1.2.2.1), (.int .u32 m.2.2.2.2.2.2.2.2.2.2.2.1.2.2.2.1), (.int .u32 m.2.2.2.2.2.2.2.2.2.2.2.1.2.2.2.2.1), (.slice m.2.2.2.2.2.2.2.2.2.2.2.1.2.2.2.2.2.1.at' m.2.2.2.2.2.2.2.2.2.2.2.1.2.2.2.2.2.1.len m.2.2.2.2.2.2.2.2.2.2.2.1.2.2.2.2.2.1.cap)]) rfl Try.underlying67 rfl (by kernel_rfl) (cellsAt_blk hk1)) rfl rfl rfl ?_; clear hf fa; intro fa hf
  refine sqdt hf (d_callX (vs := [(.agg #[(.slice m.1.at' m.1.len m.1.cap), (.slice m.2.1.at' m.2.1.len m.2.1.cap), (.slice m.2.2.1.at' m.2.2.1.len m.2.2.1.cap), (.slice m.2.2.2.1.at' m.2.2.2.1.len m.2.2.2.1.cap), (.slice m.2.2.2.2.1.at' m.2.2.2.2.1.len m.2.2.2.2.1.cap), (.slice m.2.2.2.2.2.1.at' m.2.2.2.2.2.1.len m.2.2.2.2.2.1.cap), (.slice m.2.2.2.2.2.2.1.at' m.2.2.2.2.2.2.1.len m.2.2.2.2.2.2.1.cap), (.int .i64 m.2.2.2.2.2.2.2.1), (.slice m.2.2.2.2.2.2.2.2.1.at' m.2.2.2.2.2.2.2.2.1.len m.2.2.2.2.2.2.2.2.1.cap), (.slice m.2.2.2.2.2.2.2.2.2.1.at' m.2.2.2.2.2.2.2.2.2.1.len m.2.2.2.2.2.2.2.2.2.1.cap), (.slice m.2.2.2.2.2.2.2.2.2.2.1.at' m.2.2.2.2.2.2.2.2.2.2.1.len m.2.2.2.2.2.2.2.2.2.2.1.cap), (.bool m.2.2.2.2.2.2.2.2.2.2.2.1.1), (.int .u32 m.2.2.2.2.2.2.2.2.2.2.2.1.2.1), (.int .u32 m.2.2.2.2.2.2.2.2.2.2.2.1.2.2.1), (.int .u32 m.2.2.2.2.2.2.2.2.2.2.2.1.2.2.2.1), (.int .u32 m.2.2.2.2.2.2.2.2.2.2.2.1.2.2.2.2.1), (.slice m.2.2.2.2.2.2.2.2.2.2.2.1.2.2.2.2.2.1.at' m.2.2.2.2.2.2.2.2.2.2.2.1.2.2.2.2.2.1.len m.2.2.2.2.2.2.2.2.2.2.2.1.2.2.2.2.2.1.cap)])]) rfl Try.func32 (by kernel_rfl) (by kernel_rfl) (small_any m _ (rdMMd.kept _ _ _ hb g))) rfl rfl rfl ?_; clear hf fa; rintro fa _ w3 ⟨sb1, rfl, hfx1, he3⟩ hf
  replace hk1 := blk_ext hk1 he3
  replace hb := hb.trans (Below.mono he3 hb.size)
  refine sqv hf (r_not rfl) rfl rfl rfl ?_; clear hf fa; intro fa hf
  apply wpList_nil
  (try simp only [Exit.then, Exit.inBlock, ↓reduceIte, Nat.reduceEqDiff])
  refine hK5 _ _ ?_
  refine wp_cond_split (t := (!sb1)) (hf.ev rfl) (fun hqt22_1 => ?_) (fun hqt22_1 => ?_)
  · have hqt22_1b := hqt22_1
    try simp only [decide_eq_true_eq, Bool.and_eq_true, Bool.or_eq_true, Bool.not_eq_true', decide_eq_false_iff_not, ne_eq, Bool.not_eq_true] at hqt22_1
    refine wp_seq_k (fun K6 hK6 => ?_)
    refine wp_region_lit ?_
    refine sqv hf (r_assign rfl) rfl rfl rfl ?_; clear hf fa; intro fa hf
    apply wpList_nil
    (try simp only [Exit.then, Exit.inBlock, ↓reduceIte, Nat.reduceEqDiff])
    refine hK6 _ _ ?_
    refine wp_ret ?_
    (try simp only [Exit.then, Exit.inBlock])
    refine ret1 hf rfl rfl ?_
    exact ⟨rfl, hb⟩
  · have hqt22_1b := hqt22_1
    replace hqt22_1 := Bool.eq_false_iff.1 hqt22_1
    try simp only [ne_eq, decide_eq_true_eq, Bool.and_eq_true, Bool.or_eq_true, Bool.not_eq_true', decide_eq_false_iff_not] at hqt22_1
    refine wp_skip ?_
    (try simp only [Exit.then, Exit.inBlock, ↓reduceIte, Nat.reduceEqDiff])
    refine hK4 _ _ ?_
    refine wp_seq_k (fun K7 hK7 => ?_)
    have hsm := hfx1 (by simpa using hqt22_1b)
    have hIl : m.2.1.len ≤ 40 := by have := hsm.1; omega
    obtain ⟨pl, hpl⟩ : ∃ x, ofP m = x := ⟨_, rfl⟩
    obtain ⟨rp, hrp⟩ : ∃ x, rofP m = x := ⟨_, rfl⟩
    obtain ⟨or1, or2, or3, or4⟩ := of_rel m (fun y hy => (hF y hy).1)
    rw [hpl] at or1 or2 or3 or4
    rw [hrp] at or1 or2 or4
    refine wp_region_lit ?_
    refine sqv hf (r_loadA (cs := [(.slice m.1.at' m.1.len m.1.cap), (.slice m.2.1.at' m.2.1.len m.2.1.cap), (.slice m.2.2.1.at' m.2.2.1.len m.2.2.1.cap), (.slice m.2.2.2.1.at' m.2.2.2.1.len m.2.2.2.1.cap), (.slice m.2.2.2.2.1.at' m.2.2.2.2.1.len m.2.2.2.2.1.cap), (.slice m.2.2.2.2.2.1.at' m.2.2.2.2.2.1.len m.2.2.2.2.2.1.cap), (.slice m.2.2.2.2.2.2.1.at' m.2.2.2.2.2.2.1.len m.2.2.2.2.2.2.1.cap), (.int .i64 m.2.2.2.2.2.2.2.1), (.slice m.2.2.2.2.2.2.2.2.1.at' m.2.2.2.2.2.2.2.2.1.len m.2.2.2.2.2.2.2.2.1.cap), (.slice m.2.2.2.2.2.2.2.2.2.1.at' m.2.2.2.2.2.2.2.2.2.1.len m.2.2.2.2.2.2.2.2.2.1.cap), (.slice m.2.2.2.2.2.2.2.2.2.2.1.at' m.2.2.2.2.2.2.2.2.2.2.1.len m.2.2.2.2.2.2.2.2.2.2.1.cap), (.bool m.2.2.2.2.2.2.2.2.2.2.2.1.1), (.int .u32 m.2.2.2.2.2.2.2.2.2.2.2.1.2.1), (.int .u32 m.2.2.2.2.2.2.2.2.2.2.2.1.2.2.1), (.int .u32 m.2.2.2.2.2.2.2.2.2.2.2.1.2.2.2.1), (.int .u32 m.2.2.2.2.2.2.2.2.2.2.2.1.2.2.2.2.1), (.slice m.2.2.2.2.2.2.2.2.2.2.2.1.2.2.2.2.2.1.at' m.2.2.2.2.2.2.2.2.2.2.2.1.2.2.2.2.2.1.len m.2.2.2.2.2.2.2.2.2.2.2.1.2.2.2.2.2.1.cap)]) rfl Try.underlying67 rfl (by kernel_rfl) (cellsAt_blk hk1)) rfl rfl rfl ?_; clear hf fa; intro fa hf
    refine sqdt hf (d_callX (vs := [(.agg #[(.slice m.1.at' m.1.len m.1.cap), (.slice m.2.1.at' m.2.1.len m.2.1.cap), (.slice m.2.2.1.at' m.2.2.1.len m.2.2.1.cap), (.slice m.2.2.2.1.at' m.2.2.2.1.len m.2.2.2.1.cap), (.slice m.2.2.2.2.1.at' m.2.2.2.2.1.len m.2.2.2.2.1.cap), (.slice m.2.2.2.2.2.1.at' m.2.2.2.2.2.1.len m.2.2.2.2.2.1.cap), (.slice m.2.2.2.2.2.2.1.at' m.2.2.2.2.2.2.1.len m.2.2.2.2.2.2.1.cap), (.int .i64 m.2.2.2.2.2.2.2.1), (.slice m.2.2.2.2.2.2.2.2.1.at' m.2.2.2.2.2.2.2.2.1.len m.2.2.2.2.2.2.2.2.1.cap), (.slice m.2.2.2.2.2.2.2.2.2.1.at' m.2.2.2.2.2.2.2.2.2.1.len m.2.2.2.2.2.2.2.2.2.1.cap), (.slice m.2.2.2.2.2.2.2.2.2.2.1.at' m.2.2.2.2.2.2.2.2.2.2.1.len m.2.2.2.2.2.2.2.2.2.2.1.cap), (.bool m.2.2.2.2.2.2.2.2.2.2.2.1.1), (.int .u32 m.2.2.2.2.2.2.2.2.2.2.2.1.2.1), (.int .u32 m.2.2.2.2.2.2.2.2.2.2.2.1.2.2.1), (.int .u32 m.2.2.2.2.2.2.2.2.2.2.2.1.2.2.2.1), (.int .u32 m.2.2.2.2.2.2.2.2.2.2.2.1.2.2.2.2.1), (.slice m.2.2.2.2.2.2.2.2.2.2.2.1.2.2.2.2.2.1.at' m.2.2.2.2.2.2.2.2.2.2.2.1.2.2.2.2.2.1.len m.2.2.2.2.2.2.2.2.2.2.2.1.2.2.2.2.2.1.cap)])]) rfl Try.func33 (by kernel_rfl) (by kernel_rfl) (by have h := of_any m _ (RdS.ext hT hb) (RdS.ext hI hb) hF hD hTl (by omega); rw [hpl] at h; exact h)) rfl rfl rfl ?_; clear hf fa; rintro fa _ w4 ⟨pla, plc, rfl, hr1, he4⟩ hf
    replace hr1 := Row.rebase hr1 hb.size
    replace hk1 := blk_ext hk1 he4
    replace hb := hb.trans (Below.mono he4 hb.size)
    have hcplc := Row.caps hr1
    refine sqv hf (r_move rfl) rfl rfl rfl ?_; clear hf fa; intro fa hf
    refine sqv hf (r_extract rfl (i := 0) rfl) rfl rfl rfl ?_; clear hf fa; intro fa hf
    refine sqv hf (r_extract rfl (i := 1) rfl) rfl rfl rfl ?_; clear hf fa; intro fa hf
    refine sqv hf (r_extract rfl (i := 2) rfl) rfl rfl rfl ?_; clear hf fa; intro fa hf
    refine sqdt hf (d_alloc (z := (.agg #[(.slice none 0 0), (.int .i64 (0 : Int)), (.int .i64 (0 : Int)), (.int .u32 (0 : Int)), (.int .u32 (0 : Int)), (.int .i64 (0 : Int))])) (cs := #[(.slice none 0 0), (.int .i64 (0 : Int)), (.int .i64 (0 : Int)), (.int .u32 (0 : Int)), (.int .u32 (0 : Int)), (.int .i64 (0 : Int))]) (by kernel_rfl) rfl) rfl rfl rfl ?_; clear hf fa; rintro fa _ w5 ⟨b2, rfl, hle2, hk2, he5⟩ hf
    have hBb2 : w.heap.size ≤ b2 := Nat.le_trans hb.size hle2
    have : b1 < b2 := Nat.lt_of_lt_of_le (blk_lt hk1) hle2
    replace hk1 := blk_ext hk1 he5
    replace hr1 := Row.ext hr1 he5
    replace hb := hb.trans (Below.mono he5 hb.size)
    refine sqn hf (d_storeK (T := 72) (v := (.agg #[(.slice pla pl.1.length plc), (.int .i64 pl.2.1), (.int .i64 pl.2.2.1), (.int .u32 pl.2.2.2.1), (.int .u32 pl.2.2.2.2.1), (.int .i64 pl.2.2.2.2.2.1)])) (cs := #[(.slice none 0 0), (.int .i64 (0 : Int)), (.int .i64 (0 : Int)), (.int .u32 (0 : Int)), (.int .u32 (0 : Int)), (.int .i64 (0 : Int))]) (cs' := #[(.slice pla pl.1.length plc), (.int .i64 pl.2.1), (.int .i64 pl.2.2.1), (.int .u32 pl.2.2.2.1), (.int .u32 pl.2.2.2.2.1), (.int .i64 pl.2.2.2.2.2.1)]) rfl rfl (by kernel_rfl) (by kernel_rfl) hk2 (by kernel_rfl) (by kernel_rfl)) rfl rfl ?_; clear hf fa; rintro fa _ w6 ⟨hk3, hg1⟩ hf
    replace hk1 := blk_grown hk1 hg1 (by omega)
    replace hr1 := Row.grown hr1 hg1 (Row.ne_type hr1 hk2 rfl)
    replace hb := hb.trans (grown_below hg1 hb.size hBb2)
    refine sqv hf (r_assign rfl) rfl rfl rfl ?_; clear hf fa; intro fa hf
    refine sqv hf (r_assign rfl) rfl rfl rfl ?_; clear hf fa; intro fa hf
    apply wpList_nil
    (try simp only [Exit.then, Exit.inBlock, ↓reduceIte, Nat.reduceEqDiff])
    refine hK7 _ _ ?_
    refine wp_seq_k (fun K8 hK8 => ?_)
    refine wp_region_lit ?_
    refine sqv hf (r_loadA (cs := [(.slice m.1.at' m.1.len m.1.cap), (.slice m.2.1.at' m.2.1.len m.2.1.cap), (.slice m.2.2.1.at' m.2.2.1.len m.2.2.1.cap), (.slice m.2.2.2.1.at' m.2.2.2.1.len m.2.2.2.1.cap), (.slice m.2.2.2.2.1.at' m.2.2.2.2.1.len m.2.2.2.2.1.cap), (.slice m.2.2.2.2.2.1.at' m.2.2.2.2.2.1.len m.2.2.2.2.2.1.cap), (.slice m.2.2.2.2.2.2.1.at' m.2.2.2.2.2.2.1.len m.2.2.2.2.2.2.1.cap), (.int .i64 m.2.2.2.2.2.2.2.1), (.slice m.2.2.2.2.2.2.2.2.1.at' m.2.2.2.2.2.2.2.2.1.len m.2.2.2.2.2.2.2.2.1.cap), (.slice m.2.2.2.2.2.2.2.2.2.1.at' m.2.2.2.2.2.2.2.2.2.1.len m.2.2.2.2.2.2.2.2.2.1.cap), (.slice m.2.2.2.2.2.2.2.2.2.2.1.at' m.2.2.2.2.2.2.2.2.2.2.1.len m.2.2.2.2.2.2.2.2.2.2.1.cap), (.bool m.2.2.2.2.2.2.2.2.2.2.2.1.1), (.int .u32 m.2.2.2.2.2.2.2.2.2.2.2.1.2.1), (.int .u32 m.2.2.2.2.2.2.2.2.2.2.2.1.2.2.1), (.int .u32 m.2.2.2.2.2.2.2.2.2.2.2.1.2.2.2.1), (.int .u32 m.2.2.2.2.2.2.2.2.2.2.2.1.2.2.2.2.1), (.slice m.2.2.2.2.2.2.2.2.2.2.2.1.2.2.2.2.2.1.at' m.2.2.2.2.2.2.2.2.2.2.2.1.2.2.2.2.2.1.len m.2.2.2.2.2.2.2.2.2.2.2.1.2.2.2.2.2.1.cap)]) rfl Try.underlying67 rfl (by kernel_rfl) (cellsAt_blk hk1)) rfl rfl rfl ?_; clear hf fa; intro fa hf
    refine sqdt hf (d_callX (vs := [(.agg #[(.slice m.1.at' m.1.len m.1.cap), (.slice m.2.1.at' m.2.1.len m.2.1.cap), (.slice m.2.2.1.at' m.2.2.1.len m.2.2.1.cap), (.slice m.2.2.2.1.at' m.2.2.2.1.len m.2.2.2.1.cap), (.slice m.2.2.2.2.1.at' m.2.2.2.2.1.len m.2.2.2.2.1.cap), (.slice m.2.2.2.2.2.1.at' m.2.2.2.2.2.1.len m.2.2.2.2.2.1.cap), (.slice m.2.2.2.2.2.2.1.at' m.2.2.2.2.2.2.1.len m.2.2.2.2.2.2.1.cap), (.int .i64 m.2.2.2.2.2.2.2.1), (.slice m.2.2.2.2.2.2.2.2.1.at' m.2.2.2.2.2.2.2.2.1.len m.2.2.2.2.2.2.2.2.1.cap), (.slice m.2.2.2.2.2.2.2.2.2.1.at' m.2.2.2.2.2.2.2.2.2.1.len m.2.2.2.2.2.2.2.2.2.1.cap), (.slice m.2.2.2.2.2.2.2.2.2.2.1.at' m.2.2.2.2.2.2.2.2.2.2.1.len m.2.2.2.2.2.2.2.2.2.2.1.cap), (.bool m.2.2.2.2.2.2.2.2.2.2.2.1.1), (.int .u32 m.2.2.2.2.2.2.2.2.2.2.2.1.2.1), (.int .u32 m.2.2.2.2.2.2.2.2.2.2.2.1.2.2.1), (.int .u32 m.2.2.2.2.2.2.2.2.2.2.2.1.2.2.2.1), (.int .u32 m.2.2.2.2.2.2.2.2.2.2.2.1.2.2.2.2.1), (.slice m.2.2.2.2.2.2.2.2.2.2.2.1.2.2.2.2.2.1.at' m.2.2.2.2.2.2.2.2.2.2.2.1.2.2.2.2.2.1.len m.2.2.2.2.2.2.2.2.2.2.2.1.2.2.2.2.2.1.cap)])]) rfl Try.func46 (by kernel_rfl) (by kernel_rfl) (by have h := rof_any m _ (RdS.ext hT hb) (RdS.ext hI hb) hF hD hTl (by omega); rw [hrp] at h; exact h)) rfl rfl rfl ?_; clear hf fa; rintro fa _ w7 ⟨rka, rkc, rfl, hr2, he6⟩ hf
    replace hr2 := Row.rebase hr2 hb.size
    replace hk1 := blk_ext hk1 he6
    replace hk3 := blk_ext hk3 he6
    replace hr1 := Row.ext hr1 he6
    replace hb := hb.trans (Below.mono he6 hb.size)
    have hcrk := Row.caps hr2
    refine sqv hf (r_move rfl) rfl rfl rfl ?_; clear hf fa; intro fa hf
    refine sqv hf (r_extract rfl (i := 0) rfl) rfl rfl rfl ?_; clear hf fa; intro fa hf
    refine sqv hf (r_extract rfl (i := 1) rfl) rfl rfl rfl ?_; clear hf fa; intro fa hf
    refine sqv hf (r_extract rfl (i := 2) rfl) rfl rfl rfl ?_; clear hf fa; intro fa hf
    refine sqv hf (r_assign rfl) rfl rfl rfl ?_; clear hf fa; intro fa hf
    refine sqv hf (r_assign rfl) rfl rfl rfl ?_; clear hf fa; intro fa hf
    refine sqv hf (r_assign rfl) rfl rfl rfl ?_; clear hf fa; intro fa hf
    apply wpList_nil
    (try simp only [Exit.then, Exit.inBlock, ↓reduceIte, Nat.reduceEqDiff])
    refine hK8 _ _ ?_
    refine wp_seq_k (fun K9 hK9 => ?_)
    refine wp_seq_k (fun K10 hK10 => ?_)
    refine wp_region_lit ?_
    refine sqv hf (r_move rfl) rfl rfl rfl ?_; clear hf fa; intro fa hf
    refine sqv hf (r_move rfl) rfl rfl rfl ?_; clear hf fa; intro fa hf
    refine sqv hf (r_ne rfl rfl) rfl rfl rfl ?_; clear hf fa; intro fa hf
    refine sqv hf (r_move rfl) rfl rfl rfl ?_; clear hf fa; intro fa hf
    refine sqgF (act := (!(decide (pl.2.2.2.2.2.2.1 ≠ rp.2.1)))) (ag := true) (c := (decide (pl.2.2.2.2.2.2.1 ≠ rp.2.1))) (v := (.int .i64 pl.2.2.2.2.2.2.2)) hf rfl rfl rfl (fun hact => (r_move rfl)) rfl rfl ?_; clear hf fa; intro fa hf
    refine sqgF (act := (!(decide (pl.2.2.2.2.2.2.1 ≠ rp.2.1)))) (ag := true) (c := (decide (pl.2.2.2.2.2.2.1 ≠ rp.2.1))) (v := (.int .i64 rp.2.2)) hf rfl rfl rfl (fun hact => (r_move rfl)) rfl rfl ?_; clear hf fa; intro fa hf
    refine sqgF (act := (!(decide (pl.2.2.2.2.2.2.1 ≠ rp.2.1)))) (ag := true) (c := (decide (pl.2.2.2.2.2.2.1 ≠ rp.2.1))) (v := (.bool (decide (pl.2.2.2.2.2.2.2 ≠ rp.2.2)))) hf rfl rfl rfl (fun hact => (r_ne (gb_ev hact rfl) (gb_ev hact rfl))) rfl rfl ?_; clear hf fa; intro fa hf
    refine sqv hf (r_pickO (b := (decide (pl.2.2.2.2.2.2.1 ≠ rp.2.1))) (e := (decide (pl.2.2.2.2.2.2.2 ≠ rp.2.2))) rfl rfl rfl) rfl rfl rfl ?_; clear hf fa; intro fa hf
    apply wpList_nil
    (try simp only [Exit.then, Exit.inBlock, ↓reduceIte, Nat.reduceEqDiff])
    refine hK10 _ _ ?_
    refine wp_cond_false ((hf.ev rfl).trans (congrArg Value.bool (show ((decide (pl.2.2.2.2.2.2.1 ≠ rp.2.1)) || (decide (pl.2.2.2.2.2.2.2 ≠ rp.2.2))) = false from (by rw [or1, or2]; simp)))) ?_
    refine wp_skip ?_
    (try simp only [Exit.then, Exit.inBlock, ↓reduceIte, Nat.reduceEqDiff])
    refine hK9 _ _ ?_
    refine wp_seq_k (fun K11 hK11 => ?_)
    refine wp_seq_k (fun K12 hK12 => ?_)
    refine wp_region_lit ?_
    refine sqv hf (r_move rfl) rfl rfl rfl ?_; clear hf fa; intro fa hf
    refine sqv hf (r_ne rfl rfl) rfl rfl rfl ?_; clear hf fa; intro fa hf
    apply wpList_nil
    (try simp only [Exit.then, Exit.inBlock, ↓reduceIte, Nat.reduceEqDiff])
    refine hK12 _ _ ?_
    refine wp_cond_split (t := (decide (rp.2.2 ≠ (0 : Int)))) (hf.ev rfl) (fun hqt44_1 => ?_) (fun hqt44_1 => ?_)
    · have hqt44_1b := hqt44_1
      try simp only [decide_eq_true_eq, Bool.and_eq_true, Bool.or_eq_true, Bool.not_eq_true', decide_eq_false_iff_not, ne_eq, Bool.not_eq_true] at hqt44_1
      refine wp_seq_k (fun K13 hK13 => ?_)
      refine wp_region_lit ?_
      refine sqv hf (r_fa rfl Try.underlying72 (f := 0) (q := 0) rfl (by kernel_rfl) rfl) rfl rfl rfl ?_; clear hf fa; intro fa hf
      refine sqv hf (r_load (v := (.slice pla pl.1.length plc)) rfl Try.underlying70 rfl (cell_blk hk3 rfl)) rfl rfl rfl ?_; clear hf fa; intro fa hf
      refine sqv hf (r_lensl rfl Try.underlying70) rfl rfl rfl ?_; clear hf fa; intro fa hf
      refine sqv hf (r_eq rfl rfl) rfl rfl rfl ?_; clear hf fa; intro fa hf
      refine sqv hf (r_move rfl) rfl rfl rfl ?_; clear hf fa; intro fa hf
      refine sqgT (act := (decide (((pl.1.length : Nat) : Int) = (0 : Int)))) (ag := true) (c := (decide (((pl.1.length : Nat) : Int) = (0 : Int)))) (v := (.pointer (some ⟨b2, 1, none⟩))) hf rfl rfl rfl (fun hact => (r_fa rfl Try.underlying72 (f := 1) (q := 1) rfl (by kernel_rfl) rfl)) rfl rfl ?_; clear hf fa; intro fa hf
      refine sqgT (act := (decide (((pl.1.length : Nat) : Int) = (0 : Int)))) (ag := true) (c := (decide (((pl.1.length : Nat) : Int) = (0 : Int)))) (v := (.int .i64 pl.2.1)) hf rfl rfl rfl (fun hact => (r_load (v := (.int .i64 pl.2.1)) (gb_ev hact rfl) Try.underlying3 rfl (cell_blk hk3 rfl))) rfl rfl ?_; clear hf fa; intro fa hf
      refine sqgT (act := (decide (((pl.1.length : Nat) : Int) = (0 : Int)))) (ag := true) (c := (decide (((pl.1.length : Nat) : Int) = (0 : Int)))) (v := (.bool (decide (pl.2.1 = (0 : Int))))) hf rfl rfl rfl (fun hact => (r_eq (gb_ev hact rfl) rfl)) rfl rfl ?_; clear hf fa; intro fa hf
      refine sqv hf (r_pickA (b := (decide (((pl.1.length : Nat) : Int) = (0 : Int)))) (e := (decide (pl.2.1 = (0 : Int)))) rfl rfl rfl) rfl rfl rfl ?_; clear hf fa; intro fa hf
      refine sqv hf (r_move rfl) rfl rfl rfl ?_; clear hf fa; intro fa hf
      refine sqgT (act := ((decide (((pl.1.length : Nat) : Int) = (0 : Int))) && (decide (pl.2.1 = (0 : Int))))) (ag := true) (c := ((decide (((pl.1.length : Nat) : Int) = (0 : Int))) && (decide (pl.2.1 = (0 : Int))))) (v := (.pointer (some ⟨b2, 2, none⟩))) hf rfl rfl rfl (fun hact => (r_fa rfl Try.underlying72 (f := 2) (q := 2) rfl (by kernel_rfl) rfl)) rfl rfl ?_; clear hf fa; intro fa hf
      refine sqgT (act := ((decide (((pl.1.length : Nat) : Int) = (0 : Int))) && (decide (pl.2.1 = (0 : Int))))) (ag := true) (c := ((decide (((pl.1.length : Nat) : Int) = (0 : Int))) && (decide (pl.2.1 = (0 : Int))))) (v := (.int .i64 pl.2.2.1)) hf rfl rfl rfl (fun hact => (r_load (v := (.int .i64 pl.2.2.1)) (gb_ev hact rfl) Try.underlying3 rfl (cell_blk hk3 rfl))) rfl rfl ?_; clear hf fa; intro fa hf
      refine sqgT (act := ((decide (((pl.1.length : Nat) : Int) = (0 : Int))) && (decide (pl.2.1 = (0 : Int))))) (ag := true) (c := ((decide (((pl.1.length : Nat) : Int) = (0 : Int))) && (decide (pl.2.1 = (0 : Int))))) (v := (.bool (decide (pl.2.2.1 = (0 : Int))))) hf rfl rfl rfl (fun hact => (r_eq (gb_ev hact rfl) rfl)) rfl rfl ?_; clear hf fa; intro fa hf
      refine sqv hf (r_pickA (b := ((decide (((pl.1.length : Nat) : Int) = (0 : Int))) && (decide (pl.2.1 = (0 : Int))))) (e := (decide (pl.2.2.1 = (0 : Int)))) rfl rfl rfl) rfl rfl rfl ?_; clear hf fa; intro fa hf
      refine sqv hf (r_move rfl) rfl rfl rfl ?_; clear hf fa; intro fa hf
      refine sqgT (act := (((decide (((pl.1.length : Nat) : Int) = (0 : Int))) && (decide (pl.2.1 = (0 : Int)))) && (decide (pl.2.2.1 = (0 : Int))))) (ag := true) (c := (((decide (((pl.1.length : Nat) : Int) = (0 : Int))) && (decide (pl.2.1 = (0 : Int)))) && (decide (pl.2.2.1 = (0 : Int))))) (v := (.pointer (some ⟨b2, 5, none⟩))) hf rfl rfl rfl (fun hact => (r_fa rfl Try.underlying72 (f := 5) (q := 5) rfl (by kernel_rfl) rfl)) rfl rfl ?_; clear hf fa; intro fa hf
      refine sqgT (act := (((decide (((pl.1.length : Nat) : Int) = (0 : Int))) && (decide (pl.2.1 = (0 : Int)))) && (decide (pl.2.2.1 = (0 : Int))))) (ag := true) (c := (((decide (((pl.1.length : Nat) : Int) = (0 : Int))) && (decide (pl.2.1 = (0 : Int)))) && (decide (pl.2.2.1 = (0 : Int))))) (v := (.int .i64 pl.2.2.2.2.2.1)) hf rfl rfl rfl (fun hact => (r_load (v := (.int .i64 pl.2.2.2.2.2.1)) (gb_ev hact rfl) Try.underlying3 rfl (cell_blk hk3 rfl))) rfl rfl ?_; clear hf fa; intro fa hf
      refine sqgT (act := (((decide (((pl.1.length : Nat) : Int) = (0 : Int))) && (decide (pl.2.1 = (0 : Int)))) && (decide (pl.2.2.1 = (0 : Int))))) (ag := true) (c := (((decide (((pl.1.length : Nat) : Int) = (0 : Int))) && (decide (pl.2.1 = (0 : Int)))) && (decide (pl.2.2.1 = (0 : Int))))) (v := (.bool (decide (pl.2.2.2.2.2.1 = (0 : Int))))) hf rfl rfl rfl (fun hact => (r_eq (gb_ev hact rfl) rfl)) rfl rfl ?_; clear hf fa; intro fa hf
      refine sqv hf (r_pickA (b := (((decide (((pl.1.length : Nat) : Int) = (0 : Int))) && (decide (pl.2.1 = (0 : Int)))) && (decide (pl.2.2.1 = (0 : Int))))) (e := (decide (pl.2.2.2.2.2.1 = (0 : Int)))) rfl rfl rfl) rfl rfl rfl ?_; clear hf fa; intro fa hf
      refine sqv hf (r_assign rfl) rfl rfl rfl ?_; clear hf fa; intro fa hf
      apply wpList_nil
      (try simp only [Exit.then, Exit.inBlock, ↓reduceIte, Nat.reduceEqDiff])
      refine hK13 _ _ ?_
      refine wp_ret ?_
      (try simp only [Exit.then, Exit.inBlock])
      refine ret1 hf rfl rfl ?_
      refine ⟨congrArg (fun b => Ending.returned (.bool b)) ?_, hb⟩
      obtain ⟨z1, z2, z3, z4⟩ := or3 (by have h := hqt44_1; rw [← or2]; exact h)
      simp [z1, z2, z3, z4]
    · have hqt44_1b := hqt44_1
      replace hqt44_1 := Bool.eq_false_iff.1 hqt44_1
      try simp only [ne_eq, decide_eq_true_eq, Bool.and_eq_true, Bool.or_eq_true, Bool.not_eq_true', decide_eq_false_iff_not] at hqt44_1
      refine wp_skip ?_
      (try simp only [Exit.then, Exit.inBlock, ↓reduceIte, Nat.reduceEqDiff])
      refine hK11 _ _ ?_
      refine wp_seq_k (fun K14 hK14 => ?_)
      have hok : pl.2.2.2.2.2.2.2 = 0 := by (have h := hqt44_1; omega)
      obtain ⟨q1, q2, q3, q4, q5, q6, q7, q8, q9⟩ := or4 hok
      have hkl : (kindsT m m.2.1.list).length = m.2.1.len := by unfold kindsT; rw [List.length_map, Sl.list_length]
      have hrl : rp.1.length = m.2.1.len := by rw [q1, hkl]
      refine wp_region_lit ?_
      refine sqv hf (r_assign rfl) rfl rfl rfl ?_; clear hf fa; intro fa hf
      apply wpList_nil
      (try simp only [Exit.then, Exit.inBlock, ↓reduceIte, Nat.reduceEqDiff])
      refine hK14 _ _ ?_
      refine wp_seq_k (fun K15 hK15 => ?_)
      refine wp_region_lit ?_
      refine sqv hf (r_assign rfl) rfl rfl rfl ?_; clear hf fa; intro fa hf
      apply wpList_nil
      (try simp only [Exit.then, Exit.inBlock, ↓reduceIte, Nat.reduceEqDiff])
      refine hK15 _ _ ?_
      refine wp_seq_k (fun K16 hK16 => ?_)
      refine wp_seq_k (fun K17 hK17 => ?_)
      refine wp_region_lit ?_
      refine sqv hf (r_fa rfl Try.underlying72 (f := 0) (q := 0) rfl (by kernel_rfl) rfl) rfl rfl rfl ?_; clear hf fa; intro fa hf
      refine sqv hf (r_load (v := (.slice pla pl.1.length plc)) rfl Try.underlying70 rfl (cell_blk hk3 rfl)) rfl rfl rfl ?_; clear hf fa; intro fa hf
      refine sqv hf (r_lensl rfl Try.underlying70) rfl rfl rfl ?_; clear hf fa; intro fa hf
      refine sqv hf (r_move rfl) rfl rfl rfl ?_; clear hf fa; intro fa hf
      refine sqv hf (r_lensl rfl Try.underlying28) rfl rfl rfl ?_; clear hf fa; intro fa hf
      refine sqv hf (r_ne rfl rfl) rfl rfl rfl ?_; clear hf fa; intro fa hf
      apply wpList_nil
      (try simp only [Exit.then, Exit.inBlock, ↓reduceIte, Nat.reduceEqDiff])
      refine hK17 _ _ ?_
      refine wp_cond_false ((hf.ev rfl).trans (congrArg Value.bool (show (decide (((pl.1.length : Nat) : Int) ≠ ((rp.1.length : Nat) : Int))) = false from (by rw [q2, hrl]; simp)))) ?_
      refine wp_skip ?_
      (try simp only [Exit.then, Exit.inBlock, ↓reduceIte, Nat.reduceEqDiff])
      refine hK16 _ _ ?_
      refine wp_seq_k (fun K18 hK18 => ?_)
      refine wp_seq_k (fun K19 hK19 => ?_)
      have hrN0 : Row 1 vStr 9 w.heap.size w7 (.slice none 0 0) [] := Row.nil
      skip
      refine wp_region_lit ?_
      refine sqv hf (r_assign rfl) rfl rfl rfl ?_; clear hf fa; intro fa hf
      apply wpList_nil
      (try simp only [Exit.then, Exit.inBlock, ↓reduceIte, Nat.reduceEqDiff])
      refine hK19 _ _ ?_
      refine wp_block ?_
      refine wp_loop_k (fun mq fa wr => ∃ (k : Nat) (rNa : Option Addr) (rNc : Nat), mq = m.2.1.len - k ∧ Fr 202 fa [(1, (.int .i64 kd)), (2, (.pointer (some ⟨b1, 0, none⟩))), (5, (.pointer (some ⟨b2, 0, none⟩))), (8, (.slice rka rp.1.length rkc)), (11, (.int .i64 (((cntK m 5 (m.2.1.list.take k)).length : Nat) : Int))), (13, (.int .i64 ((k : Nat) : Int))), (12, (.slice rNa (((namK m kd (m.2.1.list.take k))).length) rNc))] ∧ Below w.heap.size w wr ∧ Row 8 vMWt 80 (w.heap.size) wr (.slice pla (pl.1.length) plc) pl.1 ∧ Row 1 (vInt .i64) 3 (w.heap.size) wr (.slice rka (rp.1.length) rkc) rp.1 ∧ Row 1 vStr 9 (w.heap.size) wr (.slice rNa (((namK m kd (m.2.1.list.take k))).length) rNc) (namK m kd (m.2.1.list.take k)) ∧ wr.heap[b1]? = some (.cells #[(.slice m.1.at' m.1.len m.1.cap), (.slice m.2.1.at' m.2.1.len m.2.1.cap), (.slice m.2.2.1.at' m.2.2.1.len m.2.2.1.cap), (.slice m.2.2.2.1.at' m.2.2.2.1.len m.2.2.2.1.cap), (.slice m.2.2.2.2.1.at' m.2.2.2.2.1.len m.2.2.2.2.1.cap), (.slice m.2.2.2.2.2.1.at' m.2.2.2.2.2.1.len m.2.2.2.2.2.1.cap), (.slice m.2.2.2.2.2.2.1.at' m.2.2.2.2.2.2.1.len m.2.2.2.2.2.2.1.cap), (.int .i64 m.2.2.2.2.2.2.2.1), (.slice m.2.2.2.2.2.2.2.2.1.at' m.2.2.2.2.2.2.2.2.1.len m.2.2.2.2.2.2.2.2.1.cap), (.slice m.2.2.2.2.2.2.2.2.2.1.at' m.2.2.2.2.2.2.2.2.2.1.len m.2.2.2.2.2.2.2.2.2.1.cap), (.slice m.2.2.2.2.2.2.2.2.2.2.1.at' m.2.2.2.2.2.2.2.2.2.2.1.len m.2.2.2.2.2.2.2.2.2.2.1.cap), (.bool m.2.2.2.2.2.2.2.2.2.2.2.1.1), (.int .u32 m.2.2.2.2.2.2.2.2.2.2.2.1.2.1), (.int .u32 m.2.2.2.2.2.2.2.2.2.2.2.1.2.2.1), (.int .u32 m.2.2.2.2.2.2.2.2.2.2.2.1.2.2.2.1), (.int .u32 m.2.2.2.2.2.2.2.2.2.2.2.1.2.2.2.2.1), (.slice m.2.2.2.2.2.2.2.2.2.2.2.1.2.2.2.2.2.1.at' m.2.2.2.2.2.2.2.2.2.2.2.1.2.2.2.2.2.1.len m.2.2.2.2.2.2.2.2.2.2.2.1.2.2.2.2.2.1.cap)] 67 (0, 0)) ∧ wr.heap[b2]? = some (.cells #[(.slice pla pl.1.length plc), (.int .i64 pl.2.1), (.int .i64 pl.2.2.1), (.int .u32 pl.2.2.2.1), (.int .u32 pl.2.2.2.2.1), (.int .i64 pl.2.2.2.2.2.1)] 72 (0, 0)) ∧ (k ≤ m.2.1.len)) ?_ ?_
      · skip
        exact ⟨_, 0, none, 0, rfl, hf.sub ⟨rfl, rfl, rfl, rfl, (some_int (by first | rfl | omega)), (some_int (by first | rfl | omega)), (some_sl (by first | omega | (simp only [List.length_append, List.length_cons, List.length_nil]; omega) | (simp <;> omega)) rfl), trivial⟩, hb, hr1, hr2, (Row.relen hrN0), hk1, hk3, by omega⟩
      · skip
        clear hf fa; intro mq1 fa w8 hI KL1 hKL1
        clear hb
        clear hk1
        clear hk3
        clear hr1
        clear hr2
        clear hrN0
        obtain ⟨k, rNa, rNc, hmq1, hf, hb, hrpl, hrrk, hrN, hkb1, hkb2, hk⟩ := hI
        have hcrpl := Row.caps hrpl
        have hcrrk := Row.caps hrrk
        have hcrN := Row.caps hrN
        have hbl := namK_len m kd m.2.1.list k; have hbc := cntK_len m 5 m.2.1.list k
        refine wp_seq_k (fun K20 hK20 => ?_)
        refine wp_seq_k (fun K21 hK21 => ?_)
        refine wp_region_lit ?_
        refine sqv hf (r_move rfl) rfl rfl rfl ?_; clear hf fa; intro fa hf
        refine sqv hf (r_move rfl) rfl rfl rfl ?_; clear hf fa; intro fa hf
        refine sqv hf (r_lensl rfl Try.underlying28) rfl rfl rfl ?_; clear hf fa; intro fa hf
        refine sqv hf (r_lt rfl rfl) rfl rfl rfl ?_; clear hf fa; intro fa hf
        apply wpList_nil
        (try simp only [Exit.then, Exit.inBlock, ↓reduceIte, Nat.reduceEqDiff])
        refine hK21 _ _ ?_
        refine wp_cond_split (t := (decide (((k : Nat) : Int) < ((rp.1.length : Nat) : Int)))) (hf.ev rfl) (fun hqt73_1 => ?_) (fun hqt73_1 => ?_)
        · have hqt73_1b := hqt73_1
          try simp only [decide_eq_true_eq, Bool.and_eq_true, Bool.or_eq_true, Bool.not_eq_true', decide_eq_false_iff_not, ne_eq, Bool.not_eq_true] at hqt73_1
          refine wp_skip ?_
          (try simp only [Exit.then, Exit.inBlock, ↓reduceIte, Nat.reduceEqDiff])
          refine hK20 _ _ ?_
          refine wp_seq_k (fun K22 hK22 => ?_)
          refine wp_block ?_
          refine wp_seq_k (fun K23 hK23 => ?_)
          obtain ⟨y, hy⟩ : ∃ x, (m.2.1.list)[k]? = some x := ⟨_, List.getElem?_eq_getElem (by rw [Sl.list_length]; omega)⟩
          have hyt := hF y (List.mem_of_getElem? hy)
          obtain ⟨kn, hkn0⟩ : ∃ kn, (kindP m y).1 = kn := ⟨_, rfl⟩
          have hkn : rp.1[k]? = some kn := by rw [q1, ← hkn0]; unfold kindsT; rw [List.getElem?_map, hy]; rfl
          obtain ⟨W, hWd⟩ : ∃ W, W = (((k : Nat) : Int), (kindP m y).1, y.2.1, typW m y, y.2.2.2.2.1, ()) := ⟨_, rfl⟩
          have hW : pl.1[k]? = some W := by rw [hWd]; exact (q3 k y hy).1
          obtain ⟨rb1, rfl, hbbrb1, hlbrb1⟩ := Row.some hrpl (by first | omega | (simp only [Sl.list_length, List.length_set, List.length_take, List.length_append, List.length_replicate, List.length_cons, List.length_nil]; omega))
          have hy1 : (pl.1)[k]? = some W := hW
          have hel1 := RdS.at (Row.rd (by intros; rfl) hrpl) hy1
          obtain ⟨_, _, hab, hlr1, hel1⟩ := hel1
          cases hab
          have hy2 : (m.2.1.list)[k]? = some y := hy
          obtain ⟨ab1, aoff1, hat1, hlb1, hel2⟩ := RdS.at hI hy2
          refine wp_region_unT 13 (fun wq => Below w8.heap.size w8 wq) (GA w8.heap.size (.cells #[(.int .i64 (0 : Int)), (.int .i64 (0 : Int)), (.string ⟨#[]⟩), (.string ⟨#[]⟩), (.string ⟨#[]⟩), (.int .u32 (0 : Int)), (.int .u32 (0 : Int)), (.bool false)] 80 (0, 0)) (.cells #[(.int .i64 W.1), (.int .i64 W.2.1), (.string W.2.2.1), (.string W.2.2.2.1.1), (.string W.2.2.2.1.2.1), (.int .u32 W.2.2.2.2.1.1), (.int .u32 W.2.2.2.2.1.2.1), (.bool W.2.2.2.2.1.2.2.1)] 80 (0, 0)))
            (fun V => [(fun x _ => x = (.pointer (some ⟨b2, 0, none⟩))), (fun x _ => x = (.slice (some ⟨rb1, 0, none⟩) pl.1.length plc)), (fun x _ => x = (.int .i64 ((k : Nat) : Int))), (fun x _ => x = (.pointer (some ⟨rb1, (0 + k * 8), none⟩))), (fun x _ => x = (.agg #[(.int .i64 W.1), (.int .i64 W.2.1), (.string W.2.2.1), (.string W.2.2.2.1.1), (.string W.2.2.2.1.2.1), (.int .u32 W.2.2.2.2.1.1), (.int .u32 W.2.2.2.2.1.2.1), (.bool W.2.2.2.2.1.2.2.1)])), (fun x _ => x = (.pointer (some ⟨b1, 1, none⟩))), (fun x _ => x = (.slice m.2.1.at' m.2.1.len m.2.1.cap)), (fun x _ => x = (.int .i64 ((k : Nat) : Int))), (fun x _ => x = (.pointer (some ⟨ab1, (aoff1 + k * 9), none⟩))), (fun x _ => x = (.agg #[(.string y.1), (.string y.2.1), (.int .u8 y.2.2.1), (.int .u32 y.2.2.2.1), (.int .u32 y.2.2.2.2.1.1), (.int .u32 y.2.2.2.2.1.2.1), (.bool y.2.2.2.2.1.2.2.1), (.int .u8 y.2.2.2.2.2.1.1), (.bool y.2.2.2.2.2.1.2.1)])), (fun x wq => ∃ b, x = .pointer (some ⟨b, 0, none⟩) ∧ w8.heap.size ≤ b ∧ (wq.heap[b]? = some (.cells #[(.int .i64 (0 : Int)), (.int .i64 (0 : Int)), (.string ⟨#[]⟩), (.string ⟨#[]⟩), (.string ⟨#[]⟩), (.int .u32 (0 : Int)), (.int .u32 (0 : Int)), (.bool false)] 80 (0, 0)) ∨ wq.heap[b]? = some (.cells #[(.int .i64 W.1), (.int .i64 W.2.1), (.string W.2.2.1), (.string W.2.2.2.1.1), (.string W.2.2.2.1.2.1), (.int .u32 W.2.2.2.2.1.1), (.int .u32 W.2.2.2.2.1.2.1), (.bool W.2.2.2.2.1.2.2.1)] 80 (0, 0)))), (fun x wq => ∃ b, x = .pointer (some ⟨b, 0, none⟩) ∧ w8.heap.size ≤ b ∧ wq.heap[b]? = some (.cells #[(.string ⟨#[]⟩), (.string ⟨#[]⟩), (.int .u8 (0 : Int)), (.int .u32 (0 : Int)), (.int .u32 (0 : Int)), (.int .u32 (0 : Int)), (.bool false), (.int .u8 (0 : Int)), (.bool false)] 103 (0, 0))), (fun _ wq => wq.heap[(bk (V 10))]? = some (.cells #[(.int .i64 W.1), (.int .i64 W.2.1), (.string W.2.2.1), (.string W.2.2.2.1.1), (.string W.2.2.2.1.2.1), (.int .u32 W.2.2.2.2.1.1), (.int .u32 W.2.2.2.2.1.2.1), (.bool W.2.2.2.2.1.2.2.1)] 80 (0, 0)))])
            [10, 11]
            [[], [0], [], [1, 2], [3], [], [5], [], [6, 7], [8], [], [], [0, 1, 2, 3, 4, 10, 11], []]
            hf (by kernel_rfl) (by kernel_rfl) (by kernel_rfl) (fun _ => rfl) ((Below.refl _ _).drew) (fun a b h1 h2 => h1.trans h2.1) (fun _ _ h => h.1.size) (fun V => ⟨(fun _ _ _ h _ => h), (fun _ _ _ h _ => h), (fun _ _ _ h _ => h), (fun _ _ _ h _ => h), (fun _ _ _ h _ => h), (fun _ _ _ h _ => h), (fun _ _ _ h _ => h), (fun _ _ _ h _ => h), (fun _ _ _ h _ => h), (fun _ _ _ h _ => h), keptA, (keptO (by intro e; cases e)), (fun _ _ _ h hG => GA_new hG h), trivial⟩) (by
               intro V i v j h
               match j with
               | 0 => rfl
               | 1 => rfl
               | 2 => rfl
               | 3 => rfl
               | 4 => rfl
               | 5 => rfl
               | 6 => rfl
               | 7 => rfl
               | 8 => rfl
               | 9 => rfl
               | 10 => rfl
               | 11 => rfl
               | 12 => have e10 : ¬ (10 = i) := fun e => h (by rw [← e]; decide); simp only [List.getD_cons_succ, List.getD_cons_zero, e10, if_false]
               | _ + 13 => rfl) ?_ ?_
          · skip
            intro V
            refine ⟨fun wu0 hC hd => ?_, ?_⟩
            · clear hd
              replace hb := hb.trans (hC.mono hb.size)
              replace hkb1 := blk_ext hkb1 hC
              replace hkb2 := blk_ext hkb2 hC
              replace hrpl := Row.ext hrpl hC
              replace hrrk := Row.ext hrrk hC
              replace hrN := Row.ext hrN hC
              exact Runs.does (r_fa rfl Try.underlying72 (f := 0) (q := 0) rfl (by kernel_rfl) rfl) ⟨GA_refl, rfl, nofr rfl⟩
            refine ⟨fun wu1 hC hd => ?_, ?_⟩
            · obtain ⟨h0, _⟩ := hd
              replace h0 : V 0 = (.pointer (some ⟨b2, 0, none⟩)) := h0
              replace hb := hb.trans (hC.mono hb.size)
              replace hkb1 := blk_ext hkb1 hC
              replace hkb2 := blk_ext hkb2 hC
              replace hrpl := Row.ext hrpl hC
              replace hrrk := Row.ext hrrk hC
              replace hrN := Row.ext hrN hC
              exact Runs.does (r_load (v := (.slice (some ⟨rb1, 0, none⟩) pl.1.length plc)) (congrArg some h0) Try.underlying70 rfl (cell_blk hkb2 rfl)) ⟨GA_refl, rfl, nofr rfl⟩
            refine ⟨fun wu2 hC hd => ?_, ?_⟩
            · clear hd
              replace hb := hb.trans (hC.mono hb.size)
              replace hkb1 := blk_ext hkb1 hC
              replace hkb2 := blk_ext hkb2 hC
              replace hrpl := Row.ext hrpl hC
              replace hrrk := Row.ext hrrk hC
              replace hrN := Row.ext hrN hC
              exact Runs.does (r_move rfl) ⟨GA_refl, rfl, nofr rfl⟩
            refine ⟨fun wu3 hC hd => ?_, ?_⟩
            · obtain ⟨h1, h2, _⟩ := hd
              replace h1 : V 1 = (.slice (some ⟨rb1, 0, none⟩) pl.1.length plc) := h1
              replace h2 : V 2 = (.int .i64 ((k : Nat) : Int)) := h2
              replace hb := hb.trans (hC.mono hb.size)
              replace hkb1 := blk_ext hkb1 hC
              replace hkb2 := blk_ext hkb2 hC
              replace hrpl := Row.ext hrpl hC
              replace hrrk := Row.ext hrrk hC
              replace hrN := Row.ext hrN hC
              exact Runs.does (r_ixa (sz := 8) (j := k) (congrArg some h1) (congrArg some h2) Try.underlying70 (by kernel_rfl) rfl (by omega) rfl) ⟨GA_refl, rfl, nofr rfl⟩
            refine ⟨fun wu4 hC hd => ?_, ?_⟩
            · obtain ⟨h3, _⟩ := hd
              replace h3 : V 3 = (.pointer (some ⟨rb1, (0 + k * 8), none⟩)) := h3
              replace hb := hb.trans (hC.mono hb.size)
              replace hkb1 := blk_ext hkb1 hC
              replace hkb2 := blk_ext hkb2 hC
              replace hrpl := Row.ext hrpl hC
              replace hrrk := Row.ext hrrk hC
              replace hrN := Row.ext hrN hC
              exact Runs.does (r_loadA (cs := [(.int .i64 W.1), (.int .i64 W.2.1), (.string W.2.2.1), (.string W.2.2.2.1.1), (.string W.2.2.2.1.2.1), (.int .u32 W.2.2.2.2.1.1), (.int .u32 W.2.2.2.2.1.2.1), (.bool W.2.2.2.2.1.2.2.1)]) (congrArg some h3) Try.underlying80 rfl (by kernel_rfl) (cellsAt_below hel1 hC hlr1)) ⟨GA_refl, rfl, nofr rfl⟩
            refine ⟨fun wu5 hC hd => ?_, ?_⟩
            · clear hd
              replace hb := hb.trans (hC.mono hb.size)
              replace hkb1 := blk_ext hkb1 hC
              replace hkb2 := blk_ext hkb2 hC
              replace hrpl := Row.ext hrpl hC
              replace hrrk := Row.ext hrrk hC
              replace hrN := Row.ext hrN hC
              exact Runs.does (r_fa rfl Try.underlying67 (f := 1) (q := 1) rfl (by kernel_rfl) rfl) ⟨GA_refl, rfl, nofr rfl⟩
            refine ⟨fun wu6 hC hd => ?_, ?_⟩
            · obtain ⟨h5, _⟩ := hd
              replace h5 : V 5 = (.pointer (some ⟨b1, 1, none⟩)) := h5
              replace hb := hb.trans (hC.mono hb.size)
              replace hkb1 := blk_ext hkb1 hC
              replace hkb2 := blk_ext hkb2 hC
              replace hrpl := Row.ext hrpl hC
              replace hrrk := Row.ext hrrk hC
              replace hrN := Row.ext hrN hC
              exact Runs.does (r_load (v := (.slice m.2.1.at' m.2.1.len m.2.1.cap)) (congrArg some h5) Try.underlying57 rfl (cell_blk hkb1 rfl)) ⟨GA_refl, rfl, nofr rfl⟩
            refine ⟨fun wu7 hC hd => ?_, ?_⟩
            · clear hd
              replace hb := hb.trans (hC.mono hb.size)
              replace hkb1 := blk_ext hkb1 hC
              replace hkb2 := blk_ext hkb2 hC
              replace hrpl := Row.ext hrpl hC
              replace hrrk := Row.ext hrrk hC
              replace hrN := Row.ext hrN hC
              exact Runs.does (r_move rfl) ⟨GA_refl, rfl, nofr rfl⟩
            refine ⟨fun wu8 hC hd => ?_, ?_⟩
            · obtain ⟨h6, h7, _⟩ := hd
              replace h6 : V 6 = (.slice m.2.1.at' m.2.1.len m.2.1.cap) := h6
              replace h7 : V 7 = (.int .i64 ((k : Nat) : Int)) := h7
              replace hb := hb.trans (hC.mono hb.size)
              replace hkb1 := blk_ext hkb1 hC
              replace hkb2 := blk_ext hkb2 hC
              replace hrpl := Row.ext hrpl hC
              replace hrrk := Row.ext hrrk hC
              replace hrN := Row.ext hrN hC
              exact Runs.does (r_ixa (sz := 9) (j := k) (evAt (congrArg some h6) hat1) (congrArg some h7) Try.underlying57 (by kernel_rfl) rfl (by omega) rfl) ⟨GA_refl, rfl, nofr rfl⟩
            refine ⟨fun wu9 hC hd => ?_, ?_⟩
            · obtain ⟨h8, _⟩ := hd
              replace h8 : V 8 = (.pointer (some ⟨ab1, (aoff1 + k * 9), none⟩)) := h8
              replace hb := hb.trans (hC.mono hb.size)
              replace hkb1 := blk_ext hkb1 hC
              replace hkb2 := blk_ext hkb2 hC
              replace hrpl := Row.ext hrpl hC
              replace hrrk := Row.ext hrrk hC
              replace hrN := Row.ext hrN hC
              exact Runs.does (r_loadA (cs := [(.string y.1), (.string y.2.1), (.int .u8 y.2.2.1), (.int .u32 y.2.2.2.1), (.int .u32 y.2.2.2.2.1.1), (.int .u32 y.2.2.2.2.1.2.1), (.bool y.2.2.2.2.1.2.2.1), (.int .u8 y.2.2.2.2.2.1.1), (.bool y.2.2.2.2.2.1.2.1)]) (congrArg some h8) Try.underlying103 rfl (by kernel_rfl) (cellsAt_below hel2 hb hlb1)) ⟨GA_refl, rfl, nofr rfl⟩
            refine ⟨fun wu10 hC hd => ?_, ?_⟩
            · clear hd
              replace hb := hb.trans (hC.mono hb.size)
              replace hkb1 := blk_ext hkb1 hC
              replace hkb2 := blk_ext hkb2 hC
              replace hrpl := Row.ext hrpl hC
              replace hrrk := Row.ext hrrk hC
              replace hrN := Row.ext hrN hC
              refine Does.mono (d_alloc (z := (.agg #[(.int .i64 (0 : Int)), (.int .i64 (0 : Int)), (.string ⟨#[]⟩), (.string ⟨#[]⟩), (.string ⟨#[]⟩), (.int .u32 (0 : Int)), (.int .u32 (0 : Int)), (.bool false)])) (cs := #[(.int .i64 (0 : Int)), (.int .i64 (0 : Int)), (.string ⟨#[]⟩), (.string ⟨#[]⟩), (.string ⟨#[]⟩), (.int .u32 (0 : Int)), (.int .u32 (0 : Int)), (.bool false)]) (by kernel_rfl) rfl) ?_
              rintro _ w' ⟨b, rfl, hF⟩
              exact ⟨GA_below hF.2.2 hC.size, ⟨b, rfl, Nat.le_trans hC.size hF.1, .inl hF.2.1⟩, isfr rfl hF.1 (blk_lt hF.2.1)⟩
            refine ⟨fun wu11 hC hd => ?_, ?_⟩
            · clear hd
              replace hb := hb.trans (hC.mono hb.size)
              replace hkb1 := blk_ext hkb1 hC
              replace hkb2 := blk_ext hkb2 hC
              replace hrpl := Row.ext hrpl hC
              replace hrrk := Row.ext hrrk hC
              replace hrN := Row.ext hrN hC
              refine Does.mono (d_alloc (z := (.agg #[(.string ⟨#[]⟩), (.string ⟨#[]⟩), (.int .u8 (0 : Int)), (.int .u32 (0 : Int)), (.int .u32 (0 : Int)), (.int .u32 (0 : Int)), (.bool false), (.int .u8 (0 : Int)), (.bool false)])) (cs := #[(.string ⟨#[]⟩), (.string ⟨#[]⟩), (.int .u8 (0 : Int)), (.int .u32 (0 : Int)), (.int .u32 (0 : Int)), (.int .u32 (0 : Int)), (.bool false), (.int .u8 (0 : Int)), (.bool false)]) (by kernel_rfl) rfl) ?_
              rintro _ w' ⟨b, rfl, hF⟩
              exact ⟨GA_below hF.2.2 hC.size, ⟨b, rfl, Nat.le_trans hC.size hF.1, hF.2.1⟩, isfr rfl hF.1 (blk_lt hF.2.1)⟩
            refine ⟨fun wu12 hC hd => ?_, ?_⟩
            · obtain ⟨h0, h1, h2, h3, h4, h10, h11, _⟩ := hd
              replace h0 : V 0 = (.pointer (some ⟨b2, 0, none⟩)) := h0
              replace h1 : V 1 = (.slice (some ⟨rb1, 0, none⟩) pl.1.length plc) := h1
              replace h2 : V 2 = (.int .i64 ((k : Nat) : Int)) := h2
              replace h3 : V 3 = (.pointer (some ⟨rb1, (0 + k * 8), none⟩)) := h3
              replace h4 : V 4 = (.agg #[(.int .i64 W.1), (.int .i64 W.2.1), (.string W.2.2.1), (.string W.2.2.2.1.1), (.string W.2.2.2.1.2.1), (.int .u32 W.2.2.2.2.1.1), (.int .u32 W.2.2.2.2.1.2.1), (.bool W.2.2.2.2.1.2.2.1)]) := h4
              obtain ⟨b3, h10, hle3, hk4⟩ := h10
              obtain ⟨b4, h11, hle4, hk5⟩ := h11
              replace hb := hb.trans (hC.mono hb.size)
              replace hkb1 := blk_ext hkb1 hC
              replace hkb2 := blk_ext hkb2 hC
              replace hrpl := Row.ext hrpl hC
              replace hrrk := Row.ext hrrk hC
              replace hrN := Row.ext hrN hC
              refine Does.mono (R := fun _ wz => Wrote wu12 b3 #[(.int .i64 W.1), (.int .i64 W.2.1), (.string W.2.2.1), (.string W.2.2.2.1.1), (.string W.2.2.2.1.2.1), (.int .u32 W.2.2.2.2.1.1), (.int .u32 W.2.2.2.2.1.2.1), (.bool W.2.2.2.2.1.2.2.1)] 80 wz) ?_ ?_
              · rcases hk4 with hX | hX
                · exact (d_storeK (T := 80) (v := (.agg #[(.int .i64 W.1), (.int .i64 W.2.1), (.string W.2.2.1), (.string W.2.2.2.1.1), (.string W.2.2.2.1.2.1), (.int .u32 W.2.2.2.2.1.1), (.int .u32 W.2.2.2.2.1.2.1), (.bool W.2.2.2.2.1.2.2.1)])) (cs := #[(.int .i64 (0 : Int)), (.int .i64 (0 : Int)), (.string ⟨#[]⟩), (.string ⟨#[]⟩), (.string ⟨#[]⟩), (.int .u32 (0 : Int)), (.int .u32 (0 : Int)), (.bool false)]) (cs' := #[(.int .i64 W.1), (.int .i64 W.2.1), (.string W.2.2.1), (.string W.2.2.2.1.1), (.string W.2.2.2.1.2.1), (.int .u32 W.2.2.2.2.1.1), (.int .u32 W.2.2.2.2.1.2.1), (.bool W.2.2.2.2.1.2.2.1)]) (congrArg some h10) (congrArg some h4) (by kernel_rfl) (by kernel_rfl) hX (by kernel_rfl) (by kernel_rfl))
                · exact (d_storeK (T := 80) (v := (.agg #[(.int .i64 W.1), (.int .i64 W.2.1), (.string W.2.2.1), (.string W.2.2.2.1.1), (.string W.2.2.2.1.2.1), (.int .u32 W.2.2.2.2.1.1), (.int .u32 W.2.2.2.2.1.2.1), (.bool W.2.2.2.2.1.2.2.1)])) (cs := #[(.int .i64 W.1), (.int .i64 W.2.1), (.string W.2.2.1), (.string W.2.2.2.1.1), (.string W.2.2.2.1.2.1), (.int .u32 W.2.2.2.2.1.1), (.int .u32 W.2.2.2.2.1.2.1), (.bool W.2.2.2.2.1.2.2.1)]) (cs' := #[(.int .i64 W.1), (.int .i64 W.2.1), (.string W.2.2.1), (.string W.2.2.2.1.1), (.string W.2.2.2.1.2.1), (.int .u32 W.2.2.2.2.1.1), (.int .u32 W.2.2.2.2.1.2.1), (.bool W.2.2.2.2.1.2.2.1)]) (congrArg some h10) (congrArg some h4) (by kernel_rfl) (by kernel_rfl) hX (by kernel_rfl) (by kernel_rfl))
              · rintro _ wz ⟨hY, hgY⟩
                exact ⟨GA_store hC.size hle3 hk4 hY hgY, (by rw [h10]; exact hY), nofr rfl⟩
            trivial
          · skip
            clear hf fa; intro V w9 fa he7 hp hnb hf
            have hv0 : V 0 = (.pointer (some ⟨b2, 0, none⟩)) := postsHold_at hp 0 rfl
            have hv1 : V 1 = (.slice (some ⟨rb1, 0, none⟩) pl.1.length plc) := postsHold_at hp 1 rfl
            have hv2 : V 2 = (.int .i64 ((k : Nat) : Int)) := postsHold_at hp 2 rfl
            have hv3 : V 3 = (.pointer (some ⟨rb1, (0 + k * 8), none⟩)) := postsHold_at hp 3 rfl
            have hv4 : V 4 = (.agg #[(.int .i64 W.1), (.int .i64 W.2.1), (.string W.2.2.1), (.string W.2.2.2.1.1), (.string W.2.2.2.1.2.1), (.int .u32 W.2.2.2.2.1.1), (.int .u32 W.2.2.2.2.1.2.1), (.bool W.2.2.2.2.1.2.2.1)]) := postsHold_at hp 4 rfl
            have hv5 : V 5 = (.pointer (some ⟨b1, 1, none⟩)) := postsHold_at hp 5 rfl
            have hv6 : V 6 = (.slice m.2.1.at' m.2.1.len m.2.1.cap) := postsHold_at hp 6 rfl
            have hv7 : V 7 = (.int .i64 ((k : Nat) : Int)) := postsHold_at hp 7 rfl
            have hv8 : V 8 = (.pointer (some ⟨ab1, (aoff1 + k * 9), none⟩)) := postsHold_at hp 8 rfl
            have hv9 : V 9 = (.agg #[(.string y.1), (.string y.2.1), (.int .u8 y.2.2.1), (.int .u32 y.2.2.2.1), (.int .u32 y.2.2.2.2.1.1), (.int .u32 y.2.2.2.2.1.2.1), (.bool y.2.2.2.2.1.2.2.1), (.int .u8 y.2.2.2.2.2.1.1), (.bool y.2.2.2.2.2.1.2.1)]) := postsHold_at hp 9 rfl
            have hv10 := postsHold_at hp 10 rfl
            obtain ⟨b3, hv10, hle3, hk4⟩ := hv10
            have hBb3 : w.heap.size ≤ b3 := Nat.le_trans hb.size hle3
            have hv11 := postsHold_at hp 11 rfl
            obtain ⟨b4, hv11, hle4, hk5⟩ := hv11
            have hBb4 : w.heap.size ≤ b4 := Nat.le_trans hb.size hle4
            have hk6 := postsHold_at hp 12 rfl
            replace hk6 : w9.heap[(bk (V 10))]? = some (.cells #[(.int .i64 W.1), (.int .i64 W.2.1), (.string W.2.2.1), (.string W.2.2.2.1.1), (.string W.2.2.2.1.2.1), (.int .u32 W.2.2.2.2.1.1), (.int .u32 W.2.2.2.2.1.2.1), (.bool W.2.2.2.2.1.2.2.1)] 80 (0, 0)) := hk6
            rw [hv10] at hk6
            replace hk6 : w9.heap[b3]? = some (.cells #[(.int .i64 W.1), (.int .i64 W.2.1), (.string W.2.2.1), (.string W.2.2.2.1.1), (.string W.2.2.2.1.2.1), (.int .u32 W.2.2.2.2.1.1), (.int .u32 W.2.2.2.2.1.2.1), (.bool W.2.2.2.2.1.2.2.1)] 80 (0, 0)) := hk6
            simp only [List.take_succ_cons, List.take_zero, insAll, ins, hv0, hv1, hv2, hv3, hv4, hv5, hv6, hv7, hv8, hv9, hv10, hv11] at hf
            have : b3 ≠ b4 := two_blk (i := 10) (j := 11) hnb rfl rfl rfl rfl rfl (by rw [hv10]; rfl) (by rw [hv11]; rfl)
            have : b1 < b3 := Nat.lt_of_lt_of_le (blk_lt hkb1) hle3
            have : b1 < b4 := Nat.lt_of_lt_of_le (blk_lt hkb1) hle4
            have : b2 < b3 := Nat.lt_of_lt_of_le (blk_lt hkb2) hle3
            have : b2 < b4 := Nat.lt_of_lt_of_le (blk_lt hkb2) hle4
            clear hp hnb hv0 hv1 hv2 hv3 hv4 hv5 hv6 hv7 hv8 hv9 hv10 hv11
            replace hkb1 := blk_ext hkb1 he7
            replace hkb2 := blk_ext hkb2 he7
            replace hrpl := Row.ext hrpl he7
            replace hrrk := Row.ext hrrk he7
            replace hrN := Row.ext hrN he7
            replace hb := hb.trans (Below.mono he7 hb.size)
            simp only [List.drop_succ_cons, List.drop_zero]
            refine sqn hf (d_storeK (T := 103) (v := (.agg #[(.string y.1), (.string y.2.1), (.int .u8 y.2.2.1), (.int .u32 y.2.2.2.1), (.int .u32 y.2.2.2.2.1.1), (.int .u32 y.2.2.2.2.1.2.1), (.bool y.2.2.2.2.1.2.2.1), (.int .u8 y.2.2.2.2.2.1.1), (.bool y.2.2.2.2.2.1.2.1)])) (cs := #[(.string ⟨#[]⟩), (.string ⟨#[]⟩), (.int .u8 (0 : Int)), (.int .u32 (0 : Int)), (.int .u32 (0 : Int)), (.int .u32 (0 : Int)), (.bool false), (.int .u8 (0 : Int)), (.bool false)]) (cs' := #[(.string y.1), (.string y.2.1), (.int .u8 y.2.2.1), (.int .u32 y.2.2.2.1), (.int .u32 y.2.2.2.2.1.1), (.int .u32 y.2.2.2.2.1.2.1), (.bool y.2.2.2.2.1.2.2.1), (.int .u8 y.2.2.2.2.2.1.1), (.bool y.2.2.2.2.2.1.2.1)]) rfl rfl (by kernel_rfl) (by kernel_rfl) hk5 (by kernel_rfl) (by kernel_rfl)) rfl rfl ?_; clear hf fa; rintro fa _ w10 ⟨hk7, hg2⟩ hf
            replace hkb1 := blk_grown hkb1 hg2 (by omega)
            replace hkb2 := blk_grown hkb2 hg2 (by omega)
            replace hk6 := blk_grown hk6 hg2 (by omega)
            replace hrpl := Row.grown hrpl hg2 (Row.ne_type hrpl hk5 rfl)
            replace hrrk := Row.grown hrrk hg2 (Row.ne_type hrrk hk5 rfl)
            replace hrN := Row.grown hrN hg2 (Row.ne_type hrN hk5 rfl)
            replace hb := hb.trans (grown_below hg2 hb.size hBb4)
            apply wpList_nil
            (try simp only [Exit.then, Exit.inBlock, ↓reduceIte, Nat.reduceEqDiff])
            refine hK23 _ _ ?_
            refine wp_seq_k (fun K24 hK24 => ?_)
            refine wp_region_lit ?_
            refine sqv hf (r_build (vs := []) (cs := #[(.string ⟨#[]⟩), (.string ⟨#[]⟩)]) rfl (fun _ => by kernel_rfl)) rfl rfl rfl ?_; clear hf fa; intro fa hf
            refine sqdt hf (d_alloc (z := (.agg #[(.string ⟨#[]⟩), (.string ⟨#[]⟩)])) (cs := #[(.string ⟨#[]⟩), (.string ⟨#[]⟩)]) (by kernel_rfl) rfl) rfl rfl rfl ?_; clear hf fa; rintro fa _ w11 ⟨b5, rfl, hle5, hk8, he8⟩ hf
            have hBb5 : w.heap.size ≤ b5 := Nat.le_trans hb.size hle5
            have : b1 < b5 := Nat.lt_of_lt_of_le (blk_lt hkb1) hle5
            have : b2 < b5 := Nat.lt_of_lt_of_le (blk_lt hkb2) hle5
            have : b3 < b5 := Nat.lt_of_lt_of_le (blk_lt hk6) hle5
            have : b4 < b5 := Nat.lt_of_lt_of_le (blk_lt hk7) hle5
            replace hkb1 := blk_ext hkb1 he8
            replace hkb2 := blk_ext hkb2 he8
            replace hk6 := blk_ext hk6 he8
            replace hk7 := blk_ext hk7 he8
            replace hrpl := Row.ext hrpl he8
            replace hrrk := Row.ext hrrk he8
            replace hrN := Row.ext hrN he8
            replace hb := hb.trans (Below.mono he8 hb.size)
            refine sqn hf (d_storeK (T := 78) (v := (.agg #[(.string ⟨#[]⟩), (.string ⟨#[]⟩)])) (cs := #[(.string ⟨#[]⟩), (.string ⟨#[]⟩)]) (cs' := #[(.string ⟨#[]⟩), (.string ⟨#[]⟩)]) rfl rfl (by kernel_rfl) (by kernel_rfl) hk8 (by kernel_rfl) (by kernel_rfl)) rfl rfl ?_; clear hf fa; rintro fa _ w12 ⟨hk9, hg3⟩ hf
            replace hkb1 := blk_grown hkb1 hg3 (by omega)
            replace hkb2 := blk_grown hkb2 hg3 (by omega)
            replace hk6 := blk_grown hk6 hg3 (by omega)
            replace hk7 := blk_grown hk7 hg3 (by omega)
            replace hrpl := Row.grown hrpl hg3 (Row.ne_type hrpl hk8 rfl)
            replace hrrk := Row.grown hrrk hg3 (Row.ne_type hrrk hk8 rfl)
            replace hrN := Row.grown hrN hg3 (Row.ne_type hrN hk8 rfl)
            replace hb := hb.trans (grown_below hg3 hb.size hBb5)
            apply wpList_nil
            (try simp only [Exit.then, Exit.inBlock, ↓reduceIte, Nat.reduceEqDiff])
            refine hK24 _ _ ?_
            refine wp_seq_k (fun K25 hK25 => ?_)
            refine wp_seq_k (fun K26 hK26 => ?_)
            refine wp_region_lit ?_
            refine sqv hf (r_move rfl) rfl rfl rfl ?_; clear hf fa; intro fa hf
            refine sqv hf (r_move rfl) rfl rfl rfl ?_; clear hf fa; intro fa hf
            obtain ⟨rb2, rfl, hbbrb2, hlbrb2⟩ := Row.some hrrk (by first | omega | (simp only [Sl.list_length, List.length_set, List.length_take, List.length_append, List.length_replicate, List.length_cons, List.length_nil]; omega))
            have hy3 : (rp.1)[k]? = some kn := hkn
            have hel3 := RdS.at (Row.rd (by intros; rfl) hrrk) hy3
            obtain ⟨_, _, hab, hlr2, hel3⟩ := hel3
            cases hab
            refine sqv hf (r_ixa (sz := 1) (j := k) rfl rfl Try.underlying28 (by kernel_rfl) rfl (by omega) rfl) rfl rfl rfl ?_; clear hf fa; intro fa hf
            refine sqv hf (r_load (v := (.int .i64 kn)) rfl Try.underlying3 rfl (cellsAt_cell hel3 (i := 0) rfl rfl)) rfl rfl rfl ?_; clear hf fa; intro fa hf
            refine sqv hf (r_eq rfl rfl) rfl rfl rfl ?_; clear hf fa; intro fa hf
            apply wpList_nil
            (try simp only [Exit.then, Exit.inBlock, ↓reduceIte, Nat.reduceEqDiff])
            refine hK26 _ _ ?_
            refine wp_cond_split (t := (decide (kn = (1 : Int)))) (hf.ev rfl) (fun hqt91_1 => ?_) (fun hqt91_1 => ?_)
            · have hqt91_1b := hqt91_1
              try simp only [decide_eq_true_eq, Bool.and_eq_true, Bool.or_eq_true, Bool.not_eq_true', decide_eq_false_iff_not, ne_eq, Bool.not_eq_true] at hqt91_1
              have htl := (q3 k y hy).2 (by rw [hkn0]; exact hqt91_1)
              refine wp_region_lit ?_
              refine sqv hf (r_fa rfl Try.underlying67 (f := 0) (q := 0) rfl (by kernel_rfl) rfl) rfl rfl rfl ?_; clear hf fa; intro fa hf
              refine sqv hf (r_load (v := (.slice m.1.at' m.1.len m.1.cap)) rfl Try.underlying56 rfl (cell_blk hkb1 rfl)) rfl rfl rfl ?_; clear hf fa; intro fa hf
              refine sqv hf (r_fa rfl Try.underlying103 (f := 3) (q := 3) rfl (by kernel_rfl) rfl) rfl rfl rfl ?_; clear hf fa; intro fa hf
              refine sqv hf (r_load (v := (.int .u32 y.2.2.2.1)) rfl Try.underlying44 rfl (cell_blk hk7 rfl)) rfl rfl rfl ?_; clear hf fa; intro fa hf
              have hy4 : (m.1.list)[(y.2.2.2.1).toNat]? = some (m.1.list.getD (y.2.2.2.1).toNat zMFt) := (getD_at zMFt (by rw [Sl.list_length]; omega))
              obtain ⟨ab2, aoff2, hat2, hlb2, hel4⟩ := RdS.at hT hy4
              refine sqv hf (r_ixa (sz := 2) (j := (y.2.2.2.1).toNat) (evAt rfl hat2) rfl Try.underlying56 (by kernel_rfl) (by omega) (by omega) rfl) rfl rfl rfl ?_; clear hf fa; intro fa hf
              refine sqv hf (r_loadA (cs := [(.string (m.1.list.getD (y.2.2.2.1).toNat zMFt).1), (.string (m.1.list.getD (y.2.2.2.1).toNat zMFt).2.1)]) rfl Try.underlying78 rfl (by kernel_rfl) (cellsAt_below hel4 hb hlb2)) rfl rfl rfl ?_; clear hf fa; intro fa hf
              refine sqn hf (d_storeK (T := 78) (v := (.agg #[(.string (m.1.list.getD (y.2.2.2.1).toNat zMFt).1), (.string (m.1.list.getD (y.2.2.2.1).toNat zMFt).2.1)])) (cs := #[(.string ⟨#[]⟩), (.string ⟨#[]⟩)]) (cs' := #[(.string (m.1.list.getD (y.2.2.2.1).toNat zMFt).1), (.string (m.1.list.getD (y.2.2.2.1).toNat zMFt).2.1)]) rfl rfl (by kernel_rfl) (by kernel_rfl) hk9 (by kernel_rfl) (by kernel_rfl)) rfl rfl ?_; clear hf fa; rintro fa _ w13 ⟨hk10, hg4⟩ hf
              replace hkb1 := blk_grown hkb1 hg4 (by omega)
              replace hkb2 := blk_grown hkb2 hg4 (by omega)
              replace hk6 := blk_grown hk6 hg4 (by omega)
              replace hk7 := blk_grown hk7 hg4 (by omega)
              replace hrpl := Row.grown hrpl hg4 (Row.ne_type hrpl hk9 rfl)
              replace hrrk := Row.grown hrrk hg4 (Row.ne_type hrrk hk9 rfl)
              replace hrN := Row.grown hrN hg4 (Row.ne_type hrN hk9 rfl)
              replace hb := hb.trans (grown_below hg4 hb.size hBb5)
              apply wpList_nil
              (try simp only [Exit.then, Exit.inBlock, ↓reduceIte, Nat.reduceEqDiff])
              refine hK25 _ _ ?_
              refine wp_seq_k (fun K27 hK27 => ?_)
              refine wp_seq_k (fun K28 hK28 => ?_)
              have hy5 : (rp.1)[k]? = some kn := hkn
              have hel5 := RdS.at (Row.rd (by intros; rfl) hrrk) hy5
              obtain ⟨_, _, hab, hlr3, hel5⟩ := hel5
              cases hab
              refine wp_region_un (fun wq => Below w13.heap.size w13 wq) (fun w w' => Below w.heap.size w w')
                (fun V => [(fun x _ => x = (.pointer (some ⟨b3, 0, none⟩))), (fun x _ => x = (.int .i64 W.1)), (fun x _ => x = (.int .i64 ((k : Nat) : Int))), (fun x _ => x = (.bool false)), (fun x _ => x = (.bool false)), (fun x _ => x = (.pointer (some ⟨b3, 1, none⟩))), (fun x _ => x = (.int .i64 W.2.1)), (fun x _ => x = (.slice (some ⟨rb2, 0, none⟩) rp.1.length rkc)), (fun x _ => x = (.int .i64 ((k : Nat) : Int))), (fun x _ => x = (.pointer (some ⟨rb2, (0 + k * 1), none⟩))), (fun x _ => x = (.int .i64 kn)), (fun x _ => x = (.bool false)), (fun x _ => x = (.bool false)), (fun x _ => x = (.bool false)), (fun x _ => x = (.pointer (some ⟨b3, 2, none⟩))), (fun x _ => x = (.string W.2.2.1)), (fun x _ => x = (.pointer (some ⟨b4, 1, none⟩))), (fun x _ => x = (.string y.2.1)), (fun x _ => x = (.bool false)), (fun x _ => x = (.bool false)), (fun x _ => x = (.bool false)), (fun x _ => x = (.pointer (some ⟨b3, 5, none⟩))), (fun x _ => x = (.agg #[(.int .u32 W.2.2.2.2.1.1), (.int .u32 W.2.2.2.2.1.2.1), (.bool W.2.2.2.2.1.2.2.1)])), (fun x _ => x = (.pointer (some ⟨b4, 4, none⟩))), (fun x _ => x = (.agg #[(.int .u32 y.2.2.2.2.1.1), (.int .u32 y.2.2.2.2.1.2.1), (.bool y.2.2.2.2.1.2.2.1)])), (fun x _ => x = (.bool false)), (fun x _ => x = (.bool false)), (fun x _ => x = (.bool false)), (fun x _ => x = (.pointer (some ⟨b3, 3, none⟩))), (fun x _ => x = (.agg #[(.string W.2.2.2.1.1), (.string W.2.2.2.1.2.1)])), (fun x _ => x = (.agg #[(.string (m.1.list.getD (y.2.2.2.1).toNat zMFt).1), (.string (m.1.list.getD (y.2.2.2.1).toNat zMFt).2.1)])), (fun x _ => x = (.bool false)), (fun x _ => x = (.bool false))])
                []
                [[], [0], [], [1, 2], [3], [4], [4, 5], [4], [4], [4, 7, 8], [4, 9], [4, 6, 10], [4, 11], [4, 12], [13], [13, 14], [13], [13, 16], [13, 15, 17], [13, 18], [13, 19], [20], [20, 21], [20], [20, 23], [20, 22, 24], [20, 25], [20, 26], [27], [27, 28], [27], [27, 29, 30], [27, 31]]
                hf (by kernel_rfl) (by kernel_rfl) (fun _ => rfl) ((Below.refl _ _).drew) (fun a b h1 h2 => h1.trans (h2.mono h1.size)) (fun _ _ h => h.size) (fun V => ⟨kept_eq, kept_eq, kept_eq, kept_eq, kept_eq, kept_eq, kept_eq, kept_eq, kept_eq, kept_eq, kept_eq, kept_eq, kept_eq, kept_eq, kept_eq, kept_eq, kept_eq, kept_eq, kept_eq, kept_eq, kept_eq, kept_eq, kept_eq, kept_eq, kept_eq, kept_eq, kept_eq, kept_eq, kept_eq, kept_eq, kept_eq, kept_eq, kept_eq, trivial⟩) (fun _ _ _ _ _ => rfl) ?_ ?_
              · skip
                intro V
                refine ⟨fun wu0 hC hd => ?_, ?_⟩
                · clear hd
                  replace hb := hb.trans (hC.mono hb.size)
                  replace hkb1 := blk_ext hkb1 hC
                  replace hkb2 := blk_ext hkb2 hC
                  replace hk6 := blk_ext hk6 hC
                  replace hk7 := blk_ext hk7 hC
                  replace hk10 := blk_ext hk10 hC
                  replace hrpl := Row.ext hrpl hC
                  replace hrrk := Row.ext hrrk hC
                  replace hrN := Row.ext hrN hC
                  exact Runs.does (r_fa rfl Try.underlying80 (f := 0) (q := 0) rfl (by kernel_rfl) rfl) ⟨Below.refl _ _, rfl, nofr rfl⟩
                refine ⟨fun wu1 hC hd => ?_, ?_⟩
                · obtain ⟨h0, _⟩ := hd
                  skip
                  replace h0 : V 0 = (.pointer (some ⟨b3, 0, none⟩)) := h0
                  replace hb := hb.trans (hC.mono hb.size)
                  replace hkb1 := blk_ext hkb1 hC
                  replace hkb2 := blk_ext hkb2 hC
                  replace hk6 := blk_ext hk6 hC
                  replace hk7 := blk_ext hk7 hC
                  replace hk10 := blk_ext hk10 hC
                  replace hrpl := Row.ext hrpl hC
                  replace hrrk := Row.ext hrrk hC
                  replace hrN := Row.ext hrN hC
                  exact Runs.does (r_load (v := (.int .i64 W.1)) (congrArg some h0) Try.underlying3 rfl (cell_blk hk6 rfl)) ⟨Below.refl _ _, rfl, nofr rfl⟩
                refine ⟨fun wu2 hC hd => ?_, ?_⟩
                · clear hd
                  replace hb := hb.trans (hC.mono hb.size)
                  replace hkb1 := blk_ext hkb1 hC
                  replace hkb2 := blk_ext hkb2 hC
                  replace hk6 := blk_ext hk6 hC
                  replace hk7 := blk_ext hk7 hC
                  replace hk10 := blk_ext hk10 hC
                  replace hrpl := Row.ext hrpl hC
                  replace hrrk := Row.ext hrrk hC
                  replace hrN := Row.ext hrN hC
                  exact Runs.does (r_move rfl) ⟨Below.refl _ _, rfl, nofr rfl⟩
                refine ⟨fun wu3 hC hd => ?_, ?_⟩
                · obtain ⟨h1, h2, _⟩ := hd
                  skip
                  skip
                  replace h1 : V 1 = (.int .i64 W.1) := h1
                  replace h2 : V 2 = (.int .i64 ((k : Nat) : Int)) := h2
                  replace hb := hb.trans (hC.mono hb.size)
                  replace hkb1 := blk_ext hkb1 hC
                  replace hkb2 := blk_ext hkb2 hC
                  replace hk6 := blk_ext hk6 hC
                  replace hk7 := blk_ext hk7 hC
                  replace hk10 := blk_ext hk10 hC
                  replace hrpl := Row.ext hrpl hC
                  replace hrrk := Row.ext hrrk hC
                  replace hrN := Row.ext hrN hC
                  exact Runs.does (Runs.veq (r_ne (congrArg some h1) (congrArg some h2)) (congrArg Value.bool (show _ = false from (by simp [hWd])))) ⟨Below.refl _ _, rfl, nofr rfl⟩
                refine ⟨fun wu4 hC hd => ?_, ?_⟩
                · obtain ⟨h3, _⟩ := hd
                  skip
                  replace h3 : V 3 = (.bool false) := h3
                  replace hb := hb.trans (hC.mono hb.size)
                  replace hkb1 := blk_ext hkb1 hC
                  replace hkb2 := blk_ext hkb2 hC
                  replace hk6 := blk_ext hk6 hC
                  replace hk7 := blk_ext hk7 hC
                  replace hk10 := blk_ext hk10 hC
                  replace hrpl := Row.ext hrpl hC
                  replace hrrk := Row.ext hrrk hC
                  replace hrN := Row.ext hrN hC
                  exact Runs.does (r_move (congrArg some h3)) ⟨Below.refl _ _, rfl, nofr rfl⟩
                refine ⟨fun wu5 hC hd => ?_, ?_⟩
                · obtain ⟨h4, _⟩ := hd
                  skip
                  replace h4 : V 4 = (.bool false) := h4
                  replace hb := hb.trans (hC.mono hb.size)
                  replace hkb1 := blk_ext hkb1 hC
                  replace hkb2 := blk_ext hkb2 hC
                  replace hk6 := blk_ext hk6 hC
                  replace hk7 := blk_ext hk7 hC
                  replace hk10 := blk_ext hk10 hC
                  replace hrpl := Row.ext hrpl hC
                  replace hrrk := Row.ext hrrk hC
                  replace hrN := Row.ext hrN hC
                  refine ⟨true, false, congrArg some h4, fun hact => ?_, fun hact => ?_⟩
                  · exact Runs.does (r_fa rfl Try.underlying80 (f := 1) (q := 1) rfl (by kernel_rfl) rfl) ⟨Below.refl _ _, rfl, nofr rfl⟩
                  · exfalso; simp at hact
                refine ⟨fun wu6 hC hd => ?_, ?_⟩
                · obtain ⟨h4, h5, _⟩ := hd
                  skip
                  skip
                  replace h4 : V 4 = (.bool false) := h4
                  replace h5 : V 5 = (.pointer (some ⟨b3, 1, none⟩)) := h5
                  replace hb := hb.trans (hC.mono hb.size)
                  replace hkb1 := blk_ext hkb1 hC
                  replace hkb2 := blk_ext hkb2 hC
                  replace hk6 := blk_ext hk6 hC
                  replace hk7 := blk_ext hk7 hC
                  replace hk10 := blk_ext hk10 hC
                  replace hrpl := Row.ext hrpl hC
                  replace hrrk := Row.ext hrrk hC
                  replace hrN := Row.ext hrN hC
                  refine ⟨true, false, congrArg some h4, fun hact => ?_, fun hact => ?_⟩
                  · exact Runs.does (r_load (v := (.int .i64 W.2.1)) (congrArg some h5) Try.underlying3 rfl (cell_blk hk6 rfl)) ⟨Below.refl _ _, rfl, nofr rfl⟩
                  · exfalso; simp at hact
                refine ⟨fun wu7 hC hd => ?_, ?_⟩
                · obtain ⟨h4, _⟩ := hd
                  skip
                  replace h4 : V 4 = (.bool false) := h4
                  replace hb := hb.trans (hC.mono hb.size)
                  replace hkb1 := blk_ext hkb1 hC
                  replace hkb2 := blk_ext hkb2 hC
                  replace hk6 := blk_ext hk6 hC
                  replace hk7 := blk_ext hk7 hC
                  replace hk10 := blk_ext hk10 hC
                  replace hrpl := Row.ext hrpl hC
                  replace hrrk := Row.ext hrrk hC
                  replace hrN := Row.ext hrN hC
                  refine ⟨true, false, congrArg some h4, fun hact => ?_, fun hact => ?_⟩
                  · exact Runs.does (r_move rfl) ⟨Below.refl _ _, rfl, nofr rfl⟩
                  · exfalso; simp at hact
                refine ⟨fun wu8 hC hd => ?_, ?_⟩
                · obtain ⟨h4, _⟩ := hd
                  skip
                  replace h4 : V 4 = (.bool false) := h4
                  replace hb := hb.trans (hC.mono hb.size)
                  replace hkb1 := blk_ext hkb1 hC
                  replace hkb2 := blk_ext hkb2 hC
                  replace hk6 := blk_ext hk6 hC
                  replace hk7 := blk_ext hk7 hC
                  replace hk10 := blk_ext hk10 hC
                  replace hrpl := Row.ext hrpl hC
                  replace hrrk := Row.ext hrrk hC
                  replace hrN := Row.ext hrN hC
                  refine ⟨true, false, congrArg some h4, fun hact => ?_, fun hact => ?_⟩
                  · exact Runs.does (r_move rfl) ⟨Below.refl _ _, rfl, nofr rfl⟩
                  · exfalso; simp at hact
                refine ⟨fun wu9 hC hd => ?_, ?_⟩
                · obtain ⟨h4, h7, h8, _⟩ := hd
                  skip
                  skip
                  skip
                  replace h4 : V 4 = (.bool false) := h4
                  replace h7 : V 7 = (.slice (some ⟨rb2, 0, none⟩) rp.1.length rkc) := h7
                  replace h8 : V 8 = (.int .i64 ((k : Nat) : Int)) := h8
                  replace hb := hb.trans (hC.mono hb.size)
                  replace hkb1 := blk_ext hkb1 hC
                  replace hkb2 := blk_ext hkb2 hC
                  replace hk6 := blk_ext hk6 hC
                  replace hk7 := blk_ext hk7 hC
                  replace hk10 := blk_ext hk10 hC
                  replace hrpl := Row.ext hrpl hC
                  replace hrrk := Row.ext hrrk hC
                  replace hrN := Row.ext hrN hC
                  refine ⟨true, false, congrArg some h4, fun hact => ?_, fun hact => ?_⟩
                  · exact Runs.does (r_ixa (sz := 1) (j := k) (congrArg some h7) (congrArg some h8) Try.underlying28 (by kernel_rfl) rfl (by omega) rfl) ⟨Below.refl _ _, rfl, nofr rfl⟩
                  · exfalso; simp at hact
                refine ⟨fun wu10 hC hd => ?_, ?_⟩
                · obtain ⟨h4, h9, _⟩ := hd
                  skip
                  skip
                  replace h4 : V 4 = (.bool false) := h4
                  replace h9 : V 9 = (.pointer (some ⟨rb2, (0 + k * 1), none⟩)) := h9
                  replace hb := hb.trans (hC.mono hb.size)
                  replace hkb1 := blk_ext hkb1 hC
                  replace hkb2 := blk_ext hkb2 hC
                  replace hk6 := blk_ext hk6 hC
                  replace hk7 := blk_ext hk7 hC
                  replace hk10 := blk_ext hk10 hC
                  replace hrpl := Row.ext hrpl hC
                  replace hrrk := Row.ext hrrk hC
                  replace hrN := Row.ext hrN hC
                  refine ⟨true, false, congrArg some h4, fun hact => ?_, fun hact => ?_⟩
                  · exact Runs.does (r_load (v := (.int .i64 kn)) (congrArg some h9) Try.underlying3 rfl (cellsAt_cell (cellsAt_below hel5 hC hlr3) (i := 0) rfl rfl)) ⟨Below.refl _ _, rfl, nofr rfl⟩
                  · exfalso; simp at hact
                refine ⟨fun wu11 hC hd => ?_, ?_⟩
                · obtain ⟨h4, h6, h10, _⟩ := hd
                  skip
                  skip
                  skip
                  replace h4 : V 4 = (.bool false) := h4
                  replace h6 : V 6 = (.int .i64 W.2.1) := h6
                  replace h10 : V 10 = (.int .i64 kn) := h10
                  replace hb := hb.trans (hC.mono hb.size)
                  replace hkb1 := blk_ext hkb1 hC
                  replace hkb2 := blk_ext hkb2 hC
                  replace hk6 := blk_ext hk6 hC
                  replace hk7 := blk_ext hk7 hC
                  replace hk10 := blk_ext hk10 hC
                  replace hrpl := Row.ext hrpl hC
                  replace hrrk := Row.ext hrrk hC
                  replace hrN := Row.ext hrN hC
                  refine ⟨true, false, congrArg some h4, fun hact => ?_, fun hact => ?_⟩
                  · exact Runs.does (Runs.veq (r_ne (congrArg some h6) (congrArg some h10)) (congrArg Value.bool (show _ = false from (by simp [hWd, hkn0])))) ⟨Below.refl _ _, rfl, nofr rfl⟩
                  · exfalso; simp at hact
                refine ⟨fun wu12 hC hd => ?_, ?_⟩
                · obtain ⟨h4, h11, _⟩ := hd
                  skip
                  skip
                  replace h4 : V 4 = (.bool false) := h4
                  replace h11 : V 11 = (.bool false) := h11
                  replace hb := hb.trans (hC.mono hb.size)
                  replace hkb1 := blk_ext hkb1 hC
                  replace hkb2 := blk_ext hkb2 hC
                  replace hk6 := blk_ext hk6 hC
                  replace hk7 := blk_ext hk7 hC
                  replace hk10 := blk_ext hk10 hC
                  replace hrpl := Row.ext hrpl hC
                  replace hrrk := Row.ext hrrk hC
                  replace hrN := Row.ext hrN hC
                  exact Runs.does (r_pick (b := false) (congrArg some h4) rfl (congrArg some h11) rfl) ⟨Below.refl _ _, rfl, nofr rfl⟩
                refine ⟨fun wu13 hC hd => ?_, ?_⟩
                · obtain ⟨h4, h12, _⟩ := hd
                  skip
                  skip
                  replace h4 : V 4 = (.bool false) := h4
                  replace h12 : V 12 = (.bool false) := h12
                  replace hb := hb.trans (hC.mono hb.size)
                  replace hkb1 := blk_ext hkb1 hC
                  replace hkb2 := blk_ext hkb2 hC
                  replace hk6 := blk_ext hk6 hC
                  replace hk7 := blk_ext hk7 hC
                  replace hk10 := blk_ext hk10 hC
                  replace hrpl := Row.ext hrpl hC
                  replace hrrk := Row.ext hrrk hC
                  replace hrN := Row.ext hrN hC
                  exact Runs.does (r_move (congrArg some h12)) ⟨Below.refl _ _, rfl, nofr rfl⟩
                refine ⟨fun wu14 hC hd => ?_, ?_⟩
                · obtain ⟨h13, _⟩ := hd
                  skip
                  replace h13 : V 13 = (.bool false) := h13
                  replace hb := hb.trans (hC.mono hb.size)
                  replace hkb1 := blk_ext hkb1 hC
                  replace hkb2 := blk_ext hkb2 hC
                  replace hk6 := blk_ext hk6 hC
                  replace hk7 := blk_ext hk7 hC
                  replace hk10 := blk_ext hk10 hC
                  replace hrpl := Row.ext hrpl hC
                  replace hrrk := Row.ext hrrk hC
                  replace hrN := Row.ext hrN hC
                  refine ⟨true, false, congrArg some h13, fun hact => ?_, fun hact => ?_⟩
                  · exact Runs.does (r_fa rfl Try.underlying80 (f := 2) (q := 2) rfl (by kernel_rfl) rfl) ⟨Below.refl _ _, rfl, nofr rfl⟩
                  · exfalso; simp at hact
                refine ⟨fun wu15 hC hd => ?_, ?_⟩
                · obtain ⟨h13, h14, _⟩ := hd
                  skip
                  skip
                  replace h13 : V 13 = (.bool false) := h13
                  replace h14 : V 14 = (.pointer (some ⟨b3, 2, none⟩)) := h14
                  replace hb := hb.trans (hC.mono hb.size)
                  replace hkb1 := blk_ext hkb1 hC
                  replace hkb2 := blk_ext hkb2 hC
                  replace hk6 := blk_ext hk6 hC
                  replace hk7 := blk_ext hk7 hC
                  replace hk10 := blk_ext hk10 hC
                  replace hrpl := Row.ext hrpl hC
                  replace hrrk := Row.ext hrrk hC
                  replace hrN := Row.ext hrN hC
                  refine ⟨true, false, congrArg some h13, fun hact => ?_, fun hact => ?_⟩
                  · exact Runs.does (r_load (v := (.string W.2.2.1)) (congrArg some h14) Try.underlying9 rfl (cell_blk hk6 rfl)) ⟨Below.refl _ _, rfl, nofr rfl⟩
                  · exfalso; simp at hact
                refine ⟨fun wu16 hC hd => ?_, ?_⟩
                · obtain ⟨h13, _⟩ := hd
                  skip
                  replace h13 : V 13 = (.bool false) := h13
                  replace hb := hb.trans (hC.mono hb.size)
                  replace hkb1 := blk_ext hkb1 hC
                  replace hkb2 := blk_ext hkb2 hC
                  replace hk6 := blk_ext hk6 hC
                  replace hk7 := blk_ext hk7 hC
                  replace hk10 := blk_ext hk10 hC
                  replace hrpl := Row.ext hrpl hC
                  replace hrrk := Row.ext hrrk hC
                  replace hrN := Row.ext hrN hC
                  refine ⟨true, false, congrArg some h13, fun hact => ?_, fun hact => ?_⟩
                  · exact Runs.does (r_fa rfl Try.underlying103 (f := 1) (q := 1) rfl (by kernel_rfl) rfl) ⟨Below.refl _ _, rfl, nofr rfl⟩
                  · exfalso; simp at hact
                refine ⟨fun wu17 hC hd => ?_, ?_⟩
                · obtain ⟨h13, h16, _⟩ := hd
                  skip
                  skip
                  replace h13 : V 13 = (.bool false) := h13
                  replace h16 : V 16 = (.pointer (some ⟨b4, 1, none⟩)) := h16
                  replace hb := hb.trans (hC.mono hb.size)
                  replace hkb1 := blk_ext hkb1 hC
                  replace hkb2 := blk_ext hkb2 hC
                  replace hk6 := blk_ext hk6 hC
                  replace hk7 := blk_ext hk7 hC
                  replace hk10 := blk_ext hk10 hC
                  replace hrpl := Row.ext hrpl hC
                  replace hrrk := Row.ext hrrk hC
                  replace hrN := Row.ext hrN hC
                  refine ⟨true, false, congrArg some h13, fun hact => ?_, fun hact => ?_⟩
                  · exact Runs.does (r_load (v := (.string y.2.1)) (congrArg some h16) Try.underlying9 rfl (cell_blk hk7 rfl)) ⟨Below.refl _ _, rfl, nofr rfl⟩
                  · exfalso; simp at hact
                refine ⟨fun wu18 hC hd => ?_, ?_⟩
                · obtain ⟨h13, h15, h17, _⟩ := hd
                  skip
                  skip
                  skip
                  replace h13 : V 13 = (.bool false) := h13
                  replace h15 : V 15 = (.string W.2.2.1) := h15
                  replace h17 : V 17 = (.string y.2.1) := h17
                  replace hb := hb.trans (hC.mono hb.size)
                  replace hkb1 := blk_ext hkb1 hC
                  replace hkb2 := blk_ext hkb2 hC
                  replace hk6 := blk_ext hk6 hC
                  replace hk7 := blk_ext hk7 hC
                  replace hk10 := blk_ext hk10 hC
                  replace hrpl := Row.ext hrpl hC
                  replace hrrk := Row.ext hrrk hC
                  replace hrN := Row.ext hrN hC
                  refine ⟨true, false, congrArg some h13, fun hact => ?_, fun hact => ?_⟩
                  · exact Runs.does (Runs.veq (r_sne (congrArg some h15) (congrArg some h17)) (congrArg Value.bool (show _ = false from (by simp [hWd])))) ⟨Below.refl _ _, rfl, nofr rfl⟩
                  · exfalso; simp at hact
                refine ⟨fun wu19 hC hd => ?_, ?_⟩
                · obtain ⟨h13, h18, _⟩ := hd
                  skip
                  skip
                  replace h13 : V 13 = (.bool false) := h13
                  replace h18 : V 18 = (.bool false) := h18
                  replace hb := hb.trans (hC.mono hb.size)
                  replace hkb1 := blk_ext hkb1 hC
                  replace hkb2 := blk_ext hkb2 hC
                  replace hk6 := blk_ext hk6 hC
                  replace hk7 := blk_ext hk7 hC
                  replace hk10 := blk_ext hk10 hC
                  replace hrpl := Row.ext hrpl hC
                  replace hrrk := Row.ext hrrk hC
                  replace hrN := Row.ext hrN hC
                  exact Runs.does (r_pick (b := false) (congrArg some h13) rfl (congrArg some h18) rfl) ⟨Below.refl _ _, rfl, nofr rfl⟩
                refine ⟨fun wu20 hC hd => ?_, ?_⟩
                · obtain ⟨h13, h19, _⟩ := hd
                  skip
                  skip
                  replace h13 : V 13 = (.bool false) := h13
                  replace h19 : V 19 = (.bool false) := h19
                  replace hb := hb.trans (hC.mono hb.size)
                  replace hkb1 := blk_ext hkb1 hC
                  replace hkb2 := blk_ext hkb2 hC
                  replace hk6 := blk_ext hk6 hC
                  replace hk7 := blk_ext hk7 hC
                  replace hk10 := blk_ext hk10 hC
                  replace hrpl := Row.ext hrpl hC
                  replace hrrk := Row.ext hrrk hC
                  replace hrN := Row.ext hrN hC
                  exact Runs.does (r_move (congrArg some h19)) ⟨Below.refl _ _, rfl, nofr rfl⟩
                refine ⟨fun wu21 hC hd => ?_, ?_⟩
                · obtain ⟨h20, _⟩ := hd
                  skip
                  replace h20 : V 20 = (.bool false) := h20
                  replace hb := hb.trans (hC.mono hb.size)
                  replace hkb1 := blk_ext hkb1 hC
                  replace hkb2 := blk_ext hkb2 hC
                  replace hk6 := blk_ext hk6 hC
                  replace hk7 := blk_ext hk7 hC
                  replace hk10 := blk_ext hk10 hC
                  replace hrpl := Row.ext hrpl hC
                  replace hrrk := Row.ext hrrk hC
                  replace hrN := Row.ext hrN hC
                  refine ⟨true, false, congrArg some h20, fun hact => ?_, fun hact => ?_⟩
                  · exact Runs.does (r_fa rfl Try.underlying80 (f := 4) (q := 5) rfl (by kernel_rfl) rfl) ⟨Below.refl _ _, rfl, nofr rfl⟩
                  · exfalso; simp at hact
                refine ⟨fun wu22 hC hd => ?_, ?_⟩
                · obtain ⟨h20, h21, _⟩ := hd
                  skip
                  skip
                  replace h20 : V 20 = (.bool false) := h20
                  replace h21 : V 21 = (.pointer (some ⟨b3, 5, none⟩)) := h21
                  replace hb := hb.trans (hC.mono hb.size)
                  replace hkb1 := blk_ext hkb1 hC
                  replace hkb2 := blk_ext hkb2 hC
                  replace hk6 := blk_ext hk6 hC
                  replace hk7 := blk_ext hk7 hC
                  replace hk10 := blk_ext hk10 hC
                  replace hrpl := Row.ext hrpl hC
                  replace hrrk := Row.ext hrrk hC
                  replace hrN := Row.ext hrN hC
                  refine ⟨true, false, congrArg some h20, fun hact => ?_, fun hact => ?_⟩
                  · exact Runs.does (r_loadA (cs := [(.int .u32 W.2.2.2.2.1.1), (.int .u32 W.2.2.2.2.1.2.1), (.bool W.2.2.2.2.1.2.2.1)]) (congrArg some h21) Try.underlying76 rfl (by kernel_rfl) (cellsAt_part (d := 5) (n := 3) (cellsAt_blk hk6) rfl rfl)) ⟨Below.refl _ _, rfl, nofr rfl⟩
                  · exfalso; simp at hact
                refine ⟨fun wu23 hC hd => ?_, ?_⟩
                · obtain ⟨h20, _⟩ := hd
                  skip
                  replace h20 : V 20 = (.bool false) := h20
                  replace hb := hb.trans (hC.mono hb.size)
                  replace hkb1 := blk_ext hkb1 hC
                  replace hkb2 := blk_ext hkb2 hC
                  replace hk6 := blk_ext hk6 hC
                  replace hk7 := blk_ext hk7 hC
                  replace hk10 := blk_ext hk10 hC
                  replace hrpl := Row.ext hrpl hC
                  replace hrrk := Row.ext hrrk hC
                  replace hrN := Row.ext hrN hC
                  refine ⟨true, false, congrArg some h20, fun hact => ?_, fun hact => ?_⟩
                  · exact Runs.does (r_fa rfl Try.underlying103 (f := 4) (q := 4) rfl (by kernel_rfl) rfl) ⟨Below.refl _ _, rfl, nofr rfl⟩
                  · exfalso; simp at hact
                refine ⟨fun wu24 hC hd => ?_, ?_⟩
                · obtain ⟨h20, h23, _⟩ := hd
                  skip
                  skip
                  replace h20 : V 20 = (.bool false) := h20
                  replace h23 : V 23 = (.pointer (some ⟨b4, 4, none⟩)) := h23
                  replace hb := hb.trans (hC.mono hb.size)
                  replace hkb1 := blk_ext hkb1 hC
                  replace hkb2 := blk_ext hkb2 hC
                  replace hk6 := blk_ext hk6 hC
                  replace hk7 := blk_ext hk7 hC
                  replace hk10 := blk_ext hk10 hC
                  replace hrpl := Row.ext hrpl hC
                  replace hrrk := Row.ext hrrk hC
                  replace hrN := Row.ext hrN hC
                  refine ⟨true, false, congrArg some h20, fun hact => ?_, fun hact => ?_⟩
                  · exact Runs.does (r_loadA (cs := [(.int .u32 y.2.2.2.2.1.1), (.int .u32 y.2.2.2.2.1.2.1), (.bool y.2.2.2.2.1.2.2.1)]) (congrArg some h23) Try.underlying76 rfl (by kernel_rfl) (cellsAt_part (d := 4) (n := 3) (cellsAt_blk hk7) rfl rfl)) ⟨Below.refl _ _, rfl, nofr rfl⟩
                  · exfalso; simp at hact
                refine ⟨fun wu25 hC hd => ?_, ?_⟩
                · obtain ⟨h20, h22, h24, _⟩ := hd
                  skip
                  skip
                  skip
                  replace h20 : V 20 = (.bool false) := h20
                  replace h22 : V 22 = (.agg #[(.int .u32 W.2.2.2.2.1.1), (.int .u32 W.2.2.2.2.1.2.1), (.bool W.2.2.2.2.1.2.2.1)]) := h22
                  replace h24 : V 24 = (.agg #[(.int .u32 y.2.2.2.2.1.1), (.int .u32 y.2.2.2.2.1.2.1), (.bool y.2.2.2.2.1.2.2.1)]) := h24
                  replace hb := hb.trans (hC.mono hb.size)
                  replace hkb1 := blk_ext hkb1 hC
                  replace hkb2 := blk_ext hkb2 hC
                  replace hk6 := blk_ext hk6 hC
                  replace hk7 := blk_ext hk7 hC
                  replace hk10 := blk_ext hk10 hC
                  replace hrpl := Row.ext hrpl hC
                  replace hrrk := Row.ext hrrk hC
                  replace hrN := Row.ext hrN hC
                  refine ⟨true, false, congrArg some h20, fun hact => ?_, fun hact => ?_⟩
                  · exact Runs.does (Runs.veq (r_ane (k := 5) (congrArg some h22) (congrArg some h24) (by kernel_rfl) (eqt_struct (xs := #[(.int .u32 W.2.2.2.2.1.1), (.int .u32 W.2.2.2.2.1.2.1), (.bool W.2.2.2.2.1.2.2.1)]) (ys := #[(.int .u32 y.2.2.2.2.1.1), (.int .u32 y.2.2.2.2.1.2.1), (.bool y.2.2.2.2.1.2.2.1)]) Try.underlying76 (by kernel_rfl) (eqf_cons (by kernel_rfl) (fun _ => by kernel_rfl) (fun _ => by kernel_rfl) (eqt_int (kk := .u32) (a := W.2.2.2.2.1.1) (b := y.2.2.2.2.1.1) Try.underlying44) (eqf_cons (by kernel_rfl) (fun _ => by kernel_rfl) (fun _ => by kernel_rfl) (eqt_int (kk := .u32) (a := W.2.2.2.2.1.2.1) (b := y.2.2.2.2.1.2.1) Try.underlying44) (eqf_one (by kernel_rfl) (fun _ => by kernel_rfl) (fun _ => by kernel_rfl) (eqt_bool (a := W.2.2.2.2.1.2.2.1) (b := y.2.2.2.2.1.2.2.1) Try.underlying4))))) rfl) (congrArg Value.bool (show _ = false from (by simp [hWd])))) ⟨Below.refl _ _, rfl, nofr rfl⟩
                  · exfalso; simp at hact
                refine ⟨fun wu26 hC hd => ?_, ?_⟩
                · obtain ⟨h20, h25, _⟩ := hd
                  skip
                  skip
                  replace h20 : V 20 = (.bool false) := h20
                  replace h25 : V 25 = (.bool false) := h25
                  replace hb := hb.trans (hC.mono hb.size)
                  replace hkb1 := blk_ext hkb1 hC
                  replace hkb2 := blk_ext hkb2 hC
                  replace hk6 := blk_ext hk6 hC
                  replace hk7 := blk_ext hk7 hC
                  replace hk10 := blk_ext hk10 hC
                  replace hrpl := Row.ext hrpl hC
                  replace hrrk := Row.ext hrrk hC
                  replace hrN := Row.ext hrN hC
                  exact Runs.does (r_pick (b := false) (congrArg some h20) rfl (congrArg some h25) rfl) ⟨Below.refl _ _, rfl, nofr rfl⟩
                refine ⟨fun wu27 hC hd => ?_, ?_⟩
                · obtain ⟨h20, h26, _⟩ := hd
                  skip
                  skip
                  replace h20 : V 20 = (.bool false) := h20
                  replace h26 : V 26 = (.bool false) := h26
                  replace hb := hb.trans (hC.mono hb.size)
                  replace hkb1 := blk_ext hkb1 hC
                  replace hkb2 := blk_ext hkb2 hC
                  replace hk6 := blk_ext hk6 hC
                  replace hk7 := blk_ext hk7 hC
                  replace hk10 := blk_ext hk10 hC
                  replace hrpl := Row.ext hrpl hC
                  replace hrrk := Row.ext hrrk hC
                  replace hrN := Row.ext hrN hC
                  exact Runs.does (r_move (congrArg some h26)) ⟨Below.refl _ _, rfl, nofr rfl⟩
                refine ⟨fun wu28 hC hd => ?_, ?_⟩
                · obtain ⟨h27, _⟩ := hd
                  skip
                  replace h27 : V 27 = (.bool false) := h27
                  replace hb := hb.trans (hC.mono hb.size)
                  replace hkb1 := blk_ext hkb1 hC
                  replace hkb2 := blk_ext hkb2 hC
                  replace hk6 := blk_ext hk6 hC
                  replace hk7 := blk_ext hk7 hC
                  replace hk10 := blk_ext hk10 hC
                  replace hrpl := Row.ext hrpl hC
                  replace hrrk := Row.ext hrrk hC
                  replace hrN := Row.ext hrN hC
                  refine ⟨true, false, congrArg some h27, fun hact => ?_, fun hact => ?_⟩
                  · exact Runs.does (r_fa rfl Try.underlying80 (f := 3) (q := 3) rfl (by kernel_rfl) rfl) ⟨Below.refl _ _, rfl, nofr rfl⟩
                  · exfalso; simp at hact
                refine ⟨fun wu29 hC hd => ?_, ?_⟩
                · obtain ⟨h27, h28, _⟩ := hd
                  skip
                  skip
                  replace h27 : V 27 = (.bool false) := h27
                  replace h28 : V 28 = (.pointer (some ⟨b3, 3, none⟩)) := h28
                  replace hb := hb.trans (hC.mono hb.size)
                  replace hkb1 := blk_ext hkb1 hC
                  replace hkb2 := blk_ext hkb2 hC
                  replace hk6 := blk_ext hk6 hC
                  replace hk7 := blk_ext hk7 hC
                  replace hk10 := blk_ext hk10 hC
                  replace hrpl := Row.ext hrpl hC
                  replace hrrk := Row.ext hrrk hC
                  replace hrN := Row.ext hrN hC
                  refine ⟨true, false, congrArg some h27, fun hact => ?_, fun hact => ?_⟩
                  · exact Runs.does (r_loadA (cs := [(.string W.2.2.2.1.1), (.string W.2.2.2.1.2.1)]) (congrArg some h28) Try.underlying78 rfl (by kernel_rfl) (cellsAt_part (d := 3) (n := 2) (cellsAt_blk hk6) rfl rfl)) ⟨Below.refl _ _, rfl, nofr rfl⟩
                  · exfalso; simp at hact
                refine ⟨fun wu30 hC hd => ?_, ?_⟩
                · obtain ⟨h27, _⟩ := hd
                  skip
                  replace h27 : V 27 = (.bool false) := h27
                  replace hb := hb.trans (hC.mono hb.size)
                  replace hkb1 := blk_ext hkb1 hC
                  replace hkb2 := blk_ext hkb2 hC
                  replace hk6 := blk_ext hk6 hC
                  replace hk7 := blk_ext hk7 hC
                  replace hk10 := blk_ext hk10 hC
                  replace hrpl := Row.ext hrpl hC
                  replace hrrk := Row.ext hrrk hC
                  replace hrN := Row.ext hrN hC
                  refine ⟨true, false, congrArg some h27, fun hact => ?_, fun hact => ?_⟩
                  · exact Runs.does (r_loadA (cs := [(.string (m.1.list.getD (y.2.2.2.1).toNat zMFt).1), (.string (m.1.list.getD (y.2.2.2.1).toNat zMFt).2.1)]) rfl Try.underlying78 rfl (by kernel_rfl) (cellsAt_blk hk10)) ⟨Below.refl _ _, rfl, nofr rfl⟩
                  · exfalso; simp at hact
                refine ⟨fun wu31 hC hd => ?_, ?_⟩
                · obtain ⟨h27, h29, h30, _⟩ := hd
                  skip
                  skip
                  skip
                  replace h27 : V 27 = (.bool false) := h27
                  replace h29 : V 29 = (.agg #[(.string W.2.2.2.1.1), (.string W.2.2.2.1.2.1)]) := h29
                  replace h30 : V 30 = (.agg #[(.string (m.1.list.getD (y.2.2.2.1).toNat zMFt).1), (.string (m.1.list.getD (y.2.2.2.1).toNat zMFt).2.1)]) := h30
                  replace hb := hb.trans (hC.mono hb.size)
                  replace hkb1 := blk_ext hkb1 hC
                  replace hkb2 := blk_ext hkb2 hC
                  replace hk6 := blk_ext hk6 hC
                  replace hk7 := blk_ext hk7 hC
                  replace hk10 := blk_ext hk10 hC
                  replace hrpl := Row.ext hrpl hC
                  replace hrrk := Row.ext hrrk hC
                  replace hrN := Row.ext hrN hC
                  refine ⟨true, false, congrArg some h27, fun hact => ?_, fun hact => ?_⟩
                  · exact Runs.does (Runs.veq (r_ane (k := 5) (congrArg some h29) (congrArg some h30) (by kernel_rfl) (eqt_struct (xs := #[(.string W.2.2.2.1.1), (.string W.2.2.2.1.2.1)]) (ys := #[(.string (m.1.list.getD (y.2.2.2.1).toNat zMFt).1), (.string (m.1.list.getD (y.2.2.2.1).toNat zMFt).2.1)]) Try.underlying78 (by kernel_rfl) (eqf_cons (by kernel_rfl) (fun _ => by kernel_rfl) (fun _ => by kernel_rfl) (eqt_str (a := W.2.2.2.1.1) (b := (m.1.list.getD (y.2.2.2.1).toNat zMFt).1) Try.underlying9) (eqf_one (by kernel_rfl) (fun _ => by kernel_rfl) (fun _ => by kernel_rfl) (eqt_str (a := W.2.2.2.1.2.1) (b := (m.1.list.getD (y.2.2.2.1).toNat zMFt).2.1) Try.underlying9)))) rfl) (congrArg Value.bool (show _ = false from (by have h := hqt91_1; simp [hWd, typW, hkn0, h])))) ⟨Below.refl _ _, rfl, nofr rfl⟩
                  · exfalso; simp at hact
                refine ⟨fun wu32 hC hd => ?_, ?_⟩
                · obtain ⟨h27, h31, _⟩ := hd
                  skip
                  skip
                  replace h27 : V 27 = (.bool false) := h27
                  replace h31 : V 31 = (.bool false) := h31
                  replace hb := hb.trans (hC.mono hb.size)
                  replace hkb1 := blk_ext hkb1 hC
                  replace hkb2 := blk_ext hkb2 hC
                  replace hk6 := blk_ext hk6 hC
                  replace hk7 := blk_ext hk7 hC
                  replace hk10 := blk_ext hk10 hC
                  replace hrpl := Row.ext hrpl hC
                  replace hrrk := Row.ext hrrk hC
                  replace hrN := Row.ext hrN hC
                  exact Runs.does (r_pick (b := false) (congrArg some h27) rfl (congrArg some h31) rfl) ⟨Below.refl _ _, rfl, nofr rfl⟩
                trivial
              · skip
                clear hf fa; intro V w14 fa he9 hp hnb hf
                have hv0 : V 0 = (.pointer (some ⟨b3, 0, none⟩)) := postsHold_at hp 0 rfl
                have hv1 : V 1 = (.int .i64 W.1) := postsHold_at hp 1 rfl
                have hv2 : V 2 = (.int .i64 ((k : Nat) : Int)) := postsHold_at hp 2 rfl
                have hv3 : V 3 = (.bool false) := postsHold_at hp 3 rfl
                have hv4 : V 4 = (.bool false) := postsHold_at hp 4 rfl
                have hv5 : V 5 = (.pointer (some ⟨b3, 1, none⟩)) := postsHold_at hp 5 rfl
                have hv6 : V 6 = (.int .i64 W.2.1) := postsHold_at hp 6 rfl
                have hv7 : V 7 = (.slice (some ⟨rb2, 0, none⟩) rp.1.length rkc) := postsHold_at hp 7 rfl
                have hv8 : V 8 = (.int .i64 ((k : Nat) : Int)) := postsHold_at hp 8 rfl
                have hv9 : V 9 = (.pointer (some ⟨rb2, (0 + k * 1), none⟩)) := postsHold_at hp 9 rfl
                have hv10 : V 10 = (.int .i64 kn) := postsHold_at hp 10 rfl
                have hv11 : V 11 = (.bool false) := postsHold_at hp 11 rfl
                have hv12 : V 12 = (.bool false) := postsHold_at hp 12 rfl
                have hv13 : V 13 = (.bool false) := postsHold_at hp 13 rfl
                have hv14 : V 14 = (.pointer (some ⟨b3, 2, none⟩)) := postsHold_at hp 14 rfl
                have hv15 : V 15 = (.string W.2.2.1) := postsHold_at hp 15 rfl
                have hv16 : V 16 = (.pointer (some ⟨b4, 1, none⟩)) := postsHold_at hp 16 rfl
                have hv17 : V 17 = (.string y.2.1) := postsHold_at hp 17 rfl
                have hv18 : V 18 = (.bool false) := postsHold_at hp 18 rfl
                have hv19 : V 19 = (.bool false) := postsHold_at hp 19 rfl
                have hv20 : V 20 = (.bool false) := postsHold_at hp 20 rfl
                have hv21 : V 21 = (.pointer (some ⟨b3, 5, none⟩)) := postsHold_at hp 21 rfl
                have hv22 : V 22 = (.agg #[(.int .u32 W.2.2.2.2.1.1), (.int .u32 W.2.2.2.2.1.2.1), (.bool W.2.2.2.2.1.2.2.1)]) := postsHold_at hp 22 rfl
                have hv23 : V 23 = (.pointer (some ⟨b4, 4, none⟩)) := postsHold_at hp 23 rfl
                have hv24 : V 24 = (.agg #[(.int .u32 y.2.2.2.2.1.1), (.int .u32 y.2.2.2.2.1.2.1), (.bool y.2.2.2.2.1.2.2.1)]) := postsHold_at hp 24 rfl
                have hv25 : V 25 = (.bool false) := postsHold_at hp 25 rfl
                have hv26 : V 26 = (.bool false) := postsHold_at hp 26 rfl
                have hv27 : V 27 = (.bool false) := postsHold_at hp 27 rfl
                have hv28 : V 28 = (.pointer (some ⟨b3, 3, none⟩)) := postsHold_at hp 28 rfl
                have hv29 : V 29 = (.agg #[(.string W.2.2.2.1.1), (.string W.2.2.2.1.2.1)]) := postsHold_at hp 29 rfl
                have hv30 : V 30 = (.agg #[(.string (m.1.list.getD (y.2.2.2.1).toNat zMFt).1), (.string (m.1.list.getD (y.2.2.2.1).toNat zMFt).2.1)]) := postsHold_at hp 30 rfl
                have hv31 : V 31 = (.bool false) := postsHold_at hp 31 rfl
                have hv32 : V 32 = (.bool false) := postsHold_at hp 32 rfl
                simp only [List.take_succ_cons, List.take_zero, insAll, ins, hv0, hv1, hv2, hv3, hv4, hv5, hv6, hv7, hv8, hv9, hv10, hv11, hv12, hv13, hv14, hv15, hv16, hv17, hv18, hv19, hv20, hv21, hv22, hv23, hv24, hv25, hv26, hv27, hv28, hv29, hv30, hv31, hv32] at hf
                clear hp hnb hv0 hv1 hv2 hv3 hv4 hv5 hv6 hv7 hv8 hv9 hv10 hv11 hv12 hv13 hv14 hv15 hv16 hv17 hv18 hv19 hv20 hv21 hv22 hv23 hv24 hv25 hv26 hv27 hv28 hv29 hv30 hv31 hv32
                replace hkb1 := blk_ext hkb1 he9
                replace hkb2 := blk_ext hkb2 he9
                replace hk6 := blk_ext hk6 he9
                replace hk7 := blk_ext hk7 he9
                replace hk10 := blk_ext hk10 he9
                replace hrpl := Row.ext hrpl he9
                replace hrrk := Row.ext hrrk he9
                replace hrN := Row.ext hrN he9
                replace hb := hb.trans (Below.mono he9 hb.size)
                (try simp only [Exit.then, Exit.inBlock, ↓reduceIte, Nat.reduceEqDiff])
                refine hK28 _ _ ?_
                refine wp_cond_false (hf.ev rfl) ?_
                refine wp_skip ?_
                (try simp only [Exit.then, Exit.inBlock, ↓reduceIte, Nat.reduceEqDiff])
                refine hK27 _ _ ?_
                refine wp_seq_k (fun K29 hK29 => ?_)
                refine wp_seq_k (fun K30 hK30 => ?_)
                refine wp_region_lit ?_
                refine sqv hf (r_move rfl) rfl rfl rfl ?_; clear hf fa; intro fa hf
                refine sqv hf (r_move rfl) rfl rfl rfl ?_; clear hf fa; intro fa hf
                have hy6 : (rp.1)[k]? = some kn := hkn
                have hel6 := RdS.at (Row.rd (by intros; rfl) hrrk) hy6
                obtain ⟨_, _, hab, hlr4, hel6⟩ := hel6
                cases hab
                refine sqv hf (r_ixa (sz := 1) (j := k) rfl rfl Try.underlying28 (by kernel_rfl) rfl (by omega) rfl) rfl rfl rfl ?_; clear hf fa; intro fa hf
                refine sqv hf (r_load (v := (.int .i64 kn)) rfl Try.underlying3 rfl (cellsAt_cell hel6 (i := 0) rfl rfl)) rfl rfl rfl ?_; clear hf fa; intro fa hf
                refine sqv hf (r_eq rfl rfl) rfl rfl rfl ?_; clear hf fa; intro fa hf
                apply wpList_nil
                (try simp only [Exit.then, Exit.inBlock, ↓reduceIte, Nat.reduceEqDiff])
                refine hK30 _ _ ?_
                refine wp_cond_split (t := (decide (kn = (5 : Int)))) (hf.ev rfl) (fun hqt135_1 => ?_) (fun hqt135_1 => ?_)
                · have hqt135_1b := hqt135_1
                  try simp only [decide_eq_true_eq, Bool.and_eq_true, Bool.or_eq_true, Bool.not_eq_true', decide_eq_false_iff_not, ne_eq, Bool.not_eq_true] at hqt135_1
                  refine wp_region_lit ?_
                  refine sqv hf (r_move rfl) rfl rfl rfl ?_; clear hf fa; intro fa hf
                  refine sqv hf (r_add (C := ((((cntK m 5 (m.2.1.list.take k)).length : Nat) : Int) + (1 : Int))) rfl rfl (by rw [IntKind.wrap_i64]; omega)) rfl rfl rfl ?_; clear hf fa; intro fa hf
                  refine sqv hf (r_assign rfl) rfl rfl rfl ?_; clear hf fa; intro fa hf
                  apply wpList_nil
                  (try simp only [Exit.then, Exit.inBlock, ↓reduceIte, Nat.reduceEqDiff])
                  refine hK29 _ _ ?_
                  refine wp_seq_k (fun K31 hK31 => ?_)
                  refine wp_region_lit ?_
                  refine sqv hf (r_move rfl) rfl rfl rfl ?_; clear hf fa; intro fa hf
                  refine sqv hf (r_move rfl) rfl rfl rfl ?_; clear hf fa; intro fa hf
                  have hy7 : (rp.1)[k]? = some kn := hkn
                  have hel7 := RdS.at (Row.rd (by intros; rfl) hrrk) hy7
                  obtain ⟨_, _, hab, hlr5, hel7⟩ := hel7
                  cases hab
                  refine sqv hf (r_ixa (sz := 1) (j := k) rfl rfl Try.underlying28 (by kernel_rfl) rfl (by omega) rfl) rfl rfl rfl ?_; clear hf fa; intro fa hf
                  refine sqv hf (r_load (v := (.int .i64 kn)) rfl Try.underlying3 rfl (cellsAt_cell hel7 (i := 0) rfl rfl)) rfl rfl rfl ?_; clear hf fa; intro fa hf
                  refine sqv hf (r_move rfl) rfl rfl rfl ?_; clear hf fa; intro fa hf
                  refine sqv hf (r_eq rfl rfl) rfl rfl rfl ?_; clear hf fa; intro fa hf
                  apply wpList_nil
                  (try simp only [Exit.then, Exit.inBlock, ↓reduceIte, Nat.reduceEqDiff])
                  refine hK31 _ _ ?_
                  refine wp_cond_split (t := (decide (kn = kd))) (hf.ev rfl) (fun hqt143_1 => ?_) (fun hqt143_1 => ?_)
                  · have hqt143_1b := hqt143_1
                    try simp only [decide_eq_true_eq, Bool.and_eq_true, Bool.or_eq_true, Bool.not_eq_true', decide_eq_false_iff_not, ne_eq, Bool.not_eq_true] at hqt143_1
                    refine wp_region_lit ?_
                    refine sqv hf (r_move rfl) rfl rfl rfl ?_; clear hf fa; intro fa hf
                    refine sqv hf (r_fa rfl Try.underlying103 (f := 1) (q := 1) rfl (by kernel_rfl) rfl) rfl rfl rfl ?_; clear hf fa; intro fa hf
                    refine sqv hf (r_load (v := (.string y.2.1)) rfl Try.underlying9 rfl (cell_blk hk7 rfl)) rfl rfl rfl ?_; clear hf fa; intro fa hf
                    refine sqdt hf (d_bslice (z := (.string ⟨#[]⟩)) (sz := 1) (vs := [(0, (.string y.2.1))]) (cs := #[(.string y.2.1)]) rfl Try.underlying54 (by kernel_rfl) rfl (by kernel_rfl)) rfl rfl rfl ?_; clear hf fa; rintro fa _ w15 ⟨b6, rfl, hle6, hk11, he10⟩ hf
                    have hBb6 : w.heap.size ≤ b6 := Nat.le_trans hb.size hle6
                    have : b1 < b6 := Nat.lt_of_lt_of_le (blk_lt hkb1) hle6
                    have : b2 < b6 := Nat.lt_of_lt_of_le (blk_lt hkb2) hle6
                    have : b3 < b6 := Nat.lt_of_lt_of_le (blk_lt hk6) hle6
                    have : b4 < b6 := Nat.lt_of_lt_of_le (blk_lt hk7) hle6
                    have : b5 < b6 := Nat.lt_of_lt_of_le (blk_lt hk10) hle6
                    have : rb2 < b6 := Nat.lt_of_lt_of_le (Row.lt hrrk _ rfl).2 hle6
                    have hnr1 : (Value.slice rNa ((((namK m kd (m.2.1.list.take k))).length)) rNc).ownBlock ≠ some b6 := fun hq => by have := (Row.lt hrN _ hq).2; omega
                    replace hkb1 := blk_ext hkb1 he10
                    replace hkb2 := blk_ext hkb2 he10
                    replace hk6 := blk_ext hk6 he10
                    replace hk7 := blk_ext hk7 he10
                    replace hk10 := blk_ext hk10 he10
                    replace hrpl := Row.ext hrpl he10
                    replace hrrk := Row.ext hrrk he10
                    replace hrN := Row.ext hrN he10
                    replace hb := hb.trans (Below.mono he10 hb.size)
                    have hs1 := Row.rd (by intros; rfl) (Row.of_new (k := 1) (V := vStr) (l := [y.2.1]) hk11 (Nat.le_refl _) rfl rfl (Nat.le_of_ble_eq_true rfl))
                    refine sqdt hf (d_append (V := vStr) (k := 1) (e := 9) (bytes := 16) (z := (.string ⟨#[]⟩)) (news := [y.2.1]) (base := w.heap.size) (by intros; rfl) (by intro x u hu; simp only [vStr, List.mem_singleton] at hu; subst hu; rfl) rfl rfl Try.underlying54 (by kernel_rfl) rfl rfl rfl hrN hs1 rfl (fun h => by cases h) (by first | omega | (simp only [List.length_cons, List.length_nil, List.length_append]; omega)) (by have := hb.size; omega)) rfl rfl rfl ?_; clear hf fa; rintro fa v w16 ⟨hr3, hg5⟩ hf; obtain ⟨ra1, rc1, rfl, hcrc1, hmrc1⟩ := Row.slice hr3
                    replace hkb1 := blk_row' hkb1 hg5 (Row.ne_type hrN hkb1 rfl)
                    replace hkb2 := blk_row' hkb2 hg5 (Row.ne_type hrN hkb2 rfl)
                    replace hk6 := blk_row' hk6 hg5 (Row.ne_type hrN hk6 rfl)
                    replace hk7 := blk_row' hk7 hg5 (Row.ne_type hrN hk7 rfl)
                    replace hk10 := blk_row' hk10 hg5 (Row.ne_type hrN hk10 rfl)
                    replace hrpl := Row.grown' hrpl hg5 (Row.ne_row hrpl hrN rfl)
                    replace hrrk := Row.grown' hrrk hg5 (Row.ne_row hrrk hrN rfl)
                    replace hb := hb.trans (row_below hrN hg5 hb.size (by have := hb.size; omega))
                    refine sqv hf (r_assign rfl) rfl rfl rfl ?_; clear hf fa; intro fa hf
                    apply wpList_nil
                    (try simp only [Exit.then, Exit.inBlock, ↓reduceIte, Nat.reduceEqDiff])
                    refine hK22 _ _ ?_
                    refine wp_region_lit ?_
                    refine sqv hf (r_move rfl) rfl rfl rfl ?_; clear hf fa; intro fa hf
                    refine sqv hf (r_add (C := (((k : Nat) : Int) + (1 : Int))) rfl rfl (by rw [IntKind.wrap_i64]; omega)) rfl rfl rfl ?_; clear hf fa; intro fa hf
                    refine sqv hf (r_assign rfl) rfl rfl rfl ?_; clear hf fa; intro fa hf
                    apply wpList_nil
                    (try simp only [Exit.then, Exit.inBlock, ↓reduceIte, Nat.reduceEqDiff])
                    have hc5 := congrArg List.length (cntK_yes (kd := 5) hy (by rw [hkn0]; exact hqt135_1))
                    have hnl := congrArg List.length (namK_yes (kd := kd) hy (by rw [hkn0]; exact hqt143_1))
                    (try simp only [List.length_append, List.length_cons, List.length_nil] at hc5); (try simp only [List.length_append, List.length_cons, List.length_nil] at hnl)
                    refine hKL1 _ _ _ (by omega) ⟨(k + 1), ra1, rc1, rfl, hf.sub ⟨rfl, rfl, rfl, rfl, (some_int (by first | rfl | omega)), (some_int (by first | rfl | omega)), (some_sl (by first | omega | (simp only [List.length_append, List.length_cons, List.length_nil]; omega) | (simp <;> omega)) rfl), trivial⟩, hb, hrpl, hrrk, (rowToK hr3 (namK_yes (kd := kd) hy (by rw [hkn0]; exact hqt143_1))), hkb1, hkb2, by omega⟩
                  · have hqt143_1b := hqt143_1
                    replace hqt143_1 := Bool.eq_false_iff.1 hqt143_1
                    try simp only [ne_eq, decide_eq_true_eq, Bool.and_eq_true, Bool.or_eq_true, Bool.not_eq_true', decide_eq_false_iff_not] at hqt143_1
                    refine wp_skip ?_
                    (try simp only [Exit.then, Exit.inBlock, ↓reduceIte, Nat.reduceEqDiff])
                    refine hK22 _ _ ?_
                    refine wp_region_lit ?_
                    refine sqv hf (r_move rfl) rfl rfl rfl ?_; clear hf fa; intro fa hf
                    refine sqv hf (r_add (C := (((k : Nat) : Int) + (1 : Int))) rfl rfl (by rw [IntKind.wrap_i64]; omega)) rfl rfl rfl ?_; clear hf fa; intro fa hf
                    refine sqv hf (r_assign rfl) rfl rfl rfl ?_; clear hf fa; intro fa hf
                    apply wpList_nil
                    (try simp only [Exit.then, Exit.inBlock, ↓reduceIte, Nat.reduceEqDiff])
                    have hc5 := congrArg List.length (cntK_yes (kd := 5) hy (by rw [hkn0]; exact hqt135_1))
                    have hnl := congrArg List.length (namK_no (kd := kd) hy (by rw [hkn0]; exact hqt143_1))
                    (try simp only [List.length_append, List.length_cons, List.length_nil] at hc5); (try simp only [List.length_append, List.length_cons, List.length_nil] at hnl)
                    refine hKL1 _ _ _ (by omega) ⟨(k + 1), rNa, rNc, rfl, hf.sub ⟨rfl, rfl, rfl, rfl, (some_int (by first | rfl | omega)), (some_int (by first | rfl | omega)), (some_sl (by first | omega | (simp only [List.length_append, List.length_cons, List.length_nil]; omega) | (simp <;> omega)) rfl), trivial⟩, hb, hrpl, hrrk, (rowToK hrN (namK_no (kd := kd) hy (by rw [hkn0]; exact hqt143_1))), hkb1, hkb2, by omega⟩
                · have hqt135_1b := hqt135_1
                  replace hqt135_1 := Bool.eq_false_iff.1 hqt135_1
                  try simp only [ne_eq, decide_eq_true_eq, Bool.and_eq_true, Bool.or_eq_true, Bool.not_eq_true', decide_eq_false_iff_not] at hqt135_1
                  refine wp_skip ?_
                  (try simp only [Exit.then, Exit.inBlock, ↓reduceIte, Nat.reduceEqDiff])
                  refine hK29 _ _ ?_
                  refine wp_seq_k (fun K32 hK32 => ?_)
                  refine wp_region_lit ?_
                  refine sqv hf (r_move rfl) rfl rfl rfl ?_; clear hf fa; intro fa hf
                  refine sqv hf (r_move rfl) rfl rfl rfl ?_; clear hf fa; intro fa hf
                  have hy8 : (rp.1)[k]? = some kn := hkn
                  have hel8 := RdS.at (Row.rd (by intros; rfl) hrrk) hy8
                  obtain ⟨_, _, hab, hlr6, hel8⟩ := hel8
                  cases hab
                  refine sqv hf (r_ixa (sz := 1) (j := k) rfl rfl Try.underlying28 (by kernel_rfl) rfl (by omega) rfl) rfl rfl rfl ?_; clear hf fa; intro fa hf
                  refine sqv hf (r_load (v := (.int .i64 kn)) rfl Try.underlying3 rfl (cellsAt_cell hel8 (i := 0) rfl rfl)) rfl rfl rfl ?_; clear hf fa; intro fa hf
                  refine sqv hf (r_move rfl) rfl rfl rfl ?_; clear hf fa; intro fa hf
                  refine sqv hf (r_eq rfl rfl) rfl rfl rfl ?_; clear hf fa; intro fa hf
                  apply wpList_nil
                  (try simp only [Exit.then, Exit.inBlock, ↓reduceIte, Nat.reduceEqDiff])
                  refine hK32 _ _ ?_
                  refine wp_cond_split (t := (decide (kn = kd))) (hf.ev rfl) (fun hqt143_2 => ?_) (fun hqt143_2 => ?_)
                  · have hqt143_2b := hqt143_2
                    try simp only [decide_eq_true_eq, Bool.and_eq_true, Bool.or_eq_true, Bool.not_eq_true', decide_eq_false_iff_not, ne_eq, Bool.not_eq_true] at hqt143_2
                    refine wp_region_lit ?_
                    refine sqv hf (r_move rfl) rfl rfl rfl ?_; clear hf fa; intro fa hf
                    refine sqv hf (r_fa rfl Try.underlying103 (f := 1) (q := 1) rfl (by kernel_rfl) rfl) rfl rfl rfl ?_; clear hf fa; intro fa hf
                    refine sqv hf (r_load (v := (.string y.2.1)) rfl Try.underlying9 rfl (cell_blk hk7 rfl)) rfl rfl rfl ?_; clear hf fa; intro fa hf
                    refine sqdt hf (d_bslice (z := (.string ⟨#[]⟩)) (sz := 1) (vs := [(0, (.string y.2.1))]) (cs := #[(.string y.2.1)]) rfl Try.underlying54 (by kernel_rfl) rfl (by kernel_rfl)) rfl rfl rfl ?_; clear hf fa; rintro fa _ w17 ⟨b7, rfl, hle7, hk12, he11⟩ hf
                    have hBb7 : w.heap.size ≤ b7 := Nat.le_trans hb.size hle7
                    have : b1 < b7 := Nat.lt_of_lt_of_le (blk_lt hkb1) hle7
                    have : b2 < b7 := Nat.lt_of_lt_of_le (blk_lt hkb2) hle7
                    have : b3 < b7 := Nat.lt_of_lt_of_le (blk_lt hk6) hle7
                    have : b4 < b7 := Nat.lt_of_lt_of_le (blk_lt hk7) hle7
                    have : b5 < b7 := Nat.lt_of_lt_of_le (blk_lt hk10) hle7
                    have : rb2 < b7 := Nat.lt_of_lt_of_le (Row.lt hrrk _ rfl).2 hle7
                    have hnr2 : (Value.slice rNa ((((namK m kd (m.2.1.list.take k))).length)) rNc).ownBlock ≠ some b7 := fun hq => by have := (Row.lt hrN _ hq).2; omega
                    replace hkb1 := blk_ext hkb1 he11
                    replace hkb2 := blk_ext hkb2 he11
                    replace hk6 := blk_ext hk6 he11
                    replace hk7 := blk_ext hk7 he11
                    replace hk10 := blk_ext hk10 he11
                    replace hrpl := Row.ext hrpl he11
                    replace hrrk := Row.ext hrrk he11
                    replace hrN := Row.ext hrN he11
                    replace hb := hb.trans (Below.mono he11 hb.size)
                    have hs2 := Row.rd (by intros; rfl) (Row.of_new (k := 1) (V := vStr) (l := [y.2.1]) hk12 (Nat.le_refl _) rfl rfl (Nat.le_of_ble_eq_true rfl))
                    refine sqdt hf (d_append (V := vStr) (k := 1) (e := 9) (bytes := 16) (z := (.string ⟨#[]⟩)) (news := [y.2.1]) (base := w.heap.size) (by intros; rfl) (by intro x u hu; simp only [vStr, List.mem_singleton] at hu; subst hu; rfl) rfl rfl Try.underlying54 (by kernel_rfl) rfl rfl rfl hrN hs2 rfl (fun h => by cases h) (by first | omega | (simp only [List.length_cons, List.length_nil, List.length_append]; omega)) (by have := hb.size; omega)) rfl rfl rfl ?_; clear hf fa; rintro fa v w18 ⟨hr4, hg6⟩ hf; obtain ⟨ra2, rc2, rfl, hcrc2, hmrc2⟩ := Row.slice hr4
                    replace hkb1 := blk_row' hkb1 hg6 (Row.ne_type hrN hkb1 rfl)
                    replace hkb2 := blk_row' hkb2 hg6 (Row.ne_type hrN hkb2 rfl)
                    replace hk6 := blk_row' hk6 hg6 (Row.ne_type hrN hk6 rfl)
                    replace hk7 := blk_row' hk7 hg6 (Row.ne_type hrN hk7 rfl)
                    replace hk10 := blk_row' hk10 hg6 (Row.ne_type hrN hk10 rfl)
                    replace hrpl := Row.grown' hrpl hg6 (Row.ne_row hrpl hrN rfl)
                    replace hrrk := Row.grown' hrrk hg6 (Row.ne_row hrrk hrN rfl)
                    replace hb := hb.trans (row_below hrN hg6 hb.size (by have := hb.size; omega))
                    refine sqv hf (r_assign rfl) rfl rfl rfl ?_; clear hf fa; intro fa hf
                    apply wpList_nil
                    (try simp only [Exit.then, Exit.inBlock, ↓reduceIte, Nat.reduceEqDiff])
                    refine hK22 _ _ ?_
                    refine wp_region_lit ?_
                    refine sqv hf (r_move rfl) rfl rfl rfl ?_; clear hf fa; intro fa hf
                    refine sqv hf (r_add (C := (((k : Nat) : Int) + (1 : Int))) rfl rfl (by rw [IntKind.wrap_i64]; omega)) rfl rfl rfl ?_; clear hf fa; intro fa hf
                    refine sqv hf (r_assign rfl) rfl rfl rfl ?_; clear hf fa; intro fa hf
                    apply wpList_nil
                    (try simp only [Exit.then, Exit.inBlock, ↓reduceIte, Nat.reduceEqDiff])
                    have hc5 := congrArg List.length (cntK_no (kd := 5) hy (by rw [hkn0]; exact hqt135_1))
                    have hnl := congrArg List.length (namK_yes (kd := kd) hy (by rw [hkn0]; exact hqt143_2))
                    (try simp only [List.length_append, List.length_cons, List.length_nil] at hc5); (try simp only [List.length_append, List.length_cons, List.length_nil] at hnl)
                    refine hKL1 _ _ _ (by omega) ⟨(k + 1), ra2, rc2, rfl, hf.sub ⟨rfl, rfl, rfl, rfl, (some_int (by first | rfl | omega)), (some_int (by first | rfl | omega)), (some_sl (by first | omega | (simp only [List.length_append, List.length_cons, List.length_nil]; omega) | (simp <;> omega)) rfl), trivial⟩, hb, hrpl, hrrk, (rowToK hr4 (namK_yes (kd := kd) hy (by rw [hkn0]; exact hqt143_2))), hkb1, hkb2, by omega⟩
                  · have hqt143_2b := hqt143_2
                    replace hqt143_2 := Bool.eq_false_iff.1 hqt143_2
                    try simp only [ne_eq, decide_eq_true_eq, Bool.and_eq_true, Bool.or_eq_true, Bool.not_eq_true', decide_eq_false_iff_not] at hqt143_2
                    refine wp_skip ?_
                    (try simp only [Exit.then, Exit.inBlock, ↓reduceIte, Nat.reduceEqDiff])
                    refine hK22 _ _ ?_
                    refine wp_region_lit ?_
                    refine sqv hf (r_move rfl) rfl rfl rfl ?_; clear hf fa; intro fa hf
                    refine sqv hf (r_add (C := (((k : Nat) : Int) + (1 : Int))) rfl rfl (by rw [IntKind.wrap_i64]; omega)) rfl rfl rfl ?_; clear hf fa; intro fa hf
                    refine sqv hf (r_assign rfl) rfl rfl rfl ?_; clear hf fa; intro fa hf
                    apply wpList_nil
                    (try simp only [Exit.then, Exit.inBlock, ↓reduceIte, Nat.reduceEqDiff])
                    have hc5 := congrArg List.length (cntK_no (kd := 5) hy (by rw [hkn0]; exact hqt135_1))
                    have hnl := congrArg List.length (namK_no (kd := kd) hy (by rw [hkn0]; exact hqt143_2))
                    (try simp only [List.length_append, List.length_cons, List.length_nil] at hc5); (try simp only [List.length_append, List.length_cons, List.length_nil] at hnl)
                    refine hKL1 _ _ _ (by omega) ⟨(k + 1), rNa, rNc, rfl, hf.sub ⟨rfl, rfl, rfl, rfl, (some_int (by first | rfl | omega)), (some_int (by first | rfl | omega)), (some_sl (by first | omega | (simp only [List.length_append, List.length_cons, List.length_nil]; omega) | (simp <;> omega)) rfl), trivial⟩, hb, hrpl, hrrk, (rowToK hrN (namK_no (kd := kd) hy (by rw [hkn0]; exact hqt143_2))), hkb1, hkb2, by omega⟩
            · have hqt91_1b := hqt91_1
              replace hqt91_1 := Bool.eq_false_iff.1 hqt91_1
              try simp only [ne_eq, decide_eq_true_eq, Bool.and_eq_true, Bool.or_eq_true, Bool.not_eq_true', decide_eq_false_iff_not] at hqt91_1
              refine wp_skip ?_
              (try simp only [Exit.then, Exit.inBlock, ↓reduceIte, Nat.reduceEqDiff])
              refine hK25 _ _ ?_
              refine wp_seq_k (fun K33 hK33 => ?_)
              refine wp_seq_k (fun K34 hK34 => ?_)
              have hy9 : (rp.1)[k]? = some kn := hkn
              have hel9 := RdS.at (Row.rd (by intros; rfl) hrrk) hy9
              obtain ⟨_, _, hab, hlr7, hel9⟩ := hel9
              cases hab
              refine wp_region_un (fun wq => Below w12.heap.size w12 wq) (fun w w' => Below w.heap.size w w')
                (fun V => [(fun x _ => x = (.pointer (some ⟨b3, 0, none⟩))), (fun x _ => x = (.int .i64 W.1)), (fun x _ => x = (.int .i64 ((k : Nat) : Int))), (fun x _ => x = (.bool false)), (fun x _ => x = (.bool false)), (fun x _ => x = (.pointer (some ⟨b3, 1, none⟩))), (fun x _ => x = (.int .i64 W.2.1)), (fun x _ => x = (.slice (some ⟨rb2, 0, none⟩) rp.1.length rkc)), (fun x _ => x = (.int .i64 ((k : Nat) : Int))), (fun x _ => x = (.pointer (some ⟨rb2, (0 + k * 1), none⟩))), (fun x _ => x = (.int .i64 kn)), (fun x _ => x = (.bool false)), (fun x _ => x = (.bool false)), (fun x _ => x = (.bool false)), (fun x _ => x = (.pointer (some ⟨b3, 2, none⟩))), (fun x _ => x = (.string W.2.2.1)), (fun x _ => x = (.pointer (some ⟨b4, 1, none⟩))), (fun x _ => x = (.string y.2.1)), (fun x _ => x = (.bool false)), (fun x _ => x = (.bool false)), (fun x _ => x = (.bool false)), (fun x _ => x = (.pointer (some ⟨b3, 5, none⟩))), (fun x _ => x = (.agg #[(.int .u32 W.2.2.2.2.1.1), (.int .u32 W.2.2.2.2.1.2.1), (.bool W.2.2.2.2.1.2.2.1)])), (fun x _ => x = (.pointer (some ⟨b4, 4, none⟩))), (fun x _ => x = (.agg #[(.int .u32 y.2.2.2.2.1.1), (.int .u32 y.2.2.2.2.1.2.1), (.bool y.2.2.2.2.1.2.2.1)])), (fun x _ => x = (.bool false)), (fun x _ => x = (.bool false)), (fun x _ => x = (.bool false)), (fun x _ => x = (.pointer (some ⟨b3, 3, none⟩))), (fun x _ => x = (.agg #[(.string W.2.2.2.1.1), (.string W.2.2.2.1.2.1)])), (fun x _ => x = (.agg #[(.string ⟨#[]⟩), (.string ⟨#[]⟩)])), (fun x _ => x = (.bool false)), (fun x _ => x = (.bool false))])
                []
                [[], [0], [], [1, 2], [3], [4], [4, 5], [4], [4], [4, 7, 8], [4, 9], [4, 6, 10], [4, 11], [4, 12], [13], [13, 14], [13], [13, 16], [13, 15, 17], [13, 18], [13, 19], [20], [20, 21], [20], [20, 23], [20, 22, 24], [20, 25], [20, 26], [27], [27, 28], [27], [27, 29, 30], [27, 31]]
                hf (by kernel_rfl) (by kernel_rfl) (fun _ => rfl) ((Below.refl _ _).drew) (fun a b h1 h2 => h1.trans (h2.mono h1.size)) (fun _ _ h => h.size) (fun V => ⟨kept_eq, kept_eq, kept_eq, kept_eq, kept_eq, kept_eq, kept_eq, kept_eq, kept_eq, kept_eq, kept_eq, kept_eq, kept_eq, kept_eq, kept_eq, kept_eq, kept_eq, kept_eq, kept_eq, kept_eq, kept_eq, kept_eq, kept_eq, kept_eq, kept_eq, kept_eq, kept_eq, kept_eq, kept_eq, kept_eq, kept_eq, kept_eq, kept_eq, trivial⟩) (fun _ _ _ _ _ => rfl) ?_ ?_
              · skip
                intro V
                refine ⟨fun wu0 hC hd => ?_, ?_⟩
                · clear hd
                  replace hb := hb.trans (hC.mono hb.size)
                  replace hkb1 := blk_ext hkb1 hC
                  replace hkb2 := blk_ext hkb2 hC
                  replace hk6 := blk_ext hk6 hC
                  replace hk7 := blk_ext hk7 hC
                  replace hk9 := blk_ext hk9 hC
                  replace hrpl := Row.ext hrpl hC
                  replace hrrk := Row.ext hrrk hC
                  replace hrN := Row.ext hrN hC
                  exact Runs.does (r_fa rfl Try.underlying80 (f := 0) (q := 0) rfl (by kernel_rfl) rfl) ⟨Below.refl _ _, rfl, nofr rfl⟩
                refine ⟨fun wu1 hC hd => ?_, ?_⟩
                · obtain ⟨h0, _⟩ := hd
                  skip
                  replace h0 : V 0 = (.pointer (some ⟨b3, 0, none⟩)) := h0
                  replace hb := hb.trans (hC.mono hb.size)
                  replace hkb1 := blk_ext hkb1 hC
                  replace hkb2 := blk_ext hkb2 hC
                  replace hk6 := blk_ext hk6 hC
                  replace hk7 := blk_ext hk7 hC
                  replace hk9 := blk_ext hk9 hC
                  replace hrpl := Row.ext hrpl hC
                  replace hrrk := Row.ext hrrk hC
                  replace hrN := Row.ext hrN hC
                  exact Runs.does (r_load (v := (.int .i64 W.1)) (congrArg some h0) Try.underlying3 rfl (cell_blk hk6 rfl)) ⟨Below.refl _ _, rfl, nofr rfl⟩
                refine ⟨fun wu2 hC hd => ?_, ?_⟩
                · clear hd
                  replace hb := hb.trans (hC.mono hb.size)
                  replace hkb1 := blk_ext hkb1 hC
                  replace hkb2 := blk_ext hkb2 hC
                  replace hk6 := blk_ext hk6 hC
                  replace hk7 := blk_ext hk7 hC
                  replace hk9 := blk_ext hk9 hC
                  replace hrpl := Row.ext hrpl hC
                  replace hrrk := Row.ext hrrk hC
                  replace hrN := Row.ext hrN hC
                  exact Runs.does (r_move rfl) ⟨Below.refl _ _, rfl, nofr rfl⟩
                refine ⟨fun wu3 hC hd => ?_, ?_⟩
                · obtain ⟨h1, h2, _⟩ := hd
                  skip
                  skip
                  replace h1 : V 1 = (.int .i64 W.1) := h1
                  replace h2 : V 2 = (.int .i64 ((k : Nat) : Int)) := h2
                  replace hb := hb.trans (hC.mono hb.size)
                  replace hkb1 := blk_ext hkb1 hC
                  replace hkb2 := blk_ext hkb2 hC
                  replace hk6 := blk_ext hk6 hC
                  replace hk7 := blk_ext hk7 hC
                  replace hk9 := blk_ext hk9 hC
                  replace hrpl := Row.ext hrpl hC
                  replace hrrk := Row.ext hrrk hC
                  replace hrN := Row.ext hrN hC
                  exact Runs.does (Runs.veq (r_ne (congrArg some h1) (congrArg some h2)) (congrArg Value.bool (show _ = false from (by simp [hWd])))) ⟨Below.refl _ _, rfl, nofr rfl⟩
                refine ⟨fun wu4 hC hd => ?_, ?_⟩
                · obtain ⟨h3, _⟩ := hd
                  skip
                  replace h3 : V 3 = (.bool false) := h3
                  replace hb := hb.trans (hC.mono hb.size)
                  replace hkb1 := blk_ext hkb1 hC
                  replace hkb2 := blk_ext hkb2 hC
                  replace hk6 := blk_ext hk6 hC
                  replace hk7 := blk_ext hk7 hC
                  replace hk9 := blk_ext hk9 hC
                  replace hrpl := Row.ext hrpl hC
                  replace hrrk := Row.ext hrrk hC
                  replace hrN := Row.ext hrN hC
                  exact Runs.does (r_move (congrArg some h3)) ⟨Below.refl _ _, rfl, nofr rfl⟩
                refine ⟨fun wu5 hC hd => ?_, ?_⟩
                · obtain ⟨h4, _⟩ := hd
                  skip
                  replace h4 : V 4 = (.bool false) := h4
                  replace hb := hb.trans (hC.mono hb.size)
                  replace hkb1 := blk_ext hkb1 hC
                  replace hkb2 := blk_ext hkb2 hC
                  replace hk6 := blk_ext hk6 hC
                  replace hk7 := blk_ext hk7 hC
                  replace hk9 := blk_ext hk9 hC
                  replace hrpl := Row.ext hrpl hC
                  replace hrrk := Row.ext hrrk hC
                  replace hrN := Row.ext hrN hC
                  refine ⟨true, false, congrArg some h4, fun hact => ?_, fun hact => ?_⟩
                  · exact Runs.does (r_fa rfl Try.underlying80 (f := 1) (q := 1) rfl (by kernel_rfl) rfl) ⟨Below.refl _ _, rfl, nofr rfl⟩
                  · exfalso; simp at hact
                refine ⟨fun wu6 hC hd => ?_, ?_⟩
                · obtain ⟨h4, h5, _⟩ := hd
                  skip
                  skip
                  replace h4 : V 4 = (.bool false) := h4
                  replace h5 : V 5 = (.pointer (some ⟨b3, 1, none⟩)) := h5
                  replace hb := hb.trans (hC.mono hb.size)
                  replace hkb1 := blk_ext hkb1 hC
                  replace hkb2 := blk_ext hkb2 hC
                  replace hk6 := blk_ext hk6 hC
                  replace hk7 := blk_ext hk7 hC
                  replace hk9 := blk_ext hk9 hC
                  replace hrpl := Row.ext hrpl hC
                  replace hrrk := Row.ext hrrk hC
                  replace hrN := Row.ext hrN hC
                  refine ⟨true, false, congrArg some h4, fun hact => ?_, fun hact => ?_⟩
                  · exact Runs.does (r_load (v := (.int .i64 W.2.1)) (congrArg some h5) Try.underlying3 rfl (cell_blk hk6 rfl)) ⟨Below.refl _ _, rfl, nofr rfl⟩
                  · exfalso; simp at hact
                refine ⟨fun wu7 hC hd => ?_, ?_⟩
                · obtain ⟨h4, _⟩ := hd
                  skip
                  replace h4 : V 4 = (.bool false) := h4
                  replace hb := hb.trans (hC.mono hb.size)
                  replace hkb1 := blk_ext hkb1 hC
                  replace hkb2 := blk_ext hkb2 hC
                  replace hk6 := blk_ext hk6 hC
                  replace hk7 := blk_ext hk7 hC
                  replace hk9 := blk_ext hk9 hC
                  replace hrpl := Row.ext hrpl hC
                  replace hrrk := Row.ext hrrk hC
                  replace hrN := Row.ext hrN hC
                  refine ⟨true, false, congrArg some h4, fun hact => ?_, fun hact => ?_⟩
                  · exact Runs.does (r_move rfl) ⟨Below.refl _ _, rfl, nofr rfl⟩
                  · exfalso; simp at hact
                refine ⟨fun wu8 hC hd => ?_, ?_⟩
                · obtain ⟨h4, _⟩ := hd
                  skip
                  replace h4 : V 4 = (.bool false) := h4
                  replace hb := hb.trans (hC.mono hb.size)
                  replace hkb1 := blk_ext hkb1 hC
                  replace hkb2 := blk_ext hkb2 hC
                  replace hk6 := blk_ext hk6 hC
                  replace hk7 := blk_ext hk7 hC
                  replace hk9 := blk_ext hk9 hC
                  replace hrpl := Row.ext hrpl hC
                  replace hrrk := Row.ext hrrk hC
                  replace hrN := Row.ext hrN hC
                  refine ⟨true, false, congrArg some h4, fun hact => ?_, fun hact => ?_⟩
                  · exact Runs.does (r_move rfl) ⟨Below.refl _ _, rfl, nofr rfl⟩
                  · exfalso; simp at hact
                refine ⟨fun wu9 hC hd => ?_, ?_⟩
                · obtain ⟨h4, h7, h8, _⟩ := hd
                  skip
                  skip
                  skip
                  replace h4 : V 4 = (.bool false) := h4
                  replace h7 : V 7 = (.slice (some ⟨rb2, 0, none⟩) rp.1.length rkc) := h7
                  replace h8 : V 8 = (.int .i64 ((k : Nat) : Int)) := h8
                  replace hb := hb.trans (hC.mono hb.size)
                  replace hkb1 := blk_ext hkb1 hC
                  replace hkb2 := blk_ext hkb2 hC
                  replace hk6 := blk_ext hk6 hC
                  replace hk7 := blk_ext hk7 hC
                  replace hk9 := blk_ext hk9 hC
                  replace hrpl := Row.ext hrpl hC
                  replace hrrk := Row.ext hrrk hC
                  replace hrN := Row.ext hrN hC
                  refine ⟨true, false, congrArg some h4, fun hact => ?_, fun hact => ?_⟩
                  · exact Runs.does (r_ixa (sz := 1) (j := k) (congrArg some h7) (congrArg some h8) Try.underlying28 (by kernel_rfl) rfl (by omega) rfl) ⟨Below.refl _ _, rfl, nofr rfl⟩
                  · exfalso; simp at hact
                refine ⟨fun wu10 hC hd => ?_, ?_⟩
                · obtain ⟨h4, h9, _⟩ := hd
                  skip
                  skip
                  replace h4 : V 4 = (.bool false) := h4
                  replace h9 : V 9 = (.pointer (some ⟨rb2, (0 + k * 1), none⟩)) := h9
                  replace hb := hb.trans (hC.mono hb.size)
                  replace hkb1 := blk_ext hkb1 hC
                  replace hkb2 := blk_ext hkb2 hC
                  replace hk6 := blk_ext hk6 hC
                  replace hk7 := blk_ext hk7 hC
                  replace hk9 := blk_ext hk9 hC
                  replace hrpl := Row.ext hrpl hC
                  replace hrrk := Row.ext hrrk hC
                  replace hrN := Row.ext hrN hC
                  refine ⟨true, false, congrArg some h4, fun hact => ?_, fun hact => ?_⟩
                  · exact Runs.does (r_load (v := (.int .i64 kn)) (congrArg some h9) Try.underlying3 rfl (cellsAt_cell (cellsAt_below hel9 hC hlr7) (i := 0) rfl rfl)) ⟨Below.refl _ _, rfl, nofr rfl⟩
                  · exfalso; simp at hact
                refine ⟨fun wu11 hC hd => ?_, ?_⟩
                · obtain ⟨h4, h6, h10, _⟩ := hd
                  skip
                  skip
                  skip
                  replace h4 : V 4 = (.bool false) := h4
                  replace h6 : V 6 = (.int .i64 W.2.1) := h6
                  replace h10 : V 10 = (.int .i64 kn) := h10
                  replace hb := hb.trans (hC.mono hb.size)
                  replace hkb1 := blk_ext hkb1 hC
                  replace hkb2 := blk_ext hkb2 hC
                  replace hk6 := blk_ext hk6 hC
                  replace hk7 := blk_ext hk7 hC
                  replace hk9 := blk_ext hk9 hC
                  replace hrpl := Row.ext hrpl hC
                  replace hrrk := Row.ext hrrk hC
                  replace hrN := Row.ext hrN hC
                  refine ⟨true, false, congrArg some h4, fun hact => ?_, fun hact => ?_⟩
                  · exact Runs.does (Runs.veq (r_ne (congrArg some h6) (congrArg some h10)) (congrArg Value.bool (show _ = false from (by simp [hWd, hkn0])))) ⟨Below.refl _ _, rfl, nofr rfl⟩
                  · exfalso; simp at hact
                refine ⟨fun wu12 hC hd => ?_, ?_⟩
                · obtain ⟨h4, h11, _⟩ := hd
                  skip
                  skip
                  replace h4 : V 4 = (.bool false) := h4
                  replace h11 : V 11 = (.bool false) := h11
                  replace hb := hb.trans (hC.mono hb.size)
                  replace hkb1 := blk_ext hkb1 hC
                  replace hkb2 := blk_ext hkb2 hC
                  replace hk6 := blk_ext hk6 hC
                  replace hk7 := blk_ext hk7 hC
                  replace hk9 := blk_ext hk9 hC
                  replace hrpl := Row.ext hrpl hC
                  replace hrrk := Row.ext hrrk hC
                  replace hrN := Row.ext hrN hC
                  exact Runs.does (r_pick (b := false) (congrArg some h4) rfl (congrArg some h11) rfl) ⟨Below.refl _ _, rfl, nofr rfl⟩
                refine ⟨fun wu13 hC hd => ?_, ?_⟩
                · obtain ⟨h4, h12, _⟩ := hd
                  skip
                  skip
                  replace h4 : V 4 = (.bool false) := h4
                  replace h12 : V 12 = (.bool false) := h12
                  replace hb := hb.trans (hC.mono hb.size)
                  replace hkb1 := blk_ext hkb1 hC
                  replace hkb2 := blk_ext hkb2 hC
                  replace hk6 := blk_ext hk6 hC
                  replace hk7 := blk_ext hk7 hC
                  replace hk9 := blk_ext hk9 hC
                  replace hrpl := Row.ext hrpl hC
                  replace hrrk := Row.ext hrrk hC
                  replace hrN := Row.ext hrN hC
                  exact Runs.does (r_move (congrArg some h12)) ⟨Below.refl _ _, rfl, nofr rfl⟩
                refine ⟨fun wu14 hC hd => ?_, ?_⟩
                · obtain ⟨h13, _⟩ := hd
                  skip
                  replace h13 : V 13 = (.bool false) := h13
                  replace hb := hb.trans (hC.mono hb.size)
                  replace hkb1 := blk_ext hkb1 hC
                  replace hkb2 := blk_ext hkb2 hC
                  replace hk6 := blk_ext hk6 hC
                  replace hk7 := blk_ext hk7 hC
                  replace hk9 := blk_ext hk9 hC
                  replace hrpl := Row.ext hrpl hC
                  replace hrrk := Row.ext hrrk hC
                  replace hrN := Row.ext hrN hC
                  refine ⟨true, false, congrArg some h13, fun hact => ?_, fun hact => ?_⟩
                  · exact Runs.does (r_fa rfl Try.underlying80 (f := 2) (q := 2) rfl (by kernel_rfl) rfl) ⟨Below.refl _ _, rfl, nofr rfl⟩
                  · exfalso; simp at hact
                refine ⟨fun wu15 hC hd => ?_, ?_⟩
                · obtain ⟨h13, h14, _⟩ := hd
                  skip
                  skip
                  replace h13 : V 13 = (.bool false) := h13
                  replace h14 : V 14 = (.pointer (some ⟨b3, 2, none⟩)) := h14
                  replace hb := hb.trans (hC.mono hb.size)
                  replace hkb1 := blk_ext hkb1 hC
                  replace hkb2 := blk_ext hkb2 hC
                  replace hk6 := blk_ext hk6 hC
                  replace hk7 := blk_ext hk7 hC
                  replace hk9 := blk_ext hk9 hC
                  replace hrpl := Row.ext hrpl hC
                  replace hrrk := Row.ext hrrk hC
                  replace hrN := Row.ext hrN hC
                  refine ⟨true, false, congrArg some h13, fun hact => ?_, fun hact => ?_⟩
                  · exact Runs.does (r_load (v := (.string W.2.2.1)) (congrArg some h14) Try.underlying9 rfl (cell_blk hk6 rfl)) ⟨Below.refl _ _, rfl, nofr rfl⟩
                  · exfalso; simp at hact
                refine ⟨fun wu16 hC hd => ?_, ?_⟩
                · obtain ⟨h13, _⟩ := hd
                  skip
                  replace h13 : V 13 = (.bool false) := h13
                  replace hb := hb.trans (hC.mono hb.size)
                  replace hkb1 := blk_ext hkb1 hC
                  replace hkb2 := blk_ext hkb2 hC
                  replace hk6 := blk_ext hk6 hC
                  replace hk7 := blk_ext hk7 hC
                  replace hk9 := blk_ext hk9 hC
                  replace hrpl := Row.ext hrpl hC
                  replace hrrk := Row.ext hrrk hC
                  replace hrN := Row.ext hrN hC
                  refine ⟨true, false, congrArg some h13, fun hact => ?_, fun hact => ?_⟩
                  · exact Runs.does (r_fa rfl Try.underlying103 (f := 1) (q := 1) rfl (by kernel_rfl) rfl) ⟨Below.refl _ _, rfl, nofr rfl⟩
                  · exfalso; simp at hact
                refine ⟨fun wu17 hC hd => ?_, ?_⟩
                · obtain ⟨h13, h16, _⟩ := hd
                  skip
                  skip
                  replace h13 : V 13 = (.bool false) := h13
                  replace h16 : V 16 = (.pointer (some ⟨b4, 1, none⟩)) := h16
                  replace hb := hb.trans (hC.mono hb.size)
                  replace hkb1 := blk_ext hkb1 hC
                  replace hkb2 := blk_ext hkb2 hC
                  replace hk6 := blk_ext hk6 hC
                  replace hk7 := blk_ext hk7 hC
                  replace hk9 := blk_ext hk9 hC
                  replace hrpl := Row.ext hrpl hC
                  replace hrrk := Row.ext hrrk hC
                  replace hrN := Row.ext hrN hC
                  refine ⟨true, false, congrArg some h13, fun hact => ?_, fun hact => ?_⟩
                  · exact Runs.does (r_load (v := (.string y.2.1)) (congrArg some h16) Try.underlying9 rfl (cell_blk hk7 rfl)) ⟨Below.refl _ _, rfl, nofr rfl⟩
                  · exfalso; simp at hact
                refine ⟨fun wu18 hC hd => ?_, ?_⟩
                · obtain ⟨h13, h15, h17, _⟩ := hd
                  skip
                  skip
                  skip
                  replace h13 : V 13 = (.bool false) := h13
                  replace h15 : V 15 = (.string W.2.2.1) := h15
                  replace h17 : V 17 = (.string y.2.1) := h17
                  replace hb := hb.trans (hC.mono hb.size)
                  replace hkb1 := blk_ext hkb1 hC
                  replace hkb2 := blk_ext hkb2 hC
                  replace hk6 := blk_ext hk6 hC
                  replace hk7 := blk_ext hk7 hC
                  replace hk9 := blk_ext hk9 hC
                  replace hrpl := Row.ext hrpl hC
                  replace hrrk := Row.ext hrrk hC
                  replace hrN := Row.ext hrN hC
                  refine ⟨true, false, congrArg some h13, fun hact => ?_, fun hact => ?_⟩
                  · exact Runs.does (Runs.veq (r_sne (congrArg some h15) (congrArg some h17)) (congrArg Value.bool (show _ = false from (by simp [hWd])))) ⟨Below.refl _ _, rfl, nofr rfl⟩
                  · exfalso; simp at hact
                refine ⟨fun wu19 hC hd => ?_, ?_⟩
                · obtain ⟨h13, h18, _⟩ := hd
                  skip
                  skip
                  replace h13 : V 13 = (.bool false) := h13
                  replace h18 : V 18 = (.bool false) := h18
                  replace hb := hb.trans (hC.mono hb.size)
                  replace hkb1 := blk_ext hkb1 hC
                  replace hkb2 := blk_ext hkb2 hC
                  replace hk6 := blk_ext hk6 hC
                  replace hk7 := blk_ext hk7 hC
                  replace hk9 := blk_ext hk9 hC
                  replace hrpl := Row.ext hrpl hC
                  replace hrrk := Row.ext hrrk hC
                  replace hrN := Row.ext hrN hC
                  exact Runs.does (r_pick (b := false) (congrArg some h13) rfl (congrArg some h18) rfl) ⟨Below.refl _ _, rfl, nofr rfl⟩
                refine ⟨fun wu20 hC hd => ?_, ?_⟩
                · obtain ⟨h13, h19, _⟩ := hd
                  skip
                  skip
                  replace h13 : V 13 = (.bool false) := h13
                  replace h19 : V 19 = (.bool false) := h19
                  replace hb := hb.trans (hC.mono hb.size)
                  replace hkb1 := blk_ext hkb1 hC
                  replace hkb2 := blk_ext hkb2 hC
                  replace hk6 := blk_ext hk6 hC
                  replace hk7 := blk_ext hk7 hC
                  replace hk9 := blk_ext hk9 hC
                  replace hrpl := Row.ext hrpl hC
                  replace hrrk := Row.ext hrrk hC
                  replace hrN := Row.ext hrN hC
                  exact Runs.does (r_move (congrArg some h19)) ⟨Below.refl _ _, rfl, nofr rfl⟩
                refine ⟨fun wu21 hC hd => ?_, ?_⟩
                · obtain ⟨h20, _⟩ := hd
                  skip
                  replace h20 : V 20 = (.bool false) := h20
                  replace hb := hb.trans (hC.mono hb.size)
                  replace hkb1 := blk_ext hkb1 hC
                  replace hkb2 := blk_ext hkb2 hC
                  replace hk6 := blk_ext hk6 hC
                  replace hk7 := blk_ext hk7 hC
                  replace hk9 := blk_ext hk9 hC
                  replace hrpl := Row.ext hrpl hC
                  replace hrrk := Row.ext hrrk hC
                  replace hrN := Row.ext hrN hC
                  refine ⟨true, false, congrArg some h20, fun hact => ?_, fun hact => ?_⟩
                  · exact Runs.does (r_fa rfl Try.underlying80 (f := 4) (q := 5) rfl (by kernel_rfl) rfl) ⟨Below.refl _ _, rfl, nofr rfl⟩
                  · exfalso; simp at hact
                refine ⟨fun wu22 hC hd => ?_, ?_⟩
                · obtain ⟨h20, h21, _⟩ := hd
                  skip
                  skip
                  replace h20 : V 20 = (.bool false) := h20
                  replace h21 : V 21 = (.pointer (some ⟨b3, 5, none⟩)) := h21
                  replace hb := hb.trans (hC.mono hb.size)
                  replace hkb1 := blk_ext hkb1 hC
                  replace hkb2 := blk_ext hkb2 hC
                  replace hk6 := blk_ext hk6 hC
                  replace hk7 := blk_ext hk7 hC
                  replace hk9 := blk_ext hk9 hC
                  replace hrpl := Row.ext hrpl hC
                  replace hrrk := Row.ext hrrk hC
                  replace hrN := Row.ext hrN hC
                  refine ⟨true, false, congrArg some h20, fun hact => ?_, fun hact => ?_⟩
                  · exact Runs.does (r_loadA (cs := [(.int .u32 W.2.2.2.2.1.1), (.int .u32 W.2.2.2.2.1.2.1), (.bool W.2.2.2.2.1.2.2.1)]) (congrArg some h21) Try.underlying76 rfl (by kernel_rfl) (cellsAt_part (d := 5) (n := 3) (cellsAt_blk hk6) rfl rfl)) ⟨Below.refl _ _, rfl, nofr rfl⟩
                  · exfalso; simp at hact
                refine ⟨fun wu23 hC hd => ?_, ?_⟩
                · obtain ⟨h20, _⟩ := hd
                  skip
                  replace h20 : V 20 = (.bool false) := h20
                  replace hb := hb.trans (hC.mono hb.size)
                  replace hkb1 := blk_ext hkb1 hC
                  replace hkb2 := blk_ext hkb2 hC
                  replace hk6 := blk_ext hk6 hC
                  replace hk7 := blk_ext hk7 hC
                  replace hk9 := blk_ext hk9 hC
                  replace hrpl := Row.ext hrpl hC
                  replace hrrk := Row.ext hrrk hC
                  replace hrN := Row.ext hrN hC
                  refine ⟨true, false, congrArg some h20, fun hact => ?_, fun hact => ?_⟩
                  · exact Runs.does (r_fa rfl Try.underlying103 (f := 4) (q := 4) rfl (by kernel_rfl) rfl) ⟨Below.refl _ _, rfl, nofr rfl⟩
                  · exfalso; simp at hact
                refine ⟨fun wu24 hC hd => ?_, ?_⟩
                · obtain ⟨h20, h23, _⟩ := hd
                  skip
                  skip
                  replace h20 : V 20 = (.bool false) := h20
                  replace h23 : V 23 = (.pointer (some ⟨b4, 4, none⟩)) := h23
                  replace hb := hb.trans (hC.mono hb.size)
                  replace hkb1 := blk_ext hkb1 hC
                  replace hkb2 := blk_ext hkb2 hC
                  replace hk6 := blk_ext hk6 hC
                  replace hk7 := blk_ext hk7 hC
                  replace hk9 := blk_ext hk9 hC
                  replace hrpl := Row.ext hrpl hC
                  replace hrrk := Row.ext hrrk hC
                  replace hrN := Row.ext hrN hC
                  refine ⟨true, false, congrArg some h20, fun hact => ?_, fun hact => ?_⟩
                  · exact Runs.does (r_loadA (cs := [(.int .u32 y.2.2.2.2.1.1), (.int .u32 y.2.2.2.2.1.2.1), (.bool y.2.2.2.2.1.2.2.1)]) (congrArg some h23) Try.underlying76 rfl (by kernel_rfl) (cellsAt_part (d := 4) (n := 3) (cellsAt_blk hk7) rfl rfl)) ⟨Below.refl _ _, rfl, nofr rfl⟩
                  · exfalso; simp at hact
                refine ⟨fun wu25 hC hd => ?_, ?_⟩
                · obtain ⟨h20, h22, h24, _⟩ := hd
                  skip
                  skip
                  skip
                  replace h20 : V 20 = (.bool false) := h20
                  replace h22 : V 22 = (.agg #[(.int .u32 W.2.2.2.2.1.1), (.int .u32 W.2.2.2.2.1.2.1), (.bool W.2.2.2.2.1.2.2.1)]) := h22
                  replace h24 : V 24 = (.agg #[(.int .u32 y.2.2.2.2.1.1), (.int .u32 y.2.2.2.2.1.2.1), (.bool y.2.2.2.2.1.2.2.1)]) := h24
                  replace hb := hb.trans (hC.mono hb.size)
                  replace hkb1 := blk_ext hkb1 hC
                  replace hkb2 := blk_ext hkb2 hC
                  replace hk6 := blk_ext hk6 hC
                  replace hk7 := blk_ext hk7 hC
                  replace hk9 := blk_ext hk9 hC
                  replace hrpl := Row.ext hrpl hC
                  replace hrrk := Row.ext hrrk hC
                  replace hrN := Row.ext hrN hC
                  refine ⟨true, false, congrArg some h20, fun hact => ?_, fun hact => ?_⟩
                  · exact Runs.does (Runs.veq (r_ane (k := 5) (congrArg some h22) (congrArg some h24) (by kernel_rfl) (eqt_struct (xs := #[(.int .u32 W.2.2.2.2.1.1), (.int .u32 W.2.2.2.2.1.2.1), (.bool W.2.2.2.2.1.2.2.1)]) (ys := #[(.int .u32 y.2.2.2.2.1.1), (.int .u32 y.2.2.2.2.1.2.1), (.bool y.2.2.2.2.1.2.2.1)]) Try.underlying76 (by kernel_rfl) (eqf_cons (by kernel_rfl) (fun _ => by kernel_rfl) (fun _ => by kernel_rfl) (eqt_int (kk := .u32) (a := W.2.2.2.2.1.1) (b := y.2.2.2.2.1.1) Try.underlying44) (eqf_cons (by kernel_rfl) (fun _ => by kernel_rfl) (fun _ => by kernel_rfl) (eqt_int (kk := .u32) (a := W.2.2.2.2.1.2.1) (b := y.2.2.2.2.1.2.1) Try.underlying44) (eqf_one (by kernel_rfl) (fun _ => by kernel_rfl) (fun _ => by kernel_rfl) (eqt_bool (a := W.2.2.2.2.1.2.2.1) (b := y.2.2.2.2.1.2.2.1) Try.underlying4))))) rfl) (congrArg Value.bool (show _ = false from (by simp [hWd])))) ⟨Below.refl _ _, rfl, nofr rfl⟩
                  · exfalso; simp at hact
                refine ⟨fun wu26 hC hd => ?_, ?_⟩
                · obtain ⟨h20, h25, _⟩ := hd
                  skip
                  skip
                  replace h20 : V 20 = (.bool false) := h20
                  replace h25 : V 25 = (.bool false) := h25
                  replace hb := hb.trans (hC.mono hb.size)
                  replace hkb1 := blk_ext hkb1 hC
                  replace hkb2 := blk_ext hkb2 hC
                  replace hk6 := blk_ext hk6 hC
                  replace hk7 := blk_ext hk7 hC
                  replace hk9 := blk_ext hk9 hC
                  replace hrpl := Row.ext hrpl hC
                  replace hrrk := Row.ext hrrk hC
                  replace hrN := Row.ext hrN hC
                  exact Runs.does (r_pick (b := false) (congrArg some h20) rfl (congrArg some h25) rfl) ⟨Below.refl _ _, rfl, nofr rfl⟩
                refine ⟨fun wu27 hC hd => ?_, ?_⟩
                · obtain ⟨h20, h26, _⟩ := hd
                  skip
                  skip
                  replace h20 : V 20 = (.bool false) := h20
                  replace h26 : V 26 = (.bool false) := h26
                  replace hb := hb.trans (hC.mono hb.size)
                  replace hkb1 := blk_ext hkb1 hC
                  replace hkb2 := blk_ext hkb2 hC
                  replace hk6 := blk_ext hk6 hC
                  replace hk7 := blk_ext hk7 hC
                  replace hk9 := blk_ext hk9 hC
                  replace hrpl := Row.ext hrpl hC
                  replace hrrk := Row.ext hrrk hC
                  replace hrN := Row.ext hrN hC
                  exact Runs.does (r_move (congrArg some h26)) ⟨Below.refl _ _, rfl, nofr rfl⟩
                refine ⟨fun wu28 hC hd => ?_, ?_⟩
                · obtain ⟨h27, _⟩ := hd
                  skip
                  replace h27 : V 27 = (.bool false) := h27
                  replace hb := hb.trans (hC.mono hb.size)
                  replace hkb1 := blk_ext hkb1 hC
                  replace hkb2 := blk_ext hkb2 hC
                  replace hk6 := blk_ext hk6 hC
                  replace hk7 := blk_ext hk7 hC
                  replace hk9 := blk_ext hk9 hC
                  replace hrpl := Row.ext hrpl hC
                  replace hrrk := Row.ext hrrk hC
                  replace hrN := Row.ext hrN hC
                  refine ⟨true, false, congrArg some h27, fun hact => ?_, fun hact => ?_⟩
                  · exact Runs.does (r_fa rfl Try.underlying80 (f := 3) (q := 3) rfl (by kernel_rfl) rfl) ⟨Below.refl _ _, rfl, nofr rfl⟩
                  · exfalso; simp at hact
                refine ⟨fun wu29 hC hd => ?_, ?_⟩
                · obtain ⟨h27, h28, _⟩ := hd
                  skip
                  skip
                  replace h27 : V 27 = (.bool false) := h27
                  replace h28 : V 28 = (.pointer (some ⟨b3, 3, none⟩)) := h28
                  replace hb := hb.trans (hC.mono hb.size)
                  replace hkb1 := blk_ext hkb1 hC
                  replace hkb2 := blk_ext hkb2 hC
                  replace hk6 := blk_ext hk6 hC
                  replace hk7 := blk_ext hk7 hC
                  replace hk9 := blk_ext hk9 hC
                  replace hrpl := Row.ext hrpl hC
                  replace hrrk := Row.ext hrrk hC
                  replace hrN := Row.ext hrN hC
                  refine ⟨true, false, congrArg some h27, fun hact => ?_, fun hact => ?_⟩
                  · exact Runs.does (r_loadA (cs := [(.string W.2.2.2.1.1), (.string W.2.2.2.1.2.1)]) (congrArg some h28) Try.underlying78 rfl (by kernel_rfl) (cellsAt_part (d := 3) (n := 2) (cellsAt_blk hk6) rfl rfl)) ⟨Below.refl _ _, rfl, nofr rfl⟩
                  · exfalso; simp at hact
                refine ⟨fun wu30 hC hd => ?_, ?_⟩
                · obtain ⟨h27, _⟩ := hd
                  skip
                  replace h27 : V 27 = (.bool false) := h27
                  replace hb := hb.trans (hC.mono hb.size)
                  replace hkb1 := blk_ext hkb1 hC
                  replace hkb2 := blk_ext hkb2 hC
                  replace hk6 := blk_ext hk6 hC
                  replace hk7 := blk_ext hk7 hC
                  replace hk9 := blk_ext hk9 hC
                  replace hrpl := Row.ext hrpl hC
                  replace hrrk := Row.ext hrrk hC
                  replace hrN := Row.ext hrN hC
                  refine ⟨true, false, congrArg some h27, fun hact => ?_, fun hact => ?_⟩
                  · exact Runs.does (r_loadA (cs := [(.string ⟨#[]⟩), (.string ⟨#[]⟩)]) rfl Try.underlying78 rfl (by kernel_rfl) (cellsAt_blk hk9)) ⟨Below.refl _ _, rfl, nofr rfl⟩
                  · exfalso; simp at hact
                refine ⟨fun wu31 hC hd => ?_, ?_⟩
                · obtain ⟨h27, h29, h30, _⟩ := hd
                  skip
                  skip
                  skip
                  replace h27 : V 27 = (.bool false) := h27
                  replace h29 : V 29 = (.agg #[(.string W.2.2.2.1.1), (.string W.2.2.2.1.2.1)]) := h29
                  replace h30 : V 30 = (.agg #[(.string ⟨#[]⟩), (.string ⟨#[]⟩)]) := h30
                  replace hb := hb.trans (hC.mono hb.size)
                  replace hkb1 := blk_ext hkb1 hC
                  replace hkb2 := blk_ext hkb2 hC
                  replace hk6 := blk_ext hk6 hC
                  replace hk7 := blk_ext hk7 hC
                  replace hk9 := blk_ext hk9 hC
                  replace hrpl := Row.ext hrpl hC
                  replace hrrk := Row.ext hrrk hC
                  replace hrN := Row.ext hrN hC
                  refine ⟨true, false, congrArg some h27, fun hact => ?_, fun hact => ?_⟩
                  · exact Runs.does (Runs.veq (r_ane (k := 5) (congrArg some h29) (congrArg some h30) (by kernel_rfl) (eqt_struct (xs := #[(.string W.2.2.2.1.1), (.string W.2.2.2.1.2.1)]) (ys := #[(.string ⟨#[]⟩), (.string ⟨#[]⟩)]) Try.underlying78 (by kernel_rfl) (eqf_cons (by kernel_rfl) (fun _ => by kernel_rfl) (fun _ => by kernel_rfl) (eqt_str (a := W.2.2.2.1.1) (b := ⟨#[]⟩) Try.underlying9) (eqf_one (by kernel_rfl) (fun _ => by kernel_rfl) (fun _ => by kernel_rfl) (eqt_str (a := W.2.2.2.1.2.1) (b := ⟨#[]⟩) Try.underlying9)))) rfl) (congrArg Value.bool (show _ = false from (by have h := hqt91_1; simp [hWd, typW, hkn0, h])))) ⟨Below.refl _ _, rfl, nofr rfl⟩
                  · exfalso; simp at hact
                refine ⟨fun wu32 hC hd => ?_, ?_⟩
                · obtain ⟨h27, h31, _⟩ := hd
                  skip
                  skip
                  replace h27 : V 27 = (.bool false) := h27
                  replace h31 : V 31 = (.bool false) := h31
                  replace hb := hb.trans (hC.mono hb.size)
                  replace hkb1 := blk_ext hkb1 hC
                  replace hkb2 := blk_ext hkb2 hC
                  replace hk6 := blk_ext hk6 hC
                  replace hk7 := blk_ext hk7 hC
                  replace hk9 := blk_ext hk9 hC
                  replace hrpl := Row.ext hrpl hC
                  replace hrrk := Row.ext hrrk hC
                  replace hrN := Row.ext hrN hC
                  exact Runs.does (r_pick (b := false) (congrArg some h27) rfl (congrArg some h31) rfl) ⟨Below.refl _ _, rfl, nofr rfl⟩
                trivial
              · skip
                clear hf fa; intro V w19 fa he12 hp hnb hf
                have hv0 : V 0 = (.pointer (some ⟨b3, 0, none⟩)) := postsHold_at hp 0 rfl
                have hv1 : V 1 = (.int .i64 W.1) := postsHold_at hp 1 rfl
                have hv2 : V 2 = (.int .i64 ((k : Nat) : Int)) := postsHold_at hp 2 rfl
                have hv3 : V 3 = (.bool false) := postsHold_at hp 3 rfl
                have hv4 : V 4 = (.bool false) := postsHold_at hp 4 rfl
                have hv5 : V 5 = (.pointer (some ⟨b3, 1, none⟩)) := postsHold_at hp 5 rfl
                have hv6 : V 6 = (.int .i64 W.2.1) := postsHold_at hp 6 rfl
                have hv7 : V 7 = (.slice (some ⟨rb2, 0, none⟩) rp.1.length rkc) := postsHold_at hp 7 rfl
                have hv8 : V 8 = (.int .i64 ((k : Nat) : Int)) := postsHold_at hp 8 rfl
                have hv9 : V 9 = (.pointer (some ⟨rb2, (0 + k * 1), none⟩)) := postsHold_at hp 9 rfl
                have hv10 : V 10 = (.int .i64 kn) := postsHold_at hp 10 rfl
                have hv11 : V 11 = (.bool false) := postsHold_at hp 11 rfl
                have hv12 : V 12 = (.bool false) := postsHold_at hp 12 rfl
                have hv13 : V 13 = (.bool false) := postsHold_at hp 13 rfl
                have hv14 : V 14 = (.pointer (some ⟨b3, 2, none⟩)) := postsHold_at hp 14 rfl
                have hv15 : V 15 = (.string W.2.2.1) := postsHold_at hp 15 rfl
                have hv16 : V 16 = (.pointer (some ⟨b4, 1, none⟩)) := postsHold_at hp 16 rfl
                have hv17 : V 17 = (.string y.2.1) := postsHold_at hp 17 rfl
                have hv18 : V 18 = (.bool false) := postsHold_at hp 18 rfl
                have hv19 : V 19 = (.bool false) := postsHold_at hp 19 rfl
                have hv20 : V 20 = (.bool false) := postsHold_at hp 20 rfl
                have hv21 : V 21 = (.pointer (some ⟨b3, 5, none⟩)) := postsHold_at hp 21 rfl
                have hv22 : V 22 = (.agg #[(.int .u32 W.2.2.2.2.1.1), (.int .u32 W.2.2.2.2.1.2.1), (.bool W.2.2.2.2.1.2.2.1)]) := postsHold_at hp 22 rfl
                have hv23 : V 23 = (.pointer (some ⟨b4, 4, none⟩)) := postsHold_at hp 23 rfl
                have hv24 : V 24 = (.agg #[(.int .u32 y.2.2.2.2.1.1), (.int .u32 y.2.2.2.2.1.2.1), (.bool y.2.2.2.2.1.2.2.1)]) := postsHold_at hp 24 rfl
                have hv25 : V 25 = (.bool false) := postsHold_at hp 25 rfl
                have hv26 : V 26 = (.bool false) := postsHold_at hp 26 rfl
                have hv27 : V 27 = (.bool false) := postsHold_at hp 27 rfl
                have hv28 : V 28 = (.pointer (some ⟨b3, 3, none⟩)) := postsHold_at hp 28 rfl
                have hv29 : V 29 = (.agg #[(.string W.2.2.2.1.1), (.string W.2.2.2.1.2.1)]) := postsHold_at hp 29 rfl
                have hv30 : V 30 = (.agg #[(.string ⟨#[]⟩), (.string ⟨#[]⟩)]) := postsHold_at hp 30 rfl
                have hv31 : V 31 = (.bool false) := postsHold_at hp 31 rfl
                have hv32 : V 32 = (.bool false) := postsHold_at hp 32 rfl
                simp only [List.take_succ_cons, List.take_zero, insAll, ins, hv0, hv1, hv2, hv3, hv4, hv5, hv6, hv7, hv8, hv9, hv10, hv11, hv12, hv13, hv14, hv15, hv16, hv17, hv18, hv19, hv20, hv21, hv22, hv23, hv24, hv25, hv26, hv27, hv28, hv29, hv30, hv31, hv32] at hf
                clear hp hnb hv0 hv1 hv2 hv3 hv4 hv5 hv6 hv7 hv8 hv9 hv10 hv11 hv12 hv13 hv14 hv15 hv16 hv17 hv18 hv19 hv20 hv21 hv22 hv23 hv24 hv25 hv26 hv27 hv28 hv29 hv30 hv31 hv32
                replace hkb1 := blk_ext hkb1 he12
                replace hkb2 := blk_ext hkb2 he12
                replace hk6 := blk_ext hk6 he12
                replace hk7 := blk_ext hk7 he12
                replace hk9 := blk_ext hk9 he12
                replace hrpl := Row.ext hrpl he12
                replace hrrk := Row.ext hrrk he12
                replace hrN := Row.ext hrN he12
                replace hb := hb.trans (Below.mono he12 hb.size)
                (try simp only [Exit.then, Exit.inBlock, ↓reduceIte, Nat.reduceEqDiff])
                refine hK34 _ _ ?_
                refine wp_cond_false (hf.ev rfl) ?_
                refine wp_skip ?_
                (try simp only [Exit.then, Exit.inBlock, ↓reduceIte, Nat.reduceEqDiff])
                refine hK33 _ _ ?_
                refine wp_seq_k (fun K35 hK35 => ?_)
                refine wp_seq_k (fun K36 hK36 => ?_)
                refine wp_region_lit ?_
                refine sqv hf (r_move rfl) rfl rfl rfl ?_; clear hf fa; intro fa hf
                refine sqv hf (r_move rfl) rfl rfl rfl ?_; clear hf fa; intro fa hf
                have hy10 : (rp.1)[k]? = some kn := hkn
                have hel10 := RdS.at (Row.rd (by intros; rfl) hrrk) hy10
                obtain ⟨_, _, hab, hlr8, hel10⟩ := hel10
                cases hab
                refine sqv hf (r_ixa (sz := 1) (j := k) rfl rfl Try.underlying28 (by kernel_rfl) rfl (by omega) rfl) rfl rfl rfl ?_; clear hf fa; intro fa hf
                refine sqv hf (r_load (v := (.int .i64 kn)) rfl Try.underlying3 rfl (cellsAt_cell hel10 (i := 0) rfl rfl)) rfl rfl rfl ?_; clear hf fa; intro fa hf
                refine sqv hf (r_eq rfl rfl) rfl rfl rfl ?_; clear hf fa; intro fa hf
                apply wpList_nil
                (try simp only [Exit.then, Exit.inBlock, ↓reduceIte, Nat.reduceEqDiff])
                refine hK36 _ _ ?_
                refine wp_cond_split (t := (decide (kn = (5 : Int)))) (hf.ev rfl) (fun hqt135_2 => ?_) (fun hqt135_2 => ?_)
                · have hqt135_2b := hqt135_2
                  try simp only [decide_eq_true_eq, Bool.and_eq_true, Bool.or_eq_true, Bool.not_eq_true', decide_eq_false_iff_not, ne_eq, Bool.not_eq_true] at hqt135_2
                  refine wp_region_lit ?_
                  refine sqv hf (r_move rfl) rfl rfl rfl ?_; clear hf fa; intro fa hf
                  refine sqv hf (r_add (C := ((((cntK m 5 (m.2.1.list.take k)).length : Nat) : Int) + (1 : Int))) rfl rfl (by rw [IntKind.wrap_i64]; omega)) rfl rfl rfl ?_; clear hf fa; intro fa hf
                  refine sqv hf (r_assign rfl) rfl rfl rfl ?_; clear hf fa; intro fa hf
                  apply wpList_nil
                  (try simp only [Exit.then, Exit.inBlock, ↓reduceIte, Nat.reduceEqDiff])
                  refine hK35 _ _ ?_
                  refine wp_seq_k (fun K37 hK37 => ?_)
                  refine wp_region_lit ?_
                  refine sqv hf (r_move rfl) rfl rfl rfl ?_; clear hf fa; intro fa hf
                  refine sqv hf (r_move rfl) rfl rfl rfl ?_; clear hf fa; intro fa hf
                  have hy11 : (rp.1)[k]? = some kn := hkn
                  have hel11 := RdS.at (Row.rd (by intros; rfl) hrrk) hy11
                  obtain ⟨_, _, hab, hlr9, hel11⟩ := hel11
                  cases hab
                  refine sqv hf (r_ixa (sz := 1) (j := k) rfl rfl Try.underlying28 (by kernel_rfl) rfl (by omega) rfl) rfl rfl rfl ?_; clear hf fa; intro fa hf
                  refine sqv hf (r_load (v := (.int .i64 kn)) rfl Try.underlying3 rfl (cellsAt_cell hel11 (i := 0) rfl rfl)) rfl rfl rfl ?_; clear hf fa; intro fa hf
                  refine sqv hf (r_move rfl) rfl rfl rfl ?_; clear hf fa; intro fa hf
                  refine sqv hf (r_eq rfl rfl) rfl rfl rfl ?_; clear hf fa; intro fa hf
                  apply wpList_nil
                  (try simp only [Exit.then, Exit.inBlock, ↓reduceIte, Nat.reduceEqDiff])
                  refine hK37 _ _ ?_
                  refine wp_cond_split (t := (decide (kn = kd))) (hf.ev rfl) (fun hqt143_3 => ?_) (fun hqt143_3 => ?_)
                  · have hqt143_3b := hqt143_3
                    try simp only [decide_eq_true_eq, Bool.and_eq_true, Bool.or_eq_true, Bool.not_eq_true', decide_eq_false_iff_not, ne_eq, Bool.not_eq_true] at hqt143_3
                    refine wp_region_lit ?_
                    refine sqv hf (r_move rfl) rfl rfl rfl ?_; clear hf fa; intro fa hf
                    refine sqv hf (r_fa rfl Try.underlying103 (f := 1) (q := 1) rfl (by kernel_rfl) rfl) rfl rfl rfl ?_; clear hf fa; intro fa hf
                    refine sqv hf (r_load (v := (.string y.2.1)) rfl Try.underlying9 rfl (cell_blk hk7 rfl)) rfl rfl rfl ?_; clear hf fa; intro fa hf
                    refine sqdt hf (d_bslice (z := (.string ⟨#[]⟩)) (sz := 1) (vs := [(0, (.string y.2.1))]) (cs := #[(.string y.2.1)]) rfl Try.underlying54 (by kernel_rfl) rfl (by kernel_rfl)) rfl rfl rfl ?_; clear hf fa; rintro fa _ w20 ⟨b8, rfl, hle8, hk13, he13⟩ hf
                    have hBb8 : w.heap.size ≤ b8 := Nat.le_trans hb.size hle8
                    have : b1 < b8 := Nat.lt_of_lt_of_le (blk_lt hkb1) hle8
                    have : b2 < b8 := Nat.lt_of_lt_of_le (blk_lt hkb2) hle8
                    have : b3 < b8 := Nat.lt_of_lt_of_le (blk_lt hk6) hle8
                    have : b4 < b8 := Nat.lt_of_lt_of_le (blk_lt hk7) hle8
                    have : b5 < b8 := Nat.lt_of_lt_of_le (blk_lt hk9) hle8
                    have : rb2 < b8 := Nat.lt_of_lt_of_le (Row.lt hrrk _ rfl).2 hle8
                    have hnr3 : (Value.slice rNa ((((namK m kd (m.2.1.list.take k))).length)) rNc).ownBlock ≠ some b8 := fun hq => by have := (Row.lt hrN _ hq).2; omega
                    replace hkb1 := blk_ext hkb1 he13
                    replace hkb2 := blk_ext hkb2 he13
                    replace hk6 := blk_ext hk6 he13
                    replace hk7 := blk_ext hk7 he13
                    replace hk9 := blk_ext hk9 he13
                    replace hrpl := Row.ext hrpl he13
                    replace hrrk := Row.ext hrrk he13
                    replace hrN := Row.ext hrN he13
                    replace hb := hb.trans (Below.mono he13 hb.size)
                    have hs3 := Row.rd (by intros; rfl) (Row.of_new (k := 1) (V := vStr) (l := [y.2.1]) hk13 (Nat.le_refl _) rfl rfl (Nat.le_of_ble_eq_true rfl))
                    refine sqdt hf (d_append (V := vStr) (k := 1) (e := 9) (bytes := 16) (z := (.string ⟨#[]⟩)) (news := [y.2.1]) (base := w.heap.size) (by intros; rfl) (by intro x u hu; simp only [vStr, List.mem_singleton] at hu; subst hu; rfl) rfl rfl Try.underlying54 (by kernel_rfl) rfl rfl rfl hrN hs3 rfl (fun h => by cases h) (by first | omega | (simp only [List.length_cons, List.length_nil, List.length_append]; omega)) (by have := hb.size; omega)) rfl rfl rfl ?_; clear hf fa; rintro fa v w21 ⟨hr5, hg7⟩ hf; obtain ⟨ra3, rc3, rfl, hcrc3, hmrc3⟩ := Row.slice hr5
                    replace hkb1 := blk_row' hkb1 hg7 (Row.ne_type hrN hkb1 rfl)
                    replace hkb2 := blk_row' hkb2 hg7 (Row.ne_type hrN hkb2 rfl)
                    replace hk6 := blk_row' hk6 hg7 (Row.ne_type hrN hk6 rfl)
                    replace hk7 := blk_row' hk7 hg7 (Row.ne_type hrN hk7 rfl)
                    replace hk9 := blk_row' hk9 hg7 (Row.ne_type hrN hk9 rfl)
                    replace hrpl := Row.grown' hrpl hg7 (Row.ne_row hrpl hrN rfl)
                    replace hrrk := Row.grown' hrrk hg7 (Row.ne_row hrrk hrN rfl)
                    replace hb := hb.trans (row_below hrN hg7 hb.size (by have := hb.size; omega))
                    refine sqv hf (r_assign rfl) rfl rfl rfl ?_; clear hf fa; intro fa hf
                    apply wpList_nil
                    (try simp only [Exit.then, Exit.inBlock, ↓reduceIte, Nat.reduceEqDiff])
                    refine hK22 _ _ ?_
                    refine wp_region_lit ?_
                    refine sqv hf (r_move rfl) rfl rfl rfl ?_; clear hf fa; intro fa hf
                    refine sqv hf (r_add (C := (((k : Nat) : Int) + (1 : Int))) rfl rfl (by rw [IntKind.wrap_i64]; omega)) rfl rfl rfl ?_; clear hf fa; intro fa hf
                    refine sqv hf (r_assign rfl) rfl rfl rfl ?_; clear hf fa; intro fa hf
                    apply wpList_nil
                    (try simp only [Exit.then, Exit.inBlock, ↓reduceIte, Nat.reduceEqDiff])
                    have hc5 := congrArg List.length (cntK_yes (kd := 5) hy (by rw [hkn0]; exact hqt135_2))
                    have hnl := congrArg List.length (namK_yes (kd := kd) hy (by rw [hkn0]; exact hqt143_3))
                    (try simp only [List.length_append, List.length_cons, List.length_nil] at hc5); (try simp only [List.length_append, List.length_cons, List.length_nil] at hnl)
                    refine hKL1 _ _ _ (by omega) ⟨(k + 1), ra3, rc3, rfl, hf.sub ⟨rfl, rfl, rfl, rfl, (some_int (by first | rfl | omega)), (some_int (by first | rfl | omega)), (some_sl (by first | omega | (simp only [List.length_append, List.length_cons, List.length_nil]; omega) | (simp <;> omega)) rfl), trivial⟩, hb, hrpl, hrrk, (rowToK hr5 (namK_yes (kd := kd) hy (by rw [hkn0]; exact hqt143_3))), hkb1, hkb2, by omega⟩
                  · have hqt143_3b := hqt143_3
                    replace hqt143_3 := Bool.eq_false_iff.1 hqt143_3
                    try simp only [ne_eq, decide_eq_true_eq, Bool.and_eq_true, Bool.or_eq_true, Bool.not_eq_true', decide_eq_false_iff_not] at hqt143_3
                    refine wp_skip ?_
                    (try simp only [Exit.then, Exit.inBlock, ↓reduceIte, Nat.reduceEqDiff])
                    refine hK22 _ _ ?_
                    refine wp_region_lit ?_
                    refine sqv hf (r_move rfl) rfl rfl rfl ?_; clear hf fa; intro fa hf
                    refine sqv hf (r_add (C := (((k : Nat) : Int) + (1 : Int))) rfl rfl (by rw [IntKind.wrap_i64]; omega)) rfl rfl rfl ?_; clear hf fa; intro fa hf
                    refine sqv hf (r_assign rfl) rfl rfl rfl ?_; clear hf fa; intro fa hf
                    apply wpList_nil
                    (try simp only [Exit.then, Exit.inBlock, ↓reduceIte, Nat.reduceEqDiff])
                    have hc5 := congrArg List.length (cntK_yes (kd := 5) hy (by rw [hkn0]; exact hqt135_2))
                    have hnl := congrArg List.length (namK_no (kd := kd) hy (by rw [hkn0]; exact hqt143_3))
                    (try simp only [List.length_append, List.length_cons, List.length_nil] at hc5); (try simp only [List.length_append, List.length_cons, List.length_nil] at hnl)
                    refine hKL1 _ _ _ (by omega) ⟨(k + 1), rNa, rNc, rfl, hf.sub ⟨rfl, rfl, rfl, rfl, (some_int (by first | rfl | omega)), (some_int (by first | rfl | omega)), (some_sl (by first | omega | (simp only [List.length_append, List.length_cons, List.length_nil]; omega) | (simp <;> omega)) rfl), trivial⟩, hb, hrpl, hrrk, (rowToK hrN (namK_no (kd := kd) hy (by rw [hkn0]; exact hqt143_3))), hkb1, hkb2, by omega⟩
                · have hqt135_2b := hqt135_2
                  replace hqt135_2 := Bool.eq_false_iff.1 hqt135_2
                  try simp only [ne_eq, decide_eq_true_eq, Bool.and_eq_true, Bool.or_eq_true, Bool.not_eq_true', decide_eq_false_iff_not] at hqt135_2
                  refine wp_skip ?_
                  (try simp only [Exit.then, Exit.inBlock, ↓reduceIte, Nat.reduceEqDiff])
                  refine hK35 _ _ ?_
                  refine wp_seq_k (fun K38 hK38 => ?_)
                  refine wp_region_lit ?_
                  refine sqv hf (r_move rfl) rfl rfl rfl ?_; clear hf fa; intro fa hf
                  refine sqv hf (r_move rfl) rfl rfl rfl ?_; clear hf fa; intro fa hf
                  have hy12 : (rp.1)[k]? = some kn := hkn
                  have hel12 := RdS.at (Row.rd (by intros; rfl) hrrk) hy12
                  obtain ⟨_, _, hab, hlr10, hel12⟩ := hel12
                  cases hab
                  refine sqv hf (r_ixa (sz := 1) (j := k) rfl rfl Try.underlying28 (by kernel_rfl) rfl (by omega) rfl) rfl rfl rfl ?_; clear hf fa; intro fa hf
                  refine sqv hf (r_load (v := (.int .i64 kn)) rfl Try.underlying3 rfl (cellsAt_cell hel12 (i := 0) rfl rfl)) rfl rfl rfl ?_; clear hf fa; intro fa hf
                  refine sqv hf (r_move rfl) rfl rfl rfl ?_; clear hf fa; intro fa hf
                  refine sqv hf (r_eq rfl rfl) rfl rfl rfl ?_; clear hf fa; intro fa hf
                  apply wpList_nil
                  (try simp only [Exit.then, Exit.inBlock, ↓reduceIte, Nat.reduceEqDiff])
                  refine hK38 _ _ ?_
                  refine wp_cond_split (t := (decide (kn = kd))) (hf.ev rfl) (fun hqt143_4 => ?_) (fun hqt143_4 => ?_)
                  · have hqt143_4b := hqt143_4
                    try simp only [decide_eq_true_eq, Bool.and_eq_true, Bool.or_eq_true, Bool.not_eq_true', decide_eq_false_iff_not, ne_eq, Bool.not_eq_true] at hqt143_4
                    refine wp_region_lit ?_
                    refine sqv hf (r_move rfl) rfl rfl rfl ?_; clear hf fa; intro fa hf
                    refine sqv hf (r_fa rfl Try.underlying103 (f := 1) (q := 1) rfl (by kernel_rfl) rfl) rfl rfl rfl ?_; clear hf fa; intro fa hf
                    refine sqv hf (r_load (v := (.string y.2.1)) rfl Try.underlying9 rfl (cell_blk hk7 rfl)) rfl rfl rfl ?_; clear hf fa; intro fa hf
                    refine sqdt hf (d_bslice (z := (.string ⟨#[]⟩)) (sz := 1) (vs := [(0, (.string y.2.1))]) (cs := #[(.string y.2.1)]) rfl Try.underlying54 (by kernel_rfl) rfl (by kernel_rfl)) rfl rfl rfl ?_; clear hf fa; rintro fa _ w22 ⟨b9, rfl, hle9, hk14, he14⟩ hf
                    have hBb9 : w.heap.size ≤ b9 := Nat.le_trans hb.size hle9
                    have : b1 < b9 := Nat.lt_of_lt_of_le (blk_lt hkb1) hle9
                    have : b2 < b9 := Nat.lt_of_lt_of_le (blk_lt hkb2) hle9
                    have : b3 < b9 := Nat.lt_of_lt_of_le (blk_lt hk6) hle9
                    have : b4 < b9 := Nat.lt_of_lt_of_le (blk_lt hk7) hle9
                    have : b5 < b9 := Nat.lt_of_lt_of_le (blk_lt hk9) hle9
                    have : rb2 < b9 := Nat.lt_of_lt_of_le (Row.lt hrrk _ rfl).2 hle9
                    have hnr4 : (Value.slice rNa ((((namK m kd (m.2.1.list.take k))).length)) rNc).ownBlock ≠ some b9 := fun hq => by have := (Row.lt hrN _ hq).2; omega
                    replace hkb1 := blk_ext hkb1 he14
                    replace hkb2 := blk_ext hkb2 he14
                    replace hk6 := blk_ext hk6 he14
                    replace hk7 := blk_ext hk7 he14
                    replace hk9 := blk_ext hk9 he14
                    replace hrpl := Row.ext hrpl he14
                    replace hrrk := Row.ext hrrk he14
                    replace hrN := Row.ext hrN he14
                    replace hb := hb.trans (Below.mono he14 hb.size)
                    have hs4 := Row.rd (by intros; rfl) (Row.of_new (k := 1) (V := vStr) (l := [y.2.1]) hk14 (Nat.le_refl _) rfl rfl (Nat.le_of_ble_eq_true rfl))
                    refine sqdt hf (d_append (V := vStr) (k := 1) (e := 9) (bytes := 16) (z := (.string ⟨#[]⟩)) (news := [y.2.1]) (base := w.heap.size) (by intros; rfl) (by intro x u hu; simp only [vStr, List.mem_singleton] at hu; subst hu; rfl) rfl rfl Try.underlying54 (by kernel_rfl) rfl rfl rfl hrN hs4 rfl (fun h => by cases h) (by first | omega | (simp only [List.length_cons, List.length_nil, List.length_append]; omega)) (by have := hb.size; omega)) rfl rfl rfl ?_; clear hf fa; rintro fa v w23 ⟨hr6, hg8⟩ hf; obtain ⟨ra4, rc4, rfl, hcrc4, hmrc4⟩ := Row.slice hr6
                    replace hkb1 := blk_row' hkb1 hg8 (Row.ne_type hrN hkb1 rfl)
                    replace hkb2 := blk_row' hkb2 hg8 (Row.ne_type hrN hkb2 rfl)
                    replace hk6 := blk_row' hk6 hg8 (Row.ne_type hrN hk6 rfl)
                    replace hk7 := blk_row' hk7 hg8 (Row.ne_type hrN hk7 rfl)
                    replace hk9 := blk_row' hk9 hg8 (Row.ne_type hrN hk9 rfl)
                    replace hrpl := Row.grown' hrpl hg8 (Row.ne_row hrpl hrN rfl)
                    replace hrrk := Row.grown' hrrk hg8 (Row.ne_row hrrk hrN rfl)
                    replace hb := hb.trans (row_below hrN hg8 hb.size (by have := hb.size; omega))
                    refine sqv hf (r_assign rfl) rfl rfl rfl ?_; clear hf fa; intro fa hf
                    apply wpList_nil
                    (try simp only [Exit.then, Exit.inBlock, ↓reduceIte, Nat.reduceEqDiff])
                    refine hK22 _ _ ?_
                    refine wp_region_lit ?_
                    refine sqv hf (r_move rfl) rfl rfl rfl ?_; clear hf fa; intro fa hf
                    refine sqv hf (r_add (C := (((k : Nat) : Int) + (1 : Int))) rfl rfl (by rw [IntKind.wrap_i64]; omega)) rfl rfl rfl ?_; clear hf fa; intro fa hf
                    refine sqv hf (r_assign rfl) rfl rfl rfl ?_; clear hf fa; intro fa hf
                    apply wpList_nil
                    (try simp only [Exit.then, Exit.inBlock, ↓reduceIte, Nat.reduceEqDiff])
                    have hc5 := congrArg List.length (cntK_no (kd := 5) hy (by rw [hkn0]; exact hqt135_2))
                    have hnl := congrArg List.length (namK_yes (kd := kd) hy (by rw [hkn0]; exact hqt143_4))
                    (try simp only [List.length_append, List.length_cons, List.length_nil] at hc5); (try simp only [List.length_append, List.length_cons, List.length_nil] at hnl)
                    refine hKL1 _ _ _ (by omega) ⟨(k + 1), ra4, rc4, rfl, hf.sub ⟨rfl, rfl, rfl, rfl, (some_int (by first | rfl | omega)), (some_int (by first | rfl | omega)), (some_sl (by first | omega | (simp only [List.length_append, List.length_cons, List.length_nil]; omega) | (simp <;> omega)) rfl), trivial⟩, hb, hrpl, hrrk, (rowToK hr6 (namK_yes (kd := kd) hy (by rw [hkn0]; exact hqt143_4))), hkb1, hkb2, by omega⟩
                  · have hqt143_4b := hqt143_4
                    replace hqt143_4 := Bool.eq_false_iff.1 hqt143_4
                    try simp only [ne_eq, decide_eq_true_eq, Bool.and_eq_true, Bool.or_eq_true, Bool.not_eq_true', decide_eq_false_iff_not] at hqt143_4
                    refine wp_skip ?_
                    (try simp only [Exit.then, Exit.inBlock, ↓reduceIte, Nat.reduceEqDiff])
                    refine hK22 _ _ ?_
                    refine wp_region_lit ?_
                    refine sqv hf (r_move rfl) rfl rfl rfl ?_; clear hf fa; intro fa hf
                    refine sqv hf (r_add (C := (((k : Nat) : Int) + (1 : Int))) rfl rfl (by rw [IntKind.wrap_i64]; omega)) rfl rfl rfl ?_; clear hf fa; intro fa hf
                    refine sqv hf (r_assign rfl) rfl rfl rfl ?_; clear hf fa; intro fa hf
                    apply wpList_nil
                    (try simp only [Exit.then, Exit.inBlock, ↓reduceIte, Nat.reduceEqDiff])
                    have hc5 := congrArg List.length (cntK_no (kd := 5) hy (by rw [hkn0]; exact hqt135_2))
                    have hnl := congrArg List.length (namK_no (kd := kd) hy (by rw [hkn0]; exact hqt143_4))
                    (try simp only [List.length_append, List.length_cons, List.length_nil] at hc5); (try simp only [List.length_append, List.length_cons, List.length_nil] at hnl)
                    refine hKL1 _ _ _ (by omega) ⟨(k + 1), rNa, rNc, rfl, hf.sub ⟨rfl, rfl, rfl, rfl, (some_int (by first | rfl | omega)), (some_int (by first | rfl | omega)), (some_sl (by first | omega | (simp only [List.length_append, List.length_cons, List.length_nil]; omega) | (simp <;> omega)) rfl), trivial⟩, hb, hrpl, hrrk, (rowToK hrN (namK_no (kd := kd) hy (by rw [hkn0]; exact hqt143_4))), hkb1, hkb2, by omega⟩
        · have hqt73_1b := hqt73_1
          replace hqt73_1 := Bool.eq_false_iff.1 hqt73_1
          try simp only [ne_eq, decide_eq_true_eq, Bool.and_eq_true, Bool.or_eq_true, Bool.not_eq_true', decide_eq_false_iff_not] at hqt73_1
          refine wp_exit ?_
          (try simp only [Exit.then, Exit.inBlock, ↓reduceIte, Nat.reduceEqDiff])
          refine hK18 _ _ ?_
          refine wp_seq_k (fun K39 hK39 => ?_)
          have htn : m.2.1.list.take k = m.2.1.list := List.take_of_length_le (by rw [Sl.list_length]; omega)
          rw [htn] at hf hrN hcrN hbl hbc
          have hms : pl.2.2.1 < 4294967296 ∧ 0 ≤ pl.2.2.1 := by rw [q7]; exact ⟨hD.2.2, hD.2.1⟩
          refine wp_region_lit ?_
          refine sqv hf (r_fa rfl Try.underlying67 (f := 11) (q := 11) rfl (by kernel_rfl) rfl) rfl rfl rfl ?_; clear hf fa; intro fa hf
          refine sqv hf (r_loadA (cs := [(.bool m.2.2.2.2.2.2.2.2.2.2.2.1.1), (.int .u32 m.2.2.2.2.2.2.2.2.2.2.2.1.2.1), (.int .u32 m.2.2.2.2.2.2.2.2.2.2.2.1.2.2.1), (.int .u32 m.2.2.2.2.2.2.2.2.2.2.2.1.2.2.2.1), (.int .u32 m.2.2.2.2.2.2.2.2.2.2.2.1.2.2.2.2.1), (.slice m.2.2.2.2.2.2.2.2.2.2.2.1.2.2.2.2.2.1.at' m.2.2.2.2.2.2.2.2.2.2.2.1.2.2.2.2.2.1.len m.2.2.2.2.2.2.2.2.2.2.2.1.2.2.2.2.2.1.cap)]) rfl Try.underlying65 rfl (by kernel_rfl) (cellsAt_part (d := 11) (n := 6) (cellsAt_blk hkb1) rfl rfl)) rfl rfl rfl ?_; clear hf fa; intro fa hf
          refine sqdt hf (d_alloc (z := (.agg #[(.bool false), (.int .u32 (0 : Int)), (.int .u32 (0 : Int)), (.int .u32 (0 : Int)), (.int .u32 (0 : Int)), (.slice none 0 0)])) (cs := #[(.bool false), (.int .u32 (0 : Int)), (.int .u32 (0 : Int)), (.int .u32 (0 : Int)), (.int .u32 (0 : Int)), (.slice none 0 0)]) (by kernel_rfl) rfl) rfl rfl rfl ?_; clear hf fa; rintro fa _ w24 ⟨b10, rfl, hle10, hk15, he15⟩ hf
          have hBb10 : w.heap.size ≤ b10 := Nat.le_trans hb.size hle10
          have : b1 < b10 := Nat.lt_of_lt_of_le (blk_lt hkb1) hle10
          have : b2 < b10 := Nat.lt_of_lt_of_le (blk_lt hkb2) hle10
          replace hkb1 := blk_ext hkb1 he15
          replace hkb2 := blk_ext hkb2 he15
          replace hrpl := Row.ext hrpl he15
          replace hrrk := Row.ext hrrk he15
          replace hrN := Row.ext hrN he15
          replace hb := hb.trans (Below.mono he15 hb.size)
          refine sqn hf (d_storeK (T := 65) (v := (.agg #[(.bool m.2.2.2.2.2.2.2.2.2.2.2.1.1), (.int .u32 m.2.2.2.2.2.2.2.2.2.2.2.1.2.1), (.int .u32 m.2.2.2.2.2.2.2.2.2.2.2.1.2.2.1), (.int .u32 m.2.2.2.2.2.2.2.2.2.2.2.1.2.2.2.1), (.int .u32 m.2.2.2.2.2.2.2.2.2.2.2.1.2.2.2.2.1), (.slice m.2.2.2.2.2.2.2.2.2.2.2.1.2.2.2.2.2.1.at' m.2.2.2.2.2.2.2.2.2.2.2.1.2.2.2.2.2.1.len m.2.2.2.2.2.2.2.2.2.2.2.1.2.2.2.2.2.1.cap)])) (cs := #[(.bool false), (.int .u32 (0 : Int)), (.int .u32 (0 : Int)), (.int .u32 (0 : Int)), (.int .u32 (0 : Int)), (.slice none 0 0)]) (cs' := #[(.bool m.2.2.2.2.2.2.2.2.2.2.2.1.1), (.int .u32 m.2.2.2.2.2.2.2.2.2.2.2.1.2.1), (.int .u32 m.2.2.2.2.2.2.2.2.2.2.2.1.2.2.1), (.int .u32 m.2.2.2.2.2.2.2.2.2.2.2.1.2.2.2.1), (.int .u32 m.2.2.2.2.2.2.2.2.2.2.2.1.2.2.2.2.1), (.slice m.2.2.2.2.2.2.2.2.2.2.2.1.2.2.2.2.2.1.at' m.2.2.2.2.2.2.2.2.2.2.2.1.2.2.2.2.2.1.len m.2.2.2.2.2.2.2.2.2.2.2.1.2.2.2.2.2.1.cap)]) rfl rfl (by kernel_rfl) (by kernel_rfl) hk15 (by kernel_rfl) (by kernel_rfl)) rfl rfl ?_; clear hf fa; rintro fa _ w25 ⟨hk16, hg9⟩ hf
          replace hkb1 := blk_grown hkb1 hg9 (by omega)
          replace hkb2 := blk_grown hkb2 hg9 (by omega)
          replace hrpl := Row.grown hrpl hg9 (Row.ne_type hrpl hk15 rfl)
          replace hrrk := Row.grown hrrk hg9 (Row.ne_type hrrk hk15 rfl)
          replace hrN := Row.grown hrN hg9 (Row.ne_type hrN hk15 rfl)
          replace hb := hb.trans (grown_below hg9 hb.size hBb10)
          apply wpList_nil
          (try simp only [Exit.then, Exit.inBlock, ↓reduceIte, Nat.reduceEqDiff])
          refine hK39 _ _ ?_
          refine wp_seq_k (fun K40 hK40 => ?_)
          refine wp_region_un (fun wq => Below w25.heap.size w25 wq) (fun w w' => Below w.heap.size w w')
            (fun V => [(fun x _ => x = (.pointer (some ⟨b2, 1, none⟩))), (fun x _ => x = (.int .i64 pl.2.1)), (fun x _ => x = (.pointer (some ⟨b10, 1, none⟩))), (fun x _ => x = (.int .u32 m.2.2.2.2.2.2.2.2.2.2.2.1.2.1)), (fun x _ => x = (.int .i64 m.2.2.2.2.2.2.2.2.2.2.2.1.2.1)), (fun x _ => x = (.bool true)), (fun x _ => x = (.bool true)), (fun x _ => x = (.pointer (some ⟨b2, 2, none⟩))), (fun x _ => x = (.int .i64 pl.2.2.1)), (fun x _ => x = (.pointer (some ⟨b10, 3, none⟩))), (fun x _ => x = (.int .u32 m.2.2.2.2.2.2.2.2.2.2.2.1.2.2.2.1)), (fun x _ => x = (.int .i64 m.2.2.2.2.2.2.2.2.2.2.2.1.2.2.2.1)), (fun x _ => x = (.bool true)), (fun x _ => x = (.bool true)), (fun x _ => x = (.bool true)), (fun x _ => x = (.pointer (some ⟨b2, 3, none⟩))), (fun x _ => x = (.int .u32 pl.2.2.2.1)), (fun x _ => x = (.pointer (some ⟨b10, 2, none⟩))), (fun x _ => x = (.int .u32 m.2.2.2.2.2.2.2.2.2.2.2.1.2.2.1)), (fun x _ => x = (.bool true)), (fun x _ => x = (.bool true)), (fun x _ => x = (.bool true)), (fun x _ => x = (.pointer (some ⟨b2, 4, none⟩))), (fun x _ => x = (.int .u32 pl.2.2.2.2.1)), (fun x _ => x = (.pointer (some ⟨b10, 4, none⟩))), (fun x _ => x = (.int .u32 m.2.2.2.2.2.2.2.2.2.2.2.1.2.2.2.2.1)), (fun x _ => x = (.bool true)), (fun x _ => x = (.bool true)), (fun x _ => x = (.bool true)), (fun x _ => x = (.pointer (some ⟨b2, 5, none⟩))), (fun x _ => x = (.int .i64 pl.2.2.2.2.2.1)), (fun x _ => x = (.int .i64 (((cntK m 5 m.2.1.list).length : Nat) : Int))), (fun x _ => x = (.bool true)), (fun x _ => x = (.bool true)), (fun x _ => x = (.bool true)), (fun x _ => x = (.agg #[(.slice pla pl.1.length plc), (.int .i64 pl.2.1), (.int .i64 pl.2.2.1), (.int .u32 pl.2.2.2.1), (.int .u32 pl.2.2.2.2.1), (.int .i64 pl.2.2.2.2.2.1)])), (fun x _ => x = (.int .i64 (pl.2.2.1 + pl.2.2.2.2.2.1))), (fun x _ => x = (.pointer (some ⟨b10, 3, none⟩))), (fun x _ => x = (.int .u32 m.2.2.2.2.2.2.2.2.2.2.2.1.2.2.2.1)), (fun x _ => x = (.int .i64 m.2.2.2.2.2.2.2.2.2.2.2.1.2.2.2.1)), (fun x _ => x = (.int .i64 (((cntK m 5 m.2.1.list).length : Nat) : Int))), (fun x _ => x = (.int .i64 (m.2.2.2.2.2.2.2.2.2.2.2.1.2.2.2.1 + (((cntK m 5 m.2.1.list).length : Nat) : Int)))), (fun x _ => x = (.bool true)), (fun x _ => x = (.bool true)), (fun x _ => x = (.bool true)), (fun x _ => x = (.agg #[(.slice pla pl.1.length plc), (.int .i64 pl.2.1), (.int .i64 pl.2.2.1), (.int .u32 pl.2.2.2.1), (.int .u32 pl.2.2.2.2.1), (.int .i64 pl.2.2.2.2.2.1)])), (fun x _ => x = (.int .i64 kd)), (fun x wq => ∃ a c, x = .slice a (((symP kd pl.1)).length) c ∧ Row 1 vStr 9 w25.heap.size wq x (symP kd pl.1)), (fun x _ => x = (.slice rNa ((namK m kd m.2.1.list).length) rNc)), (fun x _ => x = (.bool true)), (fun x _ => x = (.bool true)), (fun x _ => x = (.bool true))])
            []
            [[], [0], [], [2], [3], [1, 4], [5], [6], [6, 7], [6], [6, 9], [6, 10], [6, 8, 11], [6, 12], [6, 13], [14], [14, 15], [14], [14, 17], [14, 16, 18], [14, 19], [14, 20], [21], [21, 22], [21], [21, 24], [21, 23, 25], [21, 26], [21, 27], [28], [28, 29], [28], [28, 30, 31], [28, 32], [28, 33], [34], [34, 35], [34], [34, 37], [34, 38], [34], [34, 39, 40], [34, 36, 41], [34, 42], [36, 43], [44], [44], [44, 45, 46], [44], [44, 47, 48], [44, 49], [0, 1, 2, 3, 4, 5, 6, 7, 8, 9, 10, 11, 12, 13, 14, 15, 16, 17, 18, 19, 20, 21, 22, 23, 24, 25, 26, 27, 28, 29, 30, 31, 32, 33, 34, 35, 36, 37, 38, 39, 40, 41, 42, 43, 44, 45, 46, 47, 48, 49, 50]]
            hf (by kernel_rfl) (by kernel_rfl) (fun _ => rfl) ((Below.refl _ _).drew) (fun a b h1 h2 => h1.trans (h2.mono h1.size)) (fun _ _ h => h.size) (fun V => ⟨kept_eq, kept_eq, kept_eq, kept_eq, kept_eq, kept_eq, kept_eq, kept_eq, kept_eq, kept_eq, kept_eq, kept_eq, kept_eq, kept_eq, kept_eq, kept_eq, kept_eq, kept_eq, kept_eq, kept_eq, kept_eq, kept_eq, kept_eq, kept_eq, kept_eq, kept_eq, kept_eq, kept_eq, kept_eq, kept_eq, kept_eq, kept_eq, kept_eq, kept_eq, kept_eq, kept_eq, kept_eq, kept_eq, kept_eq, kept_eq, kept_eq, kept_eq, kept_eq, kept_eq, kept_eq, kept_eq, kept_eq, keptE, kept_eq, kept_eq, kept_eq, kept_eq, trivial⟩) (fun _ _ _ _ _ => rfl) ?_ ?_
          · skip
            intro V
            refine ⟨fun wu0 hC hd => ?_, ?_⟩
            · clear hd
              replace hb := hb.trans (hC.mono hb.size)
              replace hkb1 := blk_ext hkb1 hC
              replace hkb2 := blk_ext hkb2 hC
              replace hk16 := blk_ext hk16 hC
              replace hrpl := Row.ext hrpl hC
              replace hrrk := Row.ext hrrk hC
              replace hrN := Row.ext hrN hC
              exact Runs.does (r_fa rfl Try.underlying72 (f := 1) (q := 1) rfl (by kernel_rfl) rfl) ⟨Below.refl _ _, rfl, nofr rfl⟩
            refine ⟨fun wu1 hC hd => ?_, ?_⟩
            · obtain ⟨h0, _⟩ := hd
              skip
              replace h0 : V 0 = (.pointer (some ⟨b2, 1, none⟩)) := h0
              replace hb := hb.trans (hC.mono hb.size)
              replace hkb1 := blk_ext hkb1 hC
              replace hkb2 := blk_ext hkb2 hC
              replace hk16 := blk_ext hk16 hC
              replace hrpl := Row.ext hrpl hC
              replace hrrk := Row.ext hrrk hC
              replace hrN := Row.ext hrN hC
              exact Runs.does (r_load (v := (.int .i64 pl.2.1)) (congrArg some h0) Try.underlying3 rfl (cell_blk hkb2 rfl)) ⟨Below.refl _ _, rfl, nofr rfl⟩
            refine ⟨fun wu2 hC hd => ?_, ?_⟩
            · clear hd
              replace hb := hb.trans (hC.mono hb.size)
              replace hkb1 := blk_ext hkb1 hC
              replace hkb2 := blk_ext hkb2 hC
              replace hk16 := blk_ext hk16 hC
              replace hrpl := Row.ext hrpl hC
              replace hrrk := Row.ext hrrk hC
              replace hrN := Row.ext hrN hC
              exact Runs.does (r_fa rfl Try.underlying65 (f := 1) (q := 1) rfl (by kernel_rfl) rfl) ⟨Below.refl _ _, rfl, nofr rfl⟩
            refine ⟨fun wu3 hC hd => ?_, ?_⟩
            · obtain ⟨h2, _⟩ := hd
              skip
              replace h2 : V 2 = (.pointer (some ⟨b10, 1, none⟩)) := h2
              replace hb := hb.trans (hC.mono hb.size)
              replace hkb1 := blk_ext hkb1 hC
              replace hkb2 := blk_ext hkb2 hC
              replace hk16 := blk_ext hk16 hC
              replace hrpl := Row.ext hrpl hC
              replace hrrk := Row.ext hrrk hC
              replace hrN := Row.ext hrN hC
              exact Runs.does (r_load (v := (.int .u32 m.2.2.2.2.2.2.2.2.2.2.2.1.2.1)) (congrArg some h2) Try.underlying44 rfl (cell_blk hk16 rfl)) ⟨Below.refl _ _, rfl, nofr rfl⟩
            refine ⟨fun wu4 hC hd => ?_, ?_⟩
            · obtain ⟨h3, _⟩ := hd
              skip
              replace h3 : V 3 = (.int .u32 m.2.2.2.2.2.2.2.2.2.2.2.1.2.1) := h3
              replace hb := hb.trans (hC.mono hb.size)
              replace hkb1 := blk_ext hkb1 hC
              replace hkb2 := blk_ext hkb2 hC
              replace hk16 := blk_ext hk16 hC
              replace hrpl := Row.ext hrpl hC
              replace hrrk := Row.ext hrrk hC
              replace hrN := Row.ext hrN hC
              exact Runs.does (r_conv (C := m.2.2.2.2.2.2.2.2.2.2.2.1.2.1) (congrArg some h3) Try.underlying44 Try.underlying3 (by rw [IntKind.wrap_i64]; omega)) ⟨Below.refl _ _, rfl, nofr rfl⟩
            refine ⟨fun wu5 hC hd => ?_, ?_⟩
            · obtain ⟨h1, h4, _⟩ := hd
              skip
              skip
              replace h1 : V 1 = (.int .i64 pl.2.1) := h1
              replace h4 : V 4 = (.int .i64 m.2.2.2.2.2.2.2.2.2.2.2.1.2.1) := h4
              replace hb := hb.trans (hC.mono hb.size)
              replace hkb1 := blk_ext hkb1 hC
              replace hkb2 := blk_ext hkb2 hC
              replace hk16 := blk_ext hk16 hC
              replace hrpl := Row.ext hrpl hC
              replace hrrk := Row.ext hrrk hC
              replace hrN := Row.ext hrN hC
              exact Runs.does (Runs.veq (r_eq (congrArg some h1) (congrArg some h4)) (congrArg Value.bool (show _ = true from (by rw [q6]; simp)))) ⟨Below.refl _ _, rfl, nofr rfl⟩
            refine ⟨fun wu6 hC hd => ?_, ?_⟩
            · obtain ⟨h5, _⟩ := hd
              skip
              replace h5 : V 5 = (.bool true) := h5
              replace hb := hb.trans (hC.mono hb.size)
              replace hkb1 := blk_ext hkb1 hC
              replace hkb2 := blk_ext hkb2 hC
              replace hk16 := blk_ext hk16 hC
              replace hrpl := Row.ext hrpl hC
              replace hrrk := Row.ext hrrk hC
              replace hrN := Row.ext hrN hC
              exact Runs.does (r_move (congrArg some h5)) ⟨Below.refl _ _, rfl, nofr rfl⟩
            refine ⟨fun wu7 hC hd => ?_, ?_⟩
            · obtain ⟨h6, _⟩ := hd
              skip
              replace h6 : V 6 = (.bool true) := h6
              replace hb := hb.trans (hC.mono hb.size)
              replace hkb1 := blk_ext hkb1 hC
              replace hkb2 := blk_ext hkb2 hC
              replace hk16 := blk_ext hk16 hC
              replace hrpl := Row.ext hrpl hC
              replace hrrk := Row.ext hrrk hC
              replace hrN := Row.ext hrN hC
              refine ⟨true, true, congrArg some h6, fun hact => ?_, fun hact => ?_⟩
              · exact Runs.does (r_fa rfl Try.underlying72 (f := 2) (q := 2) rfl (by kernel_rfl) rfl) ⟨Below.refl _ _, rfl, nofr rfl⟩
              · exfalso; simp at hact
            refine ⟨fun wu8 hC hd => ?_, ?_⟩
            · obtain ⟨h6, h7, _⟩ := hd
              skip
              skip
              replace h6 : V 6 = (.bool true) := h6
              replace h7 : V 7 = (.pointer (some ⟨b2, 2, none⟩)) := h7
              replace hb := hb.trans (hC.mono hb.size)
              replace hkb1 := blk_ext hkb1 hC
              replace hkb2 := blk_ext hkb2 hC
              replace hk16 := blk_ext hk16 hC
              replace hrpl := Row.ext hrpl hC
              replace hrrk := Row.ext hrrk hC
              replace hrN := Row.ext hrN hC
              refine ⟨true, true, congrArg some h6, fun hact => ?_, fun hact => ?_⟩
              · exact Runs.does (r_load (v := (.int .i64 pl.2.2.1)) (congrArg some h7) Try.underlying3 rfl (cell_blk hkb2 rfl)) ⟨Below.refl _ _, rfl, nofr rfl⟩
              · exfalso; simp at hact
            refine ⟨fun wu9 hC hd => ?_, ?_⟩
            · obtain ⟨h6, _⟩ := hd
              skip
              replace h6 : V 6 = (.bool true) := h6
              replace hb := hb.trans (hC.mono hb.size)
              replace hkb1 := blk_ext hkb1 hC
              replace hkb2 := blk_ext hkb2 hC
              replace hk16 := blk_ext hk16 hC
              replace hrpl := Row.ext hrpl hC
              replace hrrk := Row.ext hrrk hC
              replace hrN := Row.ext hrN hC
              refine ⟨true, true, congrArg some h6, fun hact => ?_, fun hact => ?_⟩
              · exact Runs.does (r_fa rfl Try.underlying65 (f := 3) (q := 3) rfl (by kernel_rfl) rfl) ⟨Below.refl _ _, rfl, nofr rfl⟩
              · exfalso; simp at hact
            refine ⟨fun wu10 hC hd => ?_, ?_⟩
            · obtain ⟨h6, h9, _⟩ := hd
              skip
              skip
              replace h6 : V 6 = (.bool true) := h6
              replace h9 : V 9 = (.pointer (some ⟨b10, 3, none⟩)) := h9
              replace hb := hb.trans (hC.mono hb.size)
              replace hkb1 := blk_ext hkb1 hC
              replace hkb2 := blk_ext hkb2 hC
              replace hk16 := blk_ext hk16 hC
              replace hrpl := Row.ext hrpl hC
              replace hrrk := Row.ext hrrk hC
              replace hrN := Row.ext hrN hC
              refine ⟨true, true, congrArg some h6, fun hact => ?_, fun hact => ?_⟩
              · exact Runs.does (r_load (v := (.int .u32 m.2.2.2.2.2.2.2.2.2.2.2.1.2.2.2.1)) (congrArg some h9) Try.underlying44 rfl (cell_blk hk16 rfl)) ⟨Below.refl _ _, rfl, nofr rfl⟩
              · exfalso; simp at hact
            refine ⟨fun wu11 hC hd => ?_, ?_⟩
            · obtain ⟨h6, h10, _⟩ := hd
              skip
              skip
              replace h6 : V 6 = (.bool true) := h6
              replace h10 : V 10 = (.int .u32 m.2.2.2.2.2.2.2.2.2.2.2.1.2.2.2.1) := h10
              replace hb := hb.trans (hC.mono hb.size)
              replace hkb1 := blk_ext hkb1 hC
              replace hkb2 := blk_ext hkb2 hC
              replace hk16 := blk_ext hk16 hC
              replace hrpl := Row.ext hrpl hC
              replace hrrk := Row.ext hrrk hC
              replace hrN := Row.ext hrN hC
              refine ⟨true, true, congrArg some h6, fun hact => ?_, fun hact => ?_⟩
              · exact Runs.does (r_conv (C := m.2.2.2.2.2.2.2.2.2.2.2.1.2.2.2.1) (congrArg some h10) Try.underlying44 Try.underlying3 (by rw [IntKind.wrap_i64]; omega)) ⟨Below.refl _ _, rfl, nofr rfl⟩
              · exfalso; simp at hact
            refine ⟨fun wu12 hC hd => ?_, ?_⟩
            · obtain ⟨h6, h8, h11, _⟩ := hd
              skip
              skip
              skip
              replace h6 : V 6 = (.bool true) := h6
              replace h8 : V 8 = (.int .i64 pl.2.2.1) := h8
              replace h11 : V 11 = (.int .i64 m.2.2.2.2.2.2.2.2.2.2.2.1.2.2.2.1) := h11
              replace hb := hb.trans (hC.mono hb.size)
              replace hkb1 := blk_ext hkb1 hC
              replace hkb2 := blk_ext hkb2 hC
              replace hk16 := blk_ext hk16 hC
              replace hrpl := Row.ext hrpl hC
              replace hrrk := Row.ext hrrk hC
              replace hrN := Row.ext hrN hC
              refine ⟨true, true, congrArg some h6, fun hact => ?_, fun hact => ?_⟩
              · exact Runs.does (Runs.veq (r_eq (congrArg some h8) (congrArg some h11)) (congrArg Value.bool (show _ = true from (by rw [q7]; simp)))) ⟨Below.refl _ _, rfl, nofr rfl⟩
              · exfalso; simp at hact
            refine ⟨fun wu13 hC hd => ?_, ?_⟩
            · obtain ⟨h6, h12, _⟩ := hd
              skip
              skip
              replace h6 : V 6 = (.bool true) := h6
              replace h12 : V 12 = (.bool true) := h12
              replace hb := hb.trans (hC.mono hb.size)
              replace hkb1 := blk_ext hkb1 hC
              replace hkb2 := blk_ext hkb2 hC
              replace hk16 := blk_ext hk16 hC
              replace hrpl := Row.ext hrpl hC
              replace hrrk := Row.ext hrrk hC
              replace hrN := Row.ext hrN hC
              exact Runs.does (r_pick (b := true) (congrArg some h6) (congrArg some h12) rfl rfl) ⟨Below.refl _ _, rfl, nofr rfl⟩
            refine ⟨fun wu14 hC hd => ?_, ?_⟩
            · obtain ⟨h6, h13, _⟩ := hd
              skip
              skip
              replace h6 : V 6 = (.bool true) := h6
              replace h13 : V 13 = (.bool true) := h13
              replace hb := hb.trans (hC.mono hb.size)
              replace hkb1 := blk_ext hkb1 hC
              replace hkb2 := blk_ext hkb2 hC
              replace hk16 := blk_ext hk16 hC
              replace hrpl := Row.ext hrpl hC
              replace hrrk := Row.ext hrrk hC
              replace hrN := Row.ext hrN hC
              exact Runs.does (r_move (congrArg some h13)) ⟨Below.refl _ _, rfl, nofr rfl⟩
            refine ⟨fun wu15 hC hd => ?_, ?_⟩
            · obtain ⟨h14, _⟩ := hd
              skip
              replace h14 : V 14 = (.bool true) := h14
              replace hb := hb.trans (hC.mono hb.size)
              replace hkb1 := blk_ext hkb1 hC
              replace hkb2 := blk_ext hkb2 hC
              replace hk16 := blk_ext hk16 hC
              replace hrpl := Row.ext hrpl hC
              replace hrrk := Row.ext hrrk hC
              replace hrN := Row.ext hrN hC
              refine ⟨true, true, congrArg some h14, fun hact => ?_, fun hact => ?_⟩
              · exact Runs.does (r_fa rfl Try.underlying72 (f := 3) (q := 3) rfl (by kernel_rfl) rfl) ⟨Below.refl _ _, rfl, nofr rfl⟩
              · exfalso; simp at hact
            refine ⟨fun wu16 hC hd => ?_, ?_⟩
            · obtain ⟨h14, h15, _⟩ := hd
              skip
              skip
              replace h14 : V 14 = (.bool true) := h14
              replace h15 : V 15 = (.pointer (some ⟨b2, 3, none⟩)) := h15
              replace hb := hb.trans (hC.mono hb.size)
              replace hkb1 := blk_ext hkb1 hC
              replace hkb2 := blk_ext hkb2 hC
              replace hk16 := blk_ext hk16 hC
              replace hrpl := Row.ext hrpl hC
              replace hrrk := Row.ext hrrk hC
              replace hrN := Row.ext hrN hC
              refine ⟨true, true, congrArg some h14, fun hact => ?_, fun hact => ?_⟩
              · exact Runs.does (r_load (v := (.int .u32 pl.2.2.2.1)) (congrArg some h15) Try.underlying44 rfl (cell_blk hkb2 rfl)) ⟨Below.refl _ _, rfl, nofr rfl⟩
              · exfalso; simp at hact
            refine ⟨fun wu17 hC hd => ?_, ?_⟩
            · obtain ⟨h14, _⟩ := hd
              skip
              replace h14 : V 14 = (.bool true) := h14
              replace hb := hb.trans (hC.mono hb.size)
              replace hkb1 := blk_ext hkb1 hC
              replace hkb2 := blk_ext hkb2 hC
              replace hk16 := blk_ext hk16 hC
              replace hrpl := Row.ext hrpl hC
              replace hrrk := Row.ext hrrk hC
              replace hrN := Row.ext hrN hC
              refine ⟨true, true, congrArg some h14, fun hact => ?_, fun hact => ?_⟩
              · exact Runs.does (r_fa rfl Try.underlying65 (f := 2) (q := 2) rfl (by kernel_rfl) rfl) ⟨Below.refl _ _, rfl, nofr rfl⟩
              · exfalso; simp at hact
            refine ⟨fun wu18 hC hd => ?_, ?_⟩
            · obtain ⟨h14, h17, _⟩ := hd
              skip
              skip
              replace h14 : V 14 = (.bool true) := h14
              replace h17 : V 17 = (.pointer (some ⟨b10, 2, none⟩)) := h17
              replace hb := hb.trans (hC.mono hb.size)
              replace hkb1 := blk_ext hkb1 hC
              replace hkb2 := blk_ext hkb2 hC
              replace hk16 := blk_ext hk16 hC
              replace hrpl := Row.ext hrpl hC
              replace hrrk := Row.ext hrrk hC
              replace hrN := Row.ext hrN hC
              refine ⟨true, true, congrArg some h14, fun hact => ?_, fun hact => ?_⟩
              · exact Runs.does (r_load (v := (.int .u32 m.2.2.2.2.2.2.2.2.2.2.2.1.2.2.1)) (congrArg some h17) Try.underlying44 rfl (cell_blk hk16 rfl)) ⟨Below.refl _ _, rfl, nofr rfl⟩
              · exfalso; simp at hact
            refine ⟨fun wu19 hC hd => ?_, ?_⟩
            · obtain ⟨h14, h16, h18, _⟩ := hd
              skip
              skip
              skip
              replace h14 : V 14 = (.bool true) := h14
              replace h16 : V 16 = (.int .u32 pl.2.2.2.1) := h16
              replace h18 : V 18 = (.int .u32 m.2.2.2.2.2.2.2.2.2.2.2.1.2.2.1) := h18
              replace hb := hb.trans (hC.mono hb.size)
              replace hkb1 := blk_ext hkb1 hC
              replace hkb2 := blk_ext hkb2 hC
              replace hk16 := blk_ext hk16 hC
              replace hrpl := Row.ext hrpl hC
              replace hrrk := Row.ext hrrk hC
              replace hrN := Row.ext hrN hC
              refine ⟨true, true, congrArg some h14, fun hact => ?_, fun hact => ?_⟩
              · exact Runs.does (Runs.veq (r_eq (congrArg some h16) (congrArg some h18)) (congrArg Value.bool (show _ = true from (by rw [q8]; simp)))) ⟨Below.refl _ _, rfl, nofr rfl⟩
              · exfalso; simp at hact
            refine ⟨fun wu20 hC hd => ?_, ?_⟩
            · obtain ⟨h14, h19, _⟩ := hd
              skip
              skip
              replace h14 : V 14 = (.bool true) := h14
              replace h19 : V 19 = (.bool true) := h19
              replace hb := hb.trans (hC.mono hb.size)
              replace hkb1 := blk_ext hkb1 hC
              replace hkb2 := blk_ext hkb2 hC
              replace hk16 := blk_ext hk16 hC
              replace hrpl := Row.ext hrpl hC
              replace hrrk := Row.ext hrrk hC
              replace hrN := Row.ext hrN hC
              exact Runs.does (r_pick (b := true) (congrArg some h14) (congrArg some h19) rfl rfl) ⟨Below.refl _ _, rfl, nofr rfl⟩
            refine ⟨fun wu21 hC hd => ?_, ?_⟩
            · obtain ⟨h14, h20, _⟩ := hd
              skip
              skip
              replace h14 : V 14 = (.bool true) := h14
              replace h20 : V 20 = (.bool true) := h20
              replace hb := hb.trans (hC.mono hb.size)
              replace hkb1 := blk_ext hkb1 hC
              replace hkb2 := blk_ext hkb2 hC
              replace hk16 := blk_ext hk16 hC
              replace hrpl := Row.ext hrpl hC
              replace hrrk := Row.ext hrrk hC
              replace hrN := Row.ext hrN hC
              exact Runs.does (r_move (congrArg some h20)) ⟨Below.refl _ _, rfl, nofr rfl⟩
            refine ⟨fun wu22 hC hd => ?_, ?_⟩
            · obtain ⟨h21, _⟩ := hd
              skip
              replace h21 : V 21 = (.bool true) := h21
              replace hb := hb.trans (hC.mono hb.size)
              replace hkb1 := blk_ext hkb1 hC
              replace hkb2 := blk_ext hkb2 hC
              replace hk16 := blk_ext hk16 hC
              replace hrpl := Row.ext hrpl hC
              replace hrrk := Row.ext hrrk hC
              replace hrN := Row.ext hrN hC
              refine ⟨true, true, congrArg some h21, fun hact => ?_, fun hact => ?_⟩
              · exact Runs.does (r_fa rfl Try.underlying72 (f := 4) (q := 4) rfl (by kernel_rfl) rfl) ⟨Below.refl _ _, rfl, nofr rfl⟩
              · exfalso; simp at hact
            refine ⟨fun wu23 hC hd => ?_, ?_⟩
            · obtain ⟨h21, h22, _⟩ := hd
              skip
              skip
              replace h21 : V 21 = (.bool true) := h21
              replace h22 : V 22 = (.pointer (some ⟨b2, 4, none⟩)) := h22
              replace hb := hb.trans (hC.mono hb.size)
              replace hkb1 := blk_ext hkb1 hC
              replace hkb2 := blk_ext hkb2 hC
              replace hk16 := blk_ext hk16 hC
              replace hrpl := Row.ext hrpl hC
              replace hrrk := Row.ext hrrk hC
              replace hrN := Row.ext hrN hC
              refine ⟨true, true, congrArg some h21, fun hact => ?_, fun hact => ?_⟩
              · exact Runs.does (r_load (v := (.int .u32 pl.2.2.2.2.1)) (congrArg some h22) Try.underlying44 rfl (cell_blk hkb2 rfl)) ⟨Below.refl _ _, rfl, nofr rfl⟩
              · exfalso; simp at hact
            refine ⟨fun wu24 hC hd => ?_, ?_⟩
            · obtain ⟨h21, _⟩ := hd
              skip
              replace h21 : V 21 = (.bool true) := h21
              replace hb := hb.trans (hC.mono hb.size)
              replace hkb1 := blk_ext hkb1 hC
              replace hkb2 := blk_ext hkb2 hC
              replace hk16 := blk_ext hk16 hC
              replace hrpl := Row.ext hrpl hC
              replace hrrk := Row.ext hrrk hC
              replace hrN := Row.ext hrN hC
              refine ⟨true, true, congrArg some h21, fun hact => ?_, fun hact => ?_⟩
              · exact Runs.does (r_fa rfl Try.underlying65 (f := 4) (q := 4) rfl (by kernel_rfl) rfl) ⟨Below.refl _ _, rfl, nofr rfl⟩
              · exfalso; simp at hact
            refine ⟨fun wu25 hC hd => ?_, ?_⟩
            · obtain ⟨h21, h24, _⟩ := hd
              skip
              skip
              replace h21 : V 21 = (.bool true) := h21
              replace h24 : V 24 = (.pointer (some ⟨b10, 4, none⟩)) := h24
              replace hb := hb.trans (hC.mono hb.size)
              replace hkb1 := blk_ext hkb1 hC
              replace hkb2 := blk_ext hkb2 hC
              replace hk16 := blk_ext hk16 hC
              replace hrpl := Row.ext hrpl hC
              replace hrrk := Row.ext hrrk hC
              replace hrN := Row.ext hrN hC
              refine ⟨true, true, congrArg some h21, fun hact => ?_, fun hact => ?_⟩
              · exact Runs.does (r_load (v := (.int .u32 m.2.2.2.2.2.2.2.2.2.2.2.1.2.2.2.2.1)) (congrArg some h24) Try.underlying44 rfl (cell_blk hk16 rfl)) ⟨Below.refl _ _, rfl, nofr rfl⟩
              · exfalso; simp at hact
            refine ⟨fun wu26 hC hd => ?_, ?_⟩
            · obtain ⟨h21, h23, h25, _⟩ := hd
              skip
              skip
              skip
              replace h21 : V 21 = (.bool true) := h21
              replace h23 : V 23 = (.int .u32 pl.2.2.2.2.1) := h23
              replace h25 : V 25 = (.int .u32 m.2.2.2.2.2.2.2.2.2.2.2.1.2.2.2.2.1) := h25
              replace hb := hb.trans (hC.mono hb.size)
              replace hkb1 := blk_ext hkb1 hC
              replace hkb2 := blk_ext hkb2 hC
              replace hk16 := blk_ext hk16 hC
              replace hrpl := Row.ext hrpl hC
              replace hrrk := Row.ext hrrk hC
              replace hrN := Row.ext hrN hC
              refine ⟨true, true, congrArg some h21, fun hact => ?_, fun hact => ?_⟩
              · exact Runs.does (Runs.veq (r_eq (congrArg some h23) (congrArg some h25)) (congrArg Value.bool (show _ = true from (by rw [q9]; simp)))) ⟨Below.refl _ _, rfl, nofr rfl⟩
              · exfalso; simp at hact
            refine ⟨fun wu27 hC hd => ?_, ?_⟩
            · obtain ⟨h21, h26, _⟩ := hd
              skip
              skip
              replace h21 : V 21 = (.bool true) := h21
              replace h26 : V 26 = (.bool true) := h26
              replace hb := hb.trans (hC.mono hb.size)
              replace hkb1 := blk_ext hkb1 hC
              replace hkb2 := blk_ext hkb2 hC
              replace hk16 := blk_ext hk16 hC
              replace hrpl := Row.ext hrpl hC
              replace hrrk := Row.ext hrrk hC
              replace hrN := Row.ext hrN hC
              exact Runs.does (r_pick (b := true) (congrArg some h21) (congrArg some h26) rfl rfl) ⟨Below.refl _ _, rfl, nofr rfl⟩
            refine ⟨fun wu28 hC hd => ?_, ?_⟩
            · obtain ⟨h21, h27, _⟩ := hd
              skip
              skip
              replace h21 : V 21 = (.bool true) := h21
              replace h27 : V 27 = (.bool true) := h27
              replace hb := hb.trans (hC.mono hb.size)
              replace hkb1 := blk_ext hkb1 hC
              replace hkb2 := blk_ext hkb2 hC
              replace hk16 := blk_ext hk16 hC
              replace hrpl := Row.ext hrpl hC
              replace hrrk := Row.ext hrrk hC
              replace hrN := Row.ext hrN hC
              exact Runs.does (r_move (congrArg some h27)) ⟨Below.refl _ _, rfl, nofr rfl⟩
            refine ⟨fun wu29 hC hd => ?_, ?_⟩
            · obtain ⟨h28, _⟩ := hd
              skip
              replace h28 : V 28 = (.bool true) := h28
              replace hb := hb.trans (hC.mono hb.size)
              replace hkb1 := blk_ext hkb1 hC
              replace hkb2 := blk_ext hkb2 hC
              replace hk16 := blk_ext hk16 hC
              replace hrpl := Row.ext hrpl hC
              replace hrrk := Row.ext hrrk hC
              replace hrN := Row.ext hrN hC
              refine ⟨true, true, congrArg some h28, fun hact => ?_, fun hact => ?_⟩
              · exact Runs.does (r_fa rfl Try.underlying72 (f := 5) (q := 5) rfl (by kernel_rfl) rfl) ⟨Below.refl _ _, rfl, nofr rfl⟩
              · exfalso; simp at hact
            refine ⟨fun wu30 hC hd => ?_, ?_⟩
            · obtain ⟨h28, h29, _⟩ := hd
              skip
              skip
              replace h28 : V 28 = (.bool true) := h28
              replace h29 : V 29 = (.pointer (some ⟨b2, 5, none⟩)) := h29
              replace hb := hb.trans (hC.mono hb.size)
              replace hkb1 := blk_ext hkb1 hC
              replace hkb2 := blk_ext hkb2 hC
              replace hk16 := blk_ext hk16 hC
              replace hrpl := Row.ext hrpl hC
              replace hrrk := Row.ext hrrk hC
              replace hrN := Row.ext hrN hC
              refine ⟨true, true, congrArg some h28, fun hact => ?_, fun hact => ?_⟩
              · exact Runs.does (r_load (v := (.int .i64 pl.2.2.2.2.2.1)) (congrArg some h29) Try.underlying3 rfl (cell_blk hkb2 rfl)) ⟨Below.refl _ _, rfl, nofr rfl⟩
              · exfalso; simp at hact
            refine ⟨fun wu31 hC hd => ?_, ?_⟩
            · obtain ⟨h28, _⟩ := hd
              skip
              replace h28 : V 28 = (.bool true) := h28
              replace hb := hb.trans (hC.mono hb.size)
              replace hkb1 := blk_ext hkb1 hC
              replace hkb2 := blk_ext hkb2 hC
              replace hk16 := blk_ext hk16 hC
              replace hrpl := Row.ext hrpl hC
              replace hrrk := Row.ext hrrk hC
              replace hrN := Row.ext hrN hC
              refine ⟨true, true, congrArg some h28, fun hact => ?_, fun hact => ?_⟩
              · exact Runs.does (r_move rfl) ⟨Below.refl _ _, rfl, nofr rfl⟩
              · exfalso; simp at hact
            refine ⟨fun wu32 hC hd => ?_, ?_⟩
            · obtain ⟨h28, h30, h31, _⟩ := hd
              skip
              skip
              skip
              replace h28 : V 28 = (.bool true) := h28
              replace h30 : V 30 = (.int .i64 pl.2.2.2.2.2.1) := h30
              replace h31 : V 31 = (.int .i64 (((cntK m 5 m.2.1.list).length : Nat) : Int)) := h31
              replace hb := hb.trans (hC.mono hb.size)
              replace hkb1 := blk_ext hkb1 hC
              replace hkb2 := blk_ext hkb2 hC
              replace hk16 := blk_ext hk16 hC
              replace hrpl := Row.ext hrpl hC
              replace hrrk := Row.ext hrrk hC
              replace hrN := Row.ext hrN hC
              refine ⟨true, true, congrArg some h28, fun hact => ?_, fun hact => ?_⟩
              · exact Runs.does (Runs.veq (r_eq (congrArg some h30) (congrArg some h31)) (congrArg Value.bool (show _ = true from (by rw [q4]; simp)))) ⟨Below.refl _ _, rfl, nofr rfl⟩
              · exfalso; simp at hact
            refine ⟨fun wu33 hC hd => ?_, ?_⟩
            · obtain ⟨h28, h32, _⟩ := hd
              skip
              skip
              replace h28 : V 28 = (.bool true) := h28
              replace h32 : V 32 = (.bool true) := h32
              replace hb := hb.trans (hC.mono hb.size)
              replace hkb1 := blk_ext hkb1 hC
              replace hkb2 := blk_ext hkb2 hC
              replace hk16 := blk_ext hk16 hC
              replace hrpl := Row.ext hrpl hC
              replace hrrk := Row.ext hrrk hC
              replace hrN := Row.ext hrN hC
              exact Runs.does (r_pick (b := true) (congrArg some h28) (congrArg some h32) rfl rfl) ⟨Below.refl _ _, rfl, nofr rfl⟩
            refine ⟨fun wu34 hC hd => ?_, ?_⟩
            · obtain ⟨h28, h33, _⟩ := hd
              skip
              skip
              replace h28 : V 28 = (.bool true) := h28
              replace h33 : V 33 = (.bool true) := h33
              replace hb := hb.trans (hC.mono hb.size)
              replace hkb1 := blk_ext hkb1 hC
              replace hkb2 := blk_ext hkb2 hC
              replace hk16 := blk_ext hk16 hC
              replace hrpl := Row.ext hrpl hC
              replace hrrk := Row.ext hrrk hC
              replace hrN := Row.ext hrN hC
              exact Runs.does (r_move (congrArg some h33)) ⟨Below.refl _ _, rfl, nofr rfl⟩
            refine ⟨fun wu35 hC hd => ?_, ?_⟩
            · obtain ⟨h34, _⟩ := hd
              skip
              replace h34 : V 34 = (.bool true) := h34
              replace hb := hb.trans (hC.mono hb.size)
              replace hkb1 := blk_ext hkb1 hC
              replace hkb2 := blk_ext hkb2 hC
              replace hk16 := blk_ext hk16 hC
              replace hrpl := Row.ext hrpl hC
              replace hrrk := Row.ext hrrk hC
              replace hrN := Row.ext hrN hC
              refine ⟨true, true, congrArg some h34, fun hact => ?_, fun hact => ?_⟩
              · exact Runs.does (r_loadA (cs := [(.slice pla pl.1.length plc), (.int .i64 pl.2.1), (.int .i64 pl.2.2.1), (.int .u32 pl.2.2.2.1), (.int .u32 pl.2.2.2.2.1), (.int .i64 pl.2.2.2.2.2.1)]) rfl Try.underlying72 rfl (by kernel_rfl) (cellsAt_blk hkb2)) ⟨Below.refl _ _, rfl, nofr rfl⟩
              · exfalso; simp at hact
            refine ⟨fun wu36 hC hd => ?_, ?_⟩
            · obtain ⟨h34, h35, _⟩ := hd
              skip
              skip
              replace h34 : V 34 = (.bool true) := h34
              replace h35 : V 35 = (.agg #[(.slice pla pl.1.length plc), (.int .i64 pl.2.1), (.int .i64 pl.2.2.1), (.int .u32 pl.2.2.2.1), (.int .u32 pl.2.2.2.2.1), (.int .i64 pl.2.2.2.2.2.1)]) := h35
              replace hb := hb.trans (hC.mono hb.size)
              replace hkb1 := blk_ext hkb1 hC
              replace hkb2 := blk_ext hkb2 hC
              replace hk16 := blk_ext hk16 hC
              replace hrpl := Row.ext hrpl hC
              replace hrrk := Row.ext hrrk hC
              replace hrN := Row.ext hrN hC
              refine ⟨true, true, congrArg some h34, fun hact => ?_, fun hact => ?_⟩
              · refine Does.mono (d_callB (vs := [(.agg #[(.slice pla pl.1.length plc), (.int .i64 pl.2.1), (.int .i64 pl.2.2.1), (.int .u32 pl.2.2.2.1), (.int .u32 pl.2.2.2.2.1), (.int .i64 pl.2.2.2.2.2.1)])]) (show [some (V 35)] = [some (.agg #[(.slice pla pl.1.length plc), (.int .i64 pl.2.1), (.int .i64 pl.2.2.1), (.int .u32 pl.2.2.2.1), (.int .u32 pl.2.2.2.2.1), (.int .i64 pl.2.2.2.2.2.1)])] from by rw [h35]) Try.func47 (by kernel_rfl) (by kernel_rfl) (all_any _ _ _ _ _ _ _ _ _ (by rw [q4]; omega))) (fun _ _ h => ⟨h.2, h.1, nofr rfl⟩)
              · exfalso; simp at hact
            refine ⟨fun wu37 hC hd => ?_, ?_⟩
            · obtain ⟨h34, _⟩ := hd
              skip
              replace h34 : V 34 = (.bool true) := h34
              replace hb := hb.trans (hC.mono hb.size)
              replace hkb1 := blk_ext hkb1 hC
              replace hkb2 := blk_ext hkb2 hC
              replace hk16 := blk_ext hk16 hC
              replace hrpl := Row.ext hrpl hC
              replace hrrk := Row.ext hrrk hC
              replace hrN := Row.ext hrN hC
              refine ⟨true, true, congrArg some h34, fun hact => ?_, fun hact => ?_⟩
              · exact Runs.does (r_fa rfl Try.underlying65 (f := 3) (q := 3) rfl (by kernel_rfl) rfl) ⟨Below.refl _ _, rfl, nofr rfl⟩
              · exfalso; simp at hact
            refine ⟨fun wu38 hC hd => ?_, ?_⟩
            · obtain ⟨h34, h37, _⟩ := hd
              skip
              skip
              replace h34 : V 34 = (.bool true) := h34
              replace h37 : V 37 = (.pointer (some ⟨b10, 3, none⟩)) := h37
              replace hb := hb.trans (hC.mono hb.size)
              replace hkb1 := blk_ext hkb1 hC
              replace hkb2 := blk_ext hkb2 hC
              replace hk16 := blk_ext hk16 hC
              replace hrpl := Row.ext hrpl hC
              replace hrrk := Row.ext hrrk hC
              replace hrN := Row.ext hrN hC
              refine ⟨true, true, congrArg some h34, fun hact => ?_, fun hact => ?_⟩
              · exact Runs.does (r_load (v := (.int .u32 m.2.2.2.2.2.2.2.2.2.2.2.1.2.2.2.1)) (congrArg some h37) Try.underlying44 rfl (cell_blk hk16 rfl)) ⟨Below.refl _ _, rfl, nofr rfl⟩
              · exfalso; simp at hact
            refine ⟨fun wu39 hC hd => ?_, ?_⟩
            · obtain ⟨h34, h38, _⟩ := hd
              skip
              skip
              replace h34 : V 34 = (.bool true) := h34
              replace h38 : V 38 = (.int .u32 m.2.2.2.2.2.2.2.2.2.2.2.1.2.2.2.1) := h38
              replace hb := hb.trans (hC.mono hb.size)
              replace hkb1 := blk_ext hkb1 hC
              replace hkb2 := blk_ext hkb2 hC
              replace hk16 := blk_ext hk16 hC
              replace hrpl := Row.ext hrpl hC
              replace hrrk := Row.ext hrrk hC
              replace hrN := Row.ext hrN hC
              refine ⟨true, true, congrArg some h34, fun hact => ?_, fun hact => ?_⟩
              · exact Runs.does (r_conv (C := m.2.2.2.2.2.2.2.2.2.2.2.1.2.2.2.1) (congrArg some h38) Try.underlying44 Try.underlying3 (by rw [IntKind.wrap_i64]; omega)) ⟨Below.refl _ _, rfl, nofr rfl⟩
              · exfalso; simp at hact
            refine ⟨fun wu40 hC hd => ?_, ?_⟩
            · obtain ⟨h34, _⟩ := hd
              skip
              replace h34 : V 34 = (.bool true) := h34
              replace hb := hb.trans (hC.mono hb.size)
              replace hkb1 := blk_ext hkb1 hC
              replace hkb2 := blk_ext hkb2 hC
              replace hk16 := blk_ext hk16 hC
              replace hrpl := Row.ext hrpl hC
              replace hrrk := Row.ext hrrk hC
              replace hrN := Row.ext hrN hC
              refine ⟨true, true, congrArg some h34, fun hact => ?_, fun hact => ?_⟩
              · exact Runs.does (r_move rfl) ⟨Below.refl _ _, rfl, nofr rfl⟩
              · exfalso; simp at hact
            refine ⟨fun wu41 hC hd => ?_, ?_⟩
            · obtain ⟨h34, h39, h40, _⟩ := hd
              skip
              skip
              skip
              replace h34 : V 34 = (.bool true) := h34
              replace h39 : V 39 = (.int .i64 m.2.2.2.2.2.2.2.2.2.2.2.1.2.2.2.1) := h39
              replace h40 : V 40 = (.int .i64 (((cntK m 5 m.2.1.list).length : Nat) : Int)) := h40
              replace hb := hb.trans (hC.mono hb.size)
              replace hkb1 := blk_ext hkb1 hC
              replace hkb2 := blk_ext hkb2 hC
              replace hk16 := blk_ext hk16 hC
              replace hrpl := Row.ext hrpl hC
              replace hrrk := Row.ext hrrk hC
              replace hrN := Row.ext hrN hC
              refine ⟨true, true, congrArg some h34, fun hact => ?_, fun hact => ?_⟩
              · exact Runs.does (r_add (C := (m.2.2.2.2.2.2.2.2.2.2.2.1.2.2.2.1 + (((cntK m 5 m.2.1.list).length : Nat) : Int))) (congrArg some h39) (congrArg some h40) (by rw [IntKind.wrap_i64]; omega)) ⟨Below.refl _ _, rfl, nofr rfl⟩
              · exfalso; simp at hact
            refine ⟨fun wu42 hC hd => ?_, ?_⟩
            · obtain ⟨h34, h36, h41, _⟩ := hd
              skip
              skip
              skip
              replace h34 : V 34 = (.bool true) := h34
              replace h36 : V 36 = (.int .i64 (pl.2.2.1 + pl.2.2.2.2.2.1)) := h36
              replace h41 : V 41 = (.int .i64 (m.2.2.2.2.2.2.2.2.2.2.2.1.2.2.2.1 + (((cntK m 5 m.2.1.list).length : Nat) : Int))) := h41
              replace hb := hb.trans (hC.mono hb.size)
              replace hkb1 := blk_ext hkb1 hC
              replace hkb2 := blk_ext hkb2 hC
              replace hk16 := blk_ext hk16 hC
              replace hrpl := Row.ext hrpl hC
              replace hrrk := Row.ext hrrk hC
              replace hrN := Row.ext hrN hC
              refine ⟨true, true, congrArg some h34, fun hact => ?_, fun hact => ?_⟩
              · exact Runs.does (Runs.veq (r_eq (congrArg some h36) (congrArg some h41)) (congrArg Value.bool (show _ = true from (by rw [q4, q7]; simp)))) ⟨Below.refl _ _, rfl, nofr rfl⟩
              · exfalso; simp at hact
            refine ⟨fun wu43 hC hd => ?_, ?_⟩
            · obtain ⟨h34, h42, _⟩ := hd
              skip
              skip
              replace h34 : V 34 = (.bool true) := h34
              replace h42 : V 42 = (.bool true) := h42
              replace hb := hb.trans (hC.mono hb.size)
              replace hkb1 := blk_ext hkb1 hC
              replace hkb2 := blk_ext hkb2 hC
              replace hk16 := blk_ext hk16 hC
              replace hrpl := Row.ext hrpl hC
              replace hrrk := Row.ext hrrk hC
              replace hrN := Row.ext hrN hC
              exact Runs.does (r_pick (b := true) (congrArg some h34) (congrArg some h42) rfl rfl) ⟨Below.refl _ _, rfl, nofr rfl⟩
            refine ⟨fun wu44 hC hd => ?_, ?_⟩
            · obtain ⟨h36, h43, _⟩ := hd
              skip
              skip
              replace h36 : V 36 = (.int .i64 (pl.2.2.1 + pl.2.2.2.2.2.1)) := h36
              replace h43 : V 43 = (.bool true) := h43
              replace hb := hb.trans (hC.mono hb.size)
              replace hkb1 := blk_ext hkb1 hC
              replace hkb2 := blk_ext hkb2 hC
              replace hk16 := blk_ext hk16 hC
              replace hrpl := Row.ext hrpl hC
              replace hrrk := Row.ext hrrk hC
              replace hrN := Row.ext hrN hC
              exact Runs.does (r_move (congrArg some h43)) ⟨Below.refl _ _, rfl, nofr rfl⟩
            refine ⟨fun wu45 hC hd => ?_, ?_⟩
            · obtain ⟨h44, _⟩ := hd
              skip
              replace h44 : V 44 = (.bool true) := h44
              replace hb := hb.trans (hC.mono hb.size)
              replace hkb1 := blk_ext hkb1 hC
              replace hkb2 := blk_ext hkb2 hC
              replace hk16 := blk_ext hk16 hC
              replace hrpl := Row.ext hrpl hC
              replace hrrk := Row.ext hrrk hC
              replace hrN := Row.ext hrN hC
              refine ⟨true, true, congrArg some h44, fun hact => ?_, fun hact => ?_⟩
              · exact Runs.does (r_loadA (cs := [(.slice pla pl.1.length plc), (.int .i64 pl.2.1), (.int .i64 pl.2.2.1), (.int .u32 pl.2.2.2.1), (.int .u32 pl.2.2.2.2.1), (.int .i64 pl.2.2.2.2.2.1)]) rfl Try.underlying72 rfl (by kernel_rfl) (cellsAt_blk hkb2)) ⟨Below.refl _ _, rfl, nofr rfl⟩
              · exfalso; simp at hact
            refine ⟨fun wu46 hC hd => ?_, ?_⟩
            · obtain ⟨h44, _⟩ := hd
              skip
              replace h44 : V 44 = (.bool true) := h44
              replace hb := hb.trans (hC.mono hb.size)
              replace hkb1 := blk_ext hkb1 hC
              replace hkb2 := blk_ext hkb2 hC
              replace hk16 := blk_ext hk16 hC
              replace hrpl := Row.ext hrpl hC
              replace hrrk := Row.ext hrrk hC
              replace hrN := Row.ext hrN hC
              refine ⟨true, true, congrArg some h44, fun hact => ?_, fun hact => ?_⟩
              · exact Runs.does (r_move rfl) ⟨Below.refl _ _, rfl, nofr rfl⟩
              · exfalso; simp at hact
            refine ⟨fun wu47 hC hd => ?_, ?_⟩
            · obtain ⟨h44, h45, h46, _⟩ := hd
              skip
              skip
              skip
              replace h44 : V 44 = (.bool true) := h44
              replace h45 : V 45 = (.agg #[(.slice pla pl.1.length plc), (.int .i64 pl.2.1), (.int .i64 pl.2.2.1), (.int .u32 pl.2.2.2.1), (.int .u32 pl.2.2.2.2.1), (.int .i64 pl.2.2.2.2.2.1)]) := h45
              replace h46 : V 46 = (.int .i64 kd) := h46
              replace hb := hb.trans (hC.mono hb.size)
              replace hkb1 := blk_ext hkb1 hC
              replace hkb2 := blk_ext hkb2 hC
              replace hk16 := blk_ext hk16 hC
              replace hrpl := Row.ext hrpl hC
              replace hrrk := Row.ext hrrk hC
              replace hrN := Row.ext hrN hC
              refine ⟨true, true, congrArg some h44, fun hact => ?_, fun hact => ?_⟩
              · refine Does.mono (d_callX (vs := [(.agg #[(.slice pla pl.1.length plc), (.int .i64 pl.2.1), (.int .i64 pl.2.2.1), (.int .u32 pl.2.2.2.1), (.int .u32 pl.2.2.2.2.1), (.int .i64 pl.2.2.2.2.2.1)]), (.int .i64 kd)]) (show [some (V 45), some (V 46)] = [some (.agg #[(.slice pla pl.1.length plc), (.int .i64 pl.2.1), (.int .i64 pl.2.2.1), (.int .u32 pl.2.2.2.1), (.int .u32 pl.2.2.2.2.1), (.int .i64 pl.2.2.2.2.2.1)]), some (.int .i64 kd)] from by rw [h45, h46]) Try.func49 (by kernel_rfl) (by kernel_rfl) (symbols_any pl.1 kd _ _ _ _ _ _ _ _ _ (Row.rd (by intros; rfl) hrpl) rfl (by omega))) ?_
                rintro _ w' ⟨hF2, hF3⟩
                obtain ⟨ra, rc, rfl, _, _⟩ := Row.slice hF2
                exact ⟨hF3, ⟨ra, rc, rfl, hF2.rebase hC.size⟩, nofr rfl⟩
              · exfalso; simp at hact
            refine ⟨fun wu48 hC hd => ?_, ?_⟩
            · obtain ⟨h44, _⟩ := hd
              skip
              replace h44 : V 44 = (.bool true) := h44
              replace hb := hb.trans (hC.mono hb.size)
              replace hkb1 := blk_ext hkb1 hC
              replace hkb2 := blk_ext hkb2 hC
              replace hk16 := blk_ext hk16 hC
              replace hrpl := Row.ext hrpl hC
              replace hrrk := Row.ext hrrk hC
              replace hrN := Row.ext hrN hC
              refine ⟨true, true, congrArg some h44, fun hact => ?_, fun hact => ?_⟩
              · exact Runs.does (r_move rfl) ⟨Below.refl _ _, rfl, nofr rfl⟩
              · exfalso; simp at hact
            refine ⟨fun wu49 hC hd => ?_, ?_⟩
            · obtain ⟨h44, h47, h48, _⟩ := hd
              skip
              skip
              skip
              replace h44 : V 44 = (.bool true) := h44
              obtain ⟨ea1, ec1, h47, hr7⟩ := h47
              rw [h47] at hr7
              replace h48 : V 48 = (.slice rNa ((namK m kd m.2.1.list).length) rNc) := h48
              replace hb := hb.trans (hC.mono hb.size)
              replace hkb1 := blk_ext hkb1 hC
              replace hkb2 := blk_ext hkb2 hC
              replace hk16 := blk_ext hk16 hC
              replace hrpl := Row.ext hrpl hC
              replace hrrk := Row.ext hrrk hC
              replace hrN := Row.ext hrN hC
              refine ⟨true, true, congrArg some h44, fun hact => ?_, fun hact => ?_⟩
              · refine Does.mono (d_callB (vs := [(.slice ea1 (((symP kd pl.1)).length) ec1), (.slice rNa ((namK m kd m.2.1.list).length) rNc)]) (show [some (V 47), some (V 48)] = [some (.slice ea1 (((symP kd pl.1)).length) ec1), some (.slice rNa ((namK m kd m.2.1.list).length) rNc)] from by rw [h47, h48]) Try.func48 (by kernel_rfl) (by kernel_rfl) (by have h := same_any (symP kd pl.1) (namK m kd m.2.1.list) ea1 rNa ec1 rNc _ (Row.rd (by intros; rfl) hr7) (Row.rd (by intros; rfl) hrN) (by rw [q5 kd]; omega) (by omega); rw [decide_eq_true (q5 kd)] at h; exact h)) (fun _ _ h => ⟨h.2, h.1, nofr rfl⟩)
              · exfalso; simp at hact
            refine ⟨fun wu50 hC hd => ?_, ?_⟩
            · obtain ⟨h44, h49, _⟩ := hd
              skip
              skip
              replace h44 : V 44 = (.bool true) := h44
              replace h49 : V 49 = (.bool true) := h49
              replace hb := hb.trans (hC.mono hb.size)
              replace hkb1 := blk_ext hkb1 hC
              replace hkb2 := blk_ext hkb2 hC
              replace hk16 := blk_ext hk16 hC
              replace hrpl := Row.ext hrpl hC
              replace hrrk := Row.ext hrrk hC
              replace hrN := Row.ext hrN hC
              exact Runs.does (r_pick (b := true) (congrArg some h44) (congrArg some h49) rfl rfl) ⟨Below.refl _ _, rfl, nofr rfl⟩
            refine ⟨fun wu51 hC hd => ?_, ?_⟩
            · obtain ⟨h0, h1, h2, h3, h4, h5, h6, h7, h8, h9, h10, h11, h12, h13, h14, h15, h16, h17, h18, h19, h20, h21, h22, h23, h24, h25, h26, h27, h28, h29, h30, h31, h32, h33, h34, h35, h36, h37, h38, h39, h40, h41, h42, h43, h44, h45, h46, h47, h48, h49, h50, _⟩ := hd
              skip
              skip
              skip
              skip
              skip
              skip
              skip
              skip
              skip
              skip
              skip
              skip
              skip
              skip
              skip
              skip
              skip
              skip
              skip
              skip
              skip
              skip
              skip
              skip
              skip
              skip
              skip
              skip
              skip
              skip
              skip
              skip
              skip
              skip
              skip
              skip
              skip
              skip
              skip
              skip
              skip
              skip
              skip
              skip
              skip
              skip
              skip
              skip
              skip
              skip
              skip
              replace h0 : V 0 = (.pointer (some ⟨b2, 1, none⟩)) := h0
              replace h1 : V 1 = (.int .i64 pl.2.1) := h1
              replace h2 : V 2 = (.pointer (some ⟨b10, 1, none⟩)) := h2
              replace h3 : V 3 = (.int .u32 m.2.2.2.2.2.2.2.2.2.2.2.1.2.1) := h3
              replace h4 : V 4 = (.int .i64 m.2.2.2.2.2.2.2.2.2.2.2.1.2.1) := h4
              replace h5 : V 5 = (.bool true) := h5
              replace h6 : V 6 = (.bool true) := h6
              replace h7 : V 7 = (.pointer (some ⟨b2, 2, none⟩)) := h7
              replace h8 : V 8 = (.int .i64 pl.2.2.1) := h8
              replace h9 : V 9 = (.pointer (some ⟨b10, 3, none⟩)) := h9
              replace h10 : V 10 = (.int .u32 m.2.2.2.2.2.2.2.2.2.2.2.1.2.2.2.1) := h10
              replace h11 : V 11 = (.int .i64 m.2.2.2.2.2.2.2.2.2.2.2.1.2.2.2.1) := h11
              replace h12 : V 12 = (.bool true) := h12
              replace h13 : V 13 = (.bool true) := h13
              replace h14 : V 14 = (.bool true) := h14
              replace h15 : V 15 = (.pointer (some ⟨b2, 3, none⟩)) := h15
              replace h16 : V 16 = (.int .u32 pl.2.2.2.1) := h16
              replace h17 : V 17 = (.pointer (some ⟨b10, 2, none⟩)) := h17
              replace h18 : V 18 = (.int .u32 m.2.2.2.2.2.2.2.2.2.2.2.1.2.2.1) := h18
              replace h19 : V 19 = (.bool true) := h19
              replace h20 : V 20 = (.bool true) := h20
              replace h21 : V 21 = (.bool true) := h21
              replace h22 : V 22 = (.pointer (some ⟨b2, 4, none⟩)) := h22
              replace h23 : V 23 = (.int .u32 pl.2.2.2.2.1) := h23
              replace h24 : V 24 = (.pointer (some ⟨b10, 4, none⟩)) := h24
              replace h25 : V 25 = (.int .u32 m.2.2.2.2.2.2.2.2.2.2.2.1.2.2.2.2.1) := h25
              replace h26 : V 26 = (.bool true) := h26
              replace h27 : V 27 = (.bool true) := h27
              replace h28 : V 28 = (.bool true) := h28
              replace h29 : V 29 = (.pointer (some ⟨b2, 5, none⟩)) := h29
              replace h30 : V 30 = (.int .i64 pl.2.2.2.2.2.1) := h30
              replace h31 : V 31 = (.int .i64 (((cntK m 5 m.2.1.list).length : Nat) : Int)) := h31
              replace h32 : V 32 = (.bool true) := h32
              replace h33 : V 33 = (.bool true) := h33
              replace h34 : V 34 = (.bool true) := h34
              replace h35 : V 35 = (.agg #[(.slice pla pl.1.length plc), (.int .i64 pl.2.1), (.int .i64 pl.2.2.1), (.int .u32 pl.2.2.2.1), (.int .u32 pl.2.2.2.2.1), (.int .i64 pl.2.2.2.2.2.1)]) := h35
              replace h36 : V 36 = (.int .i64 (pl.2.2.1 + pl.2.2.2.2.2.1)) := h36
              replace h37 : V 37 = (.pointer (some ⟨b10, 3, none⟩)) := h37
              replace h38 : V 38 = (.int .u32 m.2.2.2.2.2.2.2.2.2.2.2.1.2.2.2.1) := h38
              replace h39 : V 39 = (.int .i64 m.2.2.2.2.2.2.2.2.2.2.2.1.2.2.2.1) := h39
              replace h40 : V 40 = (.int .i64 (((cntK m 5 m.2.1.list).length : Nat) : Int)) := h40
              replace h41 : V 41 = (.int .i64 (m.2.2.2.2.2.2.2.2.2.2.2.1.2.2.2.1 + (((cntK m 5 m.2.1.list).length : Nat) : Int))) := h41
              replace h42 : V 42 = (.bool true) := h42
              replace h43 : V 43 = (.bool true) := h43
              replace h44 : V 44 = (.bool true) := h44
              replace h45 : V 45 = (.agg #[(.slice pla pl.1.length plc), (.int .i64 pl.2.1), (.int .i64 pl.2.2.1), (.int .u32 pl.2.2.2.1), (.int .u32 pl.2.2.2.2.1), (.int .i64 pl.2.2.2.2.2.1)]) := h45
              replace h46 : V 46 = (.int .i64 kd) := h46
              obtain ⟨ea1, ec1, h47, hr7⟩ := h47
              rw [h47] at hr7
              replace h48 : V 48 = (.slice rNa ((namK m kd m.2.1.list).length) rNc) := h48
              replace h49 : V 49 = (.bool true) := h49
              replace h50 : V 50 = (.bool true) := h50
              replace hb := hb.trans (hC.mono hb.size)
              replace hkb1 := blk_ext hkb1 hC
              replace hkb2 := blk_ext hkb2 hC
              replace hk16 := blk_ext hk16 hC
              replace hrpl := Row.ext hrpl hC
              replace hrrk := Row.ext hrrk hC
              replace hrN := Row.ext hrN hC
              exact Runs.does (r_assign (congrArg some h50)) ⟨Below.refl _ _, rfl, nofr rfl⟩
            trivial
          · skip
            clear hf fa; intro V w26 fa he16 hp hnb hf
            have hv0 : V 0 = (.pointer (some ⟨b2, 1, none⟩)) := postsHold_at hp 0 rfl
            have hv1 : V 1 = (.int .i64 pl.2.1) := postsHold_at hp 1 rfl
            have hv2 : V 2 = (.pointer (some ⟨b10, 1, none⟩)) := postsHold_at hp 2 rfl
            have hv3 : V 3 = (.int .u32 m.2.2.2.2.2.2.2.2.2.2.2.1.2.1) := postsHold_at hp 3 rfl
            have hv4 : V 4 = (.int .i64 m.2.2.2.2.2.2.2.2.2.2.2.1.2.1) := postsHold_at hp 4 rfl
            have hv5 : V 5 = (.bool true) := postsHold_at hp 5 rfl
            have hv6 : V 6 = (.bool true) := postsHold_at hp 6 rfl
            have hv7 : V 7 = (.pointer (some ⟨b2, 2, none⟩)) := postsHold_at hp 7 rfl
            have hv8 : V 8 = (.int .i64 pl.2.2.1) := postsHold_at hp 8 rfl
            have hv9 : V 9 = (.pointer (some ⟨b10, 3, none⟩)) := postsHold_at hp 9 rfl
            have hv10 : V 10 = (.int .u32 m.2.2.2.2.2.2.2.2.2.2.2.1.2.2.2.1) := postsHold_at hp 10 rfl
            have hv11 : V 11 = (.int .i64 m.2.2.2.2.2.2.2.2.2.2.2.1.2.2.2.1) := postsHold_at hp 11 rfl
            have hv12 : V 12 = (.bool true) := postsHold_at hp 12 rfl
            have hv13 : V 13 = (.bool true) := postsHold_at hp 13 rfl
            have hv14 : V 14 = (.bool true) := postsHold_at hp 14 rfl
            have hv15 : V 15 = (.pointer (some ⟨b2, 3, none⟩)) := postsHold_at hp 15 rfl
            have hv16 : V 16 = (.int .u32 pl.2.2.2.1) := postsHold_at hp 16 rfl
            have hv17 : V 17 = (.pointer (some ⟨b10, 2, none⟩)) := postsHold_at hp 17 rfl
            have hv18 : V 18 = (.int .u32 m.2.2.2.2.2.2.2.2.2.2.2.1.2.2.1) := postsHold_at hp 18 rfl
            have hv19 : V 19 = (.bool true) := postsHold_at hp 19 rfl
            have hv20 : V 20 = (.bool true) := postsHold_at hp 20 rfl
            have hv21 : V 21 = (.bool true) := postsHold_at hp 21 rfl
            have hv22 : V 22 = (.pointer (some ⟨b2, 4, none⟩)) := postsHold_at hp 22 rfl
            have hv23 : V 23 = (.int .u32 pl.2.2.2.2.1) := postsHold_at hp 23 rfl
            have hv24 : V 24 = (.pointer (some ⟨b10, 4, none⟩)) := postsHold_at hp 24 rfl
            have hv25 : V 25 = (.int .u32 m.2.2.2.2.2.2.2.2.2.2.2.1.2.2.2.2.1) := postsHold_at hp 25 rfl
            have hv26 : V 26 = (.bool true) := postsHold_at hp 26 rfl
            have hv27 : V 27 = (.bool true) := postsHold_at hp 27 rfl
            have hv28 : V 28 = (.bool true) := postsHold_at hp 28 rfl
            have hv29 : V 29 = (.pointer (some ⟨b2, 5, none⟩)) := postsHold_at hp 29 rfl
            have hv30 : V 30 = (.int .i64 pl.2.2.2.2.2.1) := postsHold_at hp 30 rfl
            have hv31 : V 31 = (.int .i64 (((cntK m 5 m.2.1.list).length : Nat) : Int)) := postsHold_at hp 31 rfl
            have hv32 : V 32 = (.bool true) := postsHold_at hp 32 rfl
            have hv33 : V 33 = (.bool true) := postsHold_at hp 33 rfl
            have hv34 : V 34 = (.bool true) := postsHold_at hp 34 rfl
            have hv35 : V 35 = (.agg #[(.slice pla pl.1.length plc), (.int .i64 pl.2.1), (.int .i64 pl.2.2.1), (.int .u32 pl.2.2.2.1), (.int .u32 pl.2.2.2.2.1), (.int .i64 pl.2.2.2.2.2.1)]) := postsHold_at hp 35 rfl
            have hv36 : V 36 = (.int .i64 (pl.2.2.1 + pl.2.2.2.2.2.1)) := postsHold_at hp 36 rfl
            have hv37 : V 37 = (.pointer (some ⟨b10, 3, none⟩)) := postsHold_at hp 37 rfl
            have hv38 : V 38 = (.int .u32 m.2.2.2.2.2.2.2.2.2.2.2.1.2.2.2.1) := postsHold_at hp 38 rfl
            have hv39 : V 39 = (.int .i64 m.2.2.2.2.2.2.2.2.2.2.2.1.2.2.2.1) := postsHold_at hp 39 rfl
            have hv40 : V 40 = (.int .i64 (((cntK m 5 m.2.1.list).length : Nat) : Int)) := postsHold_at hp 40 rfl
            have hv41 : V 41 = (.int .i64 (m.2.2.2.2.2.2.2.2.2.2.2.1.2.2.2.1 + (((cntK m 5 m.2.1.list).length : Nat) : Int))) := postsHold_at hp 41 rfl
            have hv42 : V 42 = (.bool true) := postsHold_at hp 42 rfl
            have hv43 : V 43 = (.bool true) := postsHold_at hp 43 rfl
            have hv44 : V 44 = (.bool true) := postsHold_at hp 44 rfl
            have hv45 : V 45 = (.agg #[(.slice pla pl.1.length plc), (.int .i64 pl.2.1), (.int .i64 pl.2.2.1), (.int .u32 pl.2.2.2.1), (.int .u32 pl.2.2.2.2.1), (.int .i64 pl.2.2.2.2.2.1)]) := postsHold_at hp 45 rfl
            have hv46 : V 46 = (.int .i64 kd) := postsHold_at hp 46 rfl
            have hv47 := postsHold_at hp 47 rfl
            obtain ⟨ea1, ec1, hv47, hr7⟩ := hv47
            rw [hv47] at hr7
            have hv48 : V 48 = (.slice rNa ((namK m kd m.2.1.list).length) rNc) := postsHold_at hp 48 rfl
            have hv49 : V 49 = (.bool true) := postsHold_at hp 49 rfl
            have hv50 : V 50 = (.bool true) := postsHold_at hp 50 rfl
            have hv51 : V 51 = (.bool true) := postsHold_at hp 51 rfl
            simp only [List.take_succ_cons, List.take_zero, insAll, ins, hv0, hv1, hv2, hv3, hv4, hv5, hv6, hv7, hv8, hv9, hv10, hv11, hv12, hv13, hv14, hv15, hv16, hv17, hv18, hv19, hv20, hv21, hv22, hv23, hv24, hv25, hv26, hv27, hv28, hv29, hv30, hv31, hv32, hv33, hv34, hv35, hv36, hv37, hv38, hv39, hv40, hv41, hv42, hv43, hv44, hv45, hv46, hv47, hv48, hv49, hv50, hv51] at hf
            clear hp hnb hv0 hv1 hv2 hv3 hv4 hv5 hv6 hv7 hv8 hv9 hv10 hv11 hv12 hv13 hv14 hv15 hv16 hv17 hv18 hv19 hv20 hv21 hv22 hv23 hv24 hv25 hv26 hv27 hv28 hv29 hv30 hv31 hv32 hv33 hv34 hv35 hv36 hv37 hv38 hv39 hv40 hv41 hv42 hv43 hv44 hv45 hv46 hv47 hv48 hv49 hv50 hv51
            replace hkb1 := blk_ext hkb1 he16
            replace hkb2 := blk_ext hkb2 he16
            replace hk16 := blk_ext hk16 he16
            replace hrpl := Row.ext hrpl he16
            replace hrrk := Row.ext hrrk he16
            replace hrN := Row.ext hrN he16
            replace hb := hb.trans (Below.mono he16 hb.size)
            (try simp only [Exit.then, Exit.inBlock, ↓reduceIte, Nat.reduceEqDiff])
            refine hK40 _ _ ?_
            refine wp_ret ?_
            (try simp only [Exit.then, Exit.inBlock])
            refine ret1 hf rfl rfl ?_
            exact ⟨rfl, hb⟩
end Go.Proofs.Ytahgkfekggkjnaa
