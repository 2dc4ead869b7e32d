/- What is proved here: the law ScopeNear is true. -/
import Derived.Test.YtahgkfekggkjnaaScA
namespace Go.Proofs.Ytahgkfekggkjnaa
open Go.RowKit
set_option linter.unusedVariables false
set_option linter.unusedSimpArgs false
theorem units_F {d : Sl MMd} {w w' : World} (g : fSlW 17 296 vMMd fMMd w d) (hb : Below w.heap.size w w') {l : List MUn} (h1 : l.length = d.len) (h2 : ∀ (j : Nat) (m : MMd), d.list[j]? = some m → l[j]? = some (unitU j m)) : ∀ u ∈ l, RdS 3 vMExp w' (expsU u).at' (expsU u).list ∧ (expsU u).len ≤ 9223372036854775807 := by
  intro u hu
  obtain ⟨j, hj⟩ := List.getElem?_of_mem hu
  have hjl := (List.getElem?_eq_some_iff.1 hj).1
  obtain ⟨m, hm⟩ : ∃ m, d.list[j]? = some m := ⟨_, List.getElem?_eq_getElem (by rw [Sl.list_length]; omega)⟩
  have h3 := h2 j m hm
  rw [hj] at h3
  cases h3
  have gm := fSl_el g.2 hm
  have ge : fSlW 3 24 vMExp fMExp w (expsU (unitU j m)) := gm.2.2.2.2.2.2.1
  refine ⟨RdS.ext (RdS.of_arg ge.2) hb, ?_⟩
  have h4 := ge.2.1
  have h5 := ge.2.2.1
  unfold maxLen at h5
  omega
theorem findU_bd (nm : ByteArray) : ∀ (l : List MUn) (i : Nat), 0 ≤ (findU nm l i).1 ∧ (findU nm l i).1 ≤ ((i + l.length : Nat) : Int)
  | [], i => ⟨by simp [findU], by simp only [findU]; omega⟩
  | u :: l, i => by
    rw [findU]
    split
    · exact ⟨by simp only; omega, by simp only [List.length_cons]; omega⟩
    · have := findU_bd nm l (i + 1)
      simp only [List.length_cons]
      omega
theorem find_nil (nm : ByteArray) (w : World) : Calls Try.prog 45 #[.slice none 0 0, .string nm] w fun e w' => e = .returned (.tuple #[.int .i64 0, (.agg #[(.string ⟨#[]⟩), (.int .u8 (0 : Int)), (.int .u32 (0 : Int))]), .bool false]) ∧ Below w.heap.size w w' :=
  findU_any [] nm none 0 0 w RdS.nil rfl (by decide) (by intro u hu; cases hu)

set_option maxHeartbeats 1000000 in
set_option maxRecDepth 100000 in
theorem data_nil (nm : ByteArray) (w : World) : Calls Try.prog 54 #[(.slice none 0 0), (.string nm)] w fun e w' => e = .returned (.tuple #[(.agg #[(.int .i64 (0 : Int)), (.int .u32 (0 : Int))]), .int .i64 42]) ∧ Below w.heap.size w w' := by
  refine sx_enter (L := [(0, (.slice none 0 0)), (1, (.string nm))]) Try.func54 rfl rfl rfl rfl (fun fa hf => ?_)
  have hb : Below w.heap.size w w := Below.refl _ _
  refine wp_seq_k (fun K1 hK1 => ?_)
  refine wp_region_lit ?_
  refine sqdt hf (d_alloc (z := (.agg #[(.int .i64 (0 : Int)), (.int .u32 (0 : Int))])) (cs := #[(.int .i64 (0 : Int)), (.int .u32 (0 : Int))]) (by kernel_rfl) rfl) rfl rfl rfl ?_; clear hf fa; rintro fa _ w1 ⟨b1, rfl, hle1, hk1, he1⟩ hf
  have hBb1 : w.heap.size ≤ b1 := Nat.le_trans hb.size hle1
  replace hb := hb.trans (Below.mono he1 hb.size)
  refine sqv hf (r_assign rfl) rfl rfl rfl ?_; clear hf fa; intro fa hf
  apply wpList_nil
  (try simp only [Exit.then, Exit.inBlock, ↓reduceIte, Nat.reduceEqDiff])
  refine hK1 _ _ ?_
  refine wp_seq_k (fun K2 hK2 => ?_)
  refine wp_region_lit ?_
  refine sqv hf (r_move rfl) rfl rfl rfl ?_; clear hf fa; intro fa hf
  refine sqv hf (r_move rfl) rfl rfl rfl ?_; clear hf fa; intro fa hf
  refine sqdt hf (d_callB (vs := [(.slice none 0 0), (.string nm)]) rfl Try.func45 (by kernel_rfl) (by kernel_rfl) (find_nil nm _)) rfl rfl rfl ?_; clear hf fa; rintro fa _ w2 ⟨rfl, he2⟩ hf
  replace hk1 := blk_ext hk1 he2
  replace hb := hb.trans (Below.mono he2 hb.size)
  refine sqv hf (r_move rfl) rfl rfl rfl ?_; clear hf fa; intro fa hf
  refine sqv hf (r_extract rfl (i := 0) rfl) rfl rfl rfl ?_; clear hf fa; intro fa hf
  refine sqv hf (r_extract rfl (i := 1) rfl) rfl rfl rfl ?_; clear hf fa; intro fa hf
  refine sqv hf (r_extract rfl (i := 2) rfl) rfl rfl rfl ?_; clear hf fa; intro fa hf
  refine sqdt hf (d_alloc (z := (.agg #[(.string ⟨#[]⟩), (.int .u8 (0 : Int)), (.int .u32 (0 : Int))])) (cs := #[(.string ⟨#[]⟩), (.int .u8 (0 : Int)), (.int .u32 (0 : Int))]) (by kernel_rfl) rfl) rfl rfl rfl ?_; clear hf fa; rintro fa _ w3 ⟨b2, rfl, hle2, hk2, he3⟩ hf
  have hBb2 : w.heap.size ≤ b2 := Nat.le_trans hb.size hle2
  have : b1 < b2 := Nat.lt_of_lt_of_le (blk_lt hk1) hle2
  replace hk1 := blk_ext hk1 he3
  replace hb := hb.trans (Below.mono he3 hb.size)
  refine sqv hf (r_assign rfl) rfl rfl rfl ?_; clear hf fa; intro fa hf
  refine sqn hf (d_storeK (T := 94) (v := (.agg #[(.string ⟨#[]⟩), (.int .u8 (0 : Int)), (.int .u32 (0 : Int))])) (cs := #[(.string ⟨#[]⟩), (.int .u8 (0 : Int)), (.int .u32 (0 : Int))]) (cs' := #[(.string ⟨#[]⟩), (.int .u8 (0 : Int)), (.int .u32 (0 : Int))]) rfl rfl (by kernel_rfl) (by kernel_rfl) hk2 (by kernel_rfl) (by kernel_rfl)) rfl rfl ?_; clear hf fa; rintro fa _ w4 ⟨hk3, hg1⟩ hf
  replace hk1 := blk_grown hk1 hg1 (by omega)
  replace hb := hb.trans (grown_below hg1 hb.size hBb2)
  refine sqv hf (r_assign rfl) rfl rfl rfl ?_; clear hf fa; intro fa hf
  apply wpList_nil
  (try simp only [Exit.then, Exit.inBlock, ↓reduceIte, Nat.reduceEqDiff])
  refine hK2 _ _ ?_
  refine wp_seq_k (fun K3 hK3 => ?_)
  refine wp_block ?_
  refine wp_seq_k (fun K4 hK4 => ?_)
  refine wp_region_lit ?_
  refine sqv hf (r_move rfl) rfl rfl rfl ?_; clear hf fa; intro fa hf
  refine sqv hf (r_not rfl) rfl rfl rfl ?_; clear hf fa; intro fa hf
  refine sqv hf (r_assign rfl) rfl rfl rfl ?_; clear hf fa; intro fa hf
  apply wpList_nil
  (try simp only [Exit.then, Exit.inBlock, ↓reduceIte, Nat.reduceEqDiff])
  refine hK4 _ _ ?_
  refine wp_cond_true ((hf.ev rfl).trans (congrArg Value.bool (show (!false) = true from rfl))) ?_
  refine wp_seq_k (fun K5 hK5 => ?_)
  refine wp_region_lit ?_
  refine sqv hf (r_build (vs := []) (cs := #[(.int .i64 (0 : Int)), (.int .u32 (0 : Int))]) rfl (fun _ => by kernel_rfl)) rfl rfl rfl ?_; clear hf fa; intro fa hf
  refine sqn hf (d_storeK (T := 49) (v := (.agg #[(.int .i64 (0 : Int)), (.int .u32 (0 : Int))])) (cs := #[(.int .i64 (0 : Int)), (.int .u32 (0 : Int))]) (cs' := #[(.int .i64 (0 : Int)), (.int .u32 (0 : Int))]) rfl rfl (by kernel_rfl) (by kernel_rfl) hk1 (by kernel_rfl) (by kernel_rfl)) rfl rfl ?_; clear hf fa; rintro fa _ w5 ⟨hk4, hg2⟩ hf
  replace hk3 := blk_grown hk3 hg2 (by omega)
  replace hb := hb.trans (grown_below hg2 hb.size hBb1)
  refine sqv hf (r_assign rfl) rfl rfl rfl ?_; clear hf fa; intro fa hf
  apply wpList_nil
  (try simp only [Exit.then, Exit.inBlock, ↓reduceIte, Nat.reduceEqDiff])
  refine hK5 _ _ ?_
  refine wp_ret ?_
  (try simp only [Exit.then, Exit.inBlock])
  refine retCT hf rfl rfl hk4 Try.underlying49 rfl (by kernel_rfl) rfl ?_
  exact ⟨rfl, hb⟩

set_option maxHeartbeats 1000000 in
set_option maxRecDepth 100000 in
theorem any_nil (nm : ByteArray) (w : World) : Calls Try.prog 51 #[(.slice none 0 0), (.string nm)] w fun e w' => e = .returned (.tuple #[(.agg #[(.int .i64 (0 : Int)), (.int .u32 (0 : Int))]), (.agg #[(.string ⟨#[]⟩), (.string ⟨#[]⟩)]), .int .i64 42]) ∧ Below w.heap.size w w' := by
  refine sx_enter (L := [(0, (.slice none 0 0)), (1, (.string nm))]) Try.func51 rfl rfl rfl rfl (fun fa hf => ?_)
  have hb : Below w.heap.size w w := Below.refl _ _
  refine wp_seq_k (fun K1 hK1 => ?_)
  refine wp_region_lit ?_
  refine sqdt hf (d_alloc (z := (.agg #[(.int .i64 (0 : Int)), (.int .u32 (0 : Int))])) (cs := #[(.int .i64 (0 : Int)), (.int .u32 (0 : Int))]) (by kernel_rfl) rfl) rfl rfl rfl ?_; clear hf fa; rintro fa _ w1 ⟨b1, rfl, hle1, hk1, he1⟩ hf
  have hBb1 : w.heap.size ≤ b1 := Nat.le_trans hb.size hle1
  replace hb := hb.trans (Below.mono he1 hb.size)
  refine sqdt hf (d_alloc (z := (.agg #[(.string ⟨#[]⟩), (.string ⟨#[]⟩)])) (cs := #[(.string ⟨#[]⟩), (.string ⟨#[]⟩)]) (by kernel_rfl) rfl) rfl rfl rfl ?_; clear hf fa; rintro fa _ w2 ⟨b2, rfl, hle2, hk2, he2⟩ hf
  have hBb2 : w.heap.size ≤ b2 := Nat.le_trans hb.size hle2
  have : b1 < b2 := Nat.lt_of_lt_of_le (blk_lt hk1) hle2
  replace hk1 := blk_ext hk1 he2
  replace hb := hb.trans (Below.mono he2 hb.size)
  refine sqv hf (r_assign rfl) rfl rfl rfl ?_; clear hf fa; intro fa hf
  apply wpList_nil
  (try simp only [Exit.then, Exit.inBlock, ↓reduceIte, Nat.reduceEqDiff])
  refine hK1 _ _ ?_
  refine wp_seq_k (fun K2 hK2 => ?_)
  refine wp_region_lit ?_
  refine sqv hf (r_move rfl) rfl rfl rfl ?_; clear hf fa; intro fa hf
  refine sqv hf (r_move rfl) rfl rfl rfl ?_; clear hf fa; intro fa hf
  refine sqdt hf (d_callB (vs := [(.slice none 0 0), (.string nm)]) rfl Try.func45 (by kernel_rfl) (by kernel_rfl) (find_nil nm _)) rfl rfl rfl ?_; clear hf fa; rintro fa _ w3 ⟨rfl, he3⟩ hf
  replace hk1 := blk_ext hk1 he3
  replace hk2 := blk_ext hk2 he3
  replace hb := hb.trans (Below.mono he3 hb.size)
  refine sqv hf (r_move rfl) rfl rfl rfl ?_; clear hf fa; intro fa hf
  refine sqv hf (r_extract rfl (i := 0) rfl) rfl rfl rfl ?_; clear hf fa; intro fa hf
  refine sqv hf (r_extract rfl (i := 1) rfl) rfl rfl rfl ?_; clear hf fa; intro fa hf
  refine sqv hf (r_extract rfl (i := 2) rfl) rfl rfl rfl ?_; clear hf fa; intro fa hf
  refine sqdt hf (d_alloc (z := (.agg #[(.string ⟨#[]⟩), (.int .u8 (0 : Int)), (.int .u32 (0 : Int))])) (cs := #[(.string ⟨#[]⟩), (.int .u8 (0 : Int)), (.int .u32 (0 : Int))]) (by kernel_rfl) rfl) rfl rfl rfl ?_; clear hf fa; rintro fa _ w4 ⟨b3, rfl, hle3, hk3, he4⟩ hf
  have hBb3 : w.heap.size ≤ b3 := Nat.le_trans hb.size hle3
  have : b1 < b3 := Nat.lt_of_lt_of_le (blk_lt hk1) hle3
  have : b2 < b3 := Nat.lt_of_lt_of_le (blk_lt hk2) hle3
  replace hk1 := blk_ext hk1 he4
  replace hk2 := blk_ext hk2 he4
  replace hb := hb.trans (Below.mono he4 hb.size)
  refine sqv hf (r_assign rfl) rfl rfl rfl ?_; clear hf fa; intro fa hf
  refine sqn hf (d_storeK (T := 94) (v := (.agg #[(.string ⟨#[]⟩), (.int .u8 (0 : Int)), (.int .u32 (0 : Int))])) (cs := #[(.string ⟨#[]⟩), (.int .u8 (0 : Int)), (.int .u32 (0 : Int))]) (cs' := #[(.string ⟨#[]⟩), (.int .u8 (0 : Int)), (.int .u32 (0 : Int))]) rfl rfl (by kernel_rfl) (by kernel_rfl) hk3 (by kernel_rfl) (by kernel_rfl)) rfl rfl ?_; clear hf fa; rintro fa _ w5 ⟨hk4, hg1⟩ hf
  replace hk1 := blk_grown hk1 hg1 (by omega)
  replace hk2 := blk_grown hk2 hg1 (by omega)
  replace hb := hb.trans (grown_below hg1 hb.size hBb3)
  refine sqv hf (r_assign rfl) rfl rfl rfl ?_; clear hf fa; intro fa hf
  apply wpList_nil
  (try simp only [Exit.then, Exit.inBlock, ↓reduceIte, Nat.reduceEqDiff])
  refine hK2 _ _ ?_
  refine wp_seq_k (fun K3 hK3 => ?_)
  refine wp_seq_k (fun K4 hK4 => ?_)
  refine wp_region_lit ?_
  refine sqv hf (r_move rfl) rfl rfl rfl ?_; clear hf fa; intro fa hf
  refine sqv hf (r_not rfl) rfl rfl rfl ?_; clear hf fa; intro fa hf
  apply wpList_nil
  (try simp only [Exit.then, Exit.inBlock, ↓reduceIte, Nat.reduceEqDiff])
  refine hK4 _ _ ?_
  refine wp_cond_true ((hf.ev rfl).trans (congrArg Value.bool (show (!false) = true from rfl))) ?_
  refine wp_seq_k (fun K5 hK5 => ?_)
  refine wp_region_lit ?_
  refine sqv hf (r_build (vs := []) (cs := #[(.int .i64 (0 : Int)), (.int .u32 (0 : Int))]) rfl (fun _ => by kernel_rfl)) rfl rfl rfl ?_; clear hf fa; intro fa hf
  refine sqv hf (r_build (vs := []) (cs := #[(.string ⟨#[]⟩), (.string ⟨#[]⟩)]) rfl (fun _ => by kernel_rfl)) rfl rfl rfl ?_; clear hf fa; intro fa hf
  refine sqn hf (d_storeK (T := 49) (v := (.agg #[(.int .i64 (0 : Int)), (.int .u32 (0 : Int))])) (cs := #[(.int .i64 (0 : Int)), (.int .u32 (0 : Int))]) (cs' := #[(.int .i64 (0 : Int)), (.int .u32 (0 : Int))]) rfl rfl (by kernel_rfl) (by kernel_rfl) hk1 (by kernel_rfl) (by kernel_rfl)) rfl rfl ?_; clear hf fa; rintro fa _ w6 ⟨hk5, hg2⟩ hf
  replace hk2 := blk_grown hk2 hg2 (by omega)
  replace hk4 := blk_grown hk4 hg2 (by omega)
  replace hb := hb.trans (grown_below hg2 hb.size hBb1)
  refine sqn hf (d_storeK (T := 78) (v := (.agg #[(.string ⟨#[]⟩), (.string ⟨#[]⟩)])) (cs := #[(.string ⟨#[]⟩), (.string ⟨#[]⟩)]) (cs' := #[(.string ⟨#[]⟩), (.string ⟨#[]⟩)]) rfl rfl (by kernel_rfl) (by kernel_rfl) hk2 (by kernel_rfl) (by kernel_rfl)) rfl rfl ?_; clear hf fa; rintro fa _ w7 ⟨hk6, hg3⟩ hf
  replace hk5 := blk_grown hk5 hg3 (by omega)
  replace hk4 := blk_grown hk4 hg3 (by omega)
  replace hb := hb.trans (grown_below hg3 hb.size hBb2)
  refine sqv hf (r_assign rfl) rfl rfl rfl ?_; clear hf fa; intro fa hf
  apply wpList_nil
  (try simp only [Exit.then, Exit.inBlock, ↓reduceIte, Nat.reduceEqDiff])
  refine hK5 _ _ ?_
  refine wp_ret ?_
  (try simp only [Exit.then, Exit.inBlock])
  refine retCCT hf rfl rfl hk5 Try.underlying49 rfl (by kernel_rfl) rfl hk6 Try.underlying78 rfl (by kernel_rfl) rfl ?_
  exact ⟨rfl, hb⟩

set_option maxHeartbeats 1000000 in
set_option maxRecDepth 100000 in
theorem awake37_any (w : World) : Calls Try.prog 44 #[] w fun e w' => e = .returned (.bool true) ∧ Below w.heap.size w w' := by
  refine sx_enter (L := []) Try.func44 rfl rfl rfl rfl (fun fa hf => ?_)
  have hb : Below w.heap.size w w := Below.refl _ _
  refine wp_seq_k (fun K1 hK1 => ?_)
  refine wp_region_lit ?_
  refine sqv hf (r_assign rfl) rfl rfl rfl ?_; clear hf fa; intro fa hf
  apply wpList_nil
  (try simp only [Exit.then, Exit.inBlock, ↓reduceIte, Nat.reduceEqDiff])
  refine hK1 _ _ ?_
  refine wp_seq_k (fun K2 hK2 => ?_)
  refine wp_region_lit ?_
  refine sqdt hf (d_callB (vs := [(.slice none 0 0), (.string ⟨#[120]⟩)]) rfl Try.func54 (by kernel_rfl) (by kernel_rfl) (data_nil _ _)) rfl rfl rfl ?_; clear hf fa; rintro fa _ w1 ⟨rfl, he1⟩ hf
  replace hb := hb.trans (Below.mono he1 hb.size)
  refine sqv hf (r_move rfl) rfl rfl rfl ?_; clear hf fa; intro fa hf
  refine sqv hf (r_extract rfl (i := 0) rfl) rfl rfl rfl ?_; clear hf fa; intro fa hf
  refine sqv hf (r_extract rfl (i := 1) rfl) rfl rfl rfl ?_; clear hf fa; intro fa hf
  refine sqdt hf (d_alloc (z := (.agg #[(.int .i64 (0 : Int)), (.int .u32 (0 : Int))])) (cs := #[(.int .i64 (0 : Int)), (.int .u32 (0 : Int))]) (by kernel_rfl) rfl) rfl rfl rfl ?_; clear hf fa; rintro fa _ w2 ⟨b1, rfl, hle1, hk1, he2⟩ hf
  have hBb1 : w.heap.size ≤ b1 := Nat.le_trans hb.size hle1
  replace hb := hb.trans (Below.mono he2 hb.size)
  refine sqn hf (d_storeK (T := 49) (v := (.agg #[(.int .i64 (0 : Int)), (.int .u32 (0 : Int))])) (cs := #[(.int .i64 (0 : Int)), (.int .u32 (0 : Int))]) (cs' := #[(.int .i64 (0 : Int)), (.int .u32 (0 : Int))]) rfl rfl (by kernel_rfl) (by kernel_rfl) hk1 (by kernel_rfl) (by kernel_rfl)) rfl rfl ?_; clear hf fa; rintro fa _ w3 ⟨hk2, hg1⟩ hf
  replace hb := hb.trans (grown_below hg1 hb.size hBb1)
  refine sqv hf (r_assign rfl) rfl rfl rfl ?_; clear hf fa; intro fa hf
  apply wpList_nil
  (try simp only [Exit.then, Exit.inBlock, ↓reduceIte, Nat.reduceEqDiff])
  refine hK2 _ _ ?_
  refine wp_seq_k (fun K3 hK3 => ?_)
  refine wp_region_lit ?_
  refine sqdt hf (d_callB (vs := [(.slice none 0 0), (.string ⟨#[120]⟩)]) rfl Try.func51 (by kernel_rfl) (by kernel_rfl) (any_nil _ _)) rfl rfl rfl ?_; clear hf fa; rintro fa _ w4 ⟨rfl, he3⟩ hf
  replace hk2 := blk_ext hk2 he3
  replace hb := hb.trans (Below.mono he3 hb.size)
  refine sqv hf (r_move rfl) rfl rfl rfl ?_; clear hf fa; intro fa hf
  refine sqv hf (r_extract rfl (i := 0) rfl) rfl rfl rfl ?_; clear hf fa; intro fa hf
  refine sqv hf (r_extract rfl (i := 1) rfl) rfl rfl rfl ?_; clear hf fa; intro fa hf
  refine sqv hf (r_extract rfl (i := 2) rfl) rfl rfl rfl ?_; clear hf fa; intro fa hf
  refine sqdt hf (d_alloc (z := (.agg #[(.int .i64 (0 : Int)), (.int .u32 (0 : Int))])) (cs := #[(.int .i64 (0 : Int)), (.int .u32 (0 : Int))]) (by kernel_rfl) rfl) rfl rfl rfl ?_; clear hf fa; rintro fa _ w5 ⟨b2, rfl, hle2, hk3, he4⟩ hf
  have hBb2 : w.heap.size ≤ b2 := Nat.le_trans hb.size hle2
  have : b1 < b2 := Nat.lt_of_lt_of_le (blk_lt hk2) hle2
  replace hk2 := blk_ext hk2 he4
  replace hb := hb.trans (Below.mono he4 hb.size)
  refine sqdt hf (d_alloc (z := (.agg #[(.string ⟨#[]⟩), (.string ⟨#[]⟩)])) (cs := #[(.string ⟨#[]⟩), (.string ⟨#[]⟩)]) (by kernel_rfl) rfl) rfl rfl rfl ?_; clear hf fa; rintro fa _ w6 ⟨b3, rfl, hle3, hk4, he5⟩ hf
  have hBb3 : w.heap.size ≤ b3 := Nat.le_trans hb.size hle3
  have : b1 < b3 := Nat.lt_of_lt_of_le (blk_lt hk2) hle3
  have : b2 < b3 := Nat.lt_of_lt_of_le (blk_lt hk3) hle3
  replace hk2 := blk_ext hk2 he5
  replace hk3 := blk_ext hk3 he5
  replace hb := hb.trans (Below.mono he5 hb.size)
  refine sqn hf (d_storeK (T := 49) (v := (.agg #[(.int .i64 (0 : Int)), (.int .u32 (0 : Int))])) (cs := #[(.int .i64 (0 : Int)), (.int .u32 (0 : Int))]) (cs' := #[(.int .i64 (0 : Int)), (.int .u32 (0 : Int))]) rfl rfl (by kernel_rfl) (by kernel_rfl) hk3 (by kernel_rfl) (by kernel_rfl)) rfl rfl ?_; clear hf fa; rintro fa _ w7 ⟨hk5, hg2⟩ hf
  replace hk2 := blk_grown hk2 hg2 (by omega)
  replace hk4 := blk_grown hk4 hg2 (by omega)
  replace hb := hb.trans (grown_below hg2 hb.size hBb2)
  refine sqn hf (d_storeK (T := 78) (v := (.agg #[(.string ⟨#[]⟩), (.string ⟨#[]⟩)])) (cs := #[(.string ⟨#[]⟩), (.string ⟨#[]⟩)]) (cs' := #[(.string ⟨#[]⟩), (.string ⟨#[]⟩)]) rfl rfl (by kernel_rfl) (by kernel_rfl) hk4 (by kernel_rfl) (by kernel_rfl)) rfl rfl ?_; clear hf fa; rintro fa _ w8 ⟨hk6, hg3⟩ hf
  replace hk2 := blk_grown hk2 hg3 (by omega)
  replace hk5 := blk_grown hk5 hg3 (by omega)
  replace hb := hb.trans (grown_below hg3 hb.size hBb3)
  refine sqv hf (r_assign rfl) rfl rfl rfl ?_; clear hf fa; intro fa hf
  apply wpList_nil
  (try simp only [Exit.then, Exit.inBlock, ↓reduceIte, Nat.reduceEqDiff])
  refine hK3 _ _ ?_
  refine wp_seq_k (fun K4 hK4 => ?_)
  refine wp_region_lit ?_
  refine sqv hf (r_move rfl) rfl rfl rfl ?_; clear hf fa; intro fa hf
  refine sqv hf (r_eq rfl rfl) rfl rfl rfl ?_; clear hf fa; intro fa hf
  refine sqv hf (r_move rfl) rfl rfl rfl ?_; clear hf fa; intro fa hf
  refine sqgT (act := (decide ((42 : Int) = (42 : Int)))) (ag := true) (c := (decide ((42 : Int) = (42 : Int)))) (v := (.int .i64 (42 : Int))) hf rfl rfl rfl (fun hact => (r_move rfl)) rfl rfl ?_; clear hf fa; intro fa hf
  refine sqgT (act := (decide ((42 : Int) = (42 : Int)))) (ag := true) (c := (decide ((42 : Int) = (42 : Int)))) (v := (.bool (decide ((42 : Int) = (42 : Int))))) hf rfl rfl rfl (fun hact => (r_eq (gb_ev hact rfl) rfl)) rfl rfl ?_; clear hf fa; intro fa hf
  refine sqv hf (r_pickA (b := (decide ((42 : Int) = (42 : Int)))) (e := (decide ((42 : Int) = (42 : Int)))) rfl rfl rfl) rfl rfl rfl ?_; clear hf fa; intro fa hf
  refine sqv hf (r_assign rfl) rfl rfl rfl ?_; clear hf fa; intro fa hf
  apply wpList_nil
  (try simp only [Exit.then, Exit.inBlock, ↓reduceIte, Nat.reduceEqDiff])
  refine hK4 _ _ ?_
  refine wp_ret ?_
  (try simp only [Exit.then, Exit.inBlock])
  refine ret1 hf rfl rfl ?_
  exact ⟨congrArg (fun b => Ending.returned (.bool b)) (by decide), hb⟩

theorem fSl_kept {w w' : World} {d : Sl MMd} (h : fSl 17 vMMd fMMd w d) (hb : Below w.heap.size w w') : fSl 17 vMMd fMMd w' d :=
  ⟨h.1, h.2.1, h.2.2.1, fun j hj => by
    obtain ⟨g, b, off, ha, hl, hc⟩ := h.2.2.2 j hj
    exact ⟨rdMMd.kept _ _ _ hb g, b, off, ha, Nat.lt_of_lt_of_le hl hb.size, fun i u hu => (hb.cell (p := ⟨b, off + j * 17 + i, none⟩) hl).trans (hc i u hu)⟩⟩

set_option maxHeartbeats 1000000 in
set_option maxRecDepth 100000 in
theorem scopeNear_any (d : Sl MMd) (nm : ByteArray) (w : World) (g : fSlW 17 296 vMMd fMMd w d) : Calls Try.prog 11 #[(.slice d.at' d.len d.cap), (.string nm)] w fun e w' => e = .returned (.bool true) ∧ Below w.heap.size w w' := by
  refine sx_enter (L := [(0, (.slice d.at' d.len d.cap)), (1, (.string nm))]) Try.func11 rfl rfl rfl rfl (fun fa hf => ?_)
  have hb : Below w.heap.size w w := Below.refl _ _
  refine wp_seq_k (fun K1 hK1 => ?_)
  refine wp_region_lit ?_
  refine sqv hf (r_assign rfl) rfl rfl rfl ?_; clear hf fa; intro fa hf
  apply wpList_nil
  (try simp only [Exit.then, Exit.inBlock, ↓reduceIte, Nat.reduceEqDiff])
  refine hK1 _ _ ?_
  refine wp_seq_k (fun K2 hK2 => ?_)
  refine wp_seq_k (fun K3 hK3 => ?_)
  refine wp_region_lit ?_
  refine sqdt hf (d_callB (vs := []) rfl Try.func44 (by kernel_rfl) (by kernel_rfl) (awake37_any _)) rfl rfl rfl ?_; clear hf fa; rintro fa _ w1 ⟨rfl, he1⟩ hf
  replace hb := hb.trans (Below.mono he1 hb.size)
  refine sqv hf (r_not rfl) rfl rfl rfl ?_; clear hf fa; intro fa hf
  apply wpList_nil
  (try simp only [Exit.then, Exit.inBlock, ↓reduceIte, Nat.reduceEqDiff])
  refine hK3 _ _ ?_
  refine wp_cond_false ((hf.ev rfl).trans (congrArg Value.bool (show (!true) = false from rfl))) ?_
  refine wp_skip ?_
  (try simp only [Exit.then, Exit.inBlock, ↓reduceIte, Nat.reduceEqDiff])
  refine hK2 _ _ ?_
  refine wp_seq_k (fun K4 hK4 => ?_)
  refine wp_region_lit ?_
  refine sqv hf (r_move rfl) rfl rfl rfl ?_; clear hf fa; intro fa hf
  refine sqdt hf (d_callX (vs := [(.slice d.at' d.len d.cap)]) rfl Try.func27 (by kernel_rfl) (by kernel_rfl) (units_any d _ (by exact ⟨g.1, (fSl_kept g.2 hb)⟩))) rfl rfl rfl ?_; clear hf fa; rintro fa _ w2 ⟨ua, uc, ub, ul, rfl, hU0, hr1, he2⟩ hf
  replace hr1 := Row.rebase hr1 hb.size
  replace hb := hb.trans (Below.mono he2 hb.size)
  have hcu := Row.caps hr1
  refine sqv hf (r_move rfl) rfl rfl rfl ?_; clear hf fa; intro fa hf
  refine sqv hf (r_extract rfl (i := 0) rfl) rfl rfl rfl ?_; clear hf fa; intro fa hf
  refine sqv hf (r_extract rfl (i := 1) rfl) rfl rfl rfl ?_; clear hf fa; intro fa hf
  refine sqv hf (r_assign rfl) rfl rfl rfl ?_; clear hf fa; intro fa hf
  refine sqv hf (r_assign rfl) rfl rfl rfl ?_; clear hf fa; intro fa hf
  apply wpList_nil
  (try simp only [Exit.then, Exit.inBlock, ↓reduceIte, Nat.reduceEqDiff])
  refine hK4 _ _ ?_
  refine wp_seq_k (fun K5 hK5 => ?_)
  refine wp_seq_k (fun K6 hK6 => ?_)
  refine wp_region_lit ?_
  refine sqv hf (r_move rfl) rfl rfl rfl ?_; clear hf fa; intro fa hf
  refine sqv hf (r_not rfl) rfl rfl rfl ?_; clear hf fa; intro fa hf
  refine sqv hf (r_move rfl) rfl rfl rfl ?_; clear hf fa; intro fa hf
  refine sqgF (act := (!(!ub))) (ag := true) (c := (!ub)) (v := (.slice ua ul.length uc)) hf rfl rfl rfl (fun hact => (r_move rfl)) rfl rfl ?_; clear hf fa; intro fa hf
  refine sqgF (act := (!(!ub))) (ag := true) (c := (!ub)) (v := (.int .i64 ((ul.length : Nat) : Int))) hf rfl rfl rfl (fun hact => (r_lensl (gb_ev hact rfl) Try.underlying45)) rfl rfl ?_; clear hf fa; intro fa hf
  refine sqgF (act := (!(!ub))) (ag := true) (c := (!ub)) (v := (.bool (decide (((ul.length : Nat) : Int) = (0 : Int))))) hf rfl rfl rfl (fun hact => (r_eq (gb_ev hact rfl) rfl)) rfl rfl ?_; clear hf fa; intro fa hf
  refine sqv hf (r_pickO (b := (!ub)) (e := (decide (((ul.length : Nat) : Int) = (0 : Int)))) rfl rfl rfl) rfl rfl rfl ?_; clear hf fa; intro fa hf
  refine sqv hf (r_move rfl) rfl rfl rfl ?_; clear hf fa; intro fa hf
  refine sqgF (act := (!((!ub) || (decide (((ul.length : Nat) : Int) = (0 : Int)))))) (ag := true) (c := ((!ub) || (decide (((ul.length : Nat) : Int) = (0 : Int))))) (v := (.string nm)) hf rfl rfl rfl (fun hact => (r_move rfl)) rfl rfl ?_; clear hf fa; intro fa hf
  refine sqgF (act := (!((!ub) || (decide (((ul.length : Nat) : Int) = (0 : Int)))))) (ag := true) (c := ((!ub) || (decide (((ul.length : Nat) : Int) = (0 : Int))))) (v := (.int .i64 ((nm.size : Nat) : Int))) hf rfl rfl rfl (fun hact => (r_lens (gb_ev hact rfl) Try.underlying9)) rfl rfl ?_; clear hf fa; intro fa hf
  refine sqgF (act := (!((!ub) || (decide (((ul.length : Nat) : Int) = (0 : Int)))))) (ag := true) (c := ((!ub) || (decide (((ul.length : Nat) : Int) = (0 : Int))))) (v := (.bool (decide ((300 : Int) < ((nm.size : Nat) : Int))))) hf rfl rfl rfl (fun hact => (r_gt (gb_ev hact rfl) rfl)) rfl rfl ?_; clear hf fa; intro fa hf
  refine sqv hf (r_pickO (b := ((!ub) || (decide (((ul.length : Nat) : Int) = (0 : Int))))) (e := (decide ((300 : Int) < ((nm.size : Nat) : Int)))) rfl rfl rfl) rfl rfl rfl ?_; clear hf fa; intro fa hf
  apply wpList_nil
  (try simp only [Exit.then, Exit.inBlock, ↓reduceIte, Nat.reduceEqDiff])
  refine hK6 _ _ ?_
  refine wp_cond_split (t := (((!ub) || (decide (((ul.length : Nat) : Int) = (0 : Int)))) || (decide ((300 : Int) < ((nm.size : Nat) : Int))))) (hf.ev rfl) (fun hqt34_1 => ?_) (fun hqt34_1 => ?_)
  · have hqt34_1b := hqt34_1
    try simp only [decide_eq_true_eq, Bool.and_eq_true, Bool.or_eq_true, Bool.not_eq_true', decide_eq_false_iff_not, ne_eq, Bool.not_eq_true] at hqt34_1
    refine wp_seq_k (fun K7 hK7 => ?_)
    refine wp_region_lit ?_
    refine sqv hf (r_assign rfl) rfl rfl rfl ?_; clear hf fa; intro fa hf
    apply wpList_nil
    (try simp only [Exit.then, Exit.inBlock, ↓reduceIte, Nat.reduceEqDiff])
    refine hK7 _ _ ?_
    refine wp_ret ?_
    (try simp only [Exit.then, Exit.inBlock])
    refine ret1 hf rfl rfl ?_
    exact ⟨rfl, hb⟩
  · have hqt34_1b := hqt34_1
    replace hqt34_1 := Bool.eq_false_iff.1 hqt34_1
    try simp only [ne_eq, decide_eq_true_eq, Bool.and_eq_true, Bool.or_eq_true, Bool.not_eq_true', decide_eq_false_iff_not] at hqt34_1
    refine wp_skip ?_
    (try simp only [Exit.then, Exit.inBlock, ↓reduceIte, Nat.reduceEqDiff])
    refine hK5 _ _ ?_
    refine wp_seq_k (fun K8 hK8 => ?_)
    have hub : ub = true := by have h := hqt34_1; revert h; cases ub <;> simp
    have hlu : 0 < ul.length := by have h := hqt34_1; omega
    have hU := hU0 hub
    have hn : ((findU nm (ul.take 1) 0).2.2 = true → (findU nm ul 0) = (findU nm (ul.take 1) 0) ∧ (findU nm (ul.take 1) 0).1 = 0) ∧ (¬ (findU nm (ul.take 1) 0).2.2 = true → (findU nm ul 0).2 = (findU nm (ul.drop 1) 0).2 ∧ ((findU nm (ul.drop 1) 0).2.2 = true → (findU nm ul 0).1 = (findU nm (ul.drop 1) 0).1 + 1)) := by
      obtain ⟨u, l', hl'⟩ : ∃ u l', ul = u :: l' := by
        cases ul with
        | nil => exact absurd hlu (by simp)
        | cons u l' => exact ⟨u, l', rfl⟩
      rw [hl']
      exact findU_near nm u l'
    have hcb := findU_bd nm (ul.drop 1) 0
    have hcl : (ul.drop 1).length = ul.length - 1 := List.length_drop
    refine wp_region_lit ?_
    refine sqv hf (r_move rfl) rfl rfl rfl ?_; clear hf fa; intro fa hf
    refine sqv hf (r_move rfl) rfl rfl rfl ?_; clear hf fa; intro fa hf
    refine sqdt hf (d_callB (vs := [(.slice ua ul.length uc), (.string nm)]) rfl Try.func45 (by kernel_rfl) (by kernel_rfl) (findU_any ul nm _ _ _ _ (Row.rd (by intros; rfl) hr1) (by rfl) (by omega) (units_F g hb hU.1 hU.2.2.1))) rfl rfl rfl ?_; clear hf fa; rintro fa _ w3 ⟨rfl, he3⟩ hf
    replace hr1 := Row.ext hr1 he3
    replace hb := hb.trans (Below.mono he3 hb.size)
    refine sqv hf (r_move rfl) rfl rfl rfl ?_; clear hf fa; intro fa hf
    refine sqv hf (r_extract rfl (i := 0) rfl) rfl rfl rfl ?_; clear hf fa; intro fa hf
    refine sqv hf (r_extract rfl (i := 1) rfl) rfl rfl rfl ?_; clear hf fa; intro fa hf
    refine sqv hf (r_extract rfl (i := 2) rfl) rfl rfl rfl ?_; clear hf fa; intro fa hf
    refine sqdt hf (d_alloc (z := (.agg #[(.string ⟨#[]⟩), (.int .u8 (0 : Int)), (.int .u32 (0 : Int))])) (cs := #[(.string ⟨#[]⟩), (.int .u8 (0 : Int)), (.int .u32 (0 : Int))]) (by kernel_rfl) rfl) rfl rfl rfl ?_; clear hf fa; rintro fa _ w4 ⟨b1, rfl, hle1, hk1, he4⟩ hf
    have hBb1 : w.heap.size ≤ b1 := Nat.le_trans hb.size hle1
    replace hr1 := Row.ext hr1 he4
    replace hb := hb.trans (Below.mono he4 hb.size)
    refine sqv hf (r_assign rfl) rfl rfl rfl ?_; clear hf fa; intro fa hf
    refine sqn hf (d_storeK (T := 94) (v := (.agg #[(.string (findU nm ul 0).2.1.1), (.int .u8 ((findU nm ul 0).2.1.2.1)), (.int .u32 ((findU nm ul 0).2.1.2.2.1))])) (cs := #[(.string ⟨#[]⟩), (.int .u8 (0 : Int)), (.int .u32 (0 : Int))]) (cs' := #[(.string (findU nm ul 0).2.1.1), (.int .u8 ((findU nm ul 0).2.1.2.1)), (.int .u32 ((findU nm ul 0).2.1.2.2.1))]) rfl rfl (by kernel_rfl) (by kernel_rfl) hk1 (by kernel_rfl) (by kernel_rfl)) rfl rfl ?_; clear hf fa; rintro fa _ w5 ⟨hk2, hg1⟩ hf
    replace hr1 := Row.grown hr1 hg1 (Row.ne_type hr1 hk1 rfl)
    replace hb := hb.trans (grown_below hg1 hb.size hBb1)
    refine sqv hf (r_assign rfl) rfl rfl rfl ?_; clear hf fa; intro fa hf
    apply wpList_nil
    (try simp only [Exit.then, Exit.inBlock, ↓reduceIte, Nat.reduceEqDiff])
    refine hK8 _ _ ?_
    refine wp_seq_k (fun K9 hK9 => ?_)
    refine wp_region_lit ?_
    refine sqv hf (r_move rfl) rfl rfl rfl ?_; clear hf fa; intro fa hf
    refine sqv hf (r_slto (m := 1) rfl rfl Try.underlying45 (by kernel_rfl) rfl (by omega)) rfl rfl rfl ?_; clear hf fa; intro fa hf
    refine sqv hf (r_move rfl) rfl rfl rfl ?_; clear hf fa; intro fa hf
    refine sqdt hf (d_callB (vs := [(.slice ua 1 uc), (.string nm)]) rfl Try.func45 (by kernel_rfl) (by kernel_rfl) (findU_any (ul.take 1) nm _ _ _ _ (RdS.take 1 (Row.rd (by intros; rfl) hr1)) (by (rw [List.length_take]; omega)) (by omega) (fun u hu => (units_F g hb hU.1 hU.2.2.1) u (List.mem_of_mem_take hu)))) rfl rfl rfl ?_; clear hf fa; rintro fa _ w6 ⟨rfl, he5⟩ hf
    replace hk2 := blk_ext hk2 he5
    replace hr1 := Row.ext hr1 he5
    replace hb := hb.trans (Below.mono he5 hb.size)
    refine sqv hf (r_move rfl) rfl rfl rfl ?_; clear hf fa; intro fa hf
    refine sqv hf (r_extract rfl (i := 0) rfl) rfl rfl rfl ?_; clear hf fa; intro fa hf
    refine sqv hf (r_extract rfl (i := 1) rfl) rfl rfl rfl ?_; clear hf fa; intro fa hf
    refine sqv hf (r_extract rfl (i := 2) rfl) rfl rfl rfl ?_; clear hf fa; intro fa hf
    refine sqdt hf (d_alloc (z := (.agg #[(.string ⟨#[]⟩), (.int .u8 (0 : Int)), (.int .u32 (0 : Int))])) (cs := #[(.string ⟨#[]⟩), (.int .u8 (0 : Int)), (.int .u32 (0 : Int))]) (by kernel_rfl) rfl) rfl rfl rfl ?_; clear hf fa; rintro fa _ w7 ⟨b2, rfl, hle2, hk3, he6⟩ hf
    have hBb2 : w.heap.size ≤ b2 := Nat.le_trans hb.size hle2
    have : b1 < b2 := Nat.lt_of_lt_of_le (blk_lt hk2) hle2
    replace hk2 := blk_ext hk2 he6
    replace hr1 := Row.ext hr1 he6
    replace hb := hb.trans (Below.mono he6 hb.size)
    refine sqv hf (r_assign rfl) rfl rfl rfl ?_; clear hf fa; intro fa hf
    refine sqn hf (d_storeK (T := 94) (v := (.agg #[(.string (findU nm (ul.take 1) 0).2.1.1), (.int .u8 ((findU nm (ul.take 1) 0).2.1.2.1)), (.int .u32 ((findU nm (ul.take 1) 0).2.1.2.2.1))])) (cs := #[(.string ⟨#[]⟩), (.int .u8 (0 : Int)), (.int .u32 (0 : Int))]) (cs' := #[(.string (findU nm (ul.take 1) 0).2.1.1), (.int .u8 ((findU nm (ul.take 1) 0).2.1.2.1)), (.int .u32 ((findU nm (ul.take 1) 0).2.1.2.2.1))]) rfl rfl (by kernel_rfl) (by kernel_rfl) hk3 (by kernel_rfl) (by kernel_rfl)) rfl rfl ?_; clear hf fa; rintro fa _ w8 ⟨hk4, hg2⟩ hf
    replace hk2 := blk_grown hk2 hg2 (by omega)
    replace hr1 := Row.grown hr1 hg2 (Row.ne_type hr1 hk3 rfl)
    replace hb := hb.trans (grown_below hg2 hb.size hBb2)
    refine sqv hf (r_assign rfl) rfl rfl rfl ?_; clear hf fa; intro fa hf
    apply wpList_nil
    (try simp only [Exit.then, Exit.inBlock, ↓reduceIte, Nat.reduceEqDiff])
    refine hK9 _ _ ?_
    refine wp_seq_k (fun K10 hK10 => ?_)
    refine wp_region_lit ?_
    refine sqv hf (r_move rfl) rfl rfl rfl ?_; clear hf fa; intro fa hf
    refine sqv hf (r_slfrom (m := 1) (s := 18) rfl rfl Try.underlying45 (by kernel_rfl) rfl (by omega)) rfl rfl rfl ?_; clear hf fa; intro fa hf
    refine sqv hf (r_move rfl) rfl rfl rfl ?_; clear hf fa; intro fa hf
    refine sqdt hf (d_callB (vs := [(.slice (fromA ua 1 uc 18) ((ul.length - 1)) (uc - 1)), (.string nm)]) rfl Try.func45 (by kernel_rfl) (by kernel_rfl) (findU_any (ul.drop 1) nm _ _ _ _ (RdS.from (Row.rd (by intros; rfl) hr1) (by omega)) (by (rw [List.length_drop])) (by omega) (fun u hu => (units_F g hb hU.1 hU.2.2.1) u (List.mem_of_mem_drop hu)))) rfl rfl rfl ?_; clear hf fa; rintro fa _ w9 ⟨rfl, he7⟩ hf
    replace hk2 := blk_ext hk2 he7
    replace hk4 := blk_ext hk4 he7
    replace hr1 := Row.ext hr1 he7
    replace hb := hb.trans (Below.mono he7 hb.size)
    refine sqv hf (r_move rfl) rfl rfl rfl ?_; clear hf fa; intro fa hf
    refine sqv hf (r_extract rfl (i := 0) rfl) rfl rfl rfl ?_; clear hf fa; intro fa hf
    refine sqv hf (r_extract rfl (i := 1) rfl) rfl rfl rfl ?_; clear hf fa; intro fa hf
    refine sqv hf (r_extract rfl (i := 2) rfl) rfl rfl rfl ?_; clear hf fa; intro fa hf
    refine sqdt hf (d_alloc (z := (.agg #[(.string ⟨#[]⟩), (.int .u8 (0 : Int)), (.int .u32 (0 : Int))])) (cs := #[(.string ⟨#[]⟩), (.int .u8 (0 : Int)), (.int .u32 (0 : Int))]) (by kernel_rfl) rfl) rfl rfl rfl ?_; clear hf fa; rintro fa _ w10 ⟨b3, rfl, hle3, hk5, he8⟩ hf
    have hBb3 : w.heap.size ≤ b3 := Nat.le_trans hb.size hle3
    have : b1 < b3 := Nat.lt_of_lt_of_le (blk_lt hk2) hle3
    have : b2 < b3 := Nat.lt_of_lt_of_le (blk_lt hk4) hle3
    replace hk2 := blk_ext hk2 he8
    replace hk4 := blk_ext hk4 he8
    replace hr1 := Row.ext hr1 he8
    replace hb := hb.trans (Below.mono he8 hb.size)
    refine sqv hf (r_assign rfl) rfl rfl rfl ?_; clear hf fa; intro fa hf
    refine sqn hf (d_storeK (T := 94) (v := (.agg #[(.string (findU nm (ul.drop 1) 0).2.1.1), (.int .u8 ((findU nm (ul.drop 1) 0).2.1.2.1)), (.int .u32 ((findU nm (ul.drop 1) 0).2.1.2.2.1))])) (cs := #[(.string ⟨#[]⟩), (.int .u8 (0 : Int)), (.int .u32 (0 : Int))]) (cs' := #[(.string (findU nm (ul.drop 1) 0).2.1.1), (.int .u8 ((findU nm (ul.drop 1) 0).2.1.2.1)), (.int .u32 ((findU nm (ul.drop 1) 0).2.1.2.2.1))]) rfl rfl (by kernel_rfl) (by kernel_rfl) hk5 (by kernel_rfl) (by kernel_rfl)) rfl rfl ?_; clear hf fa; rintro fa _ w11 ⟨hk6, hg3⟩ hf
    replace hk2 := blk_grown hk2 hg3 (by omega)
    replace hk4 := blk_grown hk4 hg3 (by omega)
    replace hr1 := Row.grown hr1 hg3 (Row.ne_type hr1 hk5 rfl)
    replace hb := hb.trans (grown_below hg3 hb.size hBb3)
    refine sqv hf (r_assign rfl) rfl rfl rfl ?_; clear hf fa; intro fa hf
    apply wpList_nil
    (try simp only [Exit.then, Exit.inBlock, ↓reduceIte, Nat.reduceEqDiff])
    refine hK10 _ _ ?_
    refine wp_seq_k (fun K11 hK11 => ?_)
    refine wp_seq_k (fun K12 hK12 => ?_)
    refine wp_region_lit ?_
    refine sqv hf (r_move rfl) rfl rfl rfl ?_; clear hf fa; intro fa hf
    apply wpList_nil
    (try simp only [Exit.then, Exit.inBlock, ↓reduceIte, Nat.reduceEqDiff])
    refine hK12 _ _ ?_
    refine wp_cond_split (t := (findU nm (ul.take 1) 0).2.2) (hf.ev rfl) (fun hqt58_1 => ?_) (fun hqt58_1 => ?_)
    · have hqt58_1b := hqt58_1
      try simp only [decide_eq_true_eq, Bool.and_eq_true, Bool.or_eq_true, Bool.not_eq_true', decide_eq_false_iff_not, ne_eq, Bool.not_eq_true] at hqt58_1
      refine wp_seq_k (fun K13 hK13 => ?_)
      refine wp_region_lit ?_
      refine sqv hf (r_move rfl) rfl rfl rfl ?_; clear hf fa; intro fa hf
      refine sqv hf (r_move rfl) rfl rfl rfl ?_; clear hf fa; intro fa hf
      refine sqgT (act := (findU nm ul 0).2.2) (ag := true) (c := (findU nm ul 0).2.2) (v := (.int .i64 ((findU nm ul 0).1))) hf rfl rfl rfl (fun hact => (r_move rfl)) rfl rfl ?_; clear hf fa; intro fa hf
      refine sqgT (act := (findU nm ul 0).2.2) (ag := true) (c := (findU nm ul 0).2.2) (v := (.bool (decide (((findU nm ul 0).1) = (0 : Int))))) hf rfl rfl rfl (fun hact => (r_eq (gb_ev hact rfl) rfl)) rfl rfl ?_; clear hf fa; intro fa hf
      refine sqv hf (r_pickA (b := (findU nm ul 0).2.2) (e := (decide (((findU nm ul 0).1) = (0 : Int)))) rfl rfl rfl) rfl rfl rfl ?_; clear hf fa; intro fa hf
      refine sqv hf (r_move rfl) rfl rfl rfl ?_; clear hf fa; intro fa hf
      refine sqgT (act := ((findU nm ul 0).2.2 && (decide (((findU nm ul 0).1) = (0 : Int))))) (ag := true) (c := ((findU nm ul 0).2.2 && (decide (((findU nm ul 0).1) = (0 : Int))))) (v := (.int .i64 ((findU nm (ul.take 1) 0).1))) hf rfl rfl rfl (fun hact => (r_move rfl)) rfl rfl ?_; clear hf fa; intro fa hf
      refine sqgT (act := ((findU nm ul 0).2.2 && (decide (((findU nm ul 0).1) = (0 : Int))))) (ag := true) (c := ((findU nm ul 0).2.2 && (decide (((findU nm ul 0).1) = (0 : Int))))) (v := (.bool (decide (((findU nm (ul.take 1) 0).1) = (0 : Int))))) hf rfl rfl rfl (fun hact => (r_eq (gb_ev hact rfl) rfl)) rfl rfl ?_; clear hf fa; intro fa hf
      refine sqv hf (r_pickA (b := ((findU nm ul 0).2.2 && (decide (((findU nm ul 0).1) = (0 : Int))))) (e := (decide (((findU nm (ul.take 1) 0).1) = (0 : Int)))) rfl rfl rfl) rfl rfl rfl ?_; clear hf fa; intro fa hf
      refine sqv hf (r_move rfl) rfl rfl rfl ?_; clear hf fa; intro fa hf
      refine sqgT (act := (((findU nm ul 0).2.2 && (decide (((findU nm ul 0).1) = (0 : Int)))) && (decide (((findU nm (ul.take 1) 0).1) = (0 : Int))))) (ag := true) (c := (((findU nm ul 0).2.2 && (decide (((findU nm ul 0).1) = (0 : Int)))) && (decide (((findU nm (ul.take 1) 0).1) = (0 : Int))))) (v := (.agg #[(.string (findU nm ul 0).2.1.1), (.int .u8 ((findU nm ul 0).2.1.2.1)), (.int .u32 ((findU nm ul 0).2.1.2.2.1))])) hf rfl rfl rfl (fun hact => (r_loadA (cs := [(.string (findU nm ul 0).2.1.1), (.int .u8 ((findU nm ul 0).2.1.2.1)), (.int .u32 ((findU nm ul 0).2.1.2.2.1))]) rfl Try.underlying94 rfl (by kernel_rfl) (cellsAt_blk hk2))) rfl rfl ?_; clear hf fa; intro fa hf
      refine sqgT (act := (((findU nm ul 0).2.2 && (decide (((findU nm ul 0).1) = (0 : Int)))) && (decide (((findU nm (ul.take 1) 0).1) = (0 : Int))))) (ag := true) (c := (((findU nm ul 0).2.2 && (decide (((findU nm ul 0).1) = (0 : Int)))) && (decide (((findU nm (ul.take 1) 0).1) = (0 : Int))))) (v := (.agg #[(.string (findU nm (ul.take 1) 0).2.1.1), (.int .u8 ((findU nm (ul.take 1) 0).2.1.2.1)), (.int .u32 ((findU nm (ul.take 1) 0).2.1.2.2.1))])) hf rfl rfl rfl (fun hact => (r_loadA (cs := [(.string (findU nm (ul.take 1) 0).2.1.1), (.int .u8 ((findU nm (ul.take 1) 0).2.1.2.1)), (.int .u32 ((findU nm (ul.take 1) 0).2.1.2.2.1))]) rfl Try.underlying94 rfl (by kernel_rfl) (cellsAt_blk hk4))) rfl rfl ?_; clear hf fa; intro fa hf
      refine sqgT (act := (((findU nm ul 0).2.2 && (decide (((findU nm ul 0).1) = (0 : Int)))) && (decide (((findU nm (ul.take 1) 0).1) = (0 : Int))))) (ag := true) (c := (((findU nm ul 0).2.2 && (decide (((findU nm ul 0).1) = (0 : Int)))) && (decide (((findU nm (ul.take 1) 0).1) = (0 : Int))))) (v := (.bool ((decide ((findU nm ul 0).2.1.1 = (findU nm (ul.take 1) 0).2.1.1)) && ((decide (((findU nm ul 0).2.1.2.1) = ((findU nm (ul.take 1) 0).2.1.2.1))) && (decide (((findU nm ul 0).2.1.2.2.1) = ((findU nm (ul.take 1) 0).2.1.2.2.1))))))) hf rfl rfl rfl (fun hact => (r_aeq (k := 5) (gb_ev hact rfl) (gb_ev hact rfl) (by kernel_rfl) (eqt_struct (xs := #[(.string (findU nm ul 0).2.1.1), (.int .u8 ((findU nm ul 0).2.1.2.1)), (.int .u32 ((findU nm ul 0).2.1.2.2.1))]) (ys := #[(.string (findU nm (ul.take 1) 0).2.1.1), (.int .u8 ((findU nm (ul.take 1) 0).2.1.2.1)), (.int .u32 ((findU nm (ul.take 1) 0).2.1.2.2.1))]) Try.underlying94 (by kernel_rfl) (eqf_cons (by kernel_rfl) (fun _ => by kernel_rfl) (fun _ => by kernel_rfl) (eqt_str (a := (findU nm ul 0).2.1.1) (b := (findU nm (ul.take 1) 0).2.1.1) Try.underlying9) (eqf_cons (by kernel_rfl) (fun _ => by kernel_rfl) (fun _ => by kernel_rfl) (eqt_int (kk := .u8) (a := ((findU nm ul 0).2.1.2.1)) (b := ((findU nm (ul.take 1) 0).2.1.2.1)) Try.underlying5) (eqf_one (by kernel_rfl) (fun _ => by kernel_rfl) (fun _ => by kernel_rfl) (eqt_int (kk := .u32) (a := ((findU nm ul 0).2.1.2.2.1)) (b := ((findU nm (ul.take 1) 0).2.1.2.2.1)) Try.underlying44))))) rfl)) rfl rfl ?_; clear hf fa; intro fa hf
      refine sqv hf (r_pickA (b := (((findU nm ul 0).2.2 && (decide (((findU nm ul 0).1) = (0 : Int)))) && (decide (((findU nm (ul.take 1) 0).1) = (0 : Int))))) (e := ((decide ((findU nm ul 0).2.1.1 = (findU nm (ul.take 1) 0).2.1.1)) && ((decide (((findU nm ul 0).2.1.2.1) = ((findU nm (ul.take 1) 0).2.1.2.1))) && (decide (((findU nm ul 0).2.1.2.2.1) = ((findU nm (ul.take 1) 0).2.1.2.2.1)))))) rfl rfl rfl) rfl rfl rfl ?_; clear hf fa; intro fa hf
      refine sqv hf (r_assign rfl) rfl rfl rfl ?_; clear hf fa; intro fa hf
      apply wpList_nil
      (try simp only [Exit.then, Exit.inBlock, ↓reduceIte, Nat.reduceEqDiff])
      refine hK13 _ _ ?_
      refine wp_ret ?_
      (try simp only [Exit.then, Exit.inBlock])
      refine ret1 hf rfl rfl ?_
      refine ⟨congrArg (fun b => Ending.returned (.bool b)) ?_, hb⟩
      obtain ⟨h1, h2⟩ := hn.1 hqt58_1
      rw [h1, h2, hqt58_1]; simp
    · have hqt58_1b := hqt58_1
      replace hqt58_1 := Bool.eq_false_iff.1 hqt58_1
      try simp only [ne_eq, decide_eq_true_eq, Bool.and_eq_true, Bool.or_eq_true, Bool.not_eq_true', decide_eq_false_iff_not] at hqt58_1
      refine wp_skip ?_
      (try simp only [Exit.then, Exit.inBlock, ↓reduceIte, Nat.reduceEqDiff])
      refine hK11 _ _ ?_
      refine wp_seq_k (fun K14 hK14 => ?_)
      refine wp_region_lit ?_
      refine sqv hf (r_move rfl) rfl rfl rfl ?_; clear hf fa; intro fa hf
      refine sqv hf (r_move rfl) rfl rfl rfl ?_; clear hf fa; intro fa hf
      refine sqv hf (r_beq Try.underlying4 rfl rfl) rfl rfl rfl ?_; clear hf fa; intro fa hf
      refine sqv hf (r_move rfl) rfl rfl rfl ?_; clear hf fa; intro fa hf
      refine sqgT (act := ((findU nm ul 0).2.2 == (findU nm (ul.drop 1) 0).2.2)) (ag := true) (c := ((findU nm ul 0).2.2 == (findU nm (ul.drop 1) 0).2.2)) (v := (.bool (findU nm ul 0).2.2)) hf rfl rfl rfl (fun hact => (r_move rfl)) rfl rfl ?_; clear hf fa; intro fa hf
      refine sqgT (act := ((findU nm ul 0).2.2 == (findU nm (ul.drop 1) 0).2.2)) (ag := true) (c := ((findU nm ul 0).2.2 == (findU nm (ul.drop 1) 0).2.2)) (v := (.bool (!(findU nm ul 0).2.2))) hf rfl rfl rfl (fun hact => (r_not (gb_ev hact rfl))) rfl rfl ?_; clear hf fa; intro fa hf
      refine sqgT (act := ((findU nm ul 0).2.2 == (findU nm (ul.drop 1) 0).2.2)) (ag := true) (c := ((findU nm ul 0).2.2 == (findU nm (ul.drop 1) 0).2.2)) (v := (.bool (!(findU nm ul 0).2.2))) hf rfl rfl rfl (fun hact => (r_move (gb_ev hact rfl))) rfl rfl ?_; clear hf fa; intro fa hf
      refine sqgF (act := (((findU nm ul 0).2.2 == (findU nm (ul.drop 1) 0).2.2) && !(!(findU nm ul 0).2.2))) (ag := ((findU nm ul 0).2.2 == (findU nm (ul.drop 1) 0).2.2)) (c := (!(findU nm ul 0).2.2)) (v := (.int .i64 ((findU nm ul 0).1))) hf rfl rfl rfl (fun hact => (r_move rfl)) rfl rfl ?_; clear hf fa; intro fa hf
      refine sqgF (act := (((findU nm ul 0).2.2 == (findU nm (ul.drop 1) 0).2.2) && !(!(findU nm ul 0).2.2))) (ag := ((findU nm ul 0).2.2 == (findU nm (ul.drop 1) 0).2.2)) (c := (!(findU nm ul 0).2.2)) (v := (.int .i64 ((findU nm (ul.drop 1) 0).1))) hf rfl rfl rfl (fun hact => (r_move rfl)) rfl rfl ?_; clear hf fa; intro fa hf
      refine sqgF (act := (((findU nm ul 0).2.2 == (findU nm (ul.drop 1) 0).2.2) && !(!(findU nm ul 0).2.2))) (ag := ((findU nm ul 0).2.2 == (findU nm (ul.drop 1) 0).2.2)) (c := (!(findU nm ul 0).2.2)) (v := (.int .i64 (((findU nm (ul.drop 1) 0).1) + (1 : Int)))) hf rfl rfl rfl (fun hact => (by have hact0 := hact; (try simp only [Bool.and_eq_true, Bool.not_eq_true', Bool.or_eq_false_iff, Bool.or_eq_true, Bool.and_eq_false_iff, ne_eq, decide_eq_true_eq, decide_eq_false_iff_not] at hact0); exact (r_add (C := (((findU nm (ul.drop 1) 0).1) + (1 : Int))) (gb_ev hact rfl) rfl (by rw [IntKind.wrap_i64]; omega)))) rfl rfl ?_; clear hf fa; intro fa hf
      refine sqgF (act := (((findU nm ul 0).2.2 == (findU nm (ul.drop 1) 0).2.2) && !(!(findU nm ul 0).2.2))) (ag := ((findU nm ul 0).2.2 == (findU nm (ul.drop 1) 0).2.2)) (c := (!(findU nm ul 0).2.2)) (v := (.bool (decide (((findU nm ul 0).1) = (((findU nm (ul.drop 1) 0).1) + (1 : Int)))))) hf rfl rfl rfl (fun hact => (r_eq (gb_ev hact rfl) (gb_ev hact rfl))) rfl rfl ?_; clear hf fa; intro fa hf
      refine sqgF (act := (((findU nm ul 0).2.2 == (findU nm (ul.drop 1) 0).2.2) && !(!(findU nm ul 0).2.2))) (ag := ((findU nm ul 0).2.2 == (findU nm (ul.drop 1) 0).2.2)) (c := (!(findU nm ul 0).2.2)) (v := (.bool (decide (((findU nm ul 0).1) = (((findU nm (ul.drop 1) 0).1) + (1 : Int)))))) hf rfl rfl rfl (fun hact => (r_move (gb_ev hact rfl))) rfl rfl ?_; clear hf fa; intro fa hf
      refine sqgT (act := ((((findU nm ul 0).2.2 == (findU nm (ul.drop 1) 0).2.2) && !(!(findU nm ul 0).2.2)) && (decide (((findU nm ul 0).1) = (((findU nm (ul.drop 1) 0).1) + (1 : Int)))))) (ag := (((findU nm ul 0).2.2 == (findU nm (ul.drop 1) 0).2.2) && !(!(findU nm ul 0).2.2))) (c := (decide (((findU nm ul 0).1) = (((findU nm (ul.drop 1) 0).1) + (1 : Int))))) (v := (.agg #[(.string (findU nm ul 0).2.1.1), (.int .u8 ((findU nm ul 0).2.1.2.1)), (.int .u32 ((findU nm ul 0).2.1.2.2.1))])) hf rfl rfl rfl (fun hact => (r_loadA (cs := [(.string (findU nm ul 0).2.1.1), (.int .u8 ((findU nm ul 0).2.1.2.1)), (.int .u32 ((findU nm ul 0).2.1.2.2.1))]) rfl Try.underlying94 rfl (by kernel_rfl) (cellsAt_blk hk2))) rfl rfl ?_; clear hf fa; intro fa hf
      refine sqgT (act := ((((findU nm ul 0).2.2 == (findU nm (ul.drop 1) 0).2.2) && !(!(findU nm ul 0).2.2)) && (decide (((findU nm ul 0).1) = (((findU nm (ul.drop 1) 0).1) + (1 : Int)))))) (ag := (((findU nm ul 0).2.2 == (findU nm (ul.drop 1) 0).2.2) && !(!(findU nm ul 0).2.2))) (c := (decide (((findU nm ul 0).1) = (((findU nm (ul.drop 1) 0).1) + (1 : Int))))) (v := (.agg #[(.string (findU nm (ul.drop 1) 0).2.1.1), (.int .u8 ((findU nm (ul.drop 1) 0).2.1.2.1)), (.int .u32 ((findU nm (ul.drop 1) 0).2.1.2.2.1))])) hf rfl rfl rfl (fun hact => (r_loadA (cs := [(.string (findU nm (ul.drop 1) 0).2.1.1), (.int .u8 ((findU nm (ul.drop 1) 0).2.1.2.1)), (.int .u32 ((findU nm (ul.drop 1) 0).2.1.2.2.1))]) rfl Try.underlying94 rfl (by kernel_rfl) (cellsAt_blk hk6))) rfl rfl ?_; clear hf fa; intro fa hf
      refine sqgT (act := ((((findU nm ul 0).2.2 == (findU nm (ul.drop 1) 0).2.2) && !(!(findU nm ul 0).2.2)) && (decide (((findU nm ul 0).1) = (((findU nm (ul.drop 1) 0).1) + (1 : Int)))))) (ag := (((findU nm ul 0).2.2 == (findU nm (ul.drop 1) 0).2.2) && !(!(findU nm ul 0).2.2))) (c := (decide (((findU nm ul 0).1) = (((findU nm (ul.drop 1) 0).1) + (1 : Int))))) (v := (.bool ((decide ((findU nm ul 0).2.1.1 = (findU nm (ul.drop 1) 0).2.1.1)) && ((decide (((findU nm ul 0).2.1.2.1) = ((findU nm (ul.drop 1) 0).2.1.2.1))) && (decide (((findU nm ul 0).2.1.2.2.1) = ((findU nm (ul.drop 1) 0).2.1.2.2.1))))))) hf rfl rfl rfl (fun hact => (r_aeq (k := 5) (gb_ev hact rfl) (gb_ev hact rfl) (by kernel_rfl) (eqt_struct (xs := #[(.string (findU nm ul 0).2.1.1), (.int .u8 ((findU nm ul 0).2.1.2.1)), (.int .u32 ((findU nm ul 0).2.1.2.2.1))]) (ys := #[(.string (findU nm (ul.drop 1) 0).2.1.1), (.int .u8 ((findU nm (ul.drop 1) 0).2.1.2.1)), (.int .u32 ((findU nm (ul.drop 1) 0).2.1.2.2.1))]) Try.underlying94 (by kernel_rfl) (eqf_cons (by kernel_rfl) (fun _ => by kernel_rfl) (fun _ => by kernel_rfl) (eqt_str (a := (findU nm ul 0).2.1.1) (b := (findU nm (ul.drop 1) 0).2.1.1) Try.underlying9) (eqf_cons (by kernel_rfl) (fun _ => by kernel_rfl) (fun _ => by kernel_rfl) (eqt_int (kk := .u8) (a := ((findU nm ul 0).2.1.2.1)) (b := ((findU nm (ul.drop 1) 0).2.1.2.1)) Try.underlying5) (eqf_one (by kernel_rfl) (fun _ => by kernel_rfl) (fun _ => by kernel_rfl) (eqt_int (kk := .u32) (a := ((findU nm ul 0).2.1.2.2.1)) (b := ((findU nm (ul.drop 1) 0).2.1.2.2.1)) Try.underlying44))))) rfl)) rfl rfl ?_; clear hf fa; intro fa hf
      refine sqgF (act := (((findU nm ul 0).2.2 == (findU nm (ul.drop 1) 0).2.2) && !(!(findU nm ul 0).2.2))) (ag := ((findU nm ul 0).2.2 == (findU nm (ul.drop 1) 0).2.2)) (c := (!(findU nm ul 0).2.2)) (v := (.bool ((decide (((findU nm ul 0).1) = (((findU nm (ul.drop 1) 0).1) + (1 : Int)))) && ((decide ((findU nm ul 0).2.1.1 = (findU nm (ul.drop 1) 0).2.1.1)) && ((decide (((findU nm ul 0).2.1.2.1) = ((findU nm (ul.drop 1) 0).2.1.2.1))) && (decide (((findU nm ul 0).2.1.2.2.1) = ((findU nm (ul.drop 1) 0).2.1.2.2.1)))))))) hf rfl rfl rfl (fun hact => (r_pickA2 (q := (((findU nm ul 0).2.2 == (findU nm (ul.drop 1) 0).2.2) && !(!(findU nm ul 0).2.2))) (b := (decide (((findU nm ul 0).1) = (((findU nm (ul.drop 1) 0).1) + (1 : Int))))) (e := ((decide ((findU nm ul 0).2.1.1 = (findU nm (ul.drop 1) 0).2.1.1)) && ((decide (((findU nm ul 0).2.1.2.1) = ((findU nm (ul.drop 1) 0).2.1.2.1))) && (decide (((findU nm ul 0).2.1.2.2.1) = ((findU nm (ul.drop 1) 0).2.1.2.2.1)))))) hact rfl rfl rfl)) rfl rfl ?_; clear hf fa; intro fa hf
      refine sqgT (act := ((findU nm ul 0).2.2 == (findU nm (ul.drop 1) 0).2.2)) (ag := true) (c := ((findU nm ul 0).2.2 == (findU nm (ul.drop 1) 0).2.2)) (v := (.bool ((!(findU nm ul 0).2.2) || ((decide (((findU nm ul 0).1) = (((findU nm (ul.drop 1) 0).1) + (1 : Int)))) && ((decide ((findU nm ul 0).2.1.1 = (findU nm (ul.drop 1) 0).2.1.1)) && ((decide (((findU nm ul 0).2.1.2.1) = ((findU nm (ul.drop 1) 0).2.1.2.1))) && (decide (((findU nm ul 0).2.1.2.2.1) = ((findU nm (ul.drop 1) 0).2.1.2.2.1))))))))) hf rfl rfl rfl (fun hact => (r_pickO2 (q := ((findU nm ul 0).2.2 == (findU nm (ul.drop 1) 0).2.2)) (b := (!(findU nm ul 0).2.2)) (e := ((decide (((findU nm ul 0).1) = (((findU nm (ul.drop 1) 0).1) + (1 : Int)))) && ((decide ((findU nm ul 0).2.1.1 = (findU nm (ul.drop 1) 0).2.1.1)) && ((decide (((findU nm ul 0).2.1.2.1) = ((findU nm (ul.drop 1) 0).2.1.2.1))) && (decide (((findU nm ul 0).2.1.2.2.1) = ((findU nm (ul.drop 1) 0).2.1.2.2.1))))))) hact rfl rfl rfl)) rfl rfl ?_; clear hf fa; intro fa hf
      refine sqv hf (r_pickA (b := ((findU nm ul 0).2.2 == (findU nm (ul.drop 1) 0).2.2)) (e := ((!(findU nm ul 0).2.2) || ((decide (((findU nm ul 0).1) = (((findU nm (ul.drop 1) 0).1) + (1 : Int)))) && ((decide ((findU nm ul 0).2.1.1 = (findU nm (ul.drop 1) 0).2.1.1)) && ((decide (((findU nm ul 0).2.1.2.1) = ((findU nm (ul.drop 1) 0).2.1.2.1))) && (decide (((findU nm ul 0).2.1.2.2.1) = ((findU nm (ul.drop 1) 0).2.1.2.2.1)))))))) rfl rfl rfl) rfl rfl rfl ?_; clear hf fa; intro fa hf
      refine sqv hf (r_assign rfl) rfl rfl rfl ?_; clear hf fa; intro fa hf
      apply wpList_nil
      (try simp only [Exit.then, Exit.inBlock, ↓reduceIte, Nat.reduceEqDiff])
      refine hK14 _ _ ?_
      refine wp_ret ?_
      (try simp only [Exit.then, Exit.inBlock])
      refine ret1 hf rfl rfl ?_
      refine ⟨congrArg (fun b => Ending.returned (.bool b)) ?_, hb⟩
      obtain ⟨h1, h2⟩ := hn.2 hqt58_1
      have e1 : (findU nm ul 0).2.1 = (findU nm (ul.drop 1) 0).2.1 := congrArg Prod.fst h1
      have e2 : (findU nm ul 0).2.2 = (findU nm (ul.drop 1) 0).2.2 := congrArg Prod.snd h1
      rw [e1, e2]
      cases hc : (findU nm (ul.drop 1) 0).2.2 with
      | false => simp
      | true => rw [h2 hc]; simp
end Go.Proofs.Ytahgkfekggkjnaa
