/- What is proved here: the law ScanBack is true. -/
import Derived.Test.YtcmdajkkdognfaaSbA
import Derived.Test.YtcmdajkkdognfaaTyK
namespace Go.Proofs.Ytcmdajkkdognfaa
open Go.RowKit
set_option linter.unusedVariables false
set_option linter.unusedSimpArgs false
set_option maxHeartbeats 1000000 in
set_option maxRecDepth 100000 in
theorem c60_any (q8 q7 b9 b10 b11 : Nat) (bs base p : Nat) (a : Option Addr) (c : Nat) (l : List Int) (w : World) (hks : w.heap[bs]? = some (.cells #[(.slice a l.length c), (.int .i64 ((p : Nat) : Int))] 161 (0, 0))) (hr0 : Row 1 (vInt .u8) 5 base w (.slice a l.length c) l) (hp : p ≤ l.length) (hb6 : ∀ y ∈ l, 0 ≤ y ∧ y < 256) (hlm : l.length ≤ 1000000) (t : MFt) (m : MLim) (gt : MGt) (ba : Option Addr) (bc : Nat) (B : List Int) (hB : B = encF t ++ (encL m ++ encG gt)) (hB6 : ∀ y ∈ B, 0 ≤ y ∧ y < 256) (hBm : B.length ≤ 1000000) (hx9 : l[p]? = some 9) (hAB : At l (p + 1) B) (k8 : w.heap[q8]? = some (.cells #[(.pointer (some ⟨bs, 0, none⟩))] 87 (0, 0))) (k7 : w.heap[q7]? = some (.cells #[(.slice ba B.length bc)] 47 (0, 0))) (k9 : w.heap[b9]? = some (.cells #[(.string ⟨#[]⟩), (.string ⟨#[]⟩)] 67 (0, 0))) (k10 : w.heap[b10]? = some (.cells #[(.int .u32 (0 : Int)), (.int .u32 (0 : Int)), (.bool false)] 43 (0, 0))) (k11 : w.heap[b11]? = some (.cells #[(.int .u8 (0 : Int)), (.bool false)] 54 (0, 0))) (o1 : q7 < bs) (o2 : bs < q8) (o3 : q8 < b9) (o4 : b9 < b10) (o5 : b10 < b11) (o6 : b11 < w.heap.size) (ht : tfuncP t = 0) (hmr1 : 0 ≤ m.1 ∧ m.1 < 4294967296) (hmr2 : 0 ≤ m.2.1 ∧ m.2.1 < 4294967296) (hmz : m.2.2.1 = false → m.2.1 = 0) (hg : tvalP gt.1 = 0) : Calls Try.prog 60 #[(.pointer (some ⟨q8, 0, none⟩)), (.pointer (some ⟨q7, 0, none⟩)), (.pointer (some ⟨b9, 0, none⟩)), (.pointer (some ⟨b10, 0, none⟩)), (.pointer (some ⟨b11, 0, none⟩))] w fun e w' => e = .returned (.tuple #[]) ∧ w'.heap[b9]? = some (.cells #[(.string t.1), (.string t.2.1)] 67 (0, 0)) ∧ w'.heap[b10]? = some (.cells #[(.int .u32 m.1), (.int .u32 m.2.1), (.bool m.2.2.1)] 43 (0, 0)) ∧ w'.heap[b11]? = some (.cells #[(.int .u8 gt.1), (.bool gt.2.1)] 54 (0, 0)) ∧ w'.heap[bs]? = some (.cells #[(.slice a l.length c), (.int .i64 (((p + 1 + B.length) : Nat) : Int))] 161 (0, 0)) ∧ KS [b9, b10, b11, bs] w.heap.size w w' := by
  have hcap := Row.caps hr0; have hR0lt := fun q hq => (Row.lt hr0 q hq).2; have hle := hAB.le
  have hAll : At B 0 (encF t ++ (encL m ++ encG gt)) := (At.all B).mv rfl hB
  have hAf := hAll.fst; have hAl := hAll.snd.fst; have hAg := hAll.snd.snd
  have hBl : B.length = (encF t).length + ((encL m).length + (encG gt).length) := by rw [hB, List.length_append, List.length_append]
  refine sx_enter (L := [(0, (.pointer (some ⟨q8, 0, none⟩))), (1, (.pointer (some ⟨q7, 0, none⟩))), (2, (.pointer (some ⟨b9, 0, none⟩))), (3, (.pointer (some ⟨b10, 0, none⟩))), (4, (.pointer (some ⟨b11, 0, none⟩)))]) Try.func60 rfl rfl rfl rfl (fun fa hf => ?_)
  have hb : KS [b9, b10, b11, bs] w.heap.size w w := KS.refl _ _ _
  refine wp_seq_k (fun K1 hK1 => ?_)
  refine wp_region_lit ?_
  refine sqv hf (r_load (v := (.pointer (some ⟨bs, 0, none⟩))) rfl Try.underlying87 rfl (cell_blk k8 rfl)) rfl rfl rfl ?_; clear hf fa; intro fa hf
  refine sqdt hf (d_callW (v := (.int .u8 9)) (b := bs) (T := 161) (cs := #[(.slice a l.length c), (.int .i64 (((p + 1) : Nat) : Int))]) (vs := [(.pointer (some ⟨bs, 0, none⟩))]) rfl Try.func61 (by kernel_rfl) (by kernel_rfl) (sbyte_any bs base p a c l _ hks hr0 (by omega) 9 hx9)) rfl rfl rfl ?_; clear hf fa; rintro fa _ w1 ⟨rfl, hk1, hg1⟩ hf
  replace k8 := blk_grown k8 hg1 (by omega)
  replace k7 := blk_grown k7 hg1 (by omega)
  replace k9 := blk_grown k9 hg1 (by omega)
  replace k10 := blk_grown k10 hg1 (by omega)
  replace k11 := blk_grown k11 hg1 (by omega)
  replace hr0 := Row.grown hr0 hg1 (Row.ne_type hr0 hks rfl)
  replace hb := hb.wrote hg1 hb.size (.inl (by simp only [List.mem_cons, eq_self, true_or, or_true]))
  apply wpList_nil
  (try simp only [Exit.then, Exit.inBlock, ↓reduceIte, Nat.reduceEqDiff])
  refine hK1 _ _ ?_
  refine wp_seq_k (fun K2 hK2 => ?_)
  refine wp_region_lit ?_
  refine sqv hf (r_load (v := (.pointer (some ⟨bs, 0, none⟩))) rfl Try.underlying87 rfl (cell_blk k8 rfl)) rfl rfl rfl ?_; clear hf fa; intro fa hf
  refine sqv hf (r_load (v := (.slice ba B.length bc)) rfl Try.underlying47 rfl (cell_blk k7 rfl)) rfl rfl rfl ?_; clear hf fa; intro fa hf
  refine sqv hf (r_lensl rfl Try.underlying47) rfl rfl rfl ?_; clear hf fa; intro fa hf
  refine sqdt hf (d_callX (vs := [(.pointer (some ⟨bs, 0, none⟩)), (.int .i64 ((B.length : Nat) : Int))]) rfl Try.func62 (by kernel_rfl) (by kernel_rfl) (ssub_any bs base ((p + 1)) a c l _ hk1 hr0 (by omega) B hAB (by omega))) rfl rfl rfl ?_; clear hf fa; rintro fa _ w2 ⟨sb1, sa1, sc1, rfl, hle1, hk2, hr1, hk3, hg2⟩ hf
  have hBsb1 : w.heap.size ≤ sb1 := Nat.le_trans hb.size hle1
  have : bs < sb1 := Nat.lt_of_lt_of_le (blk_lt hk1) hle1
  have : q8 < sb1 := Nat.lt_of_lt_of_le (blk_lt k8) hle1
  have : q7 < sb1 := Nat.lt_of_lt_of_le (blk_lt k7) hle1
  have : b9 < sb1 := Nat.lt_of_lt_of_le (blk_lt k9) hle1
  have : b10 < sb1 := Nat.lt_of_lt_of_le (blk_lt k10) hle1
  have : b11 < sb1 := Nat.lt_of_lt_of_le (blk_lt k11) hle1
  replace hr1 := Row.rebase hr1 hb.size
  replace k8 := blk_grown k8 hg2 (by omega)
  replace k7 := blk_grown k7 hg2 (by omega)
  replace k9 := blk_grown k9 hg2 (by omega)
  replace k10 := blk_grown k10 hg2 (by omega)
  replace k11 := blk_grown k11 hg2 (by omega)
  replace hr0 := Row.grown hr0 hg2 (Row.ne_type hr0 hk1 rfl)
  replace hb := hb.wrote hg2 hb.size (.inl (by simp only [List.mem_cons, eq_self, true_or, or_true]))
  refine sqv hf (r_assign rfl) rfl rfl rfl ?_; clear hf fa; intro fa hf
  apply wpList_nil
  (try simp only [Exit.then, Exit.inBlock, ↓reduceIte, Nat.reduceEqDiff])
  refine hK2 _ _ ?_
  refine wp_seq_k (fun K3 hK3 => ?_)
  refine wp_region_lit ?_
  refine sqv hf (r_move rfl) rfl rfl rfl ?_; clear hf fa; intro fa hf
  refine sqdt hf (d_callW (v := (.agg #[(.string t.1), (.string t.2.1)])) (b := sb1) (T := 161) (cs := #[(.slice sa1 B.length sc1), (.int .i64 (((0 + (encF t).length) : Nat) : Int))]) (vs := [(.pointer (some ⟨sb1, 0, none⟩))]) rfl Try.func63 (by kernel_rfl) (by kernel_rfl) (sft_any sb1 w.heap.size 0 sa1 sc1 B _ hk2 hr1 (by omega) hB6 hBm t hAf ht)) rfl rfl rfl ?_; clear hf fa; rintro fa _ w3 ⟨rfl, hk4, hg3⟩ hf
  replace hk3 := blk_grown hk3 hg3 (by omega)
  replace k8 := blk_grown k8 hg3 (by omega)
  replace k7 := blk_grown k7 hg3 (by omega)
  replace k9 := blk_grown k9 hg3 (by omega)
  replace k10 := blk_grown k10 hg3 (by omega)
  replace k11 := blk_grown k11 hg3 (by omega)
  replace hr0 := Row.grown hr0 hg3 (Row.ne_type hr0 hk2 rfl)
  replace hr1 := Row.grown hr1 hg3 (Row.ne_type hr1 hk2 rfl)
  replace hb := hb.wrote hg3 hb.size (.inr hBsb1)
  refine sqv hf (r_move rfl) rfl rfl rfl ?_; clear hf fa; intro fa hf
  refine sqdt hf (d_callW (v := (.agg #[(.int .u32 m.1), (.int .u32 m.2.1), (.bool m.2.2.1)])) (b := sb1) (T := 161) (cs := #[(.slice sa1 B.length sc1), (.int .i64 (((((0 + (encF t).length)) + (encL m).length) : Nat) : Int))]) (vs := [(.pointer (some ⟨sb1, 0, none⟩))]) rfl Try.func64 (by kernel_rfl) (by kernel_rfl) (slim_any sb1 w.heap.size ((0 + (encF t).length)) sa1 sc1 B _ hk4 hr1 (by omega) hB6 hBm m hAl hmr1 hmr2 hmz)) rfl rfl rfl ?_; clear hf fa; rintro fa _ w4 ⟨rfl, hk5, hg4⟩ hf
  replace hk3 := blk_grown hk3 hg4 (by omega)
  replace k8 := blk_grown k8 hg4 (by omega)
  replace k7 := blk_grown k7 hg4 (by omega)
  replace k9 := blk_grown k9 hg4 (by omega)
  replace k10 := blk_grown k10 hg4 (by omega)
  replace k11 := blk_grown k11 hg4 (by omega)
  replace hr0 := Row.grown hr0 hg4 (Row.ne_type hr0 hk4 rfl)
  replace hr1 := Row.grown hr1 hg4 (Row.ne_type hr1 hk4 rfl)
  replace hb := hb.wrote hg4 hb.size (.inr hBsb1)
  refine sqv hf (r_move rfl) rfl rfl rfl ?_; clear hf fa; intro fa hf
  refine sqdt hf (d_callW (v := (.agg #[(.int .u8 gt.1), (.bool gt.2.1)])) (b := sb1) (T := 161) (cs := #[(.slice sa1 B.length sc1), (.int .i64 (((((((0 + (encF t).length)) + (encL m).length)) + (encG gt).length) : Nat) : Int))]) (vs := [(.pointer (some ⟨sb1, 0, none⟩))]) rfl Try.func65 (by kernel_rfl) (by kernel_rfl) (sgt_any sb1 w.heap.size ((((0 + (encF t).length)) + (encL m).length)) sa1 sc1 B _ hk5 hr1 (by omega) gt hAg hg)) rfl rfl rfl ?_; clear hf fa; rintro fa _ w5 ⟨rfl, hk6, hg5⟩ hf
  replace hk3 := blk_grown hk3 hg5 (by omega)
  replace k8 := blk_grown k8 hg5 (by omega)
  replace k7 := blk_grown k7 hg5 (by omega)
  replace k9 := blk_grown k9 hg5 (by omega)
  replace k10 := blk_grown k10 hg5 (by omega)
  replace k11 := blk_grown k11 hg5 (by omega)
  replace hr0 := Row.grown hr0 hg5 (Row.ne_type hr0 hk5 rfl)
  replace hr1 := Row.grown hr1 hg5 (Row.ne_type hr1 hk5 rfl)
  replace hb := hb.wrote hg5 hb.size (.inr hBsb1)
  refine sqn hf (d_storeK (T := 67) (v := (.agg #[(.string t.1), (.string t.2.1)])) (cs := #[(.string ⟨#[]⟩), (.string ⟨#[]⟩)]) (cs' := #[(.string t.1), (.string t.2.1)]) rfl rfl (by kernel_rfl) (by kernel_rfl) k9 (by kernel_rfl) (by kernel_rfl)) rfl rfl ?_; clear hf fa; rintro fa _ w6 ⟨hk7, hg6⟩ hf
  replace hk3 := blk_grown hk3 hg6 (by omega)
  replace k8 := blk_grown k8 hg6 (by omega)
  replace k7 := blk_grown k7 hg6 (by omega)
  replace k10 := blk_grown k10 hg6 (by omega)
  replace k11 := blk_grown k11 hg6 (by omega)
  replace hk6 := blk_grown hk6 hg6 (by omega)
  replace hr0 := Row.grown hr0 hg6 (Row.ne_type hr0 k9 rfl)
  replace hr1 := Row.grown hr1 hg6 (Row.ne_type hr1 k9 rfl)
  replace hb := hb.wrote hg6 hb.size (.inl (by simp only [List.mem_cons, eq_self, true_or, or_true]))
  refine sqn hf (d_storeK (T := 43) (v := (.agg #[(.int .u32 m.1), (.int .u32 m.2.1), (.bool m.2.2.1)])) (cs := #[(.int .u32 (0 : Int)), (.int .u32 (0 : Int)), (.bool false)]) (cs' := #[(.int .u32 m.1), (.int .u32 m.2.1), (.bool m.2.2.1)]) rfl rfl (by kernel_rfl) (by kernel_rfl) k10 (by kernel_rfl) (by kernel_rfl)) rfl rfl ?_; clear hf fa; rintro fa _ w7 ⟨hk8, hg7⟩ hf
  replace hk3 := blk_grown hk3 hg7 (by omega)
  replace k8 := blk_grown k8 hg7 (by omega)
  replace k7 := blk_grown k7 hg7 (by omega)
  replace hk7 := blk_grown hk7 hg7 (by omega)
  replace k11 := blk_grown k11 hg7 (by omega)
  replace hk6 := blk_grown hk6 hg7 (by omega)
  replace hr0 := Row.grown hr0 hg7 (Row.ne_type hr0 k10 rfl)
  replace hr1 := Row.grown hr1 hg7 (Row.ne_type hr1 k10 rfl)
  replace hb := hb.wrote hg7 hb.size (.inl (by simp only [List.mem_cons, eq_self, true_or, or_true]))
  refine sqn hf (d_storeK (T := 54) (v := (.agg #[(.int .u8 gt.1), (.bool gt.2.1)])) (cs := #[(.int .u8 (0 : Int)), (.bool false)]) (cs' := #[(.int .u8 gt.1), (.bool gt.2.1)]) rfl rfl (by kernel_rfl) (by kernel_rfl) k11 (by kernel_rfl) (by kernel_rfl)) rfl rfl ?_; clear hf fa; rintro fa _ w8 ⟨hk9, hg8⟩ hf
  replace hk3 := blk_grown hk3 hg8 (by omega)
  replace k8 := blk_grown k8 hg8 (by omega)
  replace k7 := blk_grown k7 hg8 (by omega)
  replace hk7 := blk_grown hk7 hg8 (by omega)
  replace hk8 := blk_grown hk8 hg8 (by omega)
  replace hk6 := blk_grown hk6 hg8 (by omega)
  replace hr0 := Row.grown hr0 hg8 (Row.ne_type hr0 k11 rfl)
  replace hr1 := Row.grown hr1 hg8 (Row.ne_type hr1 k11 rfl)
  replace hb := hb.wrote hg8 hb.size (.inl (by simp only [List.mem_cons, eq_self, true_or, or_true]))
  apply wpList_nil
  (try simp only [Exit.then, Exit.inBlock, ↓reduceIte, Nat.reduceEqDiff])
  refine hK3 _ _ ?_
  refine wp_region_lit ?_
  refine sqv hf (r_move rfl) rfl rfl rfl ?_; clear hf fa; intro fa hf
  refine sqdt hf (d_callB (vs := [(.pointer (some ⟨sb1, 0, none⟩))]) rfl Try.func66 (by kernel_rfl) (by kernel_rfl) (end_any sb1 w.heap.size ((((((0 + (encF t).length)) + (encL m).length)) + (encG gt).length)) sa1 sc1 B _ hk6 hr1 (by omega) (by omega))) rfl rfl rfl ?_; clear hf fa; rintro fa _ w9 ⟨rfl, he1⟩ hf
  replace hk3 := blk_ext hk3 he1
  replace k8 := blk_ext k8 he1
  replace k7 := blk_ext k7 he1
  replace hk7 := blk_ext hk7 he1
  replace hk8 := blk_ext hk8 he1
  replace hk9 := blk_ext hk9 he1
  replace hk6 := blk_ext hk6 he1
  replace hr0 := Row.ext hr0 he1
  replace hr1 := Row.ext hr1 he1
  replace hb := hb.trans (Below.mono he1 hb.size)
  apply wpList_nil
  (try simp only [Exit.then, Exit.inBlock])
  refine end0 hf rfl ?_
  exact ⟨rfl, hk7, hk8, hk9, (by have h := hk3; exact h), hb⟩

theorem encF_rng (t : MFt) : ∀ y ∈ encF t, 0 ≤ y ∧ y < 256 := by
  intro y hy
  unfold encF at hy
  simp only [List.mem_append, List.mem_singleton] at hy
  rcases hy with (((rfl | h) | h) | h) | h
  · omega
  · exact uL_rng _ y h
  · exact nums_rng _ y h
  · exact uL_rng _ y h
  · exact nums_rng _ y h
theorem encL_rng (t : MLim) : ∀ y ∈ encL t, 0 ≤ y ∧ y < 256 := by
  intro y hy
  unfold encL at hy
  cases h : t.2.2.1 with
  | true =>
    rw [h] at hy; simp only [cond_true, List.mem_append, List.mem_singleton] at hy
    rcases hy with (rfl | h) | h
    · omega
    · exact uL_rng _ y h
    · exact uL_rng _ y h
  | false =>
    rw [h] at hy; simp only [cond_false, List.mem_append, List.mem_singleton] at hy
    rcases hy with rfl | h
    · omega
    · exact uL_rng _ y h
theorem encG_rng (t : MGt) (h : 0 ≤ t.1 ∧ t.1 < 256) : ∀ y ∈ encG t, 0 ≤ y ∧ y < 256 := by
  intro y hy
  unfold encG at hy
  simp only [List.mem_cons, List.not_mem_nil, or_false] at hy
  rcases hy with rfl | rfl
  · exact h
  · cases t.2.1 <;> simp
theorem enc3_rng (t : MFt) (m : MLim) (gt : MGt) (h : 0 ≤ gt.1 ∧ gt.1 < 256) : ∀ y ∈ encF t ++ (encL m ++ encG gt), 0 ≤ y ∧ y < 256 := by
  intro y hy
  simp only [List.mem_append] at hy
  rcases hy with h1 | h1 | h1
  · exact encF_rng t y h1
  · exact encL_rng m y h1
  · exact encG_rng gt h y h1

set_option maxHeartbeats 1000000 in
set_option maxRecDepth 100000 in
theorem scanBack_any (t : MFt) (m : MLim) (gt : MGt) (w : World) (hmr1 : 0 ≤ m.1 ∧ m.1 < 4294967296) (hmr2 : 0 ≤ m.2.1 ∧ m.2.1 < 4294967296) (hgr1 : 0 ≤ gt.1 ∧ gt.1 < 256) : Calls Try.prog 9 #[(.agg #[(.string t.1), (.string t.2.1)]), (.agg #[(.int .u32 m.1), (.int .u32 m.2.1), (.bool m.2.2.1)]), (.agg #[(.int .u8 gt.1), (.bool gt.2.1)])] w fun e w' => e = .returned (.bool true) ∧ Below w.heap.size w w' := by
  refine sx_enter (L := [(0, (.agg #[(.string t.1), (.string t.2.1)])), (1, (.agg #[(.int .u32 m.1), (.int .u32 m.2.1), (.bool m.2.2.1)])), (2, (.agg #[(.int .u8 gt.1), (.bool gt.2.1)]))]) Try.func9 rfl rfl rfl rfl (fun fa hf => ?_)
  have hb : Below w.heap.size w w := Below.refl _ _
  refine wp_seq_k (fun K1 hK1 => ?_)
  refine wp_region_lit ?_
  refine sqdt hf (d_box (cs := #[(.string t.1), (.string t.2.1)]) rfl rfl) rfl rfl rfl ?_; clear hf fa; rintro fa _ w1 ⟨b1, rfl, hle1, hk1, he1⟩ hf
  have hBb1 : w.heap.size ≤ b1 := Nat.le_trans hb.size hle1
  replace hb := hb.trans (Below.mono he1 hb.size)
  refine sqdt hf (d_box (cs := #[(.int .u32 m.1), (.int .u32 m.2.1), (.bool m.2.2.1)]) rfl rfl) rfl rfl rfl ?_; clear hf fa; rintro fa _ w2 ⟨b2, rfl, hle2, hk2, he2⟩ hf
  have hBb2 : w.heap.size ≤ b2 := Nat.le_trans hb.size hle2
  have : b1 < b2 := Nat.lt_of_lt_of_le (blk_lt hk1) hle2
  replace hk1 := blk_ext hk1 he2
  replace hb := hb.trans (Below.mono he2 hb.size)
  refine sqdt hf (d_box (cs := #[(.int .u8 gt.1), (.bool gt.2.1)]) rfl rfl) rfl rfl rfl ?_; clear hf fa; rintro fa _ w3 ⟨b3, rfl, hle3, hk3, he3⟩ hf
  have hBb3 : w.heap.size ≤ b3 := Nat.le_trans hb.size hle3
  have : b1 < b3 := Nat.lt_of_lt_of_le (blk_lt hk1) hle3
  have : b2 < b3 := Nat.lt_of_lt_of_le (blk_lt hk2) hle3
  replace hk1 := blk_ext hk1 he3
  replace hk2 := blk_ext hk2 he3
  replace hb := hb.trans (Below.mono he3 hb.size)
  refine sqv hf (r_assign rfl) rfl rfl rfl ?_; clear hf fa; intro fa hf
  apply wpList_nil
  (try simp only [Exit.then, Exit.inBlock, ↓reduceIte, Nat.reduceEqDiff])
  refine hK1 _ _ ?_
  refine wp_seq_k (fun K2 hK2 => ?_)
  refine wp_seq_k (fun K3 hK3 => ?_)
  refine wp_region_lit ?_
  refine sqdt hf (d_callB (vs := []) rfl Try.func57 (by kernel_rfl) (by kernel_rfl) (awake05_any _)) rfl rfl rfl ?_; clear hf fa; rintro fa _ w4 ⟨rfl, he4⟩ hf
  replace hk1 := blk_ext hk1 he4
  replace hk2 := blk_ext hk2 he4
  replace hk3 := blk_ext hk3 he4
  replace hb := hb.trans (Below.mono he4 hb.size)
  refine sqv hf (Runs.veq (v' := (.bool false)) (r_not rfl) rfl) rfl rfl rfl ?_; clear hf fa; intro fa hf
  apply wpList_nil
  (try simp only [Exit.then, Exit.inBlock, ↓reduceIte, Nat.reduceEqDiff])
  refine hK3 _ _ ?_
  refine wp_cond_false (hf.ev rfl) ?_
  refine wp_skip ?_
  (try simp only [Exit.then, Exit.inBlock, ↓reduceIte, Nat.reduceEqDiff])
  refine hK2 _ _ ?_
  refine wp_seq_k (fun K4 hK4 => ?_)
  refine wp_seq_k (fun K5 hK5 => ?_)
  refine wp_region_lit ?_
  refine sqv hf (r_fa rfl Try.underlying67 (f := 0) (q := 0) rfl (by kernel_rfl) rfl) rfl rfl rfl ?_; clear hf fa; intro fa hf
  refine sqv hf (r_load (v := (.string t.1)) rfl Try.underlying9 rfl (cell_blk hk1 rfl)) rfl rfl rfl ?_; clear hf fa; intro fa hf
  refine sqv hf (r_lens rfl Try.underlying9) rfl rfl rfl ?_; clear hf fa; intro fa hf
  refine sqv hf (r_gt rfl rfl) rfl rfl rfl ?_; clear hf fa; intro fa hf
  refine sqv hf (r_move rfl) rfl rfl rfl ?_; clear hf fa; intro fa hf
  refine sqgF (act := (!(decide ((500 : Int) < ((t.1.size : Nat) : Int))))) (ag := true) (c := (decide ((500 : Int) < ((t.1.size : Nat) : Int)))) (v := (.agg #[(.string t.1), (.string t.2.1)])) hf rfl rfl rfl (fun hact => (r_loadA (cs := [(.string t.1), (.string t.2.1)]) rfl Try.underlying67 rfl (by kernel_rfl) (cellsAt_blk hk1))) rfl rfl ?_; clear hf fa; intro fa hf
  refine sqgd (R := fun vq wq => vq = gb (!(decide ((500 : Int) < ((t.1.size : Nat) : Int)))) (.int .i64 ((tfuncP t))) ∧ Below w4.heap.size w4 wq) (act := (!(decide ((500 : Int) < ((t.1.size : Nat) : Int))))) (g := 4) (want := false) (ag := true) (c := (decide ((500 : Int) < ((t.1.size : Nat) : Int)))) hf (by rfl) (by rfl) (act_F _ _) (fun hact => (d_callB (vs := [(.agg #[(.string t.1), (.string t.2.1)])]) (cons_ev (gb_ev hact rfl) rfl) Try.func43 (by kernel_rfl) (by kernel_rfl) (rfunc3_any t _)).mono (fun _ _ h => ⟨by rw [h.1, hact]; rfl, h.2⟩)) (fun h => ⟨by rw [h]; rfl, Below.refl _ _⟩) rfl ?_; clear hf fa; rintro fa _ w5 ⟨rfl, he5⟩ hf
  replace hk1 := blk_ext hk1 he5
  replace hk2 := blk_ext hk2 he5
  replace hk3 := blk_ext hk3 he5
  replace hb := hb.trans (Below.mono he5 hb.size)
  change Fr _ _ ((21, (gb (!(decide ((500 : Int) < ((t.1.size : Nat) : Int)))) (.int .i64 ((tfuncP t))))) :: _) at hf
  refine sqgF (act := (!(decide ((500 : Int) < ((t.1.size : Nat) : Int))))) (ag := true) (c := (decide ((500 : Int) < ((t.1.size : Nat) : Int)))) (v := (.bool (decide (((tfuncP t)) ≠ (0 : Int))))) hf rfl rfl rfl (fun hact => (r_ne (gb_ev hact rfl) rfl)) rfl rfl ?_; clear hf fa; intro fa hf
  refine sqv hf (r_pickO (b := (decide ((500 : Int) < ((t.1.size : Nat) : Int)))) (e := (decide (((tfuncP t)) ≠ (0 : Int)))) rfl rfl rfl) rfl rfl rfl ?_; clear hf fa; intro fa hf
  refine sqv hf (r_move rfl) rfl rfl rfl ?_; clear hf fa; intro fa hf
  refine sqgF (act := (!((decide ((500 : Int) < ((t.1.size : Nat) : Int))) || (decide (((tfuncP t)) ≠ (0 : Int)))))) (ag := true) (c := ((decide ((500 : Int) < ((t.1.size : Nat) : Int))) || (decide (((tfuncP t)) ≠ (0 : Int))))) (v := (.pointer (some ⟨b3, 0, none⟩))) hf rfl rfl rfl (fun hact => (r_fa rfl Try.underlying54 (f := 0) (q := 0) rfl (by kernel_rfl) rfl)) rfl rfl ?_; clear hf fa; intro fa hf
  refine sqgF (act := (!((decide ((500 : Int) < ((t.1.size : Nat) : Int))) || (decide (((tfuncP t)) ≠ (0 : Int)))))) (ag := true) (c := ((decide ((500 : Int) < ((t.1.size : Nat) : Int))) || (decide (((tfuncP t)) ≠ (0 : Int))))) (v := (.int .u8 gt.1)) hf rfl rfl rfl (fun hact => (r_load (v := (.int .u8 gt.1)) (gb_ev hact rfl) Try.underlying5 rfl (cell_blk hk3 rfl))) rfl rfl ?_; clear hf fa; intro fa hf
  refine sqgF (act := (!((decide ((500 : Int) < ((t.1.size : Nat) : Int))) || (decide (((tfuncP t)) ≠ (0 : Int)))))) (ag := true) (c := ((decide ((500 : Int) < ((t.1.size : Nat) : Int))) || (decide (((tfuncP t)) ≠ (0 : Int))))) (v := (.int .i64 gt.1)) hf rfl rfl rfl (fun hact => (by have hact0 := hact; (try simp only [Bool.and_eq_true, Bool.not_eq_true', Bool.or_eq_false_iff, Bool.or_eq_true, Bool.and_eq_false_iff, ne_eq, decide_eq_true_eq, decide_eq_false_iff_not] at hact0); exact (r_conv (C := gt.1) (gb_ev hact rfl) Try.underlying5 Try.underlying3 (by rw [IntKind.wrap_i64]; omega)))) rfl rfl ?_; clear hf fa; intro fa hf
  refine sqgd (R := fun vq wq => vq = gb (!((decide ((500 : Int) < ((t.1.size : Nat) : Int))) || (decide (((tfuncP t)) ≠ (0 : Int))))) (.int .i64 ((tvalP gt.1))) ∧ w5 = wq) (act := (!((decide ((500 : Int) < ((t.1.size : Nat) : Int))) || (decide (((tfuncP t)) ≠ (0 : Int)))))) (g := 9) (want := false) (ag := true) (c := ((decide ((500 : Int) < ((t.1.size : Nat) : Int))) || (decide (((tfuncP t)) ≠ (0 : Int))))) hf (by rfl) (by rfl) (act_F _ _) (fun hact => (d_callS (vs := [(.int .i64 gt.1)]) (cons_ev (gb_ev hact rfl) rfl) Try.func35 (by kernel_rfl) (by kernel_rfl) (rval2_any gt.1 _)).mono (fun _ _ h => ⟨by rw [h.1, hact]; rfl, h.2⟩)) (fun h => ⟨by rw [h]; rfl, rfl⟩) rfl ?_; clear hf fa; rintro fa _ _ ⟨rfl, rfl⟩ hf
  change Fr _ _ ((28, (gb (!((decide ((500 : Int) < ((t.1.size : Nat) : Int))) || (decide (((tfuncP t)) ≠ (0 : Int))))) (.int .i64 ((tvalP gt.1))))) :: _) at hf
  refine sqgF (act := (!((decide ((500 : Int) < ((t.1.size : Nat) : Int))) || (decide (((tfuncP t)) ≠ (0 : Int)))))) (ag := true) (c := ((decide ((500 : Int) < ((t.1.size : Nat) : Int))) || (decide (((tfuncP t)) ≠ (0 : Int))))) (v := (.bool (decide (((tvalP gt.1)) ≠ (0 : Int))))) hf rfl rfl rfl (fun hact => (r_ne (gb_ev hact rfl) rfl)) rfl rfl ?_; clear hf fa; intro fa hf
  refine sqv hf (r_pickO (b := ((decide ((500 : Int) < ((t.1.size : Nat) : Int))) || (decide (((tfuncP t)) ≠ (0 : Int))))) (e := (decide (((tvalP gt.1)) ≠ (0 : Int)))) rfl rfl rfl) rfl rfl rfl ?_; clear hf fa; intro fa hf
  refine sqv hf (r_move rfl) rfl rfl rfl ?_; clear hf fa; intro fa hf
  refine sqgF (act := (!(((decide ((500 : Int) < ((t.1.size : Nat) : Int))) || (decide (((tfuncP t)) ≠ (0 : Int)))) || (decide (((tvalP gt.1)) ≠ (0 : Int)))))) (ag := true) (c := (((decide ((500 : Int) < ((t.1.size : Nat) : Int))) || (decide (((tfuncP t)) ≠ (0 : Int)))) || (decide (((tvalP gt.1)) ≠ (0 : Int))))) (v := (.pointer (some ⟨b2, 2, none⟩))) hf rfl rfl rfl (fun hact => (r_fa rfl Try.underlying43 (f := 2) (q := 2) rfl (by kernel_rfl) rfl)) rfl rfl ?_; clear hf fa; intro fa hf
  refine sqgF (act := (!(((decide ((500 : Int) < ((t.1.size : Nat) : Int))) || (decide (((tfuncP t)) ≠ (0 : Int)))) || (decide (((tvalP gt.1)) ≠ (0 : Int)))))) (ag := true) (c := (((decide ((500 : Int) < ((t.1.size : Nat) : Int))) || (decide (((tfuncP t)) ≠ (0 : Int)))) || (decide (((tvalP gt.1)) ≠ (0 : Int))))) (v := (.bool m.2.2.1)) hf rfl rfl rfl (fun hact => (r_load (v := (.bool m.2.2.1)) (gb_ev hact rfl) Try.underlying4 rfl (cell_blk hk2 rfl))) rfl rfl ?_; clear hf fa; intro fa hf
  refine sqgF (act := (!(((decide ((500 : Int) < ((t.1.size : Nat) : Int))) || (decide (((tfuncP t)) ≠ (0 : Int)))) || (decide (((tvalP gt.1)) ≠ (0 : Int)))))) (ag := true) (c := (((decide ((500 : Int) < ((t.1.size : Nat) : Int))) || (decide (((tfuncP t)) ≠ (0 : Int)))) || (decide (((tvalP gt.1)) ≠ (0 : Int))))) (v := (.bool (!m.2.2.1))) hf rfl rfl rfl (fun hact => (r_not (gb_ev hact rfl))) rfl rfl ?_; clear hf fa; intro fa hf
  refine sqgF (act := (!(((decide ((500 : Int) < ((t.1.size : Nat) : Int))) || (decide (((tfuncP t)) ≠ (0 : Int)))) || (decide (((tvalP gt.1)) ≠ (0 : Int)))))) (ag := true) (c := (((decide ((500 : Int) < ((t.1.size : Nat) : Int))) || (decide (((tfuncP t)) ≠ (0 : Int)))) || (decide (((tvalP gt.1)) ≠ (0 : Int))))) (v := (.bool (!m.2.2.1))) hf rfl rfl rfl (fun hact => (r_move (gb_ev hact rfl))) rfl rfl ?_; clear hf fa; intro fa hf
  refine sqgT (act := ((!(((decide ((500 : Int) < ((t.1.size : Nat) : Int))) || (decide (((tfuncP t)) ≠ (0 : Int)))) || (decide (((tvalP gt.1)) ≠ (0 : Int))))) && (!m.2.2.1))) (ag := (!(((decide ((500 : Int) < ((t.1.size : Nat) : Int))) || (decide (((tfuncP t)) ≠ (0 : Int)))) || (decide (((tvalP gt.1)) ≠ (0 : Int)))))) (c := (!m.2.2.1)) (v := (.pointer (some ⟨b2, 1, none⟩))) hf rfl rfl rfl (fun hact => (r_fa rfl Try.underlying43 (f := 1) (q := 1) rfl (by kernel_rfl) rfl)) rfl rfl ?_; clear hf fa; intro fa hf
  refine sqgT (act := ((!(((decide ((500 : Int) < ((t.1.size : Nat) : Int))) || (decide (((tfuncP t)) ≠ (0 : Int)))) || (decide (((tvalP gt.1)) ≠ (0 : Int))))) && (!m.2.2.1))) (ag := (!(((decide ((500 : Int) < ((t.1.size : Nat) : Int))) || (decide (((tfuncP t)) ≠ (0 : Int)))) || (decide (((tvalP gt.1)) ≠ (0 : Int)))))) (c := (!m.2.2.1)) (v := (.int .u32 m.2.1)) hf rfl rfl rfl (fun hact => (r_load (v := (.int .u32 m.2.1)) (gb_ev hact rfl) Try.underlying24 rfl (cell_blk hk2 rfl))) rfl rfl ?_; clear hf fa; intro fa hf
  refine sqgT (act := ((!(((decide ((500 : Int) < ((t.1.size : Nat) : Int))) || (decide (((tfuncP t)) ≠ (0 : Int)))) || (decide (((tvalP gt.1)) ≠ (0 : Int))))) && (!m.2.2.1))) (ag := (!(((decide ((500 : Int) < ((t.1.size : Nat) : Int))) || (decide (((tfuncP t)) ≠ (0 : Int)))) || (decide (((tvalP gt.1)) ≠ (0 : Int)))))) (c := (!m.2.2.1)) (v := (.bool (decide (m.2.1 ≠ (0 : Int))))) hf rfl rfl rfl (fun hact => (r_ne (gb_ev hact rfl) rfl)) rfl rfl ?_; clear hf fa; intro fa hf
  refine sqgF (act := (!(((decide ((500 : Int) < ((t.1.size : Nat) : Int))) || (decide (((tfuncP t)) ≠ (0 : Int)))) || (decide (((tvalP gt.1)) ≠ (0 : Int)))))) (ag := true) (c := (((decide ((500 : Int) < ((t.1.size : Nat) : Int))) || (decide (((tfuncP t)) ≠ (0 : Int)))) || (decide (((tvalP gt.1)) ≠ (0 : Int))))) (v := (.bool ((!m.2.2.1) && (decide (m.2.1 ≠ (0 : Int)))))) hf rfl rfl rfl (fun hact => (r_pickA2 (q := (!(((decide ((500 : Int) < ((t.1.size : Nat) : Int))) || (decide (((tfuncP t)) ≠ (0 : Int)))) || (decide (((tvalP gt.1)) ≠ (0 : Int)))))) (b := (!m.2.2.1)) (e := (decide (m.2.1 ≠ (0 : Int)))) hact rfl rfl rfl)) rfl rfl ?_; clear hf fa; intro fa hf
  refine sqv hf (r_pickO (b := (((decide ((500 : Int) < ((t.1.size : Nat) : Int))) || (decide (((tfuncP t)) ≠ (0 : Int)))) || (decide (((tvalP gt.1)) ≠ (0 : Int))))) (e := ((!m.2.2.1) && (decide (m.2.1 ≠ (0 : Int))))) rfl rfl rfl) rfl rfl rfl ?_; clear hf fa; intro fa hf
  apply wpList_nil
  (try simp only [Exit.then, Exit.inBlock, ↓reduceIte, Nat.reduceEqDiff])
  refine hK5 _ _ ?_
  refine wp_cond_split (t := ((((decide ((500 : Int) < ((t.1.size : Nat) : Int))) || (decide (((tfuncP t)) ≠ (0 : Int)))) || (decide (((tvalP gt.1)) ≠ (0 : Int)))) || ((!m.2.2.1) && (decide (m.2.1 ≠ (0 : Int)))))) (hf.ev rfl) (fun hqt40_1 => ?_) (fun hqt40_1 => ?_)
  · have hqt40_1b := hqt40_1
    try simp only [decide_eq_true_eq, Bool.and_eq_true, Bool.or_eq_true, Bool.not_eq_true', decide_eq_false_iff_not, ne_eq, Bool.not_eq_true] at hqt40_1
    refine wp_seq_k (fun K6 hK6 => ?_)
    refine wp_region_lit ?_
    refine sqv hf (r_assign rfl) rfl rfl rfl ?_; clear hf fa; intro fa hf
    apply wpList_nil
    (try simp only [Exit.then, Exit.inBlock, ↓reduceIte, Nat.reduceEqDiff])
    refine hK6 _ _ ?_
    refine wp_ret ?_
    (try simp only [Exit.then, Exit.inBlock])
    refine ret1 hf rfl rfl ?_
    exact ⟨rfl, hb⟩
  · have hqt40_1b := hqt40_1
    replace hqt40_1 := Bool.eq_false_iff.1 hqt40_1
    try simp only [ne_eq, decide_eq_true_eq, Bool.and_eq_true, Bool.or_eq_true, Bool.not_eq_true', decide_eq_false_iff_not] at hqt40_1
    refine wp_skip ?_
    (try simp only [Exit.then, Exit.inBlock, ↓reduceIte, Nat.reduceEqDiff])
    refine hK4 _ _ ?_
    refine wp_seq_k (fun K7 hK7 => ?_)
    have hq := hqt40_1
    obtain ⟨ht, htv, hmz, hpz⟩ : tfuncP t = 0 ∧ tvalP gt.1 = 0 ∧ (m.2.2.1 = false → m.2.1 = 0) ∧ t.1.size ≤ 500 := by
      simp at hq
      grind
    have hfl := encF_len t (by omega) (by have := (tfunc_parts ht).2.1; omega)
    have hp2 := (tfunc_parts ht).2.1
    have hll := encL_len m hmr1.2 hmr2.2
    have hgl : (encG gt).length = 2 := rfl
    have hg := htv
    obtain ⟨B, hB⟩ : ∃ B, B = encF t ++ (encL m ++ encG gt) := ⟨_, rfl⟩
    have hS : (strOfNums (encF t) ++ strOfNums (encL m)) ++ strOfNums (encG gt) = strOfNums B := by rw [hB, strOfNums_app, strOfNums_app, ByteArray.append_assoc]
    have hB6 : ∀ y ∈ B, 0 ≤ y ∧ y < 256 := hB ▸ enc3_rng t m gt hgr1
    have hBm : B.length ≤ 1600 := by rw [hB, List.length_append, List.length_append]; omega
    have hnB : nums (strOfNums B) = B := nums_str hB6
    have hBz := strOfNums_size B
    refine wp_region_unT 10 (fun wq => Below w5.heap.size w5 wq) (fun w w' => Below w.heap.size w w')
      (fun V => [(fun x _ => x = (.agg #[(.string t.1), (.string t.2.1)])), (fun x _ => x = (.string (strOfNums (encF t)))), (fun x _ => x = (.agg #[(.int .u32 m.1), (.int .u32 m.2.1), (.bool m.2.2.1)])), (fun x _ => x = (.string (strOfNums (encL m)))), (fun x _ => x = (.string ((strOfNums (encF t)) ++ (strOfNums (encL m))))), (fun x _ => x = (.agg #[(.int .u8 gt.1), (.bool gt.2.1)])), (fun x _ => x = (.string (strOfNums (encG gt)))), (fun x _ => x = (.string (strOfNums B))), (fun x wq => ∃ b, (∃ C, x = .slice (some ⟨b, 0, none⟩) (strOfNums B).size C ∧ (strOfNums B).size ≤ C) ∧ w5.heap.size ≤ b ∧ ∃ cs fr, wq.heap[b]? = some (.cells cs 5 fr) ∧ StrC cs (strOfNums B)), (fun x wq => ∃ b, x = .pointer (some ⟨b, 0, none⟩) ∧ w5.heap.size ≤ b ∧ wq.heap[b]? = some (.cells #[(.slice none 0 0)] 47 (0, 0)))])
      [8, 9]
      [[], [0], [], [1, 2], [1, 3], [], [3, 5], [4, 6], [7], [], []]
      hf (by kernel_rfl) (by kernel_rfl) (by kernel_rfl) (fun _ => rfl) ((Below.refl _ _).drew) (fun a b h1 h2 => h1.trans (h2.mono h1.size)) (fun _ _ h => h.size) (fun V => ⟨kept_eq, kept_eq, kept_eq, kept_eq, kept_eq, kept_eq, kept_eq, kept_eq, keptStr, keptB, trivial⟩) (fun _ _ _ _ _ => rfl) ?_ ?_
    · skip
      intro V
      refine ⟨fun wu0 hC hd => ?_, ?_⟩
      · clear hd
        replace hb := hb.trans (hC.mono hb.size)
        replace hk1 := blk_ext hk1 hC
        replace hk2 := blk_ext hk2 hC
        replace hk3 := blk_ext hk3 hC
        exact Runs.does (r_loadA (cs := [(.string t.1), (.string t.2.1)]) rfl Try.underlying67 rfl (by kernel_rfl) (cellsAt_blk hk1)) ⟨Below.refl _ _, rfl, nofr rfl⟩
      refine ⟨fun wu1 hC hd => ?_, ?_⟩
      · obtain ⟨h0, _⟩ := hd
        skip
        replace h0 : V 0 = (.agg #[(.string t.1), (.string t.2.1)]) := h0
        replace hb := hb.trans (hC.mono hb.size)
        replace hk1 := blk_ext hk1 hC
        replace hk2 := blk_ext hk2 hC
        replace hk3 := blk_ext hk3 hC
        refine Does.mono (d_callB (vs := [(.agg #[(.string t.1), (.string t.2.1)])]) (show [some (V 0)] = [some (.agg #[(.string t.1), (.string t.2.1)])] from by rw [h0]) Try.func48 (by kernel_rfl) (by kernel_rfl) (rencf_any t _ (by omega) (by omega))) (fun _ _ h => ⟨h.2, h.1, nofr rfl⟩)
      refine ⟨fun wu2 hC hd => ?_, ?_⟩
      · clear hd
        replace hb := hb.trans (hC.mono hb.size)
        replace hk1 := blk_ext hk1 hC
        replace hk2 := blk_ext hk2 hC
        replace hk3 := blk_ext hk3 hC
        exact Runs.does (r_loadA (cs := [(.int .u32 m.1), (.int .u32 m.2.1), (.bool m.2.2.1)]) rfl Try.underlying43 rfl (by kernel_rfl) (cellsAt_blk hk2)) ⟨Below.refl _ _, rfl, nofr rfl⟩
      refine ⟨fun wu3 hC hd => ?_, ?_⟩
      · obtain ⟨h1, h2, _⟩ := hd
        skip
        skip
        replace h1 : V 1 = (.string (strOfNums (encF t))) := h1
        replace h2 : V 2 = (.agg #[(.int .u32 m.1), (.int .u32 m.2.1), (.bool m.2.2.1)]) := h2
        replace hb := hb.trans (hC.mono hb.size)
        replace hk1 := blk_ext hk1 hC
        replace hk2 := blk_ext hk2 hC
        replace hk3 := blk_ext hk3 hC
        refine Does.mono (d_callB (vs := [(.agg #[(.int .u32 m.1), (.int .u32 m.2.1), (.bool m.2.2.1)])]) (show [some (V 2)] = [some (.agg #[(.int .u32 m.1), (.int .u32 m.2.1), (.bool m.2.2.1)])] from by rw [h2]) Try.func30 (by kernel_rfl) (by kernel_rfl) (rencl_any m _ hmr1 hmr2)) (fun _ _ h => ⟨h.2, h.1, nofr rfl⟩)
      refine ⟨fun wu4 hC hd => ?_, ?_⟩
      · obtain ⟨h1, h3, _⟩ := hd
        skip
        skip
        replace h1 : V 1 = (.string (strOfNums (encF t))) := h1
        replace h3 : V 3 = (.string (strOfNums (encL m))) := h3
        replace hb := hb.trans (hC.mono hb.size)
        replace hk1 := blk_ext hk1 hC
        replace hk2 := blk_ext hk2 hC
        replace hk3 := blk_ext hk3 hC
        exact Runs.does (r_sadd (congrArg some h1) (congrArg some h3) (by have := strOfNums_size (encF t); have := strOfNums_size (encL m); omega)) ⟨Below.refl _ _, rfl, nofr rfl⟩
      refine ⟨fun wu5 hC hd => ?_, ?_⟩
      · clear hd
        replace hb := hb.trans (hC.mono hb.size)
        replace hk1 := blk_ext hk1 hC
        replace hk2 := blk_ext hk2 hC
        replace hk3 := blk_ext hk3 hC
        exact Runs.does (r_loadA (cs := [(.int .u8 gt.1), (.bool gt.2.1)]) rfl Try.underlying54 rfl (by kernel_rfl) (cellsAt_blk hk3)) ⟨Below.refl _ _, rfl, nofr rfl⟩
      refine ⟨fun wu6 hC hd => ?_, ?_⟩
      · obtain ⟨h3, h5, _⟩ := hd
        skip
        skip
        replace h3 : V 3 = (.string (strOfNums (encL m))) := h3
        replace h5 : V 5 = (.agg #[(.int .u8 gt.1), (.bool gt.2.1)]) := h5
        replace hb := hb.trans (hC.mono hb.size)
        replace hk1 := blk_ext hk1 hC
        replace hk2 := blk_ext hk2 hC
        replace hk3 := blk_ext hk3 hC
        refine Does.mono (d_callB (vs := [(.agg #[(.int .u8 gt.1), (.bool gt.2.1)])]) (show [some (V 5)] = [some (.agg #[(.int .u8 gt.1), (.bool gt.2.1)])] from by rw [h5]) Try.func40 (by kernel_rfl) (by kernel_rfl) (rencg_any gt _ hgr1)) (fun _ _ h => ⟨h.2, h.1, nofr rfl⟩)
      refine ⟨fun wu7 hC hd => ?_, ?_⟩
      · obtain ⟨h4, h6, _⟩ := hd
        skip
        skip
        replace h4 : V 4 = (.string ((strOfNums (encF t)) ++ (strOfNums (encL m)))) := h4
        replace h6 : V 6 = (.string (strOfNums (encG gt))) := h6
        replace hb := hb.trans (hC.mono hb.size)
        replace hk1 := blk_ext hk1 hC
        replace hk2 := blk_ext hk2 hC
        replace hk3 := blk_ext hk3 hC
        exact Runs.does (Runs.veq (v' := (.string (strOfNums B))) (r_sadd (congrArg some h4) (congrArg some h6) (by have := strOfNums_size (encF t); have := strOfNums_size (encL m); have := sz_app (strOfNums (encF t)) (strOfNums (encL m)); have := strOfNums_size (encG gt); omega)) (congrArg Value.string hS)) ⟨Below.refl _ _, rfl, nofr rfl⟩
      refine ⟨fun wu8 hC hd => ?_, ?_⟩
      · obtain ⟨h7, _⟩ := hd
        skip
        replace h7 : V 7 = (.string (strOfNums B)) := h7
        replace hb := hb.trans (hC.mono hb.size)
        replace hk1 := blk_ext hk1 hC
        replace hk2 := blk_ext hk2 hC
        replace hk3 := blk_ext hk3 hC
        refine Does.mono (d_strb (congrArg some h7) Try.underlying9 Try.underlying47 Try.underlying5) ?_
        rintro _ w' ⟨b, C, cs, fr, rfl, hF, hF2, hF3, hF4, hF5⟩
        exact ⟨hF5, ⟨b, ⟨C, rfl, hF4⟩, Nat.le_trans hC.size hF, cs, fr, hF2, hF3⟩, isfr rfl hF (blk_lt hF2)⟩
      refine ⟨fun wu9 hC hd => ?_, ?_⟩
      · clear hd
        replace hb := hb.trans (hC.mono hb.size)
        replace hk1 := blk_ext hk1 hC
        replace hk2 := blk_ext hk2 hC
        replace hk3 := blk_ext hk3 hC
        refine Does.mono (d_alloc (z := (.slice none 0 0)) (cs := #[(.slice none 0 0)]) (by kernel_rfl) rfl) ?_
        rintro _ w' ⟨b, rfl, hF⟩
        exact ⟨hF.2.2, ⟨b, rfl, Nat.le_trans hC.size hF.1, hF.2.1⟩, isfr rfl hF.1 (blk_lt hF.2.1)⟩
      trivial
    · skip
      clear hf fa; intro V w6 fa he6 hp hnb hf
      have hv0 : V 0 = (.agg #[(.string t.1), (.string t.2.1)]) := postsHold_at hp 0 rfl
      have hv1 : V 1 = (.string (strOfNums (encF t))) := postsHold_at hp 1 rfl
      have hv2 : V 2 = (.agg #[(.int .u32 m.1), (.int .u32 m.2.1), (.bool m.2.2.1)]) := postsHold_at hp 2 rfl
      have hv3 : V 3 = (.string (strOfNums (encL m))) := postsHold_at hp 3 rfl
      have hv4 : V 4 = (.string ((strOfNums (encF t)) ++ (strOfNums (encL m)))) := postsHold_at hp 4 rfl
      have hv5 : V 5 = (.agg #[(.int .u8 gt.1), (.bool gt.2.1)]) := postsHold_at hp 5 rfl
      have hv6 : V 6 = (.string (strOfNums (encG gt))) := postsHold_at hp 6 rfl
      have hv7 : V 7 = (.string (strOfNums B)) := postsHold_at hp 7 rfl
      have hv8 := postsHold_at hp 8 rfl
      obtain ⟨b4, ⟨C1, hv8, hcC1⟩, hle4, cs1, fr1, hk4, hs1⟩ := hv8
      have hBb4 : w.heap.size ≤ b4 := Nat.le_trans hb.size hle4
      have hv9 := postsHold_at hp 9 rfl
      obtain ⟨b5, hv9, hle5, hk5⟩ := hv9
      have hBb5 : w.heap.size ≤ b5 := Nat.le_trans hb.size hle5
      simp only [List.take_succ_cons, List.take_zero, insAll, ins, hv0, hv1, hv2, hv3, hv4, hv5, hv6, hv7, hv8, hv9] at hf
      have : b4 ≠ b5 := two_blk (i := 8) (j := 9) hnb rfl rfl rfl rfl rfl (by rw [hv8]; rfl) (by rw [hv9]; rfl)
      have : b1 < b4 := Nat.lt_of_lt_of_le (blk_lt hk1) hle4
      have : b1 < b5 := Nat.lt_of_lt_of_le (blk_lt hk1) hle5
      have : b2 < b4 := Nat.lt_of_lt_of_le (blk_lt hk2) hle4
      have : b2 < b5 := Nat.lt_of_lt_of_le (blk_lt hk2) hle5
      have : b3 < b4 := Nat.lt_of_lt_of_le (blk_lt hk3) hle4
      have : b3 < b5 := Nat.lt_of_lt_of_le (blk_lt hk3) hle5
      clear hp hnb hv0 hv1 hv2 hv3 hv4 hv5 hv6 hv7 hv8 hv9
      replace hk1 := blk_ext hk1 he6
      replace hk2 := blk_ext hk2 he6
      replace hk3 := blk_ext hk3 he6
      replace hb := hb.trans (Below.mono he6 hb.size)
      simp only [List.drop_succ_cons, List.drop_zero]
      refine sqn hf (d_storeK (T := 47) (v := (.slice (some ⟨b4, 0, none⟩) ((strOfNums B).size) C1)) (cs := #[(.slice none 0 0)]) (cs' := #[(.slice (some ⟨b4, 0, none⟩) ((strOfNums B).size) C1)]) rfl rfl (by kernel_rfl) (by kernel_rfl) hk5 (by kernel_rfl) (by kernel_rfl)) rfl rfl ?_; clear hf fa; rintro fa _ w7 ⟨hk6, hg1⟩ hf
      replace hk1 := blk_grown hk1 hg1 (by omega)
      replace hk2 := blk_grown hk2 hg1 (by omega)
      replace hk3 := blk_grown hk3 hg1 (by omega)
      replace hk4 := blk_grown hk4 hg1 (by omega)
      replace hb := hb.trans (grown_below hg1 hb.size hBb5)
      apply wpList_nil
      (try simp only [Exit.then, Exit.inBlock, ↓reduceIte, Nat.reduceEqDiff])
      refine hK7 _ _ ?_
      refine wp_seq_k (fun K8 hK8 => ?_)
      refine wp_region_lit ?_
      refine sqdt hf (d_bslice (z := (.int .u8 (0 : Int))) (sz := 1) (vs := [(0, (.int .u8 (9 : Int)))]) (cs := #[(.int .u8 (9 : Int))]) rfl Try.underlying47 (by kernel_rfl) rfl (by kernel_rfl)) rfl rfl rfl ?_; clear hf fa; rintro fa _ w8 ⟨b6, rfl, hle6, hk7, he7⟩ hf
      have hBb6 : w.heap.size ≤ b6 := Nat.le_trans hb.size hle6
      have : b1 < b6 := Nat.lt_of_lt_of_le (blk_lt hk1) hle6
      have : b2 < b6 := Nat.lt_of_lt_of_le (blk_lt hk2) hle6
      have : b3 < b6 := Nat.lt_of_lt_of_le (blk_lt hk3) hle6
      have : b4 < b6 := Nat.lt_of_lt_of_le (blk_lt hk4) hle6
      have : b5 < b6 := Nat.lt_of_lt_of_le (blk_lt hk6) hle6
      replace hk1 := blk_ext hk1 he7
      replace hk2 := blk_ext hk2 he7
      replace hk3 := blk_ext hk3 he7
      replace hk4 := blk_ext hk4 he7
      replace hk6 := blk_ext hk6 he7
      replace hb := hb.trans (Below.mono he7 hb.size)
      refine sqv hf (r_load (v := (.slice (some ⟨b4, 0, none⟩) ((strOfNums B).size) C1)) rfl Try.underlying47 rfl (cell_blk hk6 rfl)) rfl rfl rfl ?_; clear hf fa; intro fa hf
      have hr1 := Row.of_new (k := 1) (V := (vInt .u8)) (l := [(9 : Int)]) hk7 (Nat.le_refl _) rfl rfl (Nat.le_of_ble_eq_true rfl)
      refine sqdt hf (d_append (V := (vInt .u8)) (k := 1) (e := 5) (bytes := 1) (z := (.int .u8 (0 : Int))) (news := (nums (strOfNums B))) (base := b6) (by intros; rfl) (by intro x u hu; simp only [vInt, List.mem_singleton] at hu; subst hu; rfl) rfl rfl Try.underlying47 (by kernel_rfl) rfl rfl rfl hr1 (StrC.rd hk4 hs1) (nums_len _).symm (fun h => by cases h) (by first | omega | (simp only [List.length_cons, List.length_nil, List.length_append, nums_len]; omega)) (by first | (have := hb.size; have : b6 < w8.heap.size := (Row.lt hr1 _ rfl).2; omega) | (have := Row.base_le hr1 (by first | omega | (simp only [Sl.list_length, List.length_set, List.length_take, List.length_append, List.length_replicate, List.length_cons, List.length_nil, List.length_map, nums_len]; omega)); omega))) rfl rfl rfl ?_; clear hf fa; rintro fa v w9 ⟨hr2, hg2⟩ hf; obtain ⟨ra1, rc1, rfl, hcrc1, hmrc1⟩ := Row.slice hr2
      replace hk1 := blk_row' hk1 hg2 (Row.ne_type hr1 hk1 rfl)
      replace hk2 := blk_row' hk2 hg2 (Row.ne_type hr1 hk2 rfl)
      replace hk3 := blk_row' hk3 hg2 (Row.ne_type hr1 hk3 rfl)
      replace hk4 := blk_row' hk4 hg2 (Row.ne_base hr1 (by omega))
      replace hk6 := blk_row' hk6 hg2 (Row.ne_type hr1 hk6 rfl)
      replace hb := hb.trans (row_below hr1 hg2 hb.size (by have := hb.size; omega))
      refine sqdt hf (d_bslice (z := (.int .u8 (0 : Int))) (sz := 1) (vs := [(0, (.int .u8 (7 : Int)))]) (cs := #[(.int .u8 (7 : Int))]) rfl Try.underlying47 (by kernel_rfl) rfl (by kernel_rfl)) rfl rfl rfl ?_; clear hf fa; rintro fa _ w10 ⟨b7, rfl, hle7, hk8, he8⟩ hf
      have hBb7 : w.heap.size ≤ b7 := Nat.le_trans hb.size hle7
      have : b1 < b7 := Nat.lt_of_lt_of_le (blk_lt hk1) hle7
      have : b2 < b7 := Nat.lt_of_lt_of_le (blk_lt hk2) hle7
      have : b3 < b7 := Nat.lt_of_lt_of_le (blk_lt hk3) hle7
      have : b4 < b7 := Nat.lt_of_lt_of_le (blk_lt hk4) hle7
      have : b5 < b7 := Nat.lt_of_lt_of_le (blk_lt hk6) hle7
      have hnr1 : (Value.slice ra1 (((([(9 : Int)] ++ (nums (strOfNums B)))).length)) rc1).ownBlock ≠ some b7 := fun hq => by have := (Row.lt hr2 _ hq).2; omega
      replace hk1 := blk_ext hk1 he8
      replace hk2 := blk_ext hk2 he8
      replace hk3 := blk_ext hk3 he8
      replace hk4 := blk_ext hk4 he8
      replace hk6 := blk_ext hk6 he8
      replace hr2 := Row.ext hr2 he8
      replace hb := hb.trans (Below.mono he8 hb.size)
      have hs2 := Row.rd (by intros; rfl) (Row.of_new (k := 1) (V := (vInt .u8)) (l := [(7 : Int)]) hk8 (Nat.le_refl _) rfl rfl (Nat.le_of_ble_eq_true rfl))
      refine sqdt hf (d_append (V := (vInt .u8)) (k := 1) (e := 5) (bytes := 1) (z := (.int .u8 (0 : Int))) (news := [(7 : Int)]) (base := b6) (by intros; rfl) (by intro x u hu; simp only [vInt, List.mem_singleton] at hu; subst hu; rfl) rfl rfl Try.underlying47 (by kernel_rfl) rfl rfl rfl hr2 hs2 rfl (fun h => by cases h) (by first | omega | (simp only [List.length_cons, List.length_nil, List.length_append, nums_len]; omega)) (by first | (have := hb.size; omega) | (have := Row.base_le hr2 (by first | omega | (simp only [Sl.list_length, List.length_set, List.length_take, List.length_append, List.length_replicate, List.length_cons, List.length_nil, List.length_map, nums_len]; omega)); omega))) rfl rfl rfl ?_; clear hf fa; rintro fa v w11 ⟨hr3, hg3⟩ hf; obtain ⟨ra2, rc2, rfl, hcrc2, hmrc2⟩ := Row.slice hr3
      replace hk1 := blk_row' hk1 hg3 (Row.ne_type hr2 hk1 rfl)
      replace hk2 := blk_row' hk2 hg3 (Row.ne_type hr2 hk2 rfl)
      replace hk3 := blk_row' hk3 hg3 (Row.ne_type hr2 hk3 rfl)
      replace hk4 := blk_row' hk4 hg3 (Row.ne_base hr2 (by omega))
      replace hk6 := blk_row' hk6 hg3 (Row.ne_type hr2 hk6 rfl)
      replace hb := hb.trans (row_below hr2 hg3 hb.size (by have := hb.size; omega))
      refine sqdt hf (d_callX (vs := [(.slice ra2 (((([(9 : Int)] ++ (nums (strOfNums B))) ++ [(7 : Int)])).length) rc2)]) rfl Try.func58 (by kernel_rfl) (by kernel_rfl) (over_any ra2 rc2 (([(9 : Int)] ++ (nums (strOfNums B))) ++ [(7 : Int)]) _ (Row.rd (by intros; rfl) hr3) (by first | omega | (simp only [Sl.list_length, List.length_set, List.length_take, List.length_append, List.length_replicate, List.length_cons, List.length_nil, List.length_map, nums_len]; omega)) (fun h => Row.nocap hr3 h))) rfl rfl rfl ?_; clear hf fa; rintro fa _ w12 ⟨sb1, sa1, sc1, rfl, hle8, hk9, hr4, he9⟩ hf
      have hBsb1 : w.heap.size ≤ sb1 := Nat.le_trans hb.size hle8
      have : b1 < sb1 := Nat.lt_of_lt_of_le (blk_lt hk1) hle8
      have : b2 < sb1 := Nat.lt_of_lt_of_le (blk_lt hk2) hle8
      have : b3 < sb1 := Nat.lt_of_lt_of_le (blk_lt hk3) hle8
      have : b4 < sb1 := Nat.lt_of_lt_of_le (blk_lt hk4) hle8
      have : b5 < sb1 := Nat.lt_of_lt_of_le (blk_lt hk6) hle8
      replace hr4 := Row.rebase hr4 hb.size
      replace hk1 := blk_ext hk1 he9
      replace hk2 := blk_ext hk2 he9
      replace hk3 := blk_ext hk3 he9
      replace hk4 := blk_ext hk4 he9
      replace hk6 := blk_ext hk6 he9
      replace hr3 := Row.ext hr3 he9
      replace hb := hb.trans (Below.mono he9 hb.size)
      refine sqdt hf (d_alloc (z := (.pointer none)) (cs := #[(.pointer none)]) (by kernel_rfl) rfl) rfl rfl rfl ?_; clear hf fa; rintro fa _ w13 ⟨b8, rfl, hle9, hk10, he10⟩ hf
      have hBb8 : w.heap.size ≤ b8 := Nat.le_trans hb.size hle9
      have : b1 < b8 := Nat.lt_of_lt_of_le (blk_lt hk1) hle9
      have : b2 < b8 := Nat.lt_of_lt_of_le (blk_lt hk2) hle9
      have : b3 < b8 := Nat.lt_of_lt_of_le (blk_lt hk3) hle9
      have : b4 < b8 := Nat.lt_of_lt_of_le (blk_lt hk4) hle9
      have : b5 < b8 := Nat.lt_of_lt_of_le (blk_lt hk6) hle9
      have : sb1 < b8 := Nat.lt_of_lt_of_le (blk_lt hk9) hle9
      replace hk1 := blk_ext hk1 he10
      replace hk2 := blk_ext hk2 he10
      replace hk3 := blk_ext hk3 he10
      replace hk4 := blk_ext hk4 he10
      replace hk6 := blk_ext hk6 he10
      replace hk9 := blk_ext hk9 he10
      replace hr3 := Row.ext hr3 he10
      replace hr4 := Row.ext hr4 he10
      replace hb := hb.trans (Below.mono he10 hb.size)
      refine sqn hf (d_storeK (T := 87) (v := (.pointer (some ⟨sb1, 0, none⟩))) (cs := #[(.pointer none)]) (cs' := #[(.pointer (some ⟨sb1, 0, none⟩))]) rfl rfl (by kernel_rfl) (by kernel_rfl) hk10 (by kernel_rfl) (by kernel_rfl)) rfl rfl ?_; clear hf fa; rintro fa _ w14 ⟨hk11, hg4⟩ hf
      replace hk1 := blk_grown hk1 hg4 (by omega)
      replace hk2 := blk_grown hk2 hg4 (by omega)
      replace hk3 := blk_grown hk3 hg4 (by omega)
      replace hk4 := blk_grown hk4 hg4 (by omega)
      replace hk6 := blk_grown hk6 hg4 (by omega)
      replace hk9 := blk_grown hk9 hg4 (by omega)
      replace hr3 := Row.grown hr3 hg4 (Row.ne_type hr3 hk10 rfl)
      replace hr4 := Row.grown hr4 hg4 (Row.ne_type hr4 hk10 rfl)
      replace hb := hb.trans (grown_below hg4 hb.size hBb8)
      apply wpList_nil
      (try simp only [Exit.then, Exit.inBlock, ↓reduceIte, Nat.reduceEqDiff])
      refine hK8 _ _ ?_
      refine wp_seq_k (fun K9 hK9 => ?_)
      refine wp_region_lit ?_
      refine sqdt hf (d_alloc (z := (.agg #[(.string ⟨#[]⟩), (.string ⟨#[]⟩)])) (cs := #[(.string ⟨#[]⟩), (.string ⟨#[]⟩)]) (by kernel_rfl) rfl) rfl rfl rfl ?_; clear hf fa; rintro fa _ w15 ⟨b9, rfl, hle10, hk12, he11⟩ hf
      have hBb9 : w.heap.size ≤ b9 := Nat.le_trans hb.size hle10
      have : b1 < b9 := Nat.lt_of_lt_of_le (blk_lt hk1) hle10
      have : b2 < b9 := Nat.lt_of_lt_of_le (blk_lt hk2) hle10
      have : b3 < b9 := Nat.lt_of_lt_of_le (blk_lt hk3) hle10
      have : b4 < b9 := Nat.lt_of_lt_of_le (blk_lt hk4) hle10
      have : b5 < b9 := Nat.lt_of_lt_of_le (blk_lt hk6) hle10
      have : sb1 < b9 := Nat.lt_of_lt_of_le (blk_lt hk9) hle10
      have : b8 < b9 := Nat.lt_of_lt_of_le (blk_lt hk11) hle10
      replace hk1 := blk_ext hk1 he11
      replace hk2 := blk_ext hk2 he11
      replace hk3 := blk_ext hk3 he11
      replace hk4 := blk_ext hk4 he11
      replace hk6 := blk_ext hk6 he11
      replace hk9 := blk_ext hk9 he11
      replace hk11 := blk_ext hk11 he11
      replace hr3 := Row.ext hr3 he11
      replace hr4 := Row.ext hr4 he11
      replace hb := hb.trans (Below.mono he11 hb.size)
      apply wpList_nil
      (try simp only [Exit.then, Exit.inBlock, ↓reduceIte, Nat.reduceEqDiff])
      refine hK9 _ _ ?_
      refine wp_seq_k (fun K10 hK10 => ?_)
      refine wp_region_lit ?_
      refine sqdt hf (d_alloc (z := (.agg #[(.int .u32 (0 : Int)), (.int .u32 (0 : Int)), (.bool false)])) (cs := #[(.int .u32 (0 : Int)), (.int .u32 (0 : Int)), (.bool false)]) (by kernel_rfl) rfl) rfl rfl rfl ?_; clear hf fa; rintro fa _ w16 ⟨b10, rfl, hle11, hk13, he12⟩ hf
      have hBb10 : w.heap.size ≤ b10 := Nat.le_trans hb.size hle11
      have : b1 < b10 := Nat.lt_of_lt_of_le (blk_lt hk1) hle11
      have : b2 < b10 := Nat.lt_of_lt_of_le (blk_lt hk2) hle11
      have : b3 < b10 := Nat.lt_of_lt_of_le (blk_lt hk3) hle11
      have : b4 < b10 := Nat.lt_of_lt_of_le (blk_lt hk4) hle11
      have : b5 < b10 := Nat.lt_of_lt_of_le (blk_lt hk6) hle11
      have : sb1 < b10 := Nat.lt_of_lt_of_le (blk_lt hk9) hle11
      have : b8 < b10 := Nat.lt_of_lt_of_le (blk_lt hk11) hle11
      have : b9 < b10 := Nat.lt_of_lt_of_le (blk_lt hk12) hle11
      replace hk1 := blk_ext hk1 he12
      replace hk2 := blk_ext hk2 he12
      replace hk3 := blk_ext hk3 he12
      replace hk4 := blk_ext hk4 he12
      replace hk6 := blk_ext hk6 he12
      replace hk9 := blk_ext hk9 he12
      replace hk11 := blk_ext hk11 he12
      replace hk12 := blk_ext hk12 he12
      replace hr3 := Row.ext hr3 he12
      replace hr4 := Row.ext hr4 he12
      replace hb := hb.trans (Below.mono he12 hb.size)
      apply wpList_nil
      (try simp only [Exit.then, Exit.inBlock, ↓reduceIte, Nat.reduceEqDiff])
      refine hK10 _ _ ?_
      refine wp_seq_k (fun K11 hK11 => ?_)
      refine wp_region_lit ?_
      refine sqdt hf (d_alloc (z := (.agg #[(.int .u8 (0 : Int)), (.bool false)])) (cs := #[(.int .u8 (0 : Int)), (.bool false)]) (by kernel_rfl) rfl) rfl rfl rfl ?_; clear hf fa; rintro fa _ w17 ⟨b11, rfl, hle12, hk14, he13⟩ hf
      have hBb11 : w.heap.size ≤ b11 := Nat.le_trans hb.size hle12
      have : b1 < b11 := Nat.lt_of_lt_of_le (blk_lt hk1) hle12
      have : b2 < b11 := Nat.lt_of_lt_of_le (blk_lt hk2) hle12
      have : b3 < b11 := Nat.lt_of_lt_of_le (blk_lt hk3) hle12
      have : b4 < b11 := Nat.lt_of_lt_of_le (blk_lt hk4) hle12
      have : b5 < b11 := Nat.lt_of_lt_of_le (blk_lt hk6) hle12
      have : sb1 < b11 := Nat.lt_of_lt_of_le (blk_lt hk9) hle12
      have : b8 < b11 := Nat.lt_of_lt_of_le (blk_lt hk11) hle12
      have : b9 < b11 := Nat.lt_of_lt_of_le (blk_lt hk12) hle12
      have : b10 < b11 := Nat.lt_of_lt_of_le (blk_lt hk13) hle12
      replace hk1 := blk_ext hk1 he13
      replace hk2 := blk_ext hk2 he13
      replace hk3 := blk_ext hk3 he13
      replace hk4 := blk_ext hk4 he13
      replace hk6 := blk_ext hk6 he13
      replace hk9 := blk_ext hk9 he13
      replace hk11 := blk_ext hk11 he13
      replace hk12 := blk_ext hk12 he13
      replace hk13 := blk_ext hk13 he13
      replace hr3 := Row.ext hr3 he13
      replace hr4 := Row.ext hr4 he13
      replace hb := hb.trans (Below.mono he13 hb.size)
      apply wpList_nil
      (try simp only [Exit.then, Exit.inBlock, ↓reduceIte, Nat.reduceEqDiff])
      refine hK11 _ _ ?_
      refine wp_seq_k (fun K12 hK12 => ?_)
      have hLe : (([(9 : Int)] ++ (nums (strOfNums B))) ++ [(7 : Int)]) = ([(9 : Int)] ++ B) ++ [(7 : Int)] := by rw [hnB]
      have hL2 : ((([(9 : Int)] ++ (nums (strOfNums B))) ++ [(7 : Int)])).length = B.length + 2 := by rw [hLe]; simp only [List.length_append, List.length_cons, List.length_nil]; omega
      have hl6 : ∀ y ∈ (([(9 : Int)] ++ (nums (strOfNums B))) ++ [(7 : Int)]), 0 ≤ y ∧ y < 256 := by
        rw [hLe]; intro y hy
        simp only [List.mem_append, List.mem_singleton] at hy
        rcases hy with (rfl | h) | rfl
        · omega
        · exact hB6 y h
        · omega
      have hlm : ((([(9 : Int)] ++ (nums (strOfNums B))) ++ [(7 : Int)])).length ≤ 1000000 := by omega
      have hx9 : ((([(9 : Int)] ++ (nums (strOfNums B))) ++ [(7 : Int)]))[0]? = some 9 := by rw [hLe]; rfl
      have hAB : At ((([(9 : Int)] ++ (nums (strOfNums B))) ++ [(7 : Int)])) (0 + 1) B := by rw [hLe]; exact (At.snd ((At.all _).mv rfl (List.append_assoc ..))).fst.mv rfl rfl
      refine wp_region_lit ?_
      refine sqv hf (r_makeFunc (vs := [(.pointer (some ⟨b8, 0, none⟩)), (.pointer (some ⟨b5, 0, none⟩)), (.pointer (some ⟨b9, 0, none⟩)), (.pointer (some ⟨b10, 0, none⟩)), (.pointer (some ⟨b11, 0, none⟩))]) rfl) rfl rfl rfl ?_; clear hf fa; intro fa hf
      refine sqdt hf (d_callR (vs := [(.func (.func 60) #[] #[(.pointer (some ⟨b8, 0, none⟩)), (.pointer (some ⟨b5, 0, none⟩)), (.pointer (some ⟨b9, 0, none⟩)), (.pointer (some ⟨b10, 0, none⟩)), (.pointer (some ⟨b11, 0, none⟩))])]) rfl Try.func59 (by kernel_rfl) (by kernel_rfl) (out_ok 60 _ _ [b9, b10, b11, sb1] (fun _ w' => w'.heap[b9]? = some (.cells #[(.string t.1), (.string t.2.1)] 67 (0, 0)) ∧ w'.heap[b10]? = some (.cells #[(.int .u32 m.1), (.int .u32 m.2.1), (.bool m.2.2.1)] 43 (0, 0)) ∧ w'.heap[b11]? = some (.cells #[(.int .u8 gt.1), (.bool gt.2.1)] 54 (0, 0)) ∧ w'.heap[sb1]? = some (.cells #[(.slice sa1 (((([(9 : Int)] ++ (nums (strOfNums B))) ++ [(7 : Int)])).length) sc1), .int .i64 ((0 + 1 + B.length : Nat) : Int)] 161 (0, 0))) (enters Try.func60 (by kernel_rfl) (by kernel_rfl)) (by intro q hq; have := blk_lt hk14; simp only [List.mem_cons, List.not_mem_nil, or_false] at hq; rcases hq with rfl | rfl | rfl | rfl <;> omega) (fun w1 hw1 hlt => (c60_any b8 b5 b9 b10 b11 sb1 w.heap.size 0 sa1 sc1 (([(9 : Int)] ++ (nums (strOfNums B))) ++ [(7 : Int)]) w1 (blk_ext hk9 hw1) (Row.ext hr4 hw1) (by omega) hl6 hlm t m gt (some ⟨b4, 0, none⟩) C1 B hB hB6 (by omega) hx9 hAB (blk_ext hk11 hw1) (hBz ▸ blk_ext hk6 hw1) (blk_ext hk12 hw1) (blk_ext hk13 hw1) (blk_ext hk14 hw1) (by omega) (by omega) (by omega) (by omega) (by omega) (Nat.lt_trans (blk_lt hk14) hlt) ht hmr1 hmr2 hmz hg).mono (fun e w' h => (by obtain ⟨h0, h1, h2, h3, h4, h5⟩ := h; exact ⟨h0, h5, h1, h2, h3, h4⟩))))) rfl rfl rfl ?_; clear hf fa; rintro fa _ w18 ⟨rfl, hks1, _, _, hk15, hk16, hk17, hk18⟩ hf
      replace hk1 := blk_ks hk1 hks1 (by simp only [List.mem_cons, List.not_mem_nil, or_false]; omega)
      replace hk2 := blk_ks hk2 hks1 (by simp only [List.mem_cons, List.not_mem_nil, or_false]; omega)
      replace hk3 := blk_ks hk3 hks1 (by simp only [List.mem_cons, List.not_mem_nil, or_false]; omega)
      replace hk4 := blk_ks hk4 hks1 (by simp only [List.mem_cons, List.not_mem_nil, or_false]; omega)
      replace hk6 := blk_ks hk6 hks1 (by simp only [List.mem_cons, List.not_mem_nil, or_false]; omega)
      replace hk11 := blk_ks hk11 hks1 (by simp only [List.mem_cons, List.not_mem_nil, or_false]; omega)
      replace hr3 := Row.ks hr3 hks1 (fun q hq => by simp only [List.mem_cons, List.not_mem_nil, or_false] at hq; rcases hq with rfl | rfl | rfl | rfl; exact (Row.ne_type hr3 hk12 rfl); exact (Row.ne_type hr3 hk13 rfl); exact (Row.ne_type hr3 hk14 rfl); exact (Row.ne_type hr3 hk9 rfl))
      replace hr4 := Row.ks hr4 hks1 (fun q hq => by simp only [List.mem_cons, List.not_mem_nil, or_false] at hq; rcases hq with rfl | rfl | rfl | rfl; exact (Row.ne_type hr4 hk12 rfl); exact (Row.ne_type hr4 hk13 rfl); exact (Row.ne_type hr4 hk14 rfl); exact (Row.ne_type hr4 hk9 rfl))
      replace hb : KS [] w.heap.size w _ := (KS.of_belowB hb).many hks1 (by intro q hq; simp only [List.mem_cons, List.not_mem_nil, or_false] at hq ⊢; omega) hb.size
      replace hb := KS.below hb
      refine sqdt hf (d_alloc (z := (.agg #[(.int .i64 (0 : Int)), (.int .i64 (0 : Int))])) (cs := #[(.int .i64 (0 : Int)), (.int .i64 (0 : Int))]) (by kernel_rfl) rfl) rfl rfl rfl ?_; clear hf fa; rintro fa _ w19 ⟨b12, rfl, hle13, hk19, he14⟩ hf
      have hBb12 : w.heap.size ≤ b12 := Nat.le_trans hb.size hle13
      have : b1 < b12 := Nat.lt_of_lt_of_le (blk_lt hk1) hle13
      have : b2 < b12 := Nat.lt_of_lt_of_le (blk_lt hk2) hle13
      have : b3 < b12 := Nat.lt_of_lt_of_le (blk_lt hk3) hle13
      have : b4 < b12 := Nat.lt_of_lt_of_le (blk_lt hk4) hle13
      have : b5 < b12 := Nat.lt_of_lt_of_le (blk_lt hk6) hle13
      have : sb1 < b12 := Nat.lt_of_lt_of_le (blk_lt hk18) hle13
      have : b8 < b12 := Nat.lt_of_lt_of_le (blk_lt hk11) hle13
      have : b9 < b12 := Nat.lt_of_lt_of_le (blk_lt hk15) hle13
      have : b10 < b12 := Nat.lt_of_lt_of_le (blk_lt hk16) hle13
      have : b11 < b12 := Nat.lt_of_lt_of_le (blk_lt hk17) hle13
      replace hk1 := blk_ext hk1 he14
      replace hk2 := blk_ext hk2 he14
      replace hk3 := blk_ext hk3 he14
      replace hk4 := blk_ext hk4 he14
      replace hk6 := blk_ext hk6 he14
      replace hk18 := blk_ext hk18 he14
      replace hk11 := blk_ext hk11 he14
      replace hk15 := blk_ext hk15 he14
      replace hk16 := blk_ext hk16 he14
      replace hk17 := blk_ext hk17 he14
      replace hr3 := Row.ext hr3 he14
      replace hr4 := Row.ext hr4 he14
      replace hb := hb.trans (Below.mono he14 hb.size)
      refine sqn hf (d_storeK (T := 90) (v := (.agg #[(.int .i64 (0 : Int)), (.int .i64 (0 : Int))])) (cs := #[(.int .i64 (0 : Int)), (.int .i64 (0 : Int))]) (cs' := #[(.int .i64 (0 : Int)), (.int .i64 (0 : Int))]) rfl rfl (by kernel_rfl) (by kernel_rfl) hk19 (by kernel_rfl) (by kernel_rfl)) rfl rfl ?_; clear hf fa; rintro fa _ w20 ⟨hk20, hg5⟩ hf
      replace hk1 := blk_grown hk1 hg5 (by omega)
      replace hk2 := blk_grown hk2 hg5 (by omega)
      replace hk3 := blk_grown hk3 hg5 (by omega)
      replace hk4 := blk_grown hk4 hg5 (by omega)
      replace hk6 := blk_grown hk6 hg5 (by omega)
      replace hk18 := blk_grown hk18 hg5 (by omega)
      replace hk11 := blk_grown hk11 hg5 (by omega)
      replace hk15 := blk_grown hk15 hg5 (by omega)
      replace hk16 := blk_grown hk16 hg5 (by omega)
      replace hk17 := blk_grown hk17 hg5 (by omega)
      replace hr3 := Row.grown hr3 hg5 (Row.ne_type hr3 hk19 rfl)
      replace hr4 := Row.grown hr4 hg5 (Row.ne_type hr4 hk19 rfl)
      replace hb := hb.trans (grown_below hg5 hb.size hBb12)
      apply wpList_nil
      (try simp only [Exit.then, Exit.inBlock, ↓reduceIte, Nat.reduceEqDiff])
      refine hK12 _ _ ?_
      refine wp_seq_k (fun K13 hK13 => ?_)
      have hLL := hL2
      refine wp_region_lit ?_
      refine sqv hf (r_loadA (cs := [(.int .i64 (0 : Int)), (.int .i64 (0 : Int))]) rfl Try.underlying90 rfl (by kernel_rfl) (cellsAt_blk hk20)) rfl rfl rfl ?_; clear hf fa; intro fa hf
      refine sqv hf (r_build (vs := []) (cs := #[(.int .i64 (0 : Int)), (.int .i64 (0 : Int))]) rfl (fun _ => by kernel_rfl)) rfl rfl rfl ?_; clear hf fa; intro fa hf
      refine sqv hf (r_aeq (k := 5) rfl rfl (by kernel_rfl) (eqt_struct (xs := #[(.int .i64 (0 : Int)), (.int .i64 (0 : Int))]) (ys := #[(.int .i64 (0 : Int)), (.int .i64 (0 : Int))]) Try.underlying90 (by kernel_rfl) (eqf_cons (by kernel_rfl) (fun _ => by kernel_rfl) (fun _ => by kernel_rfl) (eqt_int (kk := .i64) (a := (0 : Int)) (b := (0 : Int)) Try.underlying39) (eqf_one (by kernel_rfl) (fun _ => by kernel_rfl) (fun _ => by kernel_rfl) (eqt_int (kk := .i64) (a := (0 : Int)) (b := (0 : Int)) Try.underlying3)))) rfl) rfl rfl rfl ?_; clear hf fa; intro fa hf
      refine sqv hf (r_move rfl) rfl rfl rfl ?_; clear hf fa; intro fa hf
      refine sqgT (act := ((decide ((0 : Int) = (0 : Int))) && (decide ((0 : Int) = (0 : Int))))) (ag := true) (c := ((decide ((0 : Int) = (0 : Int))) && (decide ((0 : Int) = (0 : Int))))) (v := (.agg #[(.string t.1), (.string t.2.1)])) hf rfl rfl rfl (fun hact => (r_loadA (cs := [(.string t.1), (.string t.2.1)]) rfl Try.underlying67 rfl (by kernel_rfl) (cellsAt_blk hk15))) rfl rfl ?_; clear hf fa; intro fa hf
      refine sqgT (act := ((decide ((0 : Int) = (0 : Int))) && (decide ((0 : Int) = (0 : Int))))) (ag := true) (c := ((decide ((0 : Int) = (0 : Int))) && (decide ((0 : Int) = (0 : Int))))) (v := (.agg #[(.string t.1), (.string t.2.1)])) hf rfl rfl rfl (fun hact => (r_loadA (cs := [(.string t.1), (.string t.2.1)]) rfl Try.underlying67 rfl (by kernel_rfl) (cellsAt_blk hk1))) rfl rfl ?_; clear hf fa; intro fa hf
      refine sqgT (act := ((decide ((0 : Int) = (0 : Int))) && (decide ((0 : Int) = (0 : Int))))) (ag := true) (c := ((decide ((0 : Int) = (0 : Int))) && (decide ((0 : Int) = (0 : Int))))) (v := (.bool ((decide (t.1 = t.1)) && (decide (t.2.1 = t.2.1))))) hf rfl rfl rfl (fun hact => (r_aeq (k := 5) (gb_ev hact rfl) (gb_ev hact rfl) (by kernel_rfl) (eqt_struct (xs := #[(.string t.1), (.string t.2.1)]) (ys := #[(.string t.1), (.string t.2.1)]) Try.underlying67 (by kernel_rfl) (eqf_cons (by kernel_rfl) (fun _ => by kernel_rfl) (fun _ => by kernel_rfl) (eqt_str (a := t.1) (b := t.1) Try.underlying9) (eqf_one (by kernel_rfl) (fun _ => by kernel_rfl) (fun _ => by kernel_rfl) (eqt_str (a := t.2.1) (b := t.2.1) Try.underlying9)))) rfl)) rfl rfl ?_; clear hf fa; intro fa hf
      refine sqv hf (r_pickA (b := ((decide ((0 : Int) = (0 : Int))) && (decide ((0 : Int) = (0 : Int))))) (e := ((decide (t.1 = t.1)) && (decide (t.2.1 = t.2.1)))) rfl rfl rfl) rfl rfl rfl ?_; clear hf fa; intro fa hf
      refine sqv hf (r_move rfl) rfl rfl rfl ?_; clear hf fa; intro fa hf
      refine sqgT (act := (((decide ((0 : Int) = (0 : Int))) && (decide ((0 : Int) = (0 : Int)))) && ((decide (t.1 = t.1)) && (decide (t.2.1 = t.2.1))))) (ag := true) (c := (((decide ((0 : Int) = (0 : Int))) && (decide ((0 : Int) = (0 : Int)))) && ((decide (t.1 = t.1)) && (decide (t.2.1 = t.2.1))))) (v := (.agg #[(.int .u32 m.1), (.int .u32 m.2.1), (.bool m.2.2.1)])) hf rfl rfl rfl (fun hact => (r_loadA (cs := [(.int .u32 m.1), (.int .u32 m.2.1), (.bool m.2.2.1)]) rfl Try.underlying43 rfl (by kernel_rfl) (cellsAt_blk hk16))) rfl rfl ?_; clear hf fa; intro fa hf
      refine sqgT (act := (((decide ((0 : Int) = (0 : Int))) && (decide ((0 : Int) = (0 : Int)))) && ((decide (t.1 = t.1)) && (decide (t.2.1 = t.2.1))))) (ag := true) (c := (((decide ((0 : Int) = (0 : Int))) && (decide ((0 : Int) = (0 : Int)))) && ((decide (t.1 = t.1)) && (decide (t.2.1 = t.2.1))))) (v := (.agg #[(.int .u32 m.1), (.int .u32 m.2.1), (.bool m.2.2.1)])) hf rfl rfl rfl (fun hact => (r_loadA (cs := [(.int .u32 m.1), (.int .u32 m.2.1), (.bool m.2.2.1)]) rfl Try.underlying43 rfl (by kernel_rfl) (cellsAt_blk hk2))) rfl rfl ?_; clear hf fa; intro fa hf
      refine sqgT (act := (((decide ((0 : Int) = (0 : Int))) && (decide ((0 : Int) = (0 : Int)))) && ((decide (t.1 = t.1)) && (decide (t.2.1 = t.2.1))))) (ag := true) (c := (((decide ((0 : Int) = (0 : Int))) && (decide ((0 : Int) = (0 : Int)))) && ((decide (t.1 = t.1)) && (decide (t.2.1 = t.2.1))))) (v := (.bool ((decide (m.1 = m.1)) && ((decide (m.2.1 = m.2.1)) && (m.2.2.1 == m.2.2.1))))) hf rfl rfl rfl (fun hact => (r_aeq (k := 5) (gb_ev hact rfl) (gb_ev hact rfl) (by kernel_rfl) (eqt_struct (xs := #[(.int .u32 m.1), (.int .u32 m.2.1), (.bool m.2.2.1)]) (ys := #[(.int .u32 m.1), (.int .u32 m.2.1), (.bool m.2.2.1)]) Try.underlying43 (by kernel_rfl) (eqf_cons (by kernel_rfl) (fun _ => by kernel_rfl) (fun _ => by kernel_rfl) (eqt_int (kk := .u32) (a := m.1) (b := m.1) Try.underlying24) (eqf_cons (by kernel_rfl) (fun _ => by kernel_rfl) (fun _ => by kernel_rfl) (eqt_int (kk := .u32) (a := m.2.1) (b := m.2.1) Try.underlying24) (eqf_one (by kernel_rfl) (fun _ => by kernel_rfl) (fun _ => by kernel_rfl) (eqt_bool (a := m.2.2.1) (b := m.2.2.1) Try.underlying4))))) rfl)) rfl rfl ?_; clear hf fa; intro fa hf
      refine sqv hf (r_pickA (b := (((decide ((0 : Int) = (0 : Int))) && (decide ((0 : Int) = (0 : Int)))) && ((decide (t.1 = t.1)) && (decide (t.2.1 = t.2.1))))) (e := ((decide (m.1 = m.1)) && ((decide (m.2.1 = m.2.1)) && (m.2.2.1 == m.2.2.1)))) rfl rfl rfl) rfl rfl rfl ?_; clear hf fa; intro fa hf
      refine sqv hf (r_move rfl) rfl rfl rfl ?_; clear hf fa; intro fa hf
      refine sqgT (act := ((((decide ((0 : Int) = (0 : Int))) && (decide ((0 : Int) = (0 : Int)))) && ((decide (t.1 = t.1)) && (decide (t.2.1 = t.2.1)))) && ((decide (m.1 = m.1)) && ((decide (m.2.1 = m.2.1)) && (m.2.2.1 == m.2.2.1))))) (ag := true) (c := ((((decide ((0 : Int) = (0 : Int))) && (decide ((0 : Int) = (0 : Int)))) && ((decide (t.1 = t.1)) && (decide (t.2.1 = t.2.1)))) && ((decide (m.1 = m.1)) && ((decide (m.2.1 = m.2.1)) && (m.2.2.1 == m.2.2.1))))) (v := (.agg #[(.int .u8 gt.1), (.bool gt.2.1)])) hf rfl rfl rfl (fun hact => (r_loadA (cs := [(.int .u8 gt.1), (.bool gt.2.1)]) rfl Try.underlying54 rfl (by kernel_rfl) (cellsAt_blk hk17))) rfl rfl ?_; clear hf fa; intro fa hf
      refine sqgT (act := ((((decide ((0 : Int) = (0 : Int))) && (decide ((0 : Int) = (0 : Int)))) && ((decide (t.1 = t.1)) && (decide (t.2.1 = t.2.1)))) && ((decide (m.1 = m.1)) && ((decide (m.2.1 = m.2.1)) && (m.2.2.1 == m.2.2.1))))) (ag := true) (c := ((((decide ((0 : Int) = (0 : Int))) && (decide ((0 : Int) = (0 : Int)))) && ((decide (t.1 = t.1)) && (decide (t.2.1 = t.2.1)))) && ((decide (m.1 = m.1)) && ((decide (m.2.1 = m.2.1)) && (m.2.2.1 == m.2.2.1))))) (v := (.agg #[(.int .u8 gt.1), (.bool gt.2.1)])) hf rfl rfl rfl (fun hact => (r_loadA (cs := [(.int .u8 gt.1), (.bool gt.2.1)]) rfl Try.underlying54 rfl (by kernel_rfl) (cellsAt_blk hk3))) rfl rfl ?_; clear hf fa; intro fa hf
      refine sqgT (act := ((((decide ((0 : Int) = (0 : Int))) && (decide ((0 : Int) = (0 : Int)))) && ((decide (t.1 = t.1)) && (decide (t.2.1 = t.2.1)))) && ((decide (m.1 = m.1)) && ((decide (m.2.1 = m.2.1)) && (m.2.2.1 == m.2.2.1))))) (ag := true) (c := ((((decide ((0 : Int) = (0 : Int))) && (decide ((0 : Int) = (0 : Int)))) && ((decide (t.1 = t.1)) && (decide (t.2.1 = t.2.1)))) && ((decide (m.1 = m.1)) && ((decide (m.2.1 = m.2.1)) && (m.2.2.1 == m.2.2.1))))) (v := (.bool ((decide (gt.1 = gt.1)) && (gt.2.1 == gt.2.1)))) hf rfl rfl rfl (fun hact => (r_aeq (k := 5) (gb_ev hact rfl) (gb_ev hact rfl) (by kernel_rfl) (eqt_struct (xs := #[(.int .u8 gt.1), (.bool gt.2.1)]) (ys := #[(.int .u8 gt.1), (.bool gt.2.1)]) Try.underlying54 (by kernel_rfl) (eqf_cons (by kernel_rfl) (fun _ => by kernel_rfl) (fun _ => by kernel_rfl) (eqt_int (kk := .u8) (a := gt.1) (b := gt.1) Try.underlying5) (eqf_one (by kernel_rfl) (fun _ => by kernel_rfl) (fun _ => by kernel_rfl) (eqt_bool (a := gt.2.1) (b := gt.2.1) Try.underlying4)))) rfl)) rfl rfl ?_; clear hf fa; intro fa hf
      refine sqv hf (r_pickA (b := ((((decide ((0 : Int) = (0 : Int))) && (decide ((0 : Int) = (0 : Int)))) && ((decide (t.1 = t.1)) && (decide (t.2.1 = t.2.1)))) && ((decide (m.1 = m.1)) && ((decide (m.2.1 = m.2.1)) && (m.2.2.1 == m.2.2.1))))) (e := ((decide (gt.1 = gt.1)) && (gt.2.1 == gt.2.1))) rfl rfl rfl) rfl rfl rfl ?_; clear hf fa; intro fa hf
      refine sqv hf (r_move rfl) rfl rfl rfl ?_; clear hf fa; intro fa hf
      refine sqgT (act := (((((decide ((0 : Int) = (0 : Int))) && (decide ((0 : Int) = (0 : Int)))) && ((decide (t.1 = t.1)) && (decide (t.2.1 = t.2.1)))) && ((decide (m.1 = m.1)) && ((decide (m.2.1 = m.2.1)) && (m.2.2.1 == m.2.2.1)))) && ((decide (gt.1 = gt.1)) && (gt.2.1 == gt.2.1)))) (ag := true) (c := (((((decide ((0 : Int) = (0 : Int))) && (decide ((0 : Int) = (0 : Int)))) && ((decide (t.1 = t.1)) && (decide (t.2.1 = t.2.1)))) && ((decide (m.1 = m.1)) && ((decide (m.2.1 = m.2.1)) && (m.2.2.1 == m.2.2.1)))) && ((decide (gt.1 = gt.1)) && (gt.2.1 == gt.2.1)))) (v := (.pointer (some ⟨sb1, 0, none⟩))) hf rfl rfl rfl (fun hact => (r_load (v := (.pointer (some ⟨sb1, 0, none⟩))) rfl Try.underlying87 rfl (cell_blk hk11 rfl))) rfl rfl ?_; clear hf fa; intro fa hf
      refine sqgd (R := fun vq wq => vq = gb (((((decide ((0 : Int) = (0 : Int))) && (decide ((0 : Int) = (0 : Int)))) && ((decide (t.1 = t.1)) && (decide (t.2.1 = t.2.1)))) && ((decide (m.1 = m.1)) && ((decide (m.2.1 = m.2.1)) && (m.2.2.1 == m.2.2.1)))) && ((decide (gt.1 = gt.1)) && (gt.2.1 == gt.2.1))) (.int .i64 (((((([(9 : Int)] ++ (nums (strOfNums B))) ++ [(7 : Int)])).length : Nat) : Int) - ((((0 + 1 + B.length)) : Nat) : Int))) ∧ Below w20.heap.size w20 wq) (act := (((((decide ((0 : Int) = (0 : Int))) && (decide ((0 : Int) = (0 : Int)))) && ((decide (t.1 = t.1)) && (decide (t.2.1 = t.2.1)))) && ((decide (m.1 = m.1)) && ((decide (m.2.1 = m.2.1)) && (m.2.2.1 == m.2.2.1)))) && ((decide (gt.1 = gt.1)) && (gt.2.1 == gt.2.1)))) (g := 18) (want := true) (ag := true) (c := (((((decide ((0 : Int) = (0 : Int))) && (decide ((0 : Int) = (0 : Int)))) && ((decide (t.1 = t.1)) && (decide (t.2.1 = t.2.1)))) && ((decide (m.1 = m.1)) && ((decide (m.2.1 = m.2.1)) && (m.2.2.1 == m.2.2.1)))) && ((decide (gt.1 = gt.1)) && (gt.2.1 == gt.2.1)))) hf (by rfl) (by rfl) (act_T _ _) (fun hact => (d_callB (vs := [(.pointer (some ⟨sb1, 0, none⟩))]) (cons_ev (gb_ev hact rfl) rfl) Try.func67 (by kernel_rfl) (by kernel_rfl) (left_any sb1 w.heap.size ((0 + 1 + B.length)) sa1 sc1 (([(9 : Int)] ++ (nums (strOfNums B))) ++ [(7 : Int)]) _ hk18 hr4 (by omega))).mono (fun _ _ h => ⟨by rw [h.1, hact]; rfl, h.2⟩)) (fun h => ⟨by rw [h]; rfl, Below.refl _ _⟩) rfl ?_; clear hf fa; rintro fa _ w21 ⟨rfl, he15⟩ hf
      replace hk1 := blk_ext hk1 he15
      replace hk2 := blk_ext hk2 he15
      replace hk3 := blk_ext hk3 he15
      replace hk4 := blk_ext hk4 he15
      replace hk6 := blk_ext hk6 he15
      replace hk18 := blk_ext hk18 he15
      replace hk11 := blk_ext hk11 he15
      replace hk15 := blk_ext hk15 he15
      replace hk16 := blk_ext hk16 he15
      replace hk17 := blk_ext hk17 he15
      replace hk20 := blk_ext hk20 he15
      replace hr3 := Row.ext hr3 he15
      replace hr4 := Row.ext hr4 he15
      replace hb := hb.trans (Below.mono he15 hb.size)
      change Fr _ _ ((78, (gb (((((decide ((0 : Int) = (0 : Int))) && (decide ((0 : Int) = (0 : Int)))) && ((decide (t.1 = t.1)) && (decide (t.2.1 = t.2.1)))) && ((decide (m.1 = m.1)) && ((decide (m.2.1 = m.2.1)) && (m.2.2.1 == m.2.2.1)))) && ((decide (gt.1 = gt.1)) && (gt.2.1 == gt.2.1))) (.int .i64 (((((([(9 : Int)] ++ (nums (strOfNums B))) ++ [(7 : Int)])).length : Nat) : Int) - ((((0 + 1 + B.length)) : Nat) : Int))))) :: _) at hf
      refine sqgT (act := (((((decide ((0 : Int) = (0 : Int))) && (decide ((0 : Int) = (0 : Int)))) && ((decide (t.1 = t.1)) && (decide (t.2.1 = t.2.1)))) && ((decide (m.1 = m.1)) && ((decide (m.2.1 = m.2.1)) && (m.2.2.1 == m.2.2.1)))) && ((decide (gt.1 = gt.1)) && (gt.2.1 == gt.2.1)))) (ag := true) (c := (((((decide ((0 : Int) = (0 : Int))) && (decide ((0 : Int) = (0 : Int)))) && ((decide (t.1 = t.1)) && (decide (t.2.1 = t.2.1)))) && ((decide (m.1 = m.1)) && ((decide (m.2.1 = m.2.1)) && (m.2.2.1 == m.2.2.1)))) && ((decide (gt.1 = gt.1)) && (gt.2.1 == gt.2.1)))) (v := (.bool (decide ((((((([(9 : Int)] ++ (nums (strOfNums B))) ++ [(7 : Int)])).length : Nat) : Int) - ((((0 + 1 + B.length)) : Nat) : Int)) = (1 : Int))))) hf rfl rfl rfl (fun hact => (r_eq (gb_ev hact rfl) rfl)) rfl rfl ?_; clear hf fa; intro fa hf
      refine sqv hf (r_pickA (b := (((((decide ((0 : Int) = (0 : Int))) && (decide ((0 : Int) = (0 : Int)))) && ((decide (t.1 = t.1)) && (decide (t.2.1 = t.2.1)))) && ((decide (m.1 = m.1)) && ((decide (m.2.1 = m.2.1)) && (m.2.2.1 == m.2.2.1)))) && ((decide (gt.1 = gt.1)) && (gt.2.1 == gt.2.1)))) (e := (decide ((((((([(9 : Int)] ++ (nums (strOfNums B))) ++ [(7 : Int)])).length : Nat) : Int) - ((((0 + 1 + B.length)) : Nat) : Int)) = (1 : Int)))) rfl rfl rfl) rfl rfl rfl ?_; clear hf fa; intro fa hf
      refine sqv hf (r_assign rfl) rfl rfl rfl ?_; clear hf fa; intro fa hf
      apply wpList_nil
      (try simp only [Exit.then, Exit.inBlock, ↓reduceIte, Nat.reduceEqDiff])
      refine hK13 _ _ ?_
      refine wp_ret ?_
      (try simp only [Exit.then, Exit.inBlock])
      refine ret1 hf rfl rfl ?_
      refine ⟨?_, hb⟩
      rw [hL2]
      simp
      omega
end Go.Proofs.Ytcmdajkkdognfaa
