/- What is proved here: which globals a module has and takes. -/
import Derived.Test.YtahgkfekggkjnaaBnC
namespace Go.Proofs.Ytahgkfekggkjnaa
open Go.RowKit
set_option linter.unusedVariables false
set_option linter.unusedSimpArgs false
def gtT (l : List MImp) : List MGt := (l.filter fun x => decide (x.2.2.1 = 3)).map fun x => x.2.2.2.2.2.1
def ownT (l : List MGl) : List MGt := l.map fun x => x.1
def gtypesP (m : MMd) : List MGt := gtT m.2.1.list ++ ownT m.2.2.2.2.2.1.list
@[simp] theorem gtT_nil : gtT [] = [] := rfl
@[simp] theorem ownT_nil : ownT [] = [] := rfl
theorem gt_yes {l : List MImp} {k : Nat} {y : MImp} (hy : l[k]? = some y) (h : y.2.2.1 = 3) : gtT (l.take k) ++ [y.2.2.2.2.2.1] = gtT (l.take (k + 1)) := by
  unfold gtT
  rw [List.take_add_one, hy, List.filter_append, List.map_append]
  simp [h]
theorem gt_no {l : List MImp} {k : Nat} {y : MImp} (hy : l[k]? = some y) (h : ¬ y.2.2.1 = 3) : gtT (l.take k) = gtT (l.take (k + 1)) := by
  unfold gtT
  rw [List.take_add_one, hy, List.filter_append]
  simp [h]
theorem gt_len (l : List MImp) (k : Nat) : (gtT (l.take k)).length ≤ k := by
  unfold gtT
  rw [List.length_map]
  have := List.length_filter_le (fun (x : MImp) => decide (x.2.2.1 = 3)) (l.take k)
  rw [List.length_take] at this
  omega
theorem own_snoc {G : List MGt} {l : List MGl} {q : Nat} {y : MGl} (hy : l[q]? = some y) : (G ++ ownT (l.take q)) ++ [y.1] = G ++ ownT (l.take (q + 1)) := by
  unfold ownT
  rw [List.take_add_one, hy, List.map_append, List.append_assoc]; rfl
theorem own_len (l : List MGl) (k : Nat) : (ownT (l.take k)).length ≤ k := by
  unfold ownT
  rw [List.length_map, List.length_take]; omega
theorem gtypes_len (m : MMd) : (gtypesP m).length = (gtT m.2.1.list).length + m.2.2.2.2.2.1.len := by
  unfold gtypesP ownT; rw [List.length_append, List.length_map, Sl.list_length]

set_option maxHeartbeats 1000000 in
set_option maxRecDepth 100000 in
theorem gtypes_any (m : MMd) (w : World) (g : fMMd w m) (hs : smallP m) : Calls Try.prog 74 #[(.agg #[(.slice m.1.at' m.1.len m.1.cap), (.slice m.2.1.at' m.2.1.len m.2.1.cap), (.slice m.2.2.1.at' m.2.2.1.len m.2.2.1.cap), (.slice m.2.2.2.1.at' m.2.2.2.1.len m.2.2.2.1.cap), (.slice m.2.2.2.2.1.at' m.2.2.2.2.1.len m.2.2.2.2.1.cap), (.slice m.2.2.2.2.2.1.at' m.2.2.2.2.2.1.len m.2.2.2.2.2.1.cap), (.slice m.2.2.2.2.2.2.1.at' m.2.2.2.2.2.2.1.len m.2.2.2.2.2.2.1.cap), (.int .i64 m.2.2.2.2.2.2.2.1), (.slice m.2.2.2.2.2.2.2.2.1.at' m.2.2.2.2.2.2.2.2.1.len m.2.2.2.2.2.2.2.2.1.cap), (.slice m.2.2.2.2.2.2.2.2.2.1.at' m.2.2.2.2.2.2.2.2.2.1.len m.2.2.2.2.2.2.2.2.2.1.cap), (.slice m.2.2.2.2.2.2.2.2.2.2.1.at' m.2.2.2.2.2.2.2.2.2.2.1.len m.2.2.2.2.2.2.2.2.2.2.1.cap), (.bool m.2.2.2.2.2.2.2.2.2.2.2.1.1), (.int .u32 m.2.2.2.2.2.2.2.2.2.2.2.1.2.1), (.int .u32 m.2.2.2.2.2.2.2.2.2.2.2.1.2.2.1), (.int .u32 m.2.2.2.2.2.2.2.2.2.2.2.1.2.2.2.1), (.int .u32 m.2.2.2.2.2.2.2.2.2.2.2.1.2.2.2.2.1), (.slice m.2.2.2.2.2.2.2.2.2.2.2.1.2.2.2.2.2.1.at' m.2.2.2.2.2.2.2.2.2.2.2.1.2.2.2.2.2.1.len m.2.2.2.2.2.2.2.2.2.2.2.1.2.2.2.2.2.1.cap)])] w fun e w' => ∃ v, e = .returned v ∧ Row 2 vMGt 101 w.heap.size w' v (gtypesP m) ∧ Below w.heap.size w w' := by
  have hz_m0 := g.2.1.1; have hl_m0 := g.2.1.2.1; have hm_m0 := g.2.1.2.2.1; have hn_m0 := g.2.1.2.2.2.1; (try unfold maxLen at hm_m0)
  have hz_m1 := g.2.2.2.2.2.1.1; have hl_m1 := g.2.2.2.2.2.1.2.1; have hm_m1 := g.2.2.2.2.2.1.2.2.1; have hn_m1 := g.2.2.2.2.2.1.2.2.2.1; (try unfold maxLen at hm_m1)
  unfold smallP at hs
  refine sx_enter (L := [(0, (.agg #[(.slice m.1.at' m.1.len m.1.cap), (.slice m.2.1.at' m.2.1.len m.2.1.cap), (.slice m.2.2.1.at' m.2.2.1.len m.2.2.1.cap), (.slice m.2.2.2.1.at' m.2.2.2.1.len m.2.2.2.1.cap), (.slice m.2.2.2.2.1.at' m.2.2.2.2.1.len m.2.2.2.2.1.cap), (.slice m.2.2.2.2.2.1.at' m.2.2.2.2.2.1.len m.2.2.2.2.2.1.cap), (.slice m.2.2.2.2.2.2.1.at' m.2.2.2.2.2.2.1.len m.2.2.2.2.2.2.1.cap), (.int .i64 m.2.2.2.2.2.2.2.1), (.slice m.2.2.2.2.2.2.2.2.1.at' m.2.2.2.2.2.2.2.2.1.len m.2.2.2.2.2.2.2.2.1.cap), (.slice m.2.2.2.2.2.2.2.2.2.1.at' m.2.2.2.2.2.2.2.2.2.1.len m.2.2.2.2.2.2.2.2.2.1.cap), (.slice m.2.2.2.2.2.2.2.2.2.2.1.at' m.2.2.2.2.2.2.2.2.2.2.1.len m.2.2.2.2.2.2.2.2.2.2.1.cap), (.bool m.2.2.2.2.2.2.2.2.2.2.2.1.1), (.int .u32 m.2.2.2.2.2.2.2.2.2.2.2.1.2.1), (.int .u32 m.2.2.2.2.2.2.2.2.2.2.2.1.2.2.1), (.int .u32 m.2.2.2.2.2.2.2.2.2.2.2.1.2.2.2.1), (.int .u32 m.2.2.2.2.2.2.2.2.2.2.2.1.2.2.2.2.1), (.slice m.2.2.2.2.2.2.2.2.2.2.2.1.2.2.2.2.2.1.at' m.2.2.2.2.2.2.2.2.2.2.2.1.2.2.2.2.2.1.len m.2.2.2.2.2.2.2.2.2.2.2.1.2.2.2.2.2.1.cap)]))]) Try.func74 rfl rfl rfl rfl (fun fa hf => ?_)
  have hb : Below w.heap.size w w := Below.refl _ _
  refine wp_seq_k (fun K1 hK1 => ?_)
  refine wp_region_lit ?_
  refine sqdt hf (d_box (cs := #[(.slice m.1.at' m.1.len m.1.cap), (.slice m.2.1.at' m.2.1.len m.2.1.cap), (.slice m.2.2.1.at' m.2.2.1.len m.2.2.1.cap), (.slice m.2.2.2.1.at' m.2.2.2.1.len m.2.2.2.1.cap), (.slice m.2.2.2.2.1.at' m.2.2.2.2.1.len m.2.2.2.2.1.cap), (.slice m.2.2.2.2.2.1.at' m.2.2.2.2.2.1.len m.2.2.2.2.2.1.cap), (.slice m.2.2.2.2.2.2.1.at' m.2.2.2.2.2.2.1.len m.2.2.2.2.2.2.1.cap), (.int .i64 m.2.2.2.2.2.2.2.1), (.slice m.2.2.2.2.2.2.2.2.1.at' m.2.2.2.2.2.2.2.2.1.len m.2.2.2.2.2.2.2.2.1.cap), (.slice m.2.2.2.2.2.2.2.2.2.1.at' m.2.2.2.2.2.2.2.2.2.1.len m.2.2.2.2.2.2.2.2.2.1.cap), (.slice m.2.2.2.2.2.2.2.2.2.2.1.at' m.2.2.2.2.2.2.2.2.2.2.1.len m.2.2.2.2.2.2.2.2.2.2.1.cap), (.bool m.2.2.2.2.2.2.2.2.2.2.2.1.1), (.int .u32 m.2.2.2.2.2.2.2.2.2.2.2.1.2.1), (.int .u32 m.2.2.2.2.2.2.2.2.2.2.2.1.2.2.1), (.int .u32 m.2.2.2.2.2.2.2.2.2.2.2.1.2.2.2.1), (.int .u32 m.2.2.2.2.2.2.2.2.2.2.2.1.2.2.2.2.1), (.slice m.2.2.2.2.2.2.2.2.2.2.2.1.2.2.2.2.2.1.at' m.2.2.2.2.2.2.2.2.2.2.2.1.2.2.2.2.2.1.len m.2.2.2.2.2.2.2.2.2.2.2.1.2.2.2.2.2.1.cap)]) rfl rfl) rfl rfl rfl ?_; clear hf fa; rintro fa _ w1 ⟨b1, rfl, hle1, hk1, he1⟩ hf
  have hBb1 : w.heap.size ≤ b1 := Nat.le_trans hb.size hle1
  replace hb := hb.trans (Below.mono he1 hb.size)
  refine sqv hf (r_assign rfl) rfl rfl rfl ?_; clear hf fa; intro fa hf
  apply wpList_nil
  (try simp only [Exit.then, Exit.inBlock, ↓reduceIte, Nat.reduceEqDiff])
  refine hK1 _ _ ?_
  refine wp_seq_k (fun K2 hK2 => ?_)
  refine wp_region_lit ?_
  refine sqv hf (r_assign rfl) rfl rfl rfl ?_; clear hf fa; intro fa hf
  apply wpList_nil
  (try simp only [Exit.then, Exit.inBlock, ↓reduceIte, Nat.reduceEqDiff])
  refine hK2 _ _ ?_
  refine wp_seq_k (fun K3 hK3 => ?_)
  refine wp_seq_k (fun K4 hK4 => ?_)
  refine wp_region_lit ?_
  refine sqv hf (r_fa rfl Try.underlying67 (f := 1) (q := 1) rfl (by kernel_rfl) rfl) rfl rfl rfl ?_; clear hf fa; intro fa hf
  refine sqv hf (r_load (v := (.slice m.2.1.at' m.2.1.len m.2.1.cap)) rfl Try.underlying57 rfl (cell_blk hk1 rfl)) rfl rfl rfl ?_; clear hf fa; intro fa hf
  refine sqv hf (r_lensl rfl Try.underlying57) rfl rfl rfl ?_; clear hf fa; intro fa hf
  refine sqv hf (r_move rfl) rfl rfl rfl ?_; clear hf fa; intro fa hf
  apply wpList_nil
  (try simp only [Exit.then, Exit.inBlock, ↓reduceIte, Nat.reduceEqDiff])
  refine hK4 _ _ ?_
  refine wp_block ?_
  refine wp_loop_k (fun mq fa wr => ∃ (k : Nat) (roa : Option Addr) (roc : Nat), mq = m.2.1.len - k ∧ Fr 38 fa [(1, (.pointer (some ⟨b1, 0, none⟩))), (9, (.slice m.2.1.at' m.2.1.len m.2.1.cap)), (10, (.int .i64 ((m.2.1.len : Nat) : Int))), (11, (.int .i64 ((k : Nat) : Int))), (3, (.slice roa (((gtT (m.2.1.list.take k))).length) roc))] ∧ Below w.heap.size w wr ∧ Row 2 vMGt 101 (w.heap.size) wr (.slice roa (((gtT (m.2.1.list.take k))).length) roc) (gtT (m.2.1.list.take k)) ∧ wr.heap[b1]? = some (.cells #[(.slice m.1.at' m.1.len m.1.cap), (.slice m.2.1.at' m.2.1.len m.2.1.cap), (.slice m.2.2.1.at' m.2.2.1.len m.2.2.1.cap), (.slice m.2.2.2.1.at' m.2.2.2.1.len m.2.2.2.1.cap), (.slice m.2.2.2.2.1.at' m.2.2.2.2.1.len m.2.2.2.2.1.cap), (.slice m.2.2.2.2.2.1.at' m.2.2.2.2.2.1.len m.2.2.2.2.2.1.cap), (.slice m.2.2.2.2.2.2.1.at' m.2.2.2.2.2.2.1.len m.2.2.2.2.2.2.1.cap), (.int .i64 m.2.2.2.2.2.2.2.1), (.slice m.2.2.2.2.2.2.2.2.1.at' m.2.2.2.2.2.2.2.2.1.len m.2.2.2.2.2.2.2.2.1.cap), (.slice m.2.2.2.2.2.2.2.2.2.1.at' m.2.2.2.2.2.2.2.2.2.1.len m.2.2.2.2.2.2.2.2.2.1.cap), (.slice m.2.2.2.2.2.2.2.2.2.2.1.at' m.2.2.2.2.2.2.2.2.2.2.1.len m.2.2.2.2.2.2.2.2.2.2.1.cap), (.bool m.2.2.2.2.2.2.2.2.2.2.2.1.1), (.int .u32 m.2.2.2.2.2.2.2.2.2.2.2.1.2.1), (.int .u32 m.2.2.2.2.2.2.2.2.2.2.2.1.2.2.1), (.int .u32 m.2.2.2.2.2.2.2.2.2.2.2.1.2.2.2.1), (.int .u32 m.2.2.2.2.2.2.2.2.2.2.2.1.2.2.2.2.1), (.slice m.2.2.2.2.2.2.2.2.2.2.2.1.2.2.2.2.2.1.at' m.2.2.2.2.2.2.2.2.2.2.2.1.2.2.2.2.2.1.len m.2.2.2.2.2.2.2.2.2.2.2.1.2.2.2.2.2.1.cap)] 67 (0, 0)) ∧ (k ≤ m.2.1.len)) ?_ ?_
  · skip
    exact ⟨_, 0, none, 0, rfl, hf.sub ⟨rfl, rfl, rfl, (some_int (by first | rfl | omega)), (some_sl (by first | omega | (simp only [List.length_append, List.length_cons, List.length_nil]; omega) | (simp <;> omega)) rfl), trivial⟩, hb, Row.nil, hk1, by omega⟩
  · skip
    clear hf fa; intro mq1 fa w2 hI KL1 hKL1
    clear hb
    clear hk1
    obtain ⟨k, roa, roc, hmq1, hf, hb, hro, hkb1, hk⟩ := hI
    have hcro := Row.caps hro
    have hbl := gt_len m.2.1.list k
    refine wp_seq_k (fun K5 hK5 => ?_)
    refine wp_region_lit ?_
    refine sqv hf (r_lt rfl rfl) rfl rfl rfl ?_; clear hf fa; intro fa hf
    apply wpList_nil
    (try simp only [Exit.then, Exit.inBlock, ↓reduceIte, Nat.reduceEqDiff])
    refine hK5 _ _ ?_
    refine wp_seq_k (fun K6 hK6 => ?_)
    refine wp_cond_split (t := (decide (((k : Nat) : Int) < ((m.2.1.len : Nat) : Int)))) (hf.ev rfl) (fun hqt12_1 => ?_) (fun hqt12_1 => ?_)
    · have hqt12_1b := hqt12_1
      try simp only [decide_eq_true_eq, Bool.and_eq_true, Bool.or_eq_true, Bool.not_eq_true', decide_eq_false_iff_not, ne_eq, Bool.not_eq_true] at hqt12_1
      refine wp_skip ?_
      (try simp only [Exit.then, Exit.inBlock, ↓reduceIte, Nat.reduceEqDiff])
      refine hK6 _ _ ?_
      refine wp_seq_k (fun K7 hK7 => ?_)
      refine wp_block ?_
      refine wp_seq_k (fun K8 hK8 => ?_)
      refine wp_region_lit ?_
      obtain ⟨y1, hy1⟩ : ∃ x, (m.2.1.list)[k]? = some x := ⟨_, List.getElem?_eq_getElem (by (try simp only [Sl.list_length]); omega)⟩
      obtain ⟨ab1, aoff1, hat1, hlb1, hel1⟩ := RdS.at (RdS.of_arg g.2.1.2) hy1
      refine sqv hf (r_ixa (sz := 9) (j := k) (evAt rfl hat1) rfl Try.underlying57 (by kernel_rfl) rfl (by omega) rfl) rfl rfl rfl ?_; clear hf fa; intro fa hf
      refine sqv hf (r_loadA (cs := [(.string y1.1), (.string y1.2.1), (.int .u8 y1.2.2.1), (.int .u32 y1.2.2.2.1), (.int .u32 y1.2.2.2.2.1.1), (.int .u32 y1.2.2.2.2.1.2.1), (.bool y1.2.2.2.2.1.2.2.1), (.int .u8 y1.2.2.2.2.2.1.1), (.bool y1.2.2.2.2.2.1.2.1)]) rfl Try.underlying103 rfl (by kernel_rfl) (cellsAt_below hel1 hb hlb1)) rfl rfl rfl ?_; clear hf fa; intro fa hf
      refine sqdt hf (d_alloc (z := (.agg #[(.string ⟨#[]⟩), (.string ⟨#[]⟩), (.int .u8 (0 : Int)), (.int .u32 (0 : Int)), (.int .u32 (0 : Int)), (.int .u32 (0 : Int)), (.bool false), (.int .u8 (0 : Int)), (.bool false)])) (cs := #[(.string ⟨#[]⟩), (.string ⟨#[]⟩), (.int .u8 (0 : Int)), (.int .u32 (0 : Int)), (.int .u32 (0 : Int)), (.int .u32 (0 : Int)), (.bool false), (.int .u8 (0 : Int)), (.bool false)]) (by kernel_rfl) rfl) rfl rfl rfl ?_; clear hf fa; rintro fa _ w3 ⟨b2, rfl, hle2, hk2, he2⟩ hf
      have hBb2 : w.heap.size ≤ b2 := Nat.le_trans hb.size hle2
      have : b1 < b2 := Nat.lt_of_lt_of_le (blk_lt hkb1) hle2
      replace hkb1 := blk_ext hkb1 he2
      replace hro := Row.ext hro he2
      replace hb := hb.trans (Below.mono he2 hb.size)
      refine sqn hf (d_storeK (T := 103) (v := (.agg #[(.string y1.1), (.string y1.2.1), (.int .u8 y1.2.2.1), (.int .u32 y1.2.2.2.1), (.int .u32 y1.2.2.2.2.1.1), (.int .u32 y1.2.2.2.2.1.2.1), (.bool y1.2.2.2.2.1.2.2.1), (.int .u8 y1.2.2.2.2.2.1.1), (.bool y1.2.2.2.2.2.1.2.1)])) (cs := #[(.string ⟨#[]⟩), (.string ⟨#[]⟩), (.int .u8 (0 : Int)), (.int .u32 (0 : Int)), (.int .u32 (0 : Int)), (.int .u32 (0 : Int)), (.bool false), (.int .u8 (0 : Int)), (.bool false)]) (cs' := #[(.string y1.1), (.string y1.2.1), (.int .u8 y1.2.2.1), (.int .u32 y1.2.2.2.1), (.int .u32 y1.2.2.2.2.1.1), (.int .u32 y1.2.2.2.2.1.2.1), (.bool y1.2.2.2.2.1.2.2.1), (.int .u8 y1.2.2.2.2.2.1.1), (.bool y1.2.2.2.2.2.1.2.1)]) rfl rfl (by kernel_rfl) (by kernel_rfl) hk2 (by kernel_rfl) (by kernel_rfl)) rfl rfl ?_; clear hf fa; rintro fa _ w4 ⟨hk3, hg1⟩ hf
      replace hkb1 := blk_grown hkb1 hg1 (by omega)
      replace hro := Row.grown hro hg1 (Row.ne_type hro hk2 rfl)
      replace hb := hb.trans (grown_below hg1 hb.size hBb2)
      apply wpList_nil
      (try simp only [Exit.then, Exit.inBlock, ↓reduceIte, Nat.reduceEqDiff])
      refine hK8 _ _ ?_
      refine wp_seq_k (fun K9 hK9 => ?_)
      refine wp_region_lit ?_
      refine sqv hf (r_fa rfl Try.underlying103 (f := 2) (q := 2) rfl (by kernel_rfl) rfl) rfl rfl rfl ?_; clear hf fa; intro fa hf
      refine sqv hf (r_load (v := (.int .u8 y1.2.2.1)) rfl Try.underlying5 rfl (cell_blk hk3 rfl)) rfl rfl rfl ?_; clear hf fa; intro fa hf
      refine sqv hf (r_eq rfl rfl) rfl rfl rfl ?_; clear hf fa; intro fa hf
      apply wpList_nil
      (try simp only [Exit.then, Exit.inBlock, ↓reduceIte, Nat.reduceEqDiff])
      refine hK9 _ _ ?_
      refine wp_cond_split (t := (decide (y1.2.2.1 = (3 : Int)))) (hf.ev rfl) (fun hqt17_1 => ?_) (fun hqt17_1 => ?_)
      · have hqt17_1b := hqt17_1
        try simp only [decide_eq_true_eq, Bool.and_eq_true, Bool.or_eq_true, Bool.not_eq_true', decide_eq_false_iff_not, ne_eq, Bool.not_eq_true] at hqt17_1
        refine wp_region_lit ?_
        refine sqv hf (r_move rfl) rfl rfl rfl ?_; clear hf fa; intro fa hf
        refine sqv hf (r_fa rfl Try.underlying103 (f := 5) (q := 7) rfl (by kernel_rfl) rfl) rfl rfl rfl ?_; clear hf fa; intro fa hf
        refine sqv hf (r_loadA (cs := [(.int .u8 y1.2.2.2.2.2.1.1), (.bool y1.2.2.2.2.2.1.2.1)]) rfl Try.underlying101 rfl (by kernel_rfl) (cellsAt_part (d := 7) (n := 2) (cellsAt_blk hk3) rfl rfl)) rfl rfl rfl ?_; clear hf fa; intro fa hf
        refine sqdt hf (d_bslice (z := (.agg #[(.int .u8 (0 : Int)), (.bool false)])) (sz := 2) (vs := [(0, (.agg #[(.int .u8 y1.2.2.2.2.2.1.1), (.bool y1.2.2.2.2.2.1.2.1)]))]) (cs := #[(.int .u8 y1.2.2.2.2.2.1.1), (.bool y1.2.2.2.2.2.1.2.1)]) rfl Try.underlying153 (by kernel_rfl) rfl (by kernel_rfl)) rfl rfl rfl ?_; clear hf fa; rintro fa _ w5 ⟨b3, rfl, hle3, hk4, he3⟩ hf
        have hBb3 : w.heap.size ≤ b3 := Nat.le_trans hb.size hle3
        have : b1 < b3 := Nat.lt_of_lt_of_le (blk_lt hkb1) hle3
        have : b2 < b3 := Nat.lt_of_lt_of_le (blk_lt hk3) hle3
        have hnr1 : (Value.slice roa ((((gtT (m.2.1.list.take k))).length)) roc).ownBlock ≠ some b3 := fun hq => by have := (Row.lt hro _ hq).2; omega
        replace hkb1 := blk_ext hkb1 he3
        replace hk3 := blk_ext hk3 he3
        replace hro := Row.ext hro he3
        replace hb := hb.trans (Below.mono he3 hb.size)
        have hs1 := Row.rd (by intros; rfl) (Row.of_new (k := 2) (V := vMGt) (l := [y1.2.2.2.2.2.1]) hk4 (Nat.le_refl _) rfl rfl (Nat.le_of_ble_eq_true rfl))
        refine sqdt hf (d_append (V := vMGt) (k := 2) (e := 101) (bytes := 2) (z := (.agg #[(.int .u8 (0 : Int)), (.bool false)])) (news := [y1.2.2.2.2.2.1]) (base := w.heap.size) (by intros; rfl) (by exact oneMGt) rfl rfl Try.underlying153 (by kernel_rfl) rfl rfl rfl hro hs1 rfl (fun h => by cases h) (by first | omega | (simp only [List.length_cons, List.length_nil, List.length_append]; omega)) (by have := hb.size; omega)) rfl rfl rfl ?_; clear hf fa; rintro fa v w6 ⟨hr1, hg2⟩ hf; obtain ⟨ra1, rc1, rfl, hcrc1, hmrc1⟩ := Row.slice hr1
        replace hkb1 := blk_row' hkb1 hg2 (Row.ne_type hro hkb1 rfl)
        replace hk3 := blk_row' hk3 hg2 (Row.ne_type hro hk3 rfl)
        replace hb := hb.trans (row_below hro hg2 hb.size (by have := hb.size; omega))
        refine sqv hf (r_assign rfl) rfl rfl rfl ?_; clear hf fa; intro fa hf
        apply wpList_nil
        (try simp only [Exit.then, Exit.inBlock, ↓reduceIte, Nat.reduceEqDiff])
        refine hK7 _ _ ?_
        refine wp_region_lit ?_
        refine sqv hf (r_add (C := (((k : Nat) : Int) + (1 : Int))) rfl rfl (by rw [IntKind.wrap_i64]; omega)) rfl rfl rfl ?_; clear hf fa; intro fa hf
        refine sqv hf (r_move rfl) rfl rfl rfl ?_; clear hf fa; intro fa hf
        apply wpList_nil
        (try simp only [Exit.then, Exit.inBlock, ↓reduceIte, Nat.reduceEqDiff])
        have hle := congrArg List.length (gt_yes hy1 hqt17_1)
        simp only [List.length_append, List.length_cons, List.length_nil] at hle
        refine hKL1 _ _ _ (by omega) ⟨(k + 1), ra1, rc1, rfl, hf.sub ⟨rfl, rfl, rfl, (some_int (by first | rfl | omega)), (some_sl (by first | omega | (simp only [List.length_append, List.length_cons, List.length_nil]; omega) | (simp <;> omega)) rfl), trivial⟩, hb, (rowToL hr1 (gt_yes hy1 hqt17_1)), hkb1, by omega⟩
      · have hqt17_1b := hqt17_1
        replace hqt17_1 := Bool.eq_false_iff.1 hqt17_1
        try simp only [ne_eq, decide_eq_true_eq, Bool.and_eq_true, Bool.or_eq_true, Bool.not_eq_true', decide_eq_false_iff_not] at hqt17_1
        refine wp_skip ?_
        (try simp only [Exit.then, Exit.inBlock, ↓reduceIte, Nat.reduceEqDiff])
        refine hK7 _ _ ?_
        refine wp_region_lit ?_
        refine sqv hf (r_add (C := (((k : Nat) : Int) + (1 : Int))) rfl rfl (by rw [IntKind.wrap_i64]; omega)) rfl rfl rfl ?_; clear hf fa; intro fa hf
        refine sqv hf (r_move rfl) rfl rfl rfl ?_; clear hf fa; intro fa hf
        apply wpList_nil
        (try simp only [Exit.then, Exit.inBlock, ↓reduceIte, Nat.reduceEqDiff])
        have hle := congrArg List.length (gt_no hy1 hqt17_1)
        refine hKL1 _ _ _ (by omega) ⟨(k + 1), roa, roc, rfl, hf.sub ⟨rfl, rfl, rfl, (some_int (by first | rfl | omega)), (some_sl (by first | omega | (simp only [List.length_append, List.length_cons, List.length_nil]; omega) | (simp <;> omega)) rfl), trivial⟩, hb, (rowToL hro (gt_no hy1 hqt17_1)), hkb1, by omega⟩
    · have hqt12_1b := hqt12_1
      replace hqt12_1 := Bool.eq_false_iff.1 hqt12_1
      try simp only [ne_eq, decide_eq_true_eq, Bool.and_eq_true, Bool.or_eq_true, Bool.not_eq_true', decide_eq_false_iff_not] at hqt12_1
      refine wp_exit ?_
      (try simp only [Exit.then, Exit.inBlock, ↓reduceIte, Nat.reduceEqDiff])
      refine hK3 _ _ ?_
      refine wp_seq_k (fun K10 hK10 => ?_)
      refine wp_seq_k (fun K11 hK11 => ?_)
      have hte : gtT (m.2.1.list.take k) = (gtT m.2.1.list ++ ownT (m.2.2.2.2.2.1.list.take 0)) := by rw [show k = m.2.1.len by omega, take_list]; simp
      rw [hte] at hf hro hcro
      have h00 : ((gtT m.2.1.list ++ ownT (m.2.2.2.2.2.1.list.take 0))).length = (gtT m.2.1.list).length := by simp
      have hgl := gt_len m.2.1.list m.2.1.len
      rw [take_list] at hgl
      refine wp_region_lit ?_
      refine sqv hf (r_fa rfl Try.underlying67 (f := 5) (q := 5) rfl (by kernel_rfl) rfl) rfl rfl rfl ?_; clear hf fa; intro fa hf
      refine sqv hf (r_load (v := (.slice m.2.2.2.2.2.1.at' m.2.2.2.2.2.1.len m.2.2.2.2.2.1.cap)) rfl Try.underlying59 rfl (cell_blk hkb1 rfl)) rfl rfl rfl ?_; clear hf fa; intro fa hf
      refine sqv hf (r_lensl rfl Try.underlying59) rfl rfl rfl ?_; clear hf fa; intro fa hf
      refine sqv hf (r_move rfl) rfl rfl rfl ?_; clear hf fa; intro fa hf
      apply wpList_nil
      (try simp only [Exit.then, Exit.inBlock, ↓reduceIte, Nat.reduceEqDiff])
      refine hK11 _ _ ?_
      refine wp_block ?_
      refine wp_loop_k (fun mq fa wr => ∃ (q : Nat) (rpa : Option Addr) (rpc : Nat), mq = m.2.2.2.2.2.1.len - q ∧ Fr 38 fa [(1, (.pointer (some ⟨b1, 0, none⟩))), (25, (.slice m.2.2.2.2.2.1.at' m.2.2.2.2.2.1.len m.2.2.2.2.2.1.cap)), (26, (.int .i64 ((m.2.2.2.2.2.1.len : Nat) : Int))), (27, (.int .i64 ((q : Nat) : Int))), (3, (.slice rpa (((gtT m.2.1.list ++ ownT (m.2.2.2.2.2.1.list.take q))).length) rpc))] ∧ Below w.heap.size w wr ∧ Row 2 vMGt 101 (w.heap.size) wr (.slice rpa (((gtT m.2.1.list ++ ownT (m.2.2.2.2.2.1.list.take q))).length) rpc) (gtT m.2.1.list ++ ownT (m.2.2.2.2.2.1.list.take q)) ∧ wr.heap[b1]? = some (.cells #[(.slice m.1.at' m.1.len m.1.cap), (.slice m.2.1.at' m.2.1.len m.2.1.cap), (.slice m.2.2.1.at' m.2.2.1.len m.2.2.1.cap), (.slice m.2.2.2.1.at' m.2.2.2.1.len m.2.2.2.1.cap), (.slice m.2.2.2.2.1.at' m.2.2.2.2.1.len m.2.2.2.2.1.cap), (.slice m.2.2.2.2.2.1.at' m.2.2.2.2.2.1.len m.2.2.2.2.2.1.cap), (.slice m.2.2.2.2.2.2.1.at' m.2.2.2.2.2.2.1.len m.2.2.2.2.2.2.1.cap), (.int .i64 m.2.2.2.2.2.2.2.1), (.slice m.2.2.2.2.2.2.2.2.1.at' m.2.2.2.2.2.2.2.2.1.len m.2.2.2.2.2.2.2.2.1.cap), (.slice m.2.2.2.2.2.2.2.2.2.1.at' m.2.2.2.2.2.2.2.2.2.1.len m.2.2.2.2.2.2.2.2.2.1.cap), (.slice m.2.2.2.2.2.2.2.2.2.2.1.at' m.2.2.2.2.2.2.2.2.2.2.1.len m.2.2.2.2.2.2.2.2.2.2.1.cap), (.bool m.2.2.2.2.2.2.2.2.2.2.2.1.1), (.int .u32 m.2.2.2.2.2.2.2.2.2.2.2.1.2.1), (.int .u32 m.2.2.2.2.2.2.2.2.2.2.2.1.2.2.1), (.int .u32 m.2.2.2.2.2.2.2.2.2.2.2.1.2.2.2.1), (.int .u32 m.2.2.2.2.2.2.2.2.2.2.2.1.2.2.2.2.1), (.slice m.2.2.2.2.2.2.2.2.2.2.2.1.2.2.2.2.2.1.at' m.2.2.2.2.2.2.2.2.2.2.2.1.2.2.2.2.2.1.len m.2.2.2.2.2.2.2.2.2.2.2.1.2.2.2.2.2.1.cap)] 67 (0, 0)) ∧ (q ≤ m.2.2.2.2.2.1.len)) ?_ ?_
      · skip
        exact ⟨_, 0, roa, roc, rfl, hf.sub ⟨rfl, rfl, rfl, (some_int (by first | rfl | omega)), (some_sl (by first | omega | (simp only [List.length_append, List.length_cons, List.length_nil]; omega) | (simp <;> omega)) rfl), trivial⟩, hb, (Row.relen hro), hkb1, by omega⟩
      · skip
        clear hf fa; intro mq2 fa w7 hI KL2 hKL2
        clear hb
        clear hkb1
        clear hro
        obtain ⟨q, rpa, rpc, hmq2, hf, hb, hrp, hkb1, hq⟩ := hI
        have hcrp := Row.caps hrp
        have hbl2 := own_len m.2.2.2.2.2.1.list q
        refine wp_seq_k (fun K12 hK12 => ?_)
        refine wp_region_lit ?_
        refine sqv hf (r_lt rfl rfl) rfl rfl rfl ?_; clear hf fa; intro fa hf
        apply wpList_nil
        (try simp only [Exit.then, Exit.inBlock, ↓reduceIte, Nat.reduceEqDiff])
        refine hK12 _ _ ?_
        refine wp_seq_k (fun K13 hK13 => ?_)
        refine wp_cond_split (t := (decide (((q : Nat) : Int) < ((m.2.2.2.2.2.1.len : Nat) : Int)))) (hf.ev rfl) (fun hqt28_1 => ?_) (fun hqt28_1 => ?_)
        · have hqt28_1b := hqt28_1
          try simp only [decide_eq_true_eq, Bool.and_eq_true, Bool.or_eq_true, Bool.not_eq_true', decide_eq_false_iff_not, ne_eq, Bool.not_eq_true] at hqt28_1
          refine wp_skip ?_
          (try simp only [Exit.then, Exit.inBlock, ↓reduceIte, Nat.reduceEqDiff])
          refine hK13 _ _ ?_
          refine wp_seq_k (fun K14 hK14 => ?_)
          refine wp_block ?_
          refine wp_seq_k (fun K15 hK15 => ?_)
          refine wp_region_lit ?_
          obtain ⟨y2, hy2⟩ : ∃ x, (m.2.2.2.2.2.1.list)[q]? = some x := ⟨_, List.getElem?_eq_getElem (by (try simp only [Sl.list_length]); omega)⟩
          obtain ⟨ab2, aoff2, hat2, hlb2, hel2⟩ := RdS.at (RdS.of_arg g.2.2.2.2.2.1.2) hy2
          refine sqv hf (r_ixa (sz := 6) (j := q) (evAt rfl hat2) rfl Try.underlying59 (by kernel_rfl) rfl (by omega) rfl) rfl rfl rfl ?_; clear hf fa; intro fa hf
          refine sqv hf (r_loadA (cs := [(.int .u8 y2.1.1), (.bool y2.1.2.1), (.int .u8 y2.2.1.1), (.int .u64 y2.2.1.2.1), (.int .u64 y2.2.1.2.2.1), (.slice y2.2.1.2.2.2.1.at' y2.2.1.2.2.2.1.len y2.2.1.2.2.2.1.cap)]) rfl Try.underlying142 rfl (by kernel_rfl) (cellsAt_below hel2 hb hlb2)) rfl rfl rfl ?_; clear hf fa; intro fa hf
          refine sqdt hf (d_alloc (z := (.agg #[(.int .u8 (0 : Int)), (.bool false), (.int .u8 (0 : Int)), (.int .u64 (0 : Int)), (.int .u64 (0 : Int)), (.slice none 0 0)])) (cs := #[(.int .u8 (0 : Int)), (.bool false), (.int .u8 (0 : Int)), (.int .u64 (0 : Int)), (.int .u64 (0 : Int)), (.slice none 0 0)]) (by kernel_rfl) rfl) rfl rfl rfl ?_; clear hf fa; rintro fa _ w8 ⟨b4, rfl, hle4, hk5, he4⟩ hf
          have hBb4 : w.heap.size ≤ b4 := Nat.le_trans hb.size hle4
          have : b1 < b4 := Nat.lt_of_lt_of_le (blk_lt hkb1) hle4
          replace hkb1 := blk_ext hkb1 he4
          replace hrp := Row.ext hrp he4
          replace hb := hb.trans (Below.mono he4 hb.size)
          refine sqn hf (d_storeK (T := 142) (v := (.agg #[(.int .u8 y2.1.1), (.bool y2.1.2.1), (.int .u8 y2.2.1.1), (.int .u64 y2.2.1.2.1), (.int .u64 y2.2.1.2.2.1), (.slice y2.2.1.2.2.2.1.at' y2.2.1.2.2.2.1.len y2.2.1.2.2.2.1.cap)])) (cs := #[(.int .u8 (0 : Int)), (.bool false), (.int .u8 (0 : Int)), (.int .u64 (0 : Int)), (.int .u64 (0 : Int)), (.slice none 0 0)]) (cs' := #[(.int .u8 y2.1.1), (.bool y2.1.2.1), (.int .u8 y2.2.1.1), (.int .u64 y2.2.1.2.1), (.int .u64 y2.2.1.2.2.1), (.slice y2.2.1.2.2.2.1.at' y2.2.1.2.2.2.1.len y2.2.1.2.2.2.1.cap)]) rfl rfl (by kernel_rfl) (by kernel_rfl) hk5 (by kernel_rfl) (by kernel_rfl)) rfl rfl ?_; clear hf fa; rintro fa _ w9 ⟨hk6, hg3⟩ hf
          replace hkb1 := blk_grown hkb1 hg3 (by omega)
          replace hrp := Row.grown hrp hg3 (Row.ne_type hrp hk5 rfl)
          replace hb := hb.trans (grown_below hg3 hb.size hBb4)
          apply wpList_nil
          (try simp only [Exit.then, Exit.inBlock, ↓reduceIte, Nat.reduceEqDiff])
          refine hK15 _ _ ?_
          refine wp_region_lit ?_
          refine sqv hf (r_move rfl) rfl rfl rfl ?_; clear hf fa; intro fa hf
          refine sqv hf (r_fa rfl Try.underlying142 (f := 0) (q := 0) rfl (by kernel_rfl) rfl) rfl rfl rfl ?_; clear hf fa; intro fa hf
          refine sqv hf (r_loadA (cs := [(.int .u8 y2.1.1), (.bool y2.1.2.1)]) rfl Try.underlying101 rfl (by kernel_rfl) (cellsAt_part (d := 0) (n := 2) (cellsAt_blk hk6) rfl rfl)) rfl rfl rfl ?_; clear hf fa; intro fa hf
          refine sqdt hf (d_bslice (z := (.agg #[(.int .u8 (0 : Int)), (.bool false)])) (sz := 2) (vs := [(0, (.agg #[(.int .u8 y2.1.1), (.bool y2.1.2.1)]))]) (cs := #[(.int .u8 y2.1.1), (.bool y2.1.2.1)]) rfl Try.underlying153 (by kernel_rfl) rfl (by kernel_rfl)) rfl rfl rfl ?_; clear hf fa; rintro fa _ w10 ⟨b5, rfl, hle5, hk7, he5⟩ hf
          have hBb5 : w.heap.size ≤ b5 := Nat.le_trans hb.size hle5
          have : b1 < b5 := Nat.lt_of_lt_of_le (blk_lt hkb1) hle5
          have : b4 < b5 := Nat.lt_of_lt_of_le (blk_lt hk6) hle5
          have hnr2 : (Value.slice rpa ((((gtT m.2.1.list ++ ownT (m.2.2.2.2.2.1.list.take q))).length)) rpc).ownBlock ≠ some b5 := fun hq => by have := (Row.lt hrp _ hq).2; omega
          replace hkb1 := blk_ext hkb1 he5
          replace hk6 := blk_ext hk6 he5
          replace hrp := Row.ext hrp he5
          replace hb := hb.trans (Below.mono he5 hb.size)
          have hs2 := Row.rd (by intros; rfl) (Row.of_new (k := 2) (V := vMGt) (l := [y2.1]) hk7 (Nat.le_refl _) rfl rfl (Nat.le_of_ble_eq_true rfl))
          refine sqdt hf (d_append (V := vMGt) (k := 2) (e := 101) (bytes := 2) (z := (.agg #[(.int .u8 (0 : Int)), (.bool false)])) (news := [y2.1]) (base := w.heap.size) (by intros; rfl) (by exact oneMGt) rfl rfl Try.underlying153 (by kernel_rfl) rfl rfl rfl hrp hs2 rfl (fun h => by cases h) (by first | omega | (simp only [List.length_cons, List.length_nil, List.length_append]; omega)) (by have := hb.size; omega)) rfl rfl rfl ?_; clear hf fa; rintro fa v w11 ⟨hr2, hg4⟩ hf; obtain ⟨ra2, rc2, rfl, hcrc2, hmrc2⟩ := Row.slice hr2
          replace hkb1 := blk_row' hkb1 hg4 (Row.ne_type hrp hkb1 rfl)
          replace hk6 := blk_row' hk6 hg4 (Row.ne_type hrp hk6 rfl)
          replace hb := hb.trans (row_below hrp hg4 hb.size (by have := hb.size; omega))
          refine sqv hf (r_assign rfl) rfl rfl rfl ?_; clear hf fa; intro fa hf
          apply wpList_nil
          (try simp only [Exit.then, Exit.inBlock, ↓reduceIte, Nat.reduceEqDiff])
          refine hK14 _ _ ?_
          refine wp_region_lit ?_
          refine sqv hf (r_add (C := (((q : Nat) : Int) + (1 : Int))) rfl rfl (by rw [IntKind.wrap_i64]; omega)) rfl rfl rfl ?_; clear hf fa; intro fa hf
          refine sqv hf (r_move rfl) rfl rfl rfl ?_; clear hf fa; intro fa hf
          apply wpList_nil
          (try simp only [Exit.then, Exit.inBlock, ↓reduceIte, Nat.reduceEqDiff])
          have hle := congrArg List.length (own_snoc (G := gtT m.2.1.list) hy2)
          simp only [List.length_append, List.length_cons, List.length_nil] at hle
          refine hKL2 _ _ _ (by omega) ⟨(q + 1), ra2, rc2, rfl, hf.sub ⟨rfl, rfl, rfl, (some_int (by first | rfl | omega)), (some_sl (by first | omega | (simp only [List.length_append, List.length_cons, List.length_nil]; omega) | (simp <;> omega)) rfl), trivial⟩, hb, (rowToL hr2 (own_snoc hy2)), hkb1, by omega⟩
        · have hqt28_1b := hqt28_1
          replace hqt28_1 := Bool.eq_false_iff.1 hqt28_1
          try simp only [ne_eq, decide_eq_true_eq, Bool.and_eq_true, Bool.or_eq_true, Bool.not_eq_true', decide_eq_false_iff_not] at hqt28_1
          refine wp_exit ?_
          (try simp only [Exit.then, Exit.inBlock, ↓reduceIte, Nat.reduceEqDiff])
          refine hK10 _ _ ?_
          refine wp_seq_k (fun K16 hK16 => ?_)
          refine wp_region_lit ?_
          refine sqv hf (r_move rfl) rfl rfl rfl ?_; clear hf fa; intro fa hf
          refine sqv hf (r_assign rfl) rfl rfl rfl ?_; clear hf fa; intro fa hf
          apply wpList_nil
          (try simp only [Exit.then, Exit.inBlock, ↓reduceIte, Nat.reduceEqDiff])
          refine hK16 _ _ ?_
          refine wp_ret ?_
          (try simp only [Exit.then, Exit.inBlock])
          refine ret1 hf rfl rfl ?_
          exact ⟨_, rfl, rowTo hrp (by unfold gtypesP; rw [show q = m.2.2.2.2.2.1.len by omega, take_list]), hb⟩

set_option maxHeartbeats 1000000 in
set_option maxRecDepth 100000 in
theorem rgtypes_any (m : MMd) (w : World) (g : fMMd w m) (hs : smallP m) : Calls Try.prog 76 #[(.agg #[(.slice m.1.at' m.1.len m.1.cap), (.slice m.2.1.at' m.2.1.len m.2.1.cap), (.slice m.2.2.1.at' m.2.2.1.len m.2.2.1.cap), (.slice m.2.2.2.1.at' m.2.2.2.1.len m.2.2.2.1.cap), (.slice m.2.2.2.2.1.at' m.2.2.2.2.1.len m.2.2.2.2.1.cap), (.slice m.2.2.2.2.2.1.at' m.2.2.2.2.2.1.len m.2.2.2.2.2.1.cap), (.slice m.2.2.2.2.2.2.1.at' m.2.2.2.2.2.2.1.len m.2.2.2.2.2.2.1.cap), (.int .i64 m.2.2.2.2.2.2.2.1), (.slice m.2.2.2.2.2.2.2.2.1.at' m.2.2.2.2.2.2.2.2.1.len m.2.2.2.2.2.2.2.2.1.cap), (.slice m.2.2.2.2.2.2.2.2.2.1.at' m.2.2.2.2.2.2.2.2.2.1.len m.2.2.2.2.2.2.2.2.2.1.cap), (.slice m.2.2.2.2.2.2.2.2.2.2.1.at' m.2.2.2.2.2.2.2.2.2.2.1.len m.2.2.2.2.2.2.2.2.2.2.1.cap), (.bool m.2.2.2.2.2.2.2.2.2.2.2.1.1), (.int .u32 m.2.2.2.2.2.2.2.2.2.2.2.1.2.1), (.int .u32 m.2.2.2.2.2.2.2.2.2.2.2.1.2.2.1), (.int .u32 m.2.2.2.2.2.2.2.2.2.2.2.1.2.2.2.1), (.int .u32 m.2.2.2.2.2.2.2.2.2.2.2.1.2.2.2.2.1), (.slice m.2.2.2.2.2.2.2.2.2.2.2.1.2.2.2.2.2.1.at' m.2.2.2.2.2.2.2.2.2.2.2.1.2.2.2.2.2.1.len m.2.2.2.2.2.2.2.2.2.2.2.1.2.2.2.2.2.1.cap)])] w fun e w' => ∃ v, e = .returned v ∧ (∃ a c, v = .tuple #[.slice a (gtypesP m).length c, .int .i64 (((gtT m.2.1.list).length : Nat) : Int)] ∧ Row 2 vMGt 101 w.heap.size w' (.slice a (gtypesP m).length c) (gtypesP m) ∧ Below w.heap.size w w') := by
  have hz_m0 := g.2.1.1; have hl_m0 := g.2.1.2.1; have hm_m0 := g.2.1.2.2.1; have hn_m0 := g.2.1.2.2.2.1; (try unfold maxLen at hm_m0)
  have hz_m1 := g.2.2.2.2.2.1.1; have hl_m1 := g.2.2.2.2.2.1.2.1; have hm_m1 := g.2.2.2.2.2.1.2.2.1; have hn_m1 := g.2.2.2.2.2.1.2.2.2.1; (try unfold maxLen at hm_m1)
  unfold smallP at hs
  refine sx_enter (L := [(0, (.agg #[(.slice m.1.at' m.1.len m.1.cap), (.slice m.2.1.at' m.2.1.len m.2.1.cap), (.slice m.2.2.1.at' m.2.2.1.len m.2.2.1.cap), (.slice m.2.2.2.1.at' m.2.2.2.1.len m.2.2.2.1.cap), (.slice m.2.2.2.2.1.at' m.2.2.2.2.1.len m.2.2.2.2.1.cap), (.slice m.2.2.2.2.2.1.at' m.2.2.2.2.2.1.len m.2.2.2.2.2.1.cap), (.slice m.2.2.2.2.2.2.1.at' m.2.2.2.2.2.2.1.len m.2.2.2.2.2.2.1.cap), (.int .i64 m.2.2.2.2.2.2.2.1), (.slice m.2.2.2.2.2.2.2.2.1.at' m.2.2.2.2.2.2.2.2.1.len m.2.2.2.2.2.2.2.2.1.cap), (.slice m.2.2.2.2.2.2.2.2.2.1.at' m.2.2.2.2.2.2.2.2.2.1.len m.2.2.2.2.2.2.2.2.2.1.cap), (.slice m.2.2.2.2.2.2.2.2.2.2.1.at' m.2.2.2.2.2.2.2.2.2.2.1.len m.2.2.2.2.2.2.2.2.2.2.1.cap), (.bool m.2.2.2.2.2.2.2.2.2.2.2.1.1), (.int .u32 m.2.2.2.2.2.2.2.2.2.2.2.1.2.1), (.int .u32 m.2.2.2.2.2.2.2.2.2.2.2.1.2.2.1), (.int .u32 m.2.2.2.2.2.2.2.2.2.2.2.1.2.2.2.1), (.int .u32 m.2.2.2.2.2.2.2.2.2.2.2.1.2.2.2.2.1), (.slice m.2.2.2.2.2.2.2.2.2.2.2.1.2.2.2.2.2.1.at' m.2.2.2.2.2.2.2.2.2.2.2.1.2.2.2.2.2.1.len m.2.2.2.2.2.2.2.2.2.2.2.1.2.2.2.2.2.1.cap)]))]) Try.func76 rfl rfl rfl rfl (fun fa hf => ?_)
  have hb : Below w.heap.size w w := Below.refl _ _
  refine wp_seq_k (fun K1 hK1 => ?_)
  refine wp_region_lit ?_
  refine sqdt hf (d_box (cs := #[(.slice m.1.at' m.1.len m.1.cap), (.slice m.2.1.at' m.2.1.len m.2.1.cap), (.slice m.2.2.1.at' m.2.2.1.len m.2.2.1.cap), (.slice m.2.2.2.1.at' m.2.2.2.1.len m.2.2.2.1.cap), (.slice m.2.2.2.2.1.at' m.2.2.2.2.1.len m.2.2.2.2.1.cap), (.slice m.2.2.2.2.2.1.at' m.2.2.2.2.2.1.len m.2.2.2.2.2.1.cap), (.slice m.2.2.2.2.2.2.1.at' m.2.2.2.2.2.2.1.len m.2.2.2.2.2.2.1.cap), (.int .i64 m.2.2.2.2.2.2.2.1), (.slice m.2.2.2.2.2.2.2.2.1.at' m.2.2.2.2.2.2.2.2.1.len m.2.2.2.2.2.2.2.2.1.cap), (.slice m.2.2.2.2.2.2.2.2.2.1.at' m.2.2.2.2.2.2.2.2.2.1.len m.2.2.2.2.2.2.2.2.2.1.cap), (.slice m.2.2.2.2.2.2.2.2.2.2.1.at' m.2.2.2.2.2.2.2.2.2.2.1.len m.2.2.2.2.2.2.2.2.2.2.1.cap), (.bool m.2.2.2.2.2.2.2.2.2.2.2.1.1), (.int .u32 m.2.2.2.2.2.2.2.2.2.2.2.1.2.1), (.int .u32 m.2.2.2.2.2.2.2.2.2.2.2.1.2.2.1), (.int .u32 m.2.2.2.2.2.2.2.2.2.2.2.1.2.2.2.1), (.int .u32 m.2.2.2.2.2.2.2.2.2.2.2.1.2.2.2.2.1), (.slice m.2.2.2.2.2.2.2.2.2.2.2.1.2.2.2.2.2.1.at' m.2.2.2.2.2.2.2.2.2.2.2.1.2.2.2.2.2.1.len m.2.2.2.2.2.2.2.2.2.2.2.1.2.2.2.2.2.1.cap)]) rfl rfl) rfl rfl rfl ?_; clear hf fa; rintro fa _ w1 ⟨b1, rfl, hle1, hk1, he1⟩ hf
  have hBb1 : w.heap.size ≤ b1 := Nat.le_trans hb.size hle1
  replace hb := hb.trans (Below.mono he1 hb.size)
  refine sqv hf (r_assign rfl) rfl rfl rfl ?_; clear hf fa; intro fa hf
  refine sqv hf (r_assign rfl) rfl rfl rfl ?_; clear hf fa; intro fa hf
  apply wpList_nil
  (try simp only [Exit.then, Exit.inBlock, ↓reduceIte, Nat.reduceEqDiff])
  refine hK1 _ _ ?_
  refine wp_seq_k (fun K2 hK2 => ?_)
  refine wp_region_lit ?_
  refine sqv hf (r_assign rfl) rfl rfl rfl ?_; clear hf fa; intro fa hf
  apply wpList_nil
  (try simp only [Exit.then, Exit.inBlock, ↓reduceIte, Nat.reduceEqDiff])
  refine hK2 _ _ ?_
  refine wp_seq_k (fun K3 hK3 => ?_)
  refine wp_seq_k (fun K4 hK4 => ?_)
  refine wp_region_lit ?_
  refine sqv hf (r_assign rfl) rfl rfl rfl ?_; clear hf fa; intro fa hf
  apply wpList_nil
  (try simp only [Exit.then, Exit.inBlock, ↓reduceIte, Nat.reduceEqDiff])
  refine hK4 _ _ ?_
  refine wp_block ?_
  refine wp_loop_k (fun mq fa wr => ∃ (k : Nat) (roa : Option Addr) (roc : Nat), mq = m.2.1.len - k ∧ Fr 51 fa [(1, (.pointer (some ⟨b1, 0, none⟩))), (5, (.int .i64 ((k : Nat) : Int))), (4, (.slice roa (((gtT (m.2.1.list.take k))).length) roc))] ∧ Below w.heap.size w wr ∧ Row 2 vMGt 101 (w.heap.size) wr (.slice roa (((gtT (m.2.1.list.take k))).length) roc) (gtT (m.2.1.list.take k)) ∧ wr.heap[b1]? = some (.cells #[(.slice m.1.at' m.1.len m.1.cap), (.slice m.2.1.at' m.2.1.len m.2.1.cap), (.slice m.2.2.1.at' m.2.2.1.len m.2.2.1.cap), (.slice m.2.2.2.1.at' m.2.2.2.1.len m.2.2.2.1.cap), (.slice m.2.2.2.2.1.at' m.2.2.2.2.1.len m.2.2.2.2.1.cap), (.slice m.2.2.2.2.2.1.at' m.2.2.2.2.2.1.len m.2.2.2.2.2.1.cap), (.slice m.2.2.2.2.2.2.1.at' m.2.2.2.2.2.2.1.len m.2.2.2.2.2.2.1.cap), (.int .i64 m.2.2.2.2.2.2.2.1), (.slice m.2.2.2.2.2.2.2.2.1.at' m.2.2.2.2.2.2.2.2.1.len m.2.2.2.2.2.2.2.2.1.cap), (.slice m.2.2.2.2.2.2.2.2.2.1.at' m.2.2.2.2.2.2.2.2.2.1.len m.2.2.2.2.2.2.2.2.2.1.cap), (.slice m.2.2.2.2.2.2.2.2.2.2.1.at' m.2.2.2.2.2.2.2.2.2.2.1.len m.2.2.2.2.2.2.2.2.2.2.1.cap), (.bool m.2.2.2.2.2.2.2.2.2.2.2.1.1), (.int .u32 m.2.2.2.2.2.2.2.2.2.2.2.1.2.1), (.int .u32 m.2.2.2.2.2.2.2.2.2.2.2.1.2.2.1), (.int .u32 m.2.2.2.2.2.2.2.2.2.2.2.1.2.2.2.1), (.int .u32 m.2.2.2.2.2.2.2.2.2.2.2.1.2.2.2.2.1), (.slice m.2.2.2.2.2.2.2.2.2.2.2.1.2.2.2.2.2.1.at' m.2.2.2.2.2.2.2.2.2.2.2.1.2.2.2.2.2.1.len m.2.2.2.2.2.2.2.2.2.2.2.1.2.2.2.2.2.1.cap)] 67 (0, 0)) ∧ (k ≤ m.2.1.len)) ?_ ?_
  · skip
    exact ⟨_, 0, none, 0, rfl, hf.sub ⟨rfl, (some_int (by first | rfl | omega)), (some_sl (by first | omega | (simp only [List.length_append, List.length_cons, List.length_nil]; omega) | (simp <;> omega)) rfl), trivial⟩, hb, Row.nil, hk1, by omega⟩
  · skip
    clear hf fa; intro mq1 fa w2 hI KL1 hKL1
    clear hb
    clear hk1
    obtain ⟨k, roa, roc, hmq1, hf, hb, hro, hkb1, hk⟩ := hI
    have hcro := Row.caps hro
    have hbl := gt_len m.2.1.list k
    refine wp_seq_k (fun K5 hK5 => ?_)
    refine wp_seq_k (fun K6 hK6 => ?_)
    refine wp_region_lit ?_
    refine sqv hf (r_move rfl) rfl rfl rfl ?_; clear hf fa; intro fa hf
    refine sqv hf (r_fa rfl Try.underlying67 (f := 1) (q := 1) rfl (by kernel_rfl) rfl) rfl rfl rfl ?_; clear hf fa; intro fa hf
    refine sqv hf (r_load (v := (.slice m.2.1.at' m.2.1.len m.2.1.cap)) rfl Try.underlying57 rfl (cell_blk hkb1 rfl)) rfl rfl rfl ?_; clear hf fa; intro fa hf
    refine sqv hf (r_lensl rfl Try.underlying57) rfl rfl rfl ?_; clear hf fa; intro fa hf
    refine sqv hf (r_lt rfl rfl) rfl rfl rfl ?_; clear hf fa; intro fa hf
    apply wpList_nil
    (try simp only [Exit.then, Exit.inBlock, ↓reduceIte, Nat.reduceEqDiff])
    refine hK6 _ _ ?_
    refine wp_cond_split (t := (decide (((k : Nat) : Int) < ((m.2.1.len : Nat) : Int)))) (hf.ev rfl) (fun hqt12_1 => ?_) (fun hqt12_1 => ?_)
    · have hqt12_1b := hqt12_1
      try simp only [decide_eq_true_eq, Bool.and_eq_true, Bool.or_eq_true, Bool.not_eq_true', decide_eq_false_iff_not, ne_eq, Bool.not_eq_true] at hqt12_1
      refine wp_skip ?_
      (try simp only [Exit.then, Exit.inBlock, ↓reduceIte, Nat.reduceEqDiff])
      refine hK5 _ _ ?_
      refine wp_seq_k (fun K7 hK7 => ?_)
      refine wp_block ?_
      refine wp_seq_k (fun K8 hK8 => ?_)
      refine wp_region_lit ?_
      refine sqv hf (r_fa rfl Try.underlying67 (f := 1) (q := 1) rfl (by kernel_rfl) rfl) rfl rfl rfl ?_; clear hf fa; intro fa hf
      refine sqv hf (r_load (v := (.slice m.2.1.at' m.2.1.len m.2.1.cap)) rfl Try.underlying57 rfl (cell_blk hkb1 rfl)) rfl rfl rfl ?_; clear hf fa; intro fa hf
      refine sqv hf (r_move rfl) rfl rfl rfl ?_; clear hf fa; intro fa hf
      obtain ⟨y1, hy1⟩ : ∃ x, (m.2.1.list)[k]? = some x := ⟨_, List.getElem?_eq_getElem (by (try simp only [Sl.list_length]); omega)⟩
      obtain ⟨ab1, aoff1, hat1, hlb1, hel1⟩ := RdS.at (RdS.of_arg g.2.1.2) hy1
      refine sqv hf (r_ixa (sz := 9) (j := k) (evAt rfl hat1) rfl Try.underlying57 (by kernel_rfl) rfl (by omega) rfl) rfl rfl rfl ?_; clear hf fa; intro fa hf
      refine sqv hf (r_fa rfl Try.underlying103 (f := 2) (q := ((aoff1 + k * 9) + 2)) rfl (by kernel_rfl) rfl) rfl rfl rfl ?_; clear hf fa; intro fa hf
      refine sqv hf (r_load (v := (.int .u8 y1.2.2.1)) rfl Try.underlying5 rfl (cellsAt_cell (cellsAt_below hel1 hb hlb1) (i := 2) rfl rfl)) rfl rfl rfl ?_; clear hf fa; intro fa hf
      refine sqv hf (r_eq rfl rfl) rfl rfl rfl ?_; clear hf fa; intro fa hf
      apply wpList_nil
      (try simp only [Exit.then, Exit.inBlock, ↓reduceIte, Nat.reduceEqDiff])
      refine hK8 _ _ ?_
      refine wp_cond_split (t := (decide (y1.2.2.1 = (3 : Int)))) (hf.ev rfl) (fun hqt21_1 => ?_) (fun hqt21_1 => ?_)
      · have hqt21_1b := hqt21_1
        try simp only [decide_eq_true_eq, Bool.and_eq_true, Bool.or_eq_true, Bool.not_eq_true', decide_eq_false_iff_not, ne_eq, Bool.not_eq_true] at hqt21_1
        refine wp_region_lit ?_
        refine sqv hf (r_move rfl) rfl rfl rfl ?_; clear hf fa; intro fa hf
        refine sqv hf (r_fa rfl Try.underlying67 (f := 1) (q := 1) rfl (by kernel_rfl) rfl) rfl rfl rfl ?_; clear hf fa; intro fa hf
        refine sqv hf (r_load (v := (.slice m.2.1.at' m.2.1.len m.2.1.cap)) rfl Try.underlying57 rfl (cell_blk hkb1 rfl)) rfl rfl rfl ?_; clear hf fa; intro fa hf
        refine sqv hf (r_move rfl) rfl rfl rfl ?_; clear hf fa; intro fa hf
        refine sqv hf (r_ixa (sz := 9) (j := k) (evAt rfl hat1) rfl Try.underlying57 (by kernel_rfl) rfl (by omega) rfl) rfl rfl rfl ?_; clear hf fa; intro fa hf
        refine sqv hf (r_fa rfl Try.underlying103 (f := 5) (q := ((aoff1 + k * 9) + 7)) rfl (by kernel_rfl) rfl) rfl rfl rfl ?_; clear hf fa; intro fa hf
        refine sqv hf (r_loadA (cs := [(.int .u8 y1.2.2.2.2.2.1.1), (.bool y1.2.2.2.2.2.1.2.1)]) rfl Try.underlying101 rfl (by kernel_rfl) (cellsAt_part (d := 7) (n := 2) (cellsAt_below hel1 hb hlb1) rfl rfl)) rfl rfl rfl ?_; clear hf fa; intro fa hf
        refine sqdt hf (d_bslice (z := (.agg #[(.int .u8 (0 : Int)), (.bool false)])) (sz := 2) (vs := [(0, (.agg #[(.int .u8 y1.2.2.2.2.2.1.1), (.bool y1.2.2.2.2.2.1.2.1)]))]) (cs := #[(.int .u8 y1.2.2.2.2.2.1.1), (.bool y1.2.2.2.2.2.1.2.1)]) rfl Try.underlying153 (by kernel_rfl) rfl (by kernel_rfl)) rfl rfl rfl ?_; clear hf fa; rintro fa _ w3 ⟨b2, rfl, hle2, hk2, he2⟩ hf
        have hBb2 : w.heap.size ≤ b2 := Nat.le_trans hb.size hle2
        have : b1 < b2 := Nat.lt_of_lt_of_le (blk_lt hkb1) hle2
        have hnr1 : (Value.slice roa ((((gtT (m.2.1.list.take k))).length)) roc).ownBlock ≠ some b2 := fun hq => by have := (Row.lt hro _ hq).2; omega
        replace hkb1 := blk_ext hkb1 he2
        replace hro := Row.ext hro he2
        replace hb := hb.trans (Below.mono he2 hb.size)
        have hs1 := Row.rd (by intros; rfl) (Row.of_new (k := 2) (V := vMGt) (l := [y1.2.2.2.2.2.1]) hk2 (Nat.le_refl _) rfl rfl (Nat.le_of_ble_eq_true rfl))
        refine sqdt hf (d_append (V := vMGt) (k := 2) (e := 101) (bytes := 2) (z := (.agg #[(.int .u8 (0 : Int)), (.bool false)])) (news := [y1.2.2.2.2.2.1]) (base := w.heap.size) (by intros; rfl) (by exact oneMGt) rfl rfl Try.underlying153 (by kernel_rfl) rfl rfl rfl hro hs1 rfl (fun h => by cases h) (by first | omega | (simp only [List.length_cons, List.length_nil, List.length_append]; omega)) (by have := hb.size; omega)) rfl rfl rfl ?_; clear hf fa; rintro fa v w4 ⟨hr1, hg1⟩ hf; obtain ⟨ra1, rc1, rfl, hcrc1, hmrc1⟩ := Row.slice hr1
        replace hkb1 := blk_row' hkb1 hg1 (Row.ne_type hro hkb1 rfl)
        replace hb := hb.trans (row_below hro hg1 hb.size (by have := hb.size; omega))
        refine sqv hf (r_assign rfl) rfl rfl rfl ?_; clear hf fa; intro fa hf
        apply wpList_nil
        (try simp only [Exit.then, Exit.inBlock, ↓reduceIte, Nat.reduceEqDiff])
        refine hK7 _ _ ?_
        refine wp_region_lit ?_
        refine sqv hf (r_move rfl) rfl rfl rfl ?_; clear hf fa; intro fa hf
        refine sqv hf (r_add (C := (((k : Nat) : Int) + (1 : Int))) rfl rfl (by rw [IntKind.wrap_i64]; omega)) rfl rfl rfl ?_; clear hf fa; intro fa hf
        refine sqv hf (r_assign rfl) rfl rfl rfl ?_; clear hf fa; intro fa hf
        apply wpList_nil
        (try simp only [Exit.then, Exit.inBlock, ↓reduceIte, Nat.reduceEqDiff])
        have hle := congrArg List.length (gt_yes hy1 hqt21_1)
        simp only [List.length_append, List.length_cons, List.length_nil] at hle
        refine hKL1 _ _ _ (by omega) ⟨(k + 1), ra1, rc1, rfl, hf.sub ⟨rfl, (some_int (by first | rfl | omega)), (some_sl (by first | omega | (simp only [List.length_append, List.length_cons, List.length_nil]; omega) | (simp <;> omega)) rfl), trivial⟩, hb, (rowToL hr1 (gt_yes hy1 hqt21_1)), hkb1, by omega⟩
      · have hqt21_1b := hqt21_1
        replace hqt21_1 := Bool.eq_false_iff.1 hqt21_1
        try simp only [ne_eq, decide_eq_true_eq, Bool.and_eq_true, Bool.or_eq_true, Bool.not_eq_true', decide_eq_false_iff_not] at hqt21_1
        refine wp_skip ?_
        (try simp only [Exit.then, Exit.inBlock, ↓reduceIte, Nat.reduceEqDiff])
        refine hK7 _ _ ?_
        refine wp_region_lit ?_
        refine sqv hf (r_move rfl) rfl rfl rfl ?_; clear hf fa; intro fa hf
        refine sqv hf (r_add (C := (((k : Nat) : Int) + (1 : Int))) rfl rfl (by rw [IntKind.wrap_i64]; omega)) rfl rfl rfl ?_; clear hf fa; intro fa hf
        refine sqv hf (r_assign rfl) rfl rfl rfl ?_; clear hf fa; intro fa hf
        apply wpList_nil
        (try simp only [Exit.then, Exit.inBlock, ↓reduceIte, Nat.reduceEqDiff])
        have hle := congrArg List.length (gt_no hy1 hqt21_1)
        refine hKL1 _ _ _ (by omega) ⟨(k + 1), roa, roc, rfl, hf.sub ⟨rfl, (some_int (by first | rfl | omega)), (some_sl (by first | omega | (simp only [List.length_append, List.length_cons, List.length_nil]; omega) | (simp <;> omega)) rfl), trivial⟩, hb, (rowToL hro (gt_no hy1 hqt21_1)), hkb1, by omega⟩
    · have hqt12_1b := hqt12_1
      replace hqt12_1 := Bool.eq_false_iff.1 hqt12_1
      try simp only [ne_eq, decide_eq_true_eq, Bool.and_eq_true, Bool.or_eq_true, Bool.not_eq_true', decide_eq_false_iff_not] at hqt12_1
      refine wp_exit ?_
      (try simp only [Exit.then, Exit.inBlock, ↓reduceIte, Nat.reduceEqDiff])
      refine hK3 _ _ ?_
      refine wp_seq_k (fun K9 hK9 => ?_)
      have hte : gtT (m.2.1.list.take k) = (gtT m.2.1.list ++ ownT (m.2.2.2.2.2.1.list.take 0)) := by rw [show k = m.2.1.len by omega, take_list]; simp
      rw [hte] at hf hro hcro
      have h00 : ((gtT m.2.1.list ++ ownT (m.2.2.2.2.2.1.list.take 0))).length = (gtT m.2.1.list).length := by simp
      have hgl := gt_len m.2.1.list m.2.1.len
      rw [take_list] at hgl
      refine wp_region_lit ?_
      refine sqv hf (r_move rfl) rfl rfl rfl ?_; clear hf fa; intro fa hf
      refine sqv hf (r_lensl rfl Try.underlying153) rfl rfl rfl ?_; clear hf fa; intro fa hf
      refine sqv hf (r_assign rfl) rfl rfl rfl ?_; clear hf fa; intro fa hf
      apply wpList_nil
      (try simp only [Exit.then, Exit.inBlock, ↓reduceIte, Nat.reduceEqDiff])
      refine hK9 _ _ ?_
      refine wp_seq_k (fun K10 hK10 => ?_)
      refine wp_seq_k (fun K11 hK11 => ?_)
      refine wp_region_lit ?_
      refine sqv hf (r_assign rfl) rfl rfl rfl ?_; clear hf fa; intro fa hf
      apply wpList_nil
      (try simp only [Exit.then, Exit.inBlock, ↓reduceIte, Nat.reduceEqDiff])
      refine hK11 _ _ ?_
      refine wp_block ?_
      refine wp_loop_k (fun mq fa wr => ∃ (q : Nat) (rpa : Option Addr) (rpc : Nat), mq = m.2.2.2.2.2.1.len - q ∧ Fr 51 fa [(1, (.pointer (some ⟨b1, 0, none⟩))), (6, (.int .i64 (((gtT m.2.1.list).length : Nat) : Int))), (7, (.int .i64 ((q : Nat) : Int))), (4, (.slice rpa (((gtT m.2.1.list ++ ownT (m.2.2.2.2.2.1.list.take q))).length) rpc))] ∧ Below w.heap.size w wr ∧ Row 2 vMGt 101 (w.heap.size) wr (.slice rpa (((gtT m.2.1.list ++ ownT (m.2.2.2.2.2.1.list.take q))).length) rpc) (gtT m.2.1.list ++ ownT (m.2.2.2.2.2.1.list.take q)) ∧ wr.heap[b1]? = some (.cells #[(.slice m.1.at' m.1.len m.1.cap), (.slice m.2.1.at' m.2.1.len m.2.1.cap), (.slice m.2.2.1.at' m.2.2.1.len m.2.2.1.cap), (.slice m.2.2.2.1.at' m.2.2.2.1.len m.2.2.2.1.cap), (.slice m.2.2.2.2.1.at' m.2.2.2.2.1.len m.2.2.2.2.1.cap), (.slice m.2.2.2.2.2.1.at' m.2.2.2.2.2.1.len m.2.2.2.2.2.1.cap), (.slice m.2.2.2.2.2.2.1.at' m.2.2.2.2.2.2.1.len m.2.2.2.2.2.2.1.cap), (.int .i64 m.2.2.2.2.2.2.2.1), (.slice m.2.2.2.2.2.2.2.2.1.at' m.2.2.2.2.2.2.2.2.1.len m.2.2.2.2.2.2.2.2.1.cap), (.slice m.2.2.2.2.2.2.2.2.2.1.at' m.2.2.2.2.2.2.2.2.2.1.len m.2.2.2.2.2.2.2.2.2.1.cap), (.slice m.2.2.2.2.2.2.2.2.2.2.1.at' m.2.2.2.2.2.2.2.2.2.2.1.len m.2.2.2.2.2.2.2.2.2.2.1.cap), (.bool m.2.2.2.2.2.2.2.2.2.2.2.1.1), (.int .u32 m.2.2.2.2.2.2.2.2.2.2.2.1.2.1), (.int .u32 m.2.2.2.2.2.2.2.2.2.2.2.1.2.2.1), (.int .u32 m.2.2.2.2.2.2.2.2.2.2.2.1.2.2.2.1), (.int .u32 m.2.2.2.2.2.2.2.2.2.2.2.1.2.2.2.2.1), (.slice m.2.2.2.2.2.2.2.2.2.2.2.1.2.2.2.2.2.1.at' m.2.2.2.2.2.2.2.2.2.2.2.1.2.2.2.2.2.1.len m.2.2.2.2.2.2.2.2.2.2.2.1.2.2.2.2.2.1.cap)] 67 (0, 0)) ∧ (q ≤ m.2.2.2.2.2.1.len)) ?_ ?_
      · skip
        exact ⟨_, 0, roa, roc, rfl, hf.sub ⟨rfl, (some_int (by first | rfl | omega)), (some_int (by first | rfl | omega)), (some_sl (by first | omega | (simp only [List.length_append, List.length_cons, List.length_nil]; omega) | (simp <;> omega)) rfl), trivial⟩, hb, (Row.relen hro), hkb1, by omega⟩
      · skip
        clear hf fa; intro mq2 fa w5 hI KL2 hKL2
        clear hb
        clear hkb1
        clear hro
        obtain ⟨q, rpa, rpc, hmq2, hf, hb, hrp, hkb1, hq⟩ := hI
        have hcrp := Row.caps hrp
        have hbl2 := own_len m.2.2.2.2.2.1.list q
        refine wp_seq_k (fun K12 hK12 => ?_)
        refine wp_seq_k (fun K13 hK13 => ?_)
        refine wp_region_lit ?_
        refine sqv hf (r_move rfl) rfl rfl rfl ?_; clear hf fa; intro fa hf
        refine sqv hf (r_fa rfl Try.underlying67 (f := 5) (q := 5) rfl (by kernel_rfl) rfl) rfl rfl rfl ?_; clear hf fa; intro fa hf
        refine sqv hf (r_load (v := (.slice m.2.2.2.2.2.1.at' m.2.2.2.2.2.1.len m.2.2.2.2.2.1.cap)) rfl Try.underlying59 rfl (cell_blk hkb1 rfl)) rfl rfl rfl ?_; clear hf fa; intro fa hf
        refine sqv hf (r_lensl rfl Try.underlying59) rfl rfl rfl ?_; clear hf fa; intro fa hf
        refine sqv hf (r_lt rfl rfl) rfl rfl rfl ?_; clear hf fa; intro fa hf
        apply wpList_nil
        (try simp only [Exit.then, Exit.inBlock, ↓reduceIte, Nat.reduceEqDiff])
        refine hK13 _ _ ?_
        refine wp_cond_split (t := (decide (((q : Nat) : Int) < ((m.2.2.2.2.2.1.len : Nat) : Int)))) (hf.ev rfl) (fun hqt37_1 => ?_) (fun hqt37_1 => ?_)
        · have hqt37_1b := hqt37_1
          try simp only [decide_eq_true_eq, Bool.and_eq_true, Bool.or_eq_true, Bool.not_eq_true', decide_eq_false_iff_not, ne_eq, Bool.not_eq_true] at hqt37_1
          refine wp_skip ?_
          (try simp only [Exit.then, Exit.inBlock, ↓reduceIte, Nat.reduceEqDiff])
          refine hK12 _ _ ?_
          refine wp_seq_k (fun K14 hK14 => ?_)
          refine wp_block ?_
          refine wp_region_lit ?_
          refine sqv hf (r_move rfl) rfl rfl rfl ?_; clear hf fa; intro fa hf
          refine sqv hf (r_fa rfl Try.underlying67 (f := 5) (q := 5) rfl (by kernel_rfl) rfl) rfl rfl rfl ?_; clear hf fa; intro fa hf
          refine sqv hf (r_load (v := (.slice m.2.2.2.2.2.1.at' m.2.2.2.2.2.1.len m.2.2.2.2.2.1.cap)) rfl Try.underlying59 rfl (cell_blk hkb1 rfl)) rfl rfl rfl ?_; clear hf fa; intro fa hf
          refine sqv hf (r_move rfl) rfl rfl rfl ?_; clear hf fa; intro fa hf
          obtain ⟨y2, hy2⟩ : ∃ x, (m.2.2.2.2.2.1.list)[q]? = some x := ⟨_, List.getElem?_eq_getElem (by (try simp only [Sl.list_length]); omega)⟩
          obtain ⟨ab2, aoff2, hat2, hlb2, hel2⟩ := RdS.at (RdS.of_arg g.2.2.2.2.2.1.2) hy2
          refine sqv hf (r_ixa (sz := 6) (j := q) (evAt rfl hat2) rfl Try.underlying59 (by kernel_rfl) rfl (by omega) rfl) rfl rfl rfl ?_; clear hf fa; intro fa hf
          refine sqv hf (r_fa rfl Try.underlying142 (f := 0) (q := (aoff2 + q * 6)) rfl (by kernel_rfl) rfl) rfl rfl rfl ?_; clear hf fa; intro fa hf
          refine sqv hf (r_loadA (cs := [(.int .u8 y2.1.1), (.bool y2.1.2.1)]) rfl Try.underlying101 rfl (by kernel_rfl) (cellsAt_part (d := 0) (n := 2) (cellsAt_below hel2 hb hlb2) rfl rfl)) rfl rfl rfl ?_; clear hf fa; intro fa hf
          refine sqdt hf (d_bslice (z := (.agg #[(.int .u8 (0 : Int)), (.bool false)])) (sz := 2) (vs := [(0, (.agg #[(.int .u8 y2.1.1), (.bool y2.1.2.1)]))]) (cs := #[(.int .u8 y2.1.1), (.bool y2.1.2.1)]) rfl Try.underlying153 (by kernel_rfl) rfl (by kernel_rfl)) rfl rfl rfl ?_; clear hf fa; rintro fa _ w6 ⟨b3, rfl, hle3, hk3, he3⟩ hf
          have hBb3 : w.heap.size ≤ b3 := Nat.le_trans hb.size hle3
          have : b1 < b3 := Nat.lt_of_lt_of_le (blk_lt hkb1) hle3
          have hnr2 : (Value.slice rpa ((((gtT m.2.1.list ++ ownT (m.2.2.2.2.2.1.list.take q))).length)) rpc).ownBlock ≠ some b3 := fun hq => by have := (Row.lt hrp _ hq).2; omega
          replace hkb1 := blk_ext hkb1 he3
          replace hrp := Row.ext hrp he3
          replace hb := hb.trans (Below.mono he3 hb.size)
          have hs2 := Row.rd (by intros; rfl) (Row.of_new (k := 2) (V := vMGt) (l := [y2.1]) hk3 (Nat.le_refl _) rfl rfl (Nat.le_of_ble_eq_true rfl))
          refine sqdt hf (d_append (V := vMGt) (k := 2) (e := 101) (bytes := 2) (z := (.agg #[(.int .u8 (0 : Int)), (.bool false)])) (news := [y2.1]) (base := w.heap.size) (by intros; rfl) (by exact oneMGt) rfl rfl Try.underlying153 (by kernel_rfl) rfl rfl rfl hrp hs2 rfl (fun h => by cases h) (by first | omega | (simp only [List.length_cons, List.length_nil, List.length_append]; omega)) (by have := hb.size; omega)) rfl rfl rfl ?_; clear hf fa; rintro fa v w7 ⟨hr2, hg2⟩ hf; obtain ⟨ra2, rc2, rfl, hcrc2, hmrc2⟩ := Row.slice hr2
          replace hkb1 := blk_row' hkb1 hg2 (Row.ne_type hrp hkb1 rfl)
          replace hb := hb.trans (row_below hrp hg2 hb.size (by have := hb.size; omega))
          refine sqv hf (r_assign rfl) rfl rfl rfl ?_; clear hf fa; intro fa hf
          apply wpList_nil
          (try simp only [Exit.then, Exit.inBlock, ↓reduceIte, Nat.reduceEqDiff])
          refine hK14 _ _ ?_
          refine wp_region_lit ?_
          refine sqv hf (r_move rfl) rfl rfl rfl ?_; clear hf fa; intro fa hf
          refine sqv hf (r_add (C := (((q : Nat) : Int) + (1 : Int))) rfl rfl (by rw [IntKind.wrap_i64]; omega)) rfl rfl rfl ?_; clear hf fa; intro fa hf
          refine sqv hf (r_assign rfl) rfl rfl rfl ?_; clear hf fa; intro fa hf
          apply wpList_nil
          (try simp only [Exit.then, Exit.inBlock, ↓reduceIte, Nat.reduceEqDiff])
          have hle := congrArg List.length (own_snoc (G := gtT m.2.1.list) hy2)
          simp only [List.length_append, List.length_cons, List.length_nil] at hle
          refine hKL2 _ _ _ (by omega) ⟨(q + 1), ra2, rc2, rfl, hf.sub ⟨rfl, rfl, (some_int (by first | rfl | omega)), (some_sl (by first | omega | (simp only [List.length_append, List.length_cons, List.length_nil]; omega) | (simp <;> omega)) rfl), trivial⟩, hb, (rowToL hr2 (own_snoc hy2)), hkb1, by omega⟩
        · have hqt37_1b := hqt37_1
          replace hqt37_1 := Bool.eq_false_iff.1 hqt37_1
          try simp only [ne_eq, decide_eq_true_eq, Bool.and_eq_true, Bool.or_eq_true, Bool.not_eq_true', decide_eq_false_iff_not] at hqt37_1
          refine wp_exit ?_
          (try simp only [Exit.then, Exit.inBlock, ↓reduceIte, Nat.reduceEqDiff])
          refine hK10 _ _ ?_
          refine wp_seq_k (fun K15 hK15 => ?_)
          refine wp_region_lit ?_
          refine sqv hf (r_move rfl) rfl rfl rfl ?_; clear hf fa; intro fa hf
          refine sqv hf (r_move rfl) rfl rfl rfl ?_; clear hf fa; intro fa hf
          refine sqv hf (r_assign rfl) rfl rfl rfl ?_; clear hf fa; intro fa hf
          refine sqv hf (r_assign rfl) rfl rfl rfl ?_; clear hf fa; intro fa hf
          apply wpList_nil
          (try simp only [Exit.then, Exit.inBlock, ↓reduceIte, Nat.reduceEqDiff])
          refine hK15 _ _ ?_
          refine wp_ret ?_
          (try simp only [Exit.then, Exit.inBlock])
          refine ret2 hf rfl rfl rfl ?_
          have hfe : (gtT m.2.1.list ++ ownT (m.2.2.2.2.2.1.list.take q)) = gtypesP m := (by unfold gtypesP; rw [show q = m.2.2.2.2.2.1.len by omega, take_list])
          exact ⟨_, rfl, rpa, rpc, by rw [hfe], rowToL hrp hfe, hb⟩

set_option maxHeartbeats 1000000 in
set_option maxRecDepth 100000 in
theorem gtaken_any (m : MMd) (w : World) (g : fMMd w m) (hs : smallP m) : Calls Try.prog 75 #[(.agg #[(.slice m.1.at' m.1.len m.1.cap), (.slice m.2.1.at' m.2.1.len m.2.1.cap), (.slice m.2.2.1.at' m.2.2.1.len m.2.2.1.cap), (.slice m.2.2.2.1.at' m.2.2.2.1.len m.2.2.2.1.cap), (.slice m.2.2.2.2.1.at' m.2.2.2.2.1.len m.2.2.2.2.1.cap), (.slice m.2.2.2.2.2.1.at' m.2.2.2.2.2.1.len m.2.2.2.2.2.1.cap), (.slice m.2.2.2.2.2.2.1.at' m.2.2.2.2.2.2.1.len m.2.2.2.2.2.2.1.cap), (.int .i64 m.2.2.2.2.2.2.2.1), (.slice m.2.2.2.2.2.2.2.2.1.at' m.2.2.2.2.2.2.2.2.1.len m.2.2.2.2.2.2.2.2.1.cap), (.slice m.2.2.2.2.2.2.2.2.2.1.at' m.2.2.2.2.2.2.2.2.2.1.len m.2.2.2.2.2.2.2.2.2.1.cap), (.slice m.2.2.2.2.2.2.2.2.2.2.1.at' m.2.2.2.2.2.2.2.2.2.2.1.len m.2.2.2.2.2.2.2.2.2.2.1.cap), (.bool m.2.2.2.2.2.2.2.2.2.2.2.1.1), (.int .u32 m.2.2.2.2.2.2.2.2.2.2.2.1.2.1), (.int .u32 m.2.2.2.2.2.2.2.2.2.2.2.1.2.2.1), (.int .u32 m.2.2.2.2.2.2.2.2.2.2.2.1.2.2.2.1), (.int .u32 m.2.2.2.2.2.2.2.2.2.2.2.1.2.2.2.2.1), (.slice m.2.2.2.2.2.2.2.2.2.2.2.1.2.2.2.2.2.1.at' m.2.2.2.2.2.2.2.2.2.2.2.1.2.2.2.2.2.1.len m.2.2.2.2.2.2.2.2.2.2.2.1.2.2.2.2.2.1.cap)])] w fun e w' => ∃ v, e = .returned v ∧ (∃ a c, v = .slice a (gtT m.2.1.list).length c ∧ Below w.heap.size w w') := by
  have hz_m0 := g.2.1.1; have hl_m0 := g.2.1.2.1; have hm_m0 := g.2.1.2.2.1; have hn_m0 := g.2.1.2.2.2.1; (try unfold maxLen at hm_m0)
  have hz_m1 := g.2.2.2.2.2.1.1; have hl_m1 := g.2.2.2.2.2.1.2.1; have hm_m1 := g.2.2.2.2.2.1.2.2.1; have hn_m1 := g.2.2.2.2.2.1.2.2.2.1; (try unfold maxLen at hm_m1)
  unfold smallP at hs
  have hgy := gtypes_len m
  have hml : maxLen = 9223372036854775807 := rfl
  refine sx_enter (L := [(0, (.agg #[(.slice m.1.at' m.1.len m.1.cap), (.slice m.2.1.at' m.2.1.len m.2.1.cap), (.slice m.2.2.1.at' m.2.2.1.len m.2.2.1.cap), (.slice m.2.2.2.1.at' m.2.2.2.1.len m.2.2.2.1.cap), (.slice m.2.2.2.2.1.at' m.2.2.2.2.1.len m.2.2.2.2.1.cap), (.slice m.2.2.2.2.2.1.at' m.2.2.2.2.2.1.len m.2.2.2.2.2.1.cap), (.slice m.2.2.2.2.2.2.1.at' m.2.2.2.2.2.2.1.len m.2.2.2.2.2.2.1.cap), (.int .i64 m.2.2.2.2.2.2.2.1), (.slice m.2.2.2.2.2.2.2.2.1.at' m.2.2.2.2.2.2.2.2.1.len m.2.2.2.2.2.2.2.2.1.cap), (.slice m.2.2.2.2.2.2.2.2.2.1.at' m.2.2.2.2.2.2.2.2.2.1.len m.2.2.2.2.2.2.2.2.2.1.cap), (.slice m.2.2.2.2.2.2.2.2.2.2.1.at' m.2.2.2.2.2.2.2.2.2.2.1.len m.2.2.2.2.2.2.2.2.2.2.1.cap), (.bool m.2.2.2.2.2.2.2.2.2.2.2.1.1), (.int .u32 m.2.2.2.2.2.2.2.2.2.2.2.1.2.1), (.int .u32 m.2.2.2.2.2.2.2.2.2.2.2.1.2.2.1), (.int .u32 m.2.2.2.2.2.2.2.2.2.2.2.1.2.2.2.1), (.int .u32 m.2.2.2.2.2.2.2.2.2.2.2.1.2.2.2.2.1), (.slice m.2.2.2.2.2.2.2.2.2.2.2.1.2.2.2.2.2.1.at' m.2.2.2.2.2.2.2.2.2.2.2.1.2.2.2.2.2.1.len m.2.2.2.2.2.2.2.2.2.2.2.1.2.2.2.2.2.1.cap)]))]) Try.func75 rfl rfl rfl rfl (fun fa hf => ?_)
  have hb : Below w.heap.size w w := Below.refl _ _
  refine wp_seq_k (fun K1 hK1 => ?_)
  refine wp_region_lit ?_
  refine sqdt hf (d_box (cs := #[(.slice m.1.at' m.1.len m.1.cap), (.slice m.2.1.at' m.2.1.len m.2.1.cap), (.slice m.2.2.1.at' m.2.2.1.len m.2.2.1.cap), (.slice m.2.2.2.1.at' m.2.2.2.1.len m.2.2.2.1.cap), (.slice m.2.2.2.2.1.at' m.2.2.2.2.1.len m.2.2.2.2.1.cap), (.slice m.2.2.2.2.2.1.at' m.2.2.2.2.2.1.len m.2.2.2.2.2.1.cap), (.slice m.2.2.2.2.2.2.1.at' m.2.2.2.2.2.2.1.len m.2.2.2.2.2.2.1.cap), (.int .i64 m.2.2.2.2.2.2.2.1), (.slice m.2.2.2.2.2.2.2.2.1.at' m.2.2.2.2.2.2.2.2.1.len m.2.2.2.2.2.2.2.2.1.cap), (.slice m.2.2.2.2.2.2.2.2.2.1.at' m.2.2.2.2.2.2.2.2.2.1.len m.2.2.2.2.2.2.2.2.2.1.cap), (.slice m.2.2.2.2.2.2.2.2.2.2.1.at' m.2.2.2.2.2.2.2.2.2.2.1.len m.2.2.2.2.2.2.2.2.2.2.1.cap), (.bool m.2.2.2.2.2.2.2.2.2.2.2.1.1), (.int .u32 m.2.2.2.2.2.2.2.2.2.2.2.1.2.1), (.int .u32 m.2.2.2.2.2.2.2.2.2.2.2.1.2.2.1), (.int .u32 m.2.2.2.2.2.2.2.2.2.2.2.1.2.2.2.1), (.int .u32 m.2.2.2.2.2.2.2.2.2.2.2.1.2.2.2.2.1), (.slice m.2.2.2.2.2.2.2.2.2.2.2.1.2.2.2.2.2.1.at' m.2.2.2.2.2.2.2.2.2.2.2.1.2.2.2.2.2.1.len m.2.2.2.2.2.2.2.2.2.2.2.1.2.2.2.2.2.1.cap)]) rfl rfl) rfl rfl rfl ?_; clear hf fa; rintro fa _ w1 ⟨b1, rfl, hle1, hk1, he1⟩ hf
  have hBb1 : w.heap.size ≤ b1 := Nat.le_trans hb.size hle1
  replace hb := hb.trans (Below.mono he1 hb.size)
  refine sqv hf (r_assign rfl) rfl rfl rfl ?_; clear hf fa; intro fa hf
  apply wpList_nil
  (try simp only [Exit.then, Exit.inBlock, ↓reduceIte, Nat.reduceEqDiff])
  refine hK1 _ _ ?_
  refine wp_seq_k (fun K2 hK2 => ?_)
  refine wp_region_lit ?_
  refine sqv hf (r_loadA (cs := [(.slice m.1.at' m.1.len m.1.cap), (.slice m.2.1.at' m.2.1.len m.2.1.cap), (.slice m.2.2.1.at' m.2.2.1.len m.2.2.1.cap), (.slice m.2.2.2.1.at' m.2.2.2.1.len m.2.2.2.1.cap), (.slice m.2.2.2.2.1.at' m.2.2.2.2.1.len m.2.2.2.2.1.cap), (.slice m.2.2.2.2.2.1.at' m.2.2.2.2.2.1.len m.2.2.2.2.2.1.cap), (.slice m.2.2.2.2.2.2.1.at' m.2.2.2.2.2.2.1.len m.2.2.2.2.2.2.1.cap), (.int .i64 m.2.2.2.2.2.2.2.1), (.slice m.2.2.2.2.2.2.2.2.1.at' m.2.2.2.2.2.2.2.2.1.len m.2.2.2.2.2.2.2.2.1.cap), (.slice m.2.2.2.2.2.2.2.2.2.1.at' m.2.2.2.2.2.2.2.2.2.1.len m.2.2.2.2.2.2.2.2.2.1.cap), (.slice m.2.2.2.2.2.2.2.2.2.2.1.at' m.2.2.2.2.2.2.2.2.2.2.1.len m.2.2.2.2.2.2.2.2.2.2.1.cap), (.bool m.2.2.2.2.2.2.2.2.2.2.2.1.1), (.int .u32 m.2.2.2.2.2.2.2.2.2.2.2.1.2.1), (.int .u32 m.2.2.2.2.2.2.2.2.2.2.2.1.2.2.1), (.int .u32 m.2.2.2.2.2.2.2.2.2.2.2.1.2.2.2.1), (.int .u32 m.2.2.2.2.2.2.2.2.2.2.2.1.2.2.2.2.1), (.slice m.2.2.2.2.2.2.2.2.2.2.2.1.2.2.2.2.2.1.at' m.2.2.2.2.2.2.2.2.2.2.2.1.2.2.2.2.2.1.len m.2.2.2.2.2.2.2.2.2.2.2.1.2.2.2.2.2.1.cap)]) rfl Try.underlying67 rfl (by kernel_rfl) (cellsAt_blk hk1)) rfl rfl rfl ?_; clear hf fa; intro fa hf
  refine sqdt hf (d_callX (vs := [(.agg #[(.slice m.1.at' m.1.len m.1.cap), (.slice m.2.1.at' m.2.1.len m.2.1.cap), (.slice m.2.2.1.at' m.2.2.1.len m.2.2.1.cap), (.slice m.2.2.2.1.at' m.2.2.2.1.len m.2.2.2.1.cap), (.slice m.2.2.2.2.1.at' m.2.2.2.2.1.len m.2.2.2.2.1.cap), (.slice m.2.2.2.2.2.1.at' m.2.2.2.2.2.1.len m.2.2.2.2.2.1.cap), (.slice m.2.2.2.2.2.2.1.at' m.2.2.2.2.2.2.1.len m.2.2.2.2.2.2.1.cap), (.int .i64 m.2.2.2.2.2.2.2.1), (.slice m.2.2.2.2.2.2.2.2.1.at' m.2.2.2.2.2.2.2.2.1.len m.2.2.2.2.2.2.2.2.1.cap), (.slice m.2.2.2.2.2.2.2.2.2.1.at' m.2.2.2.2.2.2.2.2.2.1.len m.2.2.2.2.2.2.2.2.2.1.cap), (.slice m.2.2.2.2.2.2.2.2.2.2.1.at' m.2.2.2.2.2.2.2.2.2.2.1.len m.2.2.2.2.2.2.2.2.2.2.1.cap), (.bool m.2.2.2.2.2.2.2.2.2.2.2.1.1), (.int .u32 m.2.2.2.2.2.2.2.2.2.2.2.1.2.1), (.int .u32 m.2.2.2.2.2.2.2.2.2.2.2.1.2.2.1), (.int .u32 m.2.2.2.2.2.2.2.2.2.2.2.1.2.2.2.1), (.int .u32 m.2.2.2.2.2.2.2.2.2.2.2.1.2.2.2.2.1), (.slice m.2.2.2.2.2.2.2.2.2.2.2.1.2.2.2.2.2.1.at' m.2.2.2.2.2.2.2.2.2.2.2.1.2.2.2.2.2.1.len m.2.2.2.2.2.2.2.2.2.2.2.1.2.2.2.2.2.1.cap)])]) rfl Try.func74 (by kernel_rfl) (by kernel_rfl) (gtypes_any m _ (rdMMd.kept _ _ _ hb g) hs)) rfl rfl rfl ?_; clear hf fa; rintro fa v w2 ⟨hr1, he2⟩ hf; obtain ⟨ra1, rc1, rfl, hcrc1, hmrc1⟩ := Row.slice hr1
  replace hr1 := Row.rebase hr1 hb.size
  replace hk1 := blk_ext hk1 he2
  replace hb := hb.trans (Below.mono he2 hb.size)
  refine sqv hf (r_assign rfl) rfl rfl rfl ?_; clear hf fa; intro fa hf
  apply wpList_nil
  (try simp only [Exit.then, Exit.inBlock, ↓reduceIte, Nat.reduceEqDiff])
  refine hK2 _ _ ?_
  refine wp_seq_k (fun K3 hK3 => ?_)
  refine wp_region_lit ?_
  refine sqv hf (r_move rfl) rfl rfl rfl ?_; clear hf fa; intro fa hf
  refine sqv hf (r_move rfl) rfl rfl rfl ?_; clear hf fa; intro fa hf
  refine sqv hf (r_lensl rfl Try.underlying153) rfl rfl rfl ?_; clear hf fa; intro fa hf
  refine sqv hf (r_fa rfl Try.underlying67 (f := 5) (q := 5) rfl (by kernel_rfl) rfl) rfl rfl rfl ?_; clear hf fa; intro fa hf
  refine sqv hf (r_load (v := (.slice m.2.2.2.2.2.1.at' m.2.2.2.2.2.1.len m.2.2.2.2.2.1.cap)) rfl Try.underlying59 rfl (cell_blk hk1 rfl)) rfl rfl rfl ?_; clear hf fa; intro fa hf
  refine sqv hf (r_lensl rfl Try.underlying59) rfl rfl rfl ?_; clear hf fa; intro fa hf
  refine sqv hf (r_sub (C := (((((gtypesP m)).length : Nat) : Int) - ((m.2.2.2.2.2.1.len : Nat) : Int))) rfl rfl (by rw [IntKind.wrap_i64]; omega)) rfl rfl rfl ?_; clear hf fa; intro fa hf
  refine sqv hf (r_slto (m := ((((gtypesP m)).length) - m.2.2.2.2.2.1.len)) rfl rfl Try.underlying153 (by kernel_rfl) (by omega) (by omega)) rfl rfl rfl ?_; clear hf fa; intro fa hf
  refine sqv hf (r_assign rfl) rfl rfl rfl ?_; clear hf fa; intro fa hf
  apply wpList_nil
  (try simp only [Exit.then, Exit.inBlock, ↓reduceIte, Nat.reduceEqDiff])
  refine hK3 _ _ ?_
  refine wp_ret ?_
  (try simp only [Exit.then, Exit.inBlock])
  refine ret1 hf rfl rfl ?_
  exact ⟨_, rfl, ra1, rc1, by congr 1; omega, hb⟩
end Go.Proofs.Ytahgkfekggkjnaa
