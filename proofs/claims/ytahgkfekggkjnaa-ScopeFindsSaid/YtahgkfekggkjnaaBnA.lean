/- What is proved here: which functions a module has and takes, and their types. -/
import Derived.Test.YtahgkfekggkjnaaScA
namespace Go.Proofs.Ytahgkfekggkjnaa
open Go.RowKit
set_option linter.unusedVariables false
set_option linter.unusedSimpArgs false
def takenR (l : List MImp) : List MImp := l.filter fun x => decide (x.2.2.1 = 0)
def typesT (l : List MImp) : List Int := (takenR l).map fun x => x.2.2.2.1
def namesT (l : List MImp) : List ByteArray := (takenR l).map fun x => x.2.1
def funcsP (m : MMd) : List Int := typesT m.2.1.list ++ m.2.2.1.list
@[simp] theorem takenR_nil : takenR [] = [] := rfl
@[simp] theorem typesT_nil : typesT [] = [] := rfl
@[simp] theorem namesT_nil : namesT [] = [] := rfl
theorem rowTo {α : Type} {k e base : Nat} {V : α → List Value} {w : World} {v : Value} {l l' : List α} (h : Row k V e base w v l) (he : l = l') : Row k V e base w v l' := he ▸ h
theorem rowToL {α : Type} {k e base n c : Nat} {V : α → List Value} {w : World} {a : Option Addr} {l l' : List α} (h : Row k V e base w (.slice a n c) l) (he : l = l') : Row k V e base w (.slice a l'.length c) l' := he ▸ h.relen
theorem taken_yes {l : List MImp} {k : Nat} {y : MImp} (hy : l[k]? = some y) (h : y.2.2.1 = 0) : takenR (l.take (k + 1)) = takenR (l.take k) ++ [y] := by
  unfold takenR
  rw [List.take_add_one, hy, List.filter_append]
  simp [h]
theorem taken_no {l : List MImp} {k : Nat} {y : MImp} (hy : l[k]? = some y) (h : ¬ y.2.2.1 = 0) : takenR (l.take (k + 1)) = takenR (l.take k) := by
  unfold takenR
  rw [List.take_add_one, hy, List.filter_append]
  simp [h]
theorem taken_len (l : List MImp) : (takenR l).length ≤ l.length := List.length_filter_le _ _
theorem types_yes {l : List MImp} {k : Nat} {y : MImp} (hy : l[k]? = some y) (h : y.2.2.1 = 0) : typesT (l.take k) ++ [y.2.2.2.1] = typesT (l.take (k + 1)) := by unfold typesT; rw [taken_yes hy h, List.map_append]; rfl
theorem types_no {l : List MImp} {k : Nat} {y : MImp} (hy : l[k]? = some y) (h : ¬ y.2.2.1 = 0) : typesT (l.take k) = typesT (l.take (k + 1)) := by unfold typesT; rw [taken_no hy h]
theorem names_yes {l : List MImp} {k : Nat} {y : MImp} (hy : l[k]? = some y) (h : y.2.2.1 = 0) : namesT (l.take k) ++ [y.2.1] = namesT (l.take (k + 1)) := by unfold namesT; rw [taken_yes hy h, List.map_append]; rfl
theorem names_no {l : List MImp} {k : Nat} {y : MImp} (hy : l[k]? = some y) (h : ¬ y.2.2.1 = 0) : namesT (l.take k) = namesT (l.take (k + 1)) := by unfold namesT; rw [taken_no hy h]
theorem types_len (l : List MImp) (k : Nat) : (typesT (l.take k)).length ≤ k := by
  have h := taken_len (l.take k)
  rw [List.length_take] at h
  unfold typesT; rw [List.length_map]; omega
theorem names_len (l : List MImp) (k : Nat) : (namesT (l.take k)).length ≤ k := by
  have h := taken_len (l.take k)
  rw [List.length_take] at h
  unfold namesT; rw [List.length_map]; omega
theorem take_list {α : Type} (d : Sl α) : d.list.take d.len = d.list := List.take_of_length_le (by rw [Sl.list_length]; exact Nat.le_refl _)
theorem funcs_rng {w : World} {m : MMd} (g : fMMd w m) : ∀ x ∈ funcsP m, 0 ≤ x ∧ x < 4294967296 := by
  intro x hx
  unfold funcsP typesT takenR at hx
  rcases List.mem_append.1 hx with h | h
  · obtain ⟨y, hy, rfl⟩ := List.mem_map.1 h
    exact fInt_u32 (w := w) (fSl_mem g.2.1.2 (List.mem_filter.1 hy).1).2.2.2.1
  · exact fInt_u32 (w := w) (fSl_mem g.2.2.1.2 h)
theorem getD_memL {α : Type} {l : List α} {j : Nat} {z : α} (h : j < l.length) : l.getD j z ∈ l := by
  rw [List.getD_eq_getElem?_getD, List.getElem?_eq_getElem h]
  exact List.getElem_mem h

set_option maxHeartbeats 1000000 in
set_option maxRecDepth 100000 in
theorem funcs_any (m : MMd) (w : World) (g : fMMd w m) (hs : smallP m) : Calls Try.prog 93 #[(.agg #[(.slice m.1.at' m.1.len m.1.cap), (.slice m.2.1.at' m.2.1.len m.2.1.cap), (.slice m.2.2.1.at' m.2.2.1.len m.2.2.1.cap), (.slice m.2.2.2.1.at' m.2.2.2.1.len m.2.2.2.1.cap), (.slice m.2.2.2.2.1.at' m.2.2.2.2.1.len m.2.2.2.2.1.cap), (.slice m.2.2.2.2.2.1.at' m.2.2.2.2.2.1.len m.2.2.2.2.2.1.cap), (.slice m.2.2.2.2.2.2.1.at' m.2.2.2.2.2.2.1.len m.2.2.2.2.2.2.1.cap), (.int .i64 m.2.2.2.2.2.2.2.1), (.slice m.2.2.2.2.2.2.2.2.1.at' m.2.2.2.2.2.2.2.2.1.len m.2.2.2.2.2.2.2.2.1.cap), (.slice m.2.2.2.2.2.2.2.2.2.1.at' m.2.2.2.2.2.2.2.2.2.1.len m.2.2.2.2.2.2.2.2.2.1.cap), (.slice m.2.2.2.2.2.2.2.2.2.2.1.at' m.2.2.2.2.2.2.2.2.2.2.1.len m.2.2.2.2.2.2.2.2.2.2.1.cap), (.bool m.2.2.2.2.2.2.2.2.2.2.2.1.1), (.int .u32 m.2.2.2.2.2.2.2.2.2.2.2.1.2.1), (.int .u32 m.2.2.2.2.2.2.2.2.2.2.2.1.2.2.1), (.int .u32 m.2.2.2.2.2.2.2.2.2.2.2.1.2.2.2.1), (.int .u32 m.2.2.2.2.2.2.2.2.2.2.2.1.2.2.2.2.1), (.slice m.2.2.2.2.2.2.2.2.2.2.2.1.2.2.2.2.2.1.at' m.2.2.2.2.2.2.2.2.2.2.2.1.2.2.2.2.2.1.len m.2.2.2.2.2.2.2.2.2.2.2.1.2.2.2.2.2.1.cap)])] w fun e w' => ∃ v, e = .returned v ∧ Row 1 (vInt .u32) 44 w.heap.size w' v (funcsP m) ∧ Below w.heap.size w w' := by
  have hz_m0 := g.2.1.1; have hl_m0 := g.2.1.2.1; have hm_m0 := g.2.1.2.2.1; have hn_m0 := g.2.1.2.2.2.1; (try unfold maxLen at hm_m0)
  have hz_m1 := g.2.2.1.1; have hl_m1 := g.2.2.1.2.1; have hm_m1 := g.2.2.1.2.2.1; have hn_m1 := g.2.2.1.2.2.2.1; (try unfold maxLen at hm_m1)
  unfold smallP at hs
  have hfl := Sl.list_length m.2.2.1
  refine sx_enter (L := [(0, (.agg #[(.slice m.1.at' m.1.len m.1.cap), (.slice m.2.1.at' m.2.1.len m.2.1.cap), (.slice m.2.2.1.at' m.2.2.1.len m.2.2.1.cap), (.slice m.2.2.2.1.at' m.2.2.2.1.len m.2.2.2.1.cap), (.slice m.2.2.2.2.1.at' m.2.2.2.2.1.len m.2.2.2.2.1.cap), (.slice m.2.2.2.2.2.1.at' m.2.2.2.2.2.1.len m.2.2.2.2.2.1.cap), (.slice m.2.2.2.2.2.2.1.at' m.2.2.2.2.2.2.1.len m.2.2.2.2.2.2.1.cap), (.int .i64 m.2.2.2.2.2.2.2.1), (.slice m.2.2.2.2.2.2.2.2.1.at' m.2.2.2.2.2.2.2.2.1.len m.2.2.2.2.2.2.2.2.1.cap), (.slice m.2.2.2.2.2.2.2.2.2.1.at' m.2.2.2.2.2.2.2.2.2.1.len m.2.2.2.2.2.2.2.2.2.1.cap), (.slice m.2.2.2.2.2.2.2.2.2.2.1.at' m.2.2.2.2.2.2.2.2.2.2.1.len m.2.2.2.2.2.2.2.2.2.2.1.cap), (.bool m.2.2.2.2.2.2.2.2.2.2.2.1.1), (.int .u32 m.2.2.2.2.2.2.2.2.2.2.2.1.2.1), (.int .u32 m.2.2.2.2.2.2.2.2.2.2.2.1.2.2.1), (.int .u32 m.2.2.2.2.2.2.2.2.2.2.2.1.2.2.2.1), (.int .u32 m.2.2.2.2.2.2.2.2.2.2.2.1.2.2.2.2.1), (.slice m.2.2.2.2.2.2.2.2.2.2.2.1.2.2.2.2.2.1.at' m.2.2.2.2.2.2.2.2.2.2.2.1.2.2.2.2.2.1.len m.2.2.2.2.2.2.2.2.2.2.2.1.2.2.2.2.2.1.cap)]))]) Try.func93 rfl rfl rfl rfl (fun fa hf => ?_)
  have hb : Below w.heap.size w w := Below.refl _ _
  refine wp_seq_k (fun K1 hK1 => ?_)
  refine wp_region_lit ?_
  refine sqdt hf (d_box (cs := #[(.slice m.1.at' m.1.len m.1.cap), (.slice m.2.1.at' m.2.1.len m.2.1.cap), (.slice m.2.2.1.at' m.2.2.1.len m.2.2.1.cap), (.slice m.2.2.2.1.at' m.2.2.2.1.len m.2.2.2.1.cap), (.slice m.2.2.2.2.1.at' m.2.2.2.2.1.len m.2.2.2.2.1.cap), (.slice m.2.2.2.2.2.1.at' m.2.2.2.2.2.1.len m.2.2.2.2.2.1.cap), (.slice m.2.2.2.2.2.2.1.at' m.2.2.2.2.2.2.1.len m.2.2.2.2.2.2.1.cap), (.int .i64 m.2.2.2.2.2.2.2.1), (.slice m.2.2.2.2.2.2.2.2.1.at' m.2.2.2.2.2.2.2.2.1.len m.2.2.2.2.2.2.2.2.1.cap), (.slice m.2.2.2.2.2.2.2.2.2.1.at' m.2.2.2.2.2.2.2.2.2.1.len m.2.2.2.2.2.2.2.2.2.1.cap), (.slice m.2.2.2.2.2.2.2.2.2.2.1.at' m.2.2.2.2.2.2.2.2.2.2.1.len m.2.2.2.2.2.2.2.2.2.2.1.cap), (.bool m.2.2.2.2.2.2.2.2.2.2.2.1.1), (.int .u32 m.2.2.2.2.2.2.2.2.2.2.2.1.2.1), (.int .u32 m.2.2.2.2.2.2.2.2.2.2.2.1.2.2.1), (.int .u32 m.2.2.2.2.2.2.2.2.2.2.2.1.2.2.2.1), (.int .u32 m.2.2.2.2.2.2.2.2.2.2.2.1.2.2.2.2.1), (.slice m.2.2.2.2.2.2.2.2.2.2.2.1.2.2.2.2.2.1.at' m.2.2.2.2.2.2.2.2.2.2.2.1.2.2.2.2.2.1.len m.2.2.2.2.2.2.2.2.2.2.2.1.2.2.2.2.2.1.cap)]) rfl rfl) rfl rfl rfl ?_; clear hf fa; rintro fa _ w1 ⟨b1, rfl, hle1, hk1, he1⟩ hf
  have hBb1 : w.heap.size ≤ b1 := Nat.le_trans hb.size hle1
  replace hb := hb.trans (Below.mono he1 hb.size)
  refine sqv hf (r_assign rfl) rfl rfl rfl ?_; clear hf fa; intro fa hf
  apply wpList_nil
  (try simp only [Exit.then, Exit.inBlock, ↓reduceIte, Nat.reduceEqDiff])
  refine hK1 _ _ ?_
  refine wp_seq_k (fun K2 hK2 => ?_)
  refine wp_region_lit ?_
  refine sqv hf (r_assign rfl) rfl rfl rfl ?_; clear hf fa; intro fa hf
  apply wpList_nil
  (try simp only [Exit.then, Exit.inBlock, ↓reduceIte, Nat.reduceEqDiff])
  refine hK2 _ _ ?_
  refine wp_seq_k (fun K3 hK3 => ?_)
  refine wp_seq_k (fun K4 hK4 => ?_)
  refine wp_region_lit ?_
  refine sqv hf (r_fa rfl Try.underlying67 (f := 1) (q := 1) rfl (by kernel_rfl) rfl) rfl rfl rfl ?_; clear hf fa; intro fa hf
  refine sqv hf (r_load (v := (.slice m.2.1.at' m.2.1.len m.2.1.cap)) rfl Try.underlying57 rfl (cell_blk hk1 rfl)) rfl rfl rfl ?_; clear hf fa; intro fa hf
  refine sqv hf (r_lensl rfl Try.underlying57) rfl rfl rfl ?_; clear hf fa; intro fa hf
  refine sqv hf (r_move rfl) rfl rfl rfl ?_; clear hf fa; intro fa hf
  apply wpList_nil
  (try simp only [Exit.then, Exit.inBlock, ↓reduceIte, Nat.reduceEqDiff])
  refine hK4 _ _ ?_
  refine wp_block ?_
  refine wp_loop_k (fun mq fa wr => ∃ (k : Nat) (roa : Option Addr) (roc : Nat), mq = m.2.1.len - k ∧ Fr 26 fa [(1, (.pointer (some ⟨b1, 0, none⟩))), (7, (.slice m.2.1.at' m.2.1.len m.2.1.cap)), (8, (.int .i64 ((m.2.1.len : Nat) : Int))), (9, (.int .i64 ((k : Nat) : Int))), (3, (.slice roa (((typesT (m.2.1.list.take k))).length) roc))] ∧ Below w.heap.size w wr ∧ Row 1 (vInt .u32) 44 (w.heap.size) wr (.slice roa (((typesT (m.2.1.list.take k))).length) roc) (typesT (m.2.1.list.take k)) ∧ wr.heap[b1]? = some (.cells #[(.slice m.1.at' m.1.len m.1.cap), (.slice m.2.1.at' m.2.1.len m.2.1.cap), (.slice m.2.2.1.at' m.2.2.1.len m.2.2.1.cap), (.slice m.2.2.2.1.at' m.2.2.2.1.len m.2.2.2.1.cap), (.slice m.2.2.2.2.1.at' m.2.2.2.2.1.len m.2.2.2.2.1.cap), (.slice m.2.2.2.2.2.1.at' m.2.2.2.2.2.1.len m.2.2.2.2.2.1.cap), (.slice m.2.2.2.2.2.2.1.at' m.2.2.2.2.2.2.1.len m.2.2.2.2.2.2.1.cap), (.int .i64 m.2.2.2.2.2.2.2.1), (.slice m.2.2.2.2.2.2.2.2.1.at' m.2.2.2.2.2.2.2.2.1.len m.2.2.2.2.2.2.2.2.1.cap), (.slice m.2.2.2.2.2.2.2.2.2.1.at' m.2.2.2.2.2.2.2.2.2.1.len m.2.2.2.2.2.2.2.2.2.1.cap), (.slice m.2.2.2.2.2.2.2.2.2.2.1.at' m.2.2.2.2.2.2.2.2.2.2.1.len m.2.2.2.2.2.2.2.2.2.2.1.cap), (.bool m.2.2.2.2.2.2.2.2.2.2.2.1.1), (.int .u32 m.2.2.2.2.2.2.2.2.2.2.2.1.2.1), (.int .u32 m.2.2.2.2.2.2.2.2.2.2.2.1.2.2.1), (.int .u32 m.2.2.2.2.2.2.2.2.2.2.2.1.2.2.2.1), (.int .u32 m.2.2.2.2.2.2.2.2.2.2.2.1.2.2.2.2.1), (.slice m.2.2.2.2.2.2.2.2.2.2.2.1.2.2.2.2.2.1.at' m.2.2.2.2.2.2.2.2.2.2.2.1.2.2.2.2.2.1.len m.2.2.2.2.2.2.2.2.2.2.2.1.2.2.2.2.2.1.cap)] 67 (0, 0)) ∧ (k ≤ m.2.1.len)) ?_ ?_
  · skip
    exact ⟨_, 0, none, 0, rfl, hf.sub ⟨rfl, rfl, rfl, (some_int (by first | rfl | omega)), (some_sl (by first | omega | (simp <;> omega)) rfl), trivial⟩, hb, Row.nil, hk1, by omega⟩
  · skip
    clear hf fa; intro mq1 fa w2 hI KL1 hKL1
    clear hb
    clear hk1
    obtain ⟨k, roa, roc, hmq1, hf, hb, hro, hkb1, hk⟩ := hI
    have hcro := Row.caps hro
    have hbl := types_len m.2.1.list k
    refine wp_seq_k (fun K5 hK5 => ?_)
    refine wp_region_lit ?_
    refine sqv hf (r_lt rfl rfl) rfl rfl rfl ?_; clear hf fa; intro fa hf
    apply wpList_nil
    (try simp only [Exit.then, Exit.inBlock, ↓reduceIte, Nat.reduceEqDiff])
    refine hK5 _ _ ?_
    refine wp_seq_k (fun K6 hK6 => ?_)
    refine wp_cond_split (t := (decide (((k : Nat) : Int) < ((m.2.1.len : Nat) : Int)))) (hf.ev rfl) (fun hqt10_1 => ?_) (fun hqt10_1 => ?_)
    · have hqt10_1b := hqt10_1
      try simp only [decide_eq_true_eq, Bool.and_eq_true, Bool.or_eq_true, Bool.not_eq_true', decide_eq_false_iff_not, ne_eq, Bool.not_eq_true] at hqt10_1
      refine wp_skip ?_
      (try simp only [Exit.then, Exit.inBlock, ↓reduceIte, Nat.reduceEqDiff])
      refine hK6 _ _ ?_
      refine wp_seq_k (fun K7 hK7 => ?_)
      refine wp_block ?_
      refine wp_seq_k (fun K8 hK8 => ?_)
      refine wp_region_lit ?_
      obtain ⟨y1, hy1⟩ : ∃ x, (m.2.1.list)[k]? = some x := ⟨_, List.getElem?_eq_getElem (by (try simp only [Sl.list_length]); omega)⟩
      obtain ⟨ab1, aoff1, hat1, hlb1, hel1⟩ := RdS.at (RdS.of_arg g.2.1.2) hy1
      refine sqv hf (r_ixa (sz := 9) (j := k) (evAt rfl hat1) rfl Try.underlying57 (by kernel_rfl) rfl (by omega) rfl) rfl rfl rfl ?_; clear hf fa; intro fa hf
      refine sqv hf (r_loadA (cs := [(.string y1.1), (.string y1.2.1), (.int .u8 y1.2.2.1), (.int .u32 y1.2.2.2.1), (.int .u32 y1.2.2.2.2.1.1), (.int .u32 y1.2.2.2.2.1.2.1), (.bool y1.2.2.2.2.1.2.2.1), (.int .u8 y1.2.2.2.2.2.1.1), (.bool y1.2.2.2.2.2.1.2.1)]) rfl Try.underlying103 rfl (by kernel_rfl) (cellsAt_below hel1 hb hlb1)) rfl rfl rfl ?_; clear hf fa; intro fa hf
      refine sqdt hf (d_alloc (z := (.agg #[(.string ⟨#[]⟩), (.string ⟨#[]⟩), (.int .u8 (0 : Int)), (.int .u32 (0 : Int)), (.int .u32 (0 : Int)), (.int .u32 (0 : Int)), (.bool false), (.int .u8 (0 : Int)), (.bool false)])) (cs := #[(.string ⟨#[]⟩), (.string ⟨#[]⟩), (.int .u8 (0 : Int)), (.int .u32 (0 : Int)), (.int .u32 (0 : Int)), (.int .u32 (0 : Int)), (.bool false), (.int .u8 (0 : Int)), (.bool false)]) (by kernel_rfl) rfl) rfl rfl rfl ?_; clear hf fa; rintro fa _ w3 ⟨b2, rfl, hle2, hk2, he2⟩ hf
      have hBb2 : w.heap.size ≤ b2 := Nat.le_trans hb.size hle2
      have : b1 < b2 := Nat.lt_of_lt_of_le (blk_lt hkb1) hle2
      replace hkb1 := blk_ext hkb1 he2
      replace hro := Row.ext hro he2
      replace hb := hb.trans (Below.mono he2 hb.size)
      refine sqn hf (d_storeK (T := 103) (v := (.agg #[(.string y1.1), (.string y1.2.1), (.int .u8 y1.2.2.1), (.int .u32 y1.2.2.2.1), (.int .u32 y1.2.2.2.2.1.1), (.int .u32 y1.2.2.2.2.1.2.1), (.bool y1.2.2.2.2.1.2.2.1), (.int .u8 y1.2.2.2.2.2.1.1), (.bool y1.2.2.2.2.2.1.2.1)])) (cs := #[(.string ⟨#[]⟩), (.string ⟨#[]⟩), (.int .u8 (0 : Int)), (.int .u32 (0 : Int)), (.int .u32 (0 : Int)), (.int .u32 (0 : Int)), (.bool false), (.int .u8 (0 : Int)), (.bool false)]) (cs' := #[(.string y1.1), (.string y1.2.1), (.int .u8 y1.2.2.1), (.int .u32 y1.2.2.2.1), (.int .u32 y1.2.2.2.2.1.1), (.int .u32 y1.2.2.2.2.1.2.1), (.bool y1.2.2.2.2.1.2.2.1), (.int .u8 y1.2.2.2.2.2.1.1), (.bool y1.2.2.2.2.2.1.2.1)]) rfl rfl (by kernel_rfl) (by kernel_rfl) hk2 (by kernel_rfl) (by kernel_rfl)) rfl rfl ?_; clear hf fa; rintro fa _ w4 ⟨hk3, hg1⟩ hf
      replace hkb1 := blk_grown hkb1 hg1 (by omega)
      replace hro := Row.grown hro hg1 (Row.ne_type hro hk2 rfl)
      replace hb := hb.trans (grown_below hg1 hb.size hBb2)
      apply wpList_nil
      (try simp only [Exit.then, Exit.inBlock, ↓reduceIte, Nat.reduceEqDiff])
      refine hK8 _ _ ?_
      refine wp_seq_k (fun K9 hK9 => ?_)
      refine wp_region_lit ?_
      refine sqv hf (r_fa rfl Try.underlying103 (f := 2) (q := 2) rfl (by kernel_rfl) rfl) rfl rfl rfl ?_; clear hf fa; intro fa hf
      refine sqv hf (r_load (v := (.int .u8 y1.2.2.1)) rfl Try.underlying5 rfl (cell_blk hk3 rfl)) rfl rfl rfl ?_; clear hf fa; intro fa hf
      refine sqv hf (r_eq rfl rfl) rfl rfl rfl ?_; clear hf fa; intro fa hf
      apply wpList_nil
      (try simp only [Exit.then, Exit.inBlock, ↓reduceIte, Nat.reduceEqDiff])
      refine hK9 _ _ ?_
      refine wp_cond_split (t := (decide (y1.2.2.1 = (0 : Int)))) (hf.ev rfl) (fun hqt15_1 => ?_) (fun hqt15_1 => ?_)
      · have hqt15_1b := hqt15_1
        try simp only [decide_eq_true_eq, Bool.and_eq_true, Bool.or_eq_true, Bool.not_eq_true', decide_eq_false_iff_not, ne_eq, Bool.not_eq_true] at hqt15_1
        refine wp_region_lit ?_
        refine sqv hf (r_move rfl) rfl rfl rfl ?_; clear hf fa; intro fa hf
        refine sqv hf (r_fa rfl Try.underlying103 (f := 3) (q := 3) rfl (by kernel_rfl) rfl) rfl rfl rfl ?_; clear hf fa; intro fa hf
        refine sqv hf (r_load (v := (.int .u32 y1.2.2.2.1)) rfl Try.underlying44 rfl (cell_blk hk3 rfl)) rfl rfl rfl ?_; clear hf fa; intro fa hf
        refine sqdt hf (d_bslice (z := (.int .u32 (0 : Int))) (sz := 1) (vs := [(0, (.int .u32 y1.2.2.2.1))]) (cs := #[(.int .u32 y1.2.2.2.1)]) rfl Try.underlying37 (by kernel_rfl) rfl (by kernel_rfl)) rfl rfl rfl ?_; clear hf fa; rintro fa _ w5 ⟨b3, rfl, hle3, hk4, he3⟩ hf
        have hBb3 : w.heap.size ≤ b3 := Nat.le_trans hb.size hle3
        have : b1 < b3 := Nat.lt_of_lt_of_le (blk_lt hkb1) hle3
        have : b2 < b3 := Nat.lt_of_lt_of_le (blk_lt hk3) hle3
        have hnr1 : (Value.slice roa ((((typesT (m.2.1.list.take k))).length)) roc).ownBlock ≠ some b3 := fun hq => by have := (Row.lt hro _ hq).2; omega
        replace hkb1 := blk_ext hkb1 he3
        replace hk3 := blk_ext hk3 he3
        replace hro := Row.ext hro he3
        replace hb := hb.trans (Below.mono he3 hb.size)
        have hs1 := Row.rd (by intros; rfl) (Row.of_new (k := 1) (V := (vInt .u32)) (l := [y1.2.2.2.1]) hk4 (Nat.le_refl _) rfl rfl (Nat.le_of_ble_eq_true rfl))
        refine sqdt hf (d_append (V := (vInt .u32)) (k := 1) (e := 44) (bytes := 4) (z := (.int .u32 (0 : Int))) (news := [y1.2.2.2.1]) (base := w.heap.size) (by intros; rfl) (by intro x u hu; simp only [vInt, List.mem_singleton] at hu; subst hu; rfl) rfl rfl Try.underlying37 (by kernel_rfl) rfl rfl rfl hro hs1 rfl (fun h => by cases h) (by first | omega | (simp only [List.length_cons, List.length_nil, List.length_append]; omega)) (by have := hb.size; omega)) rfl rfl rfl ?_; clear hf fa; rintro fa v w6 ⟨hr1, hg2⟩ hf; obtain ⟨ra1, rc1, rfl, hcrc1, hmrc1⟩ := Row.slice hr1
        replace hkb1 := blk_row' hkb1 hg2 (Row.ne_type hro hkb1 rfl)
        replace hk3 := blk_row' hk3 hg2 (Row.ne_type hro hk3 rfl)
        replace hb := hb.trans (row_below hro hg2 hb.size (by have := hb.size; omega))
        refine sqv hf (r_assign rfl) rfl rfl rfl ?_; clear hf fa; intro fa hf
        apply wpList_nil
        (try simp only [Exit.then, Exit.inBlock, ↓reduceIte, Nat.reduceEqDiff])
        refine hK7 _ _ ?_
        refine wp_region_lit ?_
        refine sqv hf (r_add (C := (((k : Nat) : Int) + (1 : Int))) rfl rfl (by rw [IntKind.wrap_i64]; omega)) rfl rfl rfl ?_; clear hf fa; intro fa hf
        refine sqv hf (r_move rfl) rfl rfl rfl ?_; clear hf fa; intro fa hf
        apply wpList_nil
        (try simp only [Exit.then, Exit.inBlock, ↓reduceIte, Nat.reduceEqDiff])
        have hle := congrArg List.length (types_yes hy1 hqt15_1)
        simp only [List.length_append, List.length_cons, List.length_nil] at hle
        refine hKL1 _ _ _ (by omega) ⟨(k + 1), ra1, rc1, rfl, hf.sub ⟨rfl, rfl, rfl, (some_int (by first | rfl | omega)), (some_sl (by first | omega | (simp <;> omega)) rfl), trivial⟩, hb, (rowToL hr1 (types_yes hy1 hqt15_1)), hkb1, by omega⟩
      · have hqt15_1b := hqt15_1
        replace hqt15_1 := Bool.eq_false_iff.1 hqt15_1
        try simp only [ne_eq, decide_eq_true_eq, Bool.and_eq_true, Bool.or_eq_true, Bool.not_eq_true', decide_eq_false_iff_not] at hqt15_1
        refine wp_skip ?_
        (try simp only [Exit.then, Exit.inBlock, ↓reduceIte, Nat.reduceEqDiff])
        refine hK7 _ _ ?_
        refine wp_region_lit ?_
        refine sqv hf (r_add (C := (((k : Nat) : Int) + (1 : Int))) rfl rfl (by rw [IntKind.wrap_i64]; omega)) rfl rfl rfl ?_; clear hf fa; intro fa hf
        refine sqv hf (r_move rfl) rfl rfl rfl ?_; clear hf fa; intro fa hf
        apply wpList_nil
        (try simp only [Exit.then, Exit.inBlock, ↓reduceIte, Nat.reduceEqDiff])
        have hle := congrArg List.length (types_no hy1 hqt15_1)
        refine hKL1 _ _ _ (by omega) ⟨(k + 1), roa, roc, rfl, hf.sub ⟨rfl, rfl, rfl, (some_int (by first | rfl | omega)), (some_sl (by first | omega | (simp <;> omega)) rfl), trivial⟩, hb, (rowToL hro (types_no hy1 hqt15_1)), hkb1, by omega⟩
    · have hqt10_1b := hqt10_1
      replace hqt10_1 := Bool.eq_false_iff.1 hqt10_1
      try simp only [ne_eq, decide_eq_true_eq, Bool.and_eq_true, Bool.or_eq_true, Bool.not_eq_true', decide_eq_false_iff_not] at hqt10_1
      refine wp_exit ?_
      (try simp only [Exit.then, Exit.inBlock, ↓reduceIte, Nat.reduceEqDiff])
      refine hK3 _ _ ?_
      refine wp_seq_k (fun K10 hK10 => ?_)
      refine wp_region_lit ?_
      refine sqv hf (r_move rfl) rfl rfl rfl ?_; clear hf fa; intro fa hf
      refine sqv hf (r_fa rfl Try.underlying67 (f := 2) (q := 2) rfl (by kernel_rfl) rfl) rfl rfl rfl ?_; clear hf fa; intro fa hf
      refine sqv hf (r_load (v := (.slice m.2.2.1.at' m.2.2.1.len m.2.2.1.cap)) rfl Try.underlying37 rfl (cell_blk hkb1 rfl)) rfl rfl rfl ?_; clear hf fa; intro fa hf
      refine sqdt hf (d_append (V := (vInt .u32)) (k := 1) (e := 44) (bytes := 4) (z := (.int .u32 (0 : Int))) (news := m.2.2.1.list) (base := w.heap.size) (by intros; rfl) (by intro x u hu; simp only [vInt, List.mem_singleton] at hu; subst hu; rfl) rfl rfl Try.underlying37 (by kernel_rfl) rfl rfl rfl hro (RdS.ext (RdS.of_arg g.2.2.1.2) hb) (by omega) (by assumption) (by first | omega | (simp only [List.length_cons, List.length_nil, List.length_append]; omega)) (by have := hb.size; omega)) rfl rfl rfl ?_; clear hf fa; rintro fa v w7 ⟨hr2, hg3⟩ hf; obtain ⟨ra2, rc2, rfl, hcrc2, hmrc2⟩ := Row.slice hr2
      replace hkb1 := blk_row' hkb1 hg3 (Row.ne_type hro hkb1 rfl)
      replace hb := hb.trans (row_below hro hg3 hb.size (by have := hb.size; omega))
      refine sqv hf (r_assign rfl) rfl rfl rfl ?_; clear hf fa; intro fa hf
      apply wpList_nil
      (try simp only [Exit.then, Exit.inBlock, ↓reduceIte, Nat.reduceEqDiff])
      refine hK10 _ _ ?_
      refine wp_ret ?_
      (try simp only [Exit.then, Exit.inBlock])
      refine ret1 hf rfl rfl ?_
      exact ⟨_, rfl, rowTo hr2 (by unfold funcsP; rw [show k = m.2.1.len by omega, take_list]), hb⟩

set_option maxHeartbeats 1000000 in
set_option maxRecDepth 100000 in
theorem rfuncs_any (m : MMd) (w : World) (g : fMMd w m) (hs : smallP m) : Calls Try.prog 73 #[(.agg #[(.slice m.1.at' m.1.len m.1.cap), (.slice m.2.1.at' m.2.1.len m.2.1.cap), (.slice m.2.2.1.at' m.2.2.1.len m.2.2.1.cap), (.slice m.2.2.2.1.at' m.2.2.2.1.len m.2.2.2.1.cap), (.slice m.2.2.2.2.1.at' m.2.2.2.2.1.len m.2.2.2.2.1.cap), (.slice m.2.2.2.2.2.1.at' m.2.2.2.2.2.1.len m.2.2.2.2.2.1.cap), (.slice m.2.2.2.2.2.2.1.at' m.2.2.2.2.2.2.1.len m.2.2.2.2.2.2.1.cap), (.int .i64 m.2.2.2.2.2.2.2.1), (.slice m.2.2.2.2.2.2.2.2.1.at' m.2.2.2.2.2.2.2.2.1.len m.2.2.2.2.2.2.2.2.1.cap), (.slice m.2.2.2.2.2.2.2.2.2.1.at' m.2.2.2.2.2.2.2.2.2.1.len m.2.2.2.2.2.2.2.2.2.1.cap), (.slice m.2.2.2.2.2.2.2.2.2.2.1.at' m.2.2.2.2.2.2.2.2.2.2.1.len m.2.2.2.2.2.2.2.2.2.2.1.cap), (.bool m.2.2.2.2.2.2.2.2.2.2.2.1.1), (.int .u32 m.2.2.2.2.2.2.2.2.2.2.2.1.2.1), (.int .u32 m.2.2.2.2.2.2.2.2.2.2.2.1.2.2.1), (.int .u32 m.2.2.2.2.2.2.2.2.2.2.2.1.2.2.2.1), (.int .u32 m.2.2.2.2.2.2.2.2.2.2.2.1.2.2.2.2.1), (.slice m.2.2.2.2.2.2.2.2.2.2.2.1.2.2.2.2.2.1.at' m.2.2.2.2.2.2.2.2.2.2.2.1.2.2.2.2.2.1.len m.2.2.2.2.2.2.2.2.2.2.2.1.2.2.2.2.2.1.cap)])] w fun e w' => ∃ v, e = .returned v ∧ Row 1 (vInt .u32) 44 w.heap.size w' v (funcsP m) ∧ Below w.heap.size w w' := by
  have hz_m0 := g.2.1.1; have hl_m0 := g.2.1.2.1; have hm_m0 := g.2.1.2.2.1; have hn_m0 := g.2.1.2.2.2.1; (try unfold maxLen at hm_m0)
  have hz_m1 := g.2.2.1.1; have hl_m1 := g.2.2.1.2.1; have hm_m1 := g.2.2.1.2.2.1; have hn_m1 := g.2.2.1.2.2.2.1; (try unfold maxLen at hm_m1)
  unfold smallP at hs
  have hfl := Sl.list_length m.2.2.1
  refine sx_enter (L := [(0, (.agg #[(.slice m.1.at' m.1.len m.1.cap), (.slice m.2.1.at' m.2.1.len m.2.1.cap), (.slice m.2.2.1.at' m.2.2.1.len m.2.2.1.cap), (.slice m.2.2.2.1.at' m.2.2.2.1.len m.2.2.2.1.cap), (.slice m.2.2.2.2.1.at' m.2.2.2.2.1.len m.2.2.2.2.1.cap), (.slice m.2.2.2.2.2.1.at' m.2.2.2.2.2.1.len m.2.2.2.2.2.1.cap), (.slice m.2.2.2.2.2.2.1.at' m.2.2.2.2.2.2.1.len m.2.2.2.2.2.2.1.cap), (.int .i64 m.2.2.2.2.2.2.2.1), (.slice m.2.2.2.2.2.2.2.2.1.at' m.2.2.2.2.2.2.2.2.1.len m.2.2.2.2.2.2.2.2.1.cap), (.slice m.2.2.2.2.2.2.2.2.2.1.at' m.2.2.2.2.2.2.2.2.2.1.len m.2.2.2.2.2.2.2.2.2.1.cap), (.slice m.2.2.2.2.2.2.2.2.2.2.1.at' m.2.2.2.2.2.2.2.2.2.2.1.len m.2.2.2.2.2.2.2.2.2.2.1.cap), (.bool m.2.2.2.2.2.2.2.2.2.2.2.1.1), (.int .u32 m.2.2.2.2.2.2.2.2.2.2.2.1.2.1), (.int .u32 m.2.2.2.2.2.2.2.2.2.2.2.1.2.2.1), (.int .u32 m.2.2.2.2.2.2.2.2.2.2.2.1.2.2.2.1), (.int .u32 m.2.2.2.2.2.2.2.2.2.2.2.1.2.2.2.2.1), (.slice m.2.2.2.2.2.2.2.2.2.2.2.1.2.2.2.2.2.1.at' m.2.2.2.2.2.2.2.2.2.2.2.1.2.2.2.2.2.1.len m.2.2.2.2.2.2.2.2.2.2.2.1.2.2.2.2.2.1.cap)]))]) Try.func73 rfl rfl rfl rfl (fun fa hf => ?_)
  have hb : Below w.heap.size w w := Below.refl _ _
  refine wp_seq_k (fun K1 hK1 => ?_)
  refine wp_region_lit ?_
  refine sqdt hf (d_box (cs := #[(.slice m.1.at' m.1.len m.1.cap), (.slice m.2.1.at' m.2.1.len m.2.1.cap), (.slice m.2.2.1.at' m.2.2.1.len m.2.2.1.cap), (.slice m.2.2.2.1.at' m.2.2.2.1.len m.2.2.2.1.cap), (.slice m.2.2.2.2.1.at' m.2.2.2.2.1.len m.2.2.2.2.1.cap), (.slice m.2.2.2.2.2.1.at' m.2.2.2.2.2.1.len m.2.2.2.2.2.1.cap), (.slice m.2.2.2.2.2.2.1.at' m.2.2.2.2.2.2.1.len m.2.2.2.2.2.2.1.cap), (.int .i64 m.2.2.2.2.2.2.2.1), (.slice m.2.2.2.2.2.2.2.2.1.at' m.2.2.2.2.2.2.2.2.1.len m.2.2.2.2.2.2.2.2.1.cap), (.slice m.2.2.2.2.2.2.2.2.2.1.at' m.2.2.2.2.2.2.2.2.2.1.len m.2.2.2.2.2.2.2.2.2.1.cap), (.slice m.2.2.2.2.2.2.2.2.2.2.1.at' m.2.2.2.2.2.2.2.2.2.2.1.len m.2.2.2.2.2.2.2.2.2.2.1.cap), (.bool m.2.2.2.2.2.2.2.2.2.2.2.1.1), (.int .u32 m.2.2.2.2.2.2.2.2.2.2.2.1.2.1), (.int .u32 m.2.2.2.2.2.2.2.2.2.2.2.1.2.2.1), (.int .u32 m.2.2.2.2.2.2.2.2.2.2.2.1.2.2.2.1), (.int .u32 m.2.2.2.2.2.2.2.2.2.2.2.1.2.2.2.2.1), (.slice m.2.2.2.2.2.2.2.2.2.2.2.1.2.2.2.2.2.1.at' m.2.2.2.2.2.2.2.2.2.2.2.1.2.2.2.2.2.1.len m.2.2.2.2.2.2.2.2.2.2.2.1.2.2.2.2.2.1.cap)]) rfl rfl) rfl rfl rfl ?_; clear hf fa; rintro fa _ w1 ⟨b1, rfl, hle1, hk1, he1⟩ hf
  have hBb1 : w.heap.size ≤ b1 := Nat.le_trans hb.size hle1
  replace hb := hb.trans (Below.mono he1 hb.size)
  refine sqv hf (r_assign rfl) rfl rfl rfl ?_; clear hf fa; intro fa hf
  apply wpList_nil
  (try simp only [Exit.then, Exit.inBlock, ↓reduceIte, Nat.reduceEqDiff])
  refine hK1 _ _ ?_
  refine wp_seq_k (fun K2 hK2 => ?_)
  refine wp_region_lit ?_
  refine sqv hf (r_assign rfl) rfl rfl rfl ?_; clear hf fa; intro fa hf
  apply wpList_nil
  (try simp only [Exit.then, Exit.inBlock, ↓reduceIte, Nat.reduceEqDiff])
  refine hK2 _ _ ?_
  refine wp_seq_k (fun K3 hK3 => ?_)
  refine wp_seq_k (fun K4 hK4 => ?_)
  refine wp_region_lit ?_
  refine sqv hf (r_assign rfl) rfl rfl rfl ?_; clear hf fa; intro fa hf
  apply wpList_nil
  (try simp only [Exit.then, Exit.inBlock, ↓reduceIte, Nat.reduceEqDiff])
  refine hK4 _ _ ?_
  refine wp_block ?_
  refine wp_loop_k (fun mq fa wr => ∃ (k : Nat) (roa : Option Addr) (roc : Nat), mq = m.2.1.len - k ∧ Fr 32 fa [(1, (.pointer (some ⟨b1, 0, none⟩))), (4, (.int .i64 ((k : Nat) : Int))), (3, (.slice roa (((typesT (m.2.1.list.take k))).length) roc))] ∧ Below w.heap.size w wr ∧ Row 1 (vInt .u32) 44 (w.heap.size) wr (.slice roa (((typesT (m.2.1.list.take k))).length) roc) (typesT (m.2.1.list.take k)) ∧ wr.heap[b1]? = some (.cells #[(.slice m.1.at' m.1.len m.1.cap), (.slice m.2.1.at' m.2.1.len m.2.1.cap), (.slice m.2.2.1.at' m.2.2.1.len m.2.2.1.cap), (.slice m.2.2.2.1.at' m.2.2.2.1.len m.2.2.2.1.cap), (.slice m.2.2.2.2.1.at' m.2.2.2.2.1.len m.2.2.2.2.1.cap), (.slice m.2.2.2.2.2.1.at' m.2.2.2.2.2.1.len m.2.2.2.2.2.1.cap), (.slice m.2.2.2.2.2.2.1.at' m.2.2.2.2.2.2.1.len m.2.2.2.2.2.2.1.cap), (.int .i64 m.2.2.2.2.2.2.2.1), (.slice m.2.2.2.2.2.2.2.2.1.at' m.2.2.2.2.2.2.2.2.1.len m.2.2.2.2.2.2.2.2.1.cap), (.slice m.2.2.2.2.2.2.2.2.2.1.at' m.2.2.2.2.2.2.2.2.2.1.len m.2.2.2.2.2.2.2.2.2.1.cap), (.slice m.2.2.2.2.2.2.2.2.2.2.1.at' m.2.2.2.2.2.2.2.2.2.2.1.len m.2.2.2.2.2.2.2.2.2.2.1.cap), (.bool m.2.2.2.2.2.2.2.2.2.2.2.1.1), (.int .u32 m.2.2.2.2.2.2.2.2.2.2.2.1.2.1), (.int .u32 m.2.2.2.2.2.2.2.2.2.2.2.1.2.2.1), (.int .u32 m.2.2.2.2.2.2.2.2.2.2.2.1.2.2.2.1), (.int .u32 m.2.2.2.2.2.2.2.2.2.2.2.1.2.2.2.2.1), (.slice m.2.2.2.2.2.2.2.2.2.2.2.1.2.2.2.2.2.1.at' m.2.2.2.2.2.2.2.2.2.2.2.1.2.2.2.2.2.1.len m.2.2.2.2.2.2.2.2.2.2.2.1.2.2.2.2.2.1.cap)] 67 (0, 0)) ∧ (k ≤ m.2.1.len)) ?_ ?_
  · skip
    exact ⟨_, 0, none, 0, rfl, hf.sub ⟨rfl, (some_int (by first | rfl | omega)), (some_sl (by first | omega | (simp <;> omega)) rfl), trivial⟩, hb, Row.nil, hk1, by omega⟩
  · skip
    clear hf fa; intro mq1 fa w2 hI KL1 hKL1
    clear hb
    clear hk1
    obtain ⟨k, roa, roc, hmq1, hf, hb, hro, hkb1, hk⟩ := hI
    have hcro := Row.caps hro
    have hbl := types_len m.2.1.list k
    refine wp_seq_k (fun K5 hK5 => ?_)
    refine wp_seq_k (fun K6 hK6 => ?_)
    refine wp_region_lit ?_
    refine sqv hf (r_move rfl) rfl rfl rfl ?_; clear hf fa; intro fa hf
    refine sqv hf (r_fa rfl Try.underlying67 (f := 1) (q := 1) rfl (by kernel_rfl) rfl) rfl rfl rfl ?_; clear hf fa; intro fa hf
    refine sqv hf (r_load (v := (.slice m.2.1.at' m.2.1.len m.2.1.cap)) rfl Try.underlying57 rfl (cell_blk hkb1 rfl)) rfl rfl rfl ?_; clear hf fa; intro fa hf
    refine sqv hf (r_lensl rfl Try.underlying57) rfl rfl rfl ?_; clear hf fa; intro fa hf
    refine sqv hf (r_lt rfl rfl) rfl rfl rfl ?_; clear hf fa; intro fa hf
    apply wpList_nil
    (try simp only [Exit.then, Exit.inBlock, ↓reduceIte, Nat.reduceEqDiff])
    refine hK6 _ _ ?_
    refine wp_cond_split (t := (decide (((k : Nat) : Int) < ((m.2.1.len : Nat) : Int)))) (hf.ev rfl) (fun hqt9_1 => ?_) (fun hqt9_1 => ?_)
    · have hqt9_1b := hqt9_1
      try simp only [decide_eq_true_eq, Bool.and_eq_true, Bool.or_eq_true, Bool.not_eq_true', decide_eq_false_iff_not, ne_eq, Bool.not_eq_true] at hqt9_1
      refine wp_skip ?_
      (try simp only [Exit.then, Exit.inBlock, ↓reduceIte, Nat.reduceEqDiff])
      refine hK5 _ _ ?_
      refine wp_seq_k (fun K7 hK7 => ?_)
      refine wp_block ?_
      refine wp_seq_k (fun K8 hK8 => ?_)
      refine wp_region_lit ?_
      refine sqv hf (r_fa rfl Try.underlying67 (f := 1) (q := 1) rfl (by kernel_rfl) rfl) rfl rfl rfl ?_; clear hf fa; intro fa hf
      refine sqv hf (r_load (v := (.slice m.2.1.at' m.2.1.len m.2.1.cap)) rfl Try.underlying57 rfl (cell_blk hkb1 rfl)) rfl rfl rfl ?_; clear hf fa; intro fa hf
      refine sqv hf (r_move rfl) rfl rfl rfl ?_; clear hf fa; intro fa hf
      obtain ⟨y1, hy1⟩ : ∃ x, (m.2.1.list)[k]? = some x := ⟨_, List.getElem?_eq_getElem (by (try simp only [Sl.list_length]); omega)⟩
      obtain ⟨ab1, aoff1, hat1, hlb1, hel1⟩ := RdS.at (RdS.of_arg g.2.1.2) hy1
      refine sqv hf (r_ixa (sz := 9) (j := k) (evAt rfl hat1) rfl Try.underlying57 (by kernel_rfl) rfl (by omega) rfl) rfl rfl rfl ?_; clear hf fa; intro fa hf
      refine sqv hf (r_fa rfl Try.underlying103 (f := 2) (q := ((aoff1 + k * 9) + 2)) rfl (by kernel_rfl) rfl) rfl rfl rfl ?_; clear hf fa; intro fa hf
      refine sqv hf (r_load (v := (.int .u8 y1.2.2.1)) rfl Try.underlying5 rfl (cellsAt_cell (cellsAt_below hel1 hb hlb1) (i := 2) rfl rfl)) rfl rfl rfl ?_; clear hf fa; intro fa hf
      refine sqv hf (r_eq rfl rfl) rfl rfl rfl ?_; clear hf fa; intro fa hf
      apply wpList_nil
      (try simp only [Exit.then, Exit.inBlock, ↓reduceIte, Nat.reduceEqDiff])
      refine hK8 _ _ ?_
      refine wp_cond_split (t := (decide (y1.2.2.1 = (0 : Int)))) (hf.ev rfl) (fun hqt18_1 => ?_) (fun hqt18_1 => ?_)
      · have hqt18_1b := hqt18_1
        try simp only [decide_eq_true_eq, Bool.and_eq_true, Bool.or_eq_true, Bool.not_eq_true', decide_eq_false_iff_not, ne_eq, Bool.not_eq_true] at hqt18_1
        refine wp_region_lit ?_
        refine sqv hf (r_move rfl) rfl rfl rfl ?_; clear hf fa; intro fa hf
        refine sqv hf (r_fa rfl Try.underlying67 (f := 1) (q := 1) rfl (by kernel_rfl) rfl) rfl rfl rfl ?_; clear hf fa; intro fa hf
        refine sqv hf (r_load (v := (.slice m.2.1.at' m.2.1.len m.2.1.cap)) rfl Try.underlying57 rfl (cell_blk hkb1 rfl)) rfl rfl rfl ?_; clear hf fa; intro fa hf
        refine sqv hf (r_move rfl) rfl rfl rfl ?_; clear hf fa; intro fa hf
        refine sqv hf (r_ixa (sz := 9) (j := k) (evAt rfl hat1) rfl Try.underlying57 (by kernel_rfl) rfl (by omega) rfl) rfl rfl rfl ?_; clear hf fa; intro fa hf
        refine sqv hf (r_fa rfl Try.underlying103 (f := 3) (q := ((aoff1 + k * 9) + 3)) rfl (by kernel_rfl) rfl) rfl rfl rfl ?_; clear hf fa; intro fa hf
        refine sqv hf (r_load (v := (.int .u32 y1.2.2.2.1)) rfl Try.underlying44 rfl (cellsAt_cell (cellsAt_below hel1 hb hlb1) (i := 3) rfl rfl)) rfl rfl rfl ?_; clear hf fa; intro fa hf
        refine sqdt hf (d_bslice (z := (.int .u32 (0 : Int))) (sz := 1) (vs := [(0, (.int .u32 y1.2.2.2.1))]) (cs := #[(.int .u32 y1.2.2.2.1)]) rfl Try.underlying37 (by kernel_rfl) rfl (by kernel_rfl)) rfl rfl rfl ?_; clear hf fa; rintro fa _ w3 ⟨b2, rfl, hle2, hk2, he2⟩ hf
        have hBb2 : w.heap.size ≤ b2 := Nat.le_trans hb.size hle2
        have : b1 < b2 := Nat.lt_of_lt_of_le (blk_lt hkb1) hle2
        have hnr1 : (Value.slice roa ((((typesT (m.2.1.list.take k))).length)) roc).ownBlock ≠ some b2 := fun hq => by have := (Row.lt hro _ hq).2; omega
        replace hkb1 := blk_ext hkb1 he2
        replace hro := Row.ext hro he2
        replace hb := hb.trans (Below.mono he2 hb.size)
        have hs1 := Row.rd (by intros; rfl) (Row.of_new (k := 1) (V := (vInt .u32)) (l := [y1.2.2.2.1]) hk2 (Nat.le_refl _) rfl rfl (Nat.le_of_ble_eq_true rfl))
        refine sqdt hf (d_append (V := (vInt .u32)) (k := 1) (e := 44) (bytes := 4) (z := (.int .u32 (0 : Int))) (news := [y1.2.2.2.1]) (base := w.heap.size) (by intros; rfl) (by intro x u hu; simp only [vInt, List.mem_singleton] at hu; subst hu; rfl) rfl rfl Try.underlying37 (by kernel_rfl) rfl rfl rfl hro hs1 rfl (fun h => by cases h) (by first | omega | (simp only [List.length_cons, List.length_nil, List.length_append]; omega)) (by have := hb.size; omega)) rfl rfl rfl ?_; clear hf fa; rintro fa v w4 ⟨hr1, hg1⟩ hf; obtain ⟨ra1, rc1, rfl, hcrc1, hmrc1⟩ := Row.slice hr1
        replace hkb1 := blk_row' hkb1 hg1 (Row.ne_type hro hkb1 rfl)
        replace hb := hb.trans (row_below hro hg1 hb.size (by have := hb.size; omega))
        refine sqv hf (r_assign rfl) rfl rfl rfl ?_; clear hf fa; intro fa hf
        apply wpList_nil
        (try simp only [Exit.then, Exit.inBlock, ↓reduceIte, Nat.reduceEqDiff])
        refine hK7 _ _ ?_
        refine wp_region_lit ?_
        refine sqv hf (r_move rfl) rfl rfl rfl ?_; clear hf fa; intro fa hf
        refine sqv hf (r_add (C := (((k : Nat) : Int) + (1 : Int))) rfl rfl (by rw [IntKind.wrap_i64]; omega)) rfl rfl rfl ?_; clear hf fa; intro fa hf
        refine sqv hf (r_assign rfl) rfl rfl rfl ?_; clear hf fa; intro fa hf
        apply wpList_nil
        (try simp only [Exit.then, Exit.inBlock, ↓reduceIte, Nat.reduceEqDiff])
        have hle := congrArg List.length (types_yes hy1 hqt18_1)
        simp only [List.length_append, List.length_cons, List.length_nil] at hle
        refine hKL1 _ _ _ (by omega) ⟨(k + 1), ra1, rc1, rfl, hf.sub ⟨rfl, (some_int (by first | rfl | omega)), (some_sl (by first | omega | (simp <;> omega)) rfl), trivial⟩, hb, (rowToL hr1 (types_yes hy1 hqt18_1)), hkb1, by omega⟩
      · have hqt18_1b := hqt18_1
        replace hqt18_1 := Bool.eq_false_iff.1 hqt18_1
        try simp only [ne_eq, decide_eq_true_eq, Bool.and_eq_true, Bool.or_eq_true, Bool.not_eq_true', decide_eq_false_iff_not] at hqt18_1
        refine wp_skip ?_
        (try simp only [Exit.then, Exit.inBlock, ↓reduceIte, Nat.reduceEqDiff])
        refine hK7 _ _ ?_
        refine wp_region_lit ?_
        refine sqv hf (r_move rfl) rfl rfl rfl ?_; clear hf fa; intro fa hf
        refine sqv hf (r_add (C := (((k : Nat) : Int) + (1 : Int))) rfl rfl (by rw [IntKind.wrap_i64]; omega)) rfl rfl rfl ?_; clear hf fa; intro fa hf
        refine sqv hf (r_assign rfl) rfl rfl rfl ?_; clear hf fa; intro fa hf
        apply wpList_nil
        (try simp only [Exit.then, Exit.inBlock, ↓reduceIte, Nat.reduceEqDiff])
        have hle := congrArg List.length (types_no hy1 hqt18_1)
        refine hKL1 _ _ _ (by omega) ⟨(k + 1), roa, roc, rfl, hf.sub ⟨rfl, (some_int (by first | rfl | omega)), (some_sl (by first | omega | (simp <;> omega)) rfl), trivial⟩, hb, (rowToL hro (types_no hy1 hqt18_1)), hkb1, by omega⟩
    · have hqt9_1b := hqt9_1
      replace hqt9_1 := Bool.eq_false_iff.1 hqt9_1
      try simp only [ne_eq, decide_eq_true_eq, Bool.and_eq_true, Bool.or_eq_true, Bool.not_eq_true', decide_eq_false_iff_not] at hqt9_1
      refine wp_exit ?_
      (try simp only [Exit.then, Exit.inBlock, ↓reduceIte, Nat.reduceEqDiff])
      refine hK3 _ _ ?_
      refine wp_seq_k (fun K9 hK9 => ?_)
      refine wp_region_lit ?_
      refine sqv hf (r_move rfl) rfl rfl rfl ?_; clear hf fa; intro fa hf
      refine sqv hf (r_fa rfl Try.underlying67 (f := 2) (q := 2) rfl (by kernel_rfl) rfl) rfl rfl rfl ?_; clear hf fa; intro fa hf
      refine sqv hf (r_load (v := (.slice m.2.2.1.at' m.2.2.1.len m.2.2.1.cap)) rfl Try.underlying37 rfl (cell_blk hkb1 rfl)) rfl rfl rfl ?_; clear hf fa; intro fa hf
      refine sqdt hf (d_append (V := (vInt .u32)) (k := 1) (e := 44) (bytes := 4) (z := (.int .u32 (0 : Int))) (news := m.2.2.1.list) (base := w.heap.size) (by intros; rfl) (by intro x u hu; simp only [vInt, List.mem_singleton] at hu; subst hu; rfl) rfl rfl Try.underlying37 (by kernel_rfl) rfl rfl rfl hro (RdS.ext (RdS.of_arg g.2.2.1.2) hb) (by omega) (by assumption) (by first | omega | (simp only [List.length_cons, List.length_nil, List.length_append]; omega)) (by have := hb.size; omega)) rfl rfl rfl ?_; clear hf fa; rintro fa v w5 ⟨hr2, hg2⟩ hf; obtain ⟨ra2, rc2, rfl, hcrc2, hmrc2⟩ := Row.slice hr2
      replace hkb1 := blk_row' hkb1 hg2 (Row.ne_type hro hkb1 rfl)
      replace hb := hb.trans (row_below hro hg2 hb.size (by have := hb.size; omega))
      refine sqv hf (r_assign rfl) rfl rfl rfl ?_; clear hf fa; intro fa hf
      apply wpList_nil
      (try simp only [Exit.then, Exit.inBlock, ↓reduceIte, Nat.reduceEqDiff])
      refine hK9 _ _ ?_
      refine wp_ret ?_
      (try simp only [Exit.then, Exit.inBlock])
      refine ret1 hf rfl rfl ?_
      exact ⟨_, rfl, rowTo hr2 (by unfold funcsP; rw [show k = m.2.1.len by omega, take_list]), hb⟩

set_option maxHeartbeats 1000000 in
set_option maxRecDepth 100000 in
theorem taken_any (m : MMd) (w : World) (g : fMMd w m) (hs : smallP m) : Calls Try.prog 30 #[(.agg #[(.slice m.1.at' m.1.len m.1.cap), (.slice m.2.1.at' m.2.1.len m.2.1.cap), (.slice m.2.2.1.at' m.2.2.1.len m.2.2.1.cap), (.slice m.2.2.2.1.at' m.2.2.2.1.len m.2.2.2.1.cap), (.slice m.2.2.2.2.1.at' m.2.2.2.2.1.len m.2.2.2.2.1.cap), (.slice m.2.2.2.2.2.1.at' m.2.2.2.2.2.1.len m.2.2.2.2.2.1.cap), (.slice m.2.2.2.2.2.2.1.at' m.2.2.2.2.2.2.1.len m.2.2.2.2.2.2.1.cap), (.int .i64 m.2.2.2.2.2.2.2.1), (.slice m.2.2.2.2.2.2.2.2.1.at' m.2.2.2.2.2.2.2.2.1.len m.2.2.2.2.2.2.2.2.1.cap), (.slice m.2.2.2.2.2.2.2.2.2.1.at' m.2.2.2.2.2.2.2.2.2.1.len m.2.2.2.2.2.2.2.2.2.1.cap), (.slice m.2.2.2.2.2.2.2.2.2.2.1.at' m.2.2.2.2.2.2.2.2.2.2.1.len m.2.2.2.2.2.2.2.2.2.2.1.cap), (.bool m.2.2.2.2.2.2.2.2.2.2.2.1.1), (.int .u32 m.2.2.2.2.2.2.2.2.2.2.2.1.2.1), (.int .u32 m.2.2.2.2.2.2.2.2.2.2.2.1.2.2.1), (.int .u32 m.2.2.2.2.2.2.2.2.2.2.2.1.2.2.2.1), (.int .u32 m.2.2.2.2.2.2.2.2.2.2.2.1.2.2.2.2.1), (.slice m.2.2.2.2.2.2.2.2.2.2.2.1.2.2.2.2.2.1.at' m.2.2.2.2.2.2.2.2.2.2.2.1.2.2.2.2.2.1.len m.2.2.2.2.2.2.2.2.2.2.2.1.2.2.2.2.2.1.cap)])] w fun e w' => ∃ v, e = .returned v ∧ Row 1 vStr 9 w.heap.size w' v (namesT m.2.1.list) ∧ Below w.heap.size w w' := by
  have hz_m0 := g.2.1.1; have hl_m0 := g.2.1.2.1; have hm_m0 := g.2.1.2.2.1; have hn_m0 := g.2.1.2.2.2.1; (try unfold maxLen at hm_m0)
  have hz_m1 := g.2.2.1.1; have hl_m1 := g.2.2.1.2.1; have hm_m1 := g.2.2.1.2.2.1; have hn_m1 := g.2.2.1.2.2.2.1; (try unfold maxLen at hm_m1)
  unfold smallP at hs
  have hfl := Sl.list_length m.2.2.1
  refine sx_enter (L := [(0, (.agg #[(.slice m.1.at' m.1.len m.1.cap), (.slice m.2.1.at' m.2.1.len m.2.1.cap), (.slice m.2.2.1.at' m.2.2.1.len m.2.2.1.cap), (.slice m.2.2.2.1.at' m.2.2.2.1.len m.2.2.2.1.cap), (.slice m.2.2.2.2.1.at' m.2.2.2.2.1.len m.2.2.2.2.1.cap), (.slice m.2.2.2.2.2.1.at' m.2.2.2.2.2.1.len m.2.2.2.2.2.1.cap), (.slice m.2.2.2.2.2.2.1.at' m.2.2.2.2.2.2.1.len m.2.2.2.2.2.2.1.cap), (.int .i64 m.2.2.2.2.2.2.2.1), (.slice m.2.2.2.2.2.2.2.2.1.at' m.2.2.2.2.2.2.2.2.1.len m.2.2.2.2.2.2.2.2.1.cap), (.slice m.2.2.2.2.2.2.2.2.2.1.at' m.2.2.2.2.2.2.2.2.2.1.len m.2.2.2.2.2.2.2.2.2.1.cap), (.slice m.2.2.2.2.2.2.2.2.2.2.1.at' m.2.2.2.2.2.2.2.2.2.2.1.len m.2.2.2.2.2.2.2.2.2.2.1.cap), (.bool m.2.2.2.2.2.2.2.2.2.2.2.1.1), (.int .u32 m.2.2.2.2.2.2.2.2.2.2.2.1.2.1), (.int .u32 m.2.2.2.2.2.2.2.2.2.2.2.1.2.2.1), (.int .u32 m.2.2.2.2.2.2.2.2.2.2.2.1.2.2.2.1), (.int .u32 m.2.2.2.2.2.2.2.2.2.2.2.1.2.2.2.2.1), (.slice m.2.2.2.2.2.2.2.2.2.2.2.1.2.2.2.2.2.1.at' m.2.2.2.2.2.2.2.2.2.2.2.1.2.2.2.2.2.1.len m.2.2.2.2.2.2.2.2.2.2.2.1.2.2.2.2.2.1.cap)]))]) Try.func30 rfl rfl rfl rfl (fun fa hf => ?_)
  have hb : Below w.heap.size w w := Below.refl _ _
  refine wp_seq_k (fun K1 hK1 => ?_)
  refine wp_region_lit ?_
  refine sqdt hf (d_box (cs := #[(.slice m.1.at' m.1.len m.1.cap), (.slice m.2.1.at' m.2.1.len m.2.1.cap), (.slice m.2.2.1.at' m.2.2.1.len m.2.2.1.cap), (.slice m.2.2.2.1.at' m.2.2.2.1.len m.2.2.2.1.cap), (.slice m.2.2.2.2.1.at' m.2.2.2.2.1.len m.2.2.2.2.1.cap), (.slice m.2.2.2.2.2.1.at' m.2.2.2.2.2.1.len m.2.2.2.2.2.1.cap), (.slice m.2.2.2.2.2.2.1.at' m.2.2.2.2.2.2.1.len m.2.2.2.2.2.2.1.cap), (.int .i64 m.2.2.2.2.2.2.2.1), (.slice m.2.2.2.2.2.2.2.2.1.at' m.2.2.2.2.2.2.2.2.1.len m.2.2.2.2.2.2.2.2.1.cap), (.slice m.2.2.2.2.2.2.2.2.2.1.at' m.2.2.2.2.2.2.2.2.2.1.len m.2.2.2.2.2.2.2.2.2.1.cap), (.slice m.2.2.2.2.2.2.2.2.2.2.1.at' m.2.2.2.2.2.2.2.2.2.2.1.len m.2.2.2.2.2.2.2.2.2.2.1.cap), (.bool m.2.2.2.2.2.2.2.2.2.2.2.1.1), (.int .u32 m.2.2.2.2.2.2.2.2.2.2.2.1.2.1), (.int .u32 m.2.2.2.2.2.2.2.2.2.2.2.1.2.2.1), (.int .u32 m.2.2.2.2.2.2.2.2.2.2.2.1.2.2.2.1), (.int .u32 m.2.2.2.2.2.2.2.2.2.2.2.1.2.2.2.2.1), (.slice m.2.2.2.2.2.2.2.2.2.2.2.1.2.2.2.2.2.1.at' m.2.2.2.2.2.2.2.2.2.2.2.1.2.2.2.2.2.1.len m.2.2.2.2.2.2.2.2.2.2.2.1.2.2.2.2.2.1.cap)]) rfl rfl) rfl rfl rfl ?_; clear hf fa; rintro fa _ w1 ⟨b1, rfl, hle1, hk1, he1⟩ hf
  have hBb1 : w.heap.size ≤ b1 := Nat.le_trans hb.size hle1
  replace hb := hb.trans (Below.mono he1 hb.size)
  refine sqv hf (r_assign rfl) rfl rfl rfl ?_; clear hf fa; intro fa hf
  apply wpList_nil
  (try simp only [Exit.then, Exit.inBlock, ↓reduceIte, Nat.reduceEqDiff])
  refine hK1 _ _ ?_
  refine wp_seq_k (fun K2 hK2 => ?_)
  refine wp_region_lit ?_
  refine sqv hf (r_assign rfl) rfl rfl rfl ?_; clear hf fa; intro fa hf
  apply wpList_nil
  (try simp only [Exit.then, Exit.inBlock, ↓reduceIte, Nat.reduceEqDiff])
  refine hK2 _ _ ?_
  refine wp_seq_k (fun K3 hK3 => ?_)
  refine wp_seq_k (fun K4 hK4 => ?_)
  refine wp_region_lit ?_
  refine sqv hf (r_assign rfl) rfl rfl rfl ?_; clear hf fa; intro fa hf
  apply wpList_nil
  (try simp only [Exit.then, Exit.inBlock, ↓reduceIte, Nat.reduceEqDiff])
  refine hK4 _ _ ?_
  refine wp_block ?_
  refine wp_loop_k (fun mq fa wr => ∃ (k : Nat) (roa : Option Addr) (roc : Nat), mq = m.2.1.len - k ∧ Fr 29 fa [(1, (.pointer (some ⟨b1, 0, none⟩))), (4, (.int .i64 ((k : Nat) : Int))), (3, (.slice roa (((namesT (m.2.1.list.take k))).length) roc))] ∧ Below w.heap.size w wr ∧ Row 1 vStr 9 (w.heap.size) wr (.slice roa (((namesT (m.2.1.list.take k))).length) roc) (namesT (m.2.1.list.take k)) ∧ wr.heap[b1]? = some (.cells #[(.slice m.1.at' m.1.len m.1.cap), (.slice m.2.1.at' m.2.1.len m.2.1.cap), (.slice m.2.2.1.at' m.2.2.1.len m.2.2.1.cap), (.slice m.2.2.2.1.at' m.2.2.2.1.len m.2.2.2.1.cap), (.slice m.2.2.2.2.1.at' m.2.2.2.2.1.len m.2.2.2.2.1.cap), (.slice m.2.2.2.2.2.1.at' m.2.2.2.2.2.1.len m.2.2.2.2.2.1.cap), (.slice m.2.2.2.2.2.2.1.at' m.2.2.2.2.2.2.1.len m.2.2.2.2.2.2.1.cap), (.int .i64 m.2.2.2.2.2.2.2.1), (.slice m.2.2.2.2.2.2.2.2.1.at' m.2.2.2.2.2.2.2.2.1.len m.2.2.2.2.2.2.2.2.1.cap), (.slice m.2.2.2.2.2.2.2.2.2.1.at' m.2.2.2.2.2.2.2.2.2.1.len m.2.2.2.2.2.2.2.2.2.1.cap), (.slice m.2.2.2.2.2.2.2.2.2.2.1.at' m.2.2.2.2.2.2.2.2.2.2.1.len m.2.2.2.2.2.2.2.2.2.2.1.cap), (.bool m.2.2.2.2.2.2.2.2.2.2.2.1.1), (.int .u32 m.2.2.2.2.2.2.2.2.2.2.2.1.2.1), (.int .u32 m.2.2.2.2.2.2.2.2.2.2.2.1.2.2.1), (.int .u32 m.2.2.2.2.2.2.2.2.2.2.2.1.2.2.2.1), (.int .u32 m.2.2.2.2.2.2.2.2.2.2.2.1.2.2.2.2.1), (.slice m.2.2.2.2.2.2.2.2.2.2.2.1.2.2.2.2.2.1.at' m.2.2.2.2.2.2.2.2.2.2.2.1.2.2.2.2.2.1.len m.2.2.2.2.2.2.2.2.2.2.2.1.2.2.2.2.2.1.cap)] 67 (0, 0)) ∧ (k ≤ m.2.1.len)) ?_ ?_
  · skip
    exact ⟨_, 0, none, 0, rfl, hf.sub ⟨rfl, (some_int (by first | rfl | omega)), (some_sl (by first | omega | (simp <;> omega)) rfl), trivial⟩, hb, Row.nil, hk1, by omega⟩
  · skip
    clear hf fa; intro mq1 fa w2 hI KL1 hKL1
    clear hb
    clear hk1
    obtain ⟨k, roa, roc, hmq1, hf, hb, hro, hkb1, hk⟩ := hI
    have hcro := Row.caps hro
    have hbl := names_len m.2.1.list k
    refine wp_seq_k (fun K5 hK5 => ?_)
    refine wp_seq_k (fun K6 hK6 => ?_)
    refine wp_region_lit ?_
    refine sqv hf (r_move rfl) rfl rfl rfl ?_; clear hf fa; intro fa hf
    refine sqv hf (r_fa rfl Try.underlying67 (f := 1) (q := 1) rfl (by kernel_rfl) rfl) rfl rfl rfl ?_; clear hf fa; intro fa hf
    refine sqv hf (r_load (v := (.slice m.2.1.at' m.2.1.len m.2.1.cap)) rfl Try.underlying57 rfl (cell_blk hkb1 rfl)) rfl rfl rfl ?_; clear hf fa; intro fa hf
    refine sqv hf (r_lensl rfl Try.underlying57) rfl rfl rfl ?_; clear hf fa; intro fa hf
    refine sqv hf (r_lt rfl rfl) rfl rfl rfl ?_; clear hf fa; intro fa hf
    apply wpList_nil
    (try simp only [Exit.then, Exit.inBlock, ↓reduceIte, Nat.reduceEqDiff])
    refine hK6 _ _ ?_
    refine wp_cond_split (t := (decide (((k : Nat) : Int) < ((m.2.1.len : Nat) : Int)))) (hf.ev rfl) (fun hqt9_1 => ?_) (fun hqt9_1 => ?_)
    · have hqt9_1b := hqt9_1
      try simp only [decide_eq_true_eq, Bool.and_eq_true, Bool.or_eq_true, Bool.not_eq_true', decide_eq_false_iff_not, ne_eq, Bool.not_eq_true] at hqt9_1
      refine wp_skip ?_
      (try simp only [Exit.then, Exit.inBlock, ↓reduceIte, Nat.reduceEqDiff])
      refine hK5 _ _ ?_
      refine wp_seq_k (fun K7 hK7 => ?_)
      refine wp_block ?_
      refine wp_seq_k (fun K8 hK8 => ?_)
      refine wp_region_lit ?_
      refine sqv hf (r_fa rfl Try.underlying67 (f := 1) (q := 1) rfl (by kernel_rfl) rfl) rfl rfl rfl ?_; clear hf fa; intro fa hf
      refine sqv hf (r_load (v := (.slice m.2.1.at' m.2.1.len m.2.1.cap)) rfl Try.underlying57 rfl (cell_blk hkb1 rfl)) rfl rfl rfl ?_; clear hf fa; intro fa hf
      refine sqv hf (r_move rfl) rfl rfl rfl ?_; clear hf fa; intro fa hf
      obtain ⟨y1, hy1⟩ : ∃ x, (m.2.1.list)[k]? = some x := ⟨_, List.getElem?_eq_getElem (by (try simp only [Sl.list_length]); omega)⟩
      obtain ⟨ab1, aoff1, hat1, hlb1, hel1⟩ := RdS.at (RdS.of_arg g.2.1.2) hy1
      refine sqv hf (r_ixa (sz := 9) (j := k) (evAt rfl hat1) rfl Try.underlying57 (by kernel_rfl) rfl (by omega) rfl) rfl rfl rfl ?_; clear hf fa; intro fa hf
      refine sqv hf (r_fa rfl Try.underlying103 (f := 2) (q := ((aoff1 + k * 9) + 2)) rfl (by kernel_rfl) rfl) rfl rfl rfl ?_; clear hf fa; intro fa hf
      refine sqv hf (r_load (v := (.int .u8 y1.2.2.1)) rfl Try.underlying5 rfl (cellsAt_cell (cellsAt_below hel1 hb hlb1) (i := 2) rfl rfl)) rfl rfl rfl ?_; clear hf fa; intro fa hf
      refine sqv hf (r_eq rfl rfl) rfl rfl rfl ?_; clear hf fa; intro fa hf
      apply wpList_nil
      (try simp only [Exit.then, Exit.inBlock, ↓reduceIte, Nat.reduceEqDiff])
      refine hK8 _ _ ?_
      refine wp_cond_split (t := (decide (y1.2.2.1 = (0 : Int)))) (hf.ev rfl) (fun hqt18_1 => ?_) (fun hqt18_1 => ?_)
      · have hqt18_1b := hqt18_1
        try simp only [decide_eq_true_eq, Bool.and_eq_true, Bool.or_eq_true, Bool.not_eq_true', decide_eq_false_iff_not, ne_eq, Bool.not_eq_true] at hqt18_1
        refine wp_region_lit ?_
        refine sqv hf (r_move rfl) rfl rfl rfl ?_; clear hf fa; intro fa hf
        refine sqv hf (r_fa rfl Try.underlying67 (f := 1) (q := 1) rfl (by kernel_rfl) rfl) rfl rfl rfl ?_; clear hf fa; intro fa hf
        refine sqv hf (r_load (v := (.slice m.2.1.at' m.2.1.len m.2.1.cap)) rfl Try.underlying57 rfl (cell_blk hkb1 rfl)) rfl rfl rfl ?_; clear hf fa; intro fa hf
        refine sqv hf (r_move rfl) rfl rfl rfl ?_; clear hf fa; intro fa hf
        refine sqv hf (r_ixa (sz := 9) (j := k) (evAt rfl hat1) rfl Try.underlying57 (by kernel_rfl) rfl (by omega) rfl) rfl rfl rfl ?_; clear hf fa; intro fa hf
        refine sqv hf (r_fa rfl Try.underlying103 (f := 1) (q := ((aoff1 + k * 9) + 1)) rfl (by kernel_rfl) rfl) rfl rfl rfl ?_; clear hf fa; intro fa hf
        refine sqv hf (r_load (v := (.string y1.2.1)) rfl Try.underlying9 rfl (cellsAt_cell (cellsAt_below hel1 hb hlb1) (i := 1) rfl rfl)) rfl rfl rfl ?_; clear hf fa; intro fa hf
        refine sqdt hf (d_bslice (z := (.string ⟨#[]⟩)) (sz := 1) (vs := [(0, (.string y1.2.1))]) (cs := #[(.string y1.2.1)]) rfl Try.underlying54 (by kernel_rfl) rfl (by kernel_rfl)) rfl rfl rfl ?_; clear hf fa; rintro fa _ w3 ⟨b2, rfl, hle2, hk2, he2⟩ hf
        have hBb2 : w.heap.size ≤ b2 := Nat.le_trans hb.size hle2
        have : b1 < b2 := Nat.lt_of_lt_of_le (blk_lt hkb1) hle2
        have hnr1 : (Value.slice roa ((((namesT (m.2.1.list.take k))).length)) roc).ownBlock ≠ some b2 := fun hq => by have := (Row.lt hro _ hq).2; omega
        replace hkb1 := blk_ext hkb1 he2
        replace hro := Row.ext hro he2
        replace hb := hb.trans (Below.mono he2 hb.size)
        have hs1 := Row.rd (by intros; rfl) (Row.of_new (k := 1) (V := vStr) (l := [y1.2.1]) hk2 (Nat.le_refl _) rfl rfl (Nat.le_of_ble_eq_true rfl))
        refine sqdt hf (d_append (V := vStr) (k := 1) (e := 9) (bytes := 16) (z := (.string ⟨#[]⟩)) (news := [y1.2.1]) (base := w.heap.size) (by intros; rfl) (by intro x u hu; simp only [vStr, List.mem_singleton] at hu; subst hu; rfl) rfl rfl Try.underlying54 (by kernel_rfl) rfl rfl rfl hro hs1 rfl (fun h => by cases h) (by first | omega | (simp only [List.length_cons, List.length_nil, List.length_append]; omega)) (by have := hb.size; omega)) rfl rfl rfl ?_; clear hf fa; rintro fa v w4 ⟨hr1, hg1⟩ hf; obtain ⟨ra1, rc1, rfl, hcrc1, hmrc1⟩ := Row.slice hr1
        replace hkb1 := blk_row' hkb1 hg1 (Row.ne_type hro hkb1 rfl)
        replace hb := hb.trans (row_below hro hg1 hb.size (by have := hb.size; omega))
        refine sqv hf (r_assign rfl) rfl rfl rfl ?_; clear hf fa; intro fa hf
        apply wpList_nil
        (try simp only [Exit.then, Exit.inBlock, ↓reduceIte, Nat.reduceEqDiff])
        refine hK7 _ _ ?_
        refine wp_region_lit ?_
        refine sqv hf (r_move rfl) rfl rfl rfl ?_; clear hf fa; intro fa hf
        refine sqv hf (r_add (C := (((k : Nat) : Int) + (1 : Int))) rfl rfl (by rw [IntKind.wrap_i64]; omega)) rfl rfl rfl ?_; clear hf fa; intro fa hf
        refine sqv hf (r_assign rfl) rfl rfl rfl ?_; clear hf fa; intro fa hf
        apply wpList_nil
        (try simp only [Exit.then, Exit.inBlock, ↓reduceIte, Nat.reduceEqDiff])
        have hle := congrArg List.length (names_yes hy1 hqt18_1)
        simp only [List.length_append, List.length_cons, List.length_nil] at hle
        refine hKL1 _ _ _ (by omega) ⟨(k + 1), ra1, rc1, rfl, hf.sub ⟨rfl, (some_int (by first | rfl | omega)), (some_sl (by first | omega | (simp <;> omega)) rfl), trivial⟩, hb, (rowToL hr1 (names_yes hy1 hqt18_1)), hkb1, by omega⟩
      · have hqt18_1b := hqt18_1
        replace hqt18_1 := Bool.eq_false_iff.1 hqt18_1
        try simp only [ne_eq, decide_eq_true_eq, Bool.and_eq_true, Bool.or_eq_true, Bool.not_eq_true', decide_eq_false_iff_not] at hqt18_1
        refine wp_skip ?_
        (try simp only [Exit.then, Exit.inBlock, ↓reduceIte, Nat.reduceEqDiff])
        refine hK7 _ _ ?_
        refine wp_region_lit ?_
        refine sqv hf (r_move rfl) rfl rfl rfl ?_; clear hf fa; intro fa hf
        refine sqv hf (r_add (C := (((k : Nat) : Int) + (1 : Int))) rfl rfl (by rw [IntKind.wrap_i64]; omega)) rfl rfl rfl ?_; clear hf fa; intro fa hf
        refine sqv hf (r_assign rfl) rfl rfl rfl ?_; clear hf fa; intro fa hf
        apply wpList_nil
        (try simp only [Exit.then, Exit.inBlock, ↓reduceIte, Nat.reduceEqDiff])
        have hle := congrArg List.length (names_no hy1 hqt18_1)
        refine hKL1 _ _ _ (by omega) ⟨(k + 1), roa, roc, rfl, hf.sub ⟨rfl, (some_int (by first | rfl | omega)), (some_sl (by first | omega | (simp <;> omega)) rfl), trivial⟩, hb, (rowToL hro (names_no hy1 hqt18_1)), hkb1, by omega⟩
    · have hqt9_1b := hqt9_1
      replace hqt9_1 := Bool.eq_false_iff.1 hqt9_1
      try simp only [ne_eq, decide_eq_true_eq, Bool.and_eq_true, Bool.or_eq_true, Bool.not_eq_true', decide_eq_false_iff_not] at hqt9_1
      refine wp_exit ?_
      (try simp only [Exit.then, Exit.inBlock, ↓reduceIte, Nat.reduceEqDiff])
      refine hK3 _ _ ?_
      refine wp_seq_k (fun K9 hK9 => ?_)
      refine wp_region_lit ?_
      refine sqv hf (r_move rfl) rfl rfl rfl ?_; clear hf fa; intro fa hf
      refine sqv hf (r_assign rfl) rfl rfl rfl ?_; clear hf fa; intro fa hf
      apply wpList_nil
      (try simp only [Exit.then, Exit.inBlock, ↓reduceIte, Nat.reduceEqDiff])
      refine hK9 _ _ ?_
      refine wp_ret ?_
      (try simp only [Exit.then, Exit.inBlock])
      refine ret1 hf rfl rfl ?_
      exact ⟨_, rfl, rowTo hro (by rw [show k = m.2.1.len by omega, take_list]), hb⟩

def typeofP (m : MMd) (f : Int) : MFt × Bool :=
  bif (decide (f.toNat < (funcsP m).length)) then bif (decide (((m.1.len : Nat) : Int) ≤ (((funcsP m).getD (f).toNat (0 : Int))))) then ((⟨#[]⟩, ⟨#[]⟩, ()), false)
  else ((m.1.list.getD (((funcsP m).getD (f).toNat (0 : Int))).toNat zMFt), true)
  else ((⟨#[]⟩, ⟨#[]⟩, ()), false)

set_option maxHeartbeats 1000000 in
set_option maxRecDepth 100000 in
theorem typeof_any (m : MMd) (f : Int) (w : World) (g : fMMd w m) (hs : smallP m) (hf0 : 0 ≤ f ∧ f < 4294967296) : Calls Try.prog 72 #[(.agg #[(.slice m.1.at' m.1.len m.1.cap), (.slice m.2.1.at' m.2.1.len m.2.1.cap), (.slice m.2.2.1.at' m.2.2.1.len m.2.2.1.cap), (.slice m.2.2.2.1.at' m.2.2.2.1.len m.2.2.2.1.cap), (.slice m.2.2.2.2.1.at' m.2.2.2.2.1.len m.2.2.2.2.1.cap), (.slice m.2.2.2.2.2.1.at' m.2.2.2.2.2.1.len m.2.2.2.2.2.1.cap), (.slice m.2.2.2.2.2.2.1.at' m.2.2.2.2.2.2.1.len m.2.2.2.2.2.2.1.cap), (.int .i64 m.2.2.2.2.2.2.2.1), (.slice m.2.2.2.2.2.2.2.2.1.at' m.2.2.2.2.2.2.2.2.1.len m.2.2.2.2.2.2.2.2.1.cap), (.slice m.2.2.2.2.2.2.2.2.2.1.at' m.2.2.2.2.2.2.2.2.2.1.len m.2.2.2.2.2.2.2.2.2.1.cap), (.slice m.2.2.2.2.2.2.2.2.2.2.1.at' m.2.2.2.2.2.2.2.2.2.2.1.len m.2.2.2.2.2.2.2.2.2.2.1.cap), (.bool m.2.2.2.2.2.2.2.2.2.2.2.1.1), (.int .u32 m.2.2.2.2.2.2.2.2.2.2.2.1.2.1), (.int .u32 m.2.2.2.2.2.2.2.2.2.2.2.1.2.2.1), (.int .u32 m.2.2.2.2.2.2.2.2.2.2.2.1.2.2.2.1), (.int .u32 m.2.2.2.2.2.2.2.2.2.2.2.1.2.2.2.2.1), (.slice m.2.2.2.2.2.2.2.2.2.2.2.1.2.2.2.2.2.1.at' m.2.2.2.2.2.2.2.2.2.2.2.1.2.2.2.2.2.1.len m.2.2.2.2.2.2.2.2.2.2.2.1.2.2.2.2.2.1.cap)]), (.int .u32 f)] w fun e w' => e = .returned (.tuple #[(.agg #[(.string (typeofP m f).1.1), (.string (typeofP m f).1.2.1)]), (.bool (typeofP m f).2)]) ∧ Below w.heap.size w w' := by
  have hz_m0 := g.1.1; have hl_m0 := g.1.2.1; have hm_m0 := g.1.2.2.1; have hn_m0 := g.1.2.2.2.1; (try unfold maxLen at hm_m0)
  have hTR := RdS.of_arg g.1.2
  have hml : maxLen = 9223372036854775807 := rfl
  refine sx_enter (L := [(0, (.agg #[(.slice m.1.at' m.1.len m.1.cap), (.slice m.2.1.at' m.2.1.len m.2.1.cap), (.slice m.2.2.1.at' m.2.2.1.len m.2.2.1.cap), (.slice m.2.2.2.1.at' m.2.2.2.1.len m.2.2.2.1.cap), (.slice m.2.2.2.2.1.at' m.2.2.2.2.1.len m.2.2.2.2.1.cap), (.slice m.2.2.2.2.2.1.at' m.2.2.2.2.2.1.len m.2.2.2.2.2.1.cap), (.slice m.2.2.2.2.2.2.1.at' m.2.2.2.2.2.2.1.len m.2.2.2.2.2.2.1.cap), (.int .i64 m.2.2.2.2.2.2.2.1), (.slice m.2.2.2.2.2.2.2.2.1.at' m.2.2.2.2.2.2.2.2.1.len m.2.2.2.2.2.2.2.2.1.cap), (.slice m.2.2.2.2.2.2.2.2.2.1.at' m.2.2.2.2.2.2.2.2.2.1.len m.2.2.2.2.2.2.2.2.2.1.cap), (.slice m.2.2.2.2.2.2.2.2.2.2.1.at' m.2.2.2.2.2.2.2.2.2.2.1.len m.2.2.2.2.2.2.2.2.2.2.1.cap), (.bool m.2.2.2.2.2.2.2.2.2.2.2.1.1), (.int .u32 m.2.2.2.2.2.2.2.2.2.2.2.1.2.1), (.int .u32 m.2.2.2.2.2.2.2.2.2.2.2.1.2.2.1), (.int .u32 m.2.2.2.2.2.2.2.2.2.2.2.1.2.2.2.1), (.int .u32 m.2.2.2.2.2.2.2.2.2.2.2.1.2.2.2.2.1), (.slice m.2.2.2.2.2.2.2.2.2.2.2.1.2.2.2.2.2.1.at' m.2.2.2.2.2.2.2.2.2.2.2.1.2.2.2.2.2.1.len m.2.2.2.2.2.2.2.2.2.2.2.1.2.2.2.2.2.1.cap)])), (1, (.int .u32 f))]) Try.func72 rfl rfl rfl rfl (fun fa hf => ?_)
  have hb : Below w.heap.size w w := Below.refl _ _
  refine wp_seq_k (fun K1 hK1 => ?_)
  refine wp_region_lit ?_
  refine sqdt hf (d_box (cs := #[(.slice m.1.at' m.1.len m.1.cap), (.slice m.2.1.at' m.2.1.len m.2.1.cap), (.slice m.2.2.1.at' m.2.2.1.len m.2.2.1.cap), (.slice m.2.2.2.1.at' m.2.2.2.1.len m.2.2.2.1.cap), (.slice m.2.2.2.2.1.at' m.2.2.2.2.1.len m.2.2.2.2.1.cap), (.slice m.2.2.2.2.2.1.at' m.2.2.2.2.2.1.len m.2.2.2.2.2.1.cap), (.slice m.2.2.2.2.2.2.1.at' m.2.2.2.2.2.2.1.len m.2.2.2.2.2.2.1.cap), (.int .i64 m.2.2.2.2.2.2.2.1), (.slice m.2.2.2.2.2.2.2.2.1.at' m.2.2.2.2.2.2.2.2.1.len m.2.2.2.2.2.2.2.2.1.cap), (.slice m.2.2.2.2.2.2.2.2.2.1.at' m.2.2.2.2.2.2.2.2.2.1.len m.2.2.2.2.2.2.2.2.2.1.cap), (.slice m.2.2.2.2.2.2.2.2.2.2.1.at' m.2.2.2.2.2.2.2.2.2.2.1.len m.2.2.2.2.2.2.2.2.2.2.1.cap), (.bool m.2.2.2.2.2.2.2.2.2.2.2.1.1), (.int .u32 m.2.2.2.2.2.2.2.2.2.2.2.1.2.1), (.int .u32 m.2.2.2.2.2.2.2.2.2.2.2.1.2.2.1), (.int .u32 m.2.2.2.2.2.2.2.2.2.2.2.1.2.2.2.1), (.int .u32 m.2.2.2.2.2.2.2.2.2.2.2.1.2.2.2.2.1), (.slice m.2.2.2.2.2.2.2.2.2.2.2.1.2.2.2.2.2.1.at' m.2.2.2.2.2.2.2.2.2.2.2.1.2.2.2.2.2.1.len m.2.2.2.2.2.2.2.2.2.2.2.1.2.2.2.2.2.1.cap)]) rfl rfl) rfl rfl rfl ?_; clear hf fa; rintro fa _ w1 ⟨b1, rfl, hle1, hk1, he1⟩ hf
  have hBb1 : w.heap.size ≤ b1 := Nat.le_trans hb.size hle1
  replace hb := hb.trans (Below.mono he1 hb.size)
  refine sqdt hf (d_alloc (z := (.agg #[(.string ⟨#[]⟩), (.string ⟨#[]⟩)])) (cs := #[(.string ⟨#[]⟩), (.string ⟨#[]⟩)]) (by kernel_rfl) rfl) rfl rfl rfl ?_; clear hf fa; rintro fa _ w2 ⟨b2, rfl, hle2, hk2, he2⟩ hf
  have hBb2 : w.heap.size ≤ b2 := Nat.le_trans hb.size hle2
  have : b1 < b2 := Nat.lt_of_lt_of_le (blk_lt hk1) hle2
  replace hk1 := blk_ext hk1 he2
  replace hb := hb.trans (Below.mono he2 hb.size)
  refine sqv hf (r_assign rfl) rfl rfl rfl ?_; clear hf fa; intro fa hf
  apply wpList_nil
  (try simp only [Exit.then, Exit.inBlock, ↓reduceIte, Nat.reduceEqDiff])
  refine hK1 _ _ ?_
  refine wp_seq_k (fun K2 hK2 => ?_)
  refine wp_region_lit ?_
  refine sqv hf (r_loadA (cs := [(.slice m.1.at' m.1.len m.1.cap), (.slice m.2.1.at' m.2.1.len m.2.1.cap), (.slice m.2.2.1.at' m.2.2.1.len m.2.2.1.cap), (.slice m.2.2.2.1.at' m.2.2.2.1.len m.2.2.2.1.cap), (.slice m.2.2.2.2.1.at' m.2.2.2.2.1.len m.2.2.2.2.1.cap), (.slice m.2.2.2.2.2.1.at' m.2.2.2.2.2.1.len m.2.2.2.2.2.1.cap), (.slice m.2.2.2.2.2.2.1.at' m.2.2.2.2.2.2.1.len m.2.2.2.2.2.2.1.cap), (.int .i64 m.2.2.2.2.2.2.2.1), (.slice m.2.2.2.2.2.2.2.2.1.at' m.2.2.2.2.2.2.2.2.1.len m.2.2.2.2.2.2.2.2.1.cap), (.slice m.2.2.2.2.2.2.2.2.2.1.at' m.2.2.2.2.2.2.2.2.2.1.len m.2.2.2.2.2.2.2.2.2.1.cap), (.slice m.2.2.2.2.2.2.2.2.2.2.1.at' m.2.2.2.2.2.2.2.2.2.2.1.len m.2.2.2.2.2.2.2.2.2.2.1.cap), (.bool m.2.2.2.2.2.2.2.2.2.2.2.1.1), (.int .u32 m.2.2.2.2.2.2.2.2.2.2.2.1.2.1), (.int .u32 m.2.2.2.2.2.2.2.2.2.2.2.1.2.2.1), (.int .u32 m.2.2.2.2.2.2.2.2.2.2.2.1.2.2.2.1), (.int .u32 m.2.2.2.2.2.2.2.2.2.2.2.1.2.2.2.2.1), (.slice m.2.2.2.2.2.2.2.2.2.2.2.1.2.2.2.2.2.1.at' m.2.2.2.2.2.2.2.2.2.2.2.1.2.2.2.2.2.1.len m.2.2.2.2.2.2.2.2.2.2.2.1.2.2.2.2.2.1.cap)]) rfl Try.underlying67 rfl (by kernel_rfl) (cellsAt_blk hk1)) rfl rfl rfl ?_; clear hf fa; intro fa hf
  refine sqdt hf (d_callX (vs := [(.agg #[(.slice m.1.at' m.1.len m.1.cap), (.slice m.2.1.at' m.2.1.len m.2.1.cap), (.slice m.2.2.1.at' m.2.2.1.len m.2.2.1.cap), (.slice m.2.2.2.1.at' m.2.2.2.1.len m.2.2.2.1.cap), (.slice m.2.2.2.2.1.at' m.2.2.2.2.1.len m.2.2.2.2.1.cap), (.slice m.2.2.2.2.2.1.at' m.2.2.2.2.2.1.len m.2.2.2.2.2.1.cap), (.slice m.2.2.2.2.2.2.1.at' m.2.2.2.2.2.2.1.len m.2.2.2.2.2.2.1.cap), (.int .i64 m.2.2.2.2.2.2.2.1), (.slice m.2.2.2.2.2.2.2.2.1.at' m.2.2.2.2.2.2.2.2.1.len m.2.2.2.2.2.2.2.2.1.cap), (.slice m.2.2.2.2.2.2.2.2.2.1.at' m.2.2.2.2.2.2.2.2.2.1.len m.2.2.2.2.2.2.2.2.2.1.cap), (.slice m.2.2.2.2.2.2.2.2.2.2.1.at' m.2.2.2.2.2.2.2.2.2.2.1.len m.2.2.2.2.2.2.2.2.2.2.1.cap), (.bool m.2.2.2.2.2.2.2.2.2.2.2.1.1), (.int .u32 m.2.2.2.2.2.2.2.2.2.2.2.1.2.1), (.int .u32 m.2.2.2.2.2.2.2.2.2.2.2.1.2.2.1), (.int .u32 m.2.2.2.2.2.2.2.2.2.2.2.1.2.2.2.1), (.int .u32 m.2.2.2.2.2.2.2.2.2.2.2.1.2.2.2.2.1), (.slice m.2.2.2.2.2.2.2.2.2.2.2.1.2.2.2.2.2.1.at' m.2.2.2.2.2.2.2.2.2.2.2.1.2.2.2.2.2.1.len m.2.2.2.2.2.2.2.2.2.2.2.1.2.2.2.2.2.1.cap)])]) rfl Try.func93 (by kernel_rfl) (by kernel_rfl) (funcs_any m _ (rdMMd.kept _ _ _ hb g) hs)) rfl rfl rfl ?_; clear hf fa; rintro fa v w3 ⟨hr1, he3⟩ hf; obtain ⟨ra1, rc1, rfl, hcrc1, hmrc1⟩ := Row.slice hr1
  replace hr1 := Row.rebase hr1 hb.size
  replace hk1 := blk_ext hk1 he3
  replace hk2 := blk_ext hk2 he3
  replace hb := hb.trans (Below.mono he3 hb.size)
  refine sqv hf (r_assign rfl) rfl rfl rfl ?_; clear hf fa; intro fa hf
  apply wpList_nil
  (try simp only [Exit.then, Exit.inBlock, ↓reduceIte, Nat.reduceEqDiff])
  refine hK2 _ _ ?_
  refine wp_seq_k (fun K3 hK3 => ?_)
  refine wp_seq_k (fun K4 hK4 => ?_)
  skip
  by_cases hsp1 : f.toNat < (funcsP m).length
  · have hsp1b : decide (f.toNat < (funcsP m).length) = true := decide_eq_true hsp1
    have hfr := funcs_rng g _ (getD_memL (z := (0 : Int)) hsp1)
    obtain ⟨rb1, rfl, hbbrb1, hlbrb1⟩ := Row.some hr1 (by first | omega | (simp only [Sl.list_length, List.length_set, List.length_take, List.length_drop, List.length_append, List.length_replicate, List.length_cons, List.length_nil]; omega))
    have hy1 := getD_at (l := (funcsP m)) (j := (f).toNat) (0 : Int) (by first | omega | (simp only [Sl.list_length, List.length_set, List.length_take, List.length_drop, List.length_append, List.length_replicate, List.length_cons, List.length_nil]; omega))
    have hel1 := RdS.at (Row.rd (by intros; rfl) hr1) hy1
    obtain ⟨_, _, hab, hlr1, hel1⟩ := hel1
    cases hab
    refine wp_region_un (fun wq => Below w3.heap.size w3 wq) (fun w w' => Below w.heap.size w w')
      (fun V => [(fun x _ => x = (.int .u32 f)), (fun x _ => x = (.int .u64 f)), (fun x _ => x = (.slice (some ⟨rb1, 0, none⟩) (((funcsP m)).length) rc1)), (fun x _ => x = (.int .i64 ((((funcsP m)).length : Nat) : Int))), (fun x _ => x = (.int .u64 ((((funcsP m)).length : Nat) : Int))), (fun x _ => x = (.bool (decide (((((funcsP m)).length : Nat) : Int) ≤ f)))), (fun x _ => x = (.bool (decide (((((funcsP m)).length : Nat) : Int) ≤ f)))), (fun x _ => x = (.slice (some ⟨rb1, 0, none⟩) (((funcsP m)).length) rc1)), (fun x _ => x = (.int .u32 f)), (fun x _ => x = (.pointer (some ⟨rb1, (0 + (f).toNat * 1), none⟩))), (fun x _ => x = (.int .u32 (((funcsP m).getD (f).toNat (0 : Int))))), (fun x _ => x = (.int .u64 (((funcsP m).getD (f).toNat (0 : Int))))), (fun x _ => x = (.pointer (some ⟨b1, 0, none⟩))), (fun x _ => x = (.slice m.1.at' m.1.len m.1.cap)), (fun x _ => x = (.int .i64 ((m.1.len : Nat) : Int))), (fun x _ => x = (.int .u64 ((m.1.len : Nat) : Int))), (fun x _ => x = (.bool (decide (((m.1.len : Nat) : Int) ≤ (((funcsP m).getD (f).toNat (0 : Int))))))), (fun x _ => x = (.bool (decide (((m.1.len : Nat) : Int) ≤ (((funcsP m).getD (f).toNat (0 : Int)))))))])
      []
      [[], [0], [], [2], [3], [1, 4], [5], [6], [6], [6, 7, 8], [6, 9], [6, 10], [6], [6, 12], [6, 13], [6, 14], [6, 11, 15], [6, 16]]
      hf (by kernel_rfl) (by kernel_rfl) (fun _ => rfl) ((Below.refl _ _).drew) (fun a b h1 h2 => h1.trans (h2.mono h1.size)) (fun _ _ h => h.size) (fun V => ⟨kept_eq, kept_eq, kept_eq, kept_eq, kept_eq, kept_eq, kept_eq, kept_eq, kept_eq, kept_eq, kept_eq, kept_eq, kept_eq, kept_eq, kept_eq, kept_eq, kept_eq, kept_eq, trivial⟩) (fun _ _ _ _ _ => rfl) ?_ ?_
    · skip
      intro V
      refine ⟨fun wu0 hC hd => ?_, ?_⟩
      · clear hd
        replace hb := hb.trans (hC.mono hb.size)
        replace hk1 := blk_ext hk1 hC
        replace hk2 := blk_ext hk2 hC
        replace hr1 := Row.ext hr1 hC
        exact Runs.does (r_move rfl) ⟨Below.refl _ _, rfl, nofr rfl⟩
      refine ⟨fun wu1 hC hd => ?_, ?_⟩
      · obtain ⟨h0, _⟩ := hd
        skip
        replace h0 : V 0 = (.int .u32 f) := h0
        replace hb := hb.trans (hC.mono hb.size)
        replace hk1 := blk_ext hk1 hC
        replace hk2 := blk_ext hk2 hC
        replace hr1 := Row.ext hr1 hC
        exact Runs.does (r_conv (C := f) (congrArg some h0) Try.underlying44 Try.underlying36 (by rw [IntKind.wrap_u64]; omega)) ⟨Below.refl _ _, rfl, nofr rfl⟩
      refine ⟨fun wu2 hC hd => ?_, ?_⟩
      · clear hd
        replace hb := hb.trans (hC.mono hb.size)
        replace hk1 := blk_ext hk1 hC
        replace hk2 := blk_ext hk2 hC
        replace hr1 := Row.ext hr1 hC
        exact Runs.does (r_move rfl) ⟨Below.refl _ _, rfl, nofr rfl⟩
      refine ⟨fun wu3 hC hd => ?_, ?_⟩
      · obtain ⟨h2, _⟩ := hd
        skip
        replace h2 : V 2 = (.slice (some ⟨rb1, 0, none⟩) (((funcsP m)).length) rc1) := h2
        replace hb := hb.trans (hC.mono hb.size)
        replace hk1 := blk_ext hk1 hC
        replace hk2 := blk_ext hk2 hC
        replace hr1 := Row.ext hr1 hC
        exact Runs.does (r_lensl (congrArg some h2) Try.underlying37) ⟨Below.refl _ _, rfl, nofr rfl⟩
      refine ⟨fun wu4 hC hd => ?_, ?_⟩
      · obtain ⟨h3, _⟩ := hd
        skip
        replace h3 : V 3 = (.int .i64 ((((funcsP m)).length : Nat) : Int)) := h3
        replace hb := hb.trans (hC.mono hb.size)
        replace hk1 := blk_ext hk1 hC
        replace hk2 := blk_ext hk2 hC
        replace hr1 := Row.ext hr1 hC
        exact Runs.does (r_conv (C := ((((funcsP m)).length : Nat) : Int)) (congrArg some h3) Try.underlying3 Try.underlying36 (by rw [IntKind.wrap_u64]; omega)) ⟨Below.refl _ _, rfl, nofr rfl⟩
      refine ⟨fun wu5 hC hd => ?_, ?_⟩
      · obtain ⟨h1, h4, _⟩ := hd
        skip
        skip
        replace h1 : V 1 = (.int .u64 f) := h1
        replace h4 : V 4 = (.int .u64 ((((funcsP m)).length : Nat) : Int)) := h4
        replace hb := hb.trans (hC.mono hb.size)
        replace hk1 := blk_ext hk1 hC
        replace hk2 := blk_ext hk2 hC
        replace hr1 := Row.ext hr1 hC
        exact Runs.does (r_ge (congrArg some h1) (congrArg some h4)) ⟨Below.refl _ _, rfl, nofr rfl⟩
      refine ⟨fun wu6 hC hd => ?_, ?_⟩
      · obtain ⟨h5, _⟩ := hd
        skip
        replace h5 : V 5 = (.bool (decide (((((funcsP m)).length : Nat) : Int) ≤ f))) := h5
        replace hb := hb.trans (hC.mono hb.size)
        replace hk1 := blk_ext hk1 hC
        replace hk2 := blk_ext hk2 hC
        replace hr1 := Row.ext hr1 hC
        exact Runs.does (r_move (congrArg some h5)) ⟨Below.refl _ _, rfl, nofr rfl⟩
      refine ⟨fun wu7 hC hd => ?_, ?_⟩
      · obtain ⟨h6, _⟩ := hd
        skip
        replace h6 : V 6 = (.bool (decide (((((funcsP m)).length : Nat) : Int) ≤ f))) := h6
        replace hb := hb.trans (hC.mono hb.size)
        replace hk1 := blk_ext hk1 hC
        replace hk2 := blk_ext hk2 hC
        replace hr1 := Row.ext hr1 hC
        refine ⟨true, (decide (((((funcsP m)).length : Nat) : Int) ≤ f)), congrArg some h6, fun hact => ?_, fun hact => ?_⟩
        · exact Runs.does (r_move rfl) ⟨Below.refl _ _, rfl, nofr rfl⟩
        · exfalso; replace hact : (!(decide (((((funcsP m)).length : Nat) : Int) ≤ f))) = false := by simpa using hact
          rw [show (!(decide (((((funcsP m)).length : Nat) : Int) ≤ f))) = true from (by simp only [Bool.not_eq_true', Bool.not_eq_false', decide_eq_false_iff_not, decide_eq_true_eq]; omega)] at hact; cases hact
      refine ⟨fun wu8 hC hd => ?_, ?_⟩
      · obtain ⟨h6, _⟩ := hd
        skip
        replace h6 : V 6 = (.bool (decide (((((funcsP m)).length : Nat) : Int) ≤ f))) := h6
        replace hb := hb.trans (hC.mono hb.size)
        replace hk1 := blk_ext hk1 hC
        replace hk2 := blk_ext hk2 hC
        replace hr1 := Row.ext hr1 hC
        refine ⟨true, (decide (((((funcsP m)).length : Nat) : Int) ≤ f)), congrArg some h6, fun hact => ?_, fun hact => ?_⟩
        · exact Runs.does (r_move rfl) ⟨Below.refl _ _, rfl, nofr rfl⟩
        · exfalso; replace hact : (!(decide (((((funcsP m)).length : Nat) : Int) ≤ f))) = false := by simpa using hact
          rw [show (!(decide (((((funcsP m)).length : Nat) : Int) ≤ f))) = true from (by simp only [Bool.not_eq_true', Bool.not_eq_false', decide_eq_false_iff_not, decide_eq_true_eq]; omega)] at hact; cases hact
      refine ⟨fun wu9 hC hd => ?_, ?_⟩
      · obtain ⟨h6, h7, h8, _⟩ := hd
        skip
        skip
        skip
        replace h6 : V 6 = (.bool (decide (((((funcsP m)).length : Nat) : Int) ≤ f))) := h6
        replace h7 : V 7 = (.slice (some ⟨rb1, 0, none⟩) (((funcsP m)).length) rc1) := h7
        replace h8 : V 8 = (.int .u32 f) := h8
        replace hb := hb.trans (hC.mono hb.size)
        replace hk1 := blk_ext hk1 hC
        replace hk2 := blk_ext hk2 hC
        replace hr1 := Row.ext hr1 hC
        refine ⟨true, (decide (((((funcsP m)).length : Nat) : Int) ≤ f)), congrArg some h6, fun hact => ?_, fun hact => ?_⟩
        · exact Runs.does (r_ixa (sz := 1) (j := (f).toNat) (congrArg some h7) (congrArg some h8) Try.underlying37 (by kernel_rfl) (by omega) (by omega) rfl) ⟨Below.refl _ _, rfl, nofr rfl⟩
        · exfalso; replace hact : (!(decide (((((funcsP m)).length : Nat) : Int) ≤ f))) = false := by simpa using hact
          rw [show (!(decide (((((funcsP m)).length : Nat) : Int) ≤ f))) = true from (by simp only [Bool.not_eq_true', Bool.not_eq_false', decide_eq_false_iff_not, decide_eq_true_eq]; omega)] at hact; cases hact
      refine ⟨fun wu10 hC hd => ?_, ?_⟩
      · obtain ⟨h6, h9, _⟩ := hd
        skip
        skip
        replace h6 : V 6 = (.bool (decide (((((funcsP m)).length : Nat) : Int) ≤ f))) := h6
        replace h9 : V 9 = (.pointer (some ⟨rb1, (0 + (f).toNat * 1), none⟩)) := h9
        replace hb := hb.trans (hC.mono hb.size)
        replace hk1 := blk_ext hk1 hC
        replace hk2 := blk_ext hk2 hC
        replace hr1 := Row.ext hr1 hC
        refine ⟨true, (decide (((((funcsP m)).length : Nat) : Int) ≤ f)), congrArg some h6, fun hact => ?_, fun hact => ?_⟩
        · exact Runs.does (r_load (v := (.int .u32 (((funcsP m).getD (f).toNat (0 : Int))))) (congrArg some h9) Try.underlying44 rfl (cellsAt_cell (cellsAt_below hel1 hC hlr1) (i := 0) rfl rfl)) ⟨Below.refl _ _, rfl, nofr rfl⟩
        · exfalso; replace hact : (!(decide (((((funcsP m)).length : Nat) : Int) ≤ f))) = false := by simpa using hact
          rw [show (!(decide (((((funcsP m)).length : Nat) : Int) ≤ f))) = true from (by simp only [Bool.not_eq_true', Bool.not_eq_false', decide_eq_false_iff_not, decide_eq_true_eq]; omega)] at hact; cases hact
      refine ⟨fun wu11 hC hd => ?_, ?_⟩
      · obtain ⟨h6, h10, _⟩ := hd
        skip
        skip
        replace h6 : V 6 = (.bool (decide (((((funcsP m)).length : Nat) : Int) ≤ f))) := h6
        replace h10 : V 10 = (.int .u32 (((funcsP m).getD (f).toNat (0 : Int)))) := h10
        replace hb := hb.trans (hC.mono hb.size)
        replace hk1 := blk_ext hk1 hC
        replace hk2 := blk_ext hk2 hC
        replace hr1 := Row.ext hr1 hC
        refine ⟨true, (decide (((((funcsP m)).length : Nat) : Int) ≤ f)), congrArg some h6, fun hact => ?_, fun hact => ?_⟩
        · exact Runs.does (r_conv (C := (((funcsP m).getD (f).toNat (0 : Int)))) (congrArg some h10) Try.underlying44 Try.underlying36 (by rw [IntKind.wrap_u64]; omega)) ⟨Below.refl _ _, rfl, nofr rfl⟩
        · exfalso; replace hact : (!(decide (((((funcsP m)).length : Nat) : Int) ≤ f))) = false := by simpa using hact
          rw [show (!(decide (((((funcsP m)).length : Nat) : Int) ≤ f))) = true from (by simp only [Bool.not_eq_true', Bool.not_eq_false', decide_eq_false_iff_not, decide_eq_true_eq]; omega)] at hact; cases hact
      refine ⟨fun wu12 hC hd => ?_, ?_⟩
      · obtain ⟨h6, _⟩ := hd
        skip
        replace h6 : V 6 = (.bool (decide (((((funcsP m)).length : Nat) : Int) ≤ f))) := h6
        replace hb := hb.trans (hC.mono hb.size)
        replace hk1 := blk_ext hk1 hC
        replace hk2 := blk_ext hk2 hC
        replace hr1 := Row.ext hr1 hC
        refine ⟨true, (decide (((((funcsP m)).length : Nat) : Int) ≤ f)), congrArg some h6, fun hact => ?_, fun hact => ?_⟩
        · exact Runs.does (r_fa rfl Try.underlying67 (f := 0) (q := 0) rfl (by kernel_rfl) rfl) ⟨Below.refl _ _, rfl, nofr rfl⟩
        · exfalso; replace hact : (!(decide (((((funcsP m)).length : Nat) : Int) ≤ f))) = false := by simpa using hact
          rw [show (!(decide (((((funcsP m)).length : Nat) : Int) ≤ f))) = true from (by simp only [Bool.not_eq_true', Bool.not_eq_false', decide_eq_false_iff_not, decide_eq_true_eq]; omega)] at hact; cases hact
      refine ⟨fun wu13 hC hd => ?_, ?_⟩
      · obtain ⟨h6, h12, _⟩ := hd
        skip
        skip
        replace h6 : V 6 = (.bool (decide (((((funcsP m)).length : Nat) : Int) ≤ f))) := h6
        replace h12 : V 12 = (.pointer (some ⟨b1, 0, none⟩)) := h12
        replace hb := hb.trans (hC.mono hb.size)
        replace hk1 := blk_ext hk1 hC
        replace hk2 := blk_ext hk2 hC
        replace hr1 := Row.ext hr1 hC
        refine ⟨true, (decide (((((funcsP m)).length : Nat) : Int) ≤ f)), congrArg some h6, fun hact => ?_, fun hact => ?_⟩
        · exact Runs.does (r_load (v := (.slice m.1.at' m.1.len m.1.cap)) (congrArg some h12) Try.underlying56 rfl (cell_blk hk1 rfl)) ⟨Below.refl _ _, rfl, nofr rfl⟩
        · exfalso; replace hact : (!(decide (((((funcsP m)).length : Nat) : Int) ≤ f))) = false := by simpa using hact
          rw [show (!(decide (((((funcsP m)).length : Nat) : Int) ≤ f))) = true from (by simp only [Bool.not_eq_true', Bool.not_eq_false', decide_eq_false_iff_not, decide_eq_true_eq]; omega)] at hact; cases hact
      refine ⟨fun wu14 hC hd => ?_, ?_⟩
      · obtain ⟨h6, h13, _⟩ := hd
        skip
        skip
        replace h6 : V 6 = (.bool (decide (((((funcsP m)).length : Nat) : Int) ≤ f))) := h6
        replace h13 : V 13 = (.slice m.1.at' m.1.len m.1.cap) := h13
        replace hb := hb.trans (hC.mono hb.size)
        replace hk1 := blk_ext hk1 hC
        replace hk2 := blk_ext hk2 hC
        replace hr1 := Row.ext hr1 hC
        refine ⟨true, (decide (((((funcsP m)).length : Nat) : Int) ≤ f)), congrArg some h6, fun hact => ?_, fun hact => ?_⟩
        · exact Runs.does (r_lensl (congrArg some h13) Try.underlying56) ⟨Below.refl _ _, rfl, nofr rfl⟩
        · exfalso; replace hact : (!(decide (((((funcsP m)).length : Nat) : Int) ≤ f))) = false := by simpa using hact
          rw [show (!(decide (((((funcsP m)).length : Nat) : Int) ≤ f))) = true from (by simp only [Bool.not_eq_true', Bool.not_eq_false', decide_eq_false_iff_not, decide_eq_true_eq]; omega)] at hact; cases hact
      refine ⟨fun wu15 hC hd => ?_, ?_⟩
      · obtain ⟨h6, h14, _⟩ := hd
        skip
        skip
        replace h6 : V 6 = (.bool (decide (((((funcsP m)).length : Nat) : Int) ≤ f))) := h6
        replace h14 : V 14 = (.int .i64 ((m.1.len : Nat) : Int)) := h14
        replace hb := hb.trans (hC.mono hb.size)
        replace hk1 := blk_ext hk1 hC
        replace hk2 := blk_ext hk2 hC
        replace hr1 := Row.ext hr1 hC
        refine ⟨true, (decide (((((funcsP m)).length : Nat) : Int) ≤ f)), congrArg some h6, fun hact => ?_, fun hact => ?_⟩
        · exact Runs.does (r_conv (C := ((m.1.len : Nat) : Int)) (congrArg some h14) Try.underlying3 Try.underlying36 (by rw [IntKind.wrap_u64]; omega)) ⟨Below.refl _ _, rfl, nofr rfl⟩
        · exfalso; replace hact : (!(decide (((((funcsP m)).length : Nat) : Int) ≤ f))) = false := by simpa using hact
          rw [show (!(decide (((((funcsP m)).length : Nat) : Int) ≤ f))) = true from (by simp only [Bool.not_eq_true', Bool.not_eq_false', decide_eq_false_iff_not, decide_eq_true_eq]; omega)] at hact; cases hact
      refine ⟨fun wu16 hC hd => ?_, ?_⟩
      · obtain ⟨h6, h11, h15, _⟩ := hd
        skip
        skip
        skip
        replace h6 : V 6 = (.bool (decide (((((funcsP m)).length : Nat) : Int) ≤ f))) := h6
        replace h11 : V 11 = (.int .u64 (((funcsP m).getD (f).toNat (0 : Int)))) := h11
        replace h15 : V 15 = (.int .u64 ((m.1.len : Nat) : Int)) := h15
        replace hb := hb.trans (hC.mono hb.size)
        replace hk1 := blk_ext hk1 hC
        replace hk2 := blk_ext hk2 hC
        replace hr1 := Row.ext hr1 hC
        refine ⟨true, (decide (((((funcsP m)).length : Nat) : Int) ≤ f)), congrArg some h6, fun hact => ?_, fun hact => ?_⟩
        · exact Runs.does (r_ge (congrArg some h11) (congrArg some h15)) ⟨Below.refl _ _, rfl, nofr rfl⟩
        · exfalso; replace hact : (!(decide (((((funcsP m)).length : Nat) : Int) ≤ f))) = false := by simpa using hact
          rw [show (!(decide (((((funcsP m)).length : Nat) : Int) ≤ f))) = true from (by simp only [Bool.not_eq_true', Bool.not_eq_false', decide_eq_false_iff_not, decide_eq_true_eq]; omega)] at hact; cases hact
      refine ⟨fun wu17 hC hd => ?_, ?_⟩
      · obtain ⟨h6, h16, _⟩ := hd
        skip
        skip
        replace h6 : V 6 = (.bool (decide (((((funcsP m)).length : Nat) : Int) ≤ f))) := h6
        replace h16 : V 16 = (.bool (decide (((m.1.len : Nat) : Int) ≤ (((funcsP m).getD (f).toNat (0 : Int)))))) := h16
        replace hb := hb.trans (hC.mono hb.size)
        replace hk1 := blk_ext hk1 hC
        replace hk2 := blk_ext hk2 hC
        replace hr1 := Row.ext hr1 hC
        exact Runs.does (r_pick (b := (decide (((((funcsP m)).length : Nat) : Int) ≤ f))) (congrArg some h6) rfl (congrArg some h16) (by rw [show (decide (((((funcsP m)).length : Nat) : Int) ≤ f)) = false from (by simp only [Bool.not_eq_true', Bool.not_eq_false', decide_eq_false_iff_not, decide_eq_true_eq]; omega)]; rfl)) ⟨Below.refl _ _, rfl, nofr rfl⟩
      trivial
    · skip
      clear hf fa; intro V w4 fa he4 hp hnb hf
      have hv0 : V 0 = (.int .u32 f) := postsHold_at hp 0 rfl
      have hv1 : V 1 = (.int .u64 f) := postsHold_at hp 1 rfl
      have hv2 : V 2 = (.slice (some ⟨rb1, 0, none⟩) (((funcsP m)).length) rc1) := postsHold_at hp 2 rfl
      have hv3 : V 3 = (.int .i64 ((((funcsP m)).length : Nat) : Int)) := postsHold_at hp 3 rfl
      have hv4 : V 4 = (.int .u64 ((((funcsP m)).length : Nat) : Int)) := postsHold_at hp 4 rfl
      have hv5 : V 5 = (.bool (decide (((((funcsP m)).length : Nat) : Int) ≤ f))) := postsHold_at hp 5 rfl
      have hv6 : V 6 = (.bool (decide (((((funcsP m)).length : Nat) : Int) ≤ f))) := postsHold_at hp 6 rfl
      have hv7 : V 7 = (.slice (some ⟨rb1, 0, none⟩) (((funcsP m)).length) rc1) := postsHold_at hp 7 rfl
      have hv8 : V 8 = (.int .u32 f) := postsHold_at hp 8 rfl
      have hv9 : V 9 = (.pointer (some ⟨rb1, (0 + (f).toNat * 1), none⟩)) := postsHold_at hp 9 rfl
      have hv10 : V 10 = (.int .u32 (((funcsP m).getD (f).toNat (0 : Int)))) := postsHold_at hp 10 rfl
      have hv11 : V 11 = (.int .u64 (((funcsP m).getD (f).toNat (0 : Int)))) := postsHold_at hp 11 rfl
      have hv12 : V 12 = (.pointer (some ⟨b1, 0, none⟩)) := postsHold_at hp 12 rfl
      have hv13 : V 13 = (.slice m.1.at' m.1.len m.1.cap) := postsHold_at hp 13 rfl
      have hv14 : V 14 = (.int .i64 ((m.1.len : Nat) : Int)) := postsHold_at hp 14 rfl
      have hv15 : V 15 = (.int .u64 ((m.1.len : Nat) : Int)) := postsHold_at hp 15 rfl
      have hv16 : V 16 = (.bool (decide (((m.1.len : Nat) : Int) ≤ (((funcsP m).getD (f).toNat (0 : Int)))))) := postsHold_at hp 16 rfl
      have hv17 : V 17 = (.bool (decide (((m.1.len : Nat) : Int) ≤ (((funcsP m).getD (f).toNat (0 : Int)))))) := postsHold_at hp 17 rfl
      simp only [List.take_succ_cons, List.take_zero, insAll, ins, hv0, hv1, hv2, hv3, hv4, hv5, hv6, hv7, hv8, hv9, hv10, hv11, hv12, hv13, hv14, hv15, hv16, hv17] at hf
      clear hp hnb hv0 hv1 hv2 hv3 hv4 hv5 hv6 hv7 hv8 hv9 hv10 hv11 hv12 hv13 hv14 hv15 hv16 hv17
      replace hk1 := blk_ext hk1 he4
      replace hk2 := blk_ext hk2 he4
      replace hr1 := Row.ext hr1 he4
      replace hb := hb.trans (Below.mono he4 hb.size)
      (try simp only [Exit.then, Exit.inBlock, ↓reduceIte, Nat.reduceEqDiff])
      refine hK4 _ _ ?_
      refine wp_cond_split (t := (decide (((m.1.len : Nat) : Int) ≤ (((funcsP m).getD (f).toNat (0 : Int)))))) (hf.ev rfl) (fun hqt26_1 => ?_) (fun hqt26_1 => ?_)
      · have hqt26_1b := hqt26_1
        try simp only [decide_eq_true_eq, Bool.and_eq_true, Bool.or_eq_true, Bool.not_eq_true', decide_eq_false_iff_not, ne_eq, Bool.not_eq_true] at hqt26_1
        refine wp_seq_k (fun K5 hK5 => ?_)
        refine wp_region_lit ?_
        refine sqv hf (r_build (vs := []) (cs := #[(.string ⟨#[]⟩), (.string ⟨#[]⟩)]) rfl (fun _ => by kernel_rfl)) rfl rfl rfl ?_; clear hf fa; intro fa hf
        refine sqn hf (d_storeK (T := 78) (v := (.agg #[(.string ⟨#[]⟩), (.string ⟨#[]⟩)])) (cs := #[(.string ⟨#[]⟩), (.string ⟨#[]⟩)]) (cs' := #[(.string ⟨#[]⟩), (.string ⟨#[]⟩)]) rfl rfl (by kernel_rfl) (by kernel_rfl) hk2 (by kernel_rfl) (by kernel_rfl)) rfl rfl ?_; clear hf fa; rintro fa _ w5 ⟨hk3, hg1⟩ hf
        replace hk1 := blk_grown hk1 hg1 (by omega)
        replace hr1 := Row.grown hr1 hg1 (Row.ne_type hr1 hk2 rfl)
        replace hb := hb.trans (grown_below hg1 hb.size hBb2)
        refine sqv hf (r_assign rfl) rfl rfl rfl ?_; clear hf fa; intro fa hf
        apply wpList_nil
        (try simp only [Exit.then, Exit.inBlock, ↓reduceIte, Nat.reduceEqDiff])
        refine hK5 _ _ ?_
        refine wp_ret ?_
        (try simp only [Exit.then, Exit.inBlock])
        refine retCT hf rfl rfl hk3 Try.underlying78 rfl (by kernel_rfl) rfl ?_
        refine ⟨?_, hb⟩; unfold typeofP; rw [hsp1b, hqt26_1b]; (try rfl)
      · have hqt26_1b := hqt26_1
        replace hqt26_1 := Bool.eq_false_iff.1 hqt26_1
        try simp only [ne_eq, decide_eq_true_eq, Bool.and_eq_true, Bool.or_eq_true, Bool.not_eq_true', decide_eq_false_iff_not] at hqt26_1
        refine wp_skip ?_
        (try simp only [Exit.then, Exit.inBlock, ↓reduceIte, Nat.reduceEqDiff])
        refine hK3 _ _ ?_
        refine wp_seq_k (fun K6 hK6 => ?_)
        have hy2 := getD_at (l := (funcsP m)) (j := (f).toNat) (0 : Int) (by first | omega | (simp only [Sl.list_length, List.length_set, List.length_take, List.length_drop, List.length_append, List.length_replicate, List.length_cons, List.length_nil]; omega))
        have hel2 := RdS.at (Row.rd (by intros; rfl) hr1) hy2
        obtain ⟨_, _, hab, hlr2, hel2⟩ := hel2
        cases hab
        have hy3 : (m.1.list)[(((funcsP m).getD (f).toNat (0 : Int))).toNat]? = some (m.1.list.getD (((funcsP m).getD (f).toNat (0 : Int))).toNat zMFt) := (getD_at zMFt (by rw [Sl.list_length]; omega))
        obtain ⟨ab1, aoff1, hat1, hlb1, hel3⟩ := RdS.at hTR hy3
        refine wp_region_unT 8 (fun wq => Below w4.heap.size w4 wq) (fun w w' => Below w.heap.size w w')
          (fun V => [(fun x _ => x = (.pointer (some ⟨b1, 0, none⟩))), (fun x _ => x = (.slice m.1.at' m.1.len m.1.cap)), (fun x _ => x = (.slice (some ⟨rb1, 0, none⟩) (((funcsP m)).length) rc1)), (fun x _ => x = (.int .u32 f)), (fun x _ => x = (.pointer (some ⟨rb1, (0 + (f).toNat * 1), none⟩))), (fun x _ => x = (.int .u32 (((funcsP m).getD (f).toNat (0 : Int))))), (fun x _ => x = (.pointer (some ⟨ab1, (aoff1 + (((funcsP m).getD (f).toNat (0 : Int))).toNat * 2), none⟩))), (fun x _ => x = (.agg #[(.string (m.1.list.getD (((funcsP m).getD (f).toNat (0 : Int))).toNat zMFt).1), (.string (m.1.list.getD (((funcsP m).getD (f).toNat (0 : Int))).toNat zMFt).2.1)]))])
          []
          [[], [0], [], [], [2, 3], [4], [1, 5], [6], [], []]
          hf (by kernel_rfl) (by kernel_rfl) (by kernel_rfl) (fun _ => rfl) ((Below.refl _ _).drew) (fun a b h1 h2 => h1.trans (h2.mono h1.size)) (fun _ _ h => h.size) (fun V => ⟨kept_eq, kept_eq, kept_eq, kept_eq, kept_eq, kept_eq, kept_eq, kept_eq, trivial⟩) (fun _ _ _ _ _ => rfl) ?_ ?_
        · skip
          intro V
          refine ⟨fun wu0 hC hd => ?_, ?_⟩
          · clear hd
            replace hb := hb.trans (hC.mono hb.size)
            replace hk1 := blk_ext hk1 hC
            replace hk2 := blk_ext hk2 hC
            replace hr1 := Row.ext hr1 hC
            exact Runs.does (r_fa rfl Try.underlying67 (f := 0) (q := 0) rfl (by kernel_rfl) rfl) ⟨Below.refl _ _, rfl, nofr rfl⟩
          refine ⟨fun wu1 hC hd => ?_, ?_⟩
          · obtain ⟨h0, _⟩ := hd
            skip
            replace h0 : V 0 = (.pointer (some ⟨b1, 0, none⟩)) := h0
            replace hb := hb.trans (hC.mono hb.size)
            replace hk1 := blk_ext hk1 hC
            replace hk2 := blk_ext hk2 hC
            replace hr1 := Row.ext hr1 hC
            exact Runs.does (r_load (v := (.slice m.1.at' m.1.len m.1.cap)) (congrArg some h0) Try.underlying56 rfl (cell_blk hk1 rfl)) ⟨Below.refl _ _, rfl, nofr rfl⟩
          refine ⟨fun wu2 hC hd => ?_, ?_⟩
          · clear hd
            replace hb := hb.trans (hC.mono hb.size)
            replace hk1 := blk_ext hk1 hC
            replace hk2 := blk_ext hk2 hC
            replace hr1 := Row.ext hr1 hC
            exact Runs.does (r_move rfl) ⟨Below.refl _ _, rfl, nofr rfl⟩
          refine ⟨fun wu3 hC hd => ?_, ?_⟩
          · clear hd
            replace hb := hb.trans (hC.mono hb.size)
            replace hk1 := blk_ext hk1 hC
            replace hk2 := blk_ext hk2 hC
            replace hr1 := Row.ext hr1 hC
            exact Runs.does (r_move rfl) ⟨Below.refl _ _, rfl, nofr rfl⟩
          refine ⟨fun wu4 hC hd => ?_, ?_⟩
          · obtain ⟨h2, h3, _⟩ := hd
            skip
            skip
            replace h2 : V 2 = (.slice (some ⟨rb1, 0, none⟩) (((funcsP m)).length) rc1) := h2
            replace h3 : V 3 = (.int .u32 f) := h3
            replace hb := hb.trans (hC.mono hb.size)
            replace hk1 := blk_ext hk1 hC
            replace hk2 := blk_ext hk2 hC
            replace hr1 := Row.ext hr1 hC
            exact Runs.does (r_ixa (sz := 1) (j := (f).toNat) (congrArg some h2) (congrArg some h3) Try.underlying37 (by kernel_rfl) (by omega) (by omega) rfl) ⟨Below.refl _ _, rfl, nofr rfl⟩
          refine ⟨fun wu5 hC hd => ?_, ?_⟩
          · obtain ⟨h4, _⟩ := hd
            skip
            replace h4 : V 4 = (.pointer (some ⟨rb1, (0 + (f).toNat * 1), none⟩)) := h4
            replace hb := hb.trans (hC.mono hb.size)
            replace hk1 := blk_ext hk1 hC
            replace hk2 := blk_ext hk2 hC
            replace hr1 := Row.ext hr1 hC
            exact Runs.does (r_load (v := (.int .u32 (((funcsP m).getD (f).toNat (0 : Int))))) (congrArg some h4) Try.underlying44 rfl (cellsAt_cell (cellsAt_below hel2 hC hlr2) (i := 0) rfl rfl)) ⟨Below.refl _ _, rfl, nofr rfl⟩
          refine ⟨fun wu6 hC hd => ?_, ?_⟩
          · obtain ⟨h1, h5, _⟩ := hd
            skip
            skip
            replace h1 : V 1 = (.slice m.1.at' m.1.len m.1.cap) := h1
            replace h5 : V 5 = (.int .u32 (((funcsP m).getD (f).toNat (0 : Int)))) := h5
            replace hb := hb.trans (hC.mono hb.size)
            replace hk1 := blk_ext hk1 hC
            replace hk2 := blk_ext hk2 hC
            replace hr1 := Row.ext hr1 hC
            exact Runs.does (r_ixa (sz := 2) (j := (((funcsP m).getD (f).toNat (0 : Int))).toNat) (evAt (congrArg some h1) hat1) (congrArg some h5) Try.underlying56 (by kernel_rfl) (by omega) (by omega) rfl) ⟨Below.refl _ _, rfl, nofr rfl⟩
          refine ⟨fun wu7 hC hd => ?_, ?_⟩
          · obtain ⟨h6, _⟩ := hd
            skip
            replace h6 : V 6 = (.pointer (some ⟨ab1, (aoff1 + (((funcsP m).getD (f).toNat (0 : Int))).toNat * 2), none⟩)) := h6
            replace hb := hb.trans (hC.mono hb.size)
            replace hk1 := blk_ext hk1 hC
            replace hk2 := blk_ext hk2 hC
            replace hr1 := Row.ext hr1 hC
            exact Runs.does (r_loadA (cs := [(.string (m.1.list.getD (((funcsP m).getD (f).toNat (0 : Int))).toNat zMFt).1), (.string (m.1.list.getD (((funcsP m).getD (f).toNat (0 : Int))).toNat zMFt).2.1)]) (congrArg some h6) Try.underlying78 rfl (by kernel_rfl) (cellsAt_below hel3 hb hlb1)) ⟨Below.refl _ _, rfl, nofr rfl⟩
          trivial
        · skip
          clear hf fa; intro V w6 fa he5 hp hnb hf
          have hv0 : V 0 = (.pointer (some ⟨b1, 0, none⟩)) := postsHold_at hp 0 rfl
          have hv1 : V 1 = (.slice m.1.at' m.1.len m.1.cap) := postsHold_at hp 1 rfl
          have hv2 : V 2 = (.slice (some ⟨rb1, 0, none⟩) (((funcsP m)).length) rc1) := postsHold_at hp 2 rfl
          have hv3 : V 3 = (.int .u32 f) := postsHold_at hp 3 rfl
          have hv4 : V 4 = (.pointer (some ⟨rb1, (0 + (f).toNat * 1), none⟩)) := postsHold_at hp 4 rfl
          have hv5 : V 5 = (.int .u32 (((funcsP m).getD (f).toNat (0 : Int)))) := postsHold_at hp 5 rfl
          have hv6 : V 6 = (.pointer (some ⟨ab1, (aoff1 + (((funcsP m).getD (f).toNat (0 : Int))).toNat * 2), none⟩)) := postsHold_at hp 6 rfl
          have hv7 : V 7 = (.agg #[(.string (m.1.list.getD (((funcsP m).getD (f).toNat (0 : Int))).toNat zMFt).1), (.string (m.1.list.getD (((funcsP m).getD (f).toNat (0 : Int))).toNat zMFt).2.1)]) := postsHold_at hp 7 rfl
          simp only [List.take_succ_cons, List.take_zero, insAll, ins, hv0, hv1, hv2, hv3, hv4, hv5, hv6, hv7] at hf
          clear hp hnb hv0 hv1 hv2 hv3 hv4 hv5 hv6 hv7
          replace hk1 := blk_ext hk1 he5
          replace hk2 := blk_ext hk2 he5
          replace hr1 := Row.ext hr1 he5
          replace hb := hb.trans (Below.mono he5 hb.size)
          simp only [List.drop_succ_cons, List.drop_zero]
          refine sqn hf (d_storeK (T := 78) (v := (.agg #[(.string (m.1.list.getD (((funcsP m).getD (f).toNat (0 : Int))).toNat zMFt).1), (.string (m.1.list.getD (((funcsP m).getD (f).toNat (0 : Int))).toNat zMFt).2.1)])) (cs := #[(.string ⟨#[]⟩), (.string ⟨#[]⟩)]) (cs' := #[(.string (m.1.list.getD (((funcsP m).getD (f).toNat (0 : Int))).toNat zMFt).1), (.string (m.1.list.getD (((funcsP m).getD (f).toNat (0 : Int))).toNat zMFt).2.1)]) rfl rfl (by kernel_rfl) (by kernel_rfl) hk2 (by kernel_rfl) (by kernel_rfl)) rfl rfl ?_; clear hf fa; rintro fa _ w7 ⟨hk4, hg2⟩ hf
          replace hk1 := blk_grown hk1 hg2 (by omega)
          replace hr1 := Row.grown hr1 hg2 (Row.ne_type hr1 hk2 rfl)
          replace hb := hb.trans (grown_below hg2 hb.size hBb2)
          refine sqv hf (r_assign rfl) rfl rfl rfl ?_; clear hf fa; intro fa hf
          apply wpList_nil
          (try simp only [Exit.then, Exit.inBlock, ↓reduceIte, Nat.reduceEqDiff])
          refine hK6 _ _ ?_
          refine wp_ret ?_
          (try simp only [Exit.then, Exit.inBlock])
          refine retCT hf rfl rfl hk4 Try.underlying78 rfl (by kernel_rfl) rfl ?_
          refine ⟨?_, hb⟩; unfold typeofP; rw [hsp1b, hqt26_1b]; (try rfl)
  · have hsp1b : decide (f.toNat < (funcsP m).length) = false := decide_eq_false hsp1
    skip
    refine wp_region_un (fun wq => Below w3.heap.size w3 wq) (fun w w' => Below w.heap.size w w')
      (fun V => [(fun x _ => x = (.int .u32 f)), (fun x _ => x = (.int .u64 f)), (fun x _ => x = (.slice ra1 (((funcsP m)).length) rc1)), (fun x _ => x = (.int .i64 ((((funcsP m)).length : Nat) : Int))), (fun x _ => x = (.int .u64 ((((funcsP m)).length : Nat) : Int))), (fun x _ => x = (.bool (decide (((((funcsP m)).length : Nat) : Int) ≤ f)))), (fun x _ => x = (.bool (decide (((((funcsP m)).length : Nat) : Int) ≤ f)))), (fun x _ => x = gb false (.bool false)), (fun x _ => x = gb false (.bool false)), (fun x _ => x = gb false (.bool false)), (fun x _ => x = gb false (.bool false)), (fun x _ => x = gb false (.bool false)), (fun x _ => x = gb false (.bool false)), (fun x _ => x = gb false (.bool false)), (fun x _ => x = gb false (.bool false)), (fun x _ => x = gb false (.bool false)), (fun x _ => x = gb false (.bool false)), (fun x _ => x = (.bool true))])
      []
      [[], [0], [], [2], [3], [1, 4], [5], [6], [6], [6, 7, 8], [6, 9], [6, 10], [6], [6, 12], [6, 13], [6, 14], [6, 11, 15], [6, 16]]
      hf (by kernel_rfl) (by kernel_rfl) (fun _ => rfl) ((Below.refl _ _).drew) (fun a b h1 h2 => h1.trans (h2.mono h1.size)) (fun _ _ h => h.size) (fun V => ⟨kept_eq, kept_eq, kept_eq, kept_eq, kept_eq, kept_eq, kept_eq, kept_eq, kept_eq, kept_eq, kept_eq, kept_eq, kept_eq, kept_eq, kept_eq, kept_eq, kept_eq, kept_eq, trivial⟩) (fun _ _ _ _ _ => rfl) ?_ ?_
    · skip
      intro V
      refine ⟨fun wu0 hC hd => ?_, ?_⟩
      · clear hd
        replace hb := hb.trans (hC.mono hb.size)
        replace hk1 := blk_ext hk1 hC
        replace hk2 := blk_ext hk2 hC
        replace hr1 := Row.ext hr1 hC
        exact Runs.does (r_move rfl) ⟨Below.refl _ _, rfl, nofr rfl⟩
      refine ⟨fun wu1 hC hd => ?_, ?_⟩
      · obtain ⟨h0, _⟩ := hd
        skip
        replace h0 : V 0 = (.int .u32 f) := h0
        replace hb := hb.trans (hC.mono hb.size)
        replace hk1 := blk_ext hk1 hC
        replace hk2 := blk_ext hk2 hC
        replace hr1 := Row.ext hr1 hC
        exact Runs.does (r_conv (C := f) (congrArg some h0) Try.underlying44 Try.underlying36 (by rw [IntKind.wrap_u64]; omega)) ⟨Below.refl _ _, rfl, nofr rfl⟩
      refine ⟨fun wu2 hC hd => ?_, ?_⟩
      · clear hd
        replace hb := hb.trans (hC.mono hb.size)
        replace hk1 := blk_ext hk1 hC
        replace hk2 := blk_ext hk2 hC
        replace hr1 := Row.ext hr1 hC
        exact Runs.does (r_move rfl) ⟨Below.refl _ _, rfl, nofr rfl⟩
      refine ⟨fun wu3 hC hd => ?_, ?_⟩
      · obtain ⟨h2, _⟩ := hd
        skip
        replace h2 : V 2 = (.slice ra1 (((funcsP m)).length) rc1) := h2
        replace hb := hb.trans (hC.mono hb.size)
        replace hk1 := blk_ext hk1 hC
        replace hk2 := blk_ext hk2 hC
        replace hr1 := Row.ext hr1 hC
        exact Runs.does (r_lensl (congrArg some h2) Try.underlying37) ⟨Below.refl _ _, rfl, nofr rfl⟩
      refine ⟨fun wu4 hC hd => ?_, ?_⟩
      · obtain ⟨h3, _⟩ := hd
        skip
        replace h3 : V 3 = (.int .i64 ((((funcsP m)).length : Nat) : Int)) := h3
        replace hb := hb.trans (hC.mono hb.size)
        replace hk1 := blk_ext hk1 hC
        replace hk2 := blk_ext hk2 hC
        replace hr1 := Row.ext hr1 hC
        exact Runs.does (r_conv (C := ((((funcsP m)).length : Nat) : Int)) (congrArg some h3) Try.underlying3 Try.underlying36 (by rw [IntKind.wrap_u64]; omega)) ⟨Below.refl _ _, rfl, nofr rfl⟩
      refine ⟨fun wu5 hC hd => ?_, ?_⟩
      · obtain ⟨h1, h4, _⟩ := hd
        skip
        skip
        replace h1 : V 1 = (.int .u64 f) := h1
        replace h4 : V 4 = (.int .u64 ((((funcsP m)).length : Nat) : Int)) := h4
        replace hb := hb.trans (hC.mono hb.size)
        replace hk1 := blk_ext hk1 hC
        replace hk2 := blk_ext hk2 hC
        replace hr1 := Row.ext hr1 hC
        exact Runs.does (r_ge (congrArg some h1) (congrArg some h4)) ⟨Below.refl _ _, rfl, nofr rfl⟩
      refine ⟨fun wu6 hC hd => ?_, ?_⟩
      · obtain ⟨h5, _⟩ := hd
        skip
        replace h5 : V 5 = (.bool (decide (((((funcsP m)).length : Nat) : Int) ≤ f))) := h5
        replace hb := hb.trans (hC.mono hb.size)
        replace hk1 := blk_ext hk1 hC
        replace hk2 := blk_ext hk2 hC
        replace hr1 := Row.ext hr1 hC
        exact Runs.does (r_move (congrArg some h5)) ⟨Below.refl _ _, rfl, nofr rfl⟩
      refine ⟨fun wu7 hC hd => ?_, ?_⟩
      · obtain ⟨h6, _⟩ := hd
        skip
        replace h6 : V 6 = (.bool (decide (((((funcsP m)).length : Nat) : Int) ≤ f))) := h6
        replace hb := hb.trans (hC.mono hb.size)
        replace hk1 := blk_ext hk1 hC
        replace hk2 := blk_ext hk2 hC
        replace hr1 := Row.ext hr1 hC
        refine ⟨true, (decide (((((funcsP m)).length : Nat) : Int) ≤ f)), congrArg some h6, fun hact => ?_, fun hact => ?_⟩
        · exfalso; replace hact : (!(decide (((((funcsP m)).length : Nat) : Int) ≤ f))) = true := by simpa using hact
          rw [show (!(decide (((((funcsP m)).length : Nat) : Int) ≤ f))) = false from (by simp only [Bool.not_eq_true', Bool.not_eq_false', decide_eq_false_iff_not, decide_eq_true_eq]; omega)] at hact; cases hact
        · exact ⟨Below.refl _ _, rfl, nofr rfl⟩
      refine ⟨fun wu8 hC hd => ?_, ?_⟩
      · obtain ⟨h6, _⟩ := hd
        skip
        replace h6 : V 6 = (.bool (decide (((((funcsP m)).length : Nat) : Int) ≤ f))) := h6
        replace hb := hb.trans (hC.mono hb.size)
        replace hk1 := blk_ext hk1 hC
        replace hk2 := blk_ext hk2 hC
        replace hr1 := Row.ext hr1 hC
        refine ⟨true, (decide (((((funcsP m)).length : Nat) : Int) ≤ f)), congrArg some h6, fun hact => ?_, fun hact => ?_⟩
        · exfalso; replace hact : (!(decide (((((funcsP m)).length : Nat) : Int) ≤ f))) = true := by simpa using hact
          rw [show (!(decide (((((funcsP m)).length : Nat) : Int) ≤ f))) = false from (by simp only [Bool.not_eq_true', Bool.not_eq_false', decide_eq_false_iff_not, decide_eq_true_eq]; omega)] at hact; cases hact
        · exact ⟨Below.refl _ _, rfl, nofr rfl⟩
      refine ⟨fun wu9 hC hd => ?_, ?_⟩
      · obtain ⟨h6, h7, h8, _⟩ := hd
        skip
        skip
        skip
        replace h6 : V 6 = (.bool (decide (((((funcsP m)).length : Nat) : Int) ≤ f))) := h6
        replace h7 : V 7 = gb false (.bool false) := h7
        replace h8 : V 8 = gb false (.bool false) := h8
        replace hb := hb.trans (hC.mono hb.size)
        replace hk1 := blk_ext hk1 hC
        replace hk2 := blk_ext hk2 hC
        replace hr1 := Row.ext hr1 hC
        refine ⟨true, (decide (((((funcsP m)).length : Nat) : Int) ≤ f)), congrArg some h6, fun hact => ?_, fun hact => ?_⟩
        · exfalso; replace hact : (!(decide (((((funcsP m)).length : Nat) : Int) ≤ f))) = true := by simpa using hact
          rw [show (!(decide (((((funcsP m)).length : Nat) : Int) ≤ f))) = false from (by simp only [Bool.not_eq_true', Bool.not_eq_false', decide_eq_false_iff_not, decide_eq_true_eq]; omega)] at hact; cases hact
        · exact ⟨Below.refl _ _, rfl, nofr rfl⟩
      refine ⟨fun wu10 hC hd => ?_, ?_⟩
      · obtain ⟨h6, h9, _⟩ := hd
        skip
        skip
        replace h6 : V 6 = (.bool (decide (((((funcsP m)).length : Nat) : Int) ≤ f))) := h6
        replace h9 : V 9 = gb false (.bool false) := h9
        replace hb := hb.trans (hC.mono hb.size)
        replace hk1 := blk_ext hk1 hC
        replace hk2 := blk_ext hk2 hC
        replace hr1 := Row.ext hr1 hC
        refine ⟨true, (decide (((((funcsP m)).length : Nat) : Int) ≤ f)), congrArg some h6, fun hact => ?_, fun hact => ?_⟩
        · exfalso; replace hact : (!(decide (((((funcsP m)).length : Nat) : Int) ≤ f))) = true := by simpa using hact
          rw [show (!(decide (((((funcsP m)).length : Nat) : Int) ≤ f))) = false from (by simp only [Bool.not_eq_true', Bool.not_eq_false', decide_eq_false_iff_not, decide_eq_true_eq]; omega)] at hact; cases hact
        · exact ⟨Below.refl _ _, rfl, nofr rfl⟩
      refine ⟨fun wu11 hC hd => ?_, ?_⟩
      · obtain ⟨h6, h10, _⟩ := hd
        skip
        skip
        replace h6 : V 6 = (.bool (decide (((((funcsP m)).length : Nat) : Int) ≤ f))) := h6
        replace h10 : V 10 = gb false (.bool false) := h10
        replace hb := hb.trans (hC.mono hb.size)
        replace hk1 := blk_ext hk1 hC
        replace hk2 := blk_ext hk2 hC
        replace hr1 := Row.ext hr1 hC
        refine ⟨true, (decide (((((funcsP m)).length : Nat) : Int) ≤ f)), congrArg some h6, fun hact => ?_, fun hact => ?_⟩
        · exfalso; replace hact : (!(decide (((((funcsP m)).length : Nat) : Int) ≤ f))) = true := by simpa using hact
          rw [show (!(decide (((((funcsP m)).length : Nat) : Int) ≤ f))) = false from (by simp only [Bool.not_eq_true', Bool.not_eq_false', decide_eq_false_iff_not, decide_eq_true_eq]; omega)] at hact; cases hact
        · exact ⟨Below.refl _ _, rfl, nofr rfl⟩
      refine ⟨fun wu12 hC hd => ?_, ?_⟩
      · obtain ⟨h6, _⟩ := hd
        skip
        replace h6 : V 6 = (.bool (decide (((((funcsP m)).length : Nat) : Int) ≤ f))) := h6
        replace hb := hb.trans (hC.mono hb.size)
        replace hk1 := blk_ext hk1 hC
        replace hk2 := blk_ext hk2 hC
        replace hr1 := Row.ext hr1 hC
        refine ⟨true, (decide (((((funcsP m)).length : Nat) : Int) ≤ f)), congrArg some h6, fun hact => ?_, fun hact => ?_⟩
        · exfalso; replace hact : (!(decide (((((funcsP m)).length : Nat) : Int) ≤ f))) = true := by simpa using hact
          rw [show (!(decide (((((funcsP m)).length : Nat) : Int) ≤ f))) = false from (by simp only [Bool.not_eq_true', Bool.not_eq_false', decide_eq_false_iff_not, decide_eq_true_eq]; omega)] at hact; cases hact
        · exact ⟨Below.refl _ _, rfl, nofr rfl⟩
      refine ⟨fun wu13 hC hd => ?_, ?_⟩
      · obtain ⟨h6, h12, _⟩ := hd
        skip
        skip
        replace h6 : V 6 = (.bool (decide (((((funcsP m)).length : Nat) : Int) ≤ f))) := h6
        replace h12 : V 12 = gb false (.bool false) := h12
        replace hb := hb.trans (hC.mono hb.size)
        replace hk1 := blk_ext hk1 hC
        replace hk2 := blk_ext hk2 hC
        replace hr1 := Row.ext hr1 hC
        refine ⟨true, (decide (((((funcsP m)).length : Nat) : Int) ≤ f)), congrArg some h6, fun hact => ?_, fun hact => ?_⟩
        · exfalso; replace hact : (!(decide (((((funcsP m)).length : Nat) : Int) ≤ f))) = true := by simpa using hact
          rw [show (!(decide (((((funcsP m)).length : Nat) : Int) ≤ f))) = false from (by simp only [Bool.not_eq_true', Bool.not_eq_false', decide_eq_false_iff_not, decide_eq_true_eq]; omega)] at hact; cases hact
        · exact ⟨Below.refl _ _, rfl, nofr rfl⟩
      refine ⟨fun wu14 hC hd => ?_, ?_⟩
      · obtain ⟨h6, h13, _⟩ := hd
        skip
        skip
        replace h6 : V 6 = (.bool (decide (((((funcsP m)).length : Nat) : Int) ≤ f))) := h6
        replace h13 : V 13 = gb false (.bool false) := h13
        replace hb := hb.trans (hC.mono hb.size)
        replace hk1 := blk_ext hk1 hC
        replace hk2 := blk_ext hk2 hC
        replace hr1 := Row.ext hr1 hC
        refine ⟨true, (decide (((((funcsP m)).length : Nat) : Int) ≤ f)), congrArg some h6, fun hact => ?_, fun hact => ?_⟩
        · exfalso; replace hact : (!(decide (((((funcsP m)).length : Nat) : Int) ≤ f))) = true := by simpa using hact
          rw [show (!(decide (((((funcsP m)).length : Nat) : Int) ≤ f))) = false from (by simp only [Bool.not_eq_true', Bool.not_eq_false', decide_eq_false_iff_not, decide_eq_true_eq]; omega)] at hact; cases hact
        · exact ⟨Below.refl _ _, rfl, nofr rfl⟩
      refine ⟨fun wu15 hC hd => ?_, ?_⟩
      · obtain ⟨h6, h14, _⟩ := hd
        skip
        skip
        replace h6 : V 6 = (.bool (decide (((((funcsP m)).length : Nat) : Int) ≤ f))) := h6
        replace h14 : V 14 = gb false (.bool false) := h14
        replace hb := hb.trans (hC.mono hb.size)
        replace hk1 := blk_ext hk1 hC
        replace hk2 := blk_ext hk2 hC
        replace hr1 := Row.ext hr1 hC
        refine ⟨true, (decide (((((funcsP m)).length : Nat) : Int) ≤ f)), congrArg some h6, fun hact => ?_, fun hact => ?_⟩
        · exfalso; replace hact : (!(decide (((((funcsP m)).length : Nat) : Int) ≤ f))) = true := by simpa using hact
          rw [show (!(decide (((((funcsP m)).length : Nat) : Int) ≤ f))) = false from (by simp only [Bool.not_eq_true', Bool.not_eq_false', decide_eq_false_iff_not, decide_eq_true_eq]; omega)] at hact; cases hact
        · exact ⟨Below.refl _ _, rfl, nofr rfl⟩
      refine ⟨fun wu16 hC hd => ?_, ?_⟩
      · obtain ⟨h6, h11, h15, _⟩ := hd
        skip
        skip
        skip
        replace h6 : V 6 = (.bool (decide (((((funcsP m)).length : Nat) : Int) ≤ f))) := h6
        replace h11 : V 11 = gb false (.bool false) := h11
        replace h15 : V 15 = gb false (.bool false) := h15
        replace hb := hb.trans (hC.mono hb.size)
        replace hk1 := blk_ext hk1 hC
        replace hk2 := blk_ext hk2 hC
        replace hr1 := Row.ext hr1 hC
        refine ⟨true, (decide (((((funcsP m)).length : Nat) : Int) ≤ f)), congrArg some h6, fun hact => ?_, fun hact => ?_⟩
        · exfalso; replace hact : (!(decide (((((funcsP m)).length : Nat) : Int) ≤ f))) = true := by simpa using hact
          rw [show (!(decide (((((funcsP m)).length : Nat) : Int) ≤ f))) = false from (by simp only [Bool.not_eq_true', Bool.not_eq_false', decide_eq_false_iff_not, decide_eq_true_eq]; omega)] at hact; cases hact
        · exact ⟨Below.refl _ _, rfl, nofr rfl⟩
      refine ⟨fun wu17 hC hd => ?_, ?_⟩
      · obtain ⟨h6, h16, _⟩ := hd
        skip
        skip
        replace h6 : V 6 = (.bool (decide (((((funcsP m)).length : Nat) : Int) ≤ f))) := h6
        replace h16 : V 16 = gb false (.bool false) := h16
        replace hb := hb.trans (hC.mono hb.size)
        replace hk1 := blk_ext hk1 hC
        replace hk2 := blk_ext hk2 hC
        replace hr1 := Row.ext hr1 hC
        exact Runs.does (r_pick (b := (decide (((((funcsP m)).length : Nat) : Int) ≤ f))) (congrArg some h6) rfl (congrArg some h16) (by rw [show (decide (((((funcsP m)).length : Nat) : Int) ≤ f)) = true from (by simp only [Bool.not_eq_true', Bool.not_eq_false', decide_eq_false_iff_not, decide_eq_true_eq]; omega)]; rfl)) ⟨Below.refl _ _, rfl, nofr rfl⟩
      trivial
    · skip
      clear hf fa; intro V w8 fa he6 hp hnb hf
      have hv0 : V 0 = (.int .u32 f) := postsHold_at hp 0 rfl
      have hv1 : V 1 = (.int .u64 f) := postsHold_at hp 1 rfl
      have hv2 : V 2 = (.slice ra1 (((funcsP m)).length) rc1) := postsHold_at hp 2 rfl
      have hv3 : V 3 = (.int .i64 ((((funcsP m)).length : Nat) : Int)) := postsHold_at hp 3 rfl
      have hv4 : V 4 = (.int .u64 ((((funcsP m)).length : Nat) : Int)) := postsHold_at hp 4 rfl
      have hv5 : V 5 = (.bool (decide (((((funcsP m)).length : Nat) : Int) ≤ f))) := postsHold_at hp 5 rfl
      have hv6 : V 6 = (.bool (decide (((((funcsP m)).length : Nat) : Int) ≤ f))) := postsHold_at hp 6 rfl
      have hv7 : V 7 = gb false (.bool false) := postsHold_at hp 7 rfl
      have hv8 : V 8 = gb false (.bool false) := postsHold_at hp 8 rfl
      have hv9 : V 9 = gb false (.bool false) := postsHold_at hp 9 rfl
      have hv10 : V 10 = gb false (.bool false) := postsHold_at hp 10 rfl
      have hv11 : V 11 = gb false (.bool false) := postsHold_at hp 11 rfl
      have hv12 : V 12 = gb false (.bool false) := postsHold_at hp 12 rfl
      have hv13 : V 13 = gb false (.bool false) := postsHold_at hp 13 rfl
      have hv14 : V 14 = gb false (.bool false) := postsHold_at hp 14 rfl
      have hv15 : V 15 = gb false (.bool false) := postsHold_at hp 15 rfl
      have hv16 : V 16 = gb false (.bool false) := postsHold_at hp 16 rfl
      have hv17 : V 17 = (.bool true) := postsHold_at hp 17 rfl
      simp only [List.take_succ_cons, List.take_zero, insAll, ins, hv0, hv1, hv2, hv3, hv4, hv5, hv6, hv7, hv8, hv9, hv10, hv11, hv12, hv13, hv14, hv15, hv16, hv17] at hf
      clear hp hnb hv0 hv1 hv2 hv3 hv4 hv5 hv6 hv7 hv8 hv9 hv10 hv11 hv12 hv13 hv14 hv15 hv16 hv17
      replace hk1 := blk_ext hk1 he6
      replace hk2 := blk_ext hk2 he6
      replace hr1 := Row.ext hr1 he6
      replace hb := hb.trans (Below.mono he6 hb.size)
      (try simp only [Exit.then, Exit.inBlock, ↓reduceIte, Nat.reduceEqDiff])
      refine hK4 _ _ ?_
      refine wp_cond_true (hf.ev rfl) ?_
      refine wp_seq_k (fun K7 hK7 => ?_)
      refine wp_region_lit ?_
      refine sqv hf (r_build (vs := []) (cs := #[(.string ⟨#[]⟩), (.string ⟨#[]⟩)]) rfl (fun _ => by kernel_rfl)) rfl rfl rfl ?_; clear hf fa; intro fa hf
      refine sqn hf (d_storeK (T := 78) (v := (.agg #[(.string ⟨#[]⟩), (.string ⟨#[]⟩)])) (cs := #[(.string ⟨#[]⟩), (.string ⟨#[]⟩)]) (cs' := #[(.string ⟨#[]⟩), (.string ⟨#[]⟩)]) rfl rfl (by kernel_rfl) (by kernel_rfl) hk2 (by kernel_rfl) (by kernel_rfl)) rfl rfl ?_; clear hf fa; rintro fa _ w9 ⟨hk5, hg3⟩ hf
      replace hk1 := blk_grown hk1 hg3 (by omega)
      replace hr1 := Row.grown hr1 hg3 (Row.ne_type hr1 hk2 rfl)
      replace hb := hb.trans (grown_below hg3 hb.size hBb2)
      refine sqv hf (r_assign rfl) rfl rfl rfl ?_; clear hf fa; intro fa hf
      apply wpList_nil
      (try simp only [Exit.then, Exit.inBlock, ↓reduceIte, Nat.reduceEqDiff])
      refine hK7 _ _ ?_
      refine wp_ret ?_
      (try simp only [Exit.then, Exit.inBlock])
      refine retCT hf rfl rfl hk5 Try.underlying78 rfl (by kernel_rfl) rfl ?_
      refine ⟨?_, hb⟩; unfold typeofP; rw [hsp1b]; (try rfl)
end Go.Proofs.Ytahgkfekggkjnaa
