/- What is proved here: small modules. -/
import Derived.Test.YtpalmpfkliepfaaTextOutlinesMgAB
namespace Go.Proofs.Ytpalmpfkliepfaa
open Go.RowKit Ut
set_option linter.unusedVariables false
set_option linter.unusedSimpArgs false
theorem all_yes {α : Type} {p : α → Bool} {l : List α} {k : Nat} {y : α} (hs : l.all p = (l.drop k).all p) (h : l[k]? = some y) (hp : p y = true) : l.all p = (l.drop (k + 1)).all p := by
  rw [hs, drop_at h, List.all_cons, hp, Bool.true_and]
theorem all_no {α : Type} {p : α → Bool} {l : List α} {k : Nat} {y : α} (hs : l.all p = (l.drop k).all p) (h : l[k]? = some y) (hp : p y = false) : l.all p = false := by
  rw [hs, drop_at h, List.all_cons, hp, Bool.false_and]
theorem all_end {α : Type} {p : α → Bool} {l : List α} {k : Nat} (hs : l.all p = (l.drop k).all p) (h : l.length ≤ k) : l.all p = true := by
  rw [hs, List.drop_eq_nil_of_le h]; rfl
def qB (x : MIn) : Bool := !decide (50 < x.2.2.2.1.len)
def muchP (c : MCo) : Bool := !c.2.1.list.all qB
def qC (c : MCo) : Bool := !(decide (100 < c.2.1.len) || decide (20 < c.1.len) || muchP c)
def qE (x : MEl) : Bool := !(decide (50 < x.2.1.len) || decide (50 < x.1.2.2.2.1.len))
def qD (x : MDa) : Bool := !(decide (300 < x.2.1.size) || decide (50 < x.1.2.2.2.1.len))
def qG (x : MGl) : Bool := !decide (50 < x.2.1.2.2.2.1.len)
def qT (x : MFt) : Bool := !(decide (100 < x.1.size) || decide (100 < x.2.1.size))
def qI (x : MImp) : Bool := !(decide (300 < x.1.size) || decide (300 < x.2.1.size))
def qX (x : MExp) : Bool := !decide (300 < x.1.size)
def qN (x : ByteArray) : Bool := !decide (300 < x.size)
def textsP (m : MMd) : Bool := m.1.list.all qT && (m.2.1.list.all qI && (m.2.2.2.2.2.2.1.list.all qX && m.2.2.2.2.2.2.2.2.2.2.2.1.2.2.2.2.2.1.list.all qN))
def lensP (m : MMd) : Prop := m.1.len + m.2.1.len ≤ 40 ∧ m.2.2.1.len + m.2.2.2.1.len + m.2.2.2.2.1.len ≤ 40 ∧ m.2.2.2.2.2.1.len + m.2.2.2.2.2.2.1.len ≤ 40 ∧ m.2.2.2.2.2.2.2.2.1.len + m.2.2.2.2.2.2.2.2.2.1.len + m.2.2.2.2.2.2.2.2.2.2.1.len ≤ 40 ∧ m.2.2.2.2.2.2.2.2.2.2.2.1.2.2.2.2.2.1.len ≤ 20
instance (m : MMd) : Decidable (lensP m) := by unfold lensP; infer_instance
def smallP (m : MMd) : Bool := decide (lensP m) && (m.2.2.2.2.2.2.2.2.2.1.list.all qC && (m.2.2.2.2.2.2.2.2.1.list.all qE && (m.2.2.2.2.2.2.2.2.2.2.1.list.all qD && (m.2.2.2.2.2.1.list.all qG && textsP m))))

set_option maxHeartbeats 1000000 in
set_option maxRecDepth 100000 in
theorem much_any (c : MCo) (w : World) (g : fMCo w c) : Calls Try.prog 38 #[(.agg #[(.slice c.1.at' c.1.len c.1.cap), (.slice c.2.1.at' c.2.1.len c.2.1.cap)])] w fun e w' => e = .returned (.bool (muchP c)) ∧ Below w.heap.size w w' := by
  have hz_c0 := g.2.1.1; have hl_c0 := g.2.1.2.1; have hm_c0 := g.2.1.2.2.1; have hn_c0 := g.2.1.2.2.2.1; (try unfold maxLen at hm_c0)
  refine sx_enter (L := [(0, (.agg #[(.slice c.1.at' c.1.len c.1.cap), (.slice c.2.1.at' c.2.1.len c.2.1.cap)]))]) Try.func38 rfl rfl rfl rfl (fun fa hf => ?_)
  have hb : Below w.heap.size w w := Below.refl _ _
  refine wp_seq_k (fun K1 hK1 => ?_)
  refine wp_region_lit ?_
  refine sqdt hf (d_box (cs := #[(.slice c.1.at' c.1.len c.1.cap), (.slice c.2.1.at' c.2.1.len c.2.1.cap)]) rfl rfl) rfl rfl rfl ?_; clear hf fa; rintro fa _ w1 ⟨b1, rfl, hle1, hk1, he1⟩ hf
  have hBb1 : w.heap.size ≤ b1 := Nat.le_trans hb.size hle1
  replace hb := hb.trans (Below.mono he1 hb.size)
  refine sqv hf (r_assign rfl) rfl rfl rfl ?_; clear hf fa; intro fa hf
  apply wpList_nil
  (try simp only [Exit.then, Exit.inBlock, ↓reduceIte, Nat.reduceEqDiff])
  refine hK1 _ _ ?_
  refine wp_seq_k (fun K2 hK2 => ?_)
  refine wp_seq_k (fun K3 hK3 => ?_)
  refine wp_region_lit ?_
  refine sqv hf (r_assign rfl) rfl rfl rfl ?_; clear hf fa; intro fa hf
  apply wpList_nil
  (try simp only [Exit.then, Exit.inBlock, ↓reduceIte, Nat.reduceEqDiff])
  refine hK3 _ _ ?_
  refine wp_block ?_
  refine wp_loop_k (fun mq fa wr => ∃ (k : Nat), mq = c.2.1.len - k ∧ Fr 19 fa [(1, (.pointer (some ⟨b1, 0, none⟩))), (3, (.int .i64 ((k : Nat) : Int)))] ∧ Below w.heap.size w wr ∧ wr.heap[b1]? = some (.cells #[(.slice c.1.at' c.1.len c.1.cap), (.slice c.2.1.at' c.2.1.len c.2.1.cap)] 82 (0, 0)) ∧ (k ≤ c.2.1.len) ∧ (c.2.1.list.all qB = (c.2.1.list.drop k).all qB)) ?_ ?_
  · skip
    exact ⟨_, 0, rfl, hf.sub ⟨rfl, (some_int (by first | rfl | omega)), trivial⟩, hb, hk1, by omega, rfl⟩
  · skip
    clear hf fa; intro mq1 fa w2 hI KL1 hKL1
    clear hb
    clear hk1
    obtain ⟨k, hmq1, hf, hb, hkb1, hk, Hs⟩ := hI
    refine wp_seq_k (fun K4 hK4 => ?_)
    refine wp_seq_k (fun K5 hK5 => ?_)
    refine wp_region_lit ?_
    refine sqv hf (r_move rfl) rfl rfl rfl ?_; clear hf fa; intro fa hf
    refine sqv hf (r_fa rfl Try.underlying82 (f := 1) (q := 1) rfl (by kernel_rfl) rfl) rfl rfl rfl ?_; clear hf fa; intro fa hf
    refine sqv hf (r_load (v := (.slice c.2.1.at' c.2.1.len c.2.1.cap)) rfl Try.underlying80 rfl (cell_blk hkb1 rfl)) rfl rfl rfl ?_; clear hf fa; intro fa hf
    refine sqv hf (r_lensl rfl Try.underlying80) rfl rfl rfl ?_; clear hf fa; intro fa hf
    refine sqv hf (r_lt rfl rfl) rfl rfl rfl ?_; clear hf fa; intro fa hf
    apply wpList_nil
    (try simp only [Exit.then, Exit.inBlock, ↓reduceIte, Nat.reduceEqDiff])
    refine hK5 _ _ ?_
    refine wp_cond_split (t := (decide (((k : Nat) : Int) < ((c.2.1.len : Nat) : Int)))) (hf.ev rfl) (fun hqt8_1 => ?_) (fun hqt8_1 => ?_)
    · have hqt8_1b := hqt8_1
      try simp only [decide_eq_true_eq, Bool.and_eq_true, Bool.or_eq_true, Bool.not_eq_true', decide_eq_false_iff_not, ne_eq, Bool.not_eq_true] at hqt8_1
      refine wp_skip ?_
      (try simp only [Exit.then, Exit.inBlock, ↓reduceIte, Nat.reduceEqDiff])
      refine hK4 _ _ ?_
      refine wp_seq_k (fun K6 hK6 => ?_)
      refine wp_block ?_
      refine wp_seq_k (fun K7 hK7 => ?_)
      refine wp_region_lit ?_
      refine sqv hf (r_fa rfl Try.underlying82 (f := 1) (q := 1) rfl (by kernel_rfl) rfl) rfl rfl rfl ?_; clear hf fa; intro fa hf
      refine sqv hf (r_load (v := (.slice c.2.1.at' c.2.1.len c.2.1.cap)) rfl Try.underlying80 rfl (cell_blk hkb1 rfl)) rfl rfl rfl ?_; clear hf fa; intro fa hf
      refine sqv hf (r_move rfl) rfl rfl rfl ?_; clear hf fa; intro fa hf
      obtain ⟨y1, hy1⟩ : ∃ x, (c.2.1.list)[k]? = some x := ⟨_, List.getElem?_eq_getElem (by (try simp only [Sl.list_length]); omega)⟩
      obtain ⟨ab1, aoff1, hat1, hlb1, hel1⟩ := RdS.at (RdS.of_arg g.2.1.2) hy1
      refine sqv hf (r_ixa (sz := 4) (j := k) (evAt rfl hat1) rfl Try.underlying80 (by kernel_rfl) rfl (by omega) rfl) rfl rfl rfl ?_; clear hf fa; intro fa hf
      refine sqv hf (r_fa rfl Try.underlying78 (f := 3) (q := ((aoff1 + k * 4) + 3)) rfl (by kernel_rfl) rfl) rfl rfl rfl ?_; clear hf fa; intro fa hf
      refine sqv hf (r_load (v := (.slice y1.2.2.2.1.at' y1.2.2.2.1.len y1.2.2.2.1.cap)) rfl Try.underlying24 rfl (cellsAt_cell (cellsAt_below hel1 hb hlb1) (i := 3) rfl rfl)) rfl rfl rfl ?_; clear hf fa; intro fa hf
      refine sqv hf (r_lensl rfl Try.underlying24) rfl rfl rfl ?_; clear hf fa; intro fa hf
      refine sqv hf (r_gt rfl rfl) rfl rfl rfl ?_; clear hf fa; intro fa hf
      apply wpList_nil
      (try simp only [Exit.then, Exit.inBlock, ↓reduceIte, Nat.reduceEqDiff])
      refine hK7 _ _ ?_
      refine wp_cond_split (t := (decide ((50 : Int) < ((y1.2.2.2.1.len : Nat) : Int)))) (hf.ev rfl) (fun hqt18_1 => ?_) (fun hqt18_1 => ?_)
      · have hqt18_1b := hqt18_1
        try simp only [decide_eq_true_eq, Bool.and_eq_true, Bool.or_eq_true, Bool.not_eq_true', decide_eq_false_iff_not, ne_eq, Bool.not_eq_true] at hqt18_1
        refine wp_seq_k (fun K8 hK8 => ?_)
        refine wp_region_lit ?_
        refine sqv hf (r_assign rfl) rfl rfl rfl ?_; clear hf fa; intro fa hf
        apply wpList_nil
        (try simp only [Exit.then, Exit.inBlock, ↓reduceIte, Nat.reduceEqDiff])
        refine hK8 _ _ ?_
        refine wp_ret ?_
        (try simp only [Exit.then, Exit.inBlock])
        refine ret1 hf rfl rfl ?_
        refine ⟨congrArg (fun b => Ending.returned (.bool b)) ?_, hb⟩; unfold muchP; rw [all_no Hs hy1 (by have h := hqt18_1; unfold qB; simp at h ⊢; omega)]; rfl
      · have hqt18_1b := hqt18_1
        replace hqt18_1 := Bool.eq_false_iff.1 hqt18_1
        try simp only [ne_eq, decide_eq_true_eq, Bool.and_eq_true, Bool.or_eq_true, Bool.not_eq_true', decide_eq_false_iff_not] at hqt18_1
        refine wp_skip ?_
        (try simp only [Exit.then, Exit.inBlock, ↓reduceIte, Nat.reduceEqDiff])
        refine hK6 _ _ ?_
        refine wp_region_lit ?_
        refine sqv hf (r_move rfl) rfl rfl rfl ?_; clear hf fa; intro fa hf
        refine sqv hf (r_add (C := (((k : Nat) : Int) + (1 : Int))) rfl rfl (by rw [IntKind.wrap_i64]; omega)) rfl rfl rfl ?_; clear hf fa; intro fa hf
        refine sqv hf (r_assign rfl) rfl rfl rfl ?_; clear hf fa; intro fa hf
        apply wpList_nil
        (try simp only [Exit.then, Exit.inBlock, ↓reduceIte, Nat.reduceEqDiff])
        refine hKL1 _ _ _ (by omega) ⟨(k + 1), rfl, hf.sub ⟨rfl, (some_int (by first | rfl | omega)), trivial⟩, hb, hkb1, by omega, (all_yes Hs hy1 (by have h := hqt18_1; unfold qB; simp at h ⊢; omega))⟩
    · have hqt8_1b := hqt8_1
      replace hqt8_1 := Bool.eq_false_iff.1 hqt8_1
      try simp only [ne_eq, decide_eq_true_eq, Bool.and_eq_true, Bool.or_eq_true, Bool.not_eq_true', decide_eq_false_iff_not] at hqt8_1
      refine wp_exit ?_
      (try simp only [Exit.then, Exit.inBlock, ↓reduceIte, Nat.reduceEqDiff])
      refine hK2 _ _ ?_
      refine wp_seq_k (fun K9 hK9 => ?_)
      refine wp_region_lit ?_
      refine sqv hf (r_assign rfl) rfl rfl rfl ?_; clear hf fa; intro fa hf
      apply wpList_nil
      (try simp only [Exit.then, Exit.inBlock, ↓reduceIte, Nat.reduceEqDiff])
      refine hK9 _ _ ?_
      refine wp_ret ?_
      (try simp only [Exit.then, Exit.inBlock])
      refine ret1 hf rfl rfl ?_
      refine ⟨congrArg (fun b => Ending.returned (.bool b)) ?_, hb⟩; unfold muchP; rw [all_end Hs (by rw [Sl.list_length]; omega)]; rfl

set_option maxHeartbeats 1000000 in
set_option maxRecDepth 100000 in
theorem texts_any (m : MMd) (w : World) (g : fMMd w m) : Calls Try.prog 39 #[(.agg #[(.slice m.1.at' m.1.len m.1.cap), (.slice m.2.1.at' m.2.1.len m.2.1.cap), (.slice m.2.2.1.at' m.2.2.1.len m.2.2.1.cap), (.slice m.2.2.2.1.at' m.2.2.2.1.len m.2.2.2.1.cap), (.slice m.2.2.2.2.1.at' m.2.2.2.2.1.len m.2.2.2.2.1.cap), (.slice m.2.2.2.2.2.1.at' m.2.2.2.2.2.1.len m.2.2.2.2.2.1.cap), (.slice m.2.2.2.2.2.2.1.at' m.2.2.2.2.2.2.1.len m.2.2.2.2.2.2.1.cap), (.int .i64 m.2.2.2.2.2.2.2.1), (.slice m.2.2.2.2.2.2.2.2.1.at' m.2.2.2.2.2.2.2.2.1.len m.2.2.2.2.2.2.2.2.1.cap), (.slice m.2.2.2.2.2.2.2.2.2.1.at' m.2.2.2.2.2.2.2.2.2.1.len m.2.2.2.2.2.2.2.2.2.1.cap), (.slice m.2.2.2.2.2.2.2.2.2.2.1.at' m.2.2.2.2.2.2.2.2.2.2.1.len m.2.2.2.2.2.2.2.2.2.2.1.cap), (.bool m.2.2.2.2.2.2.2.2.2.2.2.1.1), (.int .u32 m.2.2.2.2.2.2.2.2.2.2.2.1.2.1), (.int .u32 m.2.2.2.2.2.2.2.2.2.2.2.1.2.2.1), (.int .u32 m.2.2.2.2.2.2.2.2.2.2.2.1.2.2.2.1), (.int .u32 m.2.2.2.2.2.2.2.2.2.2.2.1.2.2.2.2.1), (.slice m.2.2.2.2.2.2.2.2.2.2.2.1.2.2.2.2.2.1.at' m.2.2.2.2.2.2.2.2.2.2.2.1.2.2.2.2.2.1.len m.2.2.2.2.2.2.2.2.2.2.2.1.2.2.2.2.2.1.cap)])] w fun e w' => e = .returned (.bool (textsP m)) ∧ Below w.heap.size w w' := by
  have hz_m0 := g.1.1; have hl_m0 := g.1.2.1; have hm_m0 := g.1.2.2.1; have hn_m0 := g.1.2.2.2.1; (try unfold maxLen at hm_m0)
  have hz_m1 := g.2.1.1; have hl_m1 := g.2.1.2.1; have hm_m1 := g.2.1.2.2.1; have hn_m1 := g.2.1.2.2.2.1; (try unfold maxLen at hm_m1)
  have hz_m2 := g.2.2.2.2.2.2.1.1; have hl_m2 := g.2.2.2.2.2.2.1.2.1; have hm_m2 := g.2.2.2.2.2.2.1.2.2.1; have hn_m2 := g.2.2.2.2.2.2.1.2.2.2.1; (try unfold maxLen at hm_m2)
  have hz_m3 := g.2.2.2.2.2.2.2.2.2.2.2.1.2.2.2.2.2.1.1; have hl_m3 := g.2.2.2.2.2.2.2.2.2.2.2.1.2.2.2.2.2.1.2.1; have hm_m3 := g.2.2.2.2.2.2.2.2.2.2.2.1.2.2.2.2.2.1.2.2.1; have hn_m3 := g.2.2.2.2.2.2.2.2.2.2.2.1.2.2.2.2.2.1.2.2.2.1; (try unfold maxLen at hm_m3)
  refine sx_enter (L := [(0, (.agg #[(.slice m.1.at' m.1.len m.1.cap), (.slice m.2.1.at' m.2.1.len m.2.1.cap), (.slice m.2.2.1.at' m.2.2.1.len m.2.2.1.cap), (.slice m.2.2.2.1.at' m.2.2.2.1.len m.2.2.2.1.cap), (.slice m.2.2.2.2.1.at' m.2.2.2.2.1.len m.2.2.2.2.1.cap), (.slice m.2.2.2.2.2.1.at' m.2.2.2.2.2.1.len m.2.2.2.2.2.1.cap), (.slice m.2.2.2.2.2.2.1.at' m.2.2.2.2.2.2.1.len m.2.2.2.2.2.2.1.cap), (.int .i64 m.2.2.2.2.2.2.2.1), (.slice m.2.2.2.2.2.2.2.2.1.at' m.2.2.2.2.2.2.2.2.1.len m.2.2.2.2.2.2.2.2.1.cap), (.slice m.2.2.2.2.2.2.2.2.2.1.at' m.2.2.2.2.2.2.2.2.2.1.len m.2.2.2.2.2.2.2.2.2.1.cap), (.slice m.2.2.2.2.2.2.2.2.2.2.1.at' m.2.2.2.2.2.2.2.2.2.2.1.len m.2.2.2.2.2.2.2.2.2.2.1.cap), (.bool m.2.2.2.2.2.2.2.2.2.2.2.1.1), (.int .u32 m.2.2.2.2.2.2.2.2.2.2.2.1.2.1), (.int .u32 m.2.2.2.2.2.2.2.2.2.2.2.1.2.2.1), (.int .u32 m.2.2.2.2.2.2.2.2.2.2.2.1.2.2.2.1), (.int .u32 m.2.2.2.2.2.2.2.2.2.2.2.1.2.2.2.2.1), (.slice m.2.2.2.2.2.2.2.2.2.2.2.1.2.2.2.2.2.1.at' m.2.2.2.2.2.2.2.2.2.2.2.1.2.2.2.2.2.1.len m.2.2.2.2.2.2.2.2.2.2.2.1.2.2.2.2.2.1.cap)]))]) Try.func39 rfl rfl rfl rfl (fun fa hf => ?_)
  have hb : Below w.heap.size w w := Below.refl _ _
  refine wp_seq_k (fun K1 hK1 => ?_)
  refine wp_region_lit ?_
  refine sqdt hf (d_box (cs := #[(.slice m.1.at' m.1.len m.1.cap), (.slice m.2.1.at' m.2.1.len m.2.1.cap), (.slice m.2.2.1.at' m.2.2.1.len m.2.2.1.cap), (.slice m.2.2.2.1.at' m.2.2.2.1.len m.2.2.2.1.cap), (.slice m.2.2.2.2.1.at' m.2.2.2.2.1.len m.2.2.2.2.1.cap), (.slice m.2.2.2.2.2.1.at' m.2.2.2.2.2.1.len m.2.2.2.2.2.1.cap), (.slice m.2.2.2.2.2.2.1.at' m.2.2.2.2.2.2.1.len m.2.2.2.2.2.2.1.cap), (.int .i64 m.2.2.2.2.2.2.2.1), (.slice m.2.2.2.2.2.2.2.2.1.at' m.2.2.2.2.2.2.2.2.1.len m.2.2.2.2.2.2.2.2.1.cap), (.slice m.2.2.2.2.2.2.2.2.2.1.at' m.2.2.2.2.2.2.2.2.2.1.len m.2.2.2.2.2.2.2.2.2.1.cap), (.slice m.2.2.2.2.2.2.2.2.2.2.1.at' m.2.2.2.2.2.2.2.2.2.2.1.len m.2.2.2.2.2.2.2.2.2.2.1.cap), (.bool m.2.2.2.2.2.2.2.2.2.2.2.1.1), (.int .u32 m.2.2.2.2.2.2.2.2.2.2.2.1.2.1), (.int .u32 m.2.2.2.2.2.2.2.2.2.2.2.1.2.2.1), (.int .u32 m.2.2.2.2.2.2.2.2.2.2.2.1.2.2.2.1), (.int .u32 m.2.2.2.2.2.2.2.2.2.2.2.1.2.2.2.2.1), (.slice m.2.2.2.2.2.2.2.2.2.2.2.1.2.2.2.2.2.1.at' m.2.2.2.2.2.2.2.2.2.2.2.1.2.2.2.2.2.1.len m.2.2.2.2.2.2.2.2.2.2.2.1.2.2.2.2.2.1.cap)]) rfl rfl) rfl rfl rfl ?_; clear hf fa; rintro fa _ w1 ⟨b1, rfl, hle1, hk1, he1⟩ hf
  have hBb1 : w.heap.size ≤ b1 := Nat.le_trans hb.size hle1
  replace hb := hb.trans (Below.mono he1 hb.size)
  refine sqv hf (r_assign rfl) rfl rfl rfl ?_; clear hf fa; intro fa hf
  apply wpList_nil
  (try simp only [Exit.then, Exit.inBlock, ↓reduceIte, Nat.reduceEqDiff])
  refine hK1 _ _ ?_
  refine wp_seq_k (fun K2 hK2 => ?_)
  refine wp_seq_k (fun K3 hK3 => ?_)
  refine wp_region_lit ?_
  refine sqv hf (r_assign rfl) rfl rfl rfl ?_; clear hf fa; intro fa hf
  apply wpList_nil
  (try simp only [Exit.then, Exit.inBlock, ↓reduceIte, Nat.reduceEqDiff])
  refine hK3 _ _ ?_
  refine wp_block ?_
  refine wp_loop_k (fun mq fa wr => ∃ (k : Nat), mq = m.1.len - k ∧ Fr 88 fa [(1, (.pointer (some ⟨b1, 0, none⟩))), (3, (.int .i64 ((k : Nat) : Int)))] ∧ Below w.heap.size w wr ∧ wr.heap[b1]? = some (.cells #[(.slice m.1.at' m.1.len m.1.cap), (.slice m.2.1.at' m.2.1.len m.2.1.cap), (.slice m.2.2.1.at' m.2.2.1.len m.2.2.1.cap), (.slice m.2.2.2.1.at' m.2.2.2.1.len m.2.2.2.1.cap), (.slice m.2.2.2.2.1.at' m.2.2.2.2.1.len m.2.2.2.2.1.cap), (.slice m.2.2.2.2.2.1.at' m.2.2.2.2.2.1.len m.2.2.2.2.2.1.cap), (.slice m.2.2.2.2.2.2.1.at' m.2.2.2.2.2.2.1.len m.2.2.2.2.2.2.1.cap), (.int .i64 m.2.2.2.2.2.2.2.1), (.slice m.2.2.2.2.2.2.2.2.1.at' m.2.2.2.2.2.2.2.2.1.len m.2.2.2.2.2.2.2.2.1.cap), (.slice m.2.2.2.2.2.2.2.2.2.1.at' m.2.2.2.2.2.2.2.2.2.1.len m.2.2.2.2.2.2.2.2.2.1.cap), (.slice m.2.2.2.2.2.2.2.2.2.2.1.at' m.2.2.2.2.2.2.2.2.2.2.1.len m.2.2.2.2.2.2.2.2.2.2.1.cap), (.bool m.2.2.2.2.2.2.2.2.2.2.2.1.1), (.int .u32 m.2.2.2.2.2.2.2.2.2.2.2.1.2.1), (.int .u32 m.2.2.2.2.2.2.2.2.2.2.2.1.2.2.1), (.int .u32 m.2.2.2.2.2.2.2.2.2.2.2.1.2.2.2.1), (.int .u32 m.2.2.2.2.2.2.2.2.2.2.2.1.2.2.2.2.1), (.slice m.2.2.2.2.2.2.2.2.2.2.2.1.2.2.2.2.2.1.at' m.2.2.2.2.2.2.2.2.2.2.2.1.2.2.2.2.2.1.len m.2.2.2.2.2.2.2.2.2.2.2.1.2.2.2.2.2.1.cap)] 36 (0, 0)) ∧ (k ≤ m.1.len) ∧ (m.1.list.all qT = (m.1.list.drop k).all qT)) ?_ ?_
  · skip
    exact ⟨_, 0, rfl, hf.sub ⟨rfl, (some_int (by first | rfl | omega)), trivial⟩, hb, hk1, by omega, rfl⟩
  · skip
    clear hf fa; intro mq1 fa w2 hI KL1 hKL1
    clear hb
    clear hk1
    obtain ⟨k, hmq1, hf, hb, hkb1, hk, Hs⟩ := hI
    refine wp_seq_k (fun K4 hK4 => ?_)
    refine wp_seq_k (fun K5 hK5 => ?_)
    refine wp_region_lit ?_
    refine sqv hf (r_move rfl) rfl rfl rfl ?_; clear hf fa; intro fa hf
    refine sqv hf (r_fa rfl Try.underlying36 (f := 0) (q := 0) rfl (by kernel_rfl) rfl) rfl rfl rfl ?_; clear hf fa; intro fa hf
    refine sqv hf (r_load (v := (.slice m.1.at' m.1.len m.1.cap)) rfl Try.underlying22 rfl (cell_blk hkb1 rfl)) rfl rfl rfl ?_; clear hf fa; intro fa hf
    refine sqv hf (r_lensl rfl Try.underlying22) rfl rfl rfl ?_; clear hf fa; intro fa hf
    refine sqv hf (r_lt rfl rfl) rfl rfl rfl ?_; clear hf fa; intro fa hf
    apply wpList_nil
    (try simp only [Exit.then, Exit.inBlock, ↓reduceIte, Nat.reduceEqDiff])
    refine hK5 _ _ ?_
    refine wp_cond_split (t := (decide (((k : Nat) : Int) < ((m.1.len : Nat) : Int)))) (hf.ev rfl) (fun hqt11_1 => ?_) (fun hqt11_1 => ?_)
    · have hqt11_1b := hqt11_1
      try simp only [decide_eq_true_eq, Bool.and_eq_true, Bool.or_eq_true, Bool.not_eq_true', decide_eq_false_iff_not, ne_eq, Bool.not_eq_true] at hqt11_1
      refine wp_skip ?_
      (try simp only [Exit.then, Exit.inBlock, ↓reduceIte, Nat.reduceEqDiff])
      refine hK4 _ _ ?_
      refine wp_seq_k (fun K6 hK6 => ?_)
      refine wp_block ?_
      refine wp_seq_k (fun K7 hK7 => ?_)
      refine wp_region_lit ?_
      refine sqv hf (r_fa rfl Try.underlying36 (f := 0) (q := 0) rfl (by kernel_rfl) rfl) rfl rfl rfl ?_; clear hf fa; intro fa hf
      refine sqv hf (r_load (v := (.slice m.1.at' m.1.len m.1.cap)) rfl Try.underlying22 rfl (cell_blk hkb1 rfl)) rfl rfl rfl ?_; clear hf fa; intro fa hf
      refine sqv hf (r_move rfl) rfl rfl rfl ?_; clear hf fa; intro fa hf
      obtain ⟨y1, hy1⟩ : ∃ x, (m.1.list)[k]? = some x := ⟨_, List.getElem?_eq_getElem (by (try simp only [Sl.list_length]); omega)⟩
      obtain ⟨ab1, aoff1, hat1, hlb1, hel1⟩ := RdS.at (RdS.of_arg g.1.2) hy1
      refine sqv hf (r_ixa (sz := 2) (j := k) (evAt rfl hat1) rfl Try.underlying22 (by kernel_rfl) rfl (by omega) rfl) rfl rfl rfl ?_; clear hf fa; intro fa hf
      refine sqv hf (r_fa rfl Try.underlying95 (f := 0) (q := (aoff1 + k * 2)) rfl (by kernel_rfl) rfl) rfl rfl rfl ?_; clear hf fa; intro fa hf
      refine sqv hf (r_load (v := (.string y1.1)) rfl Try.underlying9 rfl (cellsAt_cell (cellsAt_below hel1 hb hlb1) (i := 0) rfl rfl)) rfl rfl rfl ?_; clear hf fa; intro fa hf
      refine sqv hf (r_lens rfl Try.underlying9) rfl rfl rfl ?_; clear hf fa; intro fa hf
      refine sqv hf (r_gt rfl rfl) rfl rfl rfl ?_; clear hf fa; intro fa hf
      refine sqv hf (r_move rfl) rfl rfl rfl ?_; clear hf fa; intro fa hf
      refine sqgF (act := (!(decide ((100 : Int) < ((y1.1.size : Nat) : Int))))) (ag := true) (c := (decide ((100 : Int) < ((y1.1.size : Nat) : Int)))) (v := (.pointer (some ⟨b1, 0, none⟩))) hf rfl rfl rfl (fun hact => (r_fa rfl Try.underlying36 (f := 0) (q := 0) rfl (by kernel_rfl) rfl)) rfl rfl ?_; clear hf fa; intro fa hf
      refine sqgF (act := (!(decide ((100 : Int) < ((y1.1.size : Nat) : Int))))) (ag := true) (c := (decide ((100 : Int) < ((y1.1.size : Nat) : Int)))) (v := (.slice m.1.at' m.1.len m.1.cap)) hf rfl rfl rfl (fun hact => (r_load (v := (.slice m.1.at' m.1.len m.1.cap)) (gb_ev hact rfl) Try.underlying22 rfl (cell_blk hkb1 rfl))) rfl rfl ?_; clear hf fa; intro fa hf
      refine sqgF (act := (!(decide ((100 : Int) < ((y1.1.size : Nat) : Int))))) (ag := true) (c := (decide ((100 : Int) < ((y1.1.size : Nat) : Int)))) (v := (.int .i64 ((k : Nat) : Int))) hf rfl rfl rfl (fun hact => (r_move rfl)) rfl rfl ?_; clear hf fa; intro fa hf
      refine sqgF (act := (!(decide ((100 : Int) < ((y1.1.size : Nat) : Int))))) (ag := true) (c := (decide ((100 : Int) < ((y1.1.size : Nat) : Int)))) (v := (.pointer (some ⟨ab1, (aoff1 + k * 2), none⟩))) hf rfl rfl rfl (fun hact => (by have hact0 := hact; (try simp only [Bool.and_eq_true, Bool.not_eq_true', Bool.or_eq_false_iff, Bool.or_eq_true, Bool.and_eq_false_iff, ne_eq, decide_eq_true_eq, decide_eq_false_iff_not] at hact0); exact (r_ixa (sz := 2) (j := k) (evAt (gb_ev hact rfl) hat1) (gb_ev hact rfl) Try.underlying22 (by kernel_rfl) rfl (by omega) rfl))) rfl rfl ?_; clear hf fa; intro fa hf
      refine sqgF (act := (!(decide ((100 : Int) < ((y1.1.size : Nat) : Int))))) (ag := true) (c := (decide ((100 : Int) < ((y1.1.size : Nat) : Int)))) (v := (.pointer (some ⟨ab1, ((aoff1 + k * 2) + 1), none⟩))) hf rfl rfl rfl (fun hact => (r_fa (gb_ev hact rfl) Try.underlying95 (f := 1) (q := ((aoff1 + k * 2) + 1)) rfl (by kernel_rfl) rfl)) rfl rfl ?_; clear hf fa; intro fa hf
      refine sqgF (act := (!(decide ((100 : Int) < ((y1.1.size : Nat) : Int))))) (ag := true) (c := (decide ((100 : Int) < ((y1.1.size : Nat) : Int)))) (v := (.string y1.2.1)) hf rfl rfl rfl (fun hact => (r_load (v := (.string y1.2.1)) (gb_ev hact rfl) Try.underlying9 rfl (cellsAt_cell (cellsAt_below hel1 hb hlb1) (i := 1) rfl rfl))) rfl rfl ?_; clear hf fa; intro fa hf
      refine sqgF (act := (!(decide ((100 : Int) < ((y1.1.size : Nat) : Int))))) (ag := true) (c := (decide ((100 : Int) < ((y1.1.size : Nat) : Int)))) (v := (.int .i64 ((y1.2.1.size : Nat) : Int))) hf rfl rfl rfl (fun hact => (r_lens (gb_ev hact rfl) Try.underlying9)) rfl rfl ?_; clear hf fa; intro fa hf
      refine sqgF (act := (!(decide ((100 : Int) < ((y1.1.size : Nat) : Int))))) (ag := true) (c := (decide ((100 : Int) < ((y1.1.size : Nat) : Int)))) (v := (.bool (decide ((100 : Int) < ((y1.2.1.size : Nat) : Int))))) hf rfl rfl rfl (fun hact => (r_gt (gb_ev hact rfl) rfl)) rfl rfl ?_; clear hf fa; intro fa hf
      refine sqv hf (r_pickO (b := (decide ((100 : Int) < ((y1.1.size : Nat) : Int)))) (e := (decide ((100 : Int) < ((y1.2.1.size : Nat) : Int)))) rfl rfl rfl) rfl rfl rfl ?_; clear hf fa; intro fa hf
      apply wpList_nil
      (try simp only [Exit.then, Exit.inBlock, ↓reduceIte, Nat.reduceEqDiff])
      refine hK7 _ _ ?_
      refine wp_cond_split (t := ((decide ((100 : Int) < ((y1.1.size : Nat) : Int))) || (decide ((100 : Int) < ((y1.2.1.size : Nat) : Int))))) (hf.ev rfl) (fun hqt31_1 => ?_) (fun hqt31_1 => ?_)
      · have hqt31_1b := hqt31_1
        try simp only [decide_eq_true_eq, Bool.and_eq_true, Bool.or_eq_true, Bool.not_eq_true', decide_eq_false_iff_not, ne_eq, Bool.not_eq_true] at hqt31_1
        refine wp_seq_k (fun K8 hK8 => ?_)
        refine wp_region_lit ?_
        refine sqv hf (r_assign rfl) rfl rfl rfl ?_; clear hf fa; intro fa hf
        apply wpList_nil
        (try simp only [Exit.then, Exit.inBlock, ↓reduceIte, Nat.reduceEqDiff])
        refine hK8 _ _ ?_
        refine wp_ret ?_
        (try simp only [Exit.then, Exit.inBlock])
        refine ret1 hf rfl rfl ?_
        refine ⟨congrArg (fun b => Ending.returned (.bool b)) ?_, hb⟩; unfold textsP; rw [all_no Hs hy1 (by have h := hqt31_1; unfold qT; simp at h ⊢; omega)]; simp
      · have hqt31_1b := hqt31_1
        replace hqt31_1 := Bool.eq_false_iff.1 hqt31_1
        try simp only [ne_eq, decide_eq_true_eq, Bool.and_eq_true, Bool.or_eq_true, Bool.not_eq_true', decide_eq_false_iff_not] at hqt31_1
        refine wp_skip ?_
        (try simp only [Exit.then, Exit.inBlock, ↓reduceIte, Nat.reduceEqDiff])
        refine hK6 _ _ ?_
        refine wp_region_lit ?_
        refine sqv hf (r_move rfl) rfl rfl rfl ?_; clear hf fa; intro fa hf
        refine sqv hf (r_add (C := (((k : Nat) : Int) + (1 : Int))) rfl rfl (by rw [IntKind.wrap_i64]; omega)) rfl rfl rfl ?_; clear hf fa; intro fa hf
        refine sqv hf (r_assign rfl) rfl rfl rfl ?_; clear hf fa; intro fa hf
        apply wpList_nil
        (try simp only [Exit.then, Exit.inBlock, ↓reduceIte, Nat.reduceEqDiff])
        refine hKL1 _ _ _ (by omega) ⟨(k + 1), rfl, hf.sub ⟨rfl, (some_int (by first | rfl | omega)), trivial⟩, hb, hkb1, by omega, (all_yes Hs hy1 (by have h := hqt31_1; unfold qT; simp at h ⊢; omega))⟩
    · have hqt11_1b := hqt11_1
      replace hqt11_1 := Bool.eq_false_iff.1 hqt11_1
      try simp only [ne_eq, decide_eq_true_eq, Bool.and_eq_true, Bool.or_eq_true, Bool.not_eq_true', decide_eq_false_iff_not] at hqt11_1
      refine wp_exit ?_
      (try simp only [Exit.then, Exit.inBlock, ↓reduceIte, Nat.reduceEqDiff])
      refine hK2 _ _ ?_
      refine wp_seq_k (fun K9 hK9 => ?_)
      refine wp_seq_k (fun K10 hK10 => ?_)
      have hA0 : m.1.list.all qT = true := all_end Hs (by rw [Sl.list_length]; omega)
      refine wp_region_lit ?_
      refine sqv hf (r_assign rfl) rfl rfl rfl ?_; clear hf fa; intro fa hf
      apply wpList_nil
      (try simp only [Exit.then, Exit.inBlock, ↓reduceIte, Nat.reduceEqDiff])
      refine hK10 _ _ ?_
      refine wp_block ?_
      refine wp_loop_k (fun mq fa wr => ∃ (k : Nat), mq = m.2.1.len - k ∧ Fr 88 fa [(1, (.pointer (some ⟨b1, 0, none⟩))), (4, (.int .i64 ((k : Nat) : Int)))] ∧ Below w.heap.size w wr ∧ wr.heap[b1]? = some (.cells #[(.slice m.1.at' m.1.len m.1.cap), (.slice m.2.1.at' m.2.1.len m.2.1.cap), (.slice m.2.2.1.at' m.2.2.1.len m.2.2.1.cap), (.slice m.2.2.2.1.at' m.2.2.2.1.len m.2.2.2.1.cap), (.slice m.2.2.2.2.1.at' m.2.2.2.2.1.len m.2.2.2.2.1.cap), (.slice m.2.2.2.2.2.1.at' m.2.2.2.2.2.1.len m.2.2.2.2.2.1.cap), (.slice m.2.2.2.2.2.2.1.at' m.2.2.2.2.2.2.1.len m.2.2.2.2.2.2.1.cap), (.int .i64 m.2.2.2.2.2.2.2.1), (.slice m.2.2.2.2.2.2.2.2.1.at' m.2.2.2.2.2.2.2.2.1.len m.2.2.2.2.2.2.2.2.1.cap), (.slice m.2.2.2.2.2.2.2.2.2.1.at' m.2.2.2.2.2.2.2.2.2.1.len m.2.2.2.2.2.2.2.2.2.1.cap), (.slice m.2.2.2.2.2.2.2.2.2.2.1.at' m.2.2.2.2.2.2.2.2.2.2.1.len m.2.2.2.2.2.2.2.2.2.2.1.cap), (.bool m.2.2.2.2.2.2.2.2.2.2.2.1.1), (.int .u32 m.2.2.2.2.2.2.2.2.2.2.2.1.2.1), (.int .u32 m.2.2.2.2.2.2.2.2.2.2.2.1.2.2.1), (.int .u32 m.2.2.2.2.2.2.2.2.2.2.2.1.2.2.2.1), (.int .u32 m.2.2.2.2.2.2.2.2.2.2.2.1.2.2.2.2.1), (.slice m.2.2.2.2.2.2.2.2.2.2.2.1.2.2.2.2.2.1.at' m.2.2.2.2.2.2.2.2.2.2.2.1.2.2.2.2.2.1.len m.2.2.2.2.2.2.2.2.2.2.2.1.2.2.2.2.2.1.cap)] 36 (0, 0)) ∧ (k ≤ m.2.1.len) ∧ (m.2.1.list.all qI = (m.2.1.list.drop k).all qI) ∧ (m.1.list.all qT = true)) ?_ ?_
      · skip
        exact ⟨_, 0, rfl, hf.sub ⟨rfl, (some_int (by first | rfl | omega)), trivial⟩, hb, hkb1, by omega, rfl, hA0⟩
      · skip
        clear hf fa; intro mq2 fa w3 hI KL2 hKL2
        clear hb
        clear hkb1
        obtain ⟨k, hmq2, hf, hb, hkb1, hk, Hs, hA0⟩ := hI
        refine wp_seq_k (fun K11 hK11 => ?_)
        refine wp_seq_k (fun K12 hK12 => ?_)
        refine wp_region_lit ?_
        refine sqv hf (r_move rfl) rfl rfl rfl ?_; clear hf fa; intro fa hf
        refine sqv hf (r_fa rfl Try.underlying36 (f := 1) (q := 1) rfl (by kernel_rfl) rfl) rfl rfl rfl ?_; clear hf fa; intro fa hf
        refine sqv hf (r_load (v := (.slice m.2.1.at' m.2.1.len m.2.1.cap)) rfl Try.underlying23 rfl (cell_blk hkb1 rfl)) rfl rfl rfl ?_; clear hf fa; intro fa hf
        refine sqv hf (r_lensl rfl Try.underlying23) rfl rfl rfl ?_; clear hf fa; intro fa hf
        refine sqv hf (r_lt rfl rfl) rfl rfl rfl ?_; clear hf fa; intro fa hf
        apply wpList_nil
        (try simp only [Exit.then, Exit.inBlock, ↓reduceIte, Nat.reduceEqDiff])
        refine hK12 _ _ ?_
        refine wp_cond_split (t := (decide (((k : Nat) : Int) < ((m.2.1.len : Nat) : Int)))) (hf.ev rfl) (fun hqt36_1 => ?_) (fun hqt36_1 => ?_)
        · have hqt36_1b := hqt36_1
          try simp only [decide_eq_true_eq, Bool.and_eq_true, Bool.or_eq_true, Bool.not_eq_true', decide_eq_false_iff_not, ne_eq, Bool.not_eq_true] at hqt36_1
          refine wp_skip ?_
          (try simp only [Exit.then, Exit.inBlock, ↓reduceIte, Nat.reduceEqDiff])
          refine hK11 _ _ ?_
          refine wp_seq_k (fun K13 hK13 => ?_)
          refine wp_block ?_
          refine wp_seq_k (fun K14 hK14 => ?_)
          refine wp_region_lit ?_
          refine sqv hf (r_fa rfl Try.underlying36 (f := 1) (q := 1) rfl (by kernel_rfl) rfl) rfl rfl rfl ?_; clear hf fa; intro fa hf
          refine sqv hf (r_load (v := (.slice m.2.1.at' m.2.1.len m.2.1.cap)) rfl Try.underlying23 rfl (cell_blk hkb1 rfl)) rfl rfl rfl ?_; clear hf fa; intro fa hf
          refine sqv hf (r_move rfl) rfl rfl rfl ?_; clear hf fa; intro fa hf
          obtain ⟨y2, hy2⟩ : ∃ x, (m.2.1.list)[k]? = some x := ⟨_, List.getElem?_eq_getElem (by (try simp only [Sl.list_length]); omega)⟩
          obtain ⟨ab2, aoff2, hat2, hlb2, hel2⟩ := RdS.at (RdS.of_arg g.2.1.2) hy2
          refine sqv hf (r_ixa (sz := 9) (j := k) (evAt rfl hat2) rfl Try.underlying23 (by kernel_rfl) rfl (by omega) rfl) rfl rfl rfl ?_; clear hf fa; intro fa hf
          refine sqv hf (r_fa rfl Try.underlying100 (f := 0) (q := (aoff2 + k * 9)) rfl (by kernel_rfl) rfl) rfl rfl rfl ?_; clear hf fa; intro fa hf
          refine sqv hf (r_load (v := (.string y2.1)) rfl Try.underlying9 rfl (cellsAt_cell (cellsAt_below hel2 hb hlb2) (i := 0) rfl rfl)) rfl rfl rfl ?_; clear hf fa; intro fa hf
          refine sqv hf (r_lens rfl Try.underlying9) rfl rfl rfl ?_; clear hf fa; intro fa hf
          refine sqv hf (r_gt rfl rfl) rfl rfl rfl ?_; clear hf fa; intro fa hf
          refine sqv hf (r_move rfl) rfl rfl rfl ?_; clear hf fa; intro fa hf
          refine sqgF (act := (!(decide ((300 : Int) < ((y2.1.size : Nat) : Int))))) (ag := true) (c := (decide ((300 : Int) < ((y2.1.size : Nat) : Int)))) (v := (.pointer (some ⟨b1, 1, none⟩))) hf rfl rfl rfl (fun hact => (r_fa rfl Try.underlying36 (f := 1) (q := 1) rfl (by kernel_rfl) rfl)) rfl rfl ?_; clear hf fa; intro fa hf
          refine sqgF (act := (!(decide ((300 : Int) < ((y2.1.size : Nat) : Int))))) (ag := true) (c := (decide ((300 : Int) < ((y2.1.size : Nat) : Int)))) (v := (.slice m.2.1.at' m.2.1.len m.2.1.cap)) hf rfl rfl rfl (fun hact => (r_load (v := (.slice m.2.1.at' m.2.1.len m.2.1.cap)) (gb_ev hact rfl) Try.underlying23 rfl (cell_blk hkb1 rfl))) rfl rfl ?_; clear hf fa; intro fa hf
          refine sqgF (act := (!(decide ((300 : Int) < ((y2.1.size : Nat) : Int))))) (ag := true) (c := (decide ((300 : Int) < ((y2.1.size : Nat) : Int)))) (v := (.int .i64 ((k : Nat) : Int))) hf rfl rfl rfl (fun hact => (r_move rfl)) rfl rfl ?_; clear hf fa; intro fa hf
          refine sqgF (act := (!(decide ((300 : Int) < ((y2.1.size : Nat) : Int))))) (ag := true) (c := (decide ((300 : Int) < ((y2.1.size : Nat) : Int)))) (v := (.pointer (some ⟨ab2, (aoff2 + k * 9), none⟩))) hf rfl rfl rfl (fun hact => (by have hact0 := hact; (try simp only [Bool.and_eq_true, Bool.not_eq_true', Bool.or_eq_false_iff, Bool.or_eq_true, Bool.and_eq_false_iff, ne_eq, decide_eq_true_eq, decide_eq_false_iff_not] at hact0); exact (r_ixa (sz := 9) (j := k) (evAt (gb_ev hact rfl) hat2) (gb_ev hact rfl) Try.underlying23 (by kernel_rfl) rfl (by omega) rfl))) rfl rfl ?_; clear hf fa; intro fa hf
          refine sqgF (act := (!(decide ((300 : Int) < ((y2.1.size : Nat) : Int))))) (ag := true) (c := (decide ((300 : Int) < ((y2.1.size : Nat) : Int)))) (v := (.pointer (some ⟨ab2, ((aoff2 + k * 9) + 1), none⟩))) hf rfl rfl rfl (fun hact => (r_fa (gb_ev hact rfl) Try.underlying100 (f := 1) (q := ((aoff2 + k * 9) + 1)) rfl (by kernel_rfl) rfl)) rfl rfl ?_; clear hf fa; intro fa hf
          refine sqgF (act := (!(decide ((300 : Int) < ((y2.1.size : Nat) : Int))))) (ag := true) (c := (decide ((300 : Int) < ((y2.1.size : Nat) : Int)))) (v := (.string y2.2.1)) hf rfl rfl rfl (fun hact => (r_load (v := (.string y2.2.1)) (gb_ev hact rfl) Try.underlying9 rfl (cellsAt_cell (cellsAt_below hel2 hb hlb2) (i := 1) rfl rfl))) rfl rfl ?_; clear hf fa; intro fa hf
          refine sqgF (act := (!(decide ((300 : Int) < ((y2.1.size : Nat) : Int))))) (ag := true) (c := (decide ((300 : Int) < ((y2.1.size : Nat) : Int)))) (v := (.int .i64 ((y2.2.1.size : Nat) : Int))) hf rfl rfl rfl (fun hact => (r_lens (gb_ev hact rfl) Try.underlying9)) rfl rfl ?_; clear hf fa; intro fa hf
          refine sqgF (act := (!(decide ((300 : Int) < ((y2.1.size : Nat) : Int))))) (ag := true) (c := (decide ((300 : Int) < ((y2.1.size : Nat) : Int)))) (v := (.bool (decide ((300 : Int) < ((y2.2.1.size : Nat) : Int))))) hf rfl rfl rfl (fun hact => (r_gt (gb_ev hact rfl) rfl)) rfl rfl ?_; clear hf fa; intro fa hf
          refine sqv hf (r_pickO (b := (decide ((300 : Int) < ((y2.1.size : Nat) : Int)))) (e := (decide ((300 : Int) < ((y2.2.1.size : Nat) : Int)))) rfl rfl rfl) rfl rfl rfl ?_; clear hf fa; intro fa hf
          apply wpList_nil
          (try simp only [Exit.then, Exit.inBlock, ↓reduceIte, Nat.reduceEqDiff])
          refine hK14 _ _ ?_
          refine wp_cond_split (t := ((decide ((300 : Int) < ((y2.1.size : Nat) : Int))) || (decide ((300 : Int) < ((y2.2.1.size : Nat) : Int))))) (hf.ev rfl) (fun hqt56_1 => ?_) (fun hqt56_1 => ?_)
          · have hqt56_1b := hqt56_1
            try simp only [decide_eq_true_eq, Bool.and_eq_true, Bool.or_eq_true, Bool.not_eq_true', decide_eq_false_iff_not, ne_eq, Bool.not_eq_true] at hqt56_1
            refine wp_seq_k (fun K15 hK15 => ?_)
            refine wp_region_lit ?_
            refine sqv hf (r_assign rfl) rfl rfl rfl ?_; clear hf fa; intro fa hf
            apply wpList_nil
            (try simp only [Exit.then, Exit.inBlock, ↓reduceIte, Nat.reduceEqDiff])
            refine hK15 _ _ ?_
            refine wp_ret ?_
            (try simp only [Exit.then, Exit.inBlock])
            refine ret1 hf rfl rfl ?_
            refine ⟨congrArg (fun b => Ending.returned (.bool b)) ?_, hb⟩; unfold textsP; rw [all_no Hs hy2 (by have h := hqt56_1; unfold qI; simp at h ⊢; omega)]; simp
          · have hqt56_1b := hqt56_1
            replace hqt56_1 := Bool.eq_false_iff.1 hqt56_1
            try simp only [ne_eq, decide_eq_true_eq, Bool.and_eq_true, Bool.or_eq_true, Bool.not_eq_true', decide_eq_false_iff_not] at hqt56_1
            refine wp_skip ?_
            (try simp only [Exit.then, Exit.inBlock, ↓reduceIte, Nat.reduceEqDiff])
            refine hK13 _ _ ?_
            refine wp_region_lit ?_
            refine sqv hf (r_move rfl) rfl rfl rfl ?_; clear hf fa; intro fa hf
            refine sqv hf (r_add (C := (((k : Nat) : Int) + (1 : Int))) rfl rfl (by rw [IntKind.wrap_i64]; omega)) rfl rfl rfl ?_; clear hf fa; intro fa hf
            refine sqv hf (r_assign rfl) rfl rfl rfl ?_; clear hf fa; intro fa hf
            apply wpList_nil
            (try simp only [Exit.then, Exit.inBlock, ↓reduceIte, Nat.reduceEqDiff])
            refine hKL2 _ _ _ (by omega) ⟨(k + 1), rfl, hf.sub ⟨rfl, (some_int (by first | rfl | omega)), trivial⟩, hb, hkb1, by omega, (all_yes Hs hy2 (by have h := hqt56_1; unfold qI; simp at h ⊢; omega)), hA0⟩
        · have hqt36_1b := hqt36_1
          replace hqt36_1 := Bool.eq_false_iff.1 hqt36_1
          try simp only [ne_eq, decide_eq_true_eq, Bool.and_eq_true, Bool.or_eq_true, Bool.not_eq_true', decide_eq_false_iff_not] at hqt36_1
          refine wp_exit ?_
          (try simp only [Exit.then, Exit.inBlock, ↓reduceIte, Nat.reduceEqDiff])
          refine hK9 _ _ ?_
          refine wp_seq_k (fun K16 hK16 => ?_)
          refine wp_seq_k (fun K17 hK17 => ?_)
          have hA1 : m.2.1.list.all qI = true := all_end Hs (by rw [Sl.list_length]; omega)
          refine wp_region_lit ?_
          refine sqv hf (r_assign rfl) rfl rfl rfl ?_; clear hf fa; intro fa hf
          apply wpList_nil
          (try simp only [Exit.then, Exit.inBlock, ↓reduceIte, Nat.reduceEqDiff])
          refine hK17 _ _ ?_
          refine wp_block ?_
          refine wp_loop_k (fun mq fa wr => ∃ (k : Nat), mq = m.2.2.2.2.2.2.1.len - k ∧ Fr 88 fa [(1, (.pointer (some ⟨b1, 0, none⟩))), (5, (.int .i64 ((k : Nat) : Int)))] ∧ Below w.heap.size w wr ∧ wr.heap[b1]? = some (.cells #[(.slice m.1.at' m.1.len m.1.cap), (.slice m.2.1.at' m.2.1.len m.2.1.cap), (.slice m.2.2.1.at' m.2.2.1.len m.2.2.1.cap), (.slice m.2.2.2.1.at' m.2.2.2.1.len m.2.2.2.1.cap), (.slice m.2.2.2.2.1.at' m.2.2.2.2.1.len m.2.2.2.2.1.cap), (.slice m.2.2.2.2.2.1.at' m.2.2.2.2.2.1.len m.2.2.2.2.2.1.cap), (.slice m.2.2.2.2.2.2.1.at' m.2.2.2.2.2.2.1.len m.2.2.2.2.2.2.1.cap), (.int .i64 m.2.2.2.2.2.2.2.1), (.slice m.2.2.2.2.2.2.2.2.1.at' m.2.2.2.2.2.2.2.2.1.len m.2.2.2.2.2.2.2.2.1.cap), (.slice m.2.2.2.2.2.2.2.2.2.1.at' m.2.2.2.2.2.2.2.2.2.1.len m.2.2.2.2.2.2.2.2.2.1.cap), (.slice m.2.2.2.2.2.2.2.2.2.2.1.at' m.2.2.2.2.2.2.2.2.2.2.1.len m.2.2.2.2.2.2.2.2.2.2.1.cap), (.bool m.2.2.2.2.2.2.2.2.2.2.2.1.1), (.int .u32 m.2.2.2.2.2.2.2.2.2.2.2.1.2.1), (.int .u32 m.2.2.2.2.2.2.2.2.2.2.2.1.2.2.1), (.int .u32 m.2.2.2.2.2.2.2.2.2.2.2.1.2.2.2.1), (.int .u32 m.2.2.2.2.2.2.2.2.2.2.2.1.2.2.2.2.1), (.slice m.2.2.2.2.2.2.2.2.2.2.2.1.2.2.2.2.2.1.at' m.2.2.2.2.2.2.2.2.2.2.2.1.2.2.2.2.2.1.len m.2.2.2.2.2.2.2.2.2.2.2.1.2.2.2.2.2.1.cap)] 36 (0, 0)) ∧ (k ≤ m.2.2.2.2.2.2.1.len) ∧ (m.2.2.2.2.2.2.1.list.all qX = (m.2.2.2.2.2.2.1.list.drop k).all qX) ∧ (m.1.list.all qT = true) ∧ (m.2.1.list.all qI = true)) ?_ ?_
          · skip
            exact ⟨_, 0, rfl, hf.sub ⟨rfl, (some_int (by first | rfl | omega)), trivial⟩, hb, hkb1, by omega, rfl, hA0, hA1⟩
          · skip
            clear hf fa; intro mq3 fa w4 hI KL3 hKL3
            clear hb
            clear hkb1
            obtain ⟨k, hmq3, hf, hb, hkb1, hk, Hs, hA0, hA1⟩ := hI
            refine wp_seq_k (fun K18 hK18 => ?_)
            refine wp_seq_k (fun K19 hK19 => ?_)
            refine wp_region_lit ?_
            refine sqv hf (r_move rfl) rfl rfl rfl ?_; clear hf fa; intro fa hf
            refine sqv hf (r_fa rfl Try.underlying36 (f := 6) (q := 6) rfl (by kernel_rfl) rfl) rfl rfl rfl ?_; clear hf fa; intro fa hf
            refine sqv hf (r_load (v := (.slice m.2.2.2.2.2.2.1.at' m.2.2.2.2.2.2.1.len m.2.2.2.2.2.2.1.cap)) rfl Try.underlying27 rfl (cell_blk hkb1 rfl)) rfl rfl rfl ?_; clear hf fa; intro fa hf
            refine sqv hf (r_lensl rfl Try.underlying27) rfl rfl rfl ?_; clear hf fa; intro fa hf
            refine sqv hf (r_lt rfl rfl) rfl rfl rfl ?_; clear hf fa; intro fa hf
            apply wpList_nil
            (try simp only [Exit.then, Exit.inBlock, ↓reduceIte, Nat.reduceEqDiff])
            refine hK19 _ _ ?_
            refine wp_cond_split (t := (decide (((k : Nat) : Int) < ((m.2.2.2.2.2.2.1.len : Nat) : Int)))) (hf.ev rfl) (fun hqt61_1 => ?_) (fun hqt61_1 => ?_)
            · have hqt61_1b := hqt61_1
              try simp only [decide_eq_true_eq, Bool.and_eq_true, Bool.or_eq_true, Bool.not_eq_true', decide_eq_false_iff_not, ne_eq, Bool.not_eq_true] at hqt61_1
              refine wp_skip ?_
              (try simp only [Exit.then, Exit.inBlock, ↓reduceIte, Nat.reduceEqDiff])
              refine hK18 _ _ ?_
              refine wp_seq_k (fun K20 hK20 => ?_)
              refine wp_block ?_
              refine wp_seq_k (fun K21 hK21 => ?_)
              refine wp_region_lit ?_
              refine sqv hf (r_fa rfl Try.underlying36 (f := 6) (q := 6) rfl (by kernel_rfl) rfl) rfl rfl rfl ?_; clear hf fa; intro fa hf
              refine sqv hf (r_load (v := (.slice m.2.2.2.2.2.2.1.at' m.2.2.2.2.2.2.1.len m.2.2.2.2.2.2.1.cap)) rfl Try.underlying27 rfl (cell_blk hkb1 rfl)) rfl rfl rfl ?_; clear hf fa; intro fa hf
              refine sqv hf (r_move rfl) rfl rfl rfl ?_; clear hf fa; intro fa hf
              obtain ⟨y3, hy3⟩ : ∃ x, (m.2.2.2.2.2.2.1.list)[k]? = some x := ⟨_, List.getElem?_eq_getElem (by (try simp only [Sl.list_length]); omega)⟩
              obtain ⟨ab3, aoff3, hat3, hlb3, hel3⟩ := RdS.at (RdS.of_arg g.2.2.2.2.2.2.1.2) hy3
              refine sqv hf (r_ixa (sz := 3) (j := k) (evAt rfl hat3) rfl Try.underlying27 (by kernel_rfl) rfl (by omega) rfl) rfl rfl rfl ?_; clear hf fa; intro fa hf
              refine sqv hf (r_fa rfl Try.underlying104 (f := 0) (q := (aoff3 + k * 3)) rfl (by kernel_rfl) rfl) rfl rfl rfl ?_; clear hf fa; intro fa hf
              refine sqv hf (r_load (v := (.string y3.1)) rfl Try.underlying9 rfl (cellsAt_cell (cellsAt_below hel3 hb hlb3) (i := 0) rfl rfl)) rfl rfl rfl ?_; clear hf fa; intro fa hf
              refine sqv hf (r_lens rfl Try.underlying9) rfl rfl rfl ?_; clear hf fa; intro fa hf
              refine sqv hf (r_gt rfl rfl) rfl rfl rfl ?_; clear hf fa; intro fa hf
              apply wpList_nil
              (try simp only [Exit.then, Exit.inBlock, ↓reduceIte, Nat.reduceEqDiff])
              refine hK21 _ _ ?_
              refine wp_cond_split (t := (decide ((300 : Int) < ((y3.1.size : Nat) : Int)))) (hf.ev rfl) (fun hqt71_1 => ?_) (fun hqt71_1 => ?_)
              · have hqt71_1b := hqt71_1
                try simp only [decide_eq_true_eq, Bool.and_eq_true, Bool.or_eq_true, Bool.not_eq_true', decide_eq_false_iff_not, ne_eq, Bool.not_eq_true] at hqt71_1
                refine wp_seq_k (fun K22 hK22 => ?_)
                refine wp_region_lit ?_
                refine sqv hf (r_assign rfl) rfl rfl rfl ?_; clear hf fa; intro fa hf
                apply wpList_nil
                (try simp only [Exit.then, Exit.inBlock, ↓reduceIte, Nat.reduceEqDiff])
                refine hK22 _ _ ?_
                refine wp_ret ?_
                (try simp only [Exit.then, Exit.inBlock])
                refine ret1 hf rfl rfl ?_
                refine ⟨congrArg (fun b => Ending.returned (.bool b)) ?_, hb⟩; unfold textsP; rw [all_no Hs hy3 (by have h := hqt71_1; unfold qX; simp at h ⊢; omega)]; simp
              · have hqt71_1b := hqt71_1
                replace hqt71_1 := Bool.eq_false_iff.1 hqt71_1
                try simp only [ne_eq, decide_eq_true_eq, Bool.and_eq_true, Bool.or_eq_true, Bool.not_eq_true', decide_eq_false_iff_not] at hqt71_1
                refine wp_skip ?_
                (try simp only [Exit.then, Exit.inBlock, ↓reduceIte, Nat.reduceEqDiff])
                refine hK20 _ _ ?_
                refine wp_region_lit ?_
                refine sqv hf (r_move rfl) rfl rfl rfl ?_; clear hf fa; intro fa hf
                refine sqv hf (r_add (C := (((k : Nat) : Int) + (1 : Int))) rfl rfl (by rw [IntKind.wrap_i64]; omega)) rfl rfl rfl ?_; clear hf fa; intro fa hf
                refine sqv hf (r_assign rfl) rfl rfl rfl ?_; clear hf fa; intro fa hf
                apply wpList_nil
                (try simp only [Exit.then, Exit.inBlock, ↓reduceIte, Nat.reduceEqDiff])
                refine hKL3 _ _ _ (by omega) ⟨(k + 1), rfl, hf.sub ⟨rfl, (some_int (by first | rfl | omega)), trivial⟩, hb, hkb1, by omega, (all_yes Hs hy3 (by have h := hqt71_1; unfold qX; simp at h ⊢; omega)), hA0, hA1⟩
            · have hqt61_1b := hqt61_1
              replace hqt61_1 := Bool.eq_false_iff.1 hqt61_1
              try simp only [ne_eq, decide_eq_true_eq, Bool.and_eq_true, Bool.or_eq_true, Bool.not_eq_true', decide_eq_false_iff_not] at hqt61_1
              refine wp_exit ?_
              (try simp only [Exit.then, Exit.inBlock, ↓reduceIte, Nat.reduceEqDiff])
              refine hK16 _ _ ?_
              refine wp_seq_k (fun K23 hK23 => ?_)
              refine wp_seq_k (fun K24 hK24 => ?_)
              have hA2 : m.2.2.2.2.2.2.1.list.all qX = true := all_end Hs (by rw [Sl.list_length]; omega)
              refine wp_region_lit ?_
              refine sqv hf (r_assign rfl) rfl rfl rfl ?_; clear hf fa; intro fa hf
              apply wpList_nil
              (try simp only [Exit.then, Exit.inBlock, ↓reduceIte, Nat.reduceEqDiff])
              refine hK24 _ _ ?_
              refine wp_block ?_
              refine wp_loop_k (fun mq fa wr => ∃ (k : Nat), mq = m.2.2.2.2.2.2.2.2.2.2.2.1.2.2.2.2.2.1.len - k ∧ Fr 88 fa [(1, (.pointer (some ⟨b1, 0, none⟩))), (6, (.int .i64 ((k : Nat) : Int)))] ∧ Below w.heap.size w wr ∧ wr.heap[b1]? = some (.cells #[(.slice m.1.at' m.1.len m.1.cap), (.slice m.2.1.at' m.2.1.len m.2.1.cap), (.slice m.2.2.1.at' m.2.2.1.len m.2.2.1.cap), (.slice m.2.2.2.1.at' m.2.2.2.1.len m.2.2.2.1.cap), (.slice m.2.2.2.2.1.at' m.2.2.2.2.1.len m.2.2.2.2.1.cap), (.slice m.2.2.2.2.2.1.at' m.2.2.2.2.2.1.len m.2.2.2.2.2.1.cap), (.slice m.2.2.2.2.2.2.1.at' m.2.2.2.2.2.2.1.len m.2.2.2.2.2.2.1.cap), (.int .i64 m.2.2.2.2.2.2.2.1), (.slice m.2.2.2.2.2.2.2.2.1.at' m.2.2.2.2.2.2.2.2.1.len m.2.2.2.2.2.2.2.2.1.cap), (.slice m.2.2.2.2.2.2.2.2.2.1.at' m.2.2.2.2.2.2.2.2.2.1.len m.2.2.2.2.2.2.2.2.2.1.cap), (.slice m.2.2.2.2.2.2.2.2.2.2.1.at' m.2.2.2.2.2.2.2.2.2.2.1.len m.2.2.2.2.2.2.2.2.2.2.1.cap), (.bool m.2.2.2.2.2.2.2.2.2.2.2.1.1), (.int .u32 m.2.2.2.2.2.2.2.2.2.2.2.1.2.1), (.int .u32 m.2.2.2.2.2.2.2.2.2.2.2.1.2.2.1), (.int .u32 m.2.2.2.2.2.2.2.2.2.2.2.1.2.2.2.1), (.int .u32 m.2.2.2.2.2.2.2.2.2.2.2.1.2.2.2.2.1), (.slice m.2.2.2.2.2.2.2.2.2.2.2.1.2.2.2.2.2.1.at' m.2.2.2.2.2.2.2.2.2.2.2.1.2.2.2.2.2.1.len m.2.2.2.2.2.2.2.2.2.2.2.1.2.2.2.2.2.1.cap)] 36 (0, 0)) ∧ (k ≤ m.2.2.2.2.2.2.2.2.2.2.2.1.2.2.2.2.2.1.len) ∧ (m.2.2.2.2.2.2.2.2.2.2.2.1.2.2.2.2.2.1.list.all qN = (m.2.2.2.2.2.2.2.2.2.2.2.1.2.2.2.2.2.1.list.drop k).all qN) ∧ (m.1.list.all qT = true) ∧ (m.2.1.list.all qI = true) ∧ (m.2.2.2.2.2.2.1.list.all qX = true)) ?_ ?_
              · skip
                exact ⟨_, 0, rfl, hf.sub ⟨rfl, (some_int (by first | rfl | omega)), trivial⟩, hb, hkb1, by omega, rfl, hA0, hA1, hA2⟩
              · skip
                clear hf fa; intro mq4 fa w5 hI KL4 hKL4
                clear hb
                clear hkb1
                obtain ⟨k, hmq4, hf, hb, hkb1, hk, Hs, hA0, hA1, hA2⟩ := hI
                refine wp_seq_k (fun K25 hK25 => ?_)
                refine wp_seq_k (fun K26 hK26 => ?_)
                refine wp_region_lit ?_
                refine sqv hf (r_move rfl) rfl rfl rfl ?_; clear hf fa; intro fa hf
                refine sqv hf (r_fa rfl Try.underlying36 (f := 11) (q := 11) rfl (by kernel_rfl) rfl) rfl rfl rfl ?_; clear hf fa; intro fa hf
                refine sqv hf (r_fa rfl Try.underlying34 (f := 5) (q := 16) rfl (by kernel_rfl) rfl) rfl rfl rfl ?_; clear hf fa; intro fa hf
                refine sqv hf (r_load (v := (.slice m.2.2.2.2.2.2.2.2.2.2.2.1.2.2.2.2.2.1.at' m.2.2.2.2.2.2.2.2.2.2.2.1.2.2.2.2.2.1.len m.2.2.2.2.2.2.2.2.2.2.2.1.2.2.2.2.2.1.cap)) rfl Try.underlying32 rfl (cell_blk hkb1 rfl)) rfl rfl rfl ?_; clear hf fa; intro fa hf
                refine sqv hf (r_lensl rfl Try.underlying32) rfl rfl rfl ?_; clear hf fa; intro fa hf
                refine sqv hf (r_lt rfl rfl) rfl rfl rfl ?_; clear hf fa; intro fa hf
                apply wpList_nil
                (try simp only [Exit.then, Exit.inBlock, ↓reduceIte, Nat.reduceEqDiff])
                refine hK26 _ _ ?_
                refine wp_cond_split (t := (decide (((k : Nat) : Int) < ((m.2.2.2.2.2.2.2.2.2.2.2.1.2.2.2.2.2.1.len : Nat) : Int)))) (hf.ev rfl) (fun hqt77_1 => ?_) (fun hqt77_1 => ?_)
                · have hqt77_1b := hqt77_1
                  try simp only [decide_eq_true_eq, Bool.and_eq_true, Bool.or_eq_true, Bool.not_eq_true', decide_eq_false_iff_not, ne_eq, Bool.not_eq_true] at hqt77_1
                  refine wp_skip ?_
                  (try simp only [Exit.then, Exit.inBlock, ↓reduceIte, Nat.reduceEqDiff])
                  refine hK25 _ _ ?_
                  refine wp_seq_k (fun K27 hK27 => ?_)
                  refine wp_block ?_
                  refine wp_seq_k (fun K28 hK28 => ?_)
                  refine wp_region_lit ?_
                  refine sqv hf (r_fa rfl Try.underlying36 (f := 11) (q := 11) rfl (by kernel_rfl) rfl) rfl rfl rfl ?_; clear hf fa; intro fa hf
                  refine sqv hf (r_fa rfl Try.underlying34 (f := 5) (q := 16) rfl (by kernel_rfl) rfl) rfl rfl rfl ?_; clear hf fa; intro fa hf
                  refine sqv hf (r_load (v := (.slice m.2.2.2.2.2.2.2.2.2.2.2.1.2.2.2.2.2.1.at' m.2.2.2.2.2.2.2.2.2.2.2.1.2.2.2.2.2.1.len m.2.2.2.2.2.2.2.2.2.2.2.1.2.2.2.2.2.1.cap)) rfl Try.underlying32 rfl (cell_blk hkb1 rfl)) rfl rfl rfl ?_; clear hf fa; intro fa hf
                  refine sqv hf (r_move rfl) rfl rfl rfl ?_; clear hf fa; intro fa hf
                  obtain ⟨y4, hy4⟩ : ∃ x, (m.2.2.2.2.2.2.2.2.2.2.2.1.2.2.2.2.2.1.list)[k]? = some x := ⟨_, List.getElem?_eq_getElem (by (try simp only [Sl.list_length]); omega)⟩
                  obtain ⟨ab4, aoff4, hat4, hlb4, hel4⟩ := RdS.at (RdS.of_arg g.2.2.2.2.2.2.2.2.2.2.2.1.2.2.2.2.2.1.2) hy4
                  refine sqv hf (r_ixa (sz := 1) (j := k) (evAt rfl hat4) rfl Try.underlying32 (by kernel_rfl) rfl (by omega) rfl) rfl rfl rfl ?_; clear hf fa; intro fa hf
                  refine sqv hf (r_load (v := (.string y4)) rfl Try.underlying9 rfl (cellsAt_cell (cellsAt_below hel4 hb hlb4) (i := 0) rfl rfl)) rfl rfl rfl ?_; clear hf fa; intro fa hf
                  refine sqv hf (r_lens rfl Try.underlying9) rfl rfl rfl ?_; clear hf fa; intro fa hf
                  refine sqv hf (r_gt rfl rfl) rfl rfl rfl ?_; clear hf fa; intro fa hf
                  apply wpList_nil
                  (try simp only [Exit.then, Exit.inBlock, ↓reduceIte, Nat.reduceEqDiff])
                  refine hK28 _ _ ?_
                  refine wp_cond_split (t := (decide ((300 : Int) < ((y4.size : Nat) : Int)))) (hf.ev rfl) (fun hqt87_1 => ?_) (fun hqt87_1 => ?_)
                  · have hqt87_1b := hqt87_1
                    try simp only [decide_eq_true_eq, Bool.and_eq_true, Bool.or_eq_true, Bool.not_eq_true', decide_eq_false_iff_not, ne_eq, Bool.not_eq_true] at hqt87_1
                    refine wp_seq_k (fun K29 hK29 => ?_)
                    refine wp_region_lit ?_
                    refine sqv hf (r_assign rfl) rfl rfl rfl ?_; clear hf fa; intro fa hf
                    apply wpList_nil
                    (try simp only [Exit.then, Exit.inBlock, ↓reduceIte, Nat.reduceEqDiff])
                    refine hK29 _ _ ?_
                    refine wp_ret ?_
                    (try simp only [Exit.then, Exit.inBlock])
                    refine ret1 hf rfl rfl ?_
                    refine ⟨congrArg (fun b => Ending.returned (.bool b)) ?_, hb⟩; unfold textsP; rw [all_no Hs hy4 (by have h := hqt87_1; unfold qN; simp at h ⊢; omega)]; simp
                  · have hqt87_1b := hqt87_1
                    replace hqt87_1 := Bool.eq_false_iff.1 hqt87_1
                    try simp only [ne_eq, decide_eq_true_eq, Bool.and_eq_true, Bool.or_eq_true, Bool.not_eq_true', decide_eq_false_iff_not] at hqt87_1
                    refine wp_skip ?_
                    (try simp only [Exit.then, Exit.inBlock, ↓reduceIte, Nat.reduceEqDiff])
                    refine hK27 _ _ ?_
                    refine wp_region_lit ?_
                    refine sqv hf (r_move rfl) rfl rfl rfl ?_; clear hf fa; intro fa hf
                    refine sqv hf (r_add (C := (((k : Nat) : Int) + (1 : Int))) rfl rfl (by rw [IntKind.wrap_i64]; omega)) rfl rfl rfl ?_; clear hf fa; intro fa hf
                    refine sqv hf (r_assign rfl) rfl rfl rfl ?_; clear hf fa; intro fa hf
                    apply wpList_nil
                    (try simp only [Exit.then, Exit.inBlock, ↓reduceIte, Nat.reduceEqDiff])
                    refine hKL4 _ _ _ (by omega) ⟨(k + 1), rfl, hf.sub ⟨rfl, (some_int (by first | rfl | omega)), trivial⟩, hb, hkb1, by omega, (all_yes Hs hy4 (by have h := hqt87_1; unfold qN; simp at h ⊢; omega)), hA0, hA1, hA2⟩
                · have hqt77_1b := hqt77_1
                  replace hqt77_1 := Bool.eq_false_iff.1 hqt77_1
                  try simp only [ne_eq, decide_eq_true_eq, Bool.and_eq_true, Bool.or_eq_true, Bool.not_eq_true', decide_eq_false_iff_not] at hqt77_1
                  refine wp_exit ?_
                  (try simp only [Exit.then, Exit.inBlock, ↓reduceIte, Nat.reduceEqDiff])
                  refine hK23 _ _ ?_
                  refine wp_seq_k (fun K30 hK30 => ?_)
                  have hA3 : m.2.2.2.2.2.2.2.2.2.2.2.1.2.2.2.2.2.1.list.all qN = true := all_end Hs (by rw [Sl.list_length]; omega)
                  refine wp_region_lit ?_
                  refine sqv hf (r_assign rfl) rfl rfl rfl ?_; clear hf fa; intro fa hf
                  apply wpList_nil
                  (try simp only [Exit.then, Exit.inBlock, ↓reduceIte, Nat.reduceEqDiff])
                  refine hK30 _ _ ?_
                  refine wp_ret ?_
                  (try simp only [Exit.then, Exit.inBlock])
                  refine ret1 hf rfl rfl ?_
                  refine ⟨congrArg (fun b => Ending.returned (.bool b)) ?_, hb⟩; unfold textsP; rw [hA0, hA1, hA2, hA3]; rfl

set_option maxHeartbeats 1000000 in
set_option maxRecDepth 100000 in
theorem small_any (m : MMd) (w : World) (g : fMMd w m) : Calls Try.prog 8 #[(.agg #[(.slice m.1.at' m.1.len m.1.cap), (.slice m.2.1.at' m.2.1.len m.2.1.cap), (.slice m.2.2.1.at' m.2.2.1.len m.2.2.1.cap), (.slice m.2.2.2.1.at' m.2.2.2.1.len m.2.2.2.1.cap), (.slice m.2.2.2.2.1.at' m.2.2.2.2.1.len m.2.2.2.2.1.cap), (.slice m.2.2.2.2.2.1.at' m.2.2.2.2.2.1.len m.2.2.2.2.2.1.cap), (.slice m.2.2.2.2.2.2.1.at' m.2.2.2.2.2.2.1.len m.2.2.2.2.2.2.1.cap), (.int .i64 m.2.2.2.2.2.2.2.1), (.slice m.2.2.2.2.2.2.2.2.1.at' m.2.2.2.2.2.2.2.2.1.len m.2.2.2.2.2.2.2.2.1.cap), (.slice m.2.2.2.2.2.2.2.2.2.1.at' m.2.2.2.2.2.2.2.2.2.1.len m.2.2.2.2.2.2.2.2.2.1.cap), (.slice m.2.2.2.2.2.2.2.2.2.2.1.at' m.2.2.2.2.2.2.2.2.2.2.1.len m.2.2.2.2.2.2.2.2.2.2.1.cap), (.bool m.2.2.2.2.2.2.2.2.2.2.2.1.1), (.int .u32 m.2.2.2.2.2.2.2.2.2.2.2.1.2.1), (.int .u32 m.2.2.2.2.2.2.2.2.2.2.2.1.2.2.1), (.int .u32 m.2.2.2.2.2.2.2.2.2.2.2.1.2.2.2.1), (.int .u32 m.2.2.2.2.2.2.2.2.2.2.2.1.2.2.2.2.1), (.slice m.2.2.2.2.2.2.2.2.2.2.2.1.2.2.2.2.2.1.at' m.2.2.2.2.2.2.2.2.2.2.2.1.2.2.2.2.2.1.len m.2.2.2.2.2.2.2.2.2.2.2.1.2.2.2.2.2.1.cap)])] w fun e w' => e = .returned (.bool (smallP m)) ∧ Below w.heap.size w w' := by
  have hz_m0 := g.1.1; have hl_m0 := g.1.2.1; have hm_m0 := g.1.2.2.1; have hn_m0 := g.1.2.2.2.1; (try unfold maxLen at hm_m0)
  have hz_m1 := g.2.1.1; have hl_m1 := g.2.1.2.1; have hm_m1 := g.2.1.2.2.1; have hn_m1 := g.2.1.2.2.2.1; (try unfold maxLen at hm_m1)
  have hz_m2 := g.2.2.1.1; have hl_m2 := g.2.2.1.2.1; have hm_m2 := g.2.2.1.2.2.1; have hn_m2 := g.2.2.1.2.2.2.1; (try unfold maxLen at hm_m2)
  have hz_m3 := g.2.2.2.1.1; have hl_m3 := g.2.2.2.1.2.1; have hm_m3 := g.2.2.2.1.2.2.1; have hn_m3 := g.2.2.2.1.2.2.2.1; (try unfold maxLen at hm_m3)
  have hz_m4 := g.2.2.2.2.1.1; have hl_m4 := g.2.2.2.2.1.2.1; have hm_m4 := g.2.2.2.2.1.2.2.1; have hn_m4 := g.2.2.2.2.1.2.2.2.1; (try unfold maxLen at hm_m4)
  have hz_m5 := g.2.2.2.2.2.1.1; have hl_m5 := g.2.2.2.2.2.1.2.1; have hm_m5 := g.2.2.2.2.2.1.2.2.1; have hn_m5 := g.2.2.2.2.2.1.2.2.2.1; (try unfold maxLen at hm_m5)
  have hz_m6 := g.2.2.2.2.2.2.1.1; have hl_m6 := g.2.2.2.2.2.2.1.2.1; have hm_m6 := g.2.2.2.2.2.2.1.2.2.1; have hn_m6 := g.2.2.2.2.2.2.1.2.2.2.1; (try unfold maxLen at hm_m6)
  have hz_m7 := g.2.2.2.2.2.2.2.2.1.1; have hl_m7 := g.2.2.2.2.2.2.2.2.1.2.1; have hm_m7 := g.2.2.2.2.2.2.2.2.1.2.2.1; have hn_m7 := g.2.2.2.2.2.2.2.2.1.2.2.2.1; (try unfold maxLen at hm_m7)
  have hz_m8 := g.2.2.2.2.2.2.2.2.2.1.1; have hl_m8 := g.2.2.2.2.2.2.2.2.2.1.2.1; have hm_m8 := g.2.2.2.2.2.2.2.2.2.1.2.2.1; have hn_m8 := g.2.2.2.2.2.2.2.2.2.1.2.2.2.1; (try unfold maxLen at hm_m8)
  have hz_m9 := g.2.2.2.2.2.2.2.2.2.2.1.1; have hl_m9 := g.2.2.2.2.2.2.2.2.2.2.1.2.1; have hm_m9 := g.2.2.2.2.2.2.2.2.2.2.1.2.2.1; have hn_m9 := g.2.2.2.2.2.2.2.2.2.2.1.2.2.2.1; (try unfold maxLen at hm_m9)
  have hz_m10 := g.2.2.2.2.2.2.2.2.2.2.2.1.2.2.2.2.2.1.1; have hl_m10 := g.2.2.2.2.2.2.2.2.2.2.2.1.2.2.2.2.2.1.2.1; have hm_m10 := g.2.2.2.2.2.2.2.2.2.2.2.1.2.2.2.2.2.1.2.2.1; have hn_m10 := g.2.2.2.2.2.2.2.2.2.2.2.1.2.2.2.2.2.1.2.2.2.1; (try unfold maxLen at hm_m10)
  have := g.1
  refine sx_enter (L := [(0, (.agg #[(.slice m.1.at' m.1.len m.1.cap), (.slice m.2.1.at' m.2.1.len m.2.1.cap), (.slice m.2.2.1.at' m.2.2.1.len m.2.2.1.cap), (.slice m.2.2.2.1.at' m.2.2.2.1.len m.2.2.2.1.cap), (.slice m.2.2.2.2.1.at' m.2.2.2.2.1.len m.2.2.2.2.1.cap), (.slice m.2.2.2.2.2.1.at' m.2.2.2.2.2.1.len m.2.2.2.2.2.1.cap), (.slice m.2.2.2.2.2.2.1.at' m.2.2.2.2.2.2.1.len m.2.2.2.2.2.2.1.cap), (.int .i64 m.2.2.2.2.2.2.2.1), (.slice m.2.2.2.2.2.2.2.2.1.at' m.2.2.2.2.2.2.2.2.1.len m.2.2.2.2.2.2.2.2.1.cap), (.slice m.2.2.2.2.2.2.2.2.2.1.at' m.2.2.2.2.2.2.2.2.2.1.len m.2.2.2.2.2.2.2.2.2.1.cap), (.slice m.2.2.2.2.2.2.2.2.2.2.1.at' m.2.2.2.2.2.2.2.2.2.2.1.len m.2.2.2.2.2.2.2.2.2.2.1.cap), (.bool m.2.2.2.2.2.2.2.2.2.2.2.1.1), (.int .u32 m.2.2.2.2.2.2.2.2.2.2.2.1.2.1), (.int .u32 m.2.2.2.2.2.2.2.2.2.2.2.1.2.2.1), (.int .u32 m.2.2.2.2.2.2.2.2.2.2.2.1.2.2.2.1), (.int .u32 m.2.2.2.2.2.2.2.2.2.2.2.1.2.2.2.2.1), (.slice m.2.2.2.2.2.2.2.2.2.2.2.1.2.2.2.2.2.1.at' m.2.2.2.2.2.2.2.2.2.2.2.1.2.2.2.2.2.1.len m.2.2.2.2.2.2.2.2.2.2.2.1.2.2.2.2.2.1.cap)]))]) Try.func8 rfl rfl rfl rfl (fun fa hf => ?_)
  have hb : Below w.heap.size w w := Below.refl _ _
  refine wp_seq_k (fun K1 hK1 => ?_)
  refine wp_region_lit ?_
  refine sqdt hf (d_box (cs := #[(.slice m.1.at' m.1.len m.1.cap), (.slice m.2.1.at' m.2.1.len m.2.1.cap), (.slice m.2.2.1.at' m.2.2.1.len m.2.2.1.cap), (.slice m.2.2.2.1.at' m.2.2.2.1.len m.2.2.2.1.cap), (.slice m.2.2.2.2.1.at' m.2.2.2.2.1.len m.2.2.2.2.1.cap), (.slice m.2.2.2.2.2.1.at' m.2.2.2.2.2.1.len m.2.2.2.2.2.1.cap), (.slice m.2.2.2.2.2.2.1.at' m.2.2.2.2.2.2.1.len m.2.2.2.2.2.2.1.cap), (.int .i64 m.2.2.2.2.2.2.2.1), (.slice m.2.2.2.2.2.2.2.2.1.at' m.2.2.2.2.2.2.2.2.1.len m.2.2.2.2.2.2.2.2.1.cap), (.slice m.2.2.2.2.2.2.2.2.2.1.at' m.2.2.2.2.2.2.2.2.2.1.len m.2.2.2.2.2.2.2.2.2.1.cap), (.slice m.2.2.2.2.2.2.2.2.2.2.1.at' m.2.2.2.2.2.2.2.2.2.2.1.len m.2.2.2.2.2.2.2.2.2.2.1.cap), (.bool m.2.2.2.2.2.2.2.2.2.2.2.1.1), (.int .u32 m.2.2.2.2.2.2.2.2.2.2.2.1.2.1), (.int .u32 m.2.2.2.2.2.2.2.2.2.2.2.1.2.2.1), (.int .u32 m.2.2.2.2.2.2.2.2.2.2.2.1.2.2.2.1), (.int .u32 m.2.2.2.2.2.2.2.2.2.2.2.1.2.2.2.2.1), (.slice m.2.2.2.2.2.2.2.2.2.2.2.1.2.2.2.2.2.1.at' m.2.2.2.2.2.2.2.2.2.2.2.1.2.2.2.2.2.1.len m.2.2.2.2.2.2.2.2.2.2.2.1.2.2.2.2.2.1.cap)]) rfl rfl) rfl rfl rfl ?_; clear hf fa; rintro fa _ w1 ⟨b1, rfl, hle1, hk1, he1⟩ hf
  have hBb1 : w.heap.size ≤ b1 := Nat.le_trans hb.size hle1
  replace hb := hb.trans (Below.mono he1 hb.size)
  refine sqv hf (r_assign rfl) rfl rfl rfl ?_; clear hf fa; intro fa hf
  apply wpList_nil
  (try simp only [Exit.then, Exit.inBlock, ↓reduceIte, Nat.reduceEqDiff])
  refine hK1 _ _ ?_
  refine wp_seq_k (fun K2 hK2 => ?_)
  refine wp_seq_k (fun K3 hK3 => ?_)
  refine wp_region_lit ?_
  refine sqv hf (r_fa rfl Try.underlying36 (f := 0) (q := 0) rfl (by kernel_rfl) rfl) rfl rfl rfl ?_; clear hf fa; intro fa hf
  refine sqv hf (r_load (v := (.slice m.1.at' m.1.len m.1.cap)) rfl Try.underlying22 rfl (cell_blk hk1 rfl)) rfl rfl rfl ?_; clear hf fa; intro fa hf
  refine sqv hf (r_lensl rfl Try.underlying22) rfl rfl rfl ?_; clear hf fa; intro fa hf
  refine sqv hf (r_fa rfl Try.underlying36 (f := 1) (q := 1) rfl (by kernel_rfl) rfl) rfl rfl rfl ?_; clear hf fa; intro fa hf
  refine sqv hf (r_load (v := (.slice m.2.1.at' m.2.1.len m.2.1.cap)) rfl Try.underlying23 rfl (cell_blk hk1 rfl)) rfl rfl rfl ?_; clear hf fa; intro fa hf
  refine sqv hf (r_lensl rfl Try.underlying23) rfl rfl rfl ?_; clear hf fa; intro fa hf
  refine sqv hf (r_add (C := (((m.1.len : Nat) : Int) + ((m.2.1.len : Nat) : Int))) rfl rfl (by rw [IntKind.wrap_i64]; omega)) rfl rfl rfl ?_; clear hf fa; intro fa hf
  refine sqv hf (r_gt rfl rfl) rfl rfl rfl ?_; clear hf fa; intro fa hf
  refine sqv hf (r_move rfl) rfl rfl rfl ?_; clear hf fa; intro fa hf
  refine sqgF (act := (!(decide ((40 : Int) < (((m.1.len : Nat) : Int) + ((m.2.1.len : Nat) : Int)))))) (ag := true) (c := (decide ((40 : Int) < (((m.1.len : Nat) : Int) + ((m.2.1.len : Nat) : Int))))) (v := (.pointer (some ⟨b1, 2, none⟩))) hf rfl rfl rfl (fun hact => (r_fa rfl Try.underlying36 (f := 2) (q := 2) rfl (by kernel_rfl) rfl)) rfl rfl ?_; clear hf fa; intro fa hf
  refine sqgF (act := (!(decide ((40 : Int) < (((m.1.len : Nat) : Int) + ((m.2.1.len : Nat) : Int)))))) (ag := true) (c := (decide ((40 : Int) < (((m.1.len : Nat) : Int) + ((m.2.1.len : Nat) : Int))))) (v := (.slice m.2.2.1.at' m.2.2.1.len m.2.2.1.cap)) hf rfl rfl rfl (fun hact => (r_load (v := (.slice m.2.2.1.at' m.2.2.1.len m.2.2.1.cap)) (gb_ev hact rfl) Try.underlying24 rfl (cell_blk hk1 rfl))) rfl rfl ?_; clear hf fa; intro fa hf
  refine sqgF (act := (!(decide ((40 : Int) < (((m.1.len : Nat) : Int) + ((m.2.1.len : Nat) : Int)))))) (ag := true) (c := (decide ((40 : Int) < (((m.1.len : Nat) : Int) + ((m.2.1.len : Nat) : Int))))) (v := (.int .i64 ((m.2.2.1.len : Nat) : Int))) hf rfl rfl rfl (fun hact => (r_lensl (gb_ev hact rfl) Try.underlying24)) rfl rfl ?_; clear hf fa; intro fa hf
  refine sqgF (act := (!(decide ((40 : Int) < (((m.1.len : Nat) : Int) + ((m.2.1.len : Nat) : Int)))))) (ag := true) (c := (decide ((40 : Int) < (((m.1.len : Nat) : Int) + ((m.2.1.len : Nat) : Int))))) (v := (.pointer (some ⟨b1, 3, none⟩))) hf rfl rfl rfl (fun hact => (r_fa rfl Try.underlying36 (f := 3) (q := 3) rfl (by kernel_rfl) rfl)) rfl rfl ?_; clear hf fa; intro fa hf
  refine sqgF (act := (!(decide ((40 : Int) < (((m.1.len : Nat) : Int) + ((m.2.1.len : Nat) : Int)))))) (ag := true) (c := (decide ((40 : Int) < (((m.1.len : Nat) : Int) + ((m.2.1.len : Nat) : Int))))) (v := (.slice m.2.2.2.1.at' m.2.2.2.1.len m.2.2.2.1.cap)) hf rfl rfl rfl (fun hact => (r_load (v := (.slice m.2.2.2.1.at' m.2.2.2.1.len m.2.2.2.1.cap)) (gb_ev hact rfl) Try.underlying25 rfl (cell_blk hk1 rfl))) rfl rfl ?_; clear hf fa; intro fa hf
  refine sqgF (act := (!(decide ((40 : Int) < (((m.1.len : Nat) : Int) + ((m.2.1.len : Nat) : Int)))))) (ag := true) (c := (decide ((40 : Int) < (((m.1.len : Nat) : Int) + ((m.2.1.len : Nat) : Int))))) (v := (.int .i64 ((m.2.2.2.1.len : Nat) : Int))) hf rfl rfl rfl (fun hact => (r_lensl (gb_ev hact rfl) Try.underlying25)) rfl rfl ?_; clear hf fa; intro fa hf
  refine sqgF (act := (!(decide ((40 : Int) < (((m.1.len : Nat) : Int) + ((m.2.1.len : Nat) : Int)))))) (ag := true) (c := (decide ((40 : Int) < (((m.1.len : Nat) : Int) + ((m.2.1.len : Nat) : Int))))) (v := (.int .i64 (((m.2.2.1.len : Nat) : Int) + ((m.2.2.2.1.len : Nat) : Int)))) hf rfl rfl rfl (fun hact => (by have hact0 := hact; (try simp only [Bool.and_eq_true, Bool.not_eq_true', Bool.or_eq_false_iff, Bool.or_eq_true, Bool.and_eq_false_iff, ne_eq, decide_eq_true_eq, decide_eq_false_iff_not] at hact0); exact (r_add (C := (((m.2.2.1.len : Nat) : Int) + ((m.2.2.2.1.len : Nat) : Int))) (gb_ev hact rfl) (gb_ev hact rfl) (by rw [IntKind.wrap_i64]; omega)))) rfl rfl ?_; clear hf fa; intro fa hf
  refine sqgF (act := (!(decide ((40 : Int) < (((m.1.len : Nat) : Int) + ((m.2.1.len : Nat) : Int)))))) (ag := true) (c := (decide ((40 : Int) < (((m.1.len : Nat) : Int) + ((m.2.1.len : Nat) : Int))))) (v := (.pointer (some ⟨b1, 4, none⟩))) hf rfl rfl rfl (fun hact => (r_fa rfl Try.underlying36 (f := 4) (q := 4) rfl (by kernel_rfl) rfl)) rfl rfl ?_; clear hf fa; intro fa hf
  refine sqgF (act := (!(decide ((40 : Int) < (((m.1.len : Nat) : Int) + ((m.2.1.len : Nat) : Int)))))) (ag := true) (c := (decide ((40 : Int) < (((m.1.len : Nat) : Int) + ((m.2.1.len : Nat) : Int))))) (v := (.slice m.2.2.2.2.1.at' m.2.2.2.2.1.len m.2.2.2.2.1.cap)) hf rfl rfl rfl (fun hact => (r_load (v := (.slice m.2.2.2.2.1.at' m.2.2.2.2.1.len m.2.2.2.2.1.cap)) (gb_ev hact rfl) Try.underlying25 rfl (cell_blk hk1 rfl))) rfl rfl ?_; clear hf fa; intro fa hf
  refine sqgF (act := (!(decide ((40 : Int) < (((m.1.len : Nat) : Int) + ((m.2.1.len : Nat) : Int)))))) (ag := true) (c := (decide ((40 : Int) < (((m.1.len : Nat) : Int) + ((m.2.1.len : Nat) : Int))))) (v := (.int .i64 ((m.2.2.2.2.1.len : Nat) : Int))) hf rfl rfl rfl (fun hact => (r_lensl (gb_ev hact rfl) Try.underlying25)) rfl rfl ?_; clear hf fa; intro fa hf
  refine sqgF (act := (!(decide ((40 : Int) < (((m.1.len : Nat) : Int) + ((m.2.1.len : Nat) : Int)))))) (ag := true) (c := (decide ((40 : Int) < (((m.1.len : Nat) : Int) + ((m.2.1.len : Nat) : Int))))) (v := (.int .i64 ((((m.2.2.1.len : Nat) : Int) + ((m.2.2.2.1.len : Nat) : Int)) + ((m.2.2.2.2.1.len : Nat) : Int)))) hf rfl rfl rfl (fun hact => (by have hact0 := hact; (try simp only [Bool.and_eq_true, Bool.not_eq_true', Bool.or_eq_false_iff, Bool.or_eq_true, Bool.and_eq_false_iff, ne_eq, decide_eq_true_eq, decide_eq_false_iff_not] at hact0); exact (r_add (C := ((((m.2.2.1.len : Nat) : Int) + ((m.2.2.2.1.len : Nat) : Int)) + ((m.2.2.2.2.1.len : Nat) : Int))) (gb_ev hact rfl) (gb_ev hact rfl) (by rw [IntKind.wrap_i64]; omega)))) rfl rfl ?_; clear hf fa; intro fa hf
  refine sqgF (act := (!(decide ((40 : Int) < (((m.1.len : Nat) : Int) + ((m.2.1.len : Nat) : Int)))))) (ag := true) (c := (decide ((40 : Int) < (((m.1.len : Nat) : Int) + ((m.2.1.len : Nat) : Int))))) (v := (.bool (decide ((40 : Int) < ((((m.2.2.1.len : Nat) : Int) + ((m.2.2.2.1.len : Nat) : Int)) + ((m.2.2.2.2.1.len : Nat) : Int)))))) hf rfl rfl rfl (fun hact => (r_gt (gb_ev hact rfl) rfl)) rfl rfl ?_; clear hf fa; intro fa hf
  refine sqv hf (r_pickO (b := (decide ((40 : Int) < (((m.1.len : Nat) : Int) + ((m.2.1.len : Nat) : Int))))) (e := (decide ((40 : Int) < ((((m.2.2.1.len : Nat) : Int) + ((m.2.2.2.1.len : Nat) : Int)) + ((m.2.2.2.2.1.len : Nat) : Int))))) rfl rfl rfl) rfl rfl rfl ?_; clear hf fa; intro fa hf
  refine sqv hf (r_move rfl) rfl rfl rfl ?_; clear hf fa; intro fa hf
  refine sqgF (act := (!((decide ((40 : Int) < (((m.1.len : Nat) : Int) + ((m.2.1.len : Nat) : Int)))) || (decide ((40 : Int) < ((((m.2.2.1.len : Nat) : Int) + ((m.2.2.2.1.len : Nat) : Int)) + ((m.2.2.2.2.1.len : Nat) : Int))))))) (ag := true) (c := ((decide ((40 : Int) < (((m.1.len : Nat) : Int) + ((m.2.1.len : Nat) : Int)))) || (decide ((40 : Int) < ((((m.2.2.1.len : Nat) : Int) + ((m.2.2.2.1.len : Nat) : Int)) + ((m.2.2.2.2.1.len : Nat) : Int)))))) (v := (.pointer (some ⟨b1, 5, none⟩))) hf rfl rfl rfl (fun hact => (r_fa rfl Try.underlying36 (f := 5) (q := 5) rfl (by kernel_rfl) rfl)) rfl rfl ?_; clear hf fa; intro fa hf
  refine sqgF (act := (!((decide ((40 : Int) < (((m.1.len : Nat) : Int) + ((m.2.1.len : Nat) : Int)))) || (decide ((40 : Int) < ((((m.2.2.1.len : Nat) : Int) + ((m.2.2.2.1.len : Nat) : Int)) + ((m.2.2.2.2.1.len : Nat) : Int))))))) (ag := true) (c := ((decide ((40 : Int) < (((m.1.len : Nat) : Int) + ((m.2.1.len : Nat) : Int)))) || (decide ((40 : Int) < ((((m.2.2.1.len : Nat) : Int) + ((m.2.2.2.1.len : Nat) : Int)) + ((m.2.2.2.2.1.len : Nat) : Int)))))) (v := (.slice m.2.2.2.2.2.1.at' m.2.2.2.2.2.1.len m.2.2.2.2.2.1.cap)) hf rfl rfl rfl (fun hact => (r_load (v := (.slice m.2.2.2.2.2.1.at' m.2.2.2.2.2.1.len m.2.2.2.2.2.1.cap)) (gb_ev hact rfl) Try.underlying26 rfl (cell_blk hk1 rfl))) rfl rfl ?_; clear hf fa; intro fa hf
  refine sqgF (act := (!((decide ((40 : Int) < (((m.1.len : Nat) : Int) + ((m.2.1.len : Nat) : Int)))) || (decide ((40 : Int) < ((((m.2.2.1.len : Nat) : Int) + ((m.2.2.2.1.len : Nat) : Int)) + ((m.2.2.2.2.1.len : Nat) : Int))))))) (ag := true) (c := ((decide ((40 : Int) < (((m.1.len : Nat) : Int) + ((m.2.1.len : Nat) : Int)))) || (decide ((40 : Int) < ((((m.2.2.1.len : Nat) : Int) + ((m.2.2.2.1.len : Nat) : Int)) + ((m.2.2.2.2.1.len : Nat) : Int)))))) (v := (.int .i64 ((m.2.2.2.2.2.1.len : Nat) : Int))) hf rfl rfl rfl (fun hact => (r_lensl (gb_ev hact rfl) Try.underlying26)) rfl rfl ?_; clear hf fa; intro fa hf
  refine sqgF (act := (!((decide ((40 : Int) < (((m.1.len : Nat) : Int) + ((m.2.1.len : Nat) : Int)))) || (decide ((40 : Int) < ((((m.2.2.1.len : Nat) : Int) + ((m.2.2.2.1.len : Nat) : Int)) + ((m.2.2.2.2.1.len : Nat) : Int))))))) (ag := true) (c := ((decide ((40 : Int) < (((m.1.len : Nat) : Int) + ((m.2.1.len : Nat) : Int)))) || (decide ((40 : Int) < ((((m.2.2.1.len : Nat) : Int) + ((m.2.2.2.1.len : Nat) : Int)) + ((m.2.2.2.2.1.len : Nat) : Int)))))) (v := (.pointer (some ⟨b1, 6, none⟩))) hf rfl rfl rfl (fun hact => (r_fa rfl Try.underlying36 (f := 6) (q := 6) rfl (by kernel_rfl) rfl)) rfl rfl ?_; clear hf fa; intro fa hf
  refine sqgF (act := (!((decide ((40 : Int) < (((m.1.len : Nat) : Int) + ((m.2.1.len : Nat) : Int)))) || (decide ((40 : Int) < ((((m.2.2.1.len : Nat) : Int) + ((m.2.2.2.1.len : Nat) : Int)) + ((m.2.2.2.2.1.len : Nat) : Int))))))) (ag := true) (c := ((decide ((40 : Int) < (((m.1.len : Nat) : Int) + ((m.2.1.len : Nat) : Int)))) || (decide ((40 : Int) < ((((m.2.2.1.len : Nat) : Int) + ((m.2.2.2.1.len : Nat) : Int)) + ((m.2.2.2.2.1.len : Nat) : Int)))))) (v := (.slice m.2.2.2.2.2.2.1.at' m.2.2.2.2.2.2.1.len m.2.2.2.2.2.2.1.cap)) hf rfl rfl rfl (fun hact => (r_load (v := (.slice m.2.2.2.2.2.2.1.at' m.2.2.2.2.2.2.1.len m.2.2.2.2.2.2.1.cap)) (gb_ev hact rfl) Try.underlying27 rfl (cell_blk hk1 rfl))) rfl rfl ?_; clear hf fa; intro fa hf
  refine sqgF (act := (!((decide ((40 : Int) < (((m.1.len : Nat) : Int) + ((m.2.1.len : Nat) : Int)))) || (decide ((40 : Int) < ((((m.2.2.1.len : Nat) : Int) + ((m.2.2.2.1.len : Nat) : Int)) + ((m.2.2.2.2.1.len : Nat) : Int))))))) (ag := true) (c := ((decide ((40 : Int) < (((m.1.len : Nat) : Int) + ((m.2.1.len : Nat) : Int)))) || (decide ((40 : Int) < ((((m.2.2.1.len : Nat) : Int) + ((m.2.2.2.1.len : Nat) : Int)) + ((m.2.2.2.2.1.len : Nat) : Int)))))) (v := (.int .i64 ((m.2.2.2.2.2.2.1.len : Nat) : Int))) hf rfl rfl rfl (fun hact => (r_lensl (gb_ev hact rfl) Try.underlying27)) rfl rfl ?_; clear hf fa; intro fa hf
  refine sqgF (act := (!((decide ((40 : Int) < (((m.1.len : Nat) : Int) + ((m.2.1.len : Nat) : Int)))) || (decide ((40 : Int) < ((((m.2.2.1.len : Nat) : Int) + ((m.2.2.2.1.len : Nat) : Int)) + ((m.2.2.2.2.1.len : Nat) : Int))))))) (ag := true) (c := ((decide ((40 : Int) < (((m.1.len : Nat) : Int) + ((m.2.1.len : Nat) : Int)))) || (decide ((40 : Int) < ((((m.2.2.1.len : Nat) : Int) + ((m.2.2.2.1.len : Nat) : Int)) + ((m.2.2.2.2.1.len : Nat) : Int)))))) (v := (.int .i64 (((m.2.2.2.2.2.1.len : Nat) : Int) + ((m.2.2.2.2.2.2.1.len : Nat) : Int)))) hf rfl rfl rfl (fun hact => (by have hact0 := hact; (try simp only [Bool.and_eq_true, Bool.not_eq_true', Bool.or_eq_false_iff, Bool.or_eq_true, Bool.and_eq_false_iff, ne_eq, decide_eq_true_eq, decide_eq_false_iff_not] at hact0); exact (r_add (C := (((m.2.2.2.2.2.1.len : Nat) : Int) + ((m.2.2.2.2.2.2.1.len : Nat) : Int))) (gb_ev hact rfl) (gb_ev hact rfl) (by rw [IntKind.wrap_i64]; omega)))) rfl rfl ?_; clear hf fa; intro fa hf
  refine sqgF (act := (!((decide ((40 : Int) < (((m.1.len : Nat) : Int) + ((m.2.1.len : Nat) : Int)))) || (decide ((40 : Int) < ((((m.2.2.1.len : Nat) : Int) + ((m.2.2.2.1.len : Nat) : Int)) + ((m.2.2.2.2.1.len : Nat) : Int))))))) (ag := true) (c := ((decide ((40 : Int) < (((m.1.len : Nat) : Int) + ((m.2.1.len : Nat) : Int)))) || (decide ((40 : Int) < ((((m.2.2.1.len : Nat) : Int) + ((m.2.2.2.1.len : Nat) : Int)) + ((m.2.2.2.2.1.len : Nat) : Int)))))) (v := (.bool (decide ((40 : Int) < (((m.2.2.2.2.2.1.len : Nat) : Int) + ((m.2.2.2.2.2.2.1.len : Nat) : Int)))))) hf rfl rfl rfl (fun hact => (r_gt (gb_ev hact rfl) rfl)) rfl rfl ?_; clear hf fa; intro fa hf
  refine sqv hf (r_pickO (b := ((decide ((40 : Int) < (((m.1.len : Nat) : Int) + ((m.2.1.len : Nat) : Int)))) || (decide ((40 : Int) < ((((m.2.2.1.len : Nat) : Int) + ((m.2.2.2.1.len : Nat) : Int)) + ((m.2.2.2.2.1.len : Nat) : Int)))))) (e := (decide ((40 : Int) < (((m.2.2.2.2.2.1.len : Nat) : Int) + ((m.2.2.2.2.2.2.1.len : Nat) : Int))))) rfl rfl rfl) rfl rfl rfl ?_; clear hf fa; intro fa hf
  refine sqv hf (r_move rfl) rfl rfl rfl ?_; clear hf fa; intro fa hf
  refine sqgF (act := (!(((decide ((40 : Int) < (((m.1.len : Nat) : Int) + ((m.2.1.len : Nat) : Int)))) || (decide ((40 : Int) < ((((m.2.2.1.len : Nat) : Int) + ((m.2.2.2.1.len : Nat) : Int)) + ((m.2.2.2.2.1.len : Nat) : Int))))) || (decide ((40 : Int) < (((m.2.2.2.2.2.1.len : Nat) : Int) + ((m.2.2.2.2.2.2.1.len : Nat) : Int))))))) (ag := true) (c := (((decide ((40 : Int) < (((m.1.len : Nat) : Int) + ((m.2.1.len : Nat) : Int)))) || (decide ((40 : Int) < ((((m.2.2.1.len : Nat) : Int) + ((m.2.2.2.1.len : Nat) : Int)) + ((m.2.2.2.2.1.len : Nat) : Int))))) || (decide ((40 : Int) < (((m.2.2.2.2.2.1.len : Nat) : Int) + ((m.2.2.2.2.2.2.1.len : Nat) : Int)))))) (v := (.pointer (some ⟨b1, 8, none⟩))) hf rfl rfl rfl (fun hact => (r_fa rfl Try.underlying36 (f := 8) (q := 8) rfl (by kernel_rfl) rfl)) rfl rfl ?_; clear hf fa; intro fa hf
  refine sqgF (act := (!(((decide ((40 : Int) < (((m.1.len : Nat) : Int) + ((m.2.1.len : Nat) : Int)))) || (decide ((40 : Int) < ((((m.2.2.1.len : Nat) : Int) + ((m.2.2.2.1.len : Nat) : Int)) + ((m.2.2.2.2.1.len : Nat) : Int))))) || (decide ((40 : Int) < (((m.2.2.2.2.2.1.len : Nat) : Int) + ((m.2.2.2.2.2.2.1.len : Nat) : Int))))))) (ag := true) (c := (((decide ((40 : Int) < (((m.1.len : Nat) : Int) + ((m.2.1.len : Nat) : Int)))) || (decide ((40 : Int) < ((((m.2.2.1.len : Nat) : Int) + ((m.2.2.2.1.len : Nat) : Int)) + ((m.2.2.2.2.1.len : Nat) : Int))))) || (decide ((40 : Int) < (((m.2.2.2.2.2.1.len : Nat) : Int) + ((m.2.2.2.2.2.2.1.len : Nat) : Int)))))) (v := (.slice m.2.2.2.2.2.2.2.2.1.at' m.2.2.2.2.2.2.2.2.1.len m.2.2.2.2.2.2.2.2.1.cap)) hf rfl rfl rfl (fun hact => (r_load (v := (.slice m.2.2.2.2.2.2.2.2.1.at' m.2.2.2.2.2.2.2.2.1.len m.2.2.2.2.2.2.2.2.1.cap)) (gb_ev hact rfl) Try.underlying28 rfl (cell_blk hk1 rfl))) rfl rfl ?_; clear hf fa; intro fa hf
  refine sqgF (act := (!(((decide ((40 : Int) < (((m.1.len : Nat) : Int) + ((m.2.1.len : Nat) : Int)))) || (decide ((40 : Int) < ((((m.2.2.1.len : Nat) : Int) + ((m.2.2.2.1.len : Nat) : Int)) + ((m.2.2.2.2.1.len : Nat) : Int))))) || (decide ((40 : Int) < (((m.2.2.2.2.2.1.len : Nat) : Int) + ((m.2.2.2.2.2.2.1.len : Nat) : Int))))))) (ag := true) (c := (((decide ((40 : Int) < (((m.1.len : Nat) : Int) + ((m.2.1.len : Nat) : Int)))) || (decide ((40 : Int) < ((((m.2.2.1.len : Nat) : Int) + ((m.2.2.2.1.len : Nat) : Int)) + ((m.2.2.2.2.1.len : Nat) : Int))))) || (decide ((40 : Int) < (((m.2.2.2.2.2.1.len : Nat) : Int) + ((m.2.2.2.2.2.2.1.len : Nat) : Int)))))) (v := (.int .i64 ((m.2.2.2.2.2.2.2.2.1.len : Nat) : Int))) hf rfl rfl rfl (fun hact => (r_lensl (gb_ev hact rfl) Try.underlying28)) rfl rfl ?_; clear hf fa; intro fa hf
  refine sqgF (act := (!(((decide ((40 : Int) < (((m.1.len : Nat) : Int) + ((m.2.1.len : Nat) : Int)))) || (decide ((40 : Int) < ((((m.2.2.1.len : Nat) : Int) + ((m.2.2.2.1.len : Nat) : Int)) + ((m.2.2.2.2.1.len : Nat) : Int))))) || (decide ((40 : Int) < (((m.2.2.2.2.2.1.len : Nat) : Int) + ((m.2.2.2.2.2.2.1.len : Nat) : Int))))))) (ag := true) (c := (((decide ((40 : Int) < (((m.1.len : Nat) : Int) + ((m.2.1.len : Nat) : Int)))) || (decide ((40 : Int) < ((((m.2.2.1.len : Nat) : Int) + ((m.2.2.2.1.len : Nat) : Int)) + ((m.2.2.2.2.1.len : Nat) : Int))))) || (decide ((40 : Int) < (((m.2.2.2.2.2.1.len : Nat) : Int) + ((m.2.2.2.2.2.2.1.len : Nat) : Int)))))) (v := (.pointer (some ⟨b1, 9, none⟩))) hf rfl rfl rfl (fun hact => (r_fa rfl Try.underlying36 (f := 9) (q := 9) rfl (by kernel_rfl) rfl)) rfl rfl ?_; clear hf fa; intro fa hf
  refine sqgF (act := (!(((decide ((40 : Int) < (((m.1.len : Nat) : Int) + ((m.2.1.len : Nat) : Int)))) || (decide ((40 : Int) < ((((m.2.2.1.len : Nat) : Int) + ((m.2.2.2.1.len : Nat) : Int)) + ((m.2.2.2.2.1.len : Nat) : Int))))) || (decide ((40 : Int) < (((m.2.2.2.2.2.1.len : Nat) : Int) + ((m.2.2.2.2.2.2.1.len : Nat) : Int))))))) (ag := true) (c := (((decide ((40 : Int) < (((m.1.len : Nat) : Int) + ((m.2.1.len : Nat) : Int)))) || (decide ((40 : Int) < ((((m.2.2.1.len : Nat) : Int) + ((m.2.2.2.1.len : Nat) : Int)) + ((m.2.2.2.2.1.len : Nat) : Int))))) || (decide ((40 : Int) < (((m.2.2.2.2.2.1.len : Nat) : Int) + ((m.2.2.2.2.2.2.1.len : Nat) : Int)))))) (v := (.slice m.2.2.2.2.2.2.2.2.2.1.at' m.2.2.2.2.2.2.2.2.2.1.len m.2.2.2.2.2.2.2.2.2.1.cap)) hf rfl rfl rfl (fun hact => (r_load (v := (.slice m.2.2.2.2.2.2.2.2.2.1.at' m.2.2.2.2.2.2.2.2.2.1.len m.2.2.2.2.2.2.2.2.2.1.cap)) (gb_ev hact rfl) Try.underlying29 rfl (cell_blk hk1 rfl))) rfl rfl ?_; clear hf fa; intro fa hf
  refine sqgF (act := (!(((decide ((40 : Int) < (((m.1.len : Nat) : Int) + ((m.2.1.len : Nat) : Int)))) || (decide ((40 : Int) < ((((m.2.2.1.len : Nat) : Int) + ((m.2.2.2.1.len : Nat) : Int)) + ((m.2.2.2.2.1.len : Nat) : Int))))) || (decide ((40 : Int) < (((m.2.2.2.2.2.1.len : Nat) : Int) + ((m.2.2.2.2.2.2.1.len : Nat) : Int))))))) (ag := true) (c := (((decide ((40 : Int) < (((m.1.len : Nat) : Int) + ((m.2.1.len : Nat) : Int)))) || (decide ((40 : Int) < ((((m.2.2.1.len : Nat) : Int) + ((m.2.2.2.1.len : Nat) : Int)) + ((m.2.2.2.2.1.len : Nat) : Int))))) || (decide ((40 : Int) < (((m.2.2.2.2.2.1.len : Nat) : Int) + ((m.2.2.2.2.2.2.1.len : Nat) : Int)))))) (v := (.int .i64 ((m.2.2.2.2.2.2.2.2.2.1.len : Nat) : Int))) hf rfl rfl rfl (fun hact => (r_lensl (gb_ev hact rfl) Try.underlying29)) rfl rfl ?_; clear hf fa; intro fa hf
  refine sqgF (act := (!(((decide ((40 : Int) < (((m.1.len : Nat) : Int) + ((m.2.1.len : Nat) : Int)))) || (decide ((40 : Int) < ((((m.2.2.1.len : Nat) : Int) + ((m.2.2.2.1.len : Nat) : Int)) + ((m.2.2.2.2.1.len : Nat) : Int))))) || (decide ((40 : Int) < (((m.2.2.2.2.2.1.len : Nat) : Int) + ((m.2.2.2.2.2.2.1.len : Nat) : Int))))))) (ag := true) (c := (((decide ((40 : Int) < (((m.1.len : Nat) : Int) + ((m.2.1.len : Nat) : Int)))) || (decide ((40 : Int) < ((((m.2.2.1.len : Nat) : Int) + ((m.2.2.2.1.len : Nat) : Int)) + ((m.2.2.2.2.1.len : Nat) : Int))))) || (decide ((40 : Int) < (((m.2.2.2.2.2.1.len : Nat) : Int) + ((m.2.2.2.2.2.2.1.len : Nat) : Int)))))) (v := (.int .i64 (((m.2.2.2.2.2.2.2.2.1.len : Nat) : Int) + ((m.2.2.2.2.2.2.2.2.2.1.len : Nat) : Int)))) hf rfl rfl rfl (fun hact => (by have hact0 := hact; (try simp only [Bool.and_eq_true, Bool.not_eq_true', Bool.or_eq_false_iff, Bool.or_eq_true, Bool.and_eq_false_iff, ne_eq, decide_eq_true_eq, decide_eq_false_iff_not] at hact0); exact (r_add (C := (((m.2.2.2.2.2.2.2.2.1.len : Nat) : Int) + ((m.2.2.2.2.2.2.2.2.2.1.len : Nat) : Int))) (gb_ev hact rfl) (gb_ev hact rfl) (by rw [IntKind.wrap_i64]; omega)))) rfl rfl ?_; clear hf fa; intro fa hf
  refine sqgF (act := (!(((decide ((40 : Int) < (((m.1.len : Nat) : Int) + ((m.2.1.len : Nat) : Int)))) || (decide ((40 : Int) < ((((m.2.2.1.len : Nat) : Int) + ((m.2.2.2.1.len : Nat) : Int)) + ((m.2.2.2.2.1.len : Nat) : Int))))) || (decide ((40 : Int) < (((m.2.2.2.2.2.1.len : Nat) : Int) + ((m.2.2.2.2.2.2.1.len : Nat) : Int))))))) (ag := true) (c := (((decide ((40 : Int) < (((m.1.len : Nat) : Int) + ((m.2.1.len : Nat) : Int)))) || (decide ((40 : Int) < ((((m.2.2.1.len : Nat) : Int) + ((m.2.2.2.1.len : Nat) : Int)) + ((m.2.2.2.2.1.len : Nat) : Int))))) || (decide ((40 : Int) < (((m.2.2.2.2.2.1.len : Nat) : Int) + ((m.2.2.2.2.2.2.1.len : Nat) : Int)))))) (v := (.pointer (some ⟨b1, 10, none⟩))) hf rfl rfl rfl (fun hact => (r_fa rfl Try.underlying36 (f := 10) (q := 10) rfl (by kernel_rfl) rfl)) rfl rfl ?_; clear hf fa; intro fa hf
  refine sqgF (act := (!(((decide ((40 : Int) < (((m.1.len : Nat) : Int) + ((m.2.1.len : Nat) : Int)))) || (decide ((40 : Int) < ((((m.2.2.1.len : Nat) : Int) + ((m.2.2.2.1.len : Nat) : Int)) + ((m.2.2.2.2.1.len : Nat) : Int))))) || (decide ((40 : Int) < (((m.2.2.2.2.2.1.len : Nat) : Int) + ((m.2.2.2.2.2.2.1.len : Nat) : Int))))))) (ag := true) (c := (((decide ((40 : Int) < (((m.1.len : Nat) : Int) + ((m.2.1.len : Nat) : Int)))) || (decide ((40 : Int) < ((((m.2.2.1.len : Nat) : Int) + ((m.2.2.2.1.len : Nat) : Int)) + ((m.2.2.2.2.1.len : Nat) : Int))))) || (decide ((40 : Int) < (((m.2.2.2.2.2.1.len : Nat) : Int) + ((m.2.2.2.2.2.2.1.len : Nat) : Int)))))) (v := (.slice m.2.2.2.2.2.2.2.2.2.2.1.at' m.2.2.2.2.2.2.2.2.2.2.1.len m.2.2.2.2.2.2.2.2.2.2.1.cap)) hf rfl rfl rfl (fun hact => (r_load (v := (.slice m.2.2.2.2.2.2.2.2.2.2.1.at' m.2.2.2.2.2.2.2.2.2.2.1.len m.2.2.2.2.2.2.2.2.2.2.1.cap)) (gb_ev hact rfl) Try.underlying30 rfl (cell_blk hk1 rfl))) rfl rfl ?_; clear hf fa; intro fa hf
  refine sqgF (act := (!(((decide ((40 : Int) < (((m.1.len : Nat) : Int) + ((m.2.1.len : Nat) : Int)))) || (decide ((40 : Int) < ((((m.2.2.1.len : Nat) : Int) + ((m.2.2.2.1.len : Nat) : Int)) + ((m.2.2.2.2.1.len : Nat) : Int))))) || (decide ((40 : Int) < (((m.2.2.2.2.2.1.len : Nat) : Int) + ((m.2.2.2.2.2.2.1.len : Nat) : Int))))))) (ag := true) (c := (((decide ((40 : Int) < (((m.1.len : Nat) : Int) + ((m.2.1.len : Nat) : Int)))) || (decide ((40 : Int) < ((((m.2.2.1.len : Nat) : Int) + ((m.2.2.2.1.len : Nat) : Int)) + ((m.2.2.2.2.1.len : Nat) : Int))))) || (decide ((40 : Int) < (((m.2.2.2.2.2.1.len : Nat) : Int) + ((m.2.2.2.2.2.2.1.len : Nat) : Int)))))) (v := (.int .i64 ((m.2.2.2.2.2.2.2.2.2.2.1.len : Nat) : Int))) hf rfl rfl rfl (fun hact => (r_lensl (gb_ev hact rfl) Try.underlying30)) rfl rfl ?_; clear hf fa; intro fa hf
  refine sqgF (act := (!(((decide ((40 : Int) < (((m.1.len : Nat) : Int) + ((m.2.1.len : Nat) : Int)))) || (decide ((40 : Int) < ((((m.2.2.1.len : Nat) : Int) + ((m.2.2.2.1.len : Nat) : Int)) + ((m.2.2.2.2.1.len : Nat) : Int))))) || (decide ((40 : Int) < (((m.2.2.2.2.2.1.len : Nat) : Int) + ((m.2.2.2.2.2.2.1.len : Nat) : Int))))))) (ag := true) (c := (((decide ((40 : Int) < (((m.1.len : Nat) : Int) + ((m.2.1.len : Nat) : Int)))) || (decide ((40 : Int) < ((((m.2.2.1.len : Nat) : Int) + ((m.2.2.2.1.len : Nat) : Int)) + ((m.2.2.2.2.1.len : Nat) : Int))))) || (decide ((40 : Int) < (((m.2.2.2.2.2.1.len : Nat) : Int) + ((m.2.2.2.2.2.2.1.len : Nat) : Int)))))) (v := (.int .i64 ((((m.2.2.2.2.2.2.2.2.1.len : Nat) : Int) + ((m.2.2.2.2.2.2.2.2.2.1.len : Nat) : Int)) + ((m.2.2.2.2.2.2.2.2.2.2.1.len : Nat) : Int)))) hf rfl rfl rfl (fun hact => (by have hact0 := hact; (try simp only [Bool.and_eq_true, Bool.not_eq_true', Bool.or_eq_false_iff, Bool.or_eq_true, Bool.and_eq_false_iff, ne_eq, decide_eq_true_eq, decide_eq_false_iff_not] at hact0); exact (r_add (C := ((((m.2.2.2.2.2.2.2.2.1.len : Nat) : Int) + ((m.2.2.2.2.2.2.2.2.2.1.len : Nat) : Int)) + ((m.2.2.2.2.2.2.2.2.2.2.1.len : Nat) : Int))) (gb_ev hact rfl) (gb_ev hact rfl) (by rw [IntKind.wrap_i64]; omega)))) rfl rfl ?_; clear hf fa; intro fa hf
  refine sqgF (act := (!(((decide ((40 : Int) < (((m.1.len : Nat) : Int) + ((m.2.1.len : Nat) : Int)))) || (decide ((40 : Int) < ((((m.2.2.1.len : Nat) : Int) + ((m.2.2.2.1.len : Nat) : Int)) + ((m.2.2.2.2.1.len : Nat) : Int))))) || (decide ((40 : Int) < (((m.2.2.2.2.2.1.len : Nat) : Int) + ((m.2.2.2.2.2.2.1.len : Nat) : Int))))))) (ag := true) (c := (((decide ((40 : Int) < (((m.1.len : Nat) : Int) + ((m.2.1.len : Nat) : Int)))) || (decide ((40 : Int) < ((((m.2.2.1.len : Nat) : Int) + ((m.2.2.2.1.len : Nat) : Int)) + ((m.2.2.2.2.1.len : Nat) : Int))))) || (decide ((40 : Int) < (((m.2.2.2.2.2.1.len : Nat) : Int) + ((m.2.2.2.2.2.2.1.len : Nat) : Int)))))) (v := (.bool (decide ((40 : Int) < ((((m.2.2.2.2.2.2.2.2.1.len : Nat) : Int) + ((m.2.2.2.2.2.2.2.2.2.1.len : Nat) : Int)) + ((m.2.2.2.2.2.2.2.2.2.2.1.len : Nat) : Int)))))) hf rfl rfl rfl (fun hact => (r_gt (gb_ev hact rfl) rfl)) rfl rfl ?_; clear hf fa; intro fa hf
  refine sqv hf (r_pickO (b := (((decide ((40 : Int) < (((m.1.len : Nat) : Int) + ((m.2.1.len : Nat) : Int)))) || (decide ((40 : Int) < ((((m.2.2.1.len : Nat) : Int) + ((m.2.2.2.1.len : Nat) : Int)) + ((m.2.2.2.2.1.len : Nat) : Int))))) || (decide ((40 : Int) < (((m.2.2.2.2.2.1.len : Nat) : Int) + ((m.2.2.2.2.2.2.1.len : Nat) : Int)))))) (e := (decide ((40 : Int) < ((((m.2.2.2.2.2.2.2.2.1.len : Nat) : Int) + ((m.2.2.2.2.2.2.2.2.2.1.len : Nat) : Int)) + ((m.2.2.2.2.2.2.2.2.2.2.1.len : Nat) : Int))))) rfl rfl rfl) rfl rfl rfl ?_; clear hf fa; intro fa hf
  refine sqv hf (r_move rfl) rfl rfl rfl ?_; clear hf fa; intro fa hf
  refine sqgF (act := (!((((decide ((40 : Int) < (((m.1.len : Nat) : Int) + ((m.2.1.len : Nat) : Int)))) || (decide ((40 : Int) < ((((m.2.2.1.len : Nat) : Int) + ((m.2.2.2.1.len : Nat) : Int)) + ((m.2.2.2.2.1.len : Nat) : Int))))) || (decide ((40 : Int) < (((m.2.2.2.2.2.1.len : Nat) : Int) + ((m.2.2.2.2.2.2.1.len : Nat) : Int))))) || (decide ((40 : Int) < ((((m.2.2.2.2.2.2.2.2.1.len : Nat) : Int) + ((m.2.2.2.2.2.2.2.2.2.1.len : Nat) : Int)) + ((m.2.2.2.2.2.2.2.2.2.2.1.len : Nat) : Int))))))) (ag := true) (c := ((((decide ((40 : Int) < (((m.1.len : Nat) : Int) + ((m.2.1.len : Nat) : Int)))) || (decide ((40 : Int) < ((((m.2.2.1.len : Nat) : Int) + ((m.2.2.2.1.len : Nat) : Int)) + ((m.2.2.2.2.1.len : Nat) : Int))))) || (decide ((40 : Int) < (((m.2.2.2.2.2.1.len : Nat) : Int) + ((m.2.2.2.2.2.2.1.len : Nat) : Int))))) || (decide ((40 : Int) < ((((m.2.2.2.2.2.2.2.2.1.len : Nat) : Int) + ((m.2.2.2.2.2.2.2.2.2.1.len : Nat) : Int)) + ((m.2.2.2.2.2.2.2.2.2.2.1.len : Nat) : Int)))))) (v := (.pointer (some ⟨b1, 11, none⟩))) hf rfl rfl rfl (fun hact => (r_fa rfl Try.underlying36 (f := 11) (q := 11) rfl (by kernel_rfl) rfl)) rfl rfl ?_; clear hf fa; intro fa hf
  refine sqgF (act := (!((((decide ((40 : Int) < (((m.1.len : Nat) : Int) + ((m.2.1.len : Nat) : Int)))) || (decide ((40 : Int) < ((((m.2.2.1.len : Nat) : Int) + ((m.2.2.2.1.len : Nat) : Int)) + ((m.2.2.2.2.1.len : Nat) : Int))))) || (decide ((40 : Int) < (((m.2.2.2.2.2.1.len : Nat) : Int) + ((m.2.2.2.2.2.2.1.len : Nat) : Int))))) || (decide ((40 : Int) < ((((m.2.2.2.2.2.2.2.2.1.len : Nat) : Int) + ((m.2.2.2.2.2.2.2.2.2.1.len : Nat) : Int)) + ((m.2.2.2.2.2.2.2.2.2.2.1.len : Nat) : Int))))))) (ag := true) (c := ((((decide ((40 : Int) < (((m.1.len : Nat) : Int) + ((m.2.1.len : Nat) : Int)))) || (decide ((40 : Int) < ((((m.2.2.1.len : Nat) : Int) + ((m.2.2.2.1.len : Nat) : Int)) + ((m.2.2.2.2.1.len : Nat) : Int))))) || (decide ((40 : Int) < (((m.2.2.2.2.2.1.len : Nat) : Int) + ((m.2.2.2.2.2.2.1.len : Nat) : Int))))) || (decide ((40 : Int) < ((((m.2.2.2.2.2.2.2.2.1.len : Nat) : Int) + ((m.2.2.2.2.2.2.2.2.2.1.len : Nat) : Int)) + ((m.2.2.2.2.2.2.2.2.2.2.1.len : Nat) : Int)))))) (v := (.pointer (some ⟨b1, 16, none⟩))) hf rfl rfl rfl (fun hact => (r_fa (gb_ev hact rfl) Try.underlying34 (f := 5) (q := 16) rfl (by kernel_rfl) rfl)) rfl rfl ?_; clear hf fa; intro fa hf
  refine sqgF (act := (!((((decide ((40 : Int) < (((m.1.len : Nat) : Int) + ((m.2.1.len : Nat) : Int)))) || (decide ((40 : Int) < ((((m.2.2.1.len : Nat) : Int) + ((m.2.2.2.1.len : Nat) : Int)) + ((m.2.2.2.2.1.len : Nat) : Int))))) || (decide ((40 : Int) < (((m.2.2.2.2.2.1.len : Nat) : Int) + ((m.2.2.2.2.2.2.1.len : Nat) : Int))))) || (decide ((40 : Int) < ((((m.2.2.2.2.2.2.2.2.1.len : Nat) : Int) + ((m.2.2.2.2.2.2.2.2.2.1.len : Nat) : Int)) + ((m.2.2.2.2.2.2.2.2.2.2.1.len : Nat) : Int))))))) (ag := true) (c := ((((decide ((40 : Int) < (((m.1.len : Nat) : Int) + ((m.2.1.len : Nat) : Int)))) || (decide ((40 : Int) < ((((m.2.2.1.len : Nat) : Int) + ((m.2.2.2.1.len : Nat) : Int)) + ((m.2.2.2.2.1.len : Nat) : Int))))) || (decide ((40 : Int) < (((m.2.2.2.2.2.1.len : Nat) : Int) + ((m.2.2.2.2.2.2.1.len : Nat) : Int))))) || (decide ((40 : Int) < ((((m.2.2.2.2.2.2.2.2.1.len : Nat) : Int) + ((m.2.2.2.2.2.2.2.2.2.1.len : Nat) : Int)) + ((m.2.2.2.2.2.2.2.2.2.2.1.len : Nat) : Int)))))) (v := (.slice m.2.2.2.2.2.2.2.2.2.2.2.1.2.2.2.2.2.1.at' m.2.2.2.2.2.2.2.2.2.2.2.1.2.2.2.2.2.1.len m.2.2.2.2.2.2.2.2.2.2.2.1.2.2.2.2.2.1.cap)) hf rfl rfl rfl (fun hact => (r_load (v := (.slice m.2.2.2.2.2.2.2.2.2.2.2.1.2.2.2.2.2.1.at' m.2.2.2.2.2.2.2.2.2.2.2.1.2.2.2.2.2.1.len m.2.2.2.2.2.2.2.2.2.2.2.1.2.2.2.2.2.1.cap)) (gb_ev hact rfl) Try.underlying32 rfl (cell_blk hk1 rfl))) rfl rfl ?_; clear hf fa; intro fa hf
  refine sqgF (act := (!((((decide ((40 : Int) < (((m.1.len : Nat) : Int) + ((m.2.1.len : Nat) : Int)))) || (decide ((40 : Int) < ((((m.2.2.1.len : Nat) : Int) + ((m.2.2.2.1.len : Nat) : Int)) + ((m.2.2.2.2.1.len : Nat) : Int))))) || (decide ((40 : Int) < (((m.2.2.2.2.2.1.len : Nat) : Int) + ((m.2.2.2.2.2.2.1.len : Nat) : Int))))) || (decide ((40 : Int) < ((((m.2.2.2.2.2.2.2.2.1.len : Nat) : Int) + ((m.2.2.2.2.2.2.2.2.2.1.len : Nat) : Int)) + ((m.2.2.2.2.2.2.2.2.2.2.1.len : Nat) : Int))))))) (ag := true) (c := ((((decide ((40 : Int) < (((m.1.len : Nat) : Int) + ((m.2.1.len : Nat) : Int)))) || (decide ((40 : Int) < ((((m.2.2.1.len : Nat) : Int) + ((m.2.2.2.1.len : Nat) : Int)) + ((m.2.2.2.2.1.len : Nat) : Int))))) || (decide ((40 : Int) < (((m.2.2.2.2.2.1.len : Nat) : Int) + ((m.2.2.2.2.2.2.1.len : Nat) : Int))))) || (decide ((40 : Int) < ((((m.2.2.2.2.2.2.2.2.1.len : Nat) : Int) + ((m.2.2.2.2.2.2.2.2.2.1.len : Nat) : Int)) + ((m.2.2.2.2.2.2.2.2.2.2.1.len : Nat) : Int)))))) (v := (.int .i64 ((m.2.2.2.2.2.2.2.2.2.2.2.1.2.2.2.2.2.1.len : Nat) : Int))) hf rfl rfl rfl (fun hact => (r_lensl (gb_ev hact rfl) Try.underlying32)) rfl rfl ?_; clear hf fa; intro fa hf
  refine sqgF (act := (!((((decide ((40 : Int) < (((m.1.len : Nat) : Int) + ((m.2.1.len : Nat) : Int)))) || (decide ((40 : Int) < ((((m.2.2.1.len : Nat) : Int) + ((m.2.2.2.1.len : Nat) : Int)) + ((m.2.2.2.2.1.len : Nat) : Int))))) || (decide ((40 : Int) < (((m.2.2.2.2.2.1.len : Nat) : Int) + ((m.2.2.2.2.2.2.1.len : Nat) : Int))))) || (decide ((40 : Int) < ((((m.2.2.2.2.2.2.2.2.1.len : Nat) : Int) + ((m.2.2.2.2.2.2.2.2.2.1.len : Nat) : Int)) + ((m.2.2.2.2.2.2.2.2.2.2.1.len : Nat) : Int))))))) (ag := true) (c := ((((decide ((40 : Int) < (((m.1.len : Nat) : Int) + ((m.2.1.len : Nat) : Int)))) || (decide ((40 : Int) < ((((m.2.2.1.len : Nat) : Int) + ((m.2.2.2.1.len : Nat) : Int)) + ((m.2.2.2.2.1.len : Nat) : Int))))) || (decide ((40 : Int) < (((m.2.2.2.2.2.1.len : Nat) : Int) + ((m.2.2.2.2.2.2.1.len : Nat) : Int))))) || (decide ((40 : Int) < ((((m.2.2.2.2.2.2.2.2.1.len : Nat) : Int) + ((m.2.2.2.2.2.2.2.2.2.1.len : Nat) : Int)) + ((m.2.2.2.2.2.2.2.2.2.2.1.len : Nat) : Int)))))) (v := (.bool (decide ((20 : Int) < ((m.2.2.2.2.2.2.2.2.2.2.2.1.2.2.2.2.2.1.len : Nat) : Int))))) hf rfl rfl rfl (fun hact => (r_gt (gb_ev hact rfl) rfl)) rfl rfl ?_; clear hf fa; intro fa hf
  refine sqv hf (r_pickO (b := ((((decide ((40 : Int) < (((m.1.len : Nat) : Int) + ((m.2.1.len : Nat) : Int)))) || (decide ((40 : Int) < ((((m.2.2.1.len : Nat) : Int) + ((m.2.2.2.1.len : Nat) : Int)) + ((m.2.2.2.2.1.len : Nat) : Int))))) || (decide ((40 : Int) < (((m.2.2.2.2.2.1.len : Nat) : Int) + ((m.2.2.2.2.2.2.1.len : Nat) : Int))))) || (decide ((40 : Int) < ((((m.2.2.2.2.2.2.2.2.1.len : Nat) : Int) + ((m.2.2.2.2.2.2.2.2.2.1.len : Nat) : Int)) + ((m.2.2.2.2.2.2.2.2.2.2.1.len : Nat) : Int)))))) (e := (decide ((20 : Int) < ((m.2.2.2.2.2.2.2.2.2.2.2.1.2.2.2.2.2.1.len : Nat) : Int)))) rfl rfl rfl) rfl rfl rfl ?_; clear hf fa; intro fa hf
  apply wpList_nil
  (try simp only [Exit.then, Exit.inBlock, ↓reduceIte, Nat.reduceEqDiff])
  refine hK3 _ _ ?_
  refine wp_cond_split (t := (((((decide ((40 : Int) < (((m.1.len : Nat) : Int) + ((m.2.1.len : Nat) : Int)))) || (decide ((40 : Int) < ((((m.2.2.1.len : Nat) : Int) + ((m.2.2.2.1.len : Nat) : Int)) + ((m.2.2.2.2.1.len : Nat) : Int))))) || (decide ((40 : Int) < (((m.2.2.2.2.2.1.len : Nat) : Int) + ((m.2.2.2.2.2.2.1.len : Nat) : Int))))) || (decide ((40 : Int) < ((((m.2.2.2.2.2.2.2.2.1.len : Nat) : Int) + ((m.2.2.2.2.2.2.2.2.2.1.len : Nat) : Int)) + ((m.2.2.2.2.2.2.2.2.2.2.1.len : Nat) : Int))))) || (decide ((20 : Int) < ((m.2.2.2.2.2.2.2.2.2.2.2.1.2.2.2.2.2.1.len : Nat) : Int))))) (hf.ev rfl) (fun hqt59_1 => ?_) (fun hqt59_1 => ?_)
  · have hqt59_1b := hqt59_1
    try simp only [decide_eq_true_eq, Bool.and_eq_true, Bool.or_eq_true, Bool.not_eq_true', decide_eq_false_iff_not, ne_eq, Bool.not_eq_true] at hqt59_1
    refine wp_seq_k (fun K4 hK4 => ?_)
    refine wp_region_lit ?_
    refine sqv hf (r_assign rfl) rfl rfl rfl ?_; clear hf fa; intro fa hf
    apply wpList_nil
    (try simp only [Exit.then, Exit.inBlock, ↓reduceIte, Nat.reduceEqDiff])
    refine hK4 _ _ ?_
    refine wp_ret ?_
    (try simp only [Exit.then, Exit.inBlock])
    refine ret1 hf rfl rfl ?_
    refine ⟨congrArg (fun b => Ending.returned (.bool b)) ?_, hb⟩; unfold smallP; rw [decide_eq_false (by have h := hqt59_1; unfold lensP; (try simp at h); omega)]; rfl
  · have hqt59_1b := hqt59_1
    replace hqt59_1 := Bool.eq_false_iff.1 hqt59_1
    try simp only [ne_eq, decide_eq_true_eq, Bool.and_eq_true, Bool.or_eq_true, Bool.not_eq_true', decide_eq_false_iff_not] at hqt59_1
    refine wp_skip ?_
    (try simp only [Exit.then, Exit.inBlock, ↓reduceIte, Nat.reduceEqDiff])
    refine hK2 _ _ ?_
    refine wp_seq_k (fun K5 hK5 => ?_)
    refine wp_seq_k (fun K6 hK6 => ?_)
    have hsm : lensP m := by have h := hqt59_1; unfold lensP; (try simp at h); omega
    refine wp_region_lit ?_
    refine sqv hf (r_assign rfl) rfl rfl rfl ?_; clear hf fa; intro fa hf
    apply wpList_nil
    (try simp only [Exit.then, Exit.inBlock, ↓reduceIte, Nat.reduceEqDiff])
    refine hK6 _ _ ?_
    refine wp_block ?_
    refine wp_loop_k (fun mq fa wr => ∃ (k : Nat), mq = m.2.2.2.2.2.2.2.2.2.1.len - k ∧ Fr 163 fa [(1, (.pointer (some ⟨b1, 0, none⟩))), (3, (.int .i64 ((k : Nat) : Int)))] ∧ Below w.heap.size w wr ∧ wr.heap[b1]? = some (.cells #[(.slice m.1.at' m.1.len m.1.cap), (.slice m.2.1.at' m.2.1.len m.2.1.cap), (.slice m.2.2.1.at' m.2.2.1.len m.2.2.1.cap), (.slice m.2.2.2.1.at' m.2.2.2.1.len m.2.2.2.1.cap), (.slice m.2.2.2.2.1.at' m.2.2.2.2.1.len m.2.2.2.2.1.cap), (.slice m.2.2.2.2.2.1.at' m.2.2.2.2.2.1.len m.2.2.2.2.2.1.cap), (.slice m.2.2.2.2.2.2.1.at' m.2.2.2.2.2.2.1.len m.2.2.2.2.2.2.1.cap), (.int .i64 m.2.2.2.2.2.2.2.1), (.slice m.2.2.2.2.2.2.2.2.1.at' m.2.2.2.2.2.2.2.2.1.len m.2.2.2.2.2.2.2.2.1.cap), (.slice m.2.2.2.2.2.2.2.2.2.1.at' m.2.2.2.2.2.2.2.2.2.1.len m.2.2.2.2.2.2.2.2.2.1.cap), (.slice m.2.2.2.2.2.2.2.2.2.2.1.at' m.2.2.2.2.2.2.2.2.2.2.1.len m.2.2.2.2.2.2.2.2.2.2.1.cap), (.bool m.2.2.2.2.2.2.2.2.2.2.2.1.1), (.int .u32 m.2.2.2.2.2.2.2.2.2.2.2.1.2.1), (.int .u32 m.2.2.2.2.2.2.2.2.2.2.2.1.2.2.1), (.int .u32 m.2.2.2.2.2.2.2.2.2.2.2.1.2.2.2.1), (.int .u32 m.2.2.2.2.2.2.2.2.2.2.2.1.2.2.2.2.1), (.slice m.2.2.2.2.2.2.2.2.2.2.2.1.2.2.2.2.2.1.at' m.2.2.2.2.2.2.2.2.2.2.2.1.2.2.2.2.2.1.len m.2.2.2.2.2.2.2.2.2.2.2.1.2.2.2.2.2.1.cap)] 36 (0, 0)) ∧ (k ≤ m.2.2.2.2.2.2.2.2.2.1.len) ∧ (m.2.2.2.2.2.2.2.2.2.1.list.all qC = (m.2.2.2.2.2.2.2.2.2.1.list.drop k).all qC) ∧ (lensP m)) ?_ ?_
    · skip
      exact ⟨_, 0, rfl, hf.sub ⟨rfl, (some_int (by first | rfl | omega)), trivial⟩, hb, hk1, by omega, rfl, hsm⟩
    · skip
      clear hf fa; intro mq1 fa w2 hI KL1 hKL1
      clear hb
      clear hk1
      obtain ⟨k, hmq1, hf, hb, hkb1, hk, Hs, hsm⟩ := hI
      refine wp_seq_k (fun K7 hK7 => ?_)
      refine wp_seq_k (fun K8 hK8 => ?_)
      refine wp_region_lit ?_
      refine sqv hf (r_move rfl) rfl rfl rfl ?_; clear hf fa; intro fa hf
      refine sqv hf (r_fa rfl Try.underlying36 (f := 9) (q := 9) rfl (by kernel_rfl) rfl) rfl rfl rfl ?_; clear hf fa; intro fa hf
      refine sqv hf (r_load (v := (.slice m.2.2.2.2.2.2.2.2.2.1.at' m.2.2.2.2.2.2.2.2.2.1.len m.2.2.2.2.2.2.2.2.2.1.cap)) rfl Try.underlying29 rfl (cell_blk hkb1 rfl)) rfl rfl rfl ?_; clear hf fa; intro fa hf
      refine sqv hf (r_lensl rfl Try.underlying29) rfl rfl rfl ?_; clear hf fa; intro fa hf
      refine sqv hf (r_lt rfl rfl) rfl rfl rfl ?_; clear hf fa; intro fa hf
      apply wpList_nil
      (try simp only [Exit.then, Exit.inBlock, ↓reduceIte, Nat.reduceEqDiff])
      refine hK8 _ _ ?_
      refine wp_cond_split (t := (decide (((k : Nat) : Int) < ((m.2.2.2.2.2.2.2.2.2.1.len : Nat) : Int)))) (hf.ev rfl) (fun hqt64_1 => ?_) (fun hqt64_1 => ?_)
      · have hqt64_1b := hqt64_1
        try simp only [decide_eq_true_eq, Bool.and_eq_true, Bool.or_eq_true, Bool.not_eq_true', decide_eq_false_iff_not, ne_eq, Bool.not_eq_true] at hqt64_1
        refine wp_skip ?_
        (try simp only [Exit.then, Exit.inBlock, ↓reduceIte, Nat.reduceEqDiff])
        refine hK7 _ _ ?_
        refine wp_seq_k (fun K9 hK9 => ?_)
        refine wp_block ?_
        refine wp_seq_k (fun K10 hK10 => ?_)
        refine wp_region_lit ?_
        refine sqv hf (r_fa rfl Try.underlying36 (f := 9) (q := 9) rfl (by kernel_rfl) rfl) rfl rfl rfl ?_; clear hf fa; intro fa hf
        refine sqv hf (r_load (v := (.slice m.2.2.2.2.2.2.2.2.2.1.at' m.2.2.2.2.2.2.2.2.2.1.len m.2.2.2.2.2.2.2.2.2.1.cap)) rfl Try.underlying29 rfl (cell_blk hkb1 rfl)) rfl rfl rfl ?_; clear hf fa; intro fa hf
        refine sqv hf (r_move rfl) rfl rfl rfl ?_; clear hf fa; intro fa hf
        obtain ⟨y1, hy1⟩ : ∃ x, (m.2.2.2.2.2.2.2.2.2.1.list)[k]? = some x := ⟨_, List.getElem?_eq_getElem (by (try simp only [Sl.list_length]); omega)⟩
        obtain ⟨ab1, aoff1, hat1, hlb1, hel1⟩ := RdS.at (RdS.of_arg g.2.2.2.2.2.2.2.2.2.1.2) hy1
        refine sqv hf (r_ixa (sz := 2) (j := k) (evAt rfl hat1) rfl Try.underlying29 (by kernel_rfl) rfl (by omega) rfl) rfl rfl rfl ?_; clear hf fa; intro fa hf
        refine sqv hf (r_fa rfl Try.underlying82 (f := 1) (q := ((aoff1 + k * 2) + 1)) rfl (by kernel_rfl) rfl) rfl rfl rfl ?_; clear hf fa; intro fa hf
        refine sqv hf (r_load (v := (.slice y1.2.1.at' y1.2.1.len y1.2.1.cap)) rfl Try.underlying80 rfl (cellsAt_cell (cellsAt_below hel1 hb hlb1) (i := 1) rfl rfl)) rfl rfl rfl ?_; clear hf fa; intro fa hf
        refine sqv hf (r_lensl rfl Try.underlying80) rfl rfl rfl ?_; clear hf fa; intro fa hf
        refine sqv hf (r_gt rfl rfl) rfl rfl rfl ?_; clear hf fa; intro fa hf
        refine sqv hf (r_move rfl) rfl rfl rfl ?_; clear hf fa; intro fa hf
        refine sqgF (act := (!(decide ((100 : Int) < ((y1.2.1.len : Nat) : Int))))) (ag := true) (c := (decide ((100 : Int) < ((y1.2.1.len : Nat) : Int)))) (v := (.pointer (some ⟨b1, 9, none⟩))) hf rfl rfl rfl (fun hact => (r_fa rfl Try.underlying36 (f := 9) (q := 9) rfl (by kernel_rfl) rfl)) rfl rfl ?_; clear hf fa; intro fa hf
        refine sqgF (act := (!(decide ((100 : Int) < ((y1.2.1.len : Nat) : Int))))) (ag := true) (c := (decide ((100 : Int) < ((y1.2.1.len : Nat) : Int)))) (v := (.slice m.2.2.2.2.2.2.2.2.2.1.at' m.2.2.2.2.2.2.2.2.2.1.len m.2.2.2.2.2.2.2.2.2.1.cap)) hf rfl rfl rfl (fun hact => (r_load (v := (.slice m.2.2.2.2.2.2.2.2.2.1.at' m.2.2.2.2.2.2.2.2.2.1.len m.2.2.2.2.2.2.2.2.2.1.cap)) (gb_ev hact rfl) Try.underlying29 rfl (cell_blk hkb1 rfl))) rfl rfl ?_; clear hf fa; intro fa hf
        refine sqgF (act := (!(decide ((100 : Int) < ((y1.2.1.len : Nat) : Int))))) (ag := true) (c := (decide ((100 : Int) < ((y1.2.1.len : Nat) : Int)))) (v := (.int .i64 ((k : Nat) : Int))) hf rfl rfl rfl (fun hact => (r_move rfl)) rfl rfl ?_; clear hf fa; intro fa hf
        refine sqgF (act := (!(decide ((100 : Int) < ((y1.2.1.len : Nat) : Int))))) (ag := true) (c := (decide ((100 : Int) < ((y1.2.1.len : Nat) : Int)))) (v := (.pointer (some ⟨ab1, (aoff1 + k * 2), none⟩))) hf rfl rfl rfl (fun hact => (by have hact0 := hact; (try simp only [Bool.and_eq_true, Bool.not_eq_true', Bool.or_eq_false_iff, Bool.or_eq_true, Bool.and_eq_false_iff, ne_eq, decide_eq_true_eq, decide_eq_false_iff_not] at hact0); exact (r_ixa (sz := 2) (j := k) (evAt (gb_ev hact rfl) hat1) (gb_ev hact rfl) Try.underlying29 (by kernel_rfl) rfl (by omega) rfl))) rfl rfl ?_; clear hf fa; intro fa hf
        refine sqgF (act := (!(decide ((100 : Int) < ((y1.2.1.len : Nat) : Int))))) (ag := true) (c := (decide ((100 : Int) < ((y1.2.1.len : Nat) : Int)))) (v := (.pointer (some ⟨ab1, (aoff1 + k * 2), none⟩))) hf rfl rfl rfl (fun hact => (r_fa (gb_ev hact rfl) Try.underlying82 (f := 0) (q := (aoff1 + k * 2)) rfl (by kernel_rfl) rfl)) rfl rfl ?_; clear hf fa; intro fa hf
        refine sqgF (act := (!(decide ((100 : Int) < ((y1.2.1.len : Nat) : Int))))) (ag := true) (c := (decide ((100 : Int) < ((y1.2.1.len : Nat) : Int)))) (v := (.slice y1.1.at' y1.1.len y1.1.cap)) hf rfl rfl rfl (fun hact => (r_load (v := (.slice y1.1.at' y1.1.len y1.1.cap)) (gb_ev hact rfl) Try.underlying79 rfl (cellsAt_cell (cellsAt_below hel1 hb hlb1) (i := 0) rfl rfl))) rfl rfl ?_; clear hf fa; intro fa hf
        refine sqgF (act := (!(decide ((100 : Int) < ((y1.2.1.len : Nat) : Int))))) (ag := true) (c := (decide ((100 : Int) < ((y1.2.1.len : Nat) : Int)))) (v := (.int .i64 ((y1.1.len : Nat) : Int))) hf rfl rfl rfl (fun hact => (r_lensl (gb_ev hact rfl) Try.underlying79)) rfl rfl ?_; clear hf fa; intro fa hf
        refine sqgF (act := (!(decide ((100 : Int) < ((y1.2.1.len : Nat) : Int))))) (ag := true) (c := (decide ((100 : Int) < ((y1.2.1.len : Nat) : Int)))) (v := (.bool (decide ((20 : Int) < ((y1.1.len : Nat) : Int))))) hf rfl rfl rfl (fun hact => (r_gt (gb_ev hact rfl) rfl)) rfl rfl ?_; clear hf fa; intro fa hf
        refine sqv hf (r_pickO (b := (decide ((100 : Int) < ((y1.2.1.len : Nat) : Int)))) (e := (decide ((20 : Int) < ((y1.1.len : Nat) : Int)))) rfl rfl rfl) rfl rfl rfl ?_; clear hf fa; intro fa hf
        refine sqv hf (r_move rfl) rfl rfl rfl ?_; clear hf fa; intro fa hf
        refine sqgF (act := (!((decide ((100 : Int) < ((y1.2.1.len : Nat) : Int))) || (decide ((20 : Int) < ((y1.1.len : Nat) : Int)))))) (ag := true) (c := ((decide ((100 : Int) < ((y1.2.1.len : Nat) : Int))) || (decide ((20 : Int) < ((y1.1.len : Nat) : Int))))) (v := (.pointer (some ⟨b1, 9, none⟩))) hf rfl rfl rfl (fun hact => (r_fa rfl Try.underlying36 (f := 9) (q := 9) rfl (by kernel_rfl) rfl)) rfl rfl ?_; clear hf fa; intro fa hf
        refine sqgF (act := (!((decide ((100 : Int) < ((y1.2.1.len : Nat) : Int))) || (decide ((20 : Int) < ((y1.1.len : Nat) : Int)))))) (ag := true) (c := ((decide ((100 : Int) < ((y1.2.1.len : Nat) : Int))) || (decide ((20 : Int) < ((y1.1.len : Nat) : Int))))) (v := (.slice m.2.2.2.2.2.2.2.2.2.1.at' m.2.2.2.2.2.2.2.2.2.1.len m.2.2.2.2.2.2.2.2.2.1.cap)) hf rfl rfl rfl (fun hact => (r_load (v := (.slice m.2.2.2.2.2.2.2.2.2.1.at' m.2.2.2.2.2.2.2.2.2.1.len m.2.2.2.2.2.2.2.2.2.1.cap)) (gb_ev hact rfl) Try.underlying29 rfl (cell_blk hkb1 rfl))) rfl rfl ?_; clear hf fa; intro fa hf
        refine sqgF (act := (!((decide ((100 : Int) < ((y1.2.1.len : Nat) : Int))) || (decide ((20 : Int) < ((y1.1.len : Nat) : Int)))))) (ag := true) (c := ((decide ((100 : Int) < ((y1.2.1.len : Nat) : Int))) || (decide ((20 : Int) < ((y1.1.len : Nat) : Int))))) (v := (.int .i64 ((k : Nat) : Int))) hf rfl rfl rfl (fun hact => (r_move rfl)) rfl rfl ?_; clear hf fa; intro fa hf
        refine sqgF (act := (!((decide ((100 : Int) < ((y1.2.1.len : Nat) : Int))) || (decide ((20 : Int) < ((y1.1.len : Nat) : Int)))))) (ag := true) (c := ((decide ((100 : Int) < ((y1.2.1.len : Nat) : Int))) || (decide ((20 : Int) < ((y1.1.len : Nat) : Int))))) (v := (.pointer (some ⟨ab1, (aoff1 + k * 2), none⟩))) hf rfl rfl rfl (fun hact => (by have hact0 := hact; (try simp only [Bool.and_eq_true, Bool.not_eq_true', Bool.or_eq_false_iff, Bool.or_eq_true, Bool.and_eq_false_iff, ne_eq, decide_eq_true_eq, decide_eq_false_iff_not] at hact0); exact (r_ixa (sz := 2) (j := k) (evAt (gb_ev hact rfl) hat1) (gb_ev hact rfl) Try.underlying29 (by kernel_rfl) rfl (by omega) rfl))) rfl rfl ?_; clear hf fa; intro fa hf
        refine sqgF (act := (!((decide ((100 : Int) < ((y1.2.1.len : Nat) : Int))) || (decide ((20 : Int) < ((y1.1.len : Nat) : Int)))))) (ag := true) (c := ((decide ((100 : Int) < ((y1.2.1.len : Nat) : Int))) || (decide ((20 : Int) < ((y1.1.len : Nat) : Int))))) (v := (.agg #[(.slice y1.1.at' y1.1.len y1.1.cap), (.slice y1.2.1.at' y1.2.1.len y1.2.1.cap)])) hf rfl rfl rfl (fun hact => (r_loadA (cs := [(.slice y1.1.at' y1.1.len y1.1.cap), (.slice y1.2.1.at' y1.2.1.len y1.2.1.cap)]) (gb_ev hact rfl) Try.underlying82 rfl (by kernel_rfl) (cellsAt_below hel1 hb hlb1))) rfl rfl ?_; clear hf fa; intro fa hf
        refine sqgd (R := fun vq wq => vq = gb (!((decide ((100 : Int) < ((y1.2.1.len : Nat) : Int))) || (decide ((20 : Int) < ((y1.1.len : Nat) : Int))))) (.bool (muchP y1)) ∧ Below w2.heap.size w2 wq) (act := (!((decide ((100 : Int) < ((y1.2.1.len : Nat) : Int))) || (decide ((20 : Int) < ((y1.1.len : Nat) : Int)))))) (g := 18) (want := false) (ag := true) (c := ((decide ((100 : Int) < ((y1.2.1.len : Nat) : Int))) || (decide ((20 : Int) < ((y1.1.len : Nat) : Int))))) hf (by rfl) (by rfl) (act_F _ _) (fun hact => (d_callB (vs := [(.agg #[(.slice y1.1.at' y1.1.len y1.1.cap), (.slice y1.2.1.at' y1.2.1.len y1.2.1.cap)])]) (cons_ev (gb_ev hact rfl) rfl) Try.func38 (by kernel_rfl) (by kernel_rfl) (much_any y1 _ (rdMCo.kept _ _ _ hb (fSl_el g.2.2.2.2.2.2.2.2.2.1.2 hy1)))).mono (fun _ _ h => ⟨by rw [h.1, hact]; rfl, h.2⟩)) (fun h => ⟨by rw [h]; rfl, Below.refl _ _⟩) rfl ?_; clear hf fa; rintro fa _ w3 ⟨rfl, he2⟩ hf
        replace hkb1 := blk_ext hkb1 he2
        replace hb := hb.trans (Below.mono he2 hb.size)
        change Fr _ _ ((91, (gb (!((decide ((100 : Int) < ((y1.2.1.len : Nat) : Int))) || (decide ((20 : Int) < ((y1.1.len : Nat) : Int))))) (.bool (muchP y1)))) :: _) at hf
        refine sqv hf (r_pickO (b := ((decide ((100 : Int) < ((y1.2.1.len : Nat) : Int))) || (decide ((20 : Int) < ((y1.1.len : Nat) : Int))))) (e := (muchP y1)) rfl rfl rfl) rfl rfl rfl ?_; clear hf fa; intro fa hf
        apply wpList_nil
        (try simp only [Exit.then, Exit.inBlock, ↓reduceIte, Nat.reduceEqDiff])
        refine hK10 _ _ ?_
        refine wp_cond_split (t := (((decide ((100 : Int) < ((y1.2.1.len : Nat) : Int))) || (decide ((20 : Int) < ((y1.1.len : Nat) : Int)))) || (muchP y1))) (hf.ev rfl) (fun hqt92_1 => ?_) (fun hqt92_1 => ?_)
        · have hqt92_1b := hqt92_1
          try simp only [decide_eq_true_eq, Bool.and_eq_true, Bool.or_eq_true, Bool.not_eq_true', decide_eq_false_iff_not, ne_eq, Bool.not_eq_true] at hqt92_1
          refine wp_seq_k (fun K11 hK11 => ?_)
          refine wp_region_lit ?_
          refine sqv hf (r_assign rfl) rfl rfl rfl ?_; clear hf fa; intro fa hf
          apply wpList_nil
          (try simp only [Exit.then, Exit.inBlock, ↓reduceIte, Nat.reduceEqDiff])
          refine hK11 _ _ ?_
          refine wp_ret ?_
          (try simp only [Exit.then, Exit.inBlock])
          refine ret1 hf rfl rfl ?_
          refine ⟨congrArg (fun b => Ending.returned (.bool b)) ?_, hb⟩; unfold smallP; rw [all_no Hs hy1 (by have h := hqt92_1; unfold qC; cases hmu : muchP y1 <;> simp [hmu] at h ⊢ <;> omega)]; simp
        · have hqt92_1b := hqt92_1
          replace hqt92_1 := Bool.eq_false_iff.1 hqt92_1
          try simp only [ne_eq, decide_eq_true_eq, Bool.and_eq_true, Bool.or_eq_true, Bool.not_eq_true', decide_eq_false_iff_not] at hqt92_1
          refine wp_skip ?_
          (try simp only [Exit.then, Exit.inBlock, ↓reduceIte, Nat.reduceEqDiff])
          refine hK9 _ _ ?_
          refine wp_region_lit ?_
          refine sqv hf (r_move rfl) rfl rfl rfl ?_; clear hf fa; intro fa hf
          refine sqv hf (r_add (C := (((k : Nat) : Int) + (1 : Int))) rfl rfl (by rw [IntKind.wrap_i64]; omega)) rfl rfl rfl ?_; clear hf fa; intro fa hf
          refine sqv hf (r_assign rfl) rfl rfl rfl ?_; clear hf fa; intro fa hf
          apply wpList_nil
          (try simp only [Exit.then, Exit.inBlock, ↓reduceIte, Nat.reduceEqDiff])
          refine hKL1 _ _ _ (by omega) ⟨(k + 1), rfl, hf.sub ⟨rfl, (some_int (by first | rfl | omega)), trivial⟩, hb, hkb1, by omega, (all_yes Hs hy1 (by have h := hqt92_1; unfold qC; cases hmu : muchP y1 <;> simp [hmu] at h ⊢ <;> omega)), hsm⟩
      · have hqt64_1b := hqt64_1
        replace hqt64_1 := Bool.eq_false_iff.1 hqt64_1
        try simp only [ne_eq, decide_eq_true_eq, Bool.and_eq_true, Bool.or_eq_true, Bool.not_eq_true', decide_eq_false_iff_not] at hqt64_1
        refine wp_exit ?_
        (try simp only [Exit.then, Exit.inBlock, ↓reduceIte, Nat.reduceEqDiff])
        refine hK5 _ _ ?_
        refine wp_seq_k (fun K12 hK12 => ?_)
        refine wp_seq_k (fun K13 hK13 => ?_)
        have hA0 : m.2.2.2.2.2.2.2.2.2.1.list.all qC = true := all_end Hs (by rw [Sl.list_length]; omega)
        refine wp_region_lit ?_
        refine sqv hf (r_assign rfl) rfl rfl rfl ?_; clear hf fa; intro fa hf
        apply wpList_nil
        (try simp only [Exit.then, Exit.inBlock, ↓reduceIte, Nat.reduceEqDiff])
        refine hK13 _ _ ?_
        refine wp_block ?_
        refine wp_loop_k (fun mq fa wr => ∃ (k : Nat), mq = m.2.2.2.2.2.2.2.2.1.len - k ∧ Fr 163 fa [(1, (.pointer (some ⟨b1, 0, none⟩))), (4, (.int .i64 ((k : Nat) : Int)))] ∧ Below w.heap.size w wr ∧ wr.heap[b1]? = some (.cells #[(.slice m.1.at' m.1.len m.1.cap), (.slice m.2.1.at' m.2.1.len m.2.1.cap), (.slice m.2.2.1.at' m.2.2.1.len m.2.2.1.cap), (.slice m.2.2.2.1.at' m.2.2.2.1.len m.2.2.2.1.cap), (.slice m.2.2.2.2.1.at' m.2.2.2.2.1.len m.2.2.2.2.1.cap), (.slice m.2.2.2.2.2.1.at' m.2.2.2.2.2.1.len m.2.2.2.2.2.1.cap), (.slice m.2.2.2.2.2.2.1.at' m.2.2.2.2.2.2.1.len m.2.2.2.2.2.2.1.cap), (.int .i64 m.2.2.2.2.2.2.2.1), (.slice m.2.2.2.2.2.2.2.2.1.at' m.2.2.2.2.2.2.2.2.1.len m.2.2.2.2.2.2.2.2.1.cap), (.slice m.2.2.2.2.2.2.2.2.2.1.at' m.2.2.2.2.2.2.2.2.2.1.len m.2.2.2.2.2.2.2.2.2.1.cap), (.slice m.2.2.2.2.2.2.2.2.2.2.1.at' m.2.2.2.2.2.2.2.2.2.2.1.len m.2.2.2.2.2.2.2.2.2.2.1.cap), (.bool m.2.2.2.2.2.2.2.2.2.2.2.1.1), (.int .u32 m.2.2.2.2.2.2.2.2.2.2.2.1.2.1), (.int .u32 m.2.2.2.2.2.2.2.2.2.2.2.1.2.2.1), (.int .u32 m.2.2.2.2.2.2.2.2.2.2.2.1.2.2.2.1), (.int .u32 m.2.2.2.2.2.2.2.2.2.2.2.1.2.2.2.2.1), (.slice m.2.2.2.2.2.2.2.2.2.2.2.1.2.2.2.2.2.1.at' m.2.2.2.2.2.2.2.2.2.2.2.1.2.2.2.2.2.1.len m.2.2.2.2.2.2.2.2.2.2.2.1.2.2.2.2.2.1.cap)] 36 (0, 0)) ∧ (k ≤ m.2.2.2.2.2.2.2.2.1.len) ∧ (m.2.2.2.2.2.2.2.2.1.list.all qE = (m.2.2.2.2.2.2.2.2.1.list.drop k).all qE) ∧ (lensP m) ∧ (m.2.2.2.2.2.2.2.2.2.1.list.all qC = true)) ?_ ?_
        · skip
          exact ⟨_, 0, rfl, hf.sub ⟨rfl, (some_int (by first | rfl | omega)), trivial⟩, hb, hkb1, by omega, rfl, hsm, hA0⟩
        · skip
          clear hf fa; intro mq2 fa w4 hI KL2 hKL2
          clear hb
          clear hkb1
          obtain ⟨k, hmq2, hf, hb, hkb1, hk, Hs, hsm, hA0⟩ := hI
          refine wp_seq_k (fun K14 hK14 => ?_)
          refine wp_seq_k (fun K15 hK15 => ?_)
          refine wp_region_lit ?_
          refine sqv hf (r_move rfl) rfl rfl rfl ?_; clear hf fa; intro fa hf
          refine sqv hf (r_fa rfl Try.underlying36 (f := 8) (q := 8) rfl (by kernel_rfl) rfl) rfl rfl rfl ?_; clear hf fa; intro fa hf
          refine sqv hf (r_load (v := (.slice m.2.2.2.2.2.2.2.2.1.at' m.2.2.2.2.2.2.2.2.1.len m.2.2.2.2.2.2.2.2.1.cap)) rfl Try.underlying28 rfl (cell_blk hkb1 rfl)) rfl rfl rfl ?_; clear hf fa; intro fa hf
          refine sqv hf (r_lensl rfl Try.underlying28) rfl rfl rfl ?_; clear hf fa; intro fa hf
          refine sqv hf (r_lt rfl rfl) rfl rfl rfl ?_; clear hf fa; intro fa hf
          apply wpList_nil
          (try simp only [Exit.then, Exit.inBlock, ↓reduceIte, Nat.reduceEqDiff])
          refine hK15 _ _ ?_
          refine wp_cond_split (t := (decide (((k : Nat) : Int) < ((m.2.2.2.2.2.2.2.2.1.len : Nat) : Int)))) (hf.ev rfl) (fun hqt97_1 => ?_) (fun hqt97_1 => ?_)
          · have hqt97_1b := hqt97_1
            try simp only [decide_eq_true_eq, Bool.and_eq_true, Bool.or_eq_true, Bool.not_eq_true', decide_eq_false_iff_not, ne_eq, Bool.not_eq_true] at hqt97_1
            refine wp_skip ?_
            (try simp only [Exit.then, Exit.inBlock, ↓reduceIte, Nat.reduceEqDiff])
            refine hK14 _ _ ?_
            refine wp_seq_k (fun K16 hK16 => ?_)
            refine wp_block ?_
            refine wp_seq_k (fun K17 hK17 => ?_)
            refine wp_region_lit ?_
            refine sqv hf (r_fa rfl Try.underlying36 (f := 8) (q := 8) rfl (by kernel_rfl) rfl) rfl rfl rfl ?_; clear hf fa; intro fa hf
            refine sqv hf (r_load (v := (.slice m.2.2.2.2.2.2.2.2.1.at' m.2.2.2.2.2.2.2.2.1.len m.2.2.2.2.2.2.2.2.1.cap)) rfl Try.underlying28 rfl (cell_blk hkb1 rfl)) rfl rfl rfl ?_; clear hf fa; intro fa hf
            refine sqv hf (r_move rfl) rfl rfl rfl ?_; clear hf fa; intro fa hf
            obtain ⟨y2, hy2⟩ : ∃ x, (m.2.2.2.2.2.2.2.2.1.list)[k]? = some x := ⟨_, List.getElem?_eq_getElem (by (try simp only [Sl.list_length]); omega)⟩
            obtain ⟨ab2, aoff2, hat2, hlb2, hel2⟩ := RdS.at (RdS.of_arg g.2.2.2.2.2.2.2.2.1.2) hy2
            refine sqv hf (r_ixa (sz := 5) (j := k) (evAt rfl hat2) rfl Try.underlying28 (by kernel_rfl) rfl (by omega) rfl) rfl rfl rfl ?_; clear hf fa; intro fa hf
            refine sqv hf (r_fa rfl Try.underlying85 (f := 1) (q := ((aoff2 + k * 5) + 4)) rfl (by kernel_rfl) rfl) rfl rfl rfl ?_; clear hf fa; intro fa hf
            refine sqv hf (r_load (v := (.slice y2.2.1.at' y2.2.1.len y2.2.1.cap)) rfl Try.underlying24 rfl (cellsAt_cell (cellsAt_below hel2 hb hlb2) (i := 4) rfl rfl)) rfl rfl rfl ?_; clear hf fa; intro fa hf
            refine sqv hf (r_lensl rfl Try.underlying24) rfl rfl rfl ?_; clear hf fa; intro fa hf
            refine sqv hf (r_gt rfl rfl) rfl rfl rfl ?_; clear hf fa; intro fa hf
            refine sqv hf (r_move rfl) rfl rfl rfl ?_; clear hf fa; intro fa hf
            refine sqgF (act := (!(decide ((50 : Int) < ((y2.2.1.len : Nat) : Int))))) (ag := true) (c := (decide ((50 : Int) < ((y2.2.1.len : Nat) : Int)))) (v := (.pointer (some ⟨b1, 8, none⟩))) hf rfl rfl rfl (fun hact => (r_fa rfl Try.underlying36 (f := 8) (q := 8) rfl (by kernel_rfl) rfl)) rfl rfl ?_; clear hf fa; intro fa hf
            refine sqgF (act := (!(decide ((50 : Int) < ((y2.2.1.len : Nat) : Int))))) (ag := true) (c := (decide ((50 : Int) < ((y2.2.1.len : Nat) : Int)))) (v := (.slice m.2.2.2.2.2.2.2.2.1.at' m.2.2.2.2.2.2.2.2.1.len m.2.2.2.2.2.2.2.2.1.cap)) hf rfl rfl rfl (fun hact => (r_load (v := (.slice m.2.2.2.2.2.2.2.2.1.at' m.2.2.2.2.2.2.2.2.1.len m.2.2.2.2.2.2.2.2.1.cap)) (gb_ev hact rfl) Try.underlying28 rfl (cell_blk hkb1 rfl))) rfl rfl ?_; clear hf fa; intro fa hf
            refine sqgF (act := (!(decide ((50 : Int) < ((y2.2.1.len : Nat) : Int))))) (ag := true) (c := (decide ((50 : Int) < ((y2.2.1.len : Nat) : Int)))) (v := (.int .i64 ((k : Nat) : Int))) hf rfl rfl rfl (fun hact => (r_move rfl)) rfl rfl ?_; clear hf fa; intro fa hf
            refine sqgF (act := (!(decide ((50 : Int) < ((y2.2.1.len : Nat) : Int))))) (ag := true) (c := (decide ((50 : Int) < ((y2.2.1.len : Nat) : Int)))) (v := (.pointer (some ⟨ab2, (aoff2 + k * 5), none⟩))) hf rfl rfl rfl (fun hact => (by have hact0 := hact; (try simp only [Bool.and_eq_true, Bool.not_eq_true', Bool.or_eq_false_iff, Bool.or_eq_true, Bool.and_eq_false_iff, ne_eq, decide_eq_true_eq, decide_eq_false_iff_not] at hact0); exact (r_ixa (sz := 5) (j := k) (evAt (gb_ev hact rfl) hat2) (gb_ev hact rfl) Try.underlying28 (by kernel_rfl) rfl (by omega) rfl))) rfl rfl ?_; clear hf fa; intro fa hf
            refine sqgF (act := (!(decide ((50 : Int) < ((y2.2.1.len : Nat) : Int))))) (ag := true) (c := (decide ((50 : Int) < ((y2.2.1.len : Nat) : Int)))) (v := (.pointer (some ⟨ab2, (aoff2 + k * 5), none⟩))) hf rfl rfl rfl (fun hact => (r_fa (gb_ev hact rfl) Try.underlying85 (f := 0) (q := (aoff2 + k * 5)) rfl (by kernel_rfl) rfl)) rfl rfl ?_; clear hf fa; intro fa hf
            refine sqgF (act := (!(decide ((50 : Int) < ((y2.2.1.len : Nat) : Int))))) (ag := true) (c := (decide ((50 : Int) < ((y2.2.1.len : Nat) : Int)))) (v := (.pointer (some ⟨ab2, ((aoff2 + k * 5) + 3), none⟩))) hf rfl rfl rfl (fun hact => (r_fa (gb_ev hact rfl) Try.underlying78 (f := 3) (q := ((aoff2 + k * 5) + 3)) rfl (by kernel_rfl) rfl)) rfl rfl ?_; clear hf fa; intro fa hf
            refine sqgF (act := (!(decide ((50 : Int) < ((y2.2.1.len : Nat) : Int))))) (ag := true) (c := (decide ((50 : Int) < ((y2.2.1.len : Nat) : Int)))) (v := (.slice y2.1.2.2.2.1.at' y2.1.2.2.2.1.len y2.1.2.2.2.1.cap)) hf rfl rfl rfl (fun hact => (r_load (v := (.slice y2.1.2.2.2.1.at' y2.1.2.2.2.1.len y2.1.2.2.2.1.cap)) (gb_ev hact rfl) Try.underlying24 rfl (cellsAt_cell (cellsAt_below hel2 hb hlb2) (i := 3) rfl rfl))) rfl rfl ?_; clear hf fa; intro fa hf
            refine sqgF (act := (!(decide ((50 : Int) < ((y2.2.1.len : Nat) : Int))))) (ag := true) (c := (decide ((50 : Int) < ((y2.2.1.len : Nat) : Int)))) (v := (.int .i64 ((y2.1.2.2.2.1.len : Nat) : Int))) hf rfl rfl rfl (fun hact => (r_lensl (gb_ev hact rfl) Try.underlying24)) rfl rfl ?_; clear hf fa; intro fa hf
            refine sqgF (act := (!(decide ((50 : Int) < ((y2.2.1.len : Nat) : Int))))) (ag := true) (c := (decide ((50 : Int) < ((y2.2.1.len : Nat) : Int)))) (v := (.bool (decide ((50 : Int) < ((y2.1.2.2.2.1.len : Nat) : Int))))) hf rfl rfl rfl (fun hact => (r_gt (gb_ev hact rfl) rfl)) rfl rfl ?_; clear hf fa; intro fa hf
            refine sqv hf (r_pickO (b := (decide ((50 : Int) < ((y2.2.1.len : Nat) : Int)))) (e := (decide ((50 : Int) < ((y2.1.2.2.2.1.len : Nat) : Int)))) rfl rfl rfl) rfl rfl rfl ?_; clear hf fa; intro fa hf
            apply wpList_nil
            (try simp only [Exit.then, Exit.inBlock, ↓reduceIte, Nat.reduceEqDiff])
            refine hK17 _ _ ?_
            refine wp_cond_split (t := ((decide ((50 : Int) < ((y2.2.1.len : Nat) : Int))) || (decide ((50 : Int) < ((y2.1.2.2.2.1.len : Nat) : Int))))) (hf.ev rfl) (fun hqt118_1 => ?_) (fun hqt118_1 => ?_)
            · have hqt118_1b := hqt118_1
              try simp only [decide_eq_true_eq, Bool.and_eq_true, Bool.or_eq_true, Bool.not_eq_true', decide_eq_false_iff_not, ne_eq, Bool.not_eq_true] at hqt118_1
              refine wp_seq_k (fun K18 hK18 => ?_)
              refine wp_region_lit ?_
              refine sqv hf (r_assign rfl) rfl rfl rfl ?_; clear hf fa; intro fa hf
              apply wpList_nil
              (try simp only [Exit.then, Exit.inBlock, ↓reduceIte, Nat.reduceEqDiff])
              refine hK18 _ _ ?_
              refine wp_ret ?_
              (try simp only [Exit.then, Exit.inBlock])
              refine ret1 hf rfl rfl ?_
              refine ⟨congrArg (fun b => Ending.returned (.bool b)) ?_, hb⟩; unfold smallP; rw [all_no Hs hy2 (by have h := hqt118_1; unfold qE; simp at h ⊢; omega)]; simp
            · have hqt118_1b := hqt118_1
              replace hqt118_1 := Bool.eq_false_iff.1 hqt118_1
              try simp only [ne_eq, decide_eq_true_eq, Bool.and_eq_true, Bool.or_eq_true, Bool.not_eq_true', decide_eq_false_iff_not] at hqt118_1
              refine wp_skip ?_
              (try simp only [Exit.then, Exit.inBlock, ↓reduceIte, Nat.reduceEqDiff])
              refine hK16 _ _ ?_
              refine wp_region_lit ?_
              refine sqv hf (r_move rfl) rfl rfl rfl ?_; clear hf fa; intro fa hf
              refine sqv hf (r_add (C := (((k : Nat) : Int) + (1 : Int))) rfl rfl (by rw [IntKind.wrap_i64]; omega)) rfl rfl rfl ?_; clear hf fa; intro fa hf
              refine sqv hf (r_assign rfl) rfl rfl rfl ?_; clear hf fa; intro fa hf
              apply wpList_nil
              (try simp only [Exit.then, Exit.inBlock, ↓reduceIte, Nat.reduceEqDiff])
              refine hKL2 _ _ _ (by omega) ⟨(k + 1), rfl, hf.sub ⟨rfl, (some_int (by first | rfl | omega)), trivial⟩, hb, hkb1, by omega, (all_yes Hs hy2 (by have h := hqt118_1; unfold qE; simp at h ⊢; omega)), hsm, hA0⟩
          · have hqt97_1b := hqt97_1
            replace hqt97_1 := Bool.eq_false_iff.1 hqt97_1
            try simp only [ne_eq, decide_eq_true_eq, Bool.and_eq_true, Bool.or_eq_true, Bool.not_eq_true', decide_eq_false_iff_not] at hqt97_1
            refine wp_exit ?_
            (try simp only [Exit.then, Exit.inBlock, ↓reduceIte, Nat.reduceEqDiff])
            refine hK12 _ _ ?_
            refine wp_seq_k (fun K19 hK19 => ?_)
            refine wp_seq_k (fun K20 hK20 => ?_)
            have hA1 : m.2.2.2.2.2.2.2.2.1.list.all qE = true := all_end Hs (by rw [Sl.list_length]; omega)
            refine wp_region_lit ?_
            refine sqv hf (r_assign rfl) rfl rfl rfl ?_; clear hf fa; intro fa hf
            apply wpList_nil
            (try simp only [Exit.then, Exit.inBlock, ↓reduceIte, Nat.reduceEqDiff])
            refine hK20 _ _ ?_
            refine wp_block ?_
            refine wp_loop_k (fun mq fa wr => ∃ (k : Nat), mq = m.2.2.2.2.2.2.2.2.2.2.1.len - k ∧ Fr 163 fa [(1, (.pointer (some ⟨b1, 0, none⟩))), (5, (.int .i64 ((k : Nat) : Int)))] ∧ Below w.heap.size w wr ∧ wr.heap[b1]? = some (.cells #[(.slice m.1.at' m.1.len m.1.cap), (.slice m.2.1.at' m.2.1.len m.2.1.cap), (.slice m.2.2.1.at' m.2.2.1.len m.2.2.1.cap), (.slice m.2.2.2.1.at' m.2.2.2.1.len m.2.2.2.1.cap), (.slice m.2.2.2.2.1.at' m.2.2.2.2.1.len m.2.2.2.2.1.cap), (.slice m.2.2.2.2.2.1.at' m.2.2.2.2.2.1.len m.2.2.2.2.2.1.cap), (.slice m.2.2.2.2.2.2.1.at' m.2.2.2.2.2.2.1.len m.2.2.2.2.2.2.1.cap), (.int .i64 m.2.2.2.2.2.2.2.1), (.slice m.2.2.2.2.2.2.2.2.1.at' m.2.2.2.2.2.2.2.2.1.len m.2.2.2.2.2.2.2.2.1.cap), (.slice m.2.2.2.2.2.2.2.2.2.1.at' m.2.2.2.2.2.2.2.2.2.1.len m.2.2.2.2.2.2.2.2.2.1.cap), (.slice m.2.2.2.2.2.2.2.2.2.2.1.at' m.2.2.2.2.2.2.2.2.2.2.1.len m.2.2.2.2.2.2.2.2.2.2.1.cap), (.bool m.2.2.2.2.2.2.2.2.2.2.2.1.1), (.int .u32 m.2.2.2.2.2.2.2.2.2.2.2.1.2.1), (.int .u32 m.2.2.2.2.2.2.2.2.2.2.2.1.2.2.1), (.int .u32 m.2.2.2.2.2.2.2.2.2.2.2.1.2.2.2.1), (.int .u32 m.2.2.2.2.2.2.2.2.2.2.2.1.2.2.2.2.1), (.slice m.2.2.2.2.2.2.2.2.2.2.2.1.2.2.2.2.2.1.at' m.2.2.2.2.2.2.2.2.2.2.2.1.2.2.2.2.2.1.len m.2.2.2.2.2.2.2.2.2.2.2.1.2.2.2.2.2.1.cap)] 36 (0, 0)) ∧ (k ≤ m.2.2.2.2.2.2.2.2.2.2.1.len) ∧ (m.2.2.2.2.2.2.2.2.2.2.1.list.all qD = (m.2.2.2.2.2.2.2.2.2.2.1.list.drop k).all qD) ∧ (lensP m) ∧ (m.2.2.2.2.2.2.2.2.2.1.list.all qC = true) ∧ (m.2.2.2.2.2.2.2.2.1.list.all qE = true)) ?_ ?_
            · skip
              exact ⟨_, 0, rfl, hf.sub ⟨rfl, (some_int (by first | rfl | omega)), trivial⟩, hb, hkb1, by omega, rfl, hsm, hA0, hA1⟩
            · skip
              clear hf fa; intro mq3 fa w5 hI KL3 hKL3
              clear hb
              clear hkb1
              obtain ⟨k, hmq3, hf, hb, hkb1, hk, Hs, hsm, hA0, hA1⟩ := hI
              refine wp_seq_k (fun K21 hK21 => ?_)
              refine wp_seq_k (fun K22 hK22 => ?_)
              refine wp_region_lit ?_
              refine sqv hf (r_move rfl) rfl rfl rfl ?_; clear hf fa; intro fa hf
              refine sqv hf (r_fa rfl Try.underlying36 (f := 10) (q := 10) rfl (by kernel_rfl) rfl) rfl rfl rfl ?_; clear hf fa; intro fa hf
              refine sqv hf (r_load (v := (.slice m.2.2.2.2.2.2.2.2.2.2.1.at' m.2.2.2.2.2.2.2.2.2.2.1.len m.2.2.2.2.2.2.2.2.2.2.1.cap)) rfl Try.underlying30 rfl (cell_blk hkb1 rfl)) rfl rfl rfl ?_; clear hf fa; intro fa hf
              refine sqv hf (r_lensl rfl Try.underlying30) rfl rfl rfl ?_; clear hf fa; intro fa hf
              refine sqv hf (r_lt rfl rfl) rfl rfl rfl ?_; clear hf fa; intro fa hf
              apply wpList_nil
              (try simp only [Exit.then, Exit.inBlock, ↓reduceIte, Nat.reduceEqDiff])
              refine hK22 _ _ ?_
              refine wp_cond_split (t := (decide (((k : Nat) : Int) < ((m.2.2.2.2.2.2.2.2.2.2.1.len : Nat) : Int)))) (hf.ev rfl) (fun hqt123_1 => ?_) (fun hqt123_1 => ?_)
              · have hqt123_1b := hqt123_1
                try simp only [decide_eq_true_eq, Bool.and_eq_true, Bool.or_eq_true, Bool.not_eq_true', decide_eq_false_iff_not, ne_eq, Bool.not_eq_true] at hqt123_1
                refine wp_skip ?_
                (try simp only [Exit.then, Exit.inBlock, ↓reduceIte, Nat.reduceEqDiff])
                refine hK21 _ _ ?_
                refine wp_seq_k (fun K23 hK23 => ?_)
                refine wp_block ?_
                refine wp_seq_k (fun K24 hK24 => ?_)
                refine wp_region_lit ?_
                refine sqv hf (r_fa rfl Try.underlying36 (f := 10) (q := 10) rfl (by kernel_rfl) rfl) rfl rfl rfl ?_; clear hf fa; intro fa hf
                refine sqv hf (r_load (v := (.slice m.2.2.2.2.2.2.2.2.2.2.1.at' m.2.2.2.2.2.2.2.2.2.2.1.len m.2.2.2.2.2.2.2.2.2.2.1.cap)) rfl Try.underlying30 rfl (cell_blk hkb1 rfl)) rfl rfl rfl ?_; clear hf fa; intro fa hf
                refine sqv hf (r_move rfl) rfl rfl rfl ?_; clear hf fa; intro fa hf
                obtain ⟨y3, hy3⟩ : ∃ x, (m.2.2.2.2.2.2.2.2.2.2.1.list)[k]? = some x := ⟨_, List.getElem?_eq_getElem (by (try simp only [Sl.list_length]); omega)⟩
                obtain ⟨ab3, aoff3, hat3, hlb3, hel3⟩ := RdS.at (RdS.of_arg g.2.2.2.2.2.2.2.2.2.2.1.2) hy3
                refine sqv hf (r_ixa (sz := 5) (j := k) (evAt rfl hat3) rfl Try.underlying30 (by kernel_rfl) rfl (by omega) rfl) rfl rfl rfl ?_; clear hf fa; intro fa hf
                refine sqv hf (r_fa rfl Try.underlying87 (f := 1) (q := ((aoff3 + k * 5) + 4)) rfl (by kernel_rfl) rfl) rfl rfl rfl ?_; clear hf fa; intro fa hf
                refine sqv hf (r_load (v := (.string y3.2.1)) rfl Try.underlying9 rfl (cellsAt_cell (cellsAt_below hel3 hb hlb3) (i := 4) rfl rfl)) rfl rfl rfl ?_; clear hf fa; intro fa hf
                refine sqv hf (r_lens rfl Try.underlying9) rfl rfl rfl ?_; clear hf fa; intro fa hf
                refine sqv hf (r_gt rfl rfl) rfl rfl rfl ?_; clear hf fa; intro fa hf
                refine sqv hf (r_move rfl) rfl rfl rfl ?_; clear hf fa; intro fa hf
                refine sqgF (act := (!(decide ((300 : Int) < ((y3.2.1.size : Nat) : Int))))) (ag := true) (c := (decide ((300 : Int) < ((y3.2.1.size : Nat) : Int)))) (v := (.pointer (some ⟨b1, 10, none⟩))) hf rfl rfl rfl (fun hact => (r_fa rfl Try.underlying36 (f := 10) (q := 10) rfl (by kernel_rfl) rfl)) rfl rfl ?_; clear hf fa; intro fa hf
                refine sqgF (act := (!(decide ((300 : Int) < ((y3.2.1.size : Nat) : Int))))) (ag := true) (c := (decide ((300 : Int) < ((y3.2.1.size : Nat) : Int)))) (v := (.slice m.2.2.2.2.2.2.2.2.2.2.1.at' m.2.2.2.2.2.2.2.2.2.2.1.len m.2.2.2.2.2.2.2.2.2.2.1.cap)) hf rfl rfl rfl (fun hact => (r_load (v := (.slice m.2.2.2.2.2.2.2.2.2.2.1.at' m.2.2.2.2.2.2.2.2.2.2.1.len m.2.2.2.2.2.2.2.2.2.2.1.cap)) (gb_ev hact rfl) Try.underlying30 rfl (cell_blk hkb1 rfl))) rfl rfl ?_; clear hf fa; intro fa hf
                refine sqgF (act := (!(decide ((300 : Int) < ((y3.2.1.size : Nat) : Int))))) (ag := true) (c := (decide ((300 : Int) < ((y3.2.1.size : Nat) : Int)))) (v := (.int .i64 ((k : Nat) : Int))) hf rfl rfl rfl (fun hact => (r_move rfl)) rfl rfl ?_; clear hf fa; intro fa hf
                refine sqgF (act := (!(decide ((300 : Int) < ((y3.2.1.size : Nat) : Int))))) (ag := true) (c := (decide ((300 : Int) < ((y3.2.1.size : Nat) : Int)))) (v := (.pointer (some ⟨ab3, (aoff3 + k * 5), none⟩))) hf rfl rfl rfl (fun hact => (by have hact0 := hact; (try simp only [Bool.and_eq_true, Bool.not_eq_true', Bool.or_eq_false_iff, Bool.or_eq_true, Bool.and_eq_false_iff, ne_eq, decide_eq_true_eq, decide_eq_false_iff_not] at hact0); exact (r_ixa (sz := 5) (j := k) (evAt (gb_ev hact rfl) hat3) (gb_ev hact rfl) Try.underlying30 (by kernel_rfl) rfl (by omega) rfl))) rfl rfl ?_; clear hf fa; intro fa hf
                refine sqgF (act := (!(decide ((300 : Int) < ((y3.2.1.size : Nat) : Int))))) (ag := true) (c := (decide ((300 : Int) < ((y3.2.1.size : Nat) : Int)))) (v := (.pointer (some ⟨ab3, (aoff3 + k * 5), none⟩))) hf rfl rfl rfl (fun hact => (r_fa (gb_ev hact rfl) Try.underlying87 (f := 0) (q := (aoff3 + k * 5)) rfl (by kernel_rfl) rfl)) rfl rfl ?_; clear hf fa; intro fa hf
                refine sqgF (act := (!(decide ((300 : Int) < ((y3.2.1.size : Nat) : Int))))) (ag := true) (c := (decide ((300 : Int) < ((y3.2.1.size : Nat) : Int)))) (v := (.pointer (some ⟨ab3, ((aoff3 + k * 5) + 3), none⟩))) hf rfl rfl rfl (fun hact => (r_fa (gb_ev hact rfl) Try.underlying78 (f := 3) (q := ((aoff3 + k * 5) + 3)) rfl (by kernel_rfl) rfl)) rfl rfl ?_; clear hf fa; intro fa hf
                refine sqgF (act := (!(decide ((300 : Int) < ((y3.2.1.size : Nat) : Int))))) (ag := true) (c := (decide ((300 : Int) < ((y3.2.1.size : Nat) : Int)))) (v := (.slice y3.1.2.2.2.1.at' y3.1.2.2.2.1.len y3.1.2.2.2.1.cap)) hf rfl rfl rfl (fun hact => (r_load (v := (.slice y3.1.2.2.2.1.at' y3.1.2.2.2.1.len y3.1.2.2.2.1.cap)) (gb_ev hact rfl) Try.underlying24 rfl (cellsAt_cell (cellsAt_below hel3 hb hlb3) (i := 3) rfl rfl))) rfl rfl ?_; clear hf fa; intro fa hf
                refine sqgF (act := (!(decide ((300 : Int) < ((y3.2.1.size : Nat) : Int))))) (ag := true) (c := (decide ((300 : Int) < ((y3.2.1.size : Nat) : Int)))) (v := (.int .i64 ((y3.1.2.2.2.1.len : Nat) : Int))) hf rfl rfl rfl (fun hact => (r_lensl (gb_ev hact rfl) Try.underlying24)) rfl rfl ?_; clear hf fa; intro fa hf
                refine sqgF (act := (!(decide ((300 : Int) < ((y3.2.1.size : Nat) : Int))))) (ag := true) (c := (decide ((300 : Int) < ((y3.2.1.size : Nat) : Int)))) (v := (.bool (decide ((50 : Int) < ((y3.1.2.2.2.1.len : Nat) : Int))))) hf rfl rfl rfl (fun hact => (r_gt (gb_ev hact rfl) rfl)) rfl rfl ?_; clear hf fa; intro fa hf
                refine sqv hf (r_pickO (b := (decide ((300 : Int) < ((y3.2.1.size : Nat) : Int)))) (e := (decide ((50 : Int) < ((y3.1.2.2.2.1.len : Nat) : Int)))) rfl rfl rfl) rfl rfl rfl ?_; clear hf fa; intro fa hf
                apply wpList_nil
                (try simp only [Exit.then, Exit.inBlock, ↓reduceIte, Nat.reduceEqDiff])
                refine hK24 _ _ ?_
                refine wp_cond_split (t := ((decide ((300 : Int) < ((y3.2.1.size : Nat) : Int))) || (decide ((50 : Int) < ((y3.1.2.2.2.1.len : Nat) : Int))))) (hf.ev rfl) (fun hqt144_1 => ?_) (fun hqt144_1 => ?_)
                · have hqt144_1b := hqt144_1
                  try simp only [decide_eq_true_eq, Bool.and_eq_true, Bool.or_eq_true, Bool.not_eq_true', decide_eq_false_iff_not, ne_eq, Bool.not_eq_true] at hqt144_1
                  refine wp_seq_k (fun K25 hK25 => ?_)
                  refine wp_region_lit ?_
                  refine sqv hf (r_assign rfl) rfl rfl rfl ?_; clear hf fa; intro fa hf
                  apply wpList_nil
                  (try simp only [Exit.then, Exit.inBlock, ↓reduceIte, Nat.reduceEqDiff])
                  refine hK25 _ _ ?_
                  refine wp_ret ?_
                  (try simp only [Exit.then, Exit.inBlock])
                  refine ret1 hf rfl rfl ?_
                  refine ⟨congrArg (fun b => Ending.returned (.bool b)) ?_, hb⟩; unfold smallP; rw [all_no Hs hy3 (by have h := hqt144_1; unfold qD; simp at h ⊢; omega)]; simp
                · have hqt144_1b := hqt144_1
                  replace hqt144_1 := Bool.eq_false_iff.1 hqt144_1
                  try simp only [ne_eq, decide_eq_true_eq, Bool.and_eq_true, Bool.or_eq_true, Bool.not_eq_true', decide_eq_false_iff_not] at hqt144_1
                  refine wp_skip ?_
                  (try simp only [Exit.then, Exit.inBlock, ↓reduceIte, Nat.reduceEqDiff])
                  refine hK23 _ _ ?_
                  refine wp_region_lit ?_
                  refine sqv hf (r_move rfl) rfl rfl rfl ?_; clear hf fa; intro fa hf
                  refine sqv hf (r_add (C := (((k : Nat) : Int) + (1 : Int))) rfl rfl (by rw [IntKind.wrap_i64]; omega)) rfl rfl rfl ?_; clear hf fa; intro fa hf
                  refine sqv hf (r_assign rfl) rfl rfl rfl ?_; clear hf fa; intro fa hf
                  apply wpList_nil
                  (try simp only [Exit.then, Exit.inBlock, ↓reduceIte, Nat.reduceEqDiff])
                  refine hKL3 _ _ _ (by omega) ⟨(k + 1), rfl, hf.sub ⟨rfl, (some_int (by first | rfl | omega)), trivial⟩, hb, hkb1, by omega, (all_yes Hs hy3 (by have h := hqt144_1; unfold qD; simp at h ⊢; omega)), hsm, hA0, hA1⟩
              · have hqt123_1b := hqt123_1
                replace hqt123_1 := Bool.eq_false_iff.1 hqt123_1
                try simp only [ne_eq, decide_eq_true_eq, Bool.and_eq_true, Bool.or_eq_true, Bool.not_eq_true', decide_eq_false_iff_not] at hqt123_1
                refine wp_exit ?_
                (try simp only [Exit.then, Exit.inBlock, ↓reduceIte, Nat.reduceEqDiff])
                refine hK19 _ _ ?_
                refine wp_seq_k (fun K26 hK26 => ?_)
                refine wp_seq_k (fun K27 hK27 => ?_)
                have hA2 : m.2.2.2.2.2.2.2.2.2.2.1.list.all qD = true := all_end Hs (by rw [Sl.list_length]; omega)
                refine wp_region_lit ?_
                refine sqv hf (r_assign rfl) rfl rfl rfl ?_; clear hf fa; intro fa hf
                apply wpList_nil
                (try simp only [Exit.then, Exit.inBlock, ↓reduceIte, Nat.reduceEqDiff])
                refine hK27 _ _ ?_
                refine wp_block ?_
                refine wp_loop_k (fun mq fa wr => ∃ (k : Nat), mq = m.2.2.2.2.2.1.len - k ∧ Fr 163 fa [(1, (.pointer (some ⟨b1, 0, none⟩))), (6, (.int .i64 ((k : Nat) : Int)))] ∧ Below w.heap.size w wr ∧ wr.heap[b1]? = some (.cells #[(.slice m.1.at' m.1.len m.1.cap), (.slice m.2.1.at' m.2.1.len m.2.1.cap), (.slice m.2.2.1.at' m.2.2.1.len m.2.2.1.cap), (.slice m.2.2.2.1.at' m.2.2.2.1.len m.2.2.2.1.cap), (.slice m.2.2.2.2.1.at' m.2.2.2.2.1.len m.2.2.2.2.1.cap), (.slice m.2.2.2.2.2.1.at' m.2.2.2.2.2.1.len m.2.2.2.2.2.1.cap), (.slice m.2.2.2.2.2.2.1.at' m.2.2.2.2.2.2.1.len m.2.2.2.2.2.2.1.cap), (.int .i64 m.2.2.2.2.2.2.2.1), (.slice m.2.2.2.2.2.2.2.2.1.at' m.2.2.2.2.2.2.2.2.1.len m.2.2.2.2.2.2.2.2.1.cap), (.slice m.2.2.2.2.2.2.2.2.2.1.at' m.2.2.2.2.2.2.2.2.2.1.len m.2.2.2.2.2.2.2.2.2.1.cap), (.slice m.2.2.2.2.2.2.2.2.2.2.1.at' m.2.2.2.2.2.2.2.2.2.2.1.len m.2.2.2.2.2.2.2.2.2.2.1.cap), (.bool m.2.2.2.2.2.2.2.2.2.2.2.1.1), (.int .u32 m.2.2.2.2.2.2.2.2.2.2.2.1.2.1), (.int .u32 m.2.2.2.2.2.2.2.2.2.2.2.1.2.2.1), (.int .u32 m.2.2.2.2.2.2.2.2.2.2.2.1.2.2.2.1), (.int .u32 m.2.2.2.2.2.2.2.2.2.2.2.1.2.2.2.2.1), (.slice m.2.2.2.2.2.2.2.2.2.2.2.1.2.2.2.2.2.1.at' m.2.2.2.2.2.2.2.2.2.2.2.1.2.2.2.2.2.1.len m.2.2.2.2.2.2.2.2.2.2.2.1.2.2.2.2.2.1.cap)] 36 (0, 0)) ∧ (k ≤ m.2.2.2.2.2.1.len) ∧ (m.2.2.2.2.2.1.list.all qG = (m.2.2.2.2.2.1.list.drop k).all qG) ∧ (lensP m) ∧ (m.2.2.2.2.2.2.2.2.2.1.list.all qC = true) ∧ (m.2.2.2.2.2.2.2.2.1.list.all qE = true) ∧ (m.2.2.2.2.2.2.2.2.2.2.1.list.all qD = true)) ?_ ?_
                · skip
                  exact ⟨_, 0, rfl, hf.sub ⟨rfl, (some_int (by first | rfl | omega)), trivial⟩, hb, hkb1, by omega, rfl, hsm, hA0, hA1, hA2⟩
                · skip
                  clear hf fa; intro mq4 fa w6 hI KL4 hKL4
                  clear hb
                  clear hkb1
                  obtain ⟨k, hmq4, hf, hb, hkb1, hk, Hs, hsm, hA0, hA1, hA2⟩ := hI
                  refine wp_seq_k (fun K28 hK28 => ?_)
                  refine wp_seq_k (fun K29 hK29 => ?_)
                  refine wp_region_lit ?_
                  refine sqv hf (r_move rfl) rfl rfl rfl ?_; clear hf fa; intro fa hf
                  refine sqv hf (r_fa rfl Try.underlying36 (f := 5) (q := 5) rfl (by kernel_rfl) rfl) rfl rfl rfl ?_; clear hf fa; intro fa hf
                  refine sqv hf (r_load (v := (.slice m.2.2.2.2.2.1.at' m.2.2.2.2.2.1.len m.2.2.2.2.2.1.cap)) rfl Try.underlying26 rfl (cell_blk hkb1 rfl)) rfl rfl rfl ?_; clear hf fa; intro fa hf
                  refine sqv hf (r_lensl rfl Try.underlying26) rfl rfl rfl ?_; clear hf fa; intro fa hf
                  refine sqv hf (r_lt rfl rfl) rfl rfl rfl ?_; clear hf fa; intro fa hf
                  apply wpList_nil
                  (try simp only [Exit.then, Exit.inBlock, ↓reduceIte, Nat.reduceEqDiff])
                  refine hK29 _ _ ?_
                  refine wp_cond_split (t := (decide (((k : Nat) : Int) < ((m.2.2.2.2.2.1.len : Nat) : Int)))) (hf.ev rfl) (fun hqt149_1 => ?_) (fun hqt149_1 => ?_)
                  · have hqt149_1b := hqt149_1
                    try simp only [decide_eq_true_eq, Bool.and_eq_true, Bool.or_eq_true, Bool.not_eq_true', decide_eq_false_iff_not, ne_eq, Bool.not_eq_true] at hqt149_1
                    refine wp_skip ?_
                    (try simp only [Exit.then, Exit.inBlock, ↓reduceIte, Nat.reduceEqDiff])
                    refine hK28 _ _ ?_
                    refine wp_seq_k (fun K30 hK30 => ?_)
                    refine wp_block ?_
                    refine wp_seq_k (fun K31 hK31 => ?_)
                    refine wp_region_lit ?_
                    refine sqv hf (r_fa rfl Try.underlying36 (f := 5) (q := 5) rfl (by kernel_rfl) rfl) rfl rfl rfl ?_; clear hf fa; intro fa hf
                    refine sqv hf (r_load (v := (.slice m.2.2.2.2.2.1.at' m.2.2.2.2.2.1.len m.2.2.2.2.2.1.cap)) rfl Try.underlying26 rfl (cell_blk hkb1 rfl)) rfl rfl rfl ?_; clear hf fa; intro fa hf
                    refine sqv hf (r_move rfl) rfl rfl rfl ?_; clear hf fa; intro fa hf
                    obtain ⟨y4, hy4⟩ : ∃ x, (m.2.2.2.2.2.1.list)[k]? = some x := ⟨_, List.getElem?_eq_getElem (by (try simp only [Sl.list_length]); omega)⟩
                    obtain ⟨ab4, aoff4, hat4, hlb4, hel4⟩ := RdS.at (RdS.of_arg g.2.2.2.2.2.1.2) hy4
                    refine sqv hf (r_ixa (sz := 6) (j := k) (evAt rfl hat4) rfl Try.underlying26 (by kernel_rfl) rfl (by omega) rfl) rfl rfl rfl ?_; clear hf fa; intro fa hf
                    refine sqv hf (r_fa rfl Try.underlying91 (f := 1) (q := ((aoff4 + k * 6) + 2)) rfl (by kernel_rfl) rfl) rfl rfl rfl ?_; clear hf fa; intro fa hf
                    refine sqv hf (r_fa rfl Try.underlying78 (f := 3) (q := ((aoff4 + k * 6) + 5)) rfl (by kernel_rfl) rfl) rfl rfl rfl ?_; clear hf fa; intro fa hf
                    refine sqv hf (r_load (v := (.slice y4.2.1.2.2.2.1.at' y4.2.1.2.2.2.1.len y4.2.1.2.2.2.1.cap)) rfl Try.underlying24 rfl (cellsAt_cell (cellsAt_below hel4 hb hlb4) (i := 5) rfl rfl)) rfl rfl rfl ?_; clear hf fa; intro fa hf
                    refine sqv hf (r_lensl rfl Try.underlying24) rfl rfl rfl ?_; clear hf fa; intro fa hf
                    refine sqv hf (r_gt rfl rfl) rfl rfl rfl ?_; clear hf fa; intro fa hf
                    apply wpList_nil
                    (try simp only [Exit.then, Exit.inBlock, ↓reduceIte, Nat.reduceEqDiff])
                    refine hK31 _ _ ?_
                    refine wp_cond_split (t := (decide ((50 : Int) < ((y4.2.1.2.2.2.1.len : Nat) : Int)))) (hf.ev rfl) (fun hqt160_1 => ?_) (fun hqt160_1 => ?_)
                    · have hqt160_1b := hqt160_1
                      try simp only [decide_eq_true_eq, Bool.and_eq_true, Bool.or_eq_true, Bool.not_eq_true', decide_eq_false_iff_not, ne_eq, Bool.not_eq_true] at hqt160_1
                      refine wp_seq_k (fun K32 hK32 => ?_)
                      refine wp_region_lit ?_
                      refine sqv hf (r_assign rfl) rfl rfl rfl ?_; clear hf fa; intro fa hf
                      apply wpList_nil
                      (try simp only [Exit.then, Exit.inBlock, ↓reduceIte, Nat.reduceEqDiff])
                      refine hK32 _ _ ?_
                      refine wp_ret ?_
                      (try simp only [Exit.then, Exit.inBlock])
                      refine ret1 hf rfl rfl ?_
                      refine ⟨congrArg (fun b => Ending.returned (.bool b)) ?_, hb⟩; unfold smallP; rw [all_no Hs hy4 (by have h := hqt160_1; unfold qG; simp at h ⊢; omega)]; simp
                    · have hqt160_1b := hqt160_1
                      replace hqt160_1 := Bool.eq_false_iff.1 hqt160_1
                      try simp only [ne_eq, decide_eq_true_eq, Bool.and_eq_true, Bool.or_eq_true, Bool.not_eq_true', decide_eq_false_iff_not] at hqt160_1
                      refine wp_skip ?_
                      (try simp only [Exit.then, Exit.inBlock, ↓reduceIte, Nat.reduceEqDiff])
                      refine hK30 _ _ ?_
                      refine wp_region_lit ?_
                      refine sqv hf (r_move rfl) rfl rfl rfl ?_; clear hf fa; intro fa hf
                      refine sqv hf (r_add (C := (((k : Nat) : Int) + (1 : Int))) rfl rfl (by rw [IntKind.wrap_i64]; omega)) rfl rfl rfl ?_; clear hf fa; intro fa hf
                      refine sqv hf (r_assign rfl) rfl rfl rfl ?_; clear hf fa; intro fa hf
                      apply wpList_nil
                      (try simp only [Exit.then, Exit.inBlock, ↓reduceIte, Nat.reduceEqDiff])
                      refine hKL4 _ _ _ (by omega) ⟨(k + 1), rfl, hf.sub ⟨rfl, (some_int (by first | rfl | omega)), trivial⟩, hb, hkb1, by omega, (all_yes Hs hy4 (by have h := hqt160_1; unfold qG; simp at h ⊢; omega)), hsm, hA0, hA1, hA2⟩
                  · have hqt149_1b := hqt149_1
                    replace hqt149_1 := Bool.eq_false_iff.1 hqt149_1
                    try simp only [ne_eq, decide_eq_true_eq, Bool.and_eq_true, Bool.or_eq_true, Bool.not_eq_true', decide_eq_false_iff_not] at hqt149_1
                    refine wp_exit ?_
                    (try simp only [Exit.then, Exit.inBlock, ↓reduceIte, Nat.reduceEqDiff])
                    refine hK26 _ _ ?_
                    refine wp_seq_k (fun K33 hK33 => ?_)
                    have hA3 : m.2.2.2.2.2.1.list.all qG = true := all_end Hs (by rw [Sl.list_length]; omega)
                    refine wp_region_lit ?_
                    refine sqv hf (r_loadA (cs := [(.slice m.1.at' m.1.len m.1.cap), (.slice m.2.1.at' m.2.1.len m.2.1.cap), (.slice m.2.2.1.at' m.2.2.1.len m.2.2.1.cap), (.slice m.2.2.2.1.at' m.2.2.2.1.len m.2.2.2.1.cap), (.slice m.2.2.2.2.1.at' m.2.2.2.2.1.len m.2.2.2.2.1.cap), (.slice m.2.2.2.2.2.1.at' m.2.2.2.2.2.1.len m.2.2.2.2.2.1.cap), (.slice m.2.2.2.2.2.2.1.at' m.2.2.2.2.2.2.1.len m.2.2.2.2.2.2.1.cap), (.int .i64 m.2.2.2.2.2.2.2.1), (.slice m.2.2.2.2.2.2.2.2.1.at' m.2.2.2.2.2.2.2.2.1.len m.2.2.2.2.2.2.2.2.1.cap), (.slice m.2.2.2.2.2.2.2.2.2.1.at' m.2.2.2.2.2.2.2.2.2.1.len m.2.2.2.2.2.2.2.2.2.1.cap), (.slice m.2.2.2.2.2.2.2.2.2.2.1.at' m.2.2.2.2.2.2.2.2.2.2.1.len m.2.2.2.2.2.2.2.2.2.2.1.cap), (.bool m.2.2.2.2.2.2.2.2.2.2.2.1.1), (.int .u32 m.2.2.2.2.2.2.2.2.2.2.2.1.2.1), (.int .u32 m.2.2.2.2.2.2.2.2.2.2.2.1.2.2.1), (.int .u32 m.2.2.2.2.2.2.2.2.2.2.2.1.2.2.2.1), (.int .u32 m.2.2.2.2.2.2.2.2.2.2.2.1.2.2.2.2.1), (.slice m.2.2.2.2.2.2.2.2.2.2.2.1.2.2.2.2.2.1.at' m.2.2.2.2.2.2.2.2.2.2.2.1.2.2.2.2.2.1.len m.2.2.2.2.2.2.2.2.2.2.2.1.2.2.2.2.2.1.cap)]) rfl Try.underlying36 rfl (by kernel_rfl) (cellsAt_blk hkb1)) rfl rfl rfl ?_; clear hf fa; intro fa hf
                    refine sqdt hf (d_callB (vs := [(.agg #[(.slice m.1.at' m.1.len m.1.cap), (.slice m.2.1.at' m.2.1.len m.2.1.cap), (.slice m.2.2.1.at' m.2.2.1.len m.2.2.1.cap), (.slice m.2.2.2.1.at' m.2.2.2.1.len m.2.2.2.1.cap), (.slice m.2.2.2.2.1.at' m.2.2.2.2.1.len m.2.2.2.2.1.cap), (.slice m.2.2.2.2.2.1.at' m.2.2.2.2.2.1.len m.2.2.2.2.2.1.cap), (.slice m.2.2.2.2.2.2.1.at' m.2.2.2.2.2.2.1.len m.2.2.2.2.2.2.1.cap), (.int .i64 m.2.2.2.2.2.2.2.1), (.slice m.2.2.2.2.2.2.2.2.1.at' m.2.2.2.2.2.2.2.2.1.len m.2.2.2.2.2.2.2.2.1.cap), (.slice m.2.2.2.2.2.2.2.2.2.1.at' m.2.2.2.2.2.2.2.2.2.1.len m.2.2.2.2.2.2.2.2.2.1.cap), (.slice m.2.2.2.2.2.2.2.2.2.2.1.at' m.2.2.2.2.2.2.2.2.2.2.1.len m.2.2.2.2.2.2.2.2.2.2.1.cap), (.bool m.2.2.2.2.2.2.2.2.2.2.2.1.1), (.int .u32 m.2.2.2.2.2.2.2.2.2.2.2.1.2.1), (.int .u32 m.2.2.2.2.2.2.2.2.2.2.2.1.2.2.1), (.int .u32 m.2.2.2.2.2.2.2.2.2.2.2.1.2.2.2.1), (.int .u32 m.2.2.2.2.2.2.2.2.2.2.2.1.2.2.2.2.1), (.slice m.2.2.2.2.2.2.2.2.2.2.2.1.2.2.2.2.2.1.at' m.2.2.2.2.2.2.2.2.2.2.2.1.2.2.2.2.2.1.len m.2.2.2.2.2.2.2.2.2.2.2.1.2.2.2.2.2.1.cap)])]) rfl Try.func39 (by kernel_rfl) (by kernel_rfl) (texts_any m _ (rdMMd.kept _ _ _ hb g))) rfl rfl rfl ?_; clear hf fa; rintro fa _ w7 ⟨rfl, he3⟩ hf
                    replace hkb1 := blk_ext hkb1 he3
                    replace hb := hb.trans (Below.mono he3 hb.size)
                    refine sqv hf (r_assign rfl) rfl rfl rfl ?_; clear hf fa; intro fa hf
                    apply wpList_nil
                    (try simp only [Exit.then, Exit.inBlock, ↓reduceIte, Nat.reduceEqDiff])
                    refine hK33 _ _ ?_
                    refine wp_ret ?_
                    (try simp only [Exit.then, Exit.inBlock])
                    refine ret1 hf rfl rfl ?_
                    refine ⟨congrArg (fun b => Ending.returned (.bool b)) ?_, hb⟩; unfold smallP; rw [decide_eq_true hsm, hA0, hA1, hA2, hA3]; rfl

theorem all_mem {α : Type} {p : α → Bool} {l : List α} (h : l.all p = true) {y : α} (hy : y ∈ l) : p y = true := List.all_eq_true.1 h y hy
theorem small_out {m : MMd} (h : smallP m = true) : lensP m ∧ textsP m = true := by
  unfold smallP at h
  simp only [Bool.and_eq_true, decide_eq_true_eq] at h
  exact ⟨h.1, h.2.2.2.2.2⟩
theorem texts_out {m : MMd} (h : textsP m = true) : (∀ y ∈ m.1.list, y.1.size ≤ 100 ∧ y.2.1.size ≤ 100) ∧ (∀ y ∈ m.2.1.list, y.1.size ≤ 300 ∧ y.2.1.size ≤ 300) ∧ (∀ y ∈ m.2.2.2.2.2.2.1.list, y.1.size ≤ 300) ∧ ∀ y ∈ m.2.2.2.2.2.2.2.2.2.2.2.1.2.2.2.2.2.1.list, y.size ≤ 300 := by
  unfold textsP at h
  simp only [Bool.and_eq_true] at h
  refine ⟨fun y hy => ?_, fun y hy => ?_, fun y hy => ?_, fun y hy => ?_⟩
  · have := all_mem h.1 hy; unfold qT at this; simp at this; omega
  · have := all_mem h.2.1 hy; unfold qI at this; simp at this; omega
  · have := all_mem h.2.2.1 hy; unfold qX at this; simp at this; omega
  · have := all_mem h.2.2.2 hy; unfold qN at this; simp at this; omega
end Go.Proofs.Ytpalmpfkliepfaa
