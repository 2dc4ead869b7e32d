/- What is proved here: what stands behind a name, by the program: rest. What is proved here: the words of a line (plain). What is proved here: a line read back (plain). What is proved here: a line read, by the program (plain part). What is proved here: a line read, by the program: text.Parse. What is proved here: the law TextLines is true. What is proved here: what the document reads off a line, and that it is what the program reads. What is proved here: what a call leaves alone: blocks of a type; blocks from a number on. What is proved here: a line read, by the document: creelref46.Parse. What is proved here: the law TextParses is true. What is proved here: plain functions of blocks. What is proved here: what the functions of blocks (flow, instr.Shape), and the document's of them, come to. -/
import Derived.Test.YtpalmpfkliepfaaDoorTextBodiesMgAE
import Derived.Test.YtpalmpfkliepfaaDoorTextBodiesMgAB
import Derived.Test.YtpalmpfkliepfaaDoorTextBodiesMgAA
namespace Go.Proofs.YtpalmpfkliepfaaDoor
open Go.RowKit Ut
set_option linter.unusedVariables false
set_option linter.unusedSimpArgs false
attribute [local irreducible] infP ofP chkP rchkP

theorem RdS.kb {α : Type} {k bi : Nat} {V : α → List Value} {w w' : World} {a : Option Addr} {l : List α} (h : RdS k V w a l) (hb : KB bi w.heap.size w w') (hnb : ∀ q : Addr, a = some q → q.block ≠ bi) : RdS k V w' a l := by
  intro j x hx
  obtain ⟨b, off, ha, hl, he⟩ := h j x hx
  exact ⟨b, off, ha, Nat.lt_of_lt_of_le hl hb.size, cellsAt_kb he hb hl (hnb _ ha)⟩
def lblK (op : Nat) (W : List ByteArray) : Bool := (nbsP W).2 && (!decide ((nbsP W).1.length = 0) && !(decide (1 < (nbsP W).1.length) && decide ((infP op).2.1 ≠ 3)))
def resK (op : Nat) (W : List ByteArray) : Bool :=
  if (infP op).2.1 = 0 ∨ (infP op).2.1 = 9 then decide (W.length = 0)
  else if (infP op).2.1 = 1 then decide (W.length ≤ 1)
  else if (infP op).2.1 = 8 then accK W
  else if (infP op).2.1 = 10 then (conP W true).2
  else if (infP op).2.1 = 11 then (conP W false).2
  else lblK op W
def resA (op : Nat) (W : List ByteArray) : Int :=
  if (infP op).2.1 = 0 ∨ (infP op).2.1 = 9 then 0
  else if (infP op).2.1 = 1 then (if W.length = 1 then bytP (wd W 0) else 64)
  else if (infP op).2.1 = 8 then (accP W).1
  else if (infP op).2.1 = 10 then (conP W true).1
  else if (infP op).2.1 = 11 then (conP W false).1
  else if lblK op W = true then (nbsP W).1.getD ((nbsP W).1.length - 1) 0 else 0
def resB (op : Nat) (W : List ByteArray) : Int := if (infP op).2.1 = 8 then (accP W).2 else 0
def resL (op : Nat) (W : List ByteArray) : List Int :=
  if (infP op).2.1 = 0 ∨ (infP op).2.1 = 9 ∨ (infP op).2.1 = 1 ∨ (infP op).2.1 = 8 ∨ (infP op).2.1 = 10 ∨ (infP op).2.1 = 11 then []
  else if lblK op W = true then (nbsP W).1.take ((nbsP W).1.length - 1) else []
theorem nbsA_rng (W : List ByteArray) : ∀ o, (∀ y ∈ o, 0 ≤ y ∧ y < (4294967296 : Int)) → ∀ y ∈ (nbsA o W).1, 0 ≤ y ∧ y < (4294967296 : Int) := by
  induction W with
  | nil => intro o h; exact h
  | cons z l ih =>
    intro o h
    rw [nbsA]
    split
    · rename_i hk
      refine ih _ (fun y hy => ?_)
      rcases List.mem_append.1 hy with h1 | h1
      · exact h y h1
      · rw [List.mem_singleton] at h1
        subst h1
        unfold okN at hk
        simp at hk
        omega
    · intro y hy; cases hy
theorem nbs_rng (W : List ByteArray) : ∀ y ∈ (nbsP W).1, 0 ≤ y ∧ y < (4294967296 : Int) := nbsA_rng W [] (fun y hy => by cases hy)

theorem bytO_rng (j : Nat) : 0 ≤ bytO j ∧ bytO j < 256 := by
  match j with
  | 0 => decide
  | 1 => decide
  | 2 => decide
  | 3 => decide
  | 4 => decide
  | n + 5 => exact ⟨Int.le_refl 0, by show (0 : Int) < 256; decide⟩
theorem bytR_rng (s : ByteArray) : ∀ f i, 0 ≤ bytR s f i ∧ bytR s f i < 256 := by
  intro f
  induction f with
  | zero => intro i; exact ⟨Int.le_refl 0, by show (0 : Int) < 256; decide⟩
  | succ f ih =>
    intro i
    rw [bytR]
    split
    · exact bytO_rng i
    · exact ih (i + 1)
theorem bytP_rng (s : ByteArray) : 0 ≤ bytP s ∧ bytP s < 256 := bytR_rng s 5 0
theorem lblK_no {op : Nat} {W : List ByteArray} (h : ((nbsP W).2 = false ∨ (((nbsP W).1.length : Nat) : Int) = 0) ∨ (1 : Int) < (((nbsP W).1.length : Nat) : Int) ∧ ¬ (infP op).2.1 = 3) : lblK op W = false := by
  unfold lblK
  rcases h with (h | h) | ⟨h, h3⟩
  · rw [h]; rfl
  · rw [decide_eq_true (show (nbsP W).1.length = 0 by omega)]; simp
  · rw [decide_eq_true (show 1 < (nbsP W).1.length by omega), decide_eq_true (show (infP op).2.1 ≠ 3 from h3)]; simp
theorem lblK_yes {op : Nat} {W : List ByteArray} (h : ¬ (((nbsP W).2 = false ∨ (((nbsP W).1.length : Nat) : Int) = 0) ∨ (1 : Int) < (((nbsP W).1.length : Nat) : Int) ∧ ¬ (infP op).2.1 = 3)) : lblK op W = true := by
  have h1 : (nbsP W).2 = true := by
    cases hz : (nbsP W).2 with
    | true => rfl
    | false => exact absurd (.inl (.inl hz)) h
  unfold lblK
  rw [h1, decide_eq_false (show ¬ (nbsP W).1.length = 0 from fun e => h (.inl (.inr (by omega))))]
  by_cases h3 : (infP op).2.1 = 3
  · rw [decide_eq_false (show ¬ (infP op).2.1 ≠ 3 from fun e => e h3)]; simp
  · rw [decide_eq_false (show ¬ 1 < (nbsP W).1.length from fun e => h (.inr ⟨by omega, h3⟩))]; rfl

set_option maxHeartbeats 1000000 in
set_option maxRecDepth 100000 in
theorem rest_any (op bi : Nat) (a : Option Addr) (W : List ByteArray) (c : Nat) (w : World) (hnb : ∀ q : Addr, a = some q → q.block ≠ bi) (hki : w.heap[bi]? = some (.cells #[(.int .u8 ((op : Nat) : Int)), (.int .u64 (0 : Int)), (.int .u64 (0 : Int)), (.slice none 0 0)] 25 (0, 0))) (hl : RdS 1 vStr w a W) (hc : W.length ≤ c) (hn : W.length ≤ 100000) (hW : ∀ y ∈ W, y.size ≤ 100000) (hop : op < 256) : Calls Tryd.prog 28 #[(.pointer (some ⟨bi, 0, none⟩)), (.slice a W.length c)] w fun e w' => e = .returned (.bool (resK op W)) ∧ ∃ aL cL, w'.heap[bi]? = some (.cells #[.int .u8 ((op : Nat) : Int), .int .u64 (resA op W), .int .u64 (resB op W), .slice aL (resL op W).length cL] 25 (0, 0)) ∧ Row 1 (vInt .u32) 62 w.heap.size w' (.slice aL (resL op W).length cL) (resL op W) ∧ w.grownBy w' (some bi) := by
  have hnl : (nbsP W).1.length ≤ W.length := (by have h := nbsA_len W []; simp at h; exact h)
  have hby := bytP_rng (wd W 0)
  refine sx_enter (L := [(0, (.pointer (some ⟨bi, 0, none⟩))), (1, (.slice a W.length c))]) Tryd.func28 rfl rfl rfl rfl (fun fa hf => ?_)
  have hb : KB bi w.heap.size w w := KB.refl _ _ _
  refine wp_seq_k (fun K1 hK1 => ?_)
  refine wp_region_lit ?_
  refine sqv hf (r_assign rfl) rfl rfl rfl ?_; clear hf fa; intro fa hf
  apply wpList_nil
  (try simp only [Exit.then, Exit.inBlock, ↓reduceIte, Nat.reduceEqDiff])
  refine hK1 _ _ ?_
  refine wp_seq_k (fun K2 hK2 => ?_)
  refine wp_seq_k (fun K3 hK3 => ?_)
  refine wp_region_lit ?_
  refine sqv hf (r_move rfl) rfl rfl rfl ?_; clear hf fa; intro fa hf
  refine sqv hf (r_nilCheck rfl) rfl rfl rfl ?_; clear hf fa; intro fa hf
  refine sqv hf (r_fa rfl Tryd.underlying25 (f := 0) (q := 0) rfl (by kernel_rfl) rfl) rfl rfl rfl ?_; clear hf fa; intro fa hf
  refine sqv hf (r_load (v := (.int .u8 ((op : Nat) : Int))) rfl Tryd.underlying5 rfl (cell_blk hki rfl)) rfl rfl rfl ?_; clear hf fa; intro fa hf
  refine sqdt hf (d_callB (vs := [(.int .u8 ((op : Nat) : Int))]) rfl Tryd.func20 (by kernel_rfl) (by kernel_rfl) (inf_any op _ hop)) rfl rfl rfl ?_; clear hf fa; rintro fa _ w1 ⟨rfl, he1⟩ hf
  replace hki := blk_ext hki he1
  replace hb := hb.trans (Below.mono he1 hb.size)
  refine sqv hf (r_field (cs := #[(.string (infP op).1), (.int .i64 ((infP op).2.1)), (.string (infP op).2.2.1), (.string (infP op).2.2.2.1), (.bool (infP op).2.2.2.2.1)]) (v := (.int .i64 ((infP op).2.1))) rfl (fun _ => by kernel_rfl)) rfl rfl rfl ?_; clear hf fa; intro fa hf
  apply wpList_nil
  (try simp only [Exit.then, Exit.inBlock, ↓reduceIte, Nat.reduceEqDiff])
  refine hK3 _ _ ?_
  refine wp_block ?_
  refine wp_seq_k (fun K4 hK4 => ?_)
  refine wp_seq_k (fun K5 hK5 => ?_)
  refine wp_region_lit ?_
  refine sqv hf (r_eq rfl rfl) rfl rfl rfl ?_; clear hf fa; intro fa hf
  refine sqv hf (r_assign rfl) rfl rfl rfl ?_; clear hf fa; intro fa hf
  apply wpList_nil
  (try simp only [Exit.then, Exit.inBlock, ↓reduceIte, Nat.reduceEqDiff])
  refine hK5 _ _ ?_
  refine wp_cond_split (t := (decide (((infP op).2.1) = (0 : Int)))) (hf.ev rfl) (fun hqt15_1 => ?_) (fun hqt15_1 => ?_)
  · have hqt15_1b := hqt15_1
    try simp only [decide_eq_true_eq, Bool.and_eq_true, Bool.or_eq_true, Bool.not_eq_true', decide_eq_false_iff_not, ne_eq, Bool.not_eq_true] at hqt15_1
    refine wp_skip ?_
    (try simp only [Exit.then, Exit.inBlock, ↓reduceIte, Nat.reduceEqDiff])
    refine hK4 _ _ ?_
    refine wp_cond_true ((hf.ev rfl).trans (congrArg Value.bool (show (decide (((infP op).2.1) = (0 : Int))) = true from hqt15_1b))) ?_
    refine wp_seq_k (fun K6 hK6 => ?_)
    refine wp_region_lit ?_
    refine sqv hf (r_move rfl) rfl rfl rfl ?_; clear hf fa; intro fa hf
    refine sqv hf (r_lensl rfl Tryd.underlying43) rfl rfl rfl ?_; clear hf fa; intro fa hf
    refine sqv hf (r_eq rfl rfl) rfl rfl rfl ?_; clear hf fa; intro fa hf
    refine sqv hf (r_assign rfl) rfl rfl rfl ?_; clear hf fa; intro fa hf
    apply wpList_nil
    (try simp only [Exit.then, Exit.inBlock, ↓reduceIte, Nat.reduceEqDiff])
    refine hK6 _ _ ?_
    refine wp_ret ?_
    (try simp only [Exit.then, Exit.inBlock])
    refine ret1 hf rfl rfl ?_
    have hB : resB op W = 0 := by unfold resB; rw [if_neg (by have h0 := hqt15_1; omega)]
    have hL : resL op W = [] := by unfold resL; rw [if_pos (by have h0 := hqt15_1; omega)]
    have hK : resK op W = (decide (((W.length : Nat) : Int) = (0 : Int))) := by unfold resK; rw [if_pos (by have h0 := hqt15_1; omega)]; exact decide_eq_decide.2 (by omega)
    have hA : resA op W = (0 : Int) := by unfold resA; rw [if_pos (by have h0 := hqt15_1; omega)]
    rw [hK, hA, hB, hL]
    exact ⟨rfl, none, 0, hki, Row.nil, hb.grown⟩
  · have hqt15_1b := hqt15_1
    replace hqt15_1 := Bool.eq_false_iff.1 hqt15_1
    try simp only [ne_eq, decide_eq_true_eq, Bool.and_eq_true, Bool.or_eq_true, Bool.not_eq_true', decide_eq_false_iff_not] at hqt15_1
    refine wp_region_lit ?_
    refine sqv hf (r_eq rfl rfl) rfl rfl rfl ?_; clear hf fa; intro fa hf
    refine sqv hf (r_assign rfl) rfl rfl rfl ?_; clear hf fa; intro fa hf
    apply wpList_nil
    (try simp only [Exit.then, Exit.inBlock, ↓reduceIte, Nat.reduceEqDiff])
    refine hK4 _ _ ?_
    refine wp_cond_split (t := (decide (((infP op).2.1) = (9 : Int)))) (hf.ev rfl) (fun hqt15_3 => ?_) (fun hqt15_3 => ?_)
    · have hqt15_3b := hqt15_3
      try simp only [decide_eq_true_eq, Bool.and_eq_true, Bool.or_eq_true, Bool.not_eq_true', decide_eq_false_iff_not, ne_eq, Bool.not_eq_true] at hqt15_3
      refine wp_seq_k (fun K7 hK7 => ?_)
      refine wp_region_lit ?_
      refine sqv hf (r_move rfl) rfl rfl rfl ?_; clear hf fa; intro fa hf
      refine sqv hf (r_lensl rfl Tryd.underlying43) rfl rfl rfl ?_; clear hf fa; intro fa hf
      refine sqv hf (r_eq rfl rfl) rfl rfl rfl ?_; clear hf fa; intro fa hf
      refine sqv hf (r_assign rfl) rfl rfl rfl ?_; clear hf fa; intro fa hf
      apply wpList_nil
      (try simp only [Exit.then, Exit.inBlock, ↓reduceIte, Nat.reduceEqDiff])
      refine hK7 _ _ ?_
      refine wp_ret ?_
      (try simp only [Exit.then, Exit.inBlock])
      refine ret1 hf rfl rfl ?_
      have hB : resB op W = 0 := by unfold resB; rw [if_neg (by have h0 := hqt15_1; have h1 := hqt15_3; omega)]
      have hL : resL op W = [] := by unfold resL; rw [if_pos (by have h0 := hqt15_1; have h1 := hqt15_3; omega)]
      have hK : resK op W = (decide (((W.length : Nat) : Int) = (0 : Int))) := by unfold resK; rw [if_pos (by have h0 := hqt15_1; have h1 := hqt15_3; omega)]; exact decide_eq_decide.2 (by omega)
      have hA : resA op W = (0 : Int) := by unfold resA; rw [if_pos (by have h0 := hqt15_1; have h1 := hqt15_3; omega)]
      rw [hK, hA, hB, hL]
      exact ⟨rfl, none, 0, hki, Row.nil, hb.grown⟩
    · have hqt15_3b := hqt15_3
      replace hqt15_3 := Bool.eq_false_iff.1 hqt15_3
      try simp only [ne_eq, decide_eq_true_eq, Bool.and_eq_true, Bool.or_eq_true, Bool.not_eq_true', decide_eq_false_iff_not] at hqt15_3
      refine wp_seq_k (fun K8 hK8 => ?_)
      refine wp_region_lit ?_
      refine sqv hf (r_eq rfl rfl) rfl rfl rfl ?_; clear hf fa; intro fa hf
      refine sqv hf (r_assign rfl) rfl rfl rfl ?_; clear hf fa; intro fa hf
      apply wpList_nil
      (try simp only [Exit.then, Exit.inBlock, ↓reduceIte, Nat.reduceEqDiff])
      refine hK8 _ _ ?_
      refine wp_cond_split (t := (decide (((infP op).2.1) = (1 : Int)))) (hf.ev rfl) (fun hqt21_1 => ?_) (fun hqt21_1 => ?_)
      · have hqt21_1b := hqt21_1
        try simp only [decide_eq_true_eq, Bool.and_eq_true, Bool.or_eq_true, Bool.not_eq_true', decide_eq_false_iff_not, ne_eq, Bool.not_eq_true] at hqt21_1
        refine wp_seq_k (fun K9 hK9 => ?_)
        refine wp_region_lit ?_
        refine sqv hf (r_move rfl) rfl rfl rfl ?_; clear hf fa; intro fa hf
        refine sqv hf (r_nilCheck rfl) rfl rfl rfl ?_; clear hf fa; intro fa hf
        refine sqv hf (r_fa rfl Tryd.underlying25 (f := 1) (q := 1) rfl (by kernel_rfl) rfl) rfl rfl rfl ?_; clear hf fa; intro fa hf
        refine sqn hf (d_storeK (T := 25) (v := (.int .u64 (64 : Int))) (cs := #[(.int .u8 ((op : Nat) : Int)), (.int .u64 (0 : Int)), (.int .u64 (0 : Int)), (.slice none 0 0)]) (cs' := #[(.int .u8 ((op : Nat) : Int)), (.int .u64 (64 : Int)), (.int .u64 (0 : Int)), (.slice none 0 0)]) rfl rfl (by kernel_rfl) (by kernel_rfl) hki (by kernel_rfl) (by kernel_rfl)) rfl rfl ?_; clear hf fa; rintro fa _ w2 ⟨hk1, hg1⟩ hf
        replace hb := hb.wrote hg1 hb.size
        apply wpList_nil
        (try simp only [Exit.then, Exit.inBlock, ↓reduceIte, Nat.reduceEqDiff])
        refine hK9 _ _ ?_
        refine wp_seq_k (fun K10 hK10 => ?_)
        refine wp_seq_k (fun K11 hK11 => ?_)
        refine wp_region_lit ?_
        refine sqv hf (r_move rfl) rfl rfl rfl ?_; clear hf fa; intro fa hf
        refine sqv hf (r_lensl rfl Tryd.underlying43) rfl rfl rfl ?_; clear hf fa; intro fa hf
        refine sqv hf (r_eq rfl rfl) rfl rfl rfl ?_; clear hf fa; intro fa hf
        apply wpList_nil
        (try simp only [Exit.then, Exit.inBlock, ↓reduceIte, Nat.reduceEqDiff])
        refine hK11 _ _ ?_
        refine wp_cond_split (t := (decide (((W.length : Nat) : Int) = (1 : Int)))) (hf.ev rfl) (fun hqt28_1 => ?_) (fun hqt28_1 => ?_)
        · have hqt28_1b := hqt28_1
          try simp only [decide_eq_true_eq, Bool.and_eq_true, Bool.or_eq_true, Bool.not_eq_true', decide_eq_false_iff_not, ne_eq, Bool.not_eq_true] at hqt28_1
          refine wp_region_lit ?_
          refine sqv hf (r_move rfl) rfl rfl rfl ?_; clear hf fa; intro fa hf
          refine sqv hf (r_move rfl) rfl rfl rfl ?_; clear hf fa; intro fa hf
          have hy1 : (W)[0]? = some (wd W 0) := (wd_at (by omega))
          obtain ⟨ab1, aoff1, hat1, hlb1, hel1⟩ := RdS.at hl hy1
          have hneab1 : ab1 ≠ bi := hnb _ hat1
          refine sqv hf (r_ixa (sz := 1) (j := 0) (evAt rfl hat1) rfl Tryd.underlying43 (by kernel_rfl) rfl (by omega) rfl) rfl rfl rfl ?_; clear hf fa; intro fa hf
          refine sqv hf (r_load (v := (.string (wd W 0))) rfl Tryd.underlying9 rfl (cellsAt_cell (cellsAt_kb hel1 hb hlb1 hneab1) (i := 0) rfl rfl)) rfl rfl rfl ?_; clear hf fa; intro fa hf
          refine sqdt hf (d_callB (v := (.int .u8 ((bytP (wd W 0))))) (vs := [(.string (wd W 0))]) rfl Tryd.func54 (by kernel_rfl) (by kernel_rfl) (byte_any (wd W 0) _)) rfl rfl rfl ?_; clear hf fa; rintro fa _ w3 ⟨rfl, he2⟩ hf
          replace hk1 := blk_ext hk1 he2
          replace hb := hb.trans (Below.mono he2 hb.size)
          refine sqv hf (r_conv (C := ((bytP (wd W 0)))) rfl Tryd.underlying5 Tryd.underlying22 (by rw [IntKind.wrap_u64]; omega)) rfl rfl rfl ?_; clear hf fa; intro fa hf
          refine sqv hf (r_nilCheck rfl) rfl rfl rfl ?_; clear hf fa; intro fa hf
          refine sqv hf (r_fa rfl Tryd.underlying25 (f := 1) (q := 1) rfl (by kernel_rfl) rfl) rfl rfl rfl ?_; clear hf fa; intro fa hf
          refine sqn hf (d_storeK (T := 25) (v := (.int .u64 ((bytP (wd W 0))))) (cs := #[(.int .u8 ((op : Nat) : Int)), (.int .u64 (64 : Int)), (.int .u64 (0 : Int)), (.slice none 0 0)]) (cs' := #[(.int .u8 ((op : Nat) : Int)), (.int .u64 ((bytP (wd W 0)))), (.int .u64 (0 : Int)), (.slice none 0 0)]) rfl rfl (by kernel_rfl) (by kernel_rfl) hk1 (by kernel_rfl) (by kernel_rfl)) rfl rfl ?_; clear hf fa; rintro fa _ w4 ⟨hk2, hg2⟩ hf
          replace hb := hb.wrote hg2 hb.size
          apply wpList_nil
          (try simp only [Exit.then, Exit.inBlock, ↓reduceIte, Nat.reduceEqDiff])
          refine hK10 _ _ ?_
          refine wp_seq_k (fun K12 hK12 => ?_)
          refine wp_region_lit ?_
          refine sqv hf (r_move rfl) rfl rfl rfl ?_; clear hf fa; intro fa hf
          refine sqv hf (r_lensl rfl Tryd.underlying43) rfl rfl rfl ?_; clear hf fa; intro fa hf
          refine sqv hf (r_le rfl rfl) rfl rfl rfl ?_; clear hf fa; intro fa hf
          refine sqv hf (r_assign rfl) rfl rfl rfl ?_; clear hf fa; intro fa hf
          apply wpList_nil
          (try simp only [Exit.then, Exit.inBlock, ↓reduceIte, Nat.reduceEqDiff])
          refine hK12 _ _ ?_
          refine wp_ret ?_
          (try simp only [Exit.then, Exit.inBlock])
          refine ret1 hf rfl rfl ?_
          have hB : resB op W = 0 := by unfold resB; rw [if_neg (by have h0 := hqt15_1; have h1 := hqt15_3; have h2 := hqt21_1; omega)]
          have hL : resL op W = [] := by unfold resL; rw [if_pos (by have h0 := hqt15_1; have h1 := hqt15_3; have h2 := hqt21_1; omega)]
          have hK : resK op W = (decide (((W.length : Nat) : Int) ≤ (1 : Int))) := by unfold resK; rw [if_neg (by have h0 := hqt15_1; have h1 := hqt15_3; have h2 := hqt21_1; omega), if_pos (by have h0 := hqt15_1; have h1 := hqt15_3; have h2 := hqt21_1; omega)]; exact decide_eq_decide.2 (by omega)
          have hA : resA op W = ((bytP (wd W 0))) := by unfold resA; rw [if_neg (by have h0 := hqt15_1; have h1 := hqt15_3; have h2 := hqt21_1; omega), if_pos (by have h0 := hqt15_1; have h1 := hqt15_3; have h2 := hqt21_1; omega)]; rw [if_pos (by have h := hqt28_1; omega)]
          rw [hK, hA, hB, hL]
          exact ⟨rfl, none, 0, hk2, Row.nil, hb.grown⟩
        · have hqt28_1b := hqt28_1
          replace hqt28_1 := Bool.eq_false_iff.1 hqt28_1
          try simp only [ne_eq, decide_eq_true_eq, Bool.and_eq_true, Bool.or_eq_true, Bool.not_eq_true', decide_eq_false_iff_not] at hqt28_1
          refine wp_skip ?_
          (try simp only [Exit.then, Exit.inBlock, ↓reduceIte, Nat.reduceEqDiff])
          refine hK10 _ _ ?_
          refine wp_seq_k (fun K13 hK13 => ?_)
          refine wp_region_lit ?_
          refine sqv hf (r_move rfl) rfl rfl rfl ?_; clear hf fa; intro fa hf
          refine sqv hf (r_lensl rfl Tryd.underlying43) rfl rfl rfl ?_; clear hf fa; intro fa hf
          refine sqv hf (r_le rfl rfl) rfl rfl rfl ?_; clear hf fa; intro fa hf
          refine sqv hf (r_assign rfl) rfl rfl rfl ?_; clear hf fa; intro fa hf
          apply wpList_nil
          (try simp only [Exit.then, Exit.inBlock, ↓reduceIte, Nat.reduceEqDiff])
          refine hK13 _ _ ?_
          refine wp_ret ?_
          (try simp only [Exit.then, Exit.inBlock])
          refine ret1 hf rfl rfl ?_
          have hB : resB op W = 0 := by unfold resB; rw [if_neg (by have h0 := hqt15_1; have h1 := hqt15_3; have h2 := hqt21_1; omega)]
          have hL : resL op W = [] := by unfold resL; rw [if_pos (by have h0 := hqt15_1; have h1 := hqt15_3; have h2 := hqt21_1; omega)]
          have hK : resK op W = (decide (((W.length : Nat) : Int) ≤ (1 : Int))) := by unfold resK; rw [if_neg (by have h0 := hqt15_1; have h1 := hqt15_3; have h2 := hqt21_1; omega), if_pos (by have h0 := hqt15_1; have h1 := hqt15_3; have h2 := hqt21_1; omega)]; exact decide_eq_decide.2 (by omega)
          have hA : resA op W = (64 : Int) := by unfold resA; rw [if_neg (by have h0 := hqt15_1; have h1 := hqt15_3; have h2 := hqt21_1; omega), if_pos (by have h0 := hqt15_1; have h1 := hqt15_3; have h2 := hqt21_1; omega)]; rw [if_neg (by have h := hqt28_1; omega)]
          rw [hK, hA, hB, hL]
          exact ⟨rfl, none, 0, hk1, Row.nil, hb.grown⟩
      · have hqt21_1b := hqt21_1
        replace hqt21_1 := Bool.eq_false_iff.1 hqt21_1
        try simp only [ne_eq, decide_eq_true_eq, Bool.and_eq_true, Bool.or_eq_true, Bool.not_eq_true', decide_eq_false_iff_not] at hqt21_1
        refine wp_seq_k (fun K14 hK14 => ?_)
        refine wp_region_lit ?_
        refine sqv hf (r_eq rfl rfl) rfl rfl rfl ?_; clear hf fa; intro fa hf
        refine sqv hf (r_assign rfl) rfl rfl rfl ?_; clear hf fa; intro fa hf
        apply wpList_nil
        (try simp only [Exit.then, Exit.inBlock, ↓reduceIte, Nat.reduceEqDiff])
        refine hK14 _ _ ?_
        refine wp_cond_split (t := (decide (((infP op).2.1) = (8 : Int)))) (hf.ev rfl) (fun hqt40_1 => ?_) (fun hqt40_1 => ?_)
        · have hqt40_1b := hqt40_1
          try simp only [decide_eq_true_eq, Bool.and_eq_true, Bool.or_eq_true, Bool.not_eq_true', decide_eq_false_iff_not, ne_eq, Bool.not_eq_true] at hqt40_1
          refine wp_seq_k (fun K15 hK15 => ?_)
          refine wp_region_lit ?_
          refine sqv hf (r_move rfl) rfl rfl rfl ?_; clear hf fa; intro fa hf
          refine sqv hf (r_move rfl) rfl rfl rfl ?_; clear hf fa; intro fa hf
          refine sqdt hf (d_callW (v := (.bool (accK W))) (b := bi) (T := 25) (cs := #[(.int .u8 ((op : Nat) : Int)), (.int .u64 ((accP W).1)), (.int .u64 ((accP W).2)), (.slice none 0 0)]) (vs := [(.pointer (some ⟨bi, 0, none⟩)), (.slice a W.length c)]) rfl Tryd.func55 (by kernel_rfl) (by kernel_rfl) (access_any op bi a W c _ hnb hki (RdS.kb hl hb hnb) hc hn hW hop)) rfl rfl rfl ?_; clear hf fa; rintro fa _ w5 ⟨rfl, hk3, hg3⟩ hf
          replace hb := hb.wrote hg3 hb.size
          refine sqv hf (r_assign rfl) rfl rfl rfl ?_; clear hf fa; intro fa hf
          apply wpList_nil
          (try simp only [Exit.then, Exit.inBlock, ↓reduceIte, Nat.reduceEqDiff])
          refine hK15 _ _ ?_
          refine wp_ret ?_
          (try simp only [Exit.then, Exit.inBlock])
          refine ret1 hf rfl rfl ?_
          have hB : resB op W = (accP W).2 := by unfold resB; rw [if_pos (by have h0 := hqt15_1; have h1 := hqt15_3; have h2 := hqt21_1; have h3 := hqt40_1; omega)]
          have hL : resL op W = [] := by unfold resL; rw [if_pos (by have h0 := hqt15_1; have h1 := hqt15_3; have h2 := hqt21_1; have h3 := hqt40_1; omega)]
          have hK : resK op W = (accK W) := by unfold resK; rw [if_neg (by have h0 := hqt15_1; have h1 := hqt15_3; have h2 := hqt21_1; have h3 := hqt40_1; omega), if_neg (by have h0 := hqt15_1; have h1 := hqt15_3; have h2 := hqt21_1; have h3 := hqt40_1; omega), if_pos (by have h0 := hqt15_1; have h1 := hqt15_3; have h2 := hqt21_1; have h3 := hqt40_1; omega)]
          have hA : resA op W = ((accP W).1) := by unfold resA; rw [if_neg (by have h0 := hqt15_1; have h1 := hqt15_3; have h2 := hqt21_1; have h3 := hqt40_1; omega), if_neg (by have h0 := hqt15_1; have h1 := hqt15_3; have h2 := hqt21_1; have h3 := hqt40_1; omega), if_pos (by have h0 := hqt15_1; have h1 := hqt15_3; have h2 := hqt21_1; have h3 := hqt40_1; omega)]
          rw [hK, hA, hB, hL]
          exact ⟨rfl, none, 0, hk3, Row.nil, hb.grown⟩
        · have hqt40_1b := hqt40_1
          replace hqt40_1 := Bool.eq_false_iff.1 hqt40_1
          try simp only [ne_eq, decide_eq_true_eq, Bool.and_eq_true, Bool.or_eq_true, Bool.not_eq_true', decide_eq_false_iff_not] at hqt40_1
          refine wp_seq_k (fun K16 hK16 => ?_)
          refine wp_region_lit ?_
          refine sqv hf (r_eq rfl rfl) rfl rfl rfl ?_; clear hf fa; intro fa hf
          refine sqv hf (r_assign rfl) rfl rfl rfl ?_; clear hf fa; intro fa hf
          apply wpList_nil
          (try simp only [Exit.then, Exit.inBlock, ↓reduceIte, Nat.reduceEqDiff])
          refine hK16 _ _ ?_
          refine wp_cond_split (t := (decide (((infP op).2.1) = (10 : Int)))) (hf.ev rfl) (fun hqt45_1 => ?_) (fun hqt45_1 => ?_)
          · have hqt45_1b := hqt45_1
            try simp only [decide_eq_true_eq, Bool.and_eq_true, Bool.or_eq_true, Bool.not_eq_true', decide_eq_false_iff_not, ne_eq, Bool.not_eq_true] at hqt45_1
            refine wp_seq_k (fun K17 hK17 => ?_)
            refine wp_region_lit ?_
            refine sqv hf (r_move rfl) rfl rfl rfl ?_; clear hf fa; intro fa hf
            refine sqv hf (r_move rfl) rfl rfl rfl ?_; clear hf fa; intro fa hf
            refine sqdt hf (d_callW (v := (.bool (conP W true).2)) (b := bi) (T := 25) (cs := #[(.int .u8 ((op : Nat) : Int)), (.int .u64 ((conP W true).1)), (.int .u64 (0 : Int)), (.slice none 0 0)]) (vs := [(.pointer (some ⟨bi, 0, none⟩)), (.slice a W.length c), (.bool true)]) rfl Tryd.func56 (by kernel_rfl) (by kernel_rfl) (constant_any op bi a W c true _ hnb hki (RdS.kb hl hb hnb) hc hn hW hop)) rfl rfl rfl ?_; clear hf fa; rintro fa _ w6 ⟨rfl, hk4, hg4⟩ hf
            replace hb := hb.wrote hg4 hb.size
            refine sqv hf (r_assign rfl) rfl rfl rfl ?_; clear hf fa; intro fa hf
            apply wpList_nil
            (try simp only [Exit.then, Exit.inBlock, ↓reduceIte, Nat.reduceEqDiff])
            refine hK17 _ _ ?_
            refine wp_ret ?_
            (try simp only [Exit.then, Exit.inBlock])
            refine ret1 hf rfl rfl ?_
            have hB : resB op W = 0 := by unfold resB; rw [if_neg (by have h0 := hqt15_1; have h1 := hqt15_3; have h2 := hqt21_1; have h3 := hqt40_1; have h4 := hqt45_1; omega)]
            have hL : resL op W = [] := by unfold resL; rw [if_pos (by have h0 := hqt15_1; have h1 := hqt15_3; have h2 := hqt21_1; have h3 := hqt40_1; have h4 := hqt45_1; omega)]
            have hK : resK op W = (conP W true).2 := by unfold resK; rw [if_neg (by have h0 := hqt15_1; have h1 := hqt15_3; have h2 := hqt21_1; have h3 := hqt40_1; have h4 := hqt45_1; omega), if_neg (by have h0 := hqt15_1; have h1 := hqt15_3; have h2 := hqt21_1; have h3 := hqt40_1; have h4 := hqt45_1; omega), if_neg (by have h0 := hqt15_1; have h1 := hqt15_3; have h2 := hqt21_1; have h3 := hqt40_1; have h4 := hqt45_1; omega), if_pos (by have h0 := hqt15_1; have h1 := hqt15_3; have h2 := hqt21_1; have h3 := hqt40_1; have h4 := hqt45_1; omega)]
            have hA : resA op W = ((conP W true).1) := by unfold resA; rw [if_neg (by have h0 := hqt15_1; have h1 := hqt15_3; have h2 := hqt21_1; have h3 := hqt40_1; have h4 := hqt45_1; omega), if_neg (by have h0 := hqt15_1; have h1 := hqt15_3; have h2 := hqt21_1; have h3 := hqt40_1; have h4 := hqt45_1; omega), if_neg (by have h0 := hqt15_1; have h1 := hqt15_3; have h2 := hqt21_1; have h3 := hqt40_1; have h4 := hqt45_1; omega), if_pos (by have h0 := hqt15_1; have h1 := hqt15_3; have h2 := hqt21_1; have h3 := hqt40_1; have h4 := hqt45_1; omega)]
            rw [hK, hA, hB, hL]
            exact ⟨rfl, none, 0, hk4, Row.nil, hb.grown⟩
          · have hqt45_1b := hqt45_1
            replace hqt45_1 := Bool.eq_false_iff.1 hqt45_1
            try simp only [ne_eq, decide_eq_true_eq, Bool.and_eq_true, Bool.or_eq_true, Bool.not_eq_true', decide_eq_false_iff_not] at hqt45_1
            refine wp_seq_k (fun K18 hK18 => ?_)
            refine wp_region_lit ?_
            refine sqv hf (r_eq rfl rfl) rfl rfl rfl ?_; clear hf fa; intro fa hf
            refine sqv hf (r_assign rfl) rfl rfl rfl ?_; clear hf fa; intro fa hf
            apply wpList_nil
            (try simp only [Exit.then, Exit.inBlock, ↓reduceIte, Nat.reduceEqDiff])
            refine hK18 _ _ ?_
            refine wp_cond_split (t := (decide (((infP op).2.1) = (11 : Int)))) (hf.ev rfl) (fun hqt50_1 => ?_) (fun hqt50_1 => ?_)
            · have hqt50_1b := hqt50_1
              try simp only [decide_eq_true_eq, Bool.and_eq_true, Bool.or_eq_true, Bool.not_eq_true', decide_eq_false_iff_not, ne_eq, Bool.not_eq_true] at hqt50_1
              refine wp_seq_k (fun K19 hK19 => ?_)
              refine wp_region_lit ?_
              refine sqv hf (r_move rfl) rfl rfl rfl ?_; clear hf fa; intro fa hf
              refine sqv hf (r_move rfl) rfl rfl rfl ?_; clear hf fa; intro fa hf
              refine sqdt hf (d_callW (v := (.bool (conP W false).2)) (b := bi) (T := 25) (cs := #[(.int .u8 ((op : Nat) : Int)), (.int .u64 ((conP W false).1)), (.int .u64 (0 : Int)), (.slice none 0 0)]) (vs := [(.pointer (some ⟨bi, 0, none⟩)), (.slice a W.length c), (.bool false)]) rfl Tryd.func56 (by kernel_rfl) (by kernel_rfl) (constant_any op bi a W c false _ hnb hki (RdS.kb hl hb hnb) hc hn hW hop)) rfl rfl rfl ?_; clear hf fa; rintro fa _ w7 ⟨rfl, hk5, hg5⟩ hf
              replace hb := hb.wrote hg5 hb.size
              refine sqv hf (r_assign rfl) rfl rfl rfl ?_; clear hf fa; intro fa hf
              apply wpList_nil
              (try simp only [Exit.then, Exit.inBlock, ↓reduceIte, Nat.reduceEqDiff])
              refine hK19 _ _ ?_
              refine wp_ret ?_
              (try simp only [Exit.then, Exit.inBlock])
              refine ret1 hf rfl rfl ?_
              have hB : resB op W = 0 := by unfold resB; rw [if_neg (by have h0 := hqt15_1; have h1 := hqt15_3; have h2 := hqt21_1; have h3 := hqt40_1; have h4 := hqt45_1; have h5 := hqt50_1; omega)]
              have hL : resL op W = [] := by unfold resL; rw [if_pos (by have h0 := hqt15_1; have h1 := hqt15_3; have h2 := hqt21_1; have h3 := hqt40_1; have h4 := hqt45_1; have h5 := hqt50_1; omega)]
              have hK : resK op W = (conP W false).2 := by unfold resK; rw [if_neg (by have h0 := hqt15_1; have h1 := hqt15_3; have h2 := hqt21_1; have h3 := hqt40_1; have h4 := hqt45_1; have h5 := hqt50_1; omega), if_neg (by have h0 := hqt15_1; have h1 := hqt15_3; have h2 := hqt21_1; have h3 := hqt40_1; have h4 := hqt45_1; have h5 := hqt50_1; omega), if_neg (by have h0 := hqt15_1; have h1 := hqt15_3; have h2 := hqt21_1; have h3 := hqt40_1; have h4 := hqt45_1; have h5 := hqt50_1; omega), if_neg (by have h0 := hqt15_1; have h1 := hqt15_3; have h2 := hqt21_1; have h3 := hqt40_1; have h4 := hqt45_1; have h5 := hqt50_1; omega), if_pos (by have h0 := hqt15_1; have h1 := hqt15_3; have h2 := hqt21_1; have h3 := hqt40_1; have h4 := hqt45_1; have h5 := hqt50_1; omega)]
              have hA : resA op W = ((conP W false).1) := by unfold resA; rw [if_neg (by have h0 := hqt15_1; have h1 := hqt15_3; have h2 := hqt21_1; have h3 := hqt40_1; have h4 := hqt45_1; have h5 := hqt50_1; omega), if_neg (by have h0 := hqt15_1; have h1 := hqt15_3; have h2 := hqt21_1; have h3 := hqt40_1; have h4 := hqt45_1; have h5 := hqt50_1; omega), if_neg (by have h0 := hqt15_1; have h1 := hqt15_3; have h2 := hqt21_1; have h3 := hqt40_1; have h4 := hqt45_1; have h5 := hqt50_1; omega), if_neg (by have h0 := hqt15_1; have h1 := hqt15_3; have h2 := hqt21_1; have h3 := hqt40_1; have h4 := hqt45_1; have h5 := hqt50_1; omega), if_pos (by have h0 := hqt15_1; have h1 := hqt15_3; have h2 := hqt21_1; have h3 := hqt40_1; have h4 := hqt45_1; have h5 := hqt50_1; omega)]
              rw [hK, hA, hB, hL]
              exact ⟨rfl, none, 0, hk5, Row.nil, hb.grown⟩
            · have hqt50_1b := hqt50_1
              replace hqt50_1 := Bool.eq_false_iff.1 hqt50_1
              try simp only [ne_eq, decide_eq_true_eq, Bool.and_eq_true, Bool.or_eq_true, Bool.not_eq_true', decide_eq_false_iff_not] at hqt50_1
              refine wp_skip ?_
              (try simp only [Exit.then, Exit.inBlock, ↓reduceIte, Nat.reduceEqDiff])
              refine hK2 _ _ ?_
              refine wp_seq_k (fun K20 hK20 => ?_)
              refine wp_region_lit ?_
              refine sqv hf (r_move rfl) rfl rfl rfl ?_; clear hf fa; intro fa hf
              refine sqdt hf (d_callX (vs := [(.slice a W.length c)]) rfl Tryd.func57 (by kernel_rfl) (by kernel_rfl) (numbers_any a W c _ (RdS.kb hl hb hnb) hc hn hW)) rfl rfl rfl ?_; clear hf fa; rintro fa _ w8 ⟨ra1, rc1, rfl, hr1, he3⟩ hf
              replace hr1 := Row.rebase hr1 hb.size
              replace hki := blk_ext hki he3
              replace hb := hb.trans (Below.mono he3 hb.size)
              have hchr1 := Row.caps hr1
              refine sqv hf (r_move rfl) rfl rfl rfl ?_; clear hf fa; intro fa hf
              refine sqv hf (r_extract rfl (i := 0) rfl) rfl rfl rfl ?_; clear hf fa; intro fa hf
              refine sqv hf (r_extract rfl (i := 1) rfl) rfl rfl rfl ?_; clear hf fa; intro fa hf
              refine sqv hf (r_assign rfl) rfl rfl rfl ?_; clear hf fa; intro fa hf
              refine sqv hf (r_assign rfl) rfl rfl rfl ?_; clear hf fa; intro fa hf
              apply wpList_nil
              (try simp only [Exit.then, Exit.inBlock, ↓reduceIte, Nat.reduceEqDiff])
              refine hK20 _ _ ?_
              refine wp_seq_k (fun K21 hK21 => ?_)
              refine wp_seq_k (fun K22 hK22 => ?_)
              refine wp_region_lit ?_
              refine sqv hf (r_move rfl) rfl rfl rfl ?_; clear hf fa; intro fa hf
              refine sqv hf (r_not rfl) rfl rfl rfl ?_; clear hf fa; intro fa hf
              refine sqv hf (r_move rfl) rfl rfl rfl ?_; clear hf fa; intro fa hf
              refine sqgF (act := (!(!(nbsP W).2))) (ag := true) (c := (!(nbsP W).2)) (v := (.slice ra1 (((nbsP W).1.length)) rc1)) hf rfl rfl rfl (fun hact => (r_move rfl)) rfl rfl ?_; clear hf fa; intro fa hf
              refine sqgF (act := (!(!(nbsP W).2))) (ag := true) (c := (!(nbsP W).2)) (v := (.int .i64 ((((nbsP W).1.length) : Nat) : Int))) hf rfl rfl rfl (fun hact => (r_lensl (gb_ev hact rfl) Tryd.underlying91)) rfl rfl ?_; clear hf fa; intro fa hf
              refine sqgF (act := (!(!(nbsP W).2))) (ag := true) (c := (!(nbsP W).2)) (v := (.bool (decide (((((nbsP W).1.length) : Nat) : Int) = (0 : Int))))) hf rfl rfl rfl (fun hact => (r_eq (gb_ev hact rfl) rfl)) rfl rfl ?_; clear hf fa; intro fa hf
              refine sqv hf (r_pickO (b := (!(nbsP W).2)) (e := (decide (((((nbsP W).1.length) : Nat) : Int) = (0 : Int)))) rfl rfl rfl) rfl rfl rfl ?_; clear hf fa; intro fa hf
              refine sqv hf (r_move rfl) rfl rfl rfl ?_; clear hf fa; intro fa hf
              refine sqgF (act := (!((!(nbsP W).2) || (decide (((((nbsP W).1.length) : Nat) : Int) = (0 : Int)))))) (ag := true) (c := ((!(nbsP W).2) || (decide (((((nbsP W).1.length) : Nat) : Int) = (0 : Int))))) (v := (.slice ra1 (((nbsP W).1.length)) rc1)) hf rfl rfl rfl (fun hact => (r_move rfl)) rfl rfl ?_; clear hf fa; intro fa hf
              refine sqgF (act := (!((!(nbsP W).2) || (decide (((((nbsP W).1.length) : Nat) : Int) = (0 : Int)))))) (ag := true) (c := ((!(nbsP W).2) || (decide (((((nbsP W).1.length) : Nat) : Int) = (0 : Int))))) (v := (.int .i64 ((((nbsP W).1.length) : Nat) : Int))) hf rfl rfl rfl (fun hact => (r_lensl (gb_ev hact rfl) Tryd.underlying91)) rfl rfl ?_; clear hf fa; intro fa hf
              refine sqgF (act := (!((!(nbsP W).2) || (decide (((((nbsP W).1.length) : Nat) : Int) = (0 : Int)))))) (ag := true) (c := ((!(nbsP W).2) || (decide (((((nbsP W).1.length) : Nat) : Int) = (0 : Int))))) (v := (.bool (decide ((1 : Int) < ((((nbsP W).1.length) : Nat) : Int))))) hf rfl rfl rfl (fun hact => (r_gt (gb_ev hact rfl) rfl)) rfl rfl ?_; clear hf fa; intro fa hf
              refine sqgF (act := (!((!(nbsP W).2) || (decide (((((nbsP W).1.length) : Nat) : Int) = (0 : Int)))))) (ag := true) (c := ((!(nbsP W).2) || (decide (((((nbsP W).1.length) : Nat) : Int) = (0 : Int))))) (v := (.bool (decide ((1 : Int) < ((((nbsP W).1.length) : Nat) : Int))))) hf rfl rfl rfl (fun hact => (r_move (gb_ev hact rfl))) rfl rfl ?_; clear hf fa; intro fa hf
              refine sqgT (act := ((!((!(nbsP W).2) || (decide (((((nbsP W).1.length) : Nat) : Int) = (0 : Int))))) && (decide ((1 : Int) < ((((nbsP W).1.length) : Nat) : Int))))) (ag := (!((!(nbsP W).2) || (decide (((((nbsP W).1.length) : Nat) : Int) = (0 : Int)))))) (c := (decide ((1 : Int) < ((((nbsP W).1.length) : Nat) : Int)))) (v := (.pointer (some ⟨bi, 0, none⟩))) hf rfl rfl rfl (fun hact => (r_move rfl)) rfl rfl ?_; clear hf fa; intro fa hf
              refine sqgT (act := ((!((!(nbsP W).2) || (decide (((((nbsP W).1.length) : Nat) : Int) = (0 : Int))))) && (decide ((1 : Int) < ((((nbsP W).1.length) : Nat) : Int))))) (ag := (!((!(nbsP W).2) || (decide (((((nbsP W).1.length) : Nat) : Int) = (0 : Int)))))) (c := (decide ((1 : Int) < ((((nbsP W).1.length) : Nat) : Int)))) (v := (.pointer (some ⟨bi, 0, none⟩))) hf rfl rfl rfl (fun hact => (r_nilCheck (gb_ev hact rfl))) rfl rfl ?_; clear hf fa; intro fa hf
              refine sqgT (act := ((!((!(nbsP W).2) || (decide (((((nbsP W).1.length) : Nat) : Int) = (0 : Int))))) && (decide ((1 : Int) < ((((nbsP W).1.length) : Nat) : Int))))) (ag := (!((!(nbsP W).2) || (decide (((((nbsP W).1.length) : Nat) : Int) = (0 : Int)))))) (c := (decide ((1 : Int) < ((((nbsP W).1.length) : Nat) : Int)))) (v := (.pointer (some ⟨bi, 0, none⟩))) hf rfl rfl rfl (fun hact => (r_fa (gb_ev hact rfl) Tryd.underlying25 (f := 0) (q := 0) rfl (by kernel_rfl) rfl)) rfl rfl ?_; clear hf fa; intro fa hf
              refine sqgT (act := ((!((!(nbsP W).2) || (decide (((((nbsP W).1.length) : Nat) : Int) = (0 : Int))))) && (decide ((1 : Int) < ((((nbsP W).1.length) : Nat) : Int))))) (ag := (!((!(nbsP W).2) || (decide (((((nbsP W).1.length) : Nat) : Int) = (0 : Int)))))) (c := (decide ((1 : Int) < ((((nbsP W).1.length) : Nat) : Int)))) (v := (.int .u8 ((op : Nat) : Int))) hf rfl rfl rfl (fun hact => (r_load (v := (.int .u8 ((op : Nat) : Int))) (gb_ev hact rfl) Tryd.underlying5 rfl (cell_blk hki rfl))) rfl rfl ?_; clear hf fa; intro fa hf
              refine sqgd (R := fun vq wq => vq = gb ((!((!(nbsP W).2) || (decide (((((nbsP W).1.length) : Nat) : Int) = (0 : Int))))) && (decide ((1 : Int) < ((((nbsP W).1.length) : Nat) : Int)))) (.agg #[(.string (infP op).1), (.int .i64 ((infP op).2.1)), (.string (infP op).2.2.1), (.string (infP op).2.2.2.1), (.bool (infP op).2.2.2.2.1)]) ∧ Below w8.heap.size w8 wq) (act := ((!((!(nbsP W).2) || (decide (((((nbsP W).1.length) : Nat) : Int) = (0 : Int))))) && (decide ((1 : Int) < ((((nbsP W).1.length) : Nat) : Int))))) (g := 11) (want := true) (ag := (!((!(nbsP W).2) || (decide (((((nbsP W).1.length) : Nat) : Int) = (0 : Int)))))) (c := (decide ((1 : Int) < ((((nbsP W).1.length) : Nat) : Int)))) hf (by rfl) (by rfl) (act_T _ _) (fun hact => (d_callB (vs := [(.int .u8 ((op : Nat) : Int))]) (cons_ev (gb_ev hact rfl) rfl) Tryd.func20 (by kernel_rfl) (by kernel_rfl) (inf_any op _ hop)).mono (fun _ _ h => ⟨by rw [h.1, hact]; rfl, h.2⟩)) (fun h => ⟨by rw [h]; rfl, Below.refl _ _⟩) rfl ?_; clear hf fa; rintro fa _ w9 ⟨rfl, he4⟩ hf
              replace hki := blk_ext hki he4
              replace hr1 := Row.ext hr1 he4
              replace hb := hb.trans (Below.mono he4 hb.size)
              change Fr _ _ ((76, (gb ((!((!(nbsP W).2) || (decide (((((nbsP W).1.length) : Nat) : Int) = (0 : Int))))) && (decide ((1 : Int) < ((((nbsP W).1.length) : Nat) : Int)))) (.agg #[(.string (infP op).1), (.int .i64 ((infP op).2.1)), (.string (infP op).2.2.1), (.string (infP op).2.2.2.1), (.bool (infP op).2.2.2.2.1)]))) :: _) at hf
              refine sqgT (act := ((!((!(nbsP W).2) || (decide (((((nbsP W).1.length) : Nat) : Int) = (0 : Int))))) && (decide ((1 : Int) < ((((nbsP W).1.length) : Nat) : Int))))) (ag := (!((!(nbsP W).2) || (decide (((((nbsP W).1.length) : Nat) : Int) = (0 : Int)))))) (c := (decide ((1 : Int) < ((((nbsP W).1.length) : Nat) : Int)))) (v := (.int .i64 ((infP op).2.1))) hf rfl rfl rfl (fun hact => (r_field (cs := #[(.string (infP op).1), (.int .i64 ((infP op).2.1)), (.string (infP op).2.2.1), (.string (infP op).2.2.2.1), (.bool (infP op).2.2.2.2.1)]) (v := (.int .i64 ((infP op).2.1))) (gb_ev hact rfl) (fun _ => by kernel_rfl))) rfl rfl ?_; clear hf fa; intro fa hf
              refine sqgT (act := ((!((!(nbsP W).2) || (decide (((((nbsP W).1.length) : Nat) : Int) = (0 : Int))))) && (decide ((1 : Int) < ((((nbsP W).1.length) : Nat) : Int))))) (ag := (!((!(nbsP W).2) || (decide (((((nbsP W).1.length) : Nat) : Int) = (0 : Int)))))) (c := (decide ((1 : Int) < ((((nbsP W).1.length) : Nat) : Int)))) (v := (.bool (decide (((infP op).2.1) ≠ (3 : Int))))) hf rfl rfl rfl (fun hact => (r_ne (gb_ev hact rfl) rfl)) rfl rfl ?_; clear hf fa; intro fa hf
              refine sqgF (act := (!((!(nbsP W).2) || (decide (((((nbsP W).1.length) : Nat) : Int) = (0 : Int)))))) (ag := true) (c := ((!(nbsP W).2) || (decide (((((nbsP W).1.length) : Nat) : Int) = (0 : Int))))) (v := (.bool ((decide ((1 : Int) < ((((nbsP W).1.length) : Nat) : Int))) && (decide (((infP op).2.1) ≠ (3 : Int)))))) hf rfl rfl rfl (fun hact => (r_pickA2 (q := (!((!(nbsP W).2) || (decide (((((nbsP W).1.length) : Nat) : Int) = (0 : Int)))))) (b := (decide ((1 : Int) < ((((nbsP W).1.length) : Nat) : Int)))) (e := (decide (((infP op).2.1) ≠ (3 : Int)))) hact rfl rfl rfl)) rfl rfl ?_; clear hf fa; intro fa hf
              refine sqv hf (r_pickO (b := ((!(nbsP W).2) || (decide (((((nbsP W).1.length) : Nat) : Int) = (0 : Int))))) (e := ((decide ((1 : Int) < ((((nbsP W).1.length) : Nat) : Int))) && (decide (((infP op).2.1) ≠ (3 : Int))))) rfl rfl rfl) rfl rfl rfl ?_; clear hf fa; intro fa hf
              apply wpList_nil
              (try simp only [Exit.then, Exit.inBlock, ↓reduceIte, Nat.reduceEqDiff])
              refine hK22 _ _ ?_
              refine wp_cond_split (t := (((!(nbsP W).2) || (decide (((((nbsP W).1.length) : Nat) : Int) = (0 : Int)))) || ((decide ((1 : Int) < ((((nbsP W).1.length) : Nat) : Int))) && (decide (((infP op).2.1) ≠ (3 : Int)))))) (hf.ev rfl) (fun hqt80_1 => ?_) (fun hqt80_1 => ?_)
              · have hqt80_1b := hqt80_1
                try simp only [decide_eq_true_eq, Bool.and_eq_true, Bool.or_eq_true, Bool.not_eq_true', decide_eq_false_iff_not, ne_eq, Bool.not_eq_true] at hqt80_1
                refine wp_seq_k (fun K23 hK23 => ?_)
                refine wp_region_lit ?_
                refine sqv hf (r_assign rfl) rfl rfl rfl ?_; clear hf fa; intro fa hf
                apply wpList_nil
                (try simp only [Exit.then, Exit.inBlock, ↓reduceIte, Nat.reduceEqDiff])
                refine hK23 _ _ ?_
                refine wp_ret ?_
                (try simp only [Exit.then, Exit.inBlock])
                refine ret1 hf rfl rfl ?_
                have h8 : lblK op W = false := lblK_no hqt80_1
                have hB : resB op W = 0 := by unfold resB; rw [if_neg (by have h0 := hqt15_1; have h1 := hqt15_3; have h2 := hqt21_1; have h3 := hqt40_1; have h4 := hqt45_1; have h5 := hqt50_1; omega)]
                have hK : resK op W = false := by unfold resK; rw [if_neg (by have h0 := hqt15_1; have h1 := hqt15_3; have h2 := hqt21_1; have h3 := hqt40_1; have h4 := hqt45_1; have h5 := hqt50_1; omega), if_neg (by have h0 := hqt15_1; have h1 := hqt15_3; have h2 := hqt21_1; have h3 := hqt40_1; have h4 := hqt45_1; have h5 := hqt50_1; omega), if_neg (by have h0 := hqt15_1; have h1 := hqt15_3; have h2 := hqt21_1; have h3 := hqt40_1; have h4 := hqt45_1; have h5 := hqt50_1; omega), if_neg (by have h0 := hqt15_1; have h1 := hqt15_3; have h2 := hqt21_1; have h3 := hqt40_1; have h4 := hqt45_1; have h5 := hqt50_1; omega), if_neg (by have h0 := hqt15_1; have h1 := hqt15_3; have h2 := hqt21_1; have h3 := hqt40_1; have h4 := hqt45_1; have h5 := hqt50_1; omega)]; exact h8
                have hA : resA op W = (0 : Int) := by unfold resA; rw [if_neg (by have h0 := hqt15_1; have h1 := hqt15_3; have h2 := hqt21_1; have h3 := hqt40_1; have h4 := hqt45_1; have h5 := hqt50_1; omega), if_neg (by have h0 := hqt15_1; have h1 := hqt15_3; have h2 := hqt21_1; have h3 := hqt40_1; have h4 := hqt45_1; have h5 := hqt50_1; omega), if_neg (by have h0 := hqt15_1; have h1 := hqt15_3; have h2 := hqt21_1; have h3 := hqt40_1; have h4 := hqt45_1; have h5 := hqt50_1; omega), if_neg (by have h0 := hqt15_1; have h1 := hqt15_3; have h2 := hqt21_1; have h3 := hqt40_1; have h4 := hqt45_1; have h5 := hqt50_1; omega), if_neg (by have h0 := hqt15_1; have h1 := hqt15_3; have h2 := hqt21_1; have h3 := hqt40_1; have h4 := hqt45_1; have h5 := hqt50_1; omega)]; rw [if_neg (by rw [h8]; decide)]
                have hL : resL op W = [] := by unfold resL; rw [if_neg (by have h0 := hqt15_1; have h1 := hqt15_3; have h2 := hqt21_1; have h3 := hqt40_1; have h4 := hqt45_1; have h5 := hqt50_1; omega), if_neg (by rw [h8]; decide)]
                rw [hK, hA, hB, hL]
                exact ⟨rfl, _, _, hki, Row.nil, hb.grown⟩
              · have hqt80_1b := hqt80_1
                replace hqt80_1 := Bool.eq_false_iff.1 hqt80_1
                try simp only [ne_eq, decide_eq_true_eq, Bool.and_eq_true, Bool.or_eq_true, Bool.not_eq_true', decide_eq_false_iff_not] at hqt80_1
                refine wp_skip ?_
                (try simp only [Exit.then, Exit.inBlock, ↓reduceIte, Nat.reduceEqDiff])
                refine hK21 _ _ ?_
                refine wp_seq_k (fun K24 hK24 => ?_)
                refine wp_region_lit ?_
                refine sqv hf (r_move rfl) rfl rfl rfl ?_; clear hf fa; intro fa hf
                refine sqv hf (r_move rfl) rfl rfl rfl ?_; clear hf fa; intro fa hf
                refine sqv hf (r_move rfl) rfl rfl rfl ?_; clear hf fa; intro fa hf
                refine sqv hf (r_lensl rfl Tryd.underlying91) rfl rfl rfl ?_; clear hf fa; intro fa hf
                refine sqv hf (r_sub (C := (((((nbsP W).1.length) : Nat) : Int) - (1 : Int))) rfl rfl (by rw [IntKind.wrap_i64]; omega)) rfl rfl rfl ?_; clear hf fa; intro fa hf
                obtain ⟨rb1, rfl, hbbrb1, hlbrb1⟩ := Row.some hr1 (by first | omega | (simp only [Sl.list_length, List.length_set, List.length_take, List.length_append, List.length_replicate, List.length_cons, List.length_nil, List.length_map, nums_len]; omega))
                have hy2 : ((nbsP W).1)[((((nbsP W).1.length)) - 1)]? = some ((nbsP W).1.getD ((((nbsP W).1.length)) - 1) 0) := (getD_int (by omega))
                have hel2 := RdS.at (Row.rd (by intros; rfl) hr1) hy2
                obtain ⟨_, _, hab, hlr1, hel2⟩ := hel2
                cases hab
                refine sqv hf (r_ixa (sz := 1) (j := ((((nbsP W).1.length)) - 1)) rfl rfl Tryd.underlying91 (by kernel_rfl) (by omega) (by omega) rfl) rfl rfl rfl ?_; clear hf fa; intro fa hf
                refine sqv hf (r_load (v := (.int .u64 (((nbsP W).1.getD ((((nbsP W).1.length)) - 1) 0)))) rfl Tryd.underlying22 rfl (cellsAt_cell hel2 (i := 0) rfl rfl)) rfl rfl rfl ?_; clear hf fa; intro fa hf
                refine sqv hf (r_nilCheck rfl) rfl rfl rfl ?_; clear hf fa; intro fa hf
                refine sqv hf (r_fa rfl Tryd.underlying25 (f := 1) (q := 1) rfl (by kernel_rfl) rfl) rfl rfl rfl ?_; clear hf fa; intro fa hf
                refine sqn hf (d_storeK (T := 25) (v := (.int .u64 (((nbsP W).1.getD ((((nbsP W).1.length)) - 1) 0)))) (cs := #[(.int .u8 ((op : Nat) : Int)), (.int .u64 (0 : Int)), (.int .u64 (0 : Int)), (.slice none 0 0)]) (cs' := #[(.int .u8 ((op : Nat) : Int)), (.int .u64 (((nbsP W).1.getD ((((nbsP W).1.length)) - 1) 0))), (.int .u64 (0 : Int)), (.slice none 0 0)]) rfl rfl (by kernel_rfl) (by kernel_rfl) hki (by kernel_rfl) (by kernel_rfl)) rfl rfl ?_; clear hf fa; rintro fa _ w10 ⟨hk6, hg6⟩ hf
                replace hr1 := Row.grown hr1 hg6 (Row.ne_type hr1 hki rfl)
                replace hb := hb.wrote hg6 hb.size
                apply wpList_nil
                (try simp only [Exit.then, Exit.inBlock, ↓reduceIte, Nat.reduceEqDiff])
                refine hK24 _ _ ?_
                refine wp_seq_k (fun K25 hK25 => ?_)
                refine wp_seq_k (fun K26 hK26 => ?_)
                refine wp_region_lit ?_
                refine sqv hf (r_move rfl) rfl rfl rfl ?_; clear hf fa; intro fa hf
                refine sqv hf (r_move rfl) rfl rfl rfl ?_; clear hf fa; intro fa hf
                refine sqv hf (r_lensl rfl Tryd.underlying91) rfl rfl rfl ?_; clear hf fa; intro fa hf
                refine sqv hf (r_sub (C := (((((nbsP W).1.length) : Nat) : Int) - (1 : Int))) rfl rfl (by rw [IntKind.wrap_i64]; omega)) rfl rfl rfl ?_; clear hf fa; intro fa hf
                refine sqv hf (r_slto (m := ((((nbsP W).1.length)) - 1)) rfl rfl Tryd.underlying91 (by kernel_rfl) (by omega) (by omega)) rfl rfl rfl ?_; clear hf fa; intro fa hf
                have hr2 := Row.cut (m := ((((nbsP W).1.length)) - 1)) (by intros; rfl) hr1 (Row.caps hr1).1 (by (try simp only [Sl.list_length]); omega) (by (try simp only [Sl.list_length]); omega)
                refine sqv hf (r_lensl rfl Tryd.underlying91) rfl rfl rfl ?_; clear hf fa; intro fa hf
                refine sqv hf (r_move rfl) rfl rfl rfl ?_; clear hf fa; intro fa hf
                apply wpList_nil
                (try simp only [Exit.then, Exit.inBlock, ↓reduceIte, Nat.reduceEqDiff])
                refine hK26 _ _ ?_
                refine wp_block ?_
                refine wp_loop_k (fun mq fa wr => ∃ (k : Nat) (roa : Option Addr) (roc : Nat), mq = ((nbsP W).1.length - 1) - k ∧ Fr 112 fa [(0, (.pointer (some ⟨bi, 0, none⟩))), (94, (.slice (some ⟨rb1, 0, none⟩) (((((nbsP W).1.length)) - 1)) rc1)), (95, (.int .i64 ((((((nbsP W).1.length)) - 1) : Nat) : Int))), (96, (.int .i64 ((k : Nat) : Int)))] ∧ KB bi w.heap.size w wr ∧ Row 1 (vInt .u32) 62 (w.heap.size) wr (.slice roa ((((((nbsP W).1).take ((((nbsP W).1.length)) - 1)).take k)).length) roc) ((((nbsP W).1).take ((((nbsP W).1.length)) - 1)).take k) ∧ Row 1 (vInt .u64) 22 (w.heap.size) wr (.slice (some ⟨rb1, 0, none⟩) ((((((nbsP W).1.length)) - 1))) rc1) (((nbsP W).1).take ((((nbsP W).1.length)) - 1)) ∧ wr.heap[bi]? = some (.cells #[(.int .u8 ((op : Nat) : Int)), (.int .u64 (((nbsP W).1.getD ((((nbsP W).1.length)) - 1) 0))), (.int .u64 (0 : Int)), (.slice roa (((((nbsP W).1).take ((((nbsP W).1.length)) - 1)).take k).length) roc)] 25 (0, 0)) ∧ (k ≤ ((nbsP W).1.length - 1))) ?_ ?_
                · skip
                  exact ⟨_, 0, none, 0, rfl, hf.sub ⟨rfl, rfl, rfl, (some_int (by first | rfl | omega)), trivial⟩, hb, Row.nil, hr2, hk6, by omega⟩
                · skip
                  clear hf fa; intro mq1 fa w11 hI KL1 hKL1
                  clear hb
                  clear hk6
                  clear hr2
                  obtain ⟨k, roa, roc, hmq1, hf, hb, hro, hra1, hkbi, hk⟩ := hI
                  have hcro := Row.caps hro
                  have hcra1 := Row.caps hra1
                  have hol : ((((nbsP W).1).take ((((nbsP W).1.length)) - 1)).take k).length ≤ 200000 := by rw [List.length_take, List.length_take]; omega
                  refine wp_seq_k (fun K27 hK27 => ?_)
                  refine wp_region_lit ?_
                  refine sqv hf (r_lt rfl rfl) rfl rfl rfl ?_; clear hf fa; intro fa hf
                  apply wpList_nil
                  (try simp only [Exit.then, Exit.inBlock, ↓reduceIte, Nat.reduceEqDiff])
                  refine hK27 _ _ ?_
                  refine wp_seq_k (fun K28 hK28 => ?_)
                  refine wp_cond_split (t := (decide (((k : Nat) : Int) < ((((((nbsP W).1.length)) - 1) : Nat) : Int)))) (hf.ev rfl) (fun hqt97_1 => ?_) (fun hqt97_1 => ?_)
                  · have hqt97_1b := hqt97_1
                    try simp only [decide_eq_true_eq, Bool.and_eq_true, Bool.or_eq_true, Bool.not_eq_true', decide_eq_false_iff_not, ne_eq, Bool.not_eq_true] at hqt97_1
                    refine wp_skip ?_
                    (try simp only [Exit.then, Exit.inBlock, ↓reduceIte, Nat.reduceEqDiff])
                    refine hK28 _ _ ?_
                    refine wp_seq_k (fun K29 hK29 => ?_)
                    refine wp_block ?_
                    refine wp_seq_k (fun K30 hK30 => ?_)
                    obtain ⟨y, hy⟩ : ∃ y, (((nbsP W).1).take ((((nbsP W).1.length)) - 1))[k]? = some y := ⟨_, List.getElem?_eq_getElem (by rw [List.length_take]; omega)⟩
                    have hyr := nbs_rng W y (List.mem_of_mem_take (List.mem_of_getElem? hy))
                    refine wp_region_lit ?_
                    have hy3 : ((((nbsP W).1).take ((((nbsP W).1.length)) - 1)))[k]? = some y := hy
                    have hel3 := RdS.at (Row.rd (by intros; rfl) hra1) hy3
                    obtain ⟨_, _, hab, hlr2, hel3⟩ := hel3
                    cases hab
                    refine sqv hf (r_ixa (sz := 1) (j := k) rfl rfl Tryd.underlying91 (by kernel_rfl) rfl (by omega) rfl) rfl rfl rfl ?_; clear hf fa; intro fa hf
                    refine sqv hf (r_load (v := (.int .u64 y)) rfl Tryd.underlying22 rfl (cellsAt_cell hel3 (i := 0) rfl rfl)) rfl rfl rfl ?_; clear hf fa; intro fa hf
                    refine sqv hf (r_assign rfl) rfl rfl rfl ?_; clear hf fa; intro fa hf
                    apply wpList_nil
                    (try simp only [Exit.then, Exit.inBlock, ↓reduceIte, Nat.reduceEqDiff])
                    refine hK30 _ _ ?_
                    refine wp_region_lit ?_
                    refine sqv hf (r_move rfl) rfl rfl rfl ?_; clear hf fa; intro fa hf
                    refine sqv hf (r_move rfl) rfl rfl rfl ?_; clear hf fa; intro fa hf
                    refine sqv hf (r_nilCheck rfl) rfl rfl rfl ?_; clear hf fa; intro fa hf
                    refine sqv hf (r_fa rfl Tryd.underlying25 (f := 3) (q := 3) rfl (by kernel_rfl) rfl) rfl rfl rfl ?_; clear hf fa; intro fa hf
                    refine sqv hf (r_load (v := (.slice roa (((((nbsP W).1).take ((((nbsP W).1.length)) - 1)).take k).length) roc)) rfl Tryd.underlying23 rfl (cell_blk hkbi rfl)) rfl rfl rfl ?_; clear hf fa; intro fa hf
                    refine sqv hf (r_move rfl) rfl rfl rfl ?_; clear hf fa; intro fa hf
                    refine sqv hf (r_conv (C := y) rfl Tryd.underlying22 Tryd.underlying62 (by rw [IntKind.wrap_u32]; omega)) rfl rfl rfl ?_; clear hf fa; intro fa hf
                    refine sqdt hf (d_bslice (z := (.int .u32 (0 : Int))) (sz := 1) (vs := [(0, (.int .u32 y))]) (cs := #[(.int .u32 y)]) rfl Tryd.underlying23 (by kernel_rfl) rfl (by kernel_rfl)) rfl rfl rfl ?_; clear hf fa; rintro fa _ w12 ⟨b1, rfl, hle1, hk7, he5⟩ hf
                    have hBb1 : w.heap.size ≤ b1 := Nat.le_trans hb.size hle1
                    have : bi < b1 := Nat.lt_of_lt_of_le (blk_lt hkbi) hle1
                    have hnr1 : (Value.slice roa (((((((nbsP W).1).take ((((nbsP W).1.length)) - 1)).take k)).length)) roc).ownBlock ≠ some b1 := fun hq => by have := (Row.lt hro _ hq).2; omega
                    have hnl1 : ∀ q, (Value.slice roa (((((((nbsP W).1).take ((((nbsP W).1.length)) - 1)).take k)).length)) roc).ownBlock = some q → q < b1 := fun q hq => Nat.lt_of_lt_of_le (Row.lt hro q hq).2 hle1
                    have : rb1 < b1 := Nat.lt_of_lt_of_le (Row.lt hra1 _ rfl).2 hle1
                    replace hkbi := blk_ext hkbi he5
                    replace hro := Row.ext hro he5
                    replace hra1 := Row.ext hra1 he5
                    replace hb := hb.trans (Below.mono he5 hb.size)
                    have hs1 := Row.rd (by intros; rfl) (Row.of_new (k := 1) (V := (vInt .u32)) (l := [y]) hk7 (Nat.le_refl _) rfl rfl (Nat.le_of_ble_eq_true rfl))
                    refine sqdt hf (d_append (V := (vInt .u32)) (k := 1) (e := 62) (bytes := 4) (z := (.int .u32 (0 : Int))) (news := [y]) (base := w.heap.size) (by intros; rfl) (by intro x u hu; simp only [vInt, List.mem_singleton] at hu; subst hu; rfl) rfl rfl Tryd.underlying23 (by kernel_rfl) rfl rfl rfl hro hs1 rfl (fun h => by cases h) (by first | omega | (simp only [List.length_cons, List.length_nil, List.length_append, nums_len]; omega)) (by have := hb.size; omega)) rfl rfl rfl ?_; clear hf fa; rintro fa v w13 ⟨hr3, hg7⟩ hf; obtain ⟨ra2, rc2, rfl, hcrc2, hmrc2⟩ := Row.slice hr3
                    replace hkbi := blk_row' hkbi hg7 (Row.ne_type hro hkbi rfl)
                    replace hra1 := Row.grown' hra1 hg7 (Row.ne_row hra1 hro rfl)
                    replace hb := hb.trans (row_below hro hg7 hb.size (by have := hb.size; omega))
                    refine sqv hf (r_nilCheck rfl) rfl rfl rfl ?_; clear hf fa; intro fa hf
                    refine sqv hf (r_fa rfl Tryd.underlying25 (f := 3) (q := 3) rfl (by kernel_rfl) rfl) rfl rfl rfl ?_; clear hf fa; intro fa hf
                    refine sqn hf (d_storeK (T := 25) (v := (.slice ra2 (((((((nbsP W).1).take ((((nbsP W).1.length)) - 1)).take k) ++ [y])).length) rc2)) (cs := #[(.int .u8 ((op : Nat) : Int)), (.int .u64 (((nbsP W).1.getD ((((nbsP W).1.length)) - 1) 0))), (.int .u64 (0 : Int)), (.slice roa (((((nbsP W).1).take ((((nbsP W).1.length)) - 1)).take k).length) roc)]) (cs' := #[(.int .u8 ((op : Nat) : Int)), (.int .u64 (((nbsP W).1.getD ((((nbsP W).1.length)) - 1) 0))), (.int .u64 (0 : Int)), (.slice ra2 (((((((nbsP W).1).take ((((nbsP W).1.length)) - 1)).take k) ++ [y])).length) rc2)]) rfl rfl (by kernel_rfl) (by kernel_rfl) hkbi (by kernel_rfl) (by kernel_rfl)) rfl rfl ?_; clear hf fa; rintro fa _ w14 ⟨hk8, hg8⟩ hf
                    replace hr3 := Row.grown hr3 hg8 (Row.ne_type hr3 hkbi rfl)
                    replace hra1 := Row.grown hra1 hg8 (Row.ne_type hra1 hkbi rfl)
                    replace hb := hb.wrote hg8 hb.size
                    apply wpList_nil
                    (try simp only [Exit.then, Exit.inBlock, ↓reduceIte, Nat.reduceEqDiff])
                    refine hK29 _ _ ?_
                    refine wp_region_lit ?_
                    refine sqv hf (r_add (C := (((k : Nat) : Int) + (1 : Int))) rfl rfl (by rw [IntKind.wrap_i64]; omega)) rfl rfl rfl ?_; clear hf fa; intro fa hf
                    refine sqv hf (r_move rfl) rfl rfl rfl ?_; clear hf fa; intro fa hf
                    apply wpList_nil
                    (try simp only [Exit.then, Exit.inBlock, ↓reduceIte, Nat.reduceEqDiff])
                    have hsn : ((((nbsP W).1).take ((((nbsP W).1.length)) - 1)).take k) ++ [y] = (((nbsP W).1).take ((((nbsP W).1.length)) - 1)).take (k + 1) := by rw [List.take_add_one, hy]; rfl
                    have hk9 := hk8
                    rw [hsn] at hk9
                    refine hKL1 _ _ _ (by omega) ⟨(k + 1), ra2, rc2, rfl, hf.sub ⟨rfl, (some_sl (by first | omega | rfl | (simp only [List.length_append, List.length_cons, List.length_nil]; omega) | (simp <;> omega)) rfl), rfl, (some_int (by first | rfl | omega)), trivial⟩, hb, (rowTo6 hr3 hsn), hra1, hk9, by omega⟩
                  · have hqt97_1b := hqt97_1
                    replace hqt97_1 := Bool.eq_false_iff.1 hqt97_1
                    try simp only [ne_eq, decide_eq_true_eq, Bool.and_eq_true, Bool.or_eq_true, Bool.not_eq_true', decide_eq_false_iff_not] at hqt97_1
                    refine wp_exit ?_
                    (try simp only [Exit.then, Exit.inBlock, ↓reduceIte, Nat.reduceEqDiff])
                    refine hK25 _ _ ?_
                    refine wp_seq_k (fun K31 hK31 => ?_)
                    refine wp_region_lit ?_
                    refine sqv hf (r_assign rfl) rfl rfl rfl ?_; clear hf fa; intro fa hf
                    apply wpList_nil
                    (try simp only [Exit.then, Exit.inBlock, ↓reduceIte, Nat.reduceEqDiff])
                    refine hK31 _ _ ?_
                    refine wp_ret ?_
                    (try simp only [Exit.then, Exit.inBlock])
                    refine ret1 hf rfl rfl ?_
                    have h8 : lblK op W = true := lblK_yes hqt80_1
                    have hB : resB op W = 0 := by unfold resB; rw [if_neg (by have h0 := hqt15_1; have h1 := hqt15_3; have h2 := hqt21_1; have h3 := hqt40_1; have h4 := hqt45_1; have h5 := hqt50_1; omega)]
                    have hK : resK op W = true := by unfold resK; rw [if_neg (by have h0 := hqt15_1; have h1 := hqt15_3; have h2 := hqt21_1; have h3 := hqt40_1; have h4 := hqt45_1; have h5 := hqt50_1; omega), if_neg (by have h0 := hqt15_1; have h1 := hqt15_3; have h2 := hqt21_1; have h3 := hqt40_1; have h4 := hqt45_1; have h5 := hqt50_1; omega), if_neg (by have h0 := hqt15_1; have h1 := hqt15_3; have h2 := hqt21_1; have h3 := hqt40_1; have h4 := hqt45_1; have h5 := hqt50_1; omega), if_neg (by have h0 := hqt15_1; have h1 := hqt15_3; have h2 := hqt21_1; have h3 := hqt40_1; have h4 := hqt45_1; have h5 := hqt50_1; omega), if_neg (by have h0 := hqt15_1; have h1 := hqt15_3; have h2 := hqt21_1; have h3 := hqt40_1; have h4 := hqt45_1; have h5 := hqt50_1; omega)]; exact h8
                    have hA : resA op W = (((nbsP W).1.getD ((((nbsP W).1.length)) - 1) 0)) := by unfold resA; rw [if_neg (by have h0 := hqt15_1; have h1 := hqt15_3; have h2 := hqt21_1; have h3 := hqt40_1; have h4 := hqt45_1; have h5 := hqt50_1; omega), if_neg (by have h0 := hqt15_1; have h1 := hqt15_3; have h2 := hqt21_1; have h3 := hqt40_1; have h4 := hqt45_1; have h5 := hqt50_1; omega), if_neg (by have h0 := hqt15_1; have h1 := hqt15_3; have h2 := hqt21_1; have h3 := hqt40_1; have h4 := hqt45_1; have h5 := hqt50_1; omega), if_neg (by have h0 := hqt15_1; have h1 := hqt15_3; have h2 := hqt21_1; have h3 := hqt40_1; have h4 := hqt45_1; have h5 := hqt50_1; omega), if_neg (by have h0 := hqt15_1; have h1 := hqt15_3; have h2 := hqt21_1; have h3 := hqt40_1; have h4 := hqt45_1; have h5 := hqt50_1; omega)]; rw [if_pos h8]
                    have hL : resL op W = ((((nbsP W).1).take ((((nbsP W).1.length)) - 1)).take k) := by unfold resL; rw [if_neg (by have h0 := hqt15_1; have h1 := hqt15_3; have h2 := hqt21_1; have h3 := hqt40_1; have h4 := hqt45_1; have h5 := hqt50_1; omega), if_pos h8]; exact (List.take_of_length_le (i := k) (l := (((nbsP W).1).take ((((nbsP W).1.length)) - 1))) (by rw [List.length_take]; omega)).symm
                    rw [hK, hA, hB, hL]
                    exact ⟨rfl, _, _, hkbi, hro, hb.grown⟩
end Go.Proofs.YtpalmpfkliepfaaDoor

namespace Go.Proofs.YtpalmpfkliepfaaDoor
open Go.RowKit Ut
set_option linter.unusedVariables false
set_option linter.unusedSimpArgs false
attribute [local irreducible] infP ofP chkP rchkP

def no32 (s : ByteArray) : Prop := ∀ c ∈ bl s, c ≠ 32
theorem splitL_cat (ps : List (List Nat)) (h : ∀ p ∈ ps, ∀ c ∈ p, c ≠ 32) : ∀ (p : List Nat), (∀ c ∈ p, c ≠ 32) → splitL (p ++ ps.flatMap (fun q => 32 :: q)) = p :: ps := by
  induction ps with
  | nil =>
    intro p hp
    rw [List.flatMap_nil, List.append_nil]
    unfold splitL
    rw [splitA_no p hp]; rfl
  | cons q ps ih =>
    intro p hp
    have h2 := ih (fun r hr => h r (List.mem_cons_of_mem _ hr)) q (h q (List.mem_cons_self ..))
    unfold splitL at h2 ⊢
    rw [List.flatMap_cons, List.cons_append, splitA_hit p _ hp, h2]; rfl
theorem bl_fold (ws : List ByteArray) : ∀ w0, bl (foldD id w0 ws) = bl w0 ++ (ws.map bl).flatMap (fun q => 32 :: q) := by
  induction ws with
  | nil => intro w0; rw [List.map_nil, List.flatMap_nil, List.append_nil]; rfl
  | cons y ws ih =>
    intro w0
    show bl (foldD id (w0 ++ ((⟨#[32]⟩ : ByteArray) ++ y)) ws) = _
    rw [ih, bl_app, bl_app, List.map_cons, List.flatMap_cons, List.append_assoc]
    rfl
theorem words_join (w0 : ByteArray) (ws : List ByteArray) (h0 : no32 w0) (h : ∀ y ∈ ws, no32 y) : wordsS (foldD id w0 ws) = w0 :: ws := by
  unfold wordsS
  rw [bl_fold, splitL_cat _ (fun p hp => by obtain ⟨y, hy, rfl⟩ := List.mem_map.1 hp; exact h y hy) _ h0, List.map_cons, strN_bl, List.map_map]
  congr 1
  conv => rhs; rw [← List.map_id ws]
  apply List.map_congr_left
  intro y _
  exact strN_bl y

def argsW (op : Nat) (A B : Int) (L : List Int) : List ByteArray :=
  if (infP op).2.1 = 0 ∨ (infP op).2.1 = 9 then []
  else if (infP op).2.1 = 1 then (if A = 64 then [] else [tnameP (A % 256)])
  else if (infP op).2.1 = 3 then L.map dS ++ [dS (sA A)]
  else if (infP op).2.1 = 8 then [(⟨#[97, 108, 105, 103, 110, 61]⟩ : ByteArray) ++ dS (sA A), (⟨#[111, 102, 102, 115, 101, 116, 61]⟩ : ByteArray) ++ dS (sA B)]
  else if (infP op).2.1 = 10 then [dS (s32 A)]
  else [dS (sA A)]
theorem foldD_map {α : Type} (f : α → ByteArray) (l : List α) : ∀ w, foldD id w (l.map f) = foldD f w l := by
  induction l with
  | nil => intro w; rfl
  | cons y l ih => intro w; exact ih _
theorem foldD_one (w y : ByteArray) : foldD id w [y] = w ++ ((⟨#[32]⟩ : ByteArray) ++ y) := rfl
theorem foldD_app {α : Type} (f : α → ByteArray) (l m : List α) (w : ByteArray) : foldD f w (l ++ m) = foldD f (foldD f w l) m := List.foldl_append ..
theorem line_join (op : Nat) (A B : Int) (L : List Int) : nmO op ++ behindP op A B L = foldD id (nmO op) (argsW op A B L) := by
  unfold behindP argsW
  split
  · exact app_nil _
  split
  · unfold blkS
    split
    · exact app_nil _
    · rfl
  split
  · rw [foldD_app, foldD_map, foldD_one, show foldD dS (nmO op) L = nmO op ++ foldD dS (⟨#[]⟩ : ByteArray) L by rw [← foldD_base, app_nil]]
    simp only [ByteArray.append_assoc]
  split
  · show _ = (nmO op ++ ((⟨#[32]⟩ : ByteArray) ++ ((⟨#[97, 108, 105, 103, 110, 61]⟩ : ByteArray) ++ dS (sA A)))) ++ ((⟨#[32]⟩ : ByteArray) ++ ((⟨#[111, 102, 102, 115, 101, 116, 61]⟩ : ByteArray) ++ dS (sA B)))
    rw [show (⟨#[32, 97, 108, 105, 103, 110, 61]⟩ : ByteArray) = (⟨#[32]⟩ : ByteArray) ++ (⟨#[97, 108, 105, 103, 110, 61]⟩ : ByteArray) from rfl, show (⟨#[32, 111, 102, 102, 115, 101, 116, 61]⟩ : ByteArray) = (⟨#[32]⟩ : ByteArray) ++ (⟨#[111, 102, 102, 115, 101, 116, 61]⟩ : ByteArray) from rfl]
    simp only [ByteArray.append_assoc]
  split
  · rfl
  · rfl
theorem dS_no (n : Int) : no32 (dS n) := by
  intro c hc
  rw [bl_dS] at hc
  unfold digB at hc
  split at hc
  · rcases List.mem_cons.1 hc with rfl | hc
    · decide
    · have := natB_dig _ c hc; omega
  · have := natB_dig _ c hc; omega
theorem tname_no32 (b : Int) : no32 (tnameP b) := by
  unfold tnameP no32
  generalize decide (b = 127) = a1
  generalize decide (b = 126) = a2
  generalize decide (b = 125) = a3
  generalize decide (b = 124) = a4
  generalize decide (b = 112) = a5
  cases a1 <;> cases a2 <;> cases a3 <;> cases a4 <;> cases a5 <;> decide
theorem no32_app {s t : ByteArray} (h1 : no32 s) (h2 : no32 t) : no32 (s ++ t) := by
  intro c hc
  rw [bl_app] at hc
  rcases List.mem_append.1 hc with h | h
  · exact h1 c h
  · exact h2 c h
theorem args_no (op : Nat) (A B : Int) (L : List Int) : ∀ y ∈ argsW op A B L, no32 y := by
  have ha : no32 (⟨#[97, 108, 105, 103, 110, 61]⟩ : ByteArray) := by unfold no32; decide
  have ho : no32 (⟨#[111, 102, 102, 115, 101, 116, 61]⟩ : ByteArray) := by unfold no32; decide
  intro y hy
  unfold argsW at hy
  split at hy
  · cases hy
  split at hy
  · split at hy
    · cases hy
    · rw [List.mem_singleton] at hy; subst hy; exact tname_no32 _
  split at hy
  · rcases List.mem_append.1 hy with h | h
    · obtain ⟨z, _, rfl⟩ := List.mem_map.1 h; exact dS_no z
    · rw [List.mem_singleton] at h; subst h; exact dS_no _
  split at hy
  · simp only [List.mem_cons, List.not_mem_nil, or_false] at hy
    rcases hy with rfl | rfl
    · exact no32_app ha (dS_no _)
    · exact no32_app ho (dS_no _)
  split at hy
  · rw [List.mem_singleton] at hy; subst hy; exact dS_no _
  · rw [List.mem_singleton] at hy; subst hy; exact dS_no _
theorem words_line {op : Nat} {A B : Int} {L : List Int} (hop : op < 256) (h : rightP op A B L.length = 0) : wordsS (lineP op A B L) = nmO op :: argsW op A B L := by
  unfold lineP
  rw [if_pos h, line_join]
  exact words_join _ _ (nmO_sp hop) (args_no op A B L)
end Go.Proofs.YtpalmpfkliepfaaDoor

namespace Go.Proofs.YtpalmpfkliepfaaDoor
open Go.RowKit Ut
set_option linter.unusedVariables false
set_option linter.unusedSimpArgs false
attribute [local irreducible] infP ofP chkP rchkP

theorem num_dS {n : Int} (h : inI n) : numP (bl (dS n)) = (n, true) := by rw [bl_dS]; exact numP_dig h
theorem inI_lo {n : Int} (h : 0 ≤ n ∧ n < 4294967296) : inI n := inI_u32 (by omega)
theorem nbs_dig (l : List Int) (h : ∀ y ∈ l, 0 ≤ y ∧ y < 4294967296) : ∀ o, nbsA o (l.map dS) = (o ++ l, true) := by
  induction l with
  | nil => intro o; rw [List.append_nil]; rfl
  | cons y l ih =>
    intro o
    have hy := h y (List.mem_cons_self ..)
    rw [List.map_cons, nbsA, if_pos (by unfold okN; rw [num_dS (inI_lo hy)]; simp; omega), num_dS (inI_lo hy), ih (fun z hz => h z (List.mem_cons_of_mem _ hz)), List.append_assoc]; rfl
theorem hasP_app (p x : ByteArray) : hasP (p ++ x) p = true := by
  rw [hasP_bl, bl_app, List.isPrefixOf_iff_prefix]; exact List.prefix_append _ _
theorem cutS_app (p x : ByteArray) : cutS (p ++ x) p = x := by
  apply bl_inj
  rw [cutS_bl, if_pos (hasP_app p x), bl_app, ← bl_length, List.drop_left]
theorem uA_sA {A : Int} (h : 0 ≤ A ∧ A < 18446744073709551616) : uA (sA A) = A := by unfold uA sA; split <;> split <;> omega
theorem s32_back {A : Int} (h : 0 ≤ A ∧ A < 4294967296) : s32 A % 4294967296 = A ∧ s32 A = i32w (s32 A) := by unfold i32w s32; constructor <;> (repeat' split) <;> omega
theorem sA_low {A : Int} (h : 0 ≤ A ∧ A < 4294967296) : sA A = A := by unfold sA; rw [if_pos (by omega)]

theorem byt_back : bytP (tnameP 127) = 127 ∧ bytP (tnameP 126) = 126 := by decide +kernel
theorem acc_back {A B : Int} (hA : 0 ≤ A ∧ A < 4294967296) (hB : 0 ≤ B ∧ B < 4294967296) : accK [(⟨#[97, 108, 105, 103, 110, 61]⟩ : ByteArray) ++ dS A, (⟨#[111, 102, 102, 115, 101, 116, 61]⟩ : ByteArray) ++ dS B] = true ∧ accP [(⟨#[97, 108, 105, 103, 110, 61]⟩ : ByteArray) ++ dS A, (⟨#[111, 102, 102, 115, 101, 116, 61]⟩ : ByteArray) ++ dS B] = (A, B) := by
  have hl : accL [(⟨#[97, 108, 105, 103, 110, 61]⟩ : ByteArray) ++ dS A, (⟨#[111, 102, 102, 115, 101, 116, 61]⟩ : ByteArray) ++ dS B] = [dS A, dS B] := by
    show [cutS ((⟨#[97, 108, 105, 103, 110, 61]⟩ : ByteArray) ++ dS A) (⟨#[97, 108, 105, 103, 110, 61]⟩ : ByteArray), cutS ((⟨#[111, 102, 102, 115, 101, 116, 61]⟩ : ByteArray) ++ dS B) (⟨#[111, 102, 102, 115, 101, 116, 61]⟩ : ByteArray)] = _
    rw [cutS_app, cutS_app]
  have hn : nbsP [dS A, dS B] = ([A, B], true) := nbs_dig [A, B] (fun y hy => by simp only [List.mem_cons, List.not_mem_nil, or_false] at hy; rcases hy with rfl | rfl <;> assumption) []
  have hk : accK [(⟨#[97, 108, 105, 103, 110, 61]⟩ : ByteArray) ++ dS A, (⟨#[111, 102, 102, 115, 101, 116, 61]⟩ : ByteArray) ++ dS B] = true := by
    unfold accK
    rw [hl, hn]
    show (decide (2 = 2) && (hasP ((⟨#[97, 108, 105, 103, 110, 61]⟩ : ByteArray) ++ dS A) (⟨#[97, 108, 105, 103, 110, 61]⟩ : ByteArray) && (hasP ((⟨#[111, 102, 102, 115, 101, 116, 61]⟩ : ByteArray) ++ dS B) (⟨#[111, 102, 102, 115, 101, 116, 61]⟩ : ByteArray) && true))) = true
    rw [hasP_app, hasP_app]; rfl
  refine ⟨hk, ?_⟩
  unfold accP
  rw [if_pos hk, hl, hn]
  rfl
theorem con_short {A : Int} (h : 0 ≤ A ∧ A < 4294967296) : conP [dS (s32 A)] true = (A, true) := by
  have hb := s32_back h
  unfold conP
  rw [if_neg (show ¬ [dS (s32 A)].length ≠ 1 from fun e => e rfl), if_pos rfl, show wd [dS (s32 A)] 0 = dS (s32 A) from rfl, num_dS (inI_s32 A), decide_eq_true hb.2]
  simp only [hb.1]
  rfl
theorem con_long {A : Int} (h : 0 ≤ A ∧ A < 18446744073709551616) : conP [dS (sA A)] false = (A, true) := by
  unfold conP
  rw [if_neg (show ¬ [dS (sA A)].length ≠ 1 from fun e => e rfl), if_neg (by decide), show wd [dS (sA A)] 0 = dS (sA A) from rfl, num_dS (inI_sA h)]
  simp only [uA_sA h]

theorem rest_back {op : Nat} {A B : Int} {L : List Int} (hr : rightP op A B L.length = 0) (hA : 0 ≤ A ∧ A < 18446744073709551616) (hB : 0 ≤ B) (hL : ∀ y ∈ L, 0 ≤ y ∧ y < 4294967296) :
    resK op (argsW op A B L) = true ∧ resA op (argsW op A B L) = A ∧ resB op (argsW op A B L) = B ∧ resL op (argsW op A B L) = L := by
  obtain ⟨_, h1, _, h3, h4, h5, h6⟩ := right_out hr
  generalize him : (infP op).2.1 = im at h1 h3 h4 h5 h6
  by_cases c0 : im = 0 ∨ im = 9
  · have hl : L = [] := List.eq_nil_of_length_eq_zero (by omega)
    have c8 : ¬ im = 8 := by omega
    have cl : im = 0 ∨ im = 9 ∨ im = 1 ∨ im = 8 ∨ im = 10 ∨ im = 11 := by omega
    simp only [resK, resA, resB, resL, argsW, him, if_pos c0, if_neg c8, if_pos cl, hl]
    exact ⟨rfl, (h4 c0).symm, by omega, trivial⟩
  by_cases c1 : im = 1
  · have hl : L = [] := List.eq_nil_of_length_eq_zero (by omega)
    have c8 : ¬ im = 8 := by omega
    have cl : im = 0 ∨ im = 9 ∨ im = 1 ∨ im = 8 ∨ im = 10 ∨ im = 11 := by omega
    simp only [resK, resA, resB, resL, argsW, him, if_neg c0, if_pos c1, if_neg c8, if_pos cl, hl]
    rcases h5 c1 with e | e | e
    · rw [if_pos e]; exact ⟨rfl, by rw [e]; rfl, by omega, trivial⟩
    · rw [if_neg (show ¬ A = 64 by omega), e]; exact ⟨rfl, byt_back.1, by omega, trivial⟩
    · rw [if_neg (show ¬ A = 64 by omega), e]; exact ⟨rfl, byt_back.2, by omega, trivial⟩
  by_cases c10 : im = 10
  · have hl : L = [] := List.eq_nil_of_length_eq_zero (by omega)
    have c8 : ¬ im = 8 := by omega
    have c3 : ¬ im = 3 := by omega
    have cl : im = 0 ∨ im = 9 ∨ im = 1 ∨ im = 8 ∨ im = 10 ∨ im = 11 := by omega
    have hlo := h6 c0 c1 (by omega)
    simp only [resK, resA, resB, resL, argsW, him, if_neg c0, if_neg c1, if_neg c3, if_neg c8, if_pos c10, if_pos cl, hl, con_short (A := A) ⟨hA.1, hlo.1⟩]
    exact ⟨trivial, trivial, by omega, trivial⟩
  by_cases c11 : im = 11
  · have hl : L = [] := List.eq_nil_of_length_eq_zero (by omega)
    have c8 : ¬ im = 8 := by omega
    have c3 : ¬ im = 3 := by omega
    have cl : im = 0 ∨ im = 9 ∨ im = 1 ∨ im = 8 ∨ im = 10 ∨ im = 11 := by omega
    simp only [resK, resA, resB, resL, argsW, him, if_neg c0, if_neg c1, if_neg c3, if_neg c8, if_neg c10, if_pos c11, if_pos cl, hl, con_long (A := A) hA]
    exact ⟨trivial, trivial, by omega, trivial⟩
  have hlo := h6 c0 c1 c11
  have hsa : sA A = A := sA_low ⟨hA.1, hlo.1⟩
  have hsb : sA B = B := sA_low ⟨hB, hlo.2⟩
  by_cases c8 : im = 8
  · have hl : L = [] := List.eq_nil_of_length_eq_zero (by omega)
    have c3 : ¬ im = 3 := by omega
    have cl : im = 0 ∨ im = 9 ∨ im = 1 ∨ im = 8 ∨ im = 10 ∨ im = 11 := by omega
    have hac := acc_back (A := A) (B := B) ⟨hA.1, hlo.1⟩ ⟨hB, hlo.2⟩
    simp only [resK, resA, resB, resL, argsW, him, if_neg c0, if_neg c1, if_neg c3, if_pos c8, if_pos cl, hl, hsa, hsb, hac.1, hac.2]
    exact ⟨trivial, trivial, trivial, trivial⟩
  have cl : ¬ (im = 0 ∨ im = 9 ∨ im = 1 ∨ im = 8 ∨ im = 10 ∨ im = 11) := by omega
  have hn : nbsP (L.map dS ++ [dS A]) = (L ++ [A], true) := by
    have h := nbs_dig (L ++ [A]) (fun y hy => by
      rcases List.mem_append.1 hy with h | h
      · exact hL y h
      · rw [List.mem_singleton] at h; subst h; exact ⟨hA.1, hlo.1⟩) []
    rw [List.map_append] at h
    exact h
  have ha : argsW op A B L = L.map dS ++ [dS A] := by
    by_cases c3 : im = 3
    · simp only [argsW, him, if_neg c0, if_neg c1, if_pos c3, hsa]
    · have hl : L = [] := List.eq_nil_of_length_eq_zero (by omega)
      simp only [argsW, him, if_neg c0, if_neg c1, if_neg c3, if_neg c8, if_neg c10, hsa, hl]; rfl
  have hk : lblK op (L.map dS ++ [dS A]) = true := by
    refine lblK_yes ?_
    rw [hn, him]
    rintro ((h | h) | ⟨h, h7⟩)
    · cases h
    · rw [List.length_append] at h; simp at h; omega
    · rw [List.length_append] at h; simp at h; omega
  rw [ha]
  simp only [resK, resA, resB, resL, him, if_neg c0, if_neg c1, if_neg c8, if_neg c10, if_neg c11, if_neg cl, hk, if_true, hn]
  refine ⟨trivial, ?_, by omega, ?_⟩
  · simp
  · simp
end Go.Proofs.YtpalmpfkliepfaaDoor

namespace Go.Proofs.YtpalmpfkliepfaaDoor
open Go.RowKit Ut
set_option linter.unusedVariables false
set_option linter.unusedSimpArgs false
attribute [local irreducible] infP ofP chkP rchkP

def w0P (s : ByteArray) : ByteArray := wd (wordsS s) 0
def opN (s : ByteArray) : Nat := (findP (w0P s)).1.toNat
def wsP (s : ByteArray) : List ByteArray := (wordsS s).drop 1
def parK (s : ByteArray) : Bool := (findP (w0P s)).2 && (resK (opN s) (wsP s) && decide (lineP (opN s) (resA (opN s) (wsP s)) (resB (opN s) (wsP s)) (resL (opN s) (wsP s)) = s))
theorem opN_lt (s : ByteArray) : opN s < 256 ∧ (findP (w0P s)).1 = ((opN s : Nat) : Int) := by
  have h := (findP_out (w0P s)).2
  unfold opN
  omega
/-- A right instruction's line is read as it. -/
theorem par_back {op : Nat} {A B : Int} {L : List Int} (hop : op < 256) (hr : rightP op A B L.length = 0) (hA : 0 ≤ A ∧ A < 18446744073709551616) (hB : 0 ≤ B) (hL : ∀ y ∈ L, 0 ≤ y ∧ y < 4294967296) :
    opN (lineP op A B L) = op ∧ wsP (lineP op A B L) = argsW op A B L ∧ parK (lineP op A B L) = true := by
  have hw := words_line (A := A) (B := B) (L := L) hop hr
  have hn := nmO_ok hop (right_out hr).1
  have h0 : w0P (lineP op A B L) = nmO op := by unfold w0P; rw [hw]; rfl
  have hf := findP_hit hop hn
  have ho : opN (lineP op A B L) = op := by unfold opN; rw [h0, hf]; simp
  have hs : wsP (lineP op A B L) = argsW op A B L := by unfold wsP; rw [hw]; rfl
  obtain ⟨b1, b2, b3, b4⟩ := rest_back hr hA hB hL
  refine ⟨ho, hs, ?_⟩
  unfold parK
  rw [ho, hs, h0, hf, b1, b2, b3, b4]
  simp
end Go.Proofs.YtpalmpfkliepfaaDoor

namespace Go.Proofs.YtpalmpfkliepfaaDoor
open Go.RowKit Ut
set_option linter.unusedVariables false
set_option linter.unusedSimpArgs false
attribute [local irreducible] infP ofP chkP rchkP

theorem uA_rng {n : Int} (h : inI n) : 0 ≤ uA n ∧ uA n < 18446744073709551616 := by unfold uA inI at *; split <;> omega
theorem getD_rng {l : List Int} {j : Nat} (h : ∀ y ∈ l, 0 ≤ y ∧ y < (4294967296 : Int)) : 0 ≤ l.getD j 0 ∧ l.getD j 0 < 4294967296 := by
  rw [List.getD_eq_getElem?_getD]
  cases hk : l[j]? with
  | none => exact ⟨by decide, by decide⟩
  | some y => exact h y (List.mem_of_getElem? hk)
theorem conP_rng (W : List ByteArray) (sh : Bool) : 0 ≤ (conP W sh).1 ∧ (conP W sh).1 < 18446744073709551616 := by
  unfold conP
  split
  · exact ⟨by decide, by decide⟩
  · split
    · constructor
      · exact Int.emod_nonneg _ (by decide)
      · have := Int.emod_lt_of_pos (numP (bl (wd W 0))).1 (show (0 : Int) < 4294967296 by decide)
        show (numP (bl (wd W 0))).1 % 4294967296 < _
        omega
    · exact uA_rng (numP_in _)
theorem accP_rng (W : List ByteArray) : (0 ≤ (accP W).1 ∧ (accP W).1 < 4294967296) ∧ (0 ≤ (accP W).2 ∧ (accP W).2 < 4294967296) := by
  unfold accP
  split
  · exact ⟨getD_rng (nbs_rng _), getD_rng (nbs_rng _)⟩
  · exact ⟨⟨by decide, by decide⟩, ⟨by decide, by decide⟩⟩
theorem resA_rng (op : Nat) (W : List ByteArray) : 0 ≤ resA op W ∧ resA op W < 18446744073709551616 := by
  unfold resA
  split
  · exact ⟨by decide, by decide⟩
  split
  · split
    · have := bytP_rng (wd W 0); omega
    · exact ⟨by decide, by decide⟩
  split
  · have := (accP_rng W).1; omega
  split
  · exact conP_rng W true
  split
  · exact conP_rng W false
  split
  · have := getD_rng (j := (nbsP W).1.length - 1) (nbs_rng W); omega
  · exact ⟨by decide, by decide⟩
theorem resB_rng (op : Nat) (W : List ByteArray) : 0 ≤ resB op W ∧ resB op W < 18446744073709551616 := by
  unfold resB
  split
  · have := (accP_rng W).2; omega
  · exact ⟨by decide, by decide⟩
theorem resL_rng (op : Nat) (W : List ByteArray) : (∀ y ∈ resL op W, 0 ≤ y ∧ y < (4294967296 : Int)) ∧ (resL op W).length ≤ W.length := by
  unfold resL
  split
  · exact ⟨fun y hy => (by cases hy), Nat.zero_le _⟩
  split
  · refine ⟨fun y hy => nbs_rng W y (List.mem_of_mem_take hy), ?_⟩
    have := nbsA_len W []
    simp at this
    rw [List.length_take]
    unfold nbsP
    omega
  · exact ⟨fun y hy => (by cases hy), Nat.zero_le _⟩
def pO (s : ByteArray) : Int := if parK s = true then ((opN s : Nat) : Int) else 0
def pA (s : ByteArray) : Int := if parK s = true then resA (opN s) (wsP s) else 0
def pB (s : ByteArray) : Int := if parK s = true then resB (opN s) (wsP s) else 0
def pL (s : ByteArray) : List Int := if parK s = true then resL (opN s) (wsP s) else []
def pE (s : ByteArray) : Int := if parK s = true then 0 else 49
theorem par_yes {s : ByteArray} (h : parK s = true) : pO s = ((opN s : Nat) : Int) ∧ pA s = resA (opN s) (wsP s) ∧ pB s = resB (opN s) (wsP s) ∧ pL s = resL (opN s) (wsP s) ∧ pE s = 0 := by
  unfold pO pA pB pL pE
  rw [if_pos h, if_pos h, if_pos h, if_pos h, if_pos h]
  exact ⟨rfl, rfl, rfl, rfl, rfl⟩
theorem par_no {s : ByteArray} (h : parK s = false) : pO s = 0 ∧ pA s = 0 ∧ pB s = 0 ∧ pL s = [] ∧ pE s = 49 := by
  have h2 : ¬ parK s = true := by rw [h]; decide
  unfold pO pA pB pL pE
  rw [if_neg h2, if_neg h2, if_neg h2, if_neg h2, if_neg h2]
  exact ⟨rfl, rfl, rfl, rfl, rfl⟩
theorem parK_1 {s : ByteArray} (h : ¬ (findP (w0P s)).2 = true) : parK s = false := by
  have h2 : (findP (w0P s)).2 = false := by cases hz : (findP (w0P s)).2; rfl; exact absurd hz h
  unfold parK; rw [h2]; rfl
theorem parK_2 {s : ByteArray} (h : ¬ resK (opN s) (wsP s) = true) : parK s = false := by
  have h2 : resK (opN s) (wsP s) = false := by cases hz : resK (opN s) (wsP s); rfl; exact absurd hz h
  unfold parK; rw [h2]; simp
theorem parK_3 {s : ByteArray} (h : ¬ lineP (opN s) (resA (opN s) (wsP s)) (resB (opN s) (wsP s)) (resL (opN s) (wsP s)) = s) : parK s = false := by
  unfold parK; rw [decide_eq_false h]; simp
theorem parK_4 {s : ByteArray} (h1 : (findP (w0P s)).2 = true) (h2 : resK (opN s) (wsP s) = true) (h : lineP (opN s) (resA (opN s) (wsP s)) (resB (opN s) (wsP s)) (resL (opN s) (wsP s)) = s) : parK s = true := by
  unfold parK; rw [decide_eq_true h, h1, h2]; rfl

theorem calls_val {P : Program} {f : FuncId} {xs : Array Value} {w : World} {v : Value} {R : World → Prop} (h : Calls P f xs w fun e w' => e = .returned v ∧ R w') : Calls P f xs w fun e w' => ∃ x, e = .returned x ∧ (x = v ∧ R w') := h.mono (fun e w' h => ⟨v, h.1, rfl, h.2⟩)
theorem slAt_ne {a : Option Addr} {c l k n cc b : Nat} {q : Addr} (h : slAt a c l k = some q) (hne : (Value.slice a n cc).ownBlock ≠ some b) : q.block ≠ b := by
  cases a with
  | none => unfold slAt at h; split at h <;> cases h
  | some p =>
    intro e
    refine hne ?_
    show some p.block = some b
    unfold slAt at h
    split at h
    · cases h; rw [← e]
    · cases h
      rw [← e]
      show some p.block = some (p.add (l * k)).block
      unfold Addr.add
      split <;> rfl

set_option maxHeartbeats 1000000 in
set_option maxRecDepth 100000 in
theorem parse_any (s : ByteArray) (w : World) (hs : s.size ≤ 50000) : Calls Tryd.prog 9 #[(.string s)] w fun e w' => ∃ v, e = .returned v ∧ ∃ aL cL, v = (.tuple #[.agg #[.int .u8 (pO s), .int .u64 (pA s), .int .u64 (pB s), .slice aL (pL s).length cL], .int .i64 (pE s)]) ∧ Row 1 (vInt .u32) 62 w.heap.size w' (.slice aL (pL s).length cL) (pL s) ∧ Below w.heap.size w w' := by
  have hop := (opN_lt s).1
  have hfo := (opN_lt s).2
  have hwn := words_len s
  have hwl : (wsP s).length = (wordsS s).length - 1 := by unfold wsP; rw [List.length_drop]
  have hwW : ∀ y ∈ wsP s, y.size ≤ 100000 := fun y hy => by
    have := hwn.2.2 y (List.mem_of_mem_drop hy)
    omega
  refine sx_enter (L := [(0, (.string s))]) Tryd.func9 rfl rfl rfl rfl (fun fa hf => ?_)
  have hb : Below w.heap.size w w := Below.refl _ _
  refine wp_seq_k (fun K1 hK1 => ?_)
  refine wp_region_lit ?_
  refine sqdt hf (d_alloc (z := (.agg #[(.int .u8 (0 : Int)), (.int .u64 (0 : Int)), (.int .u64 (0 : Int)), (.slice none 0 0)])) (cs := #[(.int .u8 (0 : Int)), (.int .u64 (0 : Int)), (.int .u64 (0 : Int)), (.slice none 0 0)]) (by kernel_rfl) rfl) rfl rfl rfl ?_; clear hf fa; rintro fa _ w1 ⟨b1, rfl, hle1, hk1, he1⟩ hf
  have hBb1 : w.heap.size ≤ b1 := Nat.le_trans hb.size hle1
  replace hb := hb.trans (Below.mono he1 hb.size)
  refine sqv hf (r_assign rfl) rfl rfl rfl ?_; clear hf fa; intro fa hf
  apply wpList_nil
  (try simp only [Exit.then, Exit.inBlock, ↓reduceIte, Nat.reduceEqDiff])
  refine hK1 _ _ ?_
  refine wp_seq_k (fun K2 hK2 => ?_)
  refine wp_region_lit ?_
  refine sqv hf (r_move rfl) rfl rfl rfl ?_; clear hf fa; intro fa hf
  refine sqdt hf (d_callX (vs := [(.string s), (.string ⟨#[32]⟩)]) rfl Tryd.func26 (by kernel_rfl) (by kernel_rfl) (split_any s _ (by omega))) rfl rfl rfl ?_; clear hf fa; rintro fa v w2 ⟨hr1, he2⟩ hf; obtain ⟨ra1, rc1, rfl, hcrc1, hmrc1⟩ := Row.slice hr1
  replace hr1 := Row.rebase hr1 hb.size
  replace hk1 := blk_ext hk1 he2
  replace hb := hb.trans (Below.mono he2 hb.size)
  refine sqv hf (r_assign rfl) rfl rfl rfl ?_; clear hf fa; intro fa hf
  apply wpList_nil
  (try simp only [Exit.then, Exit.inBlock, ↓reduceIte, Nat.reduceEqDiff])
  refine hK2 _ _ ?_
  refine wp_seq_k (fun K3 hK3 => ?_)
  refine wp_region_lit ?_
  refine sqv hf (r_move rfl) rfl rfl rfl ?_; clear hf fa; intro fa hf
  obtain ⟨rb1, rfl, hbbrb1, hlbrb1⟩ := Row.some hr1 (by first | omega | (simp only [Sl.list_length, List.length_set, List.length_take, List.length_append, List.length_replicate, List.length_cons, List.length_nil, List.length_map, nums_len]; omega))
  have hy1 : ((wordsS s))[0]? = some (w0P s) := (wd_at (by omega))
  have hel1 := RdS.at (Row.rd (by intros; rfl) hr1) hy1
  obtain ⟨_, _, hab, hlr1, hel1⟩ := hel1
  cases hab
  refine sqv hf (r_ixa (sz := 1) (j := 0) rfl rfl Tryd.underlying43 (by kernel_rfl) rfl (by omega) rfl) rfl rfl rfl ?_; clear hf fa; intro fa hf
  refine sqv hf (r_load (v := (.string (w0P s))) rfl Tryd.underlying9 rfl (cellsAt_cell hel1 (i := 0) rfl rfl)) rfl rfl rfl ?_; clear hf fa; intro fa hf
  refine sqdt hf (d_callB (vs := [(.string (w0P s))]) rfl Tryd.func27 (by kernel_rfl) (by kernel_rfl) ((find_any (w0P s) _).mono (fun e w' h => ⟨by rw [h.1, hfo], h.2⟩))) rfl rfl rfl ?_; clear hf fa; rintro fa _ w3 ⟨rfl, he3⟩ hf
  replace hk1 := blk_ext hk1 he3
  replace hr1 := Row.ext hr1 he3
  replace hb := hb.trans (Below.mono he3 hb.size)
  refine sqv hf (r_move rfl) rfl rfl rfl ?_; clear hf fa; intro fa hf
  refine sqv hf (r_extract rfl (i := 0) rfl) rfl rfl rfl ?_; clear hf fa; intro fa hf
  refine sqv hf (r_extract rfl (i := 1) rfl) rfl rfl rfl ?_; clear hf fa; intro fa hf
  refine sqv hf (r_assign rfl) rfl rfl rfl ?_; clear hf fa; intro fa hf
  refine sqv hf (r_assign rfl) rfl rfl rfl ?_; clear hf fa; intro fa hf
  apply wpList_nil
  (try simp only [Exit.then, Exit.inBlock, ↓reduceIte, Nat.reduceEqDiff])
  refine hK3 _ _ ?_
  refine wp_seq_k (fun K4 hK4 => ?_)
  refine wp_region_lit ?_
  refine sqv hf (r_move rfl) rfl rfl rfl ?_; clear hf fa; intro fa hf
  refine sqv hf (r_build (vs := [(0, (.int .u8 ((opN s : Nat) : Int)))]) (cs := #[(.int .u8 ((opN s : Nat) : Int)), (.int .u64 (0 : Int)), (.int .u64 (0 : Int)), (.slice none 0 0)]) rfl (fun _ => by kernel_rfl)) rfl rfl rfl ?_; clear hf fa; intro fa hf
  refine sqdt hf (d_alloc (z := (.agg #[(.int .u8 (0 : Int)), (.int .u64 (0 : Int)), (.int .u64 (0 : Int)), (.slice none 0 0)])) (cs := #[(.int .u8 (0 : Int)), (.int .u64 (0 : Int)), (.int .u64 (0 : Int)), (.slice none 0 0)]) (by kernel_rfl) rfl) rfl rfl rfl ?_; clear hf fa; rintro fa _ w4 ⟨b2, rfl, hle2, hk2, he4⟩ hf
  have hBb2 : w.heap.size ≤ b2 := Nat.le_trans hb.size hle2
  have : b1 < b2 := Nat.lt_of_lt_of_le (blk_lt hk1) hle2
  have : rb1 < b2 := Nat.lt_of_lt_of_le (Row.lt hr1 _ rfl).2 hle2
  replace hk1 := blk_ext hk1 he4
  replace hr1 := Row.ext hr1 he4
  replace hb := hb.trans (Below.mono he4 hb.size)
  refine sqn hf (d_storeK (T := 25) (v := (.agg #[(.int .u8 ((opN s : Nat) : Int)), (.int .u64 (0 : Int)), (.int .u64 (0 : Int)), (.slice none 0 0)])) (cs := #[(.int .u8 (0 : Int)), (.int .u64 (0 : Int)), (.int .u64 (0 : Int)), (.slice none 0 0)]) (cs' := #[(.int .u8 ((opN s : Nat) : Int)), (.int .u64 (0 : Int)), (.int .u64 (0 : Int)), (.slice none 0 0)]) rfl rfl (by kernel_rfl) (by kernel_rfl) hk2 (by kernel_rfl) (by kernel_rfl)) rfl rfl ?_; clear hf fa; rintro fa _ w5 ⟨hk3, hg1⟩ hf
  replace hk1 := blk_grown hk1 hg1 (by omega)
  replace hr1 := Row.grown hr1 hg1 (Row.ne_type hr1 hk2 rfl)
  replace hb := hb.trans (grown_below hg1 hb.size hBb2)
  apply wpList_nil
  (try simp only [Exit.then, Exit.inBlock, ↓reduceIte, Nat.reduceEqDiff])
  refine hK4 _ _ ?_
  refine wp_seq_k (fun K5 hK5 => ?_)
  refine wp_seq_k (fun K6 hK6 => ?_)
  by_cases hsp1 : (findP (w0P s)).2 = true
  · have hsp1b : decide ((findP (w0P s)).2 = true) = true := decide_eq_true hsp1
    by_cases hsp2 : resK (opN s) (wsP s) = true
    · have hsp2b : decide (resK (opN s) (wsP s) = true) = true := decide_eq_true hsp2
      refine wp_region_lit ?_
      refine sqv hf (Runs.veq (r_move rfl) (congrArg Value.bool (show _ = true from hsp1))) rfl rfl rfl ?_; clear hf fa; intro fa hf
      refine sqv hf (Runs.veq (v' := (.bool false)) (r_not rfl) rfl) rfl rfl rfl ?_; clear hf fa; intro fa hf
      refine sqv hf (r_move rfl) rfl rfl rfl ?_; clear hf fa; intro fa hf
      refine sqgd (act := true) (g := 2) (want := false) (ag := true) (c := false) hf (by rfl) (by rfl) rfl (fun _ =>  Runs.does (R := fun vq wq => vq = (.slice (some ⟨rb1, 0, none⟩) (((wordsS s)).length) rc1) ∧ w5 = wq) (r_move rfl) ⟨rfl, rfl⟩) (fun h => by cases h) rfl ?_; clear hf fa; rintro fa _ _ ⟨rfl, rfl⟩ hf
      change Fr _ _ ((22, (.slice (some ⟨rb1, 0, none⟩) (((wordsS s)).length) rc1)) :: _) at hf
      refine sqgd (act := true) (g := 2) (want := false) (ag := true) (c := false) hf (by rfl) (by rfl) rfl (fun _ =>  Runs.does (R := fun vq wq => vq = (.slice (slAt (some ⟨rb1, 0, none⟩) rc1 1 1) (((((wordsS s)).length) - 1)) (rc1 - 1)) ∧ w5 = wq) (r_slfrom (l := 1) (sz := 1) rfl rfl Tryd.underlying43 (by kernel_rfl) rfl (by omega)) ⟨rfl, rfl⟩) (fun h => by cases h) rfl ?_; clear hf fa; rintro fa _ _ ⟨rfl, rfl⟩ hf
      change Fr _ _ ((23, (.slice (slAt (some ⟨rb1, 0, none⟩) rc1 1 1) (((((wordsS s)).length) - 1)) (rc1 - 1))) :: _) at hf
      have hrest := (rest_any (opN s) b2 (slAt (some ⟨rb1, 0, none⟩) rc1 1 1) (wsP s) ((rc1 - 1)) _ (fun q hq => slAt_ne hq (Row.ne_type hr1 hk3 rfl)) hk3 (slAt_rd (l := 1) (X := wsP s) (by intros; rfl) hr1 (by show (wsP s).take (wsP s).length = wsP s; exact List.take_length) (by rw [hwl]; omega)) (by have := Row.caps hr1; omega) (by omega) hwW hop)
      rw [hwl] at hrest
      refine sqgd (act := true) (g := 2) (want := false) (ag := true) (c := false) hf (by rfl) (by rfl) rfl (fun _ =>  (d_callX (vs := [(.pointer (some ⟨b2, 0, none⟩)), (.slice (slAt (some ⟨rb1, 0, none⟩) rc1 1 1) (((((wordsS s)).length) - 1)) (rc1 - 1))]) rfl Tryd.func28 (by kernel_rfl) (by kernel_rfl) (calls_val hrest))) (fun h => by cases h) rfl ?_; clear hf fa; rintro fa _ w6 ⟨rfl, aL, cL, hk4, hr2, hg2⟩ hf
      replace hr2 := Row.rebase hr2 hb.size
      replace hk1 := blk_grown hk1 hg2 (by omega)
      replace hr1 := Row.grown hr1 hg2 (Row.ne_type hr1 hk3 rfl)
      replace hb := hb.trans (grown_below hg2 hb.size hBb2)
      have hcl := Row.caps hr2
      change Fr _ _ ((24, (.bool (resK (opN s) (wsP s)))) :: _) at hf
      refine sqgd (act := true) (g := 2) (want := false) (ag := true) (c := false) hf (by rfl) (by rfl) rfl (fun _ =>  Runs.does (R := fun vq wq => vq = (.bool false) ∧ w6 = wq) (Runs.veq (r_not rfl) (congrArg Value.bool (show _ = false from (by rw [hsp2]; rfl)))) ⟨rfl, rfl⟩) (fun h => by cases h) rfl ?_; clear hf fa; rintro fa _ _ ⟨rfl, rfl⟩ hf
      change Fr _ _ ((25, (.bool false)) :: _) at hf
      refine sqv hf (r_pick (b := false) rfl rfl rfl rfl) rfl rfl rfl ?_; clear hf fa; intro fa hf
      refine sqv hf (r_move rfl) rfl rfl rfl ?_; clear hf fa; intro fa hf
      refine sqgd (act := true) (g := 8) (want := false) (ag := true) (c := false) hf (by rfl) (by rfl) rfl (fun _ =>  Runs.does (R := fun vq wq => vq = (.agg #[(.int .u8 ((opN s : Nat) : Int)), (.int .u64 ((resA (opN s) (wsP s)))), (.int .u64 ((resB (opN s) (wsP s)))), (.slice aL (((resL (opN s) (wsP s)).length)) cL)]) ∧ w6 = wq) (r_loadA (cs := [(.int .u8 ((opN s : Nat) : Int)), (.int .u64 ((resA (opN s) (wsP s)))), (.int .u64 ((resB (opN s) (wsP s)))), (.slice aL (((resL (opN s) (wsP s)).length)) cL)]) rfl Tryd.underlying25 rfl (by kernel_rfl) (cellsAt_blk hk4)) ⟨rfl, rfl⟩) (fun h => by cases h) rfl ?_; clear hf fa; rintro fa _ _ ⟨rfl, rfl⟩ hf
      change Fr _ _ ((28, (.agg #[(.int .u8 ((opN s : Nat) : Int)), (.int .u64 ((resA (opN s) (wsP s)))), (.int .u64 ((resB (opN s) (wsP s)))), (.slice aL (((resL (opN s) (wsP s)).length)) cL)])) :: _) at hf
      refine sqgd (act := true) (g := 8) (want := false) (ag := true) (c := false) hf (by rfl) (by rfl) rfl (fun _ =>  (d_callB (vs := [(.agg #[(.int .u8 ((opN s : Nat) : Int)), (.int .u64 ((resA (opN s) (wsP s)))), (.int .u64 ((resB (opN s) (wsP s)))), (.slice aL (((resL (opN s) (wsP s)).length)) cL)])]) rfl Tryd.func7 (by kernel_rfl) (by kernel_rfl) (line_any (opN s) _ _ (resL (opN s) (wsP s)) _ _ _ (Row.rd (by intros; rfl) hr2) (resL_rng _ _).1 hop (resA_rng _ _) (resB_rng _ _) (by have := Row.caps hr2; omega) (by have := (resL_rng (opN s) (wsP s)).2; omega))) ) (fun h => by cases h) rfl ?_; clear hf fa; rintro fa _ w7 ⟨rfl, he5⟩ hf
      replace hk1 := blk_ext hk1 he5
      replace hk4 := blk_ext hk4 he5
      replace hr1 := Row.ext hr1 he5
      replace hr2 := Row.ext hr2 he5
      replace hb := hb.trans (Below.mono he5 hb.size)
      change Fr _ _ ((29, (.string (lineP (opN s) (resA (opN s) (wsP s)) (resB (opN s) (wsP s)) (resL (opN s) (wsP s))))) :: _) at hf
      refine sqgd (act := true) (g := 8) (want := false) (ag := true) (c := false) hf (by rfl) (by rfl) rfl (fun _ =>  Runs.does (R := fun vq wq => vq = (.string s) ∧ w7 = wq) (r_move rfl) ⟨rfl, rfl⟩) (fun h => by cases h) rfl ?_; clear hf fa; rintro fa _ _ ⟨rfl, rfl⟩ hf
      change Fr _ _ ((30, (.string s)) :: _) at hf
      refine sqgd (act := true) (g := 8) (want := false) (ag := true) (c := false) hf (by rfl) (by rfl) rfl (fun _ =>  Runs.does (R := fun vq wq => vq = (.bool (decide ((lineP (opN s) (resA (opN s) (wsP s)) (resB (opN s) (wsP s)) (resL (opN s) (wsP s))) ≠ s))) ∧ w7 = wq) (r_sne rfl rfl) ⟨rfl, rfl⟩) (fun h => by cases h) rfl ?_; clear hf fa; rintro fa _ _ ⟨rfl, rfl⟩ hf
      change Fr _ _ ((31, (.bool (decide ((lineP (opN s) (resA (opN s) (wsP s)) (resB (opN s) (wsP s)) (resL (opN s) (wsP s))) ≠ s)))) :: _) at hf
      refine sqv hf (r_pick (b := false) rfl rfl rfl rfl) rfl rfl rfl ?_; clear hf fa; intro fa hf
      apply wpList_nil
      (try simp only [Exit.then, Exit.inBlock, ↓reduceIte, Nat.reduceEqDiff])
      refine hK6 _ _ ?_
      refine wp_cond_split (t := (decide ((lineP (opN s) (resA (opN s) (wsP s)) (resB (opN s) (wsP s)) (resL (opN s) (wsP s))) ≠ s))) (hf.ev rfl) (fun hqt32_1 => ?_) (fun hqt32_1 => ?_)
      · have hqt32_1b := hqt32_1
        try simp only [decide_eq_true_eq, Bool.and_eq_true, Bool.or_eq_true, Bool.not_eq_true', decide_eq_false_iff_not, ne_eq, Bool.not_eq_true] at hqt32_1
        refine wp_seq_k (fun K7 hK7 => ?_)
        refine wp_region_lit ?_
        refine sqv hf (r_build (vs := []) (cs := #[(.int .u8 (0 : Int)), (.int .u64 (0 : Int)), (.int .u64 (0 : Int)), (.slice none 0 0)]) rfl (fun _ => by kernel_rfl)) rfl rfl rfl ?_; clear hf fa; intro fa hf
        refine sqn hf (d_storeK (T := 25) (v := (.agg #[(.int .u8 (0 : Int)), (.int .u64 (0 : Int)), (.int .u64 (0 : Int)), (.slice none 0 0)])) (cs := #[(.int .u8 (0 : Int)), (.int .u64 (0 : Int)), (.int .u64 (0 : Int)), (.slice none 0 0)]) (cs' := #[(.int .u8 (0 : Int)), (.int .u64 (0 : Int)), (.int .u64 (0 : Int)), (.slice none 0 0)]) rfl rfl (by kernel_rfl) (by kernel_rfl) hk1 (by kernel_rfl) (by kernel_rfl)) rfl rfl ?_; clear hf fa; rintro fa _ w8 ⟨hk5, hg3⟩ hf
        replace hk4 := blk_grown hk4 hg3 (by omega)
        replace hr1 := Row.grown hr1 hg3 (Row.ne_type hr1 hk1 rfl)
        replace hr2 := Row.grown hr2 hg3 (Row.ne_type hr2 hk1 rfl)
        replace hb := hb.trans (grown_below hg3 hb.size hBb1)
        refine sqv hf (r_assign rfl) rfl rfl rfl ?_; clear hf fa; intro fa hf
        apply wpList_nil
        (try simp only [Exit.then, Exit.inBlock, ↓reduceIte, Nat.reduceEqDiff])
        refine hK7 _ _ ?_
        refine wp_ret ?_
        (try simp only [Exit.then, Exit.inBlock])
        refine retCT hf rfl rfl hk5 Tryd.underlying25 rfl (by kernel_rfl) rfl ?_
        obtain ⟨e1, e2, e3, e4, e5⟩ := par_no (parK_3 hqt32_1)
        rw [e1, e2, e3, e4, e5]
        exact ⟨_, rfl, none, 0, rfl, Row.nil, hb⟩
      · have hqt32_1b := hqt32_1
        replace hqt32_1 := Bool.eq_false_iff.1 hqt32_1
        try simp only [ne_eq, decide_eq_true_eq, Bool.and_eq_true, Bool.or_eq_true, Bool.not_eq_true', decide_eq_false_iff_not] at hqt32_1
        refine wp_skip ?_
        (try simp only [Exit.then, Exit.inBlock, ↓reduceIte, Nat.reduceEqDiff])
        refine hK5 _ _ ?_
        refine wp_seq_k (fun K8 hK8 => ?_)
        refine wp_region_lit ?_
        refine sqv hf (r_loadA (cs := [(.int .u8 ((opN s : Nat) : Int)), (.int .u64 ((resA (opN s) (wsP s)))), (.int .u64 ((resB (opN s) (wsP s)))), (.slice aL (((resL (opN s) (wsP s)).length)) cL)]) rfl Tryd.underlying25 rfl (by kernel_rfl) (cellsAt_blk hk4)) rfl rfl rfl ?_; clear hf fa; intro fa hf
        refine sqn hf (d_storeK (T := 25) (v := (.agg #[(.int .u8 ((opN s : Nat) : Int)), (.int .u64 ((resA (opN s) (wsP s)))), (.int .u64 ((resB (opN s) (wsP s)))), (.slice aL (((resL (opN s) (wsP s)).length)) cL)])) (cs := #[(.int .u8 (0 : Int)), (.int .u64 (0 : Int)), (.int .u64 (0 : Int)), (.slice none 0 0)]) (cs' := #[(.int .u8 ((opN s : Nat) : Int)), (.int .u64 ((resA (opN s) (wsP s)))), (.int .u64 ((resB (opN s) (wsP s)))), (.slice aL (((resL (opN s) (wsP s)).length)) cL)]) rfl rfl (by kernel_rfl) (by kernel_rfl) hk1 (by kernel_rfl) (by kernel_rfl)) rfl rfl ?_; clear hf fa; rintro fa _ w9 ⟨hk6, hg4⟩ hf
        replace hk4 := blk_grown hk4 hg4 (by omega)
        replace hr1 := Row.grown hr1 hg4 (Row.ne_type hr1 hk1 rfl)
        replace hr2 := Row.grown hr2 hg4 (Row.ne_type hr2 hk1 rfl)
        replace hb := hb.trans (grown_below hg4 hb.size hBb1)
        refine sqv hf (r_assign rfl) rfl rfl rfl ?_; clear hf fa; intro fa hf
        apply wpList_nil
        (try simp only [Exit.then, Exit.inBlock, ↓reduceIte, Nat.reduceEqDiff])
        refine hK8 _ _ ?_
        refine wp_ret ?_
        (try simp only [Exit.then, Exit.inBlock])
        refine retCT hf rfl rfl hk6 Tryd.underlying25 rfl (by kernel_rfl) rfl ?_
        obtain ⟨e1, e2, e3, e4, e5⟩ := par_yes (parK_4 hsp1 hsp2 (Classical.not_not.1 hqt32_1))
        rw [e1, e2, e3, e4, e5]
        exact ⟨_, rfl, _, _, rfl, hr2, hb⟩
    · have hsp2b : decide (resK (opN s) (wsP s) = true) = false := decide_eq_false hsp2
      refine wp_region_lit ?_
      refine sqv hf (Runs.veq (r_move rfl) (congrArg Value.bool (show _ = true from hsp1))) rfl rfl rfl ?_; clear hf fa; intro fa hf
      refine sqv hf (Runs.veq (v' := (.bool false)) (r_not rfl) rfl) rfl rfl rfl ?_; clear hf fa; intro fa hf
      refine sqv hf (r_move rfl) rfl rfl rfl ?_; clear hf fa; intro fa hf
      refine sqgd (act := true) (g := 2) (want := false) (ag := true) (c := false) hf (by rfl) (by rfl) rfl (fun _ =>  Runs.does (R := fun vq wq => vq = (.slice (some ⟨rb1, 0, none⟩) (((wordsS s)).length) rc1) ∧ w5 = wq) (r_move rfl) ⟨rfl, rfl⟩) (fun h => by cases h) rfl ?_; clear hf fa; rintro fa _ _ ⟨rfl, rfl⟩ hf
      change Fr _ _ ((22, (.slice (some ⟨rb1, 0, none⟩) (((wordsS s)).length) rc1)) :: _) at hf
      refine sqgd (act := true) (g := 2) (want := false) (ag := true) (c := false) hf (by rfl) (by rfl) rfl (fun _ =>  Runs.does (R := fun vq wq => vq = (.slice (slAt (some ⟨rb1, 0, none⟩) rc1 1 1) (((((wordsS s)).length) - 1)) (rc1 - 1)) ∧ w5 = wq) (r_slfrom (l := 1) (sz := 1) rfl rfl Tryd.underlying43 (by kernel_rfl) rfl (by omega)) ⟨rfl, rfl⟩) (fun h => by cases h) rfl ?_; clear hf fa; rintro fa _ _ ⟨rfl, rfl⟩ hf
      change Fr _ _ ((23, (.slice (slAt (some ⟨rb1, 0, none⟩) rc1 1 1) (((((wordsS s)).length) - 1)) (rc1 - 1))) :: _) at hf
      have hrest := (rest_any (opN s) b2 (slAt (some ⟨rb1, 0, none⟩) rc1 1 1) (wsP s) ((rc1 - 1)) _ (fun q hq => slAt_ne hq (Row.ne_type hr1 hk3 rfl)) hk3 (slAt_rd (l := 1) (X := wsP s) (by intros; rfl) hr1 (by show (wsP s).take (wsP s).length = wsP s; exact List.take_length) (by rw [hwl]; omega)) (by have := Row.caps hr1; omega) (by omega) hwW hop)
      rw [hwl] at hrest
      refine sqgd (act := true) (g := 2) (want := false) (ag := true) (c := false) hf (by rfl) (by rfl) rfl (fun _ =>  (d_callX (vs := [(.pointer (some ⟨b2, 0, none⟩)), (.slice (slAt (some ⟨rb1, 0, none⟩) rc1 1 1) (((((wordsS s)).length) - 1)) (rc1 - 1))]) rfl Tryd.func28 (by kernel_rfl) (by kernel_rfl) (calls_val hrest))) (fun h => by cases h) rfl ?_; clear hf fa; rintro fa _ w10 ⟨rfl, aL, cL, hk7, hr3, hg5⟩ hf
      replace hr3 := Row.rebase hr3 hb.size
      replace hk1 := blk_grown hk1 hg5 (by omega)
      replace hr1 := Row.grown hr1 hg5 (Row.ne_type hr1 hk3 rfl)
      replace hb := hb.trans (grown_below hg5 hb.size hBb2)
      have hcl := Row.caps hr3
      change Fr _ _ ((24, (.bool (resK (opN s) (wsP s)))) :: _) at hf
      refine sqgd (act := true) (g := 2) (want := false) (ag := true) (c := false) hf (by rfl) (by rfl) rfl (fun _ =>  Runs.does (R := fun vq wq => vq = (.bool true) ∧ w10 = wq) (Runs.veq (r_not rfl) (congrArg Value.bool (show _ = true from (by rw [Bool.eq_false_iff.2 hsp2]; rfl)))) ⟨rfl, rfl⟩) (fun h => by cases h) rfl ?_; clear hf fa; rintro fa _ _ ⟨rfl, rfl⟩ hf
      change Fr _ _ ((25, (.bool true)) :: _) at hf
      refine sqv hf (r_pick (b := false) rfl rfl rfl rfl) rfl rfl rfl ?_; clear hf fa; intro fa hf
      refine sqv hf (r_move rfl) rfl rfl rfl ?_; clear hf fa; intro fa hf
      refine sqgF (act := false) (ag := true) (c := true) (v := .bool false) hf rfl rfl rfl (fun hact => by cases hact) rfl rfl ?_; clear hf fa; intro fa hf
      refine sqgF (act := false) (ag := true) (c := true) (v := .bool false) hf rfl rfl rfl (fun hact => by cases hact) rfl rfl ?_; clear hf fa; intro fa hf
      refine sqgF (act := false) (ag := true) (c := true) (v := .bool false) hf rfl rfl rfl (fun hact => by cases hact) rfl rfl ?_; clear hf fa; intro fa hf
      refine sqgF (act := false) (ag := true) (c := true) (v := .bool false) hf rfl rfl rfl (fun hact => by cases hact) rfl rfl ?_; clear hf fa; intro fa hf
      refine sqv hf (r_pick (b := true) rfl rfl rfl rfl) rfl rfl rfl ?_; clear hf fa; intro fa hf
      apply wpList_nil
      (try simp only [Exit.then, Exit.inBlock, ↓reduceIte, Nat.reduceEqDiff])
      refine hK6 _ _ ?_
      refine wp_cond_true (hf.ev rfl) ?_
      refine wp_seq_k (fun K9 hK9 => ?_)
      refine wp_region_lit ?_
      refine sqv hf (r_build (vs := []) (cs := #[(.int .u8 (0 : Int)), (.int .u64 (0 : Int)), (.int .u64 (0 : Int)), (.slice none 0 0)]) rfl (fun _ => by kernel_rfl)) rfl rfl rfl ?_; clear hf fa; intro fa hf
      refine sqn hf (d_storeK (T := 25) (v := (.agg #[(.int .u8 (0 : Int)), (.int .u64 (0 : Int)), (.int .u64 (0 : Int)), (.slice none 0 0)])) (cs := #[(.int .u8 (0 : Int)), (.int .u64 (0 : Int)), (.int .u64 (0 : Int)), (.slice none 0 0)]) (cs' := #[(.int .u8 (0 : Int)), (.int .u64 (0 : Int)), (.int .u64 (0 : Int)), (.slice none 0 0)]) rfl rfl (by kernel_rfl) (by kernel_rfl) hk1 (by kernel_rfl) (by kernel_rfl)) rfl rfl ?_; clear hf fa; rintro fa _ w11 ⟨hk8, hg6⟩ hf
      replace hk7 := blk_grown hk7 hg6 (by omega)
      replace hr1 := Row.grown hr1 hg6 (Row.ne_type hr1 hk1 rfl)
      replace hr3 := Row.grown hr3 hg6 (Row.ne_type hr3 hk1 rfl)
      replace hb := hb.trans (grown_below hg6 hb.size hBb1)
      refine sqv hf (r_assign rfl) rfl rfl rfl ?_; clear hf fa; intro fa hf
      apply wpList_nil
      (try simp only [Exit.then, Exit.inBlock, ↓reduceIte, Nat.reduceEqDiff])
      refine hK9 _ _ ?_
      refine wp_ret ?_
      (try simp only [Exit.then, Exit.inBlock])
      refine retCT hf rfl rfl hk8 Tryd.underlying25 rfl (by kernel_rfl) rfl ?_
      obtain ⟨e1, e2, e3, e4, e5⟩ := par_no (parK_2 hsp2)
      rw [e1, e2, e3, e4, e5]
      exact ⟨_, rfl, none, 0, rfl, Row.nil, hb⟩
  · have hsp1b : decide ((findP (w0P s)).2 = true) = false := decide_eq_false hsp1
    refine wp_region_lit ?_
    refine sqv hf (Runs.veq (r_move rfl) (congrArg Value.bool (show _ = false from (Bool.eq_false_iff.2 hsp1)))) rfl rfl rfl ?_; clear hf fa; intro fa hf
    refine sqv hf (Runs.veq (v' := (.bool true)) (r_not rfl) rfl) rfl rfl rfl ?_; clear hf fa; intro fa hf
    refine sqv hf (r_move rfl) rfl rfl rfl ?_; clear hf fa; intro fa hf
    refine sqgF (act := false) (ag := true) (c := true) (v := .bool false) hf rfl rfl rfl (fun hact => by cases hact) rfl rfl ?_; clear hf fa; intro fa hf
    refine sqgF (act := false) (ag := true) (c := true) (v := .bool false) hf rfl rfl rfl (fun hact => by cases hact) rfl rfl ?_; clear hf fa; intro fa hf
    refine sqgF (act := false) (ag := true) (c := true) (v := .bool false) hf rfl rfl rfl (fun hact => by cases hact) rfl rfl ?_; clear hf fa; intro fa hf
    refine sqgF (act := false) (ag := true) (c := true) (v := .bool false) hf rfl rfl rfl (fun hact => by cases hact) rfl rfl ?_; clear hf fa; intro fa hf
    refine sqv hf (r_pick (b := true) rfl rfl rfl rfl) rfl rfl rfl ?_; clear hf fa; intro fa hf
    refine sqv hf (r_move rfl) rfl rfl rfl ?_; clear hf fa; intro fa hf
    refine sqgF (act := false) (ag := true) (c := true) (v := .bool false) hf rfl rfl rfl (fun hact => by cases hact) rfl rfl ?_; clear hf fa; intro fa hf
    refine sqgF (act := false) (ag := true) (c := true) (v := .bool false) hf rfl rfl rfl (fun hact => by cases hact) rfl rfl ?_; clear hf fa; intro fa hf
    refine sqgF (act := false) (ag := true) (c := true) (v := .bool false) hf rfl rfl rfl (fun hact => by cases hact) rfl rfl ?_; clear hf fa; intro fa hf
    refine sqgF (act := false) (ag := true) (c := true) (v := .bool false) hf rfl rfl rfl (fun hact => by cases hact) rfl rfl ?_; clear hf fa; intro fa hf
    refine sqv hf (r_pick (b := true) rfl rfl rfl rfl) rfl rfl rfl ?_; clear hf fa; intro fa hf
    apply wpList_nil
    (try simp only [Exit.then, Exit.inBlock, ↓reduceIte, Nat.reduceEqDiff])
    refine hK6 _ _ ?_
    refine wp_cond_true (hf.ev rfl) ?_
    refine wp_seq_k (fun K10 hK10 => ?_)
    refine wp_region_lit ?_
    refine sqv hf (r_build (vs := []) (cs := #[(.int .u8 (0 : Int)), (.int .u64 (0 : Int)), (.int .u64 (0 : Int)), (.slice none 0 0)]) rfl (fun _ => by kernel_rfl)) rfl rfl rfl ?_; clear hf fa; intro fa hf
    refine sqn hf (d_storeK (T := 25) (v := (.agg #[(.int .u8 (0 : Int)), (.int .u64 (0 : Int)), (.int .u64 (0 : Int)), (.slice none 0 0)])) (cs := #[(.int .u8 (0 : Int)), (.int .u64 (0 : Int)), (.int .u64 (0 : Int)), (.slice none 0 0)]) (cs' := #[(.int .u8 (0 : Int)), (.int .u64 (0 : Int)), (.int .u64 (0 : Int)), (.slice none 0 0)]) rfl rfl (by kernel_rfl) (by kernel_rfl) hk1 (by kernel_rfl) (by kernel_rfl)) rfl rfl ?_; clear hf fa; rintro fa _ w12 ⟨hk9, hg7⟩ hf
    replace hk3 := blk_grown hk3 hg7 (by omega)
    replace hr1 := Row.grown hr1 hg7 (Row.ne_type hr1 hk1 rfl)
    replace hb := hb.trans (grown_below hg7 hb.size hBb1)
    refine sqv hf (r_assign rfl) rfl rfl rfl ?_; clear hf fa; intro fa hf
    apply wpList_nil
    (try simp only [Exit.then, Exit.inBlock, ↓reduceIte, Nat.reduceEqDiff])
    refine hK10 _ _ ?_
    refine wp_ret ?_
    (try simp only [Exit.then, Exit.inBlock])
    refine retCT hf rfl rfl hk9 Tryd.underlying25 rfl (by kernel_rfl) rfl ?_
    obtain ⟨e1, e2, e3, e4, e5⟩ := par_no (parK_1 hsp1)
    rw [e1, e2, e3, e4, e5]
    exact ⟨_, rfl, none, 0, rfl, Row.nil, hb⟩
end Go.Proofs.YtpalmpfkliepfaaDoor

namespace Go.Proofs.YtpalmpfkliepfaaDoor
open Go.RowKit Ut
set_option linter.unusedVariables false
set_option linter.unusedSimpArgs false
attribute [local irreducible] infP ofP chkP rchkP

theorem behind_len2 {op : Nat} {A B : Int} {L : List Int} (hA : 0 ≤ A ∧ A < 18446744073709551616) (hB : 0 ≤ B ∧ B < 18446744073709551616) (hL : ∀ y ∈ L, 0 ≤ y ∧ y < 4294967296) : (behindP op A B L).size ≤ 100 + 21 * L.length := by
  have h1 := dS_len (inI_sA hA)
  have h2 := dS_len (inI_sA hB)
  have h3 := dS_len (inI_s32 A)
  have h4 := blkS_len A
  have h5 := foldD_len (f := dS) (B := 20) L ⟨#[]⟩ (fun y hy => dS_len (inI_u32 (by have := hL y hy; omega)))
  have e0 : (⟨#[]⟩ : ByteArray).size = 0 := rfl
  unfold behindP
  split
  · rw [e0]; omega
  split
  · omega
  split
  · rw [ByteArray.size_append, ByteArray.size_append]
    have e : ((⟨#[32]⟩ : ByteArray) : ByteArray).size = 1 := rfl
    omega
  split
  · rw [ByteArray.size_append, ByteArray.size_append, ByteArray.size_append]
    have e : ((⟨#[32, 97, 108, 105, 103, 110, 61]⟩ : ByteArray) : ByteArray).size = 7 := rfl
    have e2 : ((⟨#[32, 111, 102, 102, 115, 101, 116, 61]⟩ : ByteArray) : ByteArray).size = 8 := rfl
    omega
  split
  · rw [ByteArray.size_append]
    have e : ((⟨#[32]⟩ : ByteArray) : ByteArray).size = 1 := rfl
    omega
  · rw [ByteArray.size_append]
    have e : ((⟨#[32]⟩ : ByteArray) : ByteArray).size = 1 := rfl
    omega
theorem lineP_len {op : Nat} {A B : Int} {L : List Int} (hop : op < 256) (hA : 0 ≤ A ∧ A < 18446744073709551616) (hB : 0 ≤ B ∧ B < 18446744073709551616) (hL : ∀ y ∈ L, 0 ≤ y ∧ y < 4294967296) : (lineP op A B L).size ≤ 124 + 21 * L.length := by
  have h1 := behind_len2 (op := op) hA hB hL
  have h2 := nmO_len hop
  have e0 : (⟨#[]⟩ : ByteArray).size = 0 := rfl
  unfold lineP
  split
  · rw [ByteArray.size_append]; omega
  · rw [e0]; omega
theorem line_back {op : Nat} {A B : Int} {L : List Int} (hop : op < 256) (hr : rightP op A B L.length = 0) (hA : 0 ≤ A ∧ A < 18446744073709551616) (hB : 0 ≤ B) (hL : ∀ y ∈ L, 0 ≤ y ∧ y < 4294967296) :
    pO (lineP op A B L) = ((op : Nat) : Int) ∧ pA (lineP op A B L) = A ∧ pB (lineP op A B L) = B ∧ pL (lineP op A B L) = L ∧ pE (lineP op A B L) = 0 := by
  obtain ⟨h1, h2, h3⟩ := par_back hop hr hA hB hL
  obtain ⟨b1, b2, b3, b4⟩ := rest_back hr hA hB hL
  obtain ⟨e1, e2, e3, e4, e5⟩ := par_yes h3
  rw [h1, h2] at e2 e3 e4
  rw [h1] at e1
  rw [b2] at e2
  rw [b3] at e3
  rw [b4] at e4
  exact ⟨e1, e2, e3, e4, e5⟩

end Go.Proofs.YtpalmpfkliepfaaDoor

namespace Go.Proofs.YtpalmpfkliepfaaDoor
open Go.RowKit Ut
set_option linter.unusedVariables false
set_option linter.unusedSimpArgs false
attribute [local irreducible] infP ofP chkP rchkP

end Go.Proofs.YtpalmpfkliepfaaDoor

namespace Go.Proofs.YtpalmpfkliepfaaDoor
open Go.RowKit
set_option linter.unusedVariables false
set_option linter.unusedSimpArgs false
/-- The blocks of a type are as they were. -/
def KT (T : Nat) (w1 w : World) : Prop := ∀ (bf : Nat) (cs : Array Value), w1.heap[bf]? = some (.cells cs T (0, 0)) → w.heap[bf]? = some (.cells cs T (0, 0))
theorem KT.refl (T : Nat) (w : World) : KT T w w := fun _ _ h => h
theorem KT.trans {T : Nat} {w w1 w2 : World} (h : KT T w w1) (h2 : KT T w1 w2) : KT T w w2 := fun b cs hb => h2 b cs (h b cs hb)
theorem KT.map {T : Nat} {w1 w w' : World} (h : KT T w1 w) (hm : ∀ (bf : Nat) (cs : Array Value), w.heap[bf]? = some (.cells cs T (0, 0)) → w'.heap[bf]? = some (.cells cs T (0, 0))) : KT T w1 w' := fun b cs hb => hm b cs (h b cs hb)
theorem blk_ty {w : World} {b c T T2 : Nat} {cs cs2 : Array Value} {fr fr2 : Nat × Nat} (h1 : w.heap[b]? = some (.cells cs T fr)) (h2 : w.heap[c]? = some (.cells cs2 T2 fr2)) (h : (T == T2) = false) : b ≠ c := by
  rintro rfl
  rw [h1] at h2
  injection h2 with e
  injection e with e1 e2 e3
  subst e2
  simp at h
theorem KT.grown {T T2 b : Nat} {w w' : World} {cs : Array Value} {fr : Nat × Nat} (hg : w.grownBy w' (some b)) (hb : w.heap[b]? = some (.cells cs T2 fr)) (hne : (T == T2) = false) : KT T w w' := fun bf cs2 h => blk_grown h hg (blk_ty h hb hne)
theorem KT.app {α : Type} {T k e base : Nat} {V : α → List Value} {l : List α} {v : Value} {w w' : World} (hg : w.grownBy w' v.ownBlock) (hr : Row k V e base w v l) (hne : (e == T) = false) : KT T w w' := fun bf cs2 h => blk_row' h hg (Row.ne_type hr h hne)
/-- The blocks from X on are as they were. -/
def KX (X : Nat) (w1 w : World) : Prop := ∀ (k : Nat) (o : Obj), X ≤ k → w1.heap[k]? = some o → w.heap[k]? = some o
theorem KX.refl (X : Nat) (w : World) : KX X w w := fun _ _ _ h => h
section
variable {X : Nat} {w1 w w' : World}
theorem KX.below (h : KX X w1 w) (hb : Below w.heap.size w w') : KX X w1 w' := fun k o hk ho => blk_ext (h k o hk ho) hb
theorem KX.grown {b : Nat} (h : KX X w1 w) (hg : w.grownBy w' (some b)) (hx : b < X ∨ w1.heap.size ≤ b) : KX X w1 w' := fun k o hk ho => blk_grown (h k o hk ho) hg (fun e => by have := (Array.getElem?_eq_some_iff.1 ho).1; omega)
theorem KX.app {v : Value} (h : KX X w1 w) (hg : w.grownBy w' v.ownBlock) (hx : ∀ q, v.ownBlock = some q → q < X ∨ w1.heap.size ≤ q) : KX X w1 w' := fun k o hk ho => blk_row' (h k o hk ho) hg (fun e => by have := (Array.getElem?_eq_some_iff.1 ho).1; have := hx k e; omega)
theorem KX.go {b : Nat} {v : Value} (h : KX X w1 w) (hg : GO w b v w') (hx : b < X ∨ w1.heap.size ≤ b) (hv : ∀ q, v.ownBlock = some q → q < X ∨ w1.heap.size ≤ q) : KX X w1 w' := fun k o hk ho => blk_go (h k o hk ho) hg (fun e => by have := (Array.getElem?_eq_some_iff.1 ho).1; omega) (fun e => by have := (Array.getElem?_eq_some_iff.1 ho).1; have := hv k e; omega)
end
theorem Below_go {B : Nat} {w0 w w1 : World} {b : Nat} {v : Value} (h : Below B w0 w) (h2 : GO w b v w1) (hB : B ≤ w.heap.size) (hm : B ≤ b) (hv : ∀ q, v.ownBlock = some q → B ≤ q) : Below B w0 w1 :=
  h.trans ⟨h2.os, h2.tape, h2.output, h2.size, fun k hk => h2.block k (by omega) (by rintro rfl; omega) (fun e => by have := hv k e.symm; omega)⟩
theorem Row.cutA {α : Type} {k e base : Nat} {V : α → List Value} {w : World} {l : List α} {a : Option Addr} {n c m : Nat} (hk : ∀ x, (V x).length = k) (h : Row k V e base w (.slice a n c) l) (hn : n = l.length) (hm : m ≤ n) : Row k V e base w (.slice a m c) (l.take m) := by
  rcases Nat.eq_zero_or_pos n with h0 | h0
  · have hl : l = [] := List.length_eq_zero_iff.1 (by omega)
    subst hl
    have e : m = n := by omega
    subst e
    rw [List.take_nil]
    exact h
  · exact Row.cut hk h hn h0 hm
end Go.Proofs.YtpalmpfkliepfaaDoor

namespace Go.Proofs.YtpalmpfkliepfaaDoor
open Go.RowKit Ut
set_option linter.unusedVariables false
set_option linter.unusedSimpArgs false
attribute [local irreducible] infP ofP chkP rchkP

theorem cellsAt_go {w w1 : World} {b k o : Nat} {v : Value} {cs : List Value} (h : cellsAt w k o cs) (hg : GO w b v w1) (hl : k < w.heap.size) (h1 : k ≠ b) (h2 : v.ownBlock ≠ some k) : cellsAt w1 k o cs := fun j u hu => by
  have e := h j u hu
  have hb := hg.block k hl h1 (fun e => h2 e.symm)
  unfold World.cell? at e ⊢
  rw [hb]
  exact e
end Go.Proofs.YtpalmpfkliepfaaDoor

namespace Go.Proofs.YtpalmpfkliepfaaDoor
open Go.RowKit Ut
set_option linter.unusedVariables false
set_option linter.unusedSimpArgs false
attribute [local irreducible] infP ofP chkP rchkP

theorem same_eq2 {o o2 A B A' B' : Int} {L L' : List Int} (op : Nat) (a a2 : Option Addr) (c c2 : Nat) (w : World) (e2 : o2 = ((op : Nat) : Int)) (eo : o = o2) (eA : A' = A) (eB : B' = B) (eL : L' = L) (hl : RdS 1 (vInt .u32) w a L') (hl2 : RdS 1 (vInt .u32) w a2 L) (hc : L'.length ≤ c) (hc2 : L.length ≤ c2) (hn : L.length ≤ 100000) : Calls Tryd.prog 11 #[(.agg #[(.int .u8 o), (.int .u64 A'), (.int .u64 B'), (.slice a L'.length c)]), (.agg #[(.int .u8 o2), (.int .u64 A), (.int .u64 B), (.slice a2 L.length c2)])] w fun e w' => e = .returned (.bool true) ∧ Below w.heap.size w w' := by
  subst eo e2 eA eB eL
  exact same07_any op _ _ _ a a2 c c2 w hl hl2 hc hc2 hn
end Go.Proofs.YtpalmpfkliepfaaDoor

namespace Go.Proofs.YtpalmpfkliepfaaDoor.Fl
open Go.RowKit

abbrev Ins := Int × Int × Int × Sl Int × Unit
def vIns (d : Ins) : List Value := vInt .u8 d.1 ++ (vInt .u64 d.2.1 ++ (vInt .u64 d.2.2.1 ++ (vSl d.2.2.2.1 ++ [])))
def opensI (x : Int) : Bool := (decide (x = (2 : Int)) || decide (x = (3 : Int))) || decide (x = (4 : Int))
def opl (l : List Ins) : List Int := l.map (·.1)
theorem opl_length (l : List Ins) : (opl l).length = l.length := by simp [opl]
theorem opl_drop {l : List Ins} {n : Nat} {y : Ins} (h : l[n]? = some y) : (opl l).drop n = y.1 :: (opl l).drop (n + 1) := by
  have hn := (List.getElem?_eq_some_iff.1 h).1
  rw [List.drop_eq_getElem_cons (by rw [opl_length]; exact hn)]
  congr 1
  have := (List.getElem?_eq_some_iff.1 h).2
  simp [opl, this]
theorem opl_end {l : List Ins} {n : Nat} (h : l.length ≤ n) : (opl l).drop n = [] := List.drop_eq_nil_of_le (by rw [opl_length]; exact h)

/-- From a place on: where the block ends, and its else. -/
def seekR : List Int → Nat → Nat → Int → Int × Int
  | [], _, _, _ => (-1, -1)
  | o :: r, n, dp, ot => if opensI o = true then seekR r (n + 1) (dp + 1) ot else if o = 5 ∧ (dp : Int) = 0 then seekR r (n + 1) dp n else if o = 11 then (if (dp : Int) = 0 then (n, ot) else seekR r (n + 1) (dp - 1) ot) else seekR r (n + 1) dp ot
def seekP (l : List Int) (at0 : Nat) : Int × Int := seekR (l.drop (at0 + 1)) (at0 + 1) 0 (-1)

/-- As the document walks: with a string. -/
def walkR : List Int → ByteArray → Nat → Int × Int
  | [], _, _ => (0, -1)
  | o :: r, s, n => if o = 2 then walkR r (s ++ ⟨#[98]⟩) (n + 1) else if o = 3 then walkR r (s ++ ⟨#[98]⟩) (n + 1) else if o = 4 then walkR r (s ++ ⟨#[105]⟩) (n + 1) else
    if o = 5 then (if s = ⟨#[]⟩ ∨ ((sbt s (s.size - 1) : Nat) : Int) ≠ 105 then (0, n) else walkR r (s.extract 0 (s.size - 1) ++ ⟨#[101]⟩) (n + 1)) else
    if o = 11 then (if s = ⟨#[]⟩ then (n + 1, -1) else walkR r (s.extract 0 (s.size - 1)) (n + 1)) else walkR r s (n + 1)
def rshapeP (l : List Int) : Int := if 20000 < (l.length : Int) then 29 else if (walkR l ⟨#[]⟩ 0).1 = 0 ∨ (walkR l ⟨#[]⟩ 0).1 ≠ l.length then 30 else 0

/-- As the program does: with a row of first bytes. -/
def shR (len : Nat) : List Int → List Int → Nat → Int
  | [], _, _ => 30
  | o :: r, xs, n => if opensI o = true then shR len r (xs ++ [o]) (n + 1) else if o = 5 then (if xs.getD (xs.length - 1) 0 ≠ 4 then 30 else shR len r (xs.set (xs.length - 1) 5) (n + 1)) else
    if o = 11 then (if ((xs.length - 1 : Nat) : Int) = 0 then (if decide ((n : Int) = (len : Int) - 1) = true then 0 else 30) else shR len r (xs.take (xs.length - 1)) (n + 1)) else shR len r xs (n + 1)
def shapeP (l : List Int) : Int := if 20000 < (l.length : Int) then 29 else shR l.length l [0] 0

theorem getD_mem' {l : List Int} {j : Nat} (h : j < l.length) : l.getD j 0 ∈ l := by
  rw [List.getD_eq_getElem?_getD, List.getElem?_eq_getElem h]; exact List.getElem_mem h
theorem opl_getD {l : List Ins} {n : Nat} {y : Ins} (h : l[n]? = some y) : (opl l).getD n 0 = y.1 := by
  rw [List.getD_eq_getElem?_getD]; simp [opl, h]

/-- Blocks that begin ahead of a place and end behind it. -/
def dcR (ops : List Int) (at0 : Nat) : Nat → Int
  | 0 => 0
  | i + 1 => if opensI (ops.getD i 0) = true then (if (at0 : Int) < (seekP ops i).1 ∧ (at0 : Int) ≠ (seekP ops i).2 then dcR ops at0 i + 1 else dcR ops at0 i) else dcR ops at0 i
theorem dcR_eq (ops : List Int) (at0 i : Nat) : dcR ops at0 (i + 1) = if opensI (ops.getD i 0) = true then (if (at0 : Int) < (seekP ops i).1 ∧ (at0 : Int) ≠ (seekP ops i).2 then dcR ops at0 i + 1 else dcR ops at0 i) else dcR ops at0 i := rfl
theorem dcR_le (ops : List Int) (at0 : Nat) : ∀ i, 0 ≤ dcR ops at0 i ∧ dcR ops at0 i ≤ i
  | 0 => ⟨Int.le_refl _, Int.le_refl _⟩
  | i + 1 => by
    have := dcR_le ops at0 i
    unfold dcR
    split
    · split <;> omega
    · omega
def depthP (ops : List Int) (at0 : Nat) : Int := if (at0 : Int) = (ops.length : Int) - 1 then dcR ops at0 at0 - 1 else dcR ops at0 at0

/-- How many blocks are open ahead of each instruction. -/
def dlR : List Int → Int → List Int
  | [], _ => []
  | o :: r, d => if o = 11 ∨ o = 5 then (if opensI o = true ∨ o = 5 then (d - 1) :: dlR r (d - 1 + 1) else (d - 1) :: dlR r (d - 1)) else (if opensI o = true ∨ o = 5 then d :: dlR r (d + 1) else d :: dlR r d)
theorem dlR_length : ∀ (l : List Int) (d : Int), (dlR l d).length = l.length
  | [], _ => rfl
  | o :: r, d => by
    unfold dlR
    split <;> split <;> simp [dlR_length r]
def depthsP (ops : List Int) : List Int := if shapeP ops ≠ 0 then [] else dlR ops 0

theorem dlR_bd : ∀ (l : List Int) (d : Int), ∀ x ∈ dlR l d, d - l.length ≤ x ∧ x ≤ d + l.length
  | [], _, x, h => by simp [dlR] at h
  | o :: r, d, x, h => by
    unfold dlR at h
    simp only [List.length_cons]
    split at h <;> split at h <;> rcases List.mem_cons.1 h with h | h <;> first | omega | (have := dlR_bd r _ x h; omega)
theorem depthsP_bd (ops : List Int) : ∀ x ∈ depthsP ops, -(ops.length : Int) ≤ x ∧ x ≤ ops.length := by
  intro x hx
  unfold depthsP at hx
  split at hx
  · simp at hx
  · have := dlR_bd _ _ x hx; omega
theorem drop_getD {l : List Int} {n : Nat} (h : n < l.length) : l.drop n = l.getD n 0 :: l.drop (n + 1) := by
  rw [List.drop_eq_getElem_cons h, List.getD_eq_getElem?_getD, List.getElem?_eq_getElem h]; rfl
/-- The end of each block, and its else. -/
def ofR : List Int → Nat → List Int → List Int → List Int → List Int × List Int
  | [], _, _, en, el => (en, el)
  | o :: r, n, op, en, el => if opensI o = true then ofR r (n + 1) (op ++ [(n : Int)]) (en.set n (-1)) (el.set n (-1)) else
    if o = 5 then ofR r (n + 1) op (en.set n (-1)) ((el.set n (-1)).set (op.getD (op.length - 1) 0).toNat n) else
    if o = 11 ∧ 0 < (op.length : Int) then ofR r (n + 1) (op.take (op.length - 1)) ((en.set n (-1)).set (op.getD (op.length - 1) 0).toNat n) (el.set n (-1)) else ofR r (n + 1) op (en.set n (-1)) (el.set n (-1))
def ofP (ops : List Int) : List Int × List Int := ofR ops 0 [] (List.replicate ops.length 0) (List.replicate ops.length 0)

/-- The shape's walk at a place where so many blocks are open. -/
def ShP (ops : List Int) (n k : Nat) : Prop := (n = ops.length ∧ k = 0) ∨ ∃ xs : List Int, shR ops.length (ops.drop n) xs n = 0 ∧ xs.length = k + 1 ∧ xs.getD 0 0 = 0
theorem ShP.start {ops : List Int} (h : ¬ shapeP ops ≠ 0) : ShP ops 0 0 := by
  have h := Decidable.of_not_not h
  unfold shapeP at h
  split at h
  · cases h
  · exact .inr ⟨[0], h, rfl, rfl⟩
section
variable {ops : List Int} {n k : Nat} {o : Int} {r : List Int}
theorem ShP.lt (hd : ops.drop n = o :: r) : n < ops.length := by
  rcases Nat.lt_or_ge n ops.length with h | h
  · exact h
  · rw [List.drop_eq_nil_of_le h] at hd; cases hd
theorem ShP.drop1 (hd : ops.drop n = o :: r) : ops.drop (n + 1) = r := by
  rw [← List.drop_drop, hd]; rfl
theorem ShP.opens (h : ShP ops n k) (hd : ops.drop n = o :: r) (ho : opensI o = true) : ShP ops (n + 1) (k + 1) := by
  rcases h with h | ⟨xs, h1, h2, h3⟩
  · have := ShP.lt hd; omega
  · rw [hd, shR, if_pos ho] at h1
    refine .inr ⟨xs ++ [o], by rw [ShP.drop1 hd]; exact h1, by simp [h2], ?_⟩
    cases xs with
    | nil => simp at h2
    | cons x xs => exact h3
theorem ShP.pos (h : ShP ops n k) (hd : ops.drop n = o :: r) (ho : ¬ opensI o = true) (h5 : o = 5) : 0 < k := by
  rcases h with h | ⟨xs, h1, h2, h3⟩
  · have := ShP.lt hd; omega
  · rw [hd, shR, if_neg ho, if_pos h5] at h1
    rcases Nat.eq_zero_or_pos k with hk | hk
    · subst hk
      rw [h2] at h1
      simp only [Nat.zero_add, Nat.sub_self, h3] at h1
      simp at h1
    · exact hk
theorem ShP.els (h : ShP ops n k) (hd : ops.drop n = o :: r) (ho : ¬ opensI o = true) (h5 : o = 5) : ShP ops (n + 1) k := by
  have hk := h.pos hd ho h5
  rcases h with h | ⟨xs, h1, h2, h3⟩
  · have := ShP.lt hd; omega
  · rw [hd, shR, if_neg ho, if_pos h5] at h1
    split at h1
    · cases h1
    · refine .inr ⟨_, by rw [ShP.drop1 hd]; exact h1, by simp [h2], ?_⟩
      rw [List.getD_eq_getElem?_getD, List.getElem?_set_ne (by omega), ← List.getD_eq_getElem?_getD]; exact h3
theorem ShP.fin (h : ShP ops n k) (hd : ops.drop n = o :: r) (ho : ¬ opensI o = true) (h5 : ¬ o = 5) (h11 : o = 11 ∧ 0 < (k : Int)) : ShP ops (n + 1) (k - 1) := by
  rcases h with h | ⟨xs, h1, h2, h3⟩
  · have := ShP.lt hd; omega
  · rw [hd, shR, if_neg ho, if_neg h5, if_pos h11.1, if_neg (by omega)] at h1
    refine .inr ⟨_, by rw [ShP.drop1 hd]; exact h1, by rw [List.length_take]; omega, ?_⟩
    rw [List.getD_eq_getElem?_getD, List.getElem?_take, if_pos (by omega), ← List.getD_eq_getElem?_getD]; exact h3
theorem ShP.other (h : ShP ops n k) (hd : ops.drop n = o :: r) (ho : ¬ opensI o = true) (h5 : ¬ o = 5) (h11 : ¬ (o = 11 ∧ 0 < (k : Int))) : ShP ops (n + 1) k := by
  rcases h with h | ⟨xs, h1, h2, h3⟩
  · have := ShP.lt hd; omega
  · rw [hd, shR, if_neg ho, if_neg h5] at h1
    by_cases hb : o = 11
    · rw [if_pos hb, if_pos (by omega)] at h1
      split at h1
      · rename_i h4
        simp only [decide_eq_true_eq] at h4
        have := ShP.lt hd
        exact .inl ⟨by omega, by omega⟩
      · cases h1
    · rw [if_neg hb] at h1
      exact .inr ⟨xs, by rw [ShP.drop1 hd]; exact h1, h2, h3⟩
end
end Go.Proofs.YtpalmpfkliepfaaDoor.Fl

namespace Go.Proofs.YtpalmpfkliepfaaDoor.Fl
open Go.RowKit
set_option linter.unusedVariables false
set_option linter.unusedSimpArgs false
set_option maxHeartbeats 1000000 in
set_option maxRecDepth 100000 in
theorem opens_any (x : Int) (w : World) : Calls Tryd.prog 60 #[(.int .u8 x)] w fun e w' => e = .returned (.bool (opensI x)) ∧ w = w' := by
  refine sx_enter (L := [(0, (.int .u8 x))]) Tryd.func60 rfl rfl rfl rfl (fun fa hf => ?_)
  have hb : Below w.heap.size w w := Below.refl _ _
  refine wp_seq_k (fun K1 hK1 => ?_)
  refine wp_region_lit ?_
  refine sqv hf (r_assign rfl) rfl rfl rfl ?_; clear hf fa; intro fa hf
  apply wpList_nil
  (try simp only [Exit.then, Exit.inBlock, ↓reduceIte, Nat.reduceEqDiff])
  refine hK1 _ _ ?_
  refine wp_seq_k (fun K2 hK2 => ?_)
  refine wp_region_lit ?_
  refine sqv hf (r_move rfl) rfl rfl rfl ?_; clear hf fa; intro fa hf
  refine sqv hf (r_eq rfl rfl) rfl rfl rfl ?_; clear hf fa; intro fa hf
  refine sqv hf (r_move rfl) rfl rfl rfl ?_; clear hf fa; intro fa hf
  refine sqgF (act := (!(decide (x = (2 : Int))))) (ag := true) (c := (decide (x = (2 : Int)))) (v := (.int .u8 x)) hf rfl rfl rfl (fun hact => (r_move rfl)) rfl rfl ?_; clear hf fa; intro fa hf
  refine sqgF (act := (!(decide (x = (2 : Int))))) (ag := true) (c := (decide (x = (2 : Int)))) (v := (.bool (decide (x = (3 : Int))))) hf rfl rfl rfl (fun hact => (r_eq (gb_ev hact rfl) rfl)) rfl rfl ?_; clear hf fa; intro fa hf
  refine sqv hf (r_pickO (b := (decide (x = (2 : Int)))) (e := (decide (x = (3 : Int)))) rfl rfl rfl) rfl rfl rfl ?_; clear hf fa; intro fa hf
  refine sqv hf (r_move rfl) rfl rfl rfl ?_; clear hf fa; intro fa hf
  refine sqgF (act := (!((decide (x = (2 : Int))) || (decide (x = (3 : Int)))))) (ag := true) (c := ((decide (x = (2 : Int))) || (decide (x = (3 : Int))))) (v := (.int .u8 x)) hf rfl rfl rfl (fun hact => (r_move rfl)) rfl rfl ?_; clear hf fa; intro fa hf
  refine sqgF (act := (!((decide (x = (2 : Int))) || (decide (x = (3 : Int)))))) (ag := true) (c := ((decide (x = (2 : Int))) || (decide (x = (3 : Int))))) (v := (.bool (decide (x = (4 : Int))))) hf rfl rfl rfl (fun hact => (r_eq (gb_ev hact rfl) rfl)) rfl rfl ?_; clear hf fa; intro fa hf
  refine sqv hf (r_pickO (b := ((decide (x = (2 : Int))) || (decide (x = (3 : Int))))) (e := (decide (x = (4 : Int)))) rfl rfl rfl) rfl rfl rfl ?_; clear hf fa; intro fa hf
  refine sqv hf (r_assign rfl) rfl rfl rfl ?_; clear hf fa; intro fa hf
  apply wpList_nil
  (try simp only [Exit.then, Exit.inBlock, ↓reduceIte, Nat.reduceEqDiff])
  refine hK2 _ _ ?_
  refine wp_ret ?_
  (try simp only [Exit.then, Exit.inBlock])
  refine ret1 hf rfl rfl ?_
  exact ⟨rfl, rfl⟩

set_option maxHeartbeats 1000000 in
set_option maxRecDepth 100000 in
theorem ropens_any (d : Ins) (w : World) : Calls Tryd.prog 38 #[(.agg #[(.int .u8 d.1), (.int .u64 d.2.1), (.int .u64 d.2.2.1), (.slice d.2.2.2.1.at' d.2.2.2.1.len d.2.2.2.1.cap)])] w fun e w' => e = .returned (.bool (opensI d.1)) ∧ Below w.heap.size w w' := by
  refine sx_enter (L := [(0, (.agg #[(.int .u8 d.1), (.int .u64 d.2.1), (.int .u64 d.2.2.1), (.slice d.2.2.2.1.at' d.2.2.2.1.len d.2.2.2.1.cap)]))]) Tryd.func38 rfl rfl rfl rfl (fun fa hf => ?_)
  have hb : Below w.heap.size w w := Below.refl _ _
  refine wp_seq_k (fun K1 hK1 => ?_)
  refine wp_region_lit ?_
  refine sqdt hf (d_box (cs := #[(.int .u8 d.1), (.int .u64 d.2.1), (.int .u64 d.2.2.1), (.slice d.2.2.2.1.at' d.2.2.2.1.len d.2.2.2.1.cap)]) rfl rfl) rfl rfl rfl ?_; clear hf fa; rintro fa _ w1 ⟨b1, rfl, hle1, hk1, he1⟩ hf
  have hBb1 : w.heap.size ≤ b1 := Nat.le_trans hb.size hle1
  replace hb := hb.trans (Below.mono he1 hb.size)
  refine sqv hf (r_assign rfl) rfl rfl rfl ?_; clear hf fa; intro fa hf
  apply wpList_nil
  (try simp only [Exit.then, Exit.inBlock, ↓reduceIte, Nat.reduceEqDiff])
  refine hK1 _ _ ?_
  refine wp_seq_k (fun K2 hK2 => ?_)
  refine wp_region_lit ?_
  refine sqv hf (r_fa rfl Tryd.underlying25 (f := 0) (q := 0) rfl (by kernel_rfl) rfl) rfl rfl rfl ?_; clear hf fa; intro fa hf
  refine sqv hf (r_load (v := (.int .u8 d.1)) rfl Tryd.underlying5 rfl (cell_blk hk1 rfl)) rfl rfl rfl ?_; clear hf fa; intro fa hf
  refine sqv hf (r_eq rfl rfl) rfl rfl rfl ?_; clear hf fa; intro fa hf
  refine sqv hf (r_move rfl) rfl rfl rfl ?_; clear hf fa; intro fa hf
  refine sqgF (act := (!(decide (d.1 = (2 : Int))))) (ag := true) (c := (decide (d.1 = (2 : Int)))) (v := (.pointer (some ⟨b1, 0, none⟩))) hf rfl rfl rfl (fun hact => (r_fa rfl Tryd.underlying25 (f := 0) (q := 0) rfl (by kernel_rfl) rfl)) rfl rfl ?_; clear hf fa; intro fa hf
  refine sqgF (act := (!(decide (d.1 = (2 : Int))))) (ag := true) (c := (decide (d.1 = (2 : Int)))) (v := (.int .u8 d.1)) hf rfl rfl rfl (fun hact => (r_load (v := (.int .u8 d.1)) (gb_ev hact rfl) Tryd.underlying5 rfl (cell_blk hk1 rfl))) rfl rfl ?_; clear hf fa; intro fa hf
  refine sqgF (act := (!(decide (d.1 = (2 : Int))))) (ag := true) (c := (decide (d.1 = (2 : Int)))) (v := (.bool (decide (d.1 = (3 : Int))))) hf rfl rfl rfl (fun hact => (r_eq (gb_ev hact rfl) rfl)) rfl rfl ?_; clear hf fa; intro fa hf
  refine sqv hf (r_pickO (b := (decide (d.1 = (2 : Int)))) (e := (decide (d.1 = (3 : Int)))) rfl rfl rfl) rfl rfl rfl ?_; clear hf fa; intro fa hf
  refine sqv hf (r_move rfl) rfl rfl rfl ?_; clear hf fa; intro fa hf
  refine sqgF (act := (!((decide (d.1 = (2 : Int))) || (decide (d.1 = (3 : Int)))))) (ag := true) (c := ((decide (d.1 = (2 : Int))) || (decide (d.1 = (3 : Int))))) (v := (.pointer (some ⟨b1, 0, none⟩))) hf rfl rfl rfl (fun hact => (r_fa rfl Tryd.underlying25 (f := 0) (q := 0) rfl (by kernel_rfl) rfl)) rfl rfl ?_; clear hf fa; intro fa hf
  refine sqgF (act := (!((decide (d.1 = (2 : Int))) || (decide (d.1 = (3 : Int)))))) (ag := true) (c := ((decide (d.1 = (2 : Int))) || (decide (d.1 = (3 : Int))))) (v := (.int .u8 d.1)) hf rfl rfl rfl (fun hact => (r_load (v := (.int .u8 d.1)) (gb_ev hact rfl) Tryd.underlying5 rfl (cell_blk hk1 rfl))) rfl rfl ?_; clear hf fa; intro fa hf
  refine sqgF (act := (!((decide (d.1 = (2 : Int))) || (decide (d.1 = (3 : Int)))))) (ag := true) (c := ((decide (d.1 = (2 : Int))) || (decide (d.1 = (3 : Int))))) (v := (.bool (decide (d.1 = (4 : Int))))) hf rfl rfl rfl (fun hact => (r_eq (gb_ev hact rfl) rfl)) rfl rfl ?_; clear hf fa; intro fa hf
  refine sqv hf (r_pickO (b := ((decide (d.1 = (2 : Int))) || (decide (d.1 = (3 : Int))))) (e := (decide (d.1 = (4 : Int)))) rfl rfl rfl) rfl rfl rfl ?_; clear hf fa; intro fa hf
  refine sqv hf (r_assign rfl) rfl rfl rfl ?_; clear hf fa; intro fa hf
  apply wpList_nil
  (try simp only [Exit.then, Exit.inBlock, ↓reduceIte, Nat.reduceEqDiff])
  refine hK2 _ _ ?_
  refine wp_ret ?_
  (try simp only [Exit.then, Exit.inBlock])
  refine ret1 hf rfl rfl ?_
  exact ⟨rfl, hb⟩

set_option maxHeartbeats 1000000 in
set_option maxRecDepth 100000 in
theorem seek_any (l : List Ins) (a : Option Addr) (c : Nat) (at0 : Nat) (w : World) (hr : RdS 4 vIns w a l) (hlc : l.length ≤ c) (hlm : l.length ≤ 100000) (hat : at0 < l.length) : Calls Tryd.prog 39 #[(.slice a l.length c), (.int .i64 ((at0 : Nat) : Int))] w fun e w' => e = .returned (.tuple #[.int .i64 (seekP (opl l) at0).1, .int .i64 (seekP (opl l) at0).2]) ∧ Below w.heap.size w w' := by
  refine sx_enter (L := [(0, (.slice a l.length c)), (1, (.int .i64 ((at0 : Nat) : Int)))]) Tryd.func39 rfl rfl rfl rfl (fun fa hf => ?_)
  have hb : Below w.heap.size w w := Below.refl _ _
  refine wp_seq_k (fun K1 hK1 => ?_)
  refine wp_region_lit ?_
  refine sqv hf (r_assign rfl) rfl rfl rfl ?_; clear hf fa; intro fa hf
  refine sqv hf (r_assign rfl) rfl rfl rfl ?_; clear hf fa; intro fa hf
  apply wpList_nil
  (try simp only [Exit.then, Exit.inBlock, ↓reduceIte, Nat.reduceEqDiff])
  refine hK1 _ _ ?_
  refine wp_seq_k (fun K2 hK2 => ?_)
  refine wp_region_lit ?_
  refine sqv hf (r_assign rfl) rfl rfl rfl ?_; clear hf fa; intro fa hf
  refine sqv hf (r_assign rfl) rfl rfl rfl ?_; clear hf fa; intro fa hf
  apply wpList_nil
  (try simp only [Exit.then, Exit.inBlock, ↓reduceIte, Nat.reduceEqDiff])
  refine hK2 _ _ ?_
  refine wp_seq_k (fun K3 hK3 => ?_)
  refine wp_seq_k (fun K4 hK4 => ?_)
  refine wp_region_lit ?_
  refine sqv hf (r_move rfl) rfl rfl rfl ?_; clear hf fa; intro fa hf
  refine sqv hf (r_add (C := (((at0 : Nat) : Int) + (1 : Int))) rfl rfl (by rw [IntKind.wrap_i64]; omega)) rfl rfl rfl ?_; clear hf fa; intro fa hf
  refine sqv hf (r_assign rfl) rfl rfl rfl ?_; clear hf fa; intro fa hf
  apply wpList_nil
  (try simp only [Exit.then, Exit.inBlock, ↓reduceIte, Nat.reduceEqDiff])
  refine hK4 _ _ ?_
  refine wp_block ?_
  refine wp_loop_k (fun mq fa wr => ∃ (n : Nat) (dp : Nat) (ot : Int), mq = l.length - n ∧ Fr 50 fa [(0, (.slice a l.length c)), (8, (.int .i64 ((n : Nat) : Int))), (6, (.int .i64 ((dp : Nat) : Int))), (7, (.int .i64 ot))] ∧ Below w.heap.size w wr ∧ (n ≤ l.length) ∧ (dp ≤ n) ∧ (seekP (opl l) at0 = seekR ((opl l).drop n) n dp ot)) ?_ ?_
  · skip
    exact ⟨_, (at0 + 1), 0, -1, rfl, hf.sub ⟨rfl, (some_int (by first | rfl | omega)), (some_int (by first | rfl | omega)), (some_int (by first | rfl | omega)), trivial⟩, hb, by omega, by omega, rfl⟩
  · skip
    clear hf fa; intro mq1 fa w1 hI KL1 hKL1
    clear hb
    obtain ⟨n, dp, ot, hmq1, hf, hb, hn, hd, Hs⟩ := hI
    refine wp_seq_k (fun K5 hK5 => ?_)
    refine wp_seq_k (fun K6 hK6 => ?_)
    refine wp_region_lit ?_
    refine sqv hf (r_move rfl) rfl rfl rfl ?_; clear hf fa; intro fa hf
    refine sqv hf (r_move rfl) rfl rfl rfl ?_; clear hf fa; intro fa hf
    refine sqv hf (r_lensl rfl Tryd.underlying37) rfl rfl rfl ?_; clear hf fa; intro fa hf
    refine sqv hf (r_lt rfl rfl) rfl rfl rfl ?_; clear hf fa; intro fa hf
    apply wpList_nil
    (try simp only [Exit.then, Exit.inBlock, ↓reduceIte, Nat.reduceEqDiff])
    refine hK6 _ _ ?_
    refine wp_cond_split (t := (decide (((n : Nat) : Int) < ((l.length : Nat) : Int)))) (hf.ev rfl) (fun hqt14_1 => ?_) (fun hqt14_1 => ?_)
    · have hqt14_1b := hqt14_1
      try simp only [decide_eq_true_eq, Bool.and_eq_true, Bool.or_eq_true, Bool.not_eq_true', decide_eq_false_iff_not, ne_eq, Bool.not_eq_true] at hqt14_1
      refine wp_skip ?_
      (try simp only [Exit.then, Exit.inBlock, ↓reduceIte, Nat.reduceEqDiff])
      refine hK5 _ _ ?_
      refine wp_seq_k (fun K7 hK7 => ?_)
      refine wp_block ?_
      refine wp_block ?_
      refine wp_seq_k (fun K8 hK8 => ?_)
      refine wp_region_lit ?_
      refine sqv hf (r_move rfl) rfl rfl rfl ?_; clear hf fa; intro fa hf
      refine sqv hf (r_move rfl) rfl rfl rfl ?_; clear hf fa; intro fa hf
      obtain ⟨y1, hy1⟩ : ∃ x, (l)[n]? = some x := ⟨_, List.getElem?_eq_getElem (by omega)⟩
      obtain ⟨ab1, aoff1, rfl, hlb1, hel1⟩ := RdS.at hr hy1
      refine sqv hf (r_ixa (sz := 4) (j := n) rfl rfl Tryd.underlying37 (by kernel_rfl) rfl (by omega) rfl) rfl rfl rfl ?_; clear hf fa; intro fa hf
      refine sqv hf (r_loadA (cs := [(.int .u8 y1.1), (.int .u64 y1.2.1), (.int .u64 y1.2.2.1), (.slice y1.2.2.2.1.at' y1.2.2.2.1.len y1.2.2.2.1.cap)]) rfl Tryd.underlying25 rfl (by kernel_rfl) (cellsAt_below hel1 hb hlb1)) rfl rfl rfl ?_; clear hf fa; intro fa hf
      refine sqdt hf (d_callB (vs := [(.agg #[(.int .u8 y1.1), (.int .u64 y1.2.1), (.int .u64 y1.2.2.1), (.slice y1.2.2.2.1.at' y1.2.2.2.1.len y1.2.2.2.1.cap)])]) rfl Tryd.func38 (by kernel_rfl) (by kernel_rfl) (ropens_any y1 _)) rfl rfl rfl ?_; clear hf fa; rintro fa _ w2 ⟨rfl, he1⟩ hf
      replace hb := hb.trans (Below.mono he1 hb.size)
      refine sqv hf (r_assign rfl) rfl rfl rfl ?_; clear hf fa; intro fa hf
      apply wpList_nil
      (try simp only [Exit.then, Exit.inBlock, ↓reduceIte, Nat.reduceEqDiff])
      refine hK8 _ _ ?_
      refine wp_cond_split (t := (opensI y1.1)) (hf.ev rfl) (fun hqt17_1 => ?_) (fun hqt17_1 => ?_)
      · have hqt17_1b := hqt17_1
        try simp only [decide_eq_true_eq, Bool.and_eq_true, Bool.or_eq_true, Bool.not_eq_true', decide_eq_false_iff_not, ne_eq, Bool.not_eq_true] at hqt17_1
        refine wp_region_lit ?_
        refine sqv hf (r_move rfl) rfl rfl rfl ?_; clear hf fa; intro fa hf
        refine sqv hf (r_add (C := (((dp : Nat) : Int) + (1 : Int))) rfl rfl (by rw [IntKind.wrap_i64]; omega)) rfl rfl rfl ?_; clear hf fa; intro fa hf
        refine sqv hf (r_assign rfl) rfl rfl rfl ?_; clear hf fa; intro fa hf
        apply wpList_nil
        (try simp only [Exit.then, Exit.inBlock, ↓reduceIte, Nat.reduceEqDiff])
        refine hK7 _ _ ?_
        refine wp_region_lit ?_
        refine sqv hf (r_move rfl) rfl rfl rfl ?_; clear hf fa; intro fa hf
        refine sqv hf (r_add (C := (((n : Nat) : Int) + (1 : Int))) rfl rfl (by rw [IntKind.wrap_i64]; omega)) rfl rfl rfl ?_; clear hf fa; intro fa hf
        refine sqv hf (r_assign rfl) rfl rfl rfl ?_; clear hf fa; intro fa hf
        apply wpList_nil
        (try simp only [Exit.then, Exit.inBlock, ↓reduceIte, Nat.reduceEqDiff])
        refine hKL1 _ _ _ (by omega) ⟨(n + 1), (dp + 1), ot, rfl, hf.sub ⟨rfl, (some_int (by first | rfl | omega)), (some_int (by first | rfl | omega)), rfl, trivial⟩, hb, by omega, by omega, (by have h := Hs; rw [opl_drop hy1, seekR] at h; simp only [if_pos hqt14_1, if_pos hqt17_1] at h; exact h)⟩
      · have hqt17_1b := hqt17_1
        replace hqt17_1 := Bool.eq_false_iff.1 hqt17_1
        try simp only [ne_eq, decide_eq_true_eq, Bool.and_eq_true, Bool.or_eq_true, Bool.not_eq_true', decide_eq_false_iff_not] at hqt17_1
        refine wp_seq_k (fun K9 hK9 => ?_)
        refine wp_region_lit ?_
        refine sqv hf (r_move rfl) rfl rfl rfl ?_; clear hf fa; intro fa hf
        refine sqv hf (r_move rfl) rfl rfl rfl ?_; clear hf fa; intro fa hf
        refine sqv hf (r_ixa (sz := 4) (j := n) rfl rfl Tryd.underlying37 (by kernel_rfl) rfl (by omega) rfl) rfl rfl rfl ?_; clear hf fa; intro fa hf
        refine sqv hf (r_fa rfl Tryd.underlying25 (f := 0) (q := (aoff1 + n * 4)) rfl (by kernel_rfl) rfl) rfl rfl rfl ?_; clear hf fa; intro fa hf
        refine sqv hf (r_load (v := (.int .u8 y1.1)) rfl Tryd.underlying5 rfl (cellsAt_cell (cellsAt_below hel1 hb hlb1) (i := 0) rfl rfl)) rfl rfl rfl ?_; clear hf fa; intro fa hf
        refine sqv hf (r_eq rfl rfl) rfl rfl rfl ?_; clear hf fa; intro fa hf
        refine sqv hf (r_move rfl) rfl rfl rfl ?_; clear hf fa; intro fa hf
        refine sqgT (act := (decide (y1.1 = (5 : Int)))) (ag := true) (c := (decide (y1.1 = (5 : Int)))) (v := (.int .i64 ((dp : Nat) : Int))) hf rfl rfl rfl (fun hact => (r_move rfl)) rfl rfl ?_; clear hf fa; intro fa hf
        refine sqgT (act := (decide (y1.1 = (5 : Int)))) (ag := true) (c := (decide (y1.1 = (5 : Int)))) (v := (.bool (decide (((dp : Nat) : Int) = (0 : Int))))) hf rfl rfl rfl (fun hact => (r_eq (gb_ev hact rfl) rfl)) rfl rfl ?_; clear hf fa; intro fa hf
        refine sqv hf (r_pickA (b := (decide (y1.1 = (5 : Int)))) (e := (decide (((dp : Nat) : Int) = (0 : Int)))) rfl rfl rfl) rfl rfl rfl ?_; clear hf fa; intro fa hf
        refine sqv hf (r_assign rfl) rfl rfl rfl ?_; clear hf fa; intro fa hf
        apply wpList_nil
        (try simp only [Exit.then, Exit.inBlock, ↓reduceIte, Nat.reduceEqDiff])
        refine hK9 _ _ ?_
        refine wp_cond_split (t := ((decide (y1.1 = (5 : Int))) && (decide (((dp : Nat) : Int) = (0 : Int))))) (hf.ev rfl) (fun hqt25_1 => ?_) (fun hqt25_1 => ?_)
        · have hqt25_1b := hqt25_1
          try simp only [decide_eq_true_eq, Bool.and_eq_true, Bool.or_eq_true, Bool.not_eq_true', decide_eq_false_iff_not, ne_eq, Bool.not_eq_true] at hqt25_1
          refine wp_region_lit ?_
          refine sqv hf (r_move rfl) rfl rfl rfl ?_; clear hf fa; intro fa hf
          refine sqv hf (r_assign rfl) rfl rfl rfl ?_; clear hf fa; intro fa hf
          apply wpList_nil
          (try simp only [Exit.then, Exit.inBlock, ↓reduceIte, Nat.reduceEqDiff])
          refine hK7 _ _ ?_
          refine wp_region_lit ?_
          refine sqv hf (r_move rfl) rfl rfl rfl ?_; clear hf fa; intro fa hf
          refine sqv hf (r_add (C := (((n : Nat) : Int) + (1 : Int))) rfl rfl (by rw [IntKind.wrap_i64]; omega)) rfl rfl rfl ?_; clear hf fa; intro fa hf
          refine sqv hf (r_assign rfl) rfl rfl rfl ?_; clear hf fa; intro fa hf
          apply wpList_nil
          (try simp only [Exit.then, Exit.inBlock, ↓reduceIte, Nat.reduceEqDiff])
          refine hKL1 _ _ _ (by omega) ⟨(n + 1), dp, ((n : Nat) : Int), rfl, hf.sub ⟨rfl, (some_int (by first | rfl | omega)), rfl, rfl, trivial⟩, hb, by omega, by omega, (by have h := Hs; rw [opl_drop hy1, seekR] at h; simp only [if_pos hqt14_1, if_neg hqt17_1, if_pos hqt25_1] at h; exact h)⟩
        · have hqt25_1b := hqt25_1
          replace hqt25_1 := Bool.eq_false_iff.1 hqt25_1
          try simp only [ne_eq, decide_eq_true_eq, Bool.and_eq_true, Bool.or_eq_true, Bool.not_eq_true', decide_eq_false_iff_not] at hqt25_1
          refine wp_seq_k (fun K10 hK10 => ?_)
          refine wp_region_lit ?_
          refine sqv hf (r_move rfl) rfl rfl rfl ?_; clear hf fa; intro fa hf
          refine sqv hf (r_move rfl) rfl rfl rfl ?_; clear hf fa; intro fa hf
          refine sqv hf (r_ixa (sz := 4) (j := n) rfl rfl Tryd.underlying37 (by kernel_rfl) rfl (by omega) rfl) rfl rfl rfl ?_; clear hf fa; intro fa hf
          refine sqv hf (r_fa rfl Tryd.underlying25 (f := 0) (q := (aoff1 + n * 4)) rfl (by kernel_rfl) rfl) rfl rfl rfl ?_; clear hf fa; intro fa hf
          refine sqv hf (r_load (v := (.int .u8 y1.1)) rfl Tryd.underlying5 rfl (cellsAt_cell (cellsAt_below hel1 hb hlb1) (i := 0) rfl rfl)) rfl rfl rfl ?_; clear hf fa; intro fa hf
          refine sqv hf (r_eq rfl rfl) rfl rfl rfl ?_; clear hf fa; intro fa hf
          refine sqv hf (r_assign rfl) rfl rfl rfl ?_; clear hf fa; intro fa hf
          apply wpList_nil
          (try simp only [Exit.then, Exit.inBlock, ↓reduceIte, Nat.reduceEqDiff])
          refine hK10 _ _ ?_
          refine wp_cond_split (t := (decide (y1.1 = (11 : Int)))) (hf.ev rfl) (fun hqt37_1 => ?_) (fun hqt37_1 => ?_)
          · have hqt37_1b := hqt37_1
            try simp only [decide_eq_true_eq, Bool.and_eq_true, Bool.or_eq_true, Bool.not_eq_true', decide_eq_false_iff_not, ne_eq, Bool.not_eq_true] at hqt37_1
            refine wp_seq_k (fun K11 hK11 => ?_)
            refine wp_seq_k (fun K12 hK12 => ?_)
            refine wp_region_lit ?_
            refine sqv hf (r_move rfl) rfl rfl rfl ?_; clear hf fa; intro fa hf
            refine sqv hf (r_eq rfl rfl) rfl rfl rfl ?_; clear hf fa; intro fa hf
            apply wpList_nil
            (try simp only [Exit.then, Exit.inBlock, ↓reduceIte, Nat.reduceEqDiff])
            refine hK12 _ _ ?_
            refine wp_cond_split (t := (decide (((dp : Nat) : Int) = (0 : Int)))) (hf.ev rfl) (fun hqt45_1 => ?_) (fun hqt45_1 => ?_)
            · have hqt45_1b := hqt45_1
              try simp only [decide_eq_true_eq, Bool.and_eq_true, Bool.or_eq_true, Bool.not_eq_true', decide_eq_false_iff_not, ne_eq, Bool.not_eq_true] at hqt45_1
              refine wp_seq_k (fun K13 hK13 => ?_)
              refine wp_region_lit ?_
              refine sqv hf (r_move rfl) rfl rfl rfl ?_; clear hf fa; intro fa hf
              refine sqv hf (r_move rfl) rfl rfl rfl ?_; clear hf fa; intro fa hf
              refine sqv hf (r_assign rfl) rfl rfl rfl ?_; clear hf fa; intro fa hf
              refine sqv hf (r_assign rfl) rfl rfl rfl ?_; clear hf fa; intro fa hf
              apply wpList_nil
              (try simp only [Exit.then, Exit.inBlock, ↓reduceIte, Nat.reduceEqDiff])
              refine hK13 _ _ ?_
              refine wp_ret ?_
              (try simp only [Exit.then, Exit.inBlock])
              refine ret2 hf rfl rfl rfl ?_
              have h := Hs; rw [opl_drop hy1, seekR] at h; simp only [if_pos hqt14_1, if_neg hqt17_1, if_neg hqt25_1, if_pos hqt37_1, if_pos hqt45_1] at h
              rw [h]; exact ⟨rfl, hb⟩
            · have hqt45_1b := hqt45_1
              replace hqt45_1 := Bool.eq_false_iff.1 hqt45_1
              try simp only [ne_eq, decide_eq_true_eq, Bool.and_eq_true, Bool.or_eq_true, Bool.not_eq_true', decide_eq_false_iff_not] at hqt45_1
              refine wp_skip ?_
              (try simp only [Exit.then, Exit.inBlock, ↓reduceIte, Nat.reduceEqDiff])
              refine hK11 _ _ ?_
              refine wp_region_lit ?_
              refine sqv hf (r_move rfl) rfl rfl rfl ?_; clear hf fa; intro fa hf
              refine sqv hf (r_sub (C := (((dp : Nat) : Int) - (1 : Int))) rfl rfl (by rw [IntKind.wrap_i64]; omega)) rfl rfl rfl ?_; clear hf fa; intro fa hf
              refine sqv hf (r_assign rfl) rfl rfl rfl ?_; clear hf fa; intro fa hf
              apply wpList_nil
              (try simp only [Exit.then, Exit.inBlock, ↓reduceIte, Nat.reduceEqDiff])
              refine hK7 _ _ ?_
              refine wp_region_lit ?_
              refine sqv hf (r_move rfl) rfl rfl rfl ?_; clear hf fa; intro fa hf
              refine sqv hf (r_add (C := (((n : Nat) : Int) + (1 : Int))) rfl rfl (by rw [IntKind.wrap_i64]; omega)) rfl rfl rfl ?_; clear hf fa; intro fa hf
              refine sqv hf (r_assign rfl) rfl rfl rfl ?_; clear hf fa; intro fa hf
              apply wpList_nil
              (try simp only [Exit.then, Exit.inBlock, ↓reduceIte, Nat.reduceEqDiff])
              refine hKL1 _ _ _ (by omega) ⟨(n + 1), (dp - 1), ot, rfl, hf.sub ⟨rfl, (some_int (by first | rfl | omega)), (some_int (by first | rfl | omega)), rfl, trivial⟩, hb, by omega, by omega, (by have h := Hs; rw [opl_drop hy1, seekR] at h; simp only [if_pos hqt14_1, if_neg hqt17_1, if_neg hqt25_1, if_pos hqt37_1, if_neg hqt45_1] at h; exact h)⟩
          · have hqt37_1b := hqt37_1
            replace hqt37_1 := Bool.eq_false_iff.1 hqt37_1
            try simp only [ne_eq, decide_eq_true_eq, Bool.and_eq_true, Bool.or_eq_true, Bool.not_eq_true', decide_eq_false_iff_not] at hqt37_1
            refine wp_skip ?_
            (try simp only [Exit.then, Exit.inBlock, ↓reduceIte, Nat.reduceEqDiff])
            refine hK7 _ _ ?_
            refine wp_region_lit ?_
            refine sqv hf (r_move rfl) rfl rfl rfl ?_; clear hf fa; intro fa hf
            refine sqv hf (r_add (C := (((n : Nat) : Int) + (1 : Int))) rfl rfl (by rw [IntKind.wrap_i64]; omega)) rfl rfl rfl ?_; clear hf fa; intro fa hf
            refine sqv hf (r_assign rfl) rfl rfl rfl ?_; clear hf fa; intro fa hf
            apply wpList_nil
            (try simp only [Exit.then, Exit.inBlock, ↓reduceIte, Nat.reduceEqDiff])
            refine hKL1 _ _ _ (by omega) ⟨(n + 1), dp, ot, rfl, hf.sub ⟨rfl, (some_int (by first | rfl | omega)), rfl, rfl, trivial⟩, hb, by omega, by omega, (by have h := Hs; rw [opl_drop hy1, seekR] at h; simp only [if_pos hqt14_1, if_neg hqt17_1, if_neg hqt25_1, if_neg hqt37_1] at h; exact h)⟩
    · have hqt14_1b := hqt14_1
      replace hqt14_1 := Bool.eq_false_iff.1 hqt14_1
      try simp only [ne_eq, decide_eq_true_eq, Bool.and_eq_true, Bool.or_eq_true, Bool.not_eq_true', decide_eq_false_iff_not] at hqt14_1
      refine wp_exit ?_
      (try simp only [Exit.then, Exit.inBlock, ↓reduceIte, Nat.reduceEqDiff])
      refine hK3 _ _ ?_
      refine wp_seq_k (fun K14 hK14 => ?_)
      refine wp_region_lit ?_
      refine sqv hf (r_assign rfl) rfl rfl rfl ?_; clear hf fa; intro fa hf
      refine sqv hf (r_assign rfl) rfl rfl rfl ?_; clear hf fa; intro fa hf
      apply wpList_nil
      (try simp only [Exit.then, Exit.inBlock, ↓reduceIte, Nat.reduceEqDiff])
      refine hK14 _ _ ?_
      refine wp_ret ?_
      (try simp only [Exit.then, Exit.inBlock])
      refine ret2 hf rfl rfl rfl ?_
      have h := Hs; rw [opl_end (by omega), seekR] at h
      rw [h]; exact ⟨rfl, hb⟩

set_option maxHeartbeats 1000000 in
set_option maxRecDepth 100000 in
theorem rwalk_any (l : List Ins) (a : Option Addr) (c : Nat) (w : World) (hr : RdS 4 vIns w a l) (hlc : l.length ≤ c) (hlm : l.length ≤ 100000) : Calls Tryd.prog 34 #[(.slice a l.length c)] w fun e w' => e = .returned (.tuple #[.int .i64 (walkR (opl l) ⟨#[]⟩ 0).1, .int .i64 (walkR (opl l) ⟨#[]⟩ 0).2]) ∧ Below w.heap.size w w' := by
  refine sx_enter (L := [(0, (.slice a l.length c))]) Tryd.func34 rfl rfl rfl rfl (fun fa hf => ?_)
  have hb : Below w.heap.size w w := Below.refl _ _
  refine wp_seq_k (fun K1 hK1 => ?_)
  refine wp_region_lit ?_
  refine sqv hf (r_assign rfl) rfl rfl rfl ?_; clear hf fa; intro fa hf
  refine sqv hf (r_assign rfl) rfl rfl rfl ?_; clear hf fa; intro fa hf
  apply wpList_nil
  (try simp only [Exit.then, Exit.inBlock, ↓reduceIte, Nat.reduceEqDiff])
  refine hK1 _ _ ?_
  refine wp_seq_k (fun K2 hK2 => ?_)
  refine wp_region_lit ?_
  refine sqv hf (r_assign rfl) rfl rfl rfl ?_; clear hf fa; intro fa hf
  apply wpList_nil
  (try simp only [Exit.then, Exit.inBlock, ↓reduceIte, Nat.reduceEqDiff])
  refine hK2 _ _ ?_
  refine wp_seq_k (fun K3 hK3 => ?_)
  refine wp_seq_k (fun K4 hK4 => ?_)
  refine wp_region_lit ?_
  refine sqv hf (r_assign rfl) rfl rfl rfl ?_; clear hf fa; intro fa hf
  apply wpList_nil
  (try simp only [Exit.then, Exit.inBlock, ↓reduceIte, Nat.reduceEqDiff])
  refine hK4 _ _ ?_
  refine wp_block ?_
  refine wp_loop_k (fun mq fa wr => ∃ (n : Nat) (s : ByteArray), mq = l.length - n ∧ Fr 56 fa [(0, (.slice a l.length c)), (5, (.int .i64 ((n : Nat) : Int))), (4, (.string s))] ∧ Below w.heap.size w wr ∧ (n ≤ l.length) ∧ (s.size ≤ n) ∧ (walkR (opl l) ⟨#[]⟩ 0 = walkR ((opl l).drop n) s n)) ?_ ?_
  · skip
    exact ⟨_, 0, ⟨#[]⟩, rfl, hf.sub ⟨rfl, (some_int (by first | rfl | omega)), rfl, trivial⟩, hb, by omega, Nat.le_refl _, rfl⟩
  · skip
    clear hf fa; intro mq1 fa w1 hI KL1 hKL1
    clear hb
    obtain ⟨n, s, hmq1, hf, hb, hn, hs, Hs⟩ := hI
    refine wp_seq_k (fun K5 hK5 => ?_)
    refine wp_seq_k (fun K6 hK6 => ?_)
    refine wp_region_lit ?_
    refine sqv hf (r_move rfl) rfl rfl rfl ?_; clear hf fa; intro fa hf
    refine sqv hf (r_move rfl) rfl rfl rfl ?_; clear hf fa; intro fa hf
    refine sqv hf (r_lensl rfl Tryd.underlying37) rfl rfl rfl ?_; clear hf fa; intro fa hf
    refine sqv hf (r_lt rfl rfl) rfl rfl rfl ?_; clear hf fa; intro fa hf
    apply wpList_nil
    (try simp only [Exit.then, Exit.inBlock, ↓reduceIte, Nat.reduceEqDiff])
    refine hK6 _ _ ?_
    refine wp_cond_split (t := (decide (((n : Nat) : Int) < ((l.length : Nat) : Int)))) (hf.ev rfl) (fun hqt9_1 => ?_) (fun hqt9_1 => ?_)
    · have hqt9_1b := hqt9_1
      try simp only [decide_eq_true_eq, Bool.and_eq_true, Bool.or_eq_true, Bool.not_eq_true', decide_eq_false_iff_not, ne_eq, Bool.not_eq_true] at hqt9_1
      refine wp_skip ?_
      (try simp only [Exit.then, Exit.inBlock, ↓reduceIte, Nat.reduceEqDiff])
      refine hK5 _ _ ?_
      refine wp_seq_k (fun K7 hK7 => ?_)
      refine wp_block ?_
      refine wp_seq_k (fun K8 hK8 => ?_)
      refine wp_region_lit ?_
      refine sqv hf (r_move rfl) rfl rfl rfl ?_; clear hf fa; intro fa hf
      refine sqv hf (r_move rfl) rfl rfl rfl ?_; clear hf fa; intro fa hf
      obtain ⟨y1, hy1⟩ : ∃ x, (l)[n]? = some x := ⟨_, List.getElem?_eq_getElem (by omega)⟩
      obtain ⟨ab1, aoff1, rfl, hlb1, hel1⟩ := RdS.at hr hy1
      refine sqv hf (r_ixa (sz := 4) (j := n) rfl rfl Tryd.underlying37 (by kernel_rfl) rfl (by omega) rfl) rfl rfl rfl ?_; clear hf fa; intro fa hf
      refine sqv hf (r_fa rfl Tryd.underlying25 (f := 0) (q := (aoff1 + n * 4)) rfl (by kernel_rfl) rfl) rfl rfl rfl ?_; clear hf fa; intro fa hf
      refine sqv hf (r_load (v := (.int .u8 y1.1)) rfl Tryd.underlying5 rfl (cellsAt_cell (cellsAt_below hel1 hb hlb1) (i := 0) rfl rfl)) rfl rfl rfl ?_; clear hf fa; intro fa hf
      apply wpList_nil
      (try simp only [Exit.then, Exit.inBlock, ↓reduceIte, Nat.reduceEqDiff])
      refine hK8 _ _ ?_
      refine wp_block ?_
      refine wp_seq_k (fun K9 hK9 => ?_)
      refine wp_seq_k (fun K10 hK10 => ?_)
      refine wp_region_lit ?_
      refine sqv hf (r_eq rfl rfl) rfl rfl rfl ?_; clear hf fa; intro fa hf
      refine sqv hf (r_assign rfl) rfl rfl rfl ?_; clear hf fa; intro fa hf
      apply wpList_nil
      (try simp only [Exit.then, Exit.inBlock, ↓reduceIte, Nat.reduceEqDiff])
      refine hK10 _ _ ?_
      refine wp_cond_split (t := (decide (y1.1 = (2 : Int)))) (hf.ev rfl) (fun hqt17_1 => ?_) (fun hqt17_1 => ?_)
      · have hqt17_1b := hqt17_1
        try simp only [decide_eq_true_eq, Bool.and_eq_true, Bool.or_eq_true, Bool.not_eq_true', decide_eq_false_iff_not, ne_eq, Bool.not_eq_true] at hqt17_1
        refine wp_skip ?_
        (try simp only [Exit.then, Exit.inBlock, ↓reduceIte, Nat.reduceEqDiff])
        refine hK9 _ _ ?_
        refine wp_cond_true ((hf.ev rfl).trans (congrArg Value.bool (show (decide (y1.1 = (2 : Int))) = true from hqt17_1b))) ?_
        refine wp_region_lit ?_
        refine sqv hf (r_move rfl) rfl rfl rfl ?_; clear hf fa; intro fa hf
        refine sqv hf (r_sadd rfl rfl (by have : ((⟨#[98]⟩) : ByteArray).size = 1 := rfl; omega)) rfl rfl rfl ?_; clear hf fa; intro fa hf
        refine sqv hf (r_assign rfl) rfl rfl rfl ?_; clear hf fa; intro fa hf
        apply wpList_nil
        (try simp only [Exit.then, Exit.inBlock, ↓reduceIte, Nat.reduceEqDiff])
        refine hK7 _ _ ?_
        refine wp_region_lit ?_
        refine sqv hf (r_move rfl) rfl rfl rfl ?_; clear hf fa; intro fa hf
        refine sqv hf (r_add (C := (((n : Nat) : Int) + (1 : Int))) rfl rfl (by rw [IntKind.wrap_i64]; omega)) rfl rfl rfl ?_; clear hf fa; intro fa hf
        refine sqv hf (r_assign rfl) rfl rfl rfl ?_; clear hf fa; intro fa hf
        apply wpList_nil
        (try simp only [Exit.then, Exit.inBlock, ↓reduceIte, Nat.reduceEqDiff])
        refine hKL1 _ _ _ (by omega) ⟨(n + 1), (s ++ ⟨#[98]⟩), rfl, hf.sub ⟨rfl, (some_int (by first | rfl | omega)), rfl, trivial⟩, hb, by omega, (by have : ((⟨#[98]⟩) : ByteArray).size = 1 := rfl; have := sz_app s ⟨#[98]⟩; omega), (by have h := Hs; rw [opl_drop hy1, walkR] at h; simp only [if_pos hqt9_1, if_pos hqt17_1] at h; exact h)⟩
      · have hqt17_1b := hqt17_1
        replace hqt17_1 := Bool.eq_false_iff.1 hqt17_1
        try simp only [ne_eq, decide_eq_true_eq, Bool.and_eq_true, Bool.or_eq_true, Bool.not_eq_true', decide_eq_false_iff_not] at hqt17_1
        refine wp_region_lit ?_
        refine sqv hf (r_eq rfl rfl) rfl rfl rfl ?_; clear hf fa; intro fa hf
        refine sqv hf (r_assign rfl) rfl rfl rfl ?_; clear hf fa; intro fa hf
        apply wpList_nil
        (try simp only [Exit.then, Exit.inBlock, ↓reduceIte, Nat.reduceEqDiff])
        refine hK9 _ _ ?_
        refine wp_cond_split (t := (decide (y1.1 = (3 : Int)))) (hf.ev rfl) (fun hqt17_3 => ?_) (fun hqt17_3 => ?_)
        · have hqt17_3b := hqt17_3
          try simp only [decide_eq_true_eq, Bool.and_eq_true, Bool.or_eq_true, Bool.not_eq_true', decide_eq_false_iff_not, ne_eq, Bool.not_eq_true] at hqt17_3
          refine wp_region_lit ?_
          refine sqv hf (r_move rfl) rfl rfl rfl ?_; clear hf fa; intro fa hf
          refine sqv hf (r_sadd rfl rfl (by have : ((⟨#[98]⟩) : ByteArray).size = 1 := rfl; omega)) rfl rfl rfl ?_; clear hf fa; intro fa hf
          refine sqv hf (r_assign rfl) rfl rfl rfl ?_; clear hf fa; intro fa hf
          apply wpList_nil
          (try simp only [Exit.then, Exit.inBlock, ↓reduceIte, Nat.reduceEqDiff])
          refine hK7 _ _ ?_
          refine wp_region_lit ?_
          refine sqv hf (r_move rfl) rfl rfl rfl ?_; clear hf fa; intro fa hf
          refine sqv hf (r_add (C := (((n : Nat) : Int) + (1 : Int))) rfl rfl (by rw [IntKind.wrap_i64]; omega)) rfl rfl rfl ?_; clear hf fa; intro fa hf
          refine sqv hf (r_assign rfl) rfl rfl rfl ?_; clear hf fa; intro fa hf
          apply wpList_nil
          (try simp only [Exit.then, Exit.inBlock, ↓reduceIte, Nat.reduceEqDiff])
          refine hKL1 _ _ _ (by omega) ⟨(n + 1), (s ++ ⟨#[98]⟩), rfl, hf.sub ⟨rfl, (some_int (by first | rfl | omega)), rfl, trivial⟩, hb, by omega, (by have : ((⟨#[98]⟩) : ByteArray).size = 1 := rfl; have := sz_app s ⟨#[98]⟩; omega), (by have h := Hs; rw [opl_drop hy1, walkR] at h; simp only [if_pos hqt9_1, if_neg hqt17_1, if_pos hqt17_3] at h; exact h)⟩
        · have hqt17_3b := hqt17_3
          replace hqt17_3 := Bool.eq_false_iff.1 hqt17_3
          try simp only [ne_eq, decide_eq_true_eq, Bool.and_eq_true, Bool.or_eq_true, Bool.not_eq_true', decide_eq_false_iff_not] at hqt17_3
          refine wp_seq_k (fun K11 hK11 => ?_)
          refine wp_region_lit ?_
          refine sqv hf (r_eq rfl rfl) rfl rfl rfl ?_; clear hf fa; intro fa hf
          refine sqv hf (r_assign rfl) rfl rfl rfl ?_; clear hf fa; intro fa hf
          apply wpList_nil
          (try simp only [Exit.then, Exit.inBlock, ↓reduceIte, Nat.reduceEqDiff])
          refine hK11 _ _ ?_
          refine wp_cond_split (t := (decide (y1.1 = (4 : Int)))) (hf.ev rfl) (fun hqt22_1 => ?_) (fun hqt22_1 => ?_)
          · have hqt22_1b := hqt22_1
            try simp only [decide_eq_true_eq, Bool.and_eq_true, Bool.or_eq_true, Bool.not_eq_true', decide_eq_false_iff_not, ne_eq, Bool.not_eq_true] at hqt22_1
            refine wp_region_lit ?_
            refine sqv hf (r_move rfl) rfl rfl rfl ?_; clear hf fa; intro fa hf
            refine sqv hf (r_sadd rfl rfl (by have : ((⟨#[105]⟩) : ByteArray).size = 1 := rfl; omega)) rfl rfl rfl ?_; clear hf fa; intro fa hf
            refine sqv hf (r_assign rfl) rfl rfl rfl ?_; clear hf fa; intro fa hf
            apply wpList_nil
            (try simp only [Exit.then, Exit.inBlock, ↓reduceIte, Nat.reduceEqDiff])
            refine hK7 _ _ ?_
            refine wp_region_lit ?_
            refine sqv hf (r_move rfl) rfl rfl rfl ?_; clear hf fa; intro fa hf
            refine sqv hf (r_add (C := (((n : Nat) : Int) + (1 : Int))) rfl rfl (by rw [IntKind.wrap_i64]; omega)) rfl rfl rfl ?_; clear hf fa; intro fa hf
            refine sqv hf (r_assign rfl) rfl rfl rfl ?_; clear hf fa; intro fa hf
            apply wpList_nil
            (try simp only [Exit.then, Exit.inBlock, ↓reduceIte, Nat.reduceEqDiff])
            refine hKL1 _ _ _ (by omega) ⟨(n + 1), (s ++ ⟨#[105]⟩), rfl, hf.sub ⟨rfl, (some_int (by first | rfl | omega)), rfl, trivial⟩, hb, by omega, (by have : ((⟨#[105]⟩) : ByteArray).size = 1 := rfl; have := sz_app s ⟨#[105]⟩; omega), (by have h := Hs; rw [opl_drop hy1, walkR] at h; simp only [if_pos hqt9_1, if_neg hqt17_1, if_neg hqt17_3, if_pos hqt22_1] at h; exact h)⟩
          · have hqt22_1b := hqt22_1
            replace hqt22_1 := Bool.eq_false_iff.1 hqt22_1
            try simp only [ne_eq, decide_eq_true_eq, Bool.and_eq_true, Bool.or_eq_true, Bool.not_eq_true', decide_eq_false_iff_not] at hqt22_1
            refine wp_seq_k (fun K12 hK12 => ?_)
            refine wp_region_lit ?_
            refine sqv hf (r_eq rfl rfl) rfl rfl rfl ?_; clear hf fa; intro fa hf
            refine sqv hf (r_assign rfl) rfl rfl rfl ?_; clear hf fa; intro fa hf
            apply wpList_nil
            (try simp only [Exit.then, Exit.inBlock, ↓reduceIte, Nat.reduceEqDiff])
            refine hK12 _ _ ?_
            refine wp_cond_split (t := (decide (y1.1 = (5 : Int)))) (hf.ev rfl) (fun hqt26_1 => ?_) (fun hqt26_1 => ?_)
            · have hqt26_1b := hqt26_1
              try simp only [decide_eq_true_eq, Bool.and_eq_true, Bool.or_eq_true, Bool.not_eq_true', decide_eq_false_iff_not, ne_eq, Bool.not_eq_true] at hqt26_1
              refine wp_seq_k (fun K13 hK13 => ?_)
              refine wp_seq_k (fun K14 hK14 => ?_)
              refine wp_region_lit ?_
              refine sqv hf (r_move rfl) rfl rfl rfl ?_; clear hf fa; intro fa hf
              refine sqv hf (r_seq rfl rfl) rfl rfl rfl ?_; clear hf fa; intro fa hf
              refine sqv hf (r_move rfl) rfl rfl rfl ?_; clear hf fa; intro fa hf
              refine sqgF (act := (!(decide (s = ⟨#[]⟩)))) (ag := true) (c := (decide (s = ⟨#[]⟩))) (v := (.string s)) hf rfl rfl rfl (fun hact => (by have hact0 := hact; have := ne_size (s := s) (by revert hact; simp +contextual); exact (r_move rfl))) rfl rfl ?_; clear hf fa; intro fa hf
              refine sqgF (act := (!(decide (s = ⟨#[]⟩)))) (ag := true) (c := (decide (s = ⟨#[]⟩))) (v := (.string s)) hf rfl rfl rfl (fun hact => (by have hact0 := hact; have := ne_size (s := s) (by revert hact; simp +contextual); exact (r_move rfl))) rfl rfl ?_; clear hf fa; intro fa hf
              refine sqgF (act := (!(decide (s = ⟨#[]⟩)))) (ag := true) (c := (decide (s = ⟨#[]⟩))) (v := (.int .i64 ((s.size : Nat) : Int))) hf rfl rfl rfl (fun hact => (by have hact0 := hact; have := ne_size (s := s) (by revert hact; simp +contextual); exact (r_lens (gb_ev hact rfl) Tryd.underlying9))) rfl rfl ?_; clear hf fa; intro fa hf
              refine sqgF (act := (!(decide (s = ⟨#[]⟩)))) (ag := true) (c := (decide (s = ⟨#[]⟩))) (v := (.int .i64 (((s.size : Nat) : Int) - (1 : Int)))) hf rfl rfl rfl (fun hact => (by have hact0 := hact; have := ne_size (s := s) (by revert hact; simp +contextual); exact (r_sub (C := (((s.size : Nat) : Int) - (1 : Int))) (gb_ev hact rfl) rfl (by rw [IntKind.wrap_i64]; omega)))) rfl rfl ?_; clear hf fa; intro fa hf
              refine sqgF (act := (!(decide (s = ⟨#[]⟩)))) (ag := true) (c := (decide (s = ⟨#[]⟩))) (v := (.int .u8 ((sbt s (s.size - 1) : Nat) : Int))) hf rfl rfl rfl (fun hact => (by have hact0 := hact; have := ne_size (s := s) (by revert hact; simp +contextual); exact (r_sindexD (j := (s.size - 1)) (gb_ev hact rfl) (gb_ev hact rfl) Tryd.underlying9 (by omega) (by omega)))) rfl rfl ?_; clear hf fa; intro fa hf
              refine sqgF (act := (!(decide (s = ⟨#[]⟩)))) (ag := true) (c := (decide (s = ⟨#[]⟩))) (v := (.bool (decide (((sbt s (s.size - 1) : Nat) : Int) ≠ (105 : Int))))) hf rfl rfl rfl (fun hact => (by have hact0 := hact; have := ne_size (s := s) (by revert hact; simp +contextual); exact (r_ne (gb_ev hact rfl) rfl))) rfl rfl ?_; clear hf fa; intro fa hf
              refine sqv hf (r_pickO (b := (decide (s = ⟨#[]⟩))) (e := (decide (((sbt s (s.size - 1) : Nat) : Int) ≠ (105 : Int)))) rfl rfl rfl) rfl rfl rfl ?_; clear hf fa; intro fa hf
              apply wpList_nil
              (try simp only [Exit.then, Exit.inBlock, ↓reduceIte, Nat.reduceEqDiff])
              refine hK14 _ _ ?_
              refine wp_cond_split (t := ((decide (s = ⟨#[]⟩)) || (decide (((sbt s (s.size - 1) : Nat) : Int) ≠ (105 : Int))))) (hf.ev rfl) (fun hqt37_1 => ?_) (fun hqt37_1 => ?_)
              · have hqt37_1b := hqt37_1
                try simp only [decide_eq_true_eq, Bool.and_eq_true, Bool.or_eq_true, Bool.not_eq_true', decide_eq_false_iff_not, ne_eq, Bool.not_eq_true] at hqt37_1
                refine wp_seq_k (fun K15 hK15 => ?_)
                refine wp_region_lit ?_
                refine sqv hf (r_move rfl) rfl rfl rfl ?_; clear hf fa; intro fa hf
                refine sqv hf (r_assign rfl) rfl rfl rfl ?_; clear hf fa; intro fa hf
                refine sqv hf (r_assign rfl) rfl rfl rfl ?_; clear hf fa; intro fa hf
                apply wpList_nil
                (try simp only [Exit.then, Exit.inBlock, ↓reduceIte, Nat.reduceEqDiff])
                refine hK15 _ _ ?_
                refine wp_ret ?_
                (try simp only [Exit.then, Exit.inBlock])
                refine ret2 hf rfl rfl rfl ?_
                have h := Hs; rw [opl_drop hy1, walkR] at h; simp only [if_pos hqt9_1, if_neg hqt17_1, if_neg hqt17_3, if_neg hqt22_1, if_pos hqt26_1, if_pos hqt37_1] at h
                rw [h]; exact ⟨rfl, hb⟩
              · have hqt37_1b := hqt37_1
                replace hqt37_1 := Bool.eq_false_iff.1 hqt37_1
                try simp only [ne_eq, decide_eq_true_eq, Bool.and_eq_true, Bool.or_eq_true, Bool.not_eq_true', decide_eq_false_iff_not] at hqt37_1
                try (have hzhqt37_1 : 0 < s.size := ne_size (fun e => by simp [e] at hqt37_1))
                refine wp_skip ?_
                (try simp only [Exit.then, Exit.inBlock, ↓reduceIte, Nat.reduceEqDiff])
                refine hK13 _ _ ?_
                refine wp_region_lit ?_
                refine sqv hf (r_move rfl) rfl rfl rfl ?_; clear hf fa; intro fa hf
                refine sqv hf (r_move rfl) rfl rfl rfl ?_; clear hf fa; intro fa hf
                refine sqv hf (r_lens rfl Tryd.underlying9) rfl rfl rfl ?_; clear hf fa; intro fa hf
                refine sqv hf (r_sub (C := (((s.size : Nat) : Int) - (1 : Int))) rfl rfl (by rw [IntKind.wrap_i64]; omega)) rfl rfl rfl ?_; clear hf fa; intro fa hf
                refine sqv hf (r_sslice (a := 0) (b := (s.size - 1)) (k1 := .i64) (k2 := .i64) (A := 0) (B := (((s.size : Nat) : Int) - (1 : Int))) rfl Tryd.underlying9 (.inl ⟨rfl, rfl⟩) (.inr ⟨_, rfl, rfl, (by omega)⟩) (by omega) (by omega)) rfl rfl rfl ?_; clear hf fa; intro fa hf
                refine sqv hf (r_sadd rfl rfl (by have := sz_ext s 0 (s.size - 1) (by omega) (by omega); have : ((⟨#[101]⟩) : ByteArray).size = 1 := rfl; omega)) rfl rfl rfl ?_; clear hf fa; intro fa hf
                refine sqv hf (r_assign rfl) rfl rfl rfl ?_; clear hf fa; intro fa hf
                apply wpList_nil
                (try simp only [Exit.then, Exit.inBlock, ↓reduceIte, Nat.reduceEqDiff])
                refine hK7 _ _ ?_
                refine wp_region_lit ?_
                refine sqv hf (r_move rfl) rfl rfl rfl ?_; clear hf fa; intro fa hf
                refine sqv hf (r_add (C := (((n : Nat) : Int) + (1 : Int))) rfl rfl (by rw [IntKind.wrap_i64]; omega)) rfl rfl rfl ?_; clear hf fa; intro fa hf
                refine sqv hf (r_assign rfl) rfl rfl rfl ?_; clear hf fa; intro fa hf
                apply wpList_nil
                (try simp only [Exit.then, Exit.inBlock, ↓reduceIte, Nat.reduceEqDiff])
                refine hKL1 _ _ _ (by omega) ⟨(n + 1), ((s.extract 0 (s.size - 1)) ++ ⟨#[101]⟩), rfl, hf.sub ⟨rfl, (some_int (by first | rfl | omega)), rfl, trivial⟩, hb, by omega, (by have := sz_ext s 0 (s.size - 1) (by omega) (by omega); have : ((⟨#[101]⟩) : ByteArray).size = 1 := rfl; have := sz_app (s.extract 0 (s.size - 1)) ⟨#[101]⟩; omega), (by have h := Hs; rw [opl_drop hy1, walkR] at h; simp only [if_pos hqt9_1, if_neg hqt17_1, if_neg hqt17_3, if_neg hqt22_1, if_pos hqt26_1, if_neg hqt37_1] at h; exact h)⟩
            · have hqt26_1b := hqt26_1
              replace hqt26_1 := Bool.eq_false_iff.1 hqt26_1
              try simp only [ne_eq, decide_eq_true_eq, Bool.and_eq_true, Bool.or_eq_true, Bool.not_eq_true', decide_eq_false_iff_not] at hqt26_1
              refine wp_seq_k (fun K16 hK16 => ?_)
              refine wp_region_lit ?_
              refine sqv hf (r_eq rfl rfl) rfl rfl rfl ?_; clear hf fa; intro fa hf
              refine sqv hf (r_assign rfl) rfl rfl rfl ?_; clear hf fa; intro fa hf
              apply wpList_nil
              (try simp only [Exit.then, Exit.inBlock, ↓reduceIte, Nat.reduceEqDiff])
              refine hK16 _ _ ?_
              refine wp_cond_split (t := (decide (y1.1 = (11 : Int)))) (hf.ev rfl) (fun hqt45_1 => ?_) (fun hqt45_1 => ?_)
              · have hqt45_1b := hqt45_1
                try simp only [decide_eq_true_eq, Bool.and_eq_true, Bool.or_eq_true, Bool.not_eq_true', decide_eq_false_iff_not, ne_eq, Bool.not_eq_true] at hqt45_1
                refine wp_seq_k (fun K17 hK17 => ?_)
                refine wp_seq_k (fun K18 hK18 => ?_)
                refine wp_region_lit ?_
                refine sqv hf (r_move rfl) rfl rfl rfl ?_; clear hf fa; intro fa hf
                refine sqv hf (r_seq rfl rfl) rfl rfl rfl ?_; clear hf fa; intro fa hf
                apply wpList_nil
                (try simp only [Exit.then, Exit.inBlock, ↓reduceIte, Nat.reduceEqDiff])
                refine hK18 _ _ ?_
                refine wp_cond_split (t := (decide (s = ⟨#[]⟩))) (hf.ev rfl) (fun hqt48_1 => ?_) (fun hqt48_1 => ?_)
                · have hqt48_1b := hqt48_1
                  try simp only [decide_eq_true_eq, Bool.and_eq_true, Bool.or_eq_true, Bool.not_eq_true', decide_eq_false_iff_not, ne_eq, Bool.not_eq_true] at hqt48_1
                  refine wp_seq_k (fun K19 hK19 => ?_)
                  refine wp_region_lit ?_
                  refine sqv hf (r_move rfl) rfl rfl rfl ?_; clear hf fa; intro fa hf
                  refine sqv hf (r_add (C := (((n : Nat) : Int) + (1 : Int))) rfl rfl (by rw [IntKind.wrap_i64]; omega)) rfl rfl rfl ?_; clear hf fa; intro fa hf
                  refine sqv hf (r_assign rfl) rfl rfl rfl ?_; clear hf fa; intro fa hf
                  refine sqv hf (r_assign rfl) rfl rfl rfl ?_; clear hf fa; intro fa hf
                  apply wpList_nil
                  (try simp only [Exit.then, Exit.inBlock, ↓reduceIte, Nat.reduceEqDiff])
                  refine hK19 _ _ ?_
                  refine wp_ret ?_
                  (try simp only [Exit.then, Exit.inBlock])
                  refine ret2 hf rfl rfl rfl ?_
                  have h := Hs; rw [opl_drop hy1, walkR] at h; simp only [if_pos hqt9_1, if_neg hqt17_1, if_neg hqt17_3, if_neg hqt22_1, if_neg hqt26_1, if_pos hqt45_1, if_pos hqt48_1] at h
                  rw [h]; exact ⟨rfl, hb⟩
                · have hqt48_1b := hqt48_1
                  replace hqt48_1 := Bool.eq_false_iff.1 hqt48_1
                  try simp only [ne_eq, decide_eq_true_eq, Bool.and_eq_true, Bool.or_eq_true, Bool.not_eq_true', decide_eq_false_iff_not] at hqt48_1
                  try (have hzhqt48_1 : 0 < s.size := ne_size (fun e => by simp [e] at hqt48_1))
                  refine wp_skip ?_
                  (try simp only [Exit.then, Exit.inBlock, ↓reduceIte, Nat.reduceEqDiff])
                  refine hK17 _ _ ?_
                  refine wp_region_lit ?_
                  refine sqv hf (r_move rfl) rfl rfl rfl ?_; clear hf fa; intro fa hf
                  refine sqv hf (r_move rfl) rfl rfl rfl ?_; clear hf fa; intro fa hf
                  refine sqv hf (r_lens rfl Tryd.underlying9) rfl rfl rfl ?_; clear hf fa; intro fa hf
                  refine sqv hf (r_sub (C := (((s.size : Nat) : Int) - (1 : Int))) rfl rfl (by rw [IntKind.wrap_i64]; omega)) rfl rfl rfl ?_; clear hf fa; intro fa hf
                  refine sqv hf (r_sslice (a := 0) (b := (s.size - 1)) (k1 := .i64) (k2 := .i64) (A := 0) (B := (((s.size : Nat) : Int) - (1 : Int))) rfl Tryd.underlying9 (.inl ⟨rfl, rfl⟩) (.inr ⟨_, rfl, rfl, (by omega)⟩) (by omega) (by omega)) rfl rfl rfl ?_; clear hf fa; intro fa hf
                  refine sqv hf (r_assign rfl) rfl rfl rfl ?_; clear hf fa; intro fa hf
                  apply wpList_nil
                  (try simp only [Exit.then, Exit.inBlock, ↓reduceIte, Nat.reduceEqDiff])
                  refine hK7 _ _ ?_
                  refine wp_region_lit ?_
                  refine sqv hf (r_move rfl) rfl rfl rfl ?_; clear hf fa; intro fa hf
                  refine sqv hf (r_add (C := (((n : Nat) : Int) + (1 : Int))) rfl rfl (by rw [IntKind.wrap_i64]; omega)) rfl rfl rfl ?_; clear hf fa; intro fa hf
                  refine sqv hf (r_assign rfl) rfl rfl rfl ?_; clear hf fa; intro fa hf
                  apply wpList_nil
                  (try simp only [Exit.then, Exit.inBlock, ↓reduceIte, Nat.reduceEqDiff])
                  refine hKL1 _ _ _ (by omega) ⟨(n + 1), (s.extract 0 (s.size - 1)), rfl, hf.sub ⟨rfl, (some_int (by first | rfl | omega)), rfl, trivial⟩, hb, by omega, (by have := sz_ext s 0 (s.size - 1) (by omega) (by omega); omega), (by have h := Hs; rw [opl_drop hy1, walkR] at h; simp only [if_pos hqt9_1, if_neg hqt17_1, if_neg hqt17_3, if_neg hqt22_1, if_neg hqt26_1, if_pos hqt45_1, if_neg hqt48_1] at h; exact h)⟩
              · have hqt45_1b := hqt45_1
                replace hqt45_1 := Bool.eq_false_iff.1 hqt45_1
                try simp only [ne_eq, decide_eq_true_eq, Bool.and_eq_true, Bool.or_eq_true, Bool.not_eq_true', decide_eq_false_iff_not] at hqt45_1
                refine wp_skip ?_
                (try simp only [Exit.then, Exit.inBlock, ↓reduceIte, Nat.reduceEqDiff])
                refine hK7 _ _ ?_
                refine wp_region_lit ?_
                refine sqv hf (r_move rfl) rfl rfl rfl ?_; clear hf fa; intro fa hf
                refine sqv hf (r_add (C := (((n : Nat) : Int) + (1 : Int))) rfl rfl (by rw [IntKind.wrap_i64]; omega)) rfl rfl rfl ?_; clear hf fa; intro fa hf
                refine sqv hf (r_assign rfl) rfl rfl rfl ?_; clear hf fa; intro fa hf
                apply wpList_nil
                (try simp only [Exit.then, Exit.inBlock, ↓reduceIte, Nat.reduceEqDiff])
                refine hKL1 _ _ _ (by omega) ⟨(n + 1), s, rfl, hf.sub ⟨rfl, (some_int (by first | rfl | omega)), rfl, trivial⟩, hb, by omega, (by omega), (by have h := Hs; rw [opl_drop hy1, walkR] at h; simp only [if_pos hqt9_1, if_neg hqt17_1, if_neg hqt17_3, if_neg hqt22_1, if_neg hqt26_1, if_neg hqt45_1] at h; exact h)⟩
    · have hqt9_1b := hqt9_1
      replace hqt9_1 := Bool.eq_false_iff.1 hqt9_1
      try simp only [ne_eq, decide_eq_true_eq, Bool.and_eq_true, Bool.or_eq_true, Bool.not_eq_true', decide_eq_false_iff_not] at hqt9_1
      refine wp_exit ?_
      (try simp only [Exit.then, Exit.inBlock, ↓reduceIte, Nat.reduceEqDiff])
      refine hK3 _ _ ?_
      refine wp_seq_k (fun K20 hK20 => ?_)
      refine wp_region_lit ?_
      refine sqv hf (r_assign rfl) rfl rfl rfl ?_; clear hf fa; intro fa hf
      refine sqv hf (r_assign rfl) rfl rfl rfl ?_; clear hf fa; intro fa hf
      apply wpList_nil
      (try simp only [Exit.then, Exit.inBlock, ↓reduceIte, Nat.reduceEqDiff])
      refine hK20 _ _ ?_
      refine wp_ret ?_
      (try simp only [Exit.then, Exit.inBlock])
      refine ret2 hf rfl rfl rfl ?_
      have h := Hs; rw [opl_end (by omega), walkR] at h
      rw [h]; exact ⟨rfl, hb⟩

set_option maxHeartbeats 1000000 in
set_option maxRecDepth 100000 in
theorem rshape_any (l : List Ins) (a : Option Addr) (c : Nat) (w : World) (hr : RdS 4 vIns w a l) (hlc : l.length ≤ c) (hlm : l.length ≤ 100000) : Calls Tryd.prog 14 #[(.slice a l.length c)] w fun e w' => e = .returned (.int .i64 (rshapeP (opl l))) ∧ Below w.heap.size w w' := by
  refine sx_enter (L := [(0, (.slice a l.length c))]) Tryd.func14 rfl rfl rfl rfl (fun fa hf => ?_)
  have hb : Below w.heap.size w w := Below.refl _ _
  refine wp_seq_k (fun K1 hK1 => ?_)
  refine wp_region_lit ?_
  refine sqv hf (r_assign rfl) rfl rfl rfl ?_; clear hf fa; intro fa hf
  apply wpList_nil
  (try simp only [Exit.then, Exit.inBlock, ↓reduceIte, Nat.reduceEqDiff])
  refine hK1 _ _ ?_
  refine wp_seq_k (fun K2 hK2 => ?_)
  refine wp_seq_k (fun K3 hK3 => ?_)
  refine wp_region_lit ?_
  refine sqv hf (r_move rfl) rfl rfl rfl ?_; clear hf fa; intro fa hf
  refine sqv hf (r_lensl rfl Tryd.underlying37) rfl rfl rfl ?_; clear hf fa; intro fa hf
  refine sqv hf (r_gt rfl rfl) rfl rfl rfl ?_; clear hf fa; intro fa hf
  apply wpList_nil
  (try simp only [Exit.then, Exit.inBlock, ↓reduceIte, Nat.reduceEqDiff])
  refine hK3 _ _ ?_
  refine wp_cond_split (t := (decide ((20000 : Int) < ((l.length : Nat) : Int)))) (hf.ev rfl) (fun hqt7_1 => ?_) (fun hqt7_1 => ?_)
  · have hqt7_1b := hqt7_1
    try simp only [decide_eq_true_eq, Bool.and_eq_true, Bool.or_eq_true, Bool.not_eq_true', decide_eq_false_iff_not, ne_eq, Bool.not_eq_true] at hqt7_1
    refine wp_seq_k (fun K4 hK4 => ?_)
    refine wp_region_lit ?_
    refine sqv hf (r_assign rfl) rfl rfl rfl ?_; clear hf fa; intro fa hf
    apply wpList_nil
    (try simp only [Exit.then, Exit.inBlock, ↓reduceIte, Nat.reduceEqDiff])
    refine hK4 _ _ ?_
    refine wp_ret ?_
    (try simp only [Exit.then, Exit.inBlock])
    refine ret1 hf rfl rfl ?_
    refine ⟨?_, hb⟩; unfold rshapeP; rw [opl_length]; simp only [if_pos hqt7_1]
  · have hqt7_1b := hqt7_1
    replace hqt7_1 := Bool.eq_false_iff.1 hqt7_1
    try simp only [ne_eq, decide_eq_true_eq, Bool.and_eq_true, Bool.or_eq_true, Bool.not_eq_true', decide_eq_false_iff_not] at hqt7_1
    refine wp_skip ?_
    (try simp only [Exit.then, Exit.inBlock, ↓reduceIte, Nat.reduceEqDiff])
    refine hK2 _ _ ?_
    refine wp_seq_k (fun K5 hK5 => ?_)
    refine wp_region_lit ?_
    refine sqv hf (r_move rfl) rfl rfl rfl ?_; clear hf fa; intro fa hf
    refine sqdt hf (d_callB (vs := [(.slice a l.length c)]) rfl Tryd.func34 (by kernel_rfl) (by kernel_rfl) (rwalk_any l a c _ (RdS.ext hr hb) hlc hlm)) rfl rfl rfl ?_; clear hf fa; rintro fa _ w1 ⟨rfl, he1⟩ hf
    replace hb := hb.trans (Below.mono he1 hb.size)
    refine sqv hf (r_move rfl) rfl rfl rfl ?_; clear hf fa; intro fa hf
    refine sqv hf (r_extract rfl (i := 0) rfl) rfl rfl rfl ?_; clear hf fa; intro fa hf
    refine sqv hf (r_extract rfl (i := 1) rfl) rfl rfl rfl ?_; clear hf fa; intro fa hf
    refine sqv hf (r_assign rfl) rfl rfl rfl ?_; clear hf fa; intro fa hf
    refine sqv hf (r_assign rfl) rfl rfl rfl ?_; clear hf fa; intro fa hf
    apply wpList_nil
    (try simp only [Exit.then, Exit.inBlock, ↓reduceIte, Nat.reduceEqDiff])
    refine hK5 _ _ ?_
    refine wp_seq_k (fun K6 hK6 => ?_)
    refine wp_seq_k (fun K7 hK7 => ?_)
    refine wp_region_lit ?_
    refine sqv hf (r_move rfl) rfl rfl rfl ?_; clear hf fa; intro fa hf
    refine sqv hf (r_eq rfl rfl) rfl rfl rfl ?_; clear hf fa; intro fa hf
    refine sqv hf (r_move rfl) rfl rfl rfl ?_; clear hf fa; intro fa hf
    refine sqgF (act := (!(decide (((walkR (opl l) ⟨#[]⟩ 0).1) = (0 : Int))))) (ag := true) (c := (decide (((walkR (opl l) ⟨#[]⟩ 0).1) = (0 : Int)))) (v := (.int .i64 ((walkR (opl l) ⟨#[]⟩ 0).1))) hf rfl rfl rfl (fun hact => (r_move rfl)) rfl rfl ?_; clear hf fa; intro fa hf
    refine sqgF (act := (!(decide (((walkR (opl l) ⟨#[]⟩ 0).1) = (0 : Int))))) (ag := true) (c := (decide (((walkR (opl l) ⟨#[]⟩ 0).1) = (0 : Int)))) (v := (.slice a l.length c)) hf rfl rfl rfl (fun hact => (r_move rfl)) rfl rfl ?_; clear hf fa; intro fa hf
    refine sqgF (act := (!(decide (((walkR (opl l) ⟨#[]⟩ 0).1) = (0 : Int))))) (ag := true) (c := (decide (((walkR (opl l) ⟨#[]⟩ 0).1) = (0 : Int)))) (v := (.int .i64 ((l.length : Nat) : Int))) hf rfl rfl rfl (fun hact => (r_lensl (gb_ev hact rfl) Tryd.underlying37)) rfl rfl ?_; clear hf fa; intro fa hf
    refine sqgF (act := (!(decide (((walkR (opl l) ⟨#[]⟩ 0).1) = (0 : Int))))) (ag := true) (c := (decide (((walkR (opl l) ⟨#[]⟩ 0).1) = (0 : Int)))) (v := (.bool (decide (((walkR (opl l) ⟨#[]⟩ 0).1) ≠ ((l.length : Nat) : Int))))) hf rfl rfl rfl (fun hact => (r_ne (gb_ev hact rfl) (gb_ev hact rfl))) rfl rfl ?_; clear hf fa; intro fa hf
    refine sqv hf (r_pickO (b := (decide (((walkR (opl l) ⟨#[]⟩ 0).1) = (0 : Int)))) (e := (decide (((walkR (opl l) ⟨#[]⟩ 0).1) ≠ ((l.length : Nat) : Int)))) rfl rfl rfl) rfl rfl rfl ?_; clear hf fa; intro fa hf
    apply wpList_nil
    (try simp only [Exit.then, Exit.inBlock, ↓reduceIte, Nat.reduceEqDiff])
    refine hK7 _ _ ?_
    refine wp_cond_split (t := ((decide (((walkR (opl l) ⟨#[]⟩ 0).1) = (0 : Int))) || (decide (((walkR (opl l) ⟨#[]⟩ 0).1) ≠ ((l.length : Nat) : Int))))) (hf.ev rfl) (fun hqt20_1 => ?_) (fun hqt20_1 => ?_)
    · have hqt20_1b := hqt20_1
      try simp only [decide_eq_true_eq, Bool.and_eq_true, Bool.or_eq_true, Bool.not_eq_true', decide_eq_false_iff_not, ne_eq, Bool.not_eq_true] at hqt20_1
      refine wp_seq_k (fun K8 hK8 => ?_)
      refine wp_region_lit ?_
      refine sqv hf (r_assign rfl) rfl rfl rfl ?_; clear hf fa; intro fa hf
      apply wpList_nil
      (try simp only [Exit.then, Exit.inBlock, ↓reduceIte, Nat.reduceEqDiff])
      refine hK8 _ _ ?_
      refine wp_ret ?_
      (try simp only [Exit.then, Exit.inBlock])
      refine ret1 hf rfl rfl ?_
      refine ⟨?_, hb⟩; unfold rshapeP; rw [opl_length]; simp only [if_neg hqt7_1, if_pos hqt20_1]
    · have hqt20_1b := hqt20_1
      replace hqt20_1 := Bool.eq_false_iff.1 hqt20_1
      try simp only [ne_eq, decide_eq_true_eq, Bool.and_eq_true, Bool.or_eq_true, Bool.not_eq_true', decide_eq_false_iff_not] at hqt20_1
      refine wp_skip ?_
      (try simp only [Exit.then, Exit.inBlock, ↓reduceIte, Nat.reduceEqDiff])
      refine hK6 _ _ ?_
      refine wp_seq_k (fun K9 hK9 => ?_)
      refine wp_region_lit ?_
      refine sqv hf (r_assign rfl) rfl rfl rfl ?_; clear hf fa; intro fa hf
      apply wpList_nil
      (try simp only [Exit.then, Exit.inBlock, ↓reduceIte, Nat.reduceEqDiff])
      refine hK9 _ _ ?_
      refine wp_ret ?_
      (try simp only [Exit.then, Exit.inBlock])
      refine ret1 hf rfl rfl ?_
      refine ⟨?_, hb⟩; unfold rshapeP; rw [opl_length]; simp only [if_neg hqt7_1, if_neg hqt20_1]

set_option maxHeartbeats 1000000 in
set_option maxRecDepth 100000 in
theorem ended_any (b : Bool) (w : World) : Calls Tryd.prog 61 #[(.bool b)] w fun e w' => e = .returned (.int .i64 (if b = true then 0 else 30)) ∧ w = w' := by
  refine sx_enter (L := [(0, (.bool b))]) Tryd.func61 rfl rfl rfl rfl (fun fa hf => ?_)
  have hb : Below w.heap.size w w := Below.refl _ _
  refine wp_seq_k (fun K1 hK1 => ?_)
  refine wp_region_lit ?_
  refine sqv hf (r_assign rfl) rfl rfl rfl ?_; clear hf fa; intro fa hf
  apply wpList_nil
  (try simp only [Exit.then, Exit.inBlock, ↓reduceIte, Nat.reduceEqDiff])
  refine hK1 _ _ ?_
  refine wp_seq_k (fun K2 hK2 => ?_)
  refine wp_seq_k (fun K3 hK3 => ?_)
  refine wp_region_lit ?_
  refine sqv hf (r_move rfl) rfl rfl rfl ?_; clear hf fa; intro fa hf
  apply wpList_nil
  (try simp only [Exit.then, Exit.inBlock, ↓reduceIte, Nat.reduceEqDiff])
  refine hK3 _ _ ?_
  refine wp_cond_split (t := b) (hf.ev rfl) (fun hqt3_1 => ?_) (fun hqt3_1 => ?_)
  · have hqt3_1b := hqt3_1
    try simp only [decide_eq_true_eq, Bool.and_eq_true, Bool.or_eq_true, Bool.not_eq_true', decide_eq_false_iff_not, ne_eq, Bool.not_eq_true] at hqt3_1
    refine wp_seq_k (fun K4 hK4 => ?_)
    refine wp_region_lit ?_
    refine sqv hf (r_assign rfl) rfl rfl rfl ?_; clear hf fa; intro fa hf
    apply wpList_nil
    (try simp only [Exit.then, Exit.inBlock, ↓reduceIte, Nat.reduceEqDiff])
    refine hK4 _ _ ?_
    refine wp_ret ?_
    (try simp only [Exit.then, Exit.inBlock])
    refine ret1 hf rfl rfl ?_
    refine ⟨?_, rfl⟩; simp only [if_pos hqt3_1]
  · have hqt3_1b := hqt3_1
    replace hqt3_1 := Bool.eq_false_iff.1 hqt3_1
    try simp only [ne_eq, decide_eq_true_eq, Bool.and_eq_true, Bool.or_eq_true, Bool.not_eq_true', decide_eq_false_iff_not] at hqt3_1
    refine wp_skip ?_
    (try simp only [Exit.then, Exit.inBlock, ↓reduceIte, Nat.reduceEqDiff])
    refine hK2 _ _ ?_
    refine wp_seq_k (fun K5 hK5 => ?_)
    refine wp_region_lit ?_
    refine sqv hf (r_assign rfl) rfl rfl rfl ?_; clear hf fa; intro fa hf
    apply wpList_nil
    (try simp only [Exit.then, Exit.inBlock, ↓reduceIte, Nat.reduceEqDiff])
    refine hK5 _ _ ?_
    refine wp_ret ?_
    (try simp only [Exit.then, Exit.inBlock])
    refine ret1 hf rfl rfl ?_
    refine ⟨?_, rfl⟩; simp only [if_neg hqt3_1]

set_option maxHeartbeats 1000000 in
set_option maxRecDepth 100000 in
theorem shape_any (l : List Ins) (a : Option Addr) (c : Nat) (w : World) (hr : RdS 4 vIns w a l) (hlc : l.length ≤ c) (hlm : l.length ≤ 100000) : Calls Tryd.prog 35 #[(.slice a l.length c)] w fun e w' => e = .returned (.int .i64 (shapeP (opl l))) ∧ Below w.heap.size w w' := by
  refine sx_enter (L := [(0, (.slice a l.length c))]) Tryd.func35 rfl rfl rfl rfl (fun fa hf => ?_)
  have hb : Below w.heap.size w w := Below.refl _ _
  refine wp_seq_k (fun K1 hK1 => ?_)
  refine wp_region_lit ?_
  refine sqv hf (r_assign rfl) rfl rfl rfl ?_; clear hf fa; intro fa hf
  apply wpList_nil
  (try simp only [Exit.then, Exit.inBlock, ↓reduceIte, Nat.reduceEqDiff])
  refine hK1 _ _ ?_
  refine wp_seq_k (fun K2 hK2 => ?_)
  refine wp_seq_k (fun K3 hK3 => ?_)
  refine wp_region_lit ?_
  refine sqv hf (r_move rfl) rfl rfl rfl ?_; clear hf fa; intro fa hf
  refine sqv hf (r_lensl rfl Tryd.underlying37) rfl rfl rfl ?_; clear hf fa; intro fa hf
  refine sqv hf (r_gt rfl rfl) rfl rfl rfl ?_; clear hf fa; intro fa hf
  apply wpList_nil
  (try simp only [Exit.then, Exit.inBlock, ↓reduceIte, Nat.reduceEqDiff])
  refine hK3 _ _ ?_
  refine wp_cond_split (t := (decide ((20000 : Int) < ((l.length : Nat) : Int)))) (hf.ev rfl) (fun hqt8_1 => ?_) (fun hqt8_1 => ?_)
  · have hqt8_1b := hqt8_1
    try simp only [decide_eq_true_eq, Bool.and_eq_true, Bool.or_eq_true, Bool.not_eq_true', decide_eq_false_iff_not, ne_eq, Bool.not_eq_true] at hqt8_1
    refine wp_seq_k (fun K4 hK4 => ?_)
    refine wp_region_lit ?_
    refine sqv hf (r_assign rfl) rfl rfl rfl ?_; clear hf fa; intro fa hf
    apply wpList_nil
    (try simp only [Exit.then, Exit.inBlock, ↓reduceIte, Nat.reduceEqDiff])
    refine hK4 _ _ ?_
    refine wp_ret ?_
    (try simp only [Exit.then, Exit.inBlock])
    refine ret1 hf rfl rfl ?_
    refine ⟨?_, hb⟩; unfold shapeP; rw [opl_length]
    rw [if_pos hqt8_1]
  · have hqt8_1b := hqt8_1
    replace hqt8_1 := Bool.eq_false_iff.1 hqt8_1
    try simp only [ne_eq, decide_eq_true_eq, Bool.and_eq_true, Bool.or_eq_true, Bool.not_eq_true', decide_eq_false_iff_not] at hqt8_1
    refine wp_skip ?_
    (try simp only [Exit.then, Exit.inBlock, ↓reduceIte, Nat.reduceEqDiff])
    refine hK2 _ _ ?_
    refine wp_seq_k (fun K5 hK5 => ?_)
    refine wp_region_lit ?_
    refine sqdt hf (d_bslice (z := (.int .u8 (0 : Int))) (sz := 1) (vs := [(0, (.int .u8 (0 : Int)))]) (cs := #[(.int .u8 (0 : Int))]) rfl Tryd.underlying87 (by kernel_rfl) rfl (by kernel_rfl)) rfl rfl rfl ?_; clear hf fa; rintro fa _ w1 ⟨b1, rfl, hle1, hk1, he1⟩ hf
    have hBb1 : w.heap.size ≤ b1 := Nat.le_trans hb.size hle1
    replace hb := hb.trans (Below.mono he1 hb.size)
    refine sqv hf (r_assign rfl) rfl rfl rfl ?_; clear hf fa; intro fa hf
    apply wpList_nil
    (try simp only [Exit.then, Exit.inBlock, ↓reduceIte, Nat.reduceEqDiff])
    refine hK5 _ _ ?_
    refine wp_seq_k (fun K6 hK6 => ?_)
    refine wp_seq_k (fun K7 hK7 => ?_)
    refine wp_region_lit ?_
    refine sqv hf (r_move rfl) rfl rfl rfl ?_; clear hf fa; intro fa hf
    refine sqv hf (r_lensl rfl Tryd.underlying37) rfl rfl rfl ?_; clear hf fa; intro fa hf
    refine sqv hf (r_move rfl) rfl rfl rfl ?_; clear hf fa; intro fa hf
    apply wpList_nil
    (try simp only [Exit.then, Exit.inBlock, ↓reduceIte, Nat.reduceEqDiff])
    refine hK7 _ _ ?_
    refine wp_block ?_
    refine wp_loop_k (fun mq fa wr => ∃ (n : Nat) (xs : List Int) (rwa : Option Addr) (rwc : Nat), mq = l.length - n ∧ Fr 61 fa [(0, (.slice a l.length c)), (10, (.slice a l.length c)), (11, (.int .i64 ((l.length : Nat) : Int))), (12, (.int .i64 ((n : Nat) : Int))), (3, (.slice rwa xs.length rwc))] ∧ Below w.heap.size w wr ∧ Row 1 (vInt .u8) 5 (w.heap.size) wr (.slice rwa (xs.length) rwc) xs ∧ (n ≤ l.length) ∧ (1 ≤ xs.length) ∧ (xs.length ≤ n + 1) ∧ (shR l.length (opl l) [0] 0 = shR l.length ((opl l).drop n) xs n)) ?_ ?_
    · skip
      exact ⟨_, 0, [0], (some ⟨b1, 0, none⟩), 1, rfl, hf.sub ⟨rfl, rfl, rfl, (some_int (by first | rfl | omega)), (some_sl (by first | omega | rfl | (simp only [List.length_append, List.length_cons, List.length_nil]; omega) | (simp <;> omega)) rfl), trivial⟩, hb, (Row.of_new (l := [0]) hk1 (by omega) rfl rfl (Nat.le_of_ble_eq_true rfl)), by omega, by simp, by simp, rfl⟩
    · skip
      clear hf fa; intro mq1 fa w2 hI KL1 hKL1
      clear hb
      clear hk1
      obtain ⟨n, xs, rwa, rwc, hmq1, hf, hb, hrw, hn, hx, hx2, Hs⟩ := hI
      have hcrw := Row.caps hrw
      refine wp_seq_k (fun K8 hK8 => ?_)
      refine wp_region_lit ?_
      refine sqv hf (r_lt rfl rfl) rfl rfl rfl ?_; clear hf fa; intro fa hf
      apply wpList_nil
      (try simp only [Exit.then, Exit.inBlock, ↓reduceIte, Nat.reduceEqDiff])
      refine hK8 _ _ ?_
      refine wp_seq_k (fun K9 hK9 => ?_)
      refine wp_cond_split (t := (decide (((n : Nat) : Int) < ((l.length : Nat) : Int)))) (hf.ev rfl) (fun hqt13_1 => ?_) (fun hqt13_1 => ?_)
      · have hqt13_1b := hqt13_1
        try simp only [decide_eq_true_eq, Bool.and_eq_true, Bool.or_eq_true, Bool.not_eq_true', decide_eq_false_iff_not, ne_eq, Bool.not_eq_true] at hqt13_1
        refine wp_skip ?_
        (try simp only [Exit.then, Exit.inBlock, ↓reduceIte, Nat.reduceEqDiff])
        refine hK9 _ _ ?_
        refine wp_seq_k (fun K10 hK10 => ?_)
        refine wp_block ?_
        refine wp_seq_k (fun K11 hK11 => ?_)
        refine wp_region_lit ?_
        refine sqv hf (r_move rfl) rfl rfl rfl ?_; clear hf fa; intro fa hf
        obtain ⟨y1, hy1⟩ : ∃ x, (l)[n]? = some x := ⟨_, List.getElem?_eq_getElem (by omega)⟩
        obtain ⟨ab1, aoff1, rfl, hlb1, hel1⟩ := RdS.at hr hy1
        refine sqv hf (r_ixa (sz := 4) (j := n) rfl rfl Tryd.underlying37 (by kernel_rfl) rfl (by omega) rfl) rfl rfl rfl ?_; clear hf fa; intro fa hf
        refine sqv hf (r_loadA (cs := [(.int .u8 y1.1), (.int .u64 y1.2.1), (.int .u64 y1.2.2.1), (.slice y1.2.2.2.1.at' y1.2.2.2.1.len y1.2.2.2.1.cap)]) rfl Tryd.underlying25 rfl (by kernel_rfl) (cellsAt_below hel1 hb hlb1)) rfl rfl rfl ?_; clear hf fa; intro fa hf
        refine sqdt hf (d_alloc (z := (.agg #[(.int .u8 (0 : Int)), (.int .u64 (0 : Int)), (.int .u64 (0 : Int)), (.slice none 0 0)])) (cs := #[(.int .u8 (0 : Int)), (.int .u64 (0 : Int)), (.int .u64 (0 : Int)), (.slice none 0 0)]) (by kernel_rfl) rfl) rfl rfl rfl ?_; clear hf fa; rintro fa _ w3 ⟨b2, rfl, hle2, hk2, he2⟩ hf
        have hBb2 : w.heap.size ≤ b2 := Nat.le_trans hb.size hle2
        replace hrw := Row.ext hrw he2
        replace hb := hb.trans (Below.mono he2 hb.size)
        refine sqv hf (r_assign rfl) rfl rfl rfl ?_; clear hf fa; intro fa hf
        refine sqn hf (d_storeK (T := 25) (v := (.agg #[(.int .u8 y1.1), (.int .u64 y1.2.1), (.int .u64 y1.2.2.1), (.slice y1.2.2.2.1.at' y1.2.2.2.1.len y1.2.2.2.1.cap)])) (cs := #[(.int .u8 (0 : Int)), (.int .u64 (0 : Int)), (.int .u64 (0 : Int)), (.slice none 0 0)]) (cs' := #[(.int .u8 y1.1), (.int .u64 y1.2.1), (.int .u64 y1.2.2.1), (.slice y1.2.2.2.1.at' y1.2.2.2.1.len y1.2.2.2.1.cap)]) rfl rfl (by kernel_rfl) (by kernel_rfl) hk2 (by kernel_rfl) (by kernel_rfl)) rfl rfl ?_; clear hf fa; rintro fa _ w4 ⟨hk3, hg1⟩ hf
        replace hrw := Row.grown hrw hg1 (Row.ne_type hrw hk2 rfl)
        replace hb := hb.trans (grown_below hg1 hb.size hBb2)
        apply wpList_nil
        (try simp only [Exit.then, Exit.inBlock, ↓reduceIte, Nat.reduceEqDiff])
        refine hK11 _ _ ?_
        refine wp_block ?_
        refine wp_seq_k (fun K12 hK12 => ?_)
        refine wp_region_lit ?_
        refine sqv hf (r_fa rfl Tryd.underlying25 (f := 0) (q := 0) rfl (by kernel_rfl) rfl) rfl rfl rfl ?_; clear hf fa; intro fa hf
        refine sqv hf (r_load (v := (.int .u8 y1.1)) rfl Tryd.underlying5 rfl (cell_blk hk3 rfl)) rfl rfl rfl ?_; clear hf fa; intro fa hf
        refine sqdt hf (d_callS (vs := [(.int .u8 y1.1)]) rfl Tryd.func60 (by kernel_rfl) (by kernel_rfl) (opens_any y1.1 _)) rfl rfl rfl ?_; clear hf fa; rintro fa _ _ ⟨rfl, rfl⟩ hf
        refine sqv hf (r_assign rfl) rfl rfl rfl ?_; clear hf fa; intro fa hf
        apply wpList_nil
        (try simp only [Exit.then, Exit.inBlock, ↓reduceIte, Nat.reduceEqDiff])
        refine hK12 _ _ ?_
        refine wp_cond_split (t := (opensI y1.1)) (hf.ev rfl) (fun hqt17_1 => ?_) (fun hqt17_1 => ?_)
        · have hqt17_1b := hqt17_1
          try simp only [decide_eq_true_eq, Bool.and_eq_true, Bool.or_eq_true, Bool.not_eq_true', decide_eq_false_iff_not, ne_eq, Bool.not_eq_true] at hqt17_1
          refine wp_region_lit ?_
          refine sqv hf (r_move rfl) rfl rfl rfl ?_; clear hf fa; intro fa hf
          refine sqv hf (r_fa rfl Tryd.underlying25 (f := 0) (q := 0) rfl (by kernel_rfl) rfl) rfl rfl rfl ?_; clear hf fa; intro fa hf
          refine sqv hf (r_load (v := (.int .u8 y1.1)) rfl Tryd.underlying5 rfl (cell_blk hk3 rfl)) rfl rfl rfl ?_; clear hf fa; intro fa hf
          refine sqdt hf (d_bslice (z := (.int .u8 (0 : Int))) (sz := 1) (vs := [(0, (.int .u8 y1.1))]) (cs := #[(.int .u8 y1.1)]) rfl Tryd.underlying87 (by kernel_rfl) rfl (by kernel_rfl)) rfl rfl rfl ?_; clear hf fa; rintro fa _ w5 ⟨b3, rfl, hle3, hk4, he3⟩ hf
          have hBb3 : w.heap.size ≤ b3 := Nat.le_trans hb.size hle3
          have : b2 < b3 := Nat.lt_of_lt_of_le (blk_lt hk3) hle3
          have hnr1 : (Value.slice rwa (xs.length) rwc).ownBlock ≠ some b3 := fun hq => by have := (Row.lt hrw _ hq).2; omega
          have hnl1 : ∀ q, (Value.slice rwa (xs.length) rwc).ownBlock = some q → q < b3 := fun q hq => Nat.lt_of_lt_of_le (Row.lt hrw q hq).2 hle3
          replace hk3 := blk_ext hk3 he3
          replace hrw := Row.ext hrw he3
          replace hb := hb.trans (Below.mono he3 hb.size)
          have hs1 := Row.rd (by intros; rfl) (Row.of_new (k := 1) (V := (vInt .u8)) (l := [y1.1]) hk4 (Nat.le_refl _) rfl rfl (Nat.le_of_ble_eq_true rfl))
          refine sqdt hf (d_append (V := (vInt .u8)) (k := 1) (e := 5) (bytes := 1) (z := (.int .u8 (0 : Int))) (news := [y1.1]) (base := w.heap.size) (by intros; rfl) (by intro x u hu; simp only [vInt, List.mem_singleton] at hu; subst hu; rfl) rfl rfl Tryd.underlying87 (by kernel_rfl) rfl rfl rfl hrw hs1 rfl (fun h => by cases h) (by first | omega | (simp only [List.length_cons, List.length_nil, List.length_append]; omega)) (by have := hb.size; omega)) rfl rfl rfl ?_; clear hf fa; rintro fa v w6 ⟨hr1, hg2⟩ hf; obtain ⟨ra1, rc1, rfl, hcrc1, hmrc1⟩ := Row.slice hr1
          replace hk3 := blk_row' hk3 hg2 (Row.ne_type hrw hk3 rfl)
          replace hb := hb.trans (row_below hrw hg2 hb.size (by have := hb.size; omega))
          refine sqv hf (r_assign rfl) rfl rfl rfl ?_; clear hf fa; intro fa hf
          apply wpList_nil
          (try simp only [Exit.then, Exit.inBlock, ↓reduceIte, Nat.reduceEqDiff])
          refine hK10 _ _ ?_
          refine wp_region_lit ?_
          refine sqv hf (r_add (C := (((n : Nat) : Int) + (1 : Int))) rfl rfl (by rw [IntKind.wrap_i64]; omega)) rfl rfl rfl ?_; clear hf fa; intro fa hf
          refine sqv hf (r_move rfl) rfl rfl rfl ?_; clear hf fa; intro fa hf
          apply wpList_nil
          (try simp only [Exit.then, Exit.inBlock, ↓reduceIte, Nat.reduceEqDiff])
          refine hKL1 _ _ _ (by omega) ⟨(n + 1), (xs ++ [y1.1]), ra1, rc1, rfl, hf.sub ⟨rfl, rfl, rfl, (some_int (by first | rfl | omega)), (some_sl (by first | omega | rfl | (simp only [List.length_append, List.length_cons, List.length_nil]; omega) | (simp <;> omega)) rfl), trivial⟩, hb, (Row.relen hr1), by omega, (by first | omega | (simp only [List.length_append, List.length_cons, List.length_nil, List.length_set, List.length_take]; omega)), (by first | omega | (simp only [List.length_append, List.length_cons, List.length_nil, List.length_set, List.length_take]; omega)), (by have h := Hs; rw [opl_drop hy1, shR] at h; simp only [if_neg hqt8_1, if_pos hqt13_1, if_pos hqt17_1] at h; exact h)⟩
        · have hqt17_1b := hqt17_1
          replace hqt17_1 := Bool.eq_false_iff.1 hqt17_1
          try simp only [ne_eq, decide_eq_true_eq, Bool.and_eq_true, Bool.or_eq_true, Bool.not_eq_true', decide_eq_false_iff_not] at hqt17_1
          refine wp_seq_k (fun K13 hK13 => ?_)
          refine wp_region_lit ?_
          refine sqv hf (r_fa rfl Tryd.underlying25 (f := 0) (q := 0) rfl (by kernel_rfl) rfl) rfl rfl rfl ?_; clear hf fa; intro fa hf
          refine sqv hf (r_load (v := (.int .u8 y1.1)) rfl Tryd.underlying5 rfl (cell_blk hk3 rfl)) rfl rfl rfl ?_; clear hf fa; intro fa hf
          refine sqv hf (r_eq rfl rfl) rfl rfl rfl ?_; clear hf fa; intro fa hf
          refine sqv hf (r_assign rfl) rfl rfl rfl ?_; clear hf fa; intro fa hf
          apply wpList_nil
          (try simp only [Exit.then, Exit.inBlock, ↓reduceIte, Nat.reduceEqDiff])
          refine hK13 _ _ ?_
          refine wp_cond_split (t := (decide (y1.1 = (5 : Int)))) (hf.ev rfl) (fun hqt26_1 => ?_) (fun hqt26_1 => ?_)
          · have hqt26_1b := hqt26_1
            try simp only [decide_eq_true_eq, Bool.and_eq_true, Bool.or_eq_true, Bool.not_eq_true', decide_eq_false_iff_not, ne_eq, Bool.not_eq_true] at hqt26_1
            refine wp_seq_k (fun K14 hK14 => ?_)
            refine wp_seq_k (fun K15 hK15 => ?_)
            refine wp_region_lit ?_
            refine sqv hf (r_move rfl) rfl rfl rfl ?_; clear hf fa; intro fa hf
            refine sqv hf (r_move rfl) rfl rfl rfl ?_; clear hf fa; intro fa hf
            refine sqv hf (r_lensl rfl Tryd.underlying87) rfl rfl rfl ?_; clear hf fa; intro fa hf
            refine sqv hf (r_sub (C := (((xs.length : Nat) : Int) - (1 : Int))) rfl rfl (by rw [IntKind.wrap_i64]; omega)) rfl rfl rfl ?_; clear hf fa; intro fa hf
            obtain ⟨rb1, rfl, hbbrb1, hlbrb1⟩ := Row.some hrw (by first | omega | (simp only [List.length_set, List.length_take, List.length_append, List.length_replicate, List.length_cons, List.length_nil]; omega))
            have hy2 := getD_at (l := xs) (j := (xs.length - 1)) (0 : Int) (by first | omega | (simp only [List.length_set, List.length_take, List.length_append, List.length_replicate, List.length_cons, List.length_nil]; omega))
            have hel2 := RdS.at (Row.rd (by intros; rfl) hrw) hy2
            obtain ⟨_, _, hab, hlr1, hel2⟩ := hel2
            cases hab
            refine sqv hf (r_ixa (sz := 1) (j := (xs.length - 1)) rfl rfl Tryd.underlying87 (by kernel_rfl) (by omega) (by omega) rfl) rfl rfl rfl ?_; clear hf fa; intro fa hf
            refine sqv hf (r_load (v := (.int .u8 ((xs.getD (xs.length - 1) (0 : Int))))) rfl Tryd.underlying5 rfl (cellsAt_cell hel2 (i := 0) rfl rfl)) rfl rfl rfl ?_; clear hf fa; intro fa hf
            refine sqv hf (r_ne rfl rfl) rfl rfl rfl ?_; clear hf fa; intro fa hf
            apply wpList_nil
            (try simp only [Exit.then, Exit.inBlock, ↓reduceIte, Nat.reduceEqDiff])
            refine hK15 _ _ ?_
            refine wp_cond_split (t := (decide (((xs.getD (xs.length - 1) (0 : Int))) ≠ (4 : Int)))) (hf.ev rfl) (fun hqt36_1 => ?_) (fun hqt36_1 => ?_)
            · have hqt36_1b := hqt36_1
              try simp only [decide_eq_true_eq, Bool.and_eq_true, Bool.or_eq_true, Bool.not_eq_true', decide_eq_false_iff_not, ne_eq, Bool.not_eq_true] at hqt36_1
              refine wp_seq_k (fun K16 hK16 => ?_)
              refine wp_region_lit ?_
              refine sqv hf (r_assign rfl) rfl rfl rfl ?_; clear hf fa; intro fa hf
              apply wpList_nil
              (try simp only [Exit.then, Exit.inBlock, ↓reduceIte, Nat.reduceEqDiff])
              refine hK16 _ _ ?_
              refine wp_ret ?_
              (try simp only [Exit.then, Exit.inBlock])
              refine ret1 hf rfl rfl ?_
              refine ⟨?_, hb⟩; unfold shapeP; rw [opl_length]
              rw [if_neg hqt8_1, Hs, opl_drop hy1, shR]; (try simp only [if_neg hqt8_1, if_pos hqt13_1, if_neg hqt17_1, if_pos hqt26_1, if_pos hqt36_1])
            · have hqt36_1b := hqt36_1
              replace hqt36_1 := Bool.eq_false_iff.1 hqt36_1
              try simp only [ne_eq, decide_eq_true_eq, Bool.and_eq_true, Bool.or_eq_true, Bool.not_eq_true', decide_eq_false_iff_not] at hqt36_1
              refine wp_skip ?_
              (try simp only [Exit.then, Exit.inBlock, ↓reduceIte, Nat.reduceEqDiff])
              refine hK14 _ _ ?_
              refine wp_region_lit ?_
              refine sqv hf (r_move rfl) rfl rfl rfl ?_; clear hf fa; intro fa hf
              refine sqv hf (r_move rfl) rfl rfl rfl ?_; clear hf fa; intro fa hf
              refine sqv hf (r_lensl rfl Tryd.underlying87) rfl rfl rfl ?_; clear hf fa; intro fa hf
              refine sqv hf (r_sub (C := (((xs.length : Nat) : Int) - (1 : Int))) rfl rfl (by rw [IntKind.wrap_i64]; omega)) rfl rfl rfl ?_; clear hf fa; intro fa hf
              have hy3 := getD_at (l := xs) (j := (xs.length - 1)) (0 : Int) (by first | omega | (simp only [List.length_set, List.length_take, List.length_append, List.length_replicate, List.length_cons, List.length_nil]; omega))
              have hel3 := RdS.at (Row.rd (by intros; rfl) hrw) hy3
              obtain ⟨_, _, hab, hlr2, hel3⟩ := hel3
              cases hab
              refine sqv hf (r_ixa (sz := 1) (j := (xs.length - 1)) rfl rfl Tryd.underlying87 (by kernel_rfl) (by omega) (by omega) rfl) rfl rfl rfl ?_; clear hf fa; intro fa hf
              refine sqn hf (d_rowset (u := (5 : Int)) (j := (xs.length - 1)) (by intros; rfl) (by intro x u hu; simp only [vInt, List.mem_singleton] at hu; subst hu; rfl) rfl rfl (by first | rfl | (simp; done) | (simp; omega)) (by kernel_rfl) hrw (by first | omega | (simp only [List.length_set, List.length_take, List.length_append, List.length_replicate, List.length_cons, List.length_nil]; omega)) (by omega)) rfl rfl ?_; clear hf fa; rintro fa _ w7 ⟨hr2, hg3⟩ hf
              replace hk3 := blk_grown hk3 hg3 (fun e => Row.ne_type hrw hk3 rfl (show some rb1 = some b2 by rw [e]))
              replace hb := hb.trans (grown_below hg3 hb.size (by first | omega | (have := Row.lt hrw _ rfl; omega) | exact (Row.lt hrw _ rfl).1))
              apply wpList_nil
              (try simp only [Exit.then, Exit.inBlock, ↓reduceIte, Nat.reduceEqDiff])
              refine hK10 _ _ ?_
              refine wp_region_lit ?_
              refine sqv hf (r_add (C := (((n : Nat) : Int) + (1 : Int))) rfl rfl (by rw [IntKind.wrap_i64]; omega)) rfl rfl rfl ?_; clear hf fa; intro fa hf
              refine sqv hf (r_move rfl) rfl rfl rfl ?_; clear hf fa; intro fa hf
              apply wpList_nil
              (try simp only [Exit.then, Exit.inBlock, ↓reduceIte, Nat.reduceEqDiff])
              refine hKL1 _ _ _ (by omega) ⟨(n + 1), ((xs).set (xs.length - 1) (5 : Int)), (some ⟨rb1, 0, none⟩), rwc, rfl, hf.sub ⟨rfl, rfl, rfl, (some_int (by first | rfl | omega)), (some_sl (by first | omega | rfl | (simp only [List.length_append, List.length_cons, List.length_nil]; omega) | (simp <;> omega)) rfl), trivial⟩, hb, (Row.relen hr2), by omega, (by first | omega | (simp only [List.length_append, List.length_cons, List.length_nil, List.length_set, List.length_take]; omega)), (by first | omega | (simp only [List.length_append, List.length_cons, List.length_nil, List.length_set, List.length_take]; omega)), (by have h := Hs; rw [opl_drop hy1, shR] at h; simp only [if_neg hqt8_1, if_pos hqt13_1, if_neg hqt17_1, if_pos hqt26_1, if_neg hqt36_1] at h; exact h)⟩
          · have hqt26_1b := hqt26_1
            replace hqt26_1 := Bool.eq_false_iff.1 hqt26_1
            try simp only [ne_eq, decide_eq_true_eq, Bool.and_eq_true, Bool.or_eq_true, Bool.not_eq_true', decide_eq_false_iff_not] at hqt26_1
            refine wp_seq_k (fun K17 hK17 => ?_)
            refine wp_region_lit ?_
            refine sqv hf (r_fa rfl Tryd.underlying25 (f := 0) (q := 0) rfl (by kernel_rfl) rfl) rfl rfl rfl ?_; clear hf fa; intro fa hf
            refine sqv hf (r_load (v := (.int .u8 y1.1)) rfl Tryd.underlying5 rfl (cell_blk hk3 rfl)) rfl rfl rfl ?_; clear hf fa; intro fa hf
            refine sqv hf (r_eq rfl rfl) rfl rfl rfl ?_; clear hf fa; intro fa hf
            refine sqv hf (r_assign rfl) rfl rfl rfl ?_; clear hf fa; intro fa hf
            apply wpList_nil
            (try simp only [Exit.then, Exit.inBlock, ↓reduceIte, Nat.reduceEqDiff])
            refine hK17 _ _ ?_
            refine wp_cond_split (t := (decide (y1.1 = (11 : Int)))) (hf.ev rfl) (fun hqt42_1 => ?_) (fun hqt42_1 => ?_)
            · have hqt42_1b := hqt42_1
              try simp only [decide_eq_true_eq, Bool.and_eq_true, Bool.or_eq_true, Bool.not_eq_true', decide_eq_false_iff_not, ne_eq, Bool.not_eq_true] at hqt42_1
              refine wp_seq_k (fun K18 hK18 => ?_)
              refine wp_region_lit ?_
              refine sqv hf (r_move rfl) rfl rfl rfl ?_; clear hf fa; intro fa hf
              refine sqv hf (r_move rfl) rfl rfl rfl ?_; clear hf fa; intro fa hf
              refine sqv hf (r_lensl rfl Tryd.underlying87) rfl rfl rfl ?_; clear hf fa; intro fa hf
              refine sqv hf (r_sub (C := (((xs.length : Nat) : Int) - (1 : Int))) rfl rfl (by rw [IntKind.wrap_i64]; omega)) rfl rfl rfl ?_; clear hf fa; intro fa hf
              refine sqv hf (r_slto (m := (xs.length - 1)) rfl rfl Tryd.underlying87 (by kernel_rfl) (by omega) (by omega)) rfl rfl rfl ?_; clear hf fa; intro fa hf
              have hr3 := Row.cut (m := (xs.length - 1)) (by intros; rfl) hrw (Row.caps hrw).1 (by omega) (by omega)
              refine sqv hf (r_assign rfl) rfl rfl rfl ?_; clear hf fa; intro fa hf
              apply wpList_nil
              (try simp only [Exit.then, Exit.inBlock, ↓reduceIte, Nat.reduceEqDiff])
              refine hK18 _ _ ?_
              refine wp_seq_k (fun K19 hK19 => ?_)
              refine wp_region_lit ?_
              refine sqv hf (r_move rfl) rfl rfl rfl ?_; clear hf fa; intro fa hf
              refine sqv hf (r_lensl rfl Tryd.underlying87) rfl rfl rfl ?_; clear hf fa; intro fa hf
              refine sqv hf (r_eq rfl rfl) rfl rfl rfl ?_; clear hf fa; intro fa hf
              apply wpList_nil
              (try simp only [Exit.then, Exit.inBlock, ↓reduceIte, Nat.reduceEqDiff])
              refine hK19 _ _ ?_
              refine wp_cond_split (t := (decide ((((xs.length - 1) : Nat) : Int) = (0 : Int)))) (hf.ev rfl) (fun hqt53_1 => ?_) (fun hqt53_1 => ?_)
              · have hqt53_1b := hqt53_1
                try simp only [decide_eq_true_eq, Bool.and_eq_true, Bool.or_eq_true, Bool.not_eq_true', decide_eq_false_iff_not, ne_eq, Bool.not_eq_true] at hqt53_1
                refine wp_seq_k (fun K20 hK20 => ?_)
                refine wp_region_lit ?_
                refine sqv hf (r_move rfl) rfl rfl rfl ?_; clear hf fa; intro fa hf
                refine sqv hf (r_move rfl) rfl rfl rfl ?_; clear hf fa; intro fa hf
                refine sqv hf (r_lensl rfl Tryd.underlying37) rfl rfl rfl ?_; clear hf fa; intro fa hf
                refine sqv hf (r_sub (C := (((l.length : Nat) : Int) - (1 : Int))) rfl rfl (by rw [IntKind.wrap_i64]; omega)) rfl rfl rfl ?_; clear hf fa; intro fa hf
                refine sqv hf (r_eq rfl rfl) rfl rfl rfl ?_; clear hf fa; intro fa hf
                refine sqdt hf (d_callS (vs := [(.bool (decide (((n : Nat) : Int) = (((l.length : Nat) : Int) - (1 : Int)))))]) rfl Tryd.func61 (by kernel_rfl) (by kernel_rfl) (ended_any (decide (((n : Nat) : Int) = (((l.length : Nat) : Int) - (1 : Int)))) _)) rfl rfl rfl ?_; clear hf fa; rintro fa _ _ ⟨rfl, rfl⟩ hf
                refine sqv hf (r_assign rfl) rfl rfl rfl ?_; clear hf fa; intro fa hf
                apply wpList_nil
                (try simp only [Exit.then, Exit.inBlock, ↓reduceIte, Nat.reduceEqDiff])
                refine hK20 _ _ ?_
                refine wp_ret ?_
                (try simp only [Exit.then, Exit.inBlock])
                refine ret1 hf rfl rfl ?_
                refine ⟨?_, hb⟩; unfold shapeP; rw [opl_length]
                rw [if_neg hqt8_1, Hs, opl_drop hy1, shR]; (try simp only [if_neg hqt8_1, if_pos hqt13_1, if_neg hqt17_1, if_neg hqt26_1, if_pos hqt42_1, if_pos hqt53_1])
              · have hqt53_1b := hqt53_1
                replace hqt53_1 := Bool.eq_false_iff.1 hqt53_1
                try simp only [ne_eq, decide_eq_true_eq, Bool.and_eq_true, Bool.or_eq_true, Bool.not_eq_true', decide_eq_false_iff_not] at hqt53_1
                refine wp_skip ?_
                (try simp only [Exit.then, Exit.inBlock, ↓reduceIte, Nat.reduceEqDiff])
                refine hK10 _ _ ?_
                refine wp_region_lit ?_
                refine sqv hf (r_add (C := (((n : Nat) : Int) + (1 : Int))) rfl rfl (by rw [IntKind.wrap_i64]; omega)) rfl rfl rfl ?_; clear hf fa; intro fa hf
                refine sqv hf (r_move rfl) rfl rfl rfl ?_; clear hf fa; intro fa hf
                apply wpList_nil
                (try simp only [Exit.then, Exit.inBlock, ↓reduceIte, Nat.reduceEqDiff])
                refine hKL1 _ _ _ (by omega) ⟨(n + 1), ((xs).take (xs.length - 1)), rwa, rwc, rfl, hf.sub ⟨rfl, rfl, rfl, (some_int (by first | rfl | omega)), (some_sl (by first | omega | rfl | (simp only [List.length_append, List.length_cons, List.length_nil]; omega) | (simp <;> omega)) rfl), trivial⟩, hb, (Row.relen hr3), by omega, (by first | omega | (simp only [List.length_append, List.length_cons, List.length_nil, List.length_set, List.length_take]; omega)), (by first | omega | (simp only [List.length_append, List.length_cons, List.length_nil, List.length_set, List.length_take]; omega)), (by have h := Hs; rw [opl_drop hy1, shR] at h; simp only [if_neg hqt8_1, if_pos hqt13_1, if_neg hqt17_1, if_neg hqt26_1, if_pos hqt42_1, if_neg hqt53_1] at h; exact h)⟩
            · have hqt42_1b := hqt42_1
              replace hqt42_1 := Bool.eq_false_iff.1 hqt42_1
              try simp only [ne_eq, decide_eq_true_eq, Bool.and_eq_true, Bool.or_eq_true, Bool.not_eq_true', decide_eq_false_iff_not] at hqt42_1
              refine wp_skip ?_
              (try simp only [Exit.then, Exit.inBlock, ↓reduceIte, Nat.reduceEqDiff])
              refine hK10 _ _ ?_
              refine wp_region_lit ?_
              refine sqv hf (r_add (C := (((n : Nat) : Int) + (1 : Int))) rfl rfl (by rw [IntKind.wrap_i64]; omega)) rfl rfl rfl ?_; clear hf fa; intro fa hf
              refine sqv hf (r_move rfl) rfl rfl rfl ?_; clear hf fa; intro fa hf
              apply wpList_nil
              (try simp only [Exit.then, Exit.inBlock, ↓reduceIte, Nat.reduceEqDiff])
              refine hKL1 _ _ _ (by omega) ⟨(n + 1), xs, rwa, rwc, rfl, hf.sub ⟨rfl, rfl, rfl, (some_int (by first | rfl | omega)), rfl, trivial⟩, hb, (Row.relen hrw), by omega, (by first | omega | (simp only [List.length_append, List.length_cons, List.length_nil, List.length_set, List.length_take]; omega)), (by first | omega | (simp only [List.length_append, List.length_cons, List.length_nil, List.length_set, List.length_take]; omega)), (by have h := Hs; rw [opl_drop hy1, shR] at h; simp only [if_neg hqt8_1, if_pos hqt13_1, if_neg hqt17_1, if_neg hqt26_1, if_neg hqt42_1] at h; exact h)⟩
      · have hqt13_1b := hqt13_1
        replace hqt13_1 := Bool.eq_false_iff.1 hqt13_1
        try simp only [ne_eq, decide_eq_true_eq, Bool.and_eq_true, Bool.or_eq_true, Bool.not_eq_true', decide_eq_false_iff_not] at hqt13_1
        refine wp_exit ?_
        (try simp only [Exit.then, Exit.inBlock, ↓reduceIte, Nat.reduceEqDiff])
        refine hK6 _ _ ?_
        refine wp_seq_k (fun K21 hK21 => ?_)
        refine wp_region_lit ?_
        refine sqv hf (r_assign rfl) rfl rfl rfl ?_; clear hf fa; intro fa hf
        apply wpList_nil
        (try simp only [Exit.then, Exit.inBlock, ↓reduceIte, Nat.reduceEqDiff])
        refine hK21 _ _ ?_
        refine wp_ret ?_
        (try simp only [Exit.then, Exit.inBlock])
        refine ret1 hf rfl rfl ?_
        refine ⟨?_, hb⟩; unfold shapeP; rw [opl_length]
        rw [if_neg hqt8_1, Hs, opl_end (by omega), shR]; (try simp only [if_neg hqt8_1, if_neg hqt13_1])
end Go.Proofs.YtpalmpfkliepfaaDoor.Fl
