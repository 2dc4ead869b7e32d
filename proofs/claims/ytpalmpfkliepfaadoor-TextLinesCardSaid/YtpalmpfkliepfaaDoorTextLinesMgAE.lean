/- What is proved here: what stands behind a name, by the program: rest. What is proved here: the words of a line (plain). What is proved here: a line read back (plain). What is proved here: a line read, by the program (plain part). What is proved here: a line read, by the program: text.Parse. What is proved here: the law TextLines is true. What is proved here: the statement TextLines, for every input. -/
import Derived.Test.YtpalmpfkliepfaaDoorTextLinesMgAD
import Derived.Test.YtpalmpfkliepfaaDoorRows
import Derived.Test.YtpalmpfkliepfaaDoorCards
import Derived.Test.YtpalmpfkliepfaaDoorTie
import Derived.Test.YtpalmpfkliepfaaDoorTextLinesMgAA
import Derived.ProofKit
import Derived.OpenShut
import Derived.ShutString
import Derived.ChangeOld
import Derived.Below
import Derived.LaidMore
import Derived.Lay
import Derived.SevenTiedAt
import Derived.Stop.Joined
namespace Go.Proofs.YtpalmpfkliepfaaDoor
open Go.RowKit Ut
set_option linter.unusedVariables false
set_option linter.unusedSimpArgs false
attribute [local irreducible] infP ofP chkP rchkP

theorem RdS.kb {α : Type} {k bi : Nat} {V : α → List Value} {w w' : World} {a : Option Addr} {l : List α} (h : RdS k V w a l) (hb : KB bi w.heap.size w w') (hnb : ∀ q : Addr, a = some q → q.block ≠ bi) : RdS k V w' a l := by
  intro j x hx
  obtain ⟨b, off, ha, hl, he⟩ := h j x hx
  exact ⟨b, off, ha, Nat.lt_of_lt_of_le hl hb.size, cellsAt_kb he hb hl (hnb _ ha)⟩
def lblK (op : Nat) (W : List ByteArray) : Bool := (nbsP W).2 && (!decide ((nbsP W).1.length = 0) && !(decide (1 < (nbsP W).1.length) && decide ((infP op).2.1 ≠ 3)))
def resK (op : Nat) (W : List ByteArray) : Bool :=
  if (infP op).2.1 = 0 ∨ (infP op).2.1 = 9 then decide (W.length = 0)
  else if (infP op).2.1 = 1 then decide (W.length ≤ 1)
  else if (infP op).2.1 = 8 then accK W
  else if (infP op).2.1 = 10 then (conP W true).2
  else if (infP op).2.1 = 11 then (conP W false).2
  else lblK op W
def resA (op : Nat) (W : List ByteArray) : Int :=
  if (infP op).2.1 = 0 ∨ (infP op).2.1 = 9 then 0
  else if (infP op).2.1 = 1 then (if W.length = 1 then bytP (wd W 0) else 64)
  else if (infP op).2.1 = 8 then (accP W).1
  else if (infP op).2.1 = 10 then (conP W true).1
  else if (infP op).2.1 = 11 then (conP W false).1
  else if lblK op W = true then (nbsP W).1.getD ((nbsP W).1.length - 1) 0 else 0
def resB (op : Nat) (W : List ByteArray) : Int := if (infP op).2.1 = 8 then (accP W).2 else 0
def resL (op : Nat) (W : List ByteArray) : List Int :=
  if (infP op).2.1 = 0 ∨ (infP op).2.1 = 9 ∨ (infP op).2.1 = 1 ∨ (infP op).2.1 = 8 ∨ (infP op).2.1 = 10 ∨ (infP op).2.1 = 11 then []
  else if lblK op W = true then (nbsP W).1.take ((nbsP W).1.length - 1) else []
theorem nbsA_rng (W : List ByteArray) : ∀ o, (∀ y ∈ o, 0 ≤ y ∧ y < (4294967296 : Int)) → ∀ y ∈ (nbsA o W).1, 0 ≤ y ∧ y < (4294967296 : Int) := by
  induction W with
  | nil => intro o h; exact h
  | cons z l ih =>
    intro o h
    rw [nbsA]
    split
    · rename_i hk
      refine ih _ (fun y hy => ?_)
      rcases List.mem_append.1 hy with h1 | h1
      · exact h y h1
      · rw [List.mem_singleton] at h1
        subst h1
        unfold okN at hk
        simp at hk
        omega
    · intro y hy; cases hy
theorem nbs_rng (W : List ByteArray) : ∀ y ∈ (nbsP W).1, 0 ≤ y ∧ y < (4294967296 : Int) := nbsA_rng W [] (fun y hy => by cases hy)

theorem bytO_rng (j : Nat) : 0 ≤ bytO j ∧ bytO j < 256 := by
  match j with
  | 0 => decide
  | 1 => decide
  | 2 => decide
  | 3 => decide
  | 4 => decide
  | n + 5 => exact ⟨Int.le_refl 0, by show (0 : Int) < 256; decide⟩
theorem bytR_rng (s : ByteArray) : ∀ f i, 0 ≤ bytR s f i ∧ bytR s f i < 256 := by
  intro f
  induction f with
  | zero => intro i; exact ⟨Int.le_refl 0, by show (0 : Int) < 256; decide⟩
  | succ f ih =>
    intro i
    rw [bytR]
    split
    · exact bytO_rng i
    · exact ih (i + 1)
theorem bytP_rng (s : ByteArray) : 0 ≤ bytP s ∧ bytP s < 256 := bytR_rng s 5 0
theorem lblK_no {op : Nat} {W : List ByteArray} (h : ((nbsP W).2 = false ∨ (((nbsP W).1.length : Nat) : Int) = 0) ∨ (1 : Int) < (((nbsP W).1.length : Nat) : Int) ∧ ¬ (infP op).2.1 = 3) : lblK op W = false := by
  unfold lblK
  rcases h with (h | h) | ⟨h, h3⟩
  · rw [h]; rfl
  · rw [decide_eq_true (show (nbsP W).1.length = 0 by omega)]; simp
  · rw [decide_eq_true (show 1 < (nbsP W).1.length by omega), decide_eq_true (show (infP op).2.1 ≠ 3 from h3)]; simp
theorem lblK_yes {op : Nat} {W : List ByteArray} (h : ¬ (((nbsP W).2 = false ∨ (((nbsP W).1.length : Nat) : Int) = 0) ∨ (1 : Int) < (((nbsP W).1.length : Nat) : Int) ∧ ¬ (infP op).2.1 = 3)) : lblK op W = true := by
  have h1 : (nbsP W).2 = true := by
    cases hz : (nbsP W).2 with
    | true => rfl
    | false => exact absurd (.inl (.inl hz)) h
  unfold lblK
  rw [h1, decide_eq_false (show ¬ (nbsP W).1.length = 0 from fun e => h (.inl (.inr (by omega))))]
  by_cases h3 : (infP op).2.1 = 3
  · rw [decide_eq_false (show ¬ (infP op).2.1 ≠ 3 from fun e => e h3)]; simp
  · rw [decide_eq_false (show ¬ 1 < (nbsP W).1.length from fun e => h (.inr ⟨by omega, h3⟩))]; rfl

set_option maxHeartbeats 1000000 in
set_option maxRecDepth 100000 in
theorem rest_any (op bi : Nat) (a : Option Addr) (W : List ByteArray) (c : Nat) (w : World) (hnb : ∀ q : Addr, a = some q → q.block ≠ bi) (hki : w.heap[bi]? = some (.cells #[(.int .u8 ((op : Nat) : Int)), (.int .u64 (0 : Int)), (.int .u64 (0 : Int)), (.slice none 0 0)] 25 (0, 0))) (hl : RdS 1 vStr w a W) (hc : W.length ≤ c) (hn : W.length ≤ 100000) (hW : ∀ y ∈ W, y.size ≤ 100000) (hop : op < 256) : Calls Tryd.prog 28 #[(.pointer (some ⟨bi, 0, none⟩)), (.slice a W.length c)] w fun e w' => e = .returned (.bool (resK op W)) ∧ ∃ aL cL, w'.heap[bi]? = some (.cells #[.int .u8 ((op : Nat) : Int), .int .u64 (resA op W), .int .u64 (resB op W), .slice aL (resL op W).length cL] 25 (0, 0)) ∧ Row 1 (vInt .u32) 62 w.heap.size w' (.slice aL (resL op W).length cL) (resL op W) ∧ w.grownBy w' (some bi) := by
  have hnl : (nbsP W).1.length ≤ W.length := (by have h := nbsA_len W []; simp at h; exact h)
  have hby := bytP_rng (wd W 0)
  refine sx_enter (L := [(0, (.pointer (some ⟨bi, 0, none⟩))), (1, (.slice a W.length c))]) Tryd.func28 rfl rfl rfl rfl (fun fa hf => ?_)
  have hb : KB bi w.heap.size w w := KB.refl _ _ _
  refine wp_seq_k (fun K1 hK1 => ?_)
  refine wp_region_lit ?_
  refine sqv hf (r_assign rfl) rfl rfl rfl ?_; clear hf fa; intro fa hf
  apply wpList_nil
  (try simp only [Exit.then, Exit.inBlock, ↓reduceIte, Nat.reduceEqDiff])
  refine hK1 _ _ ?_
  refine wp_seq_k (fun K2 hK2 => ?_)
  refine wp_seq_k (fun K3 hK3 => ?_)
  refine wp_region_lit ?_
  refine sqv hf (r_move rfl) rfl rfl rfl ?_; clear hf fa; intro fa hf
  refine sqv hf (r_nilCheck rfl) rfl rfl rfl ?_; clear hf fa; intro fa hf
  refine sqv hf (r_fa rfl Tryd.underlying25 (f := 0) (q := 0) rfl (by kernel_rfl) rfl) rfl rfl rfl ?_; clear hf fa; intro fa hf
  refine sqv hf (r_load (v := (.int .u8 ((op : Nat) : Int))) rfl Tryd.underlying5 rfl (cell_blk hki rfl)) rfl rfl rfl ?_; clear hf fa; intro fa hf
  refine sqdt hf (d_callB (vs := [(.int .u8 ((op : Nat) : Int))]) rfl Tryd.func20 (by kernel_rfl) (by kernel_rfl) (inf_any op _ hop)) rfl rfl rfl ?_; clear hf fa; rintro fa _ w1 ⟨rfl, he1⟩ hf
  replace hki := blk_ext hki he1
  replace hb := hb.trans (Below.mono he1 hb.size)
  refine sqv hf (r_field (cs := #[(.string (infP op).1), (.int .i64 ((infP op).2.1)), (.string (infP op).2.2.1), (.string (infP op).2.2.2.1), (.bool (infP op).2.2.2.2.1)]) (v := (.int .i64 ((infP op).2.1))) rfl (fun _ => by kernel_rfl)) rfl rfl rfl ?_; clear hf fa; intro fa hf
  apply wpList_nil
  (try simp only [Exit.then, Exit.inBlock, ↓reduceIte, Nat.reduceEqDiff])
  refine hK3 _ _ ?_
  refine wp_block ?_
  refine wp_seq_k (fun K4 hK4 => ?_)
  refine wp_seq_k (fun K5 hK5 => ?_)
  refine wp_region_lit ?_
  refine sqv hf (r_eq rfl rfl) rfl rfl rfl ?_; clear hf fa; intro fa hf
  refine sqv hf (r_assign rfl) rfl rfl rfl ?_; clear hf fa; intro fa hf
  apply wpList_nil
  (try simp only [Exit.then, Exit.inBlock, ↓reduceIte, Nat.reduceEqDiff])
  refine hK5 _ _ ?_
  refine wp_cond_split (t := (decide (((infP op).2.1) = (0 : Int)))) (hf.ev rfl) (fun hqt15_1 => ?_) (fun hqt15_1 => ?_)
  · have hqt15_1b := hqt15_1
    try simp only [decide_eq_true_eq, Bool.and_eq_true, Bool.or_eq_true, Bool.not_eq_true', decide_eq_false_iff_not, ne_eq, Bool.not_eq_true] at hqt15_1
    refine wp_skip ?_
    (try simp only [Exit.then, Exit.inBlock, ↓reduceIte, Nat.reduceEqDiff])
    refine hK4 _ _ ?_
    refine wp_cond_true ((hf.ev rfl).trans (congrArg Value.bool (show (decide (((infP op).2.1) = (0 : Int))) = true from hqt15_1b))) ?_
    refine wp_seq_k (fun K6 hK6 => ?_)
    refine wp_region_lit ?_
    refine sqv hf (r_move rfl) rfl rfl rfl ?_; clear hf fa; intro fa hf
    refine sqv hf (r_lensl rfl Tryd.underlying43) rfl rfl rfl ?_; clear hf fa; intro fa hf
    refine sqv hf (r_eq rfl rfl) rfl rfl rfl ?_; clear hf fa; intro fa hf
    refine sqv hf (r_assign rfl) rfl rfl rfl ?_; clear hf fa; intro fa hf
    apply wpList_nil
    (try simp only [Exit.then, Exit.inBlock, ↓reduceIte, Nat.reduceEqDiff])
    refine hK6 _ _ ?_
    refine wp_ret ?_
    (try simp only [Exit.then, Exit.inBlock])
    refine ret1 hf rfl rfl ?_
    have hB : resB op W = 0 := by unfold resB; rw [if_neg (by have h0 := hqt15_1; omega)]
    have hL : resL op W = [] := by unfold resL; rw [if_pos (by have h0 := hqt15_1; omega)]
    have hK : resK op W = (decide (((W.length : Nat) : Int) = (0 : Int))) := by unfold resK; rw [if_pos (by have h0 := hqt15_1; omega)]; exact decide_eq_decide.2 (by omega)
    have hA : resA op W = (0 : Int) := by unfold resA; rw [if_pos (by have h0 := hqt15_1; omega)]
    rw [hK, hA, hB, hL]
    exact ⟨rfl, none, 0, hki, Row.nil, hb.grown⟩
  · have hqt15_1b := hqt15_1
    replace hqt15_1 := Bool.eq_false_iff.1 hqt15_1
    try simp only [ne_eq, decide_eq_true_eq, Bool.and_eq_true, Bool.or_eq_true, Bool.not_eq_true', decide_eq_false_iff_not] at hqt15_1
    refine wp_region_lit ?_
    refine sqv hf (r_eq rfl rfl) rfl rfl rfl ?_; clear hf fa; intro fa hf
    refine sqv hf (r_assign rfl) rfl rfl rfl ?_; clear hf fa; intro fa hf
    apply wpList_nil
    (try simp only [Exit.then, Exit.inBlock, ↓reduceIte, Nat.reduceEqDiff])
    refine hK4 _ _ ?_
    refine wp_cond_split (t := (decide (((infP op).2.1) = (9 : Int)))) (hf.ev rfl) (fun hqt15_3 => ?_) (fun hqt15_3 => ?_)
    · have hqt15_3b := hqt15_3
      try simp only [decide_eq_true_eq, Bool.and_eq_true, Bool.or_eq_true, Bool.not_eq_true', decide_eq_false_iff_not, ne_eq, Bool.not_eq_true] at hqt15_3
      refine wp_seq_k (fun K7 hK7 => ?_)
      refine wp_region_lit ?_
      refine sqv hf (r_move rfl) rfl rfl rfl ?_; clear hf fa; intro fa hf
      refine sqv hf (r_lensl rfl Tryd.underlying43) rfl rfl rfl ?_; clear hf fa; intro fa hf
      refine sqv hf (r_eq rfl rfl) rfl rfl rfl ?_; clear hf fa; intro fa hf
      refine sqv hf (r_assign rfl) rfl rfl rfl ?_; clear hf fa; intro fa hf
      apply wpList_nil
      (try simp only [Exit.then, Exit.inBlock, ↓reduceIte, Nat.reduceEqDiff])
      refine hK7 _ _ ?_
      refine wp_ret ?_
      (try simp only [Exit.then, Exit.inBlock])
      refine ret1 hf rfl rfl ?_
      have hB : resB op W = 0 := by unfold resB; rw [if_neg (by have h0 := hqt15_1; have h1 := hqt15_3; omega)]
      have hL : resL op W = [] := by unfold resL; rw [if_pos (by have h0 := hqt15_1; have h1 := hqt15_3; omega)]
      have hK : resK op W = (decide (((W.length : Nat) : Int) = (0 : Int))) := by unfold resK; rw [if_pos (by have h0 := hqt15_1; have h1 := hqt15_3; omega)]; exact decide_eq_decide.2 (by omega)
      have hA : resA op W = (0 : Int) := by unfold resA; rw [if_pos (by have h0 := hqt15_1; have h1 := hqt15_3; omega)]
      rw [hK, hA, hB, hL]
      exact ⟨rfl, none, 0, hki, Row.nil, hb.grown⟩
    · have hqt15_3b := hqt15_3
      replace hqt15_3 := Bool.eq_false_iff.1 hqt15_3
      try simp only [ne_eq, decide_eq_true_eq, Bool.and_eq_true, Bool.or_eq_true, Bool.not_eq_true', decide_eq_false_iff_not] at hqt15_3
      refine wp_seq_k (fun K8 hK8 => ?_)
      refine wp_region_lit ?_
      refine sqv hf (r_eq rfl rfl) rfl rfl rfl ?_; clear hf fa; intro fa hf
      refine sqv hf (r_assign rfl) rfl rfl rfl ?_; clear hf fa; intro fa hf
      apply wpList_nil
      (try simp only [Exit.then, Exit.inBlock, ↓reduceIte, Nat.reduceEqDiff])
      refine hK8 _ _ ?_
      refine wp_cond_split (t := (decide (((infP op).2.1) = (1 : Int)))) (hf.ev rfl) (fun hqt21_1 => ?_) (fun hqt21_1 => ?_)
      · have hqt21_1b := hqt21_1
        try simp only [decide_eq_true_eq, Bool.and_eq_true, Bool.or_eq_true, Bool.not_eq_true', decide_eq_false_iff_not, ne_eq, Bool.not_eq_true] at hqt21_1
        refine wp_seq_k (fun K9 hK9 => ?_)
        refine wp_region_lit ?_
        refine sqv hf (r_move rfl) rfl rfl rfl ?_; clear hf fa; intro fa hf
        refine sqv hf (r_nilCheck rfl) rfl rfl rfl ?_; clear hf fa; intro fa hf
        refine sqv hf (r_fa rfl Tryd.underlying25 (f := 1) (q := 1) rfl (by kernel_rfl) rfl) rfl rfl rfl ?_; clear hf fa; intro fa hf
        refine sqn hf (d_storeK (T := 25) (v := (.int .u64 (64 : Int))) (cs := #[(.int .u8 ((op : Nat) : Int)), (.int .u64 (0 : Int)), (.int .u64 (0 : Int)), (.slice none 0 0)]) (cs' := #[(.int .u8 ((op : Nat) : Int)), (.int .u64 (64 : Int)), (.int .u64 (0 : Int)), (.slice none 0 0)]) rfl rfl (by kernel_rfl) (by kernel_rfl) hki (by kernel_rfl) (by kernel_rfl)) rfl rfl ?_; clear hf fa; rintro fa _ w2 ⟨hk1, hg1⟩ hf
        replace hb := hb.wrote hg1 hb.size
        apply wpList_nil
        (try simp only [Exit.then, Exit.inBlock, ↓reduceIte, Nat.reduceEqDiff])
        refine hK9 _ _ ?_
        refine wp_seq_k (fun K10 hK10 => ?_)
        refine wp_seq_k (fun K11 hK11 => ?_)
        refine wp_region_lit ?_
        refine sqv hf (r_move rfl) rfl rfl rfl ?_; clear hf fa; intro fa hf
        refine sqv hf (r_lensl rfl Tryd.underlying43) rfl rfl rfl ?_; clear hf fa; intro fa hf
        refine sqv hf (r_eq rfl rfl) rfl rfl rfl ?_; clear hf fa; intro fa hf
        apply wpList_nil
        (try simp only [Exit.then, Exit.inBlock, ↓reduceIte, Nat.reduceEqDiff])
        refine hK11 _ _ ?_
        refine wp_cond_split (t := (decide (((W.length : Nat) : Int) = (1 : Int)))) (hf.ev rfl) (fun hqt28_1 => ?_) (fun hqt28_1 => ?_)
        · have hqt28_1b := hqt28_1
          try simp only [decide_eq_true_eq, Bool.and_eq_true, Bool.or_eq_true, Bool.not_eq_true', decide_eq_false_iff_not, ne_eq, Bool.not_eq_true] at hqt28_1
          refine wp_region_lit ?_
          refine sqv hf (r_move rfl) rfl rfl rfl ?_; clear hf fa; intro fa hf
          refine sqv hf (r_move rfl) rfl rfl rfl ?_; clear hf fa; intro fa hf
          have hy1 : (W)[0]? = some (wd W 0) := (wd_at (by omega))
          obtain ⟨ab1, aoff1, hat1, hlb1, hel1⟩ := RdS.at hl hy1
          have hneab1 : ab1 ≠ bi := hnb _ hat1
          refine sqv hf (r_ixa (sz := 1) (j := 0) (evAt rfl hat1) rfl Tryd.underlying43 (by kernel_rfl) rfl (by omega) rfl) rfl rfl rfl ?_; clear hf fa; intro fa hf
          refine sqv hf (r_load (v := (.string (wd W 0))) rfl Tryd.underlying9 rfl (cellsAt_cell (cellsAt_kb hel1 hb hlb1 hneab1) (i := 0) rfl rfl)) rfl rfl rfl ?_; clear hf fa; intro fa hf
          refine sqdt hf (d_callB (v := (.int .u8 ((bytP (wd W 0))))) (vs := [(.string (wd W 0))]) rfl Tryd.func54 (by kernel_rfl) (by kernel_rfl) (byte_any (wd W 0) _)) rfl rfl rfl ?_; clear hf fa; rintro fa _ w3 ⟨rfl, he2⟩ hf
          replace hk1 := blk_ext hk1 he2
          replace hb := hb.trans (Below.mono he2 hb.size)
          refine sqv hf (r_conv (C := ((bytP (wd W 0)))) rfl Tryd.underlying5 Tryd.underlying22 (by rw [IntKind.wrap_u64]; omega)) rfl rfl rfl ?_; clear hf fa; intro fa hf
          refine sqv hf (r_nilCheck rfl) rfl rfl rfl ?_; clear hf fa; intro fa hf
          refine sqv hf (r_fa rfl Tryd.underlying25 (f := 1) (q := 1) rfl (by kernel_rfl) rfl) rfl rfl rfl ?_; clear hf fa; intro fa hf
          refine sqn hf (d_storeK (T := 25) (v := (.int .u64 ((bytP (wd W 0))))) (cs := #[(.int .u8 ((op : Nat) : Int)), (.int .u64 (64 : Int)), (.int .u64 (0 : Int)), (.slice none 0 0)]) (cs' := #[(.int .u8 ((op : Nat) : Int)), (.int .u64 ((bytP (wd W 0)))), (.int .u64 (0 : Int)), (.slice none 0 0)]) rfl rfl (by kernel_rfl) (by kernel_rfl) hk1 (by kernel_rfl) (by kernel_rfl)) rfl rfl ?_; clear hf fa; rintro fa _ w4 ⟨hk2, hg2⟩ hf
          replace hb := hb.wrote hg2 hb.size
          apply wpList_nil
          (try simp only [Exit.then, Exit.inBlock, ↓reduceIte, Nat.reduceEqDiff])
          refine hK10 _ _ ?_
          refine wp_seq_k (fun K12 hK12 => ?_)
          refine wp_region_lit ?_
          refine sqv hf (r_move rfl) rfl rfl rfl ?_; clear hf fa; intro fa hf
          refine sqv hf (r_lensl rfl Tryd.underlying43) rfl rfl rfl ?_; clear hf fa; intro fa hf
          refine sqv hf (r_le rfl rfl) rfl rfl rfl ?_; clear hf fa; intro fa hf
          refine sqv hf (r_assign rfl) rfl rfl rfl ?_; clear hf fa; intro fa hf
          apply wpList_nil
          (try simp only [Exit.then, Exit.inBlock, ↓reduceIte, Nat.reduceEqDiff])
          refine hK12 _ _ ?_
          refine wp_ret ?_
          (try simp only [Exit.then, Exit.inBlock])
          refine ret1 hf rfl rfl ?_
          have hB : resB op W = 0 := by unfold resB; rw [if_neg (by have h0 := hqt15_1; have h1 := hqt15_3; have h2 := hqt21_1; omega)]
          have hL : resL op W = [] := by unfold resL; rw [if_pos (by have h0 := hqt15_1; have h1 := hqt15_3; have h2 := hqt21_1; omega)]
          have hK : resK op W = (decide (((W.length : Nat) : Int) ≤ (1 : Int))) := by unfold resK; rw [if_neg (by have h0 := hqt15_1; have h1 := hqt15_3; have h2 := hqt21_1; omega), if_pos (by have h0 := hqt15_1; have h1 := hqt15_3; have h2 := hqt21_1; omega)]; exact decide_eq_decide.2 (by omega)
          have hA : resA op W = ((bytP (wd W 0))) := by unfold resA; rw [if_neg (by have h0 := hqt15_1; have h1 := hqt15_3; have h2 := hqt21_1; omega), if_pos (by have h0 := hqt15_1; have h1 := hqt15_3; have h2 := hqt21_1; omega)]; rw [if_pos (by have h := hqt28_1; omega)]
          rw [hK, hA, hB, hL]
          exact ⟨rfl, none, 0, hk2, Row.nil, hb.grown⟩
        · have hqt28_1b := hqt28_1
          replace hqt28_1 := Bool.eq_false_iff.1 hqt28_1
          try simp only [ne_eq, decide_eq_true_eq, Bool.and_eq_true, Bool.or_eq_true, Bool.not_eq_true', decide_eq_false_iff_not] at hqt28_1
          refine wp_skip ?_
          (try simp only [Exit.then, Exit.inBlock, ↓reduceIte, Nat.reduceEqDiff])
          refine hK10 _ _ ?_
          refine wp_seq_k (fun K13 hK13 => ?_)
          refine wp_region_lit ?_
          refine sqv hf (r_move rfl) rfl rfl rfl ?_; clear hf fa; intro fa hf
          refine sqv hf (r_lensl rfl Tryd.underlying43) rfl rfl rfl ?_; clear hf fa; intro fa hf
          refine sqv hf (r_le rfl rfl) rfl rfl rfl ?_; clear hf fa; intro fa hf
          refine sqv hf (r_assign rfl) rfl rfl rfl ?_; clear hf fa; intro fa hf
          apply wpList_nil
          (try simp only [Exit.then, Exit.inBlock, ↓reduceIte, Nat.reduceEqDiff])
          refine hK13 _ _ ?_
          refine wp_ret ?_
          (try simp only [Exit.then, Exit.inBlock])
          refine ret1 hf rfl rfl ?_
          have hB : resB op W = 0 := by unfold resB; rw [if_neg (by have h0 := hqt15_1; have h1 := hqt15_3; have h2 := hqt21_1; omega)]
          have hL : resL op W = [] := by unfold resL; rw [if_pos (by have h0 := hqt15_1; have h1 := hqt15_3; have h2 := hqt21_1; omega)]
          have hK : resK op W = (decide (((W.length : Nat) : Int) ≤ (1 : Int))) := by unfold resK; rw [if_neg (by have h0 := hqt15_1; have h1 := hqt15_3; have h2 := hqt21_1; omega), if_pos (by have h0 := hqt15_1; have h1 := hqt15_3; have h2 := hqt21_1; omega)]; exact decide_eq_decide.2 (by omega)
          have hA : resA op W = (64 : Int) := by unfold resA; rw [if_neg (by have h0 := hqt15_1; have h1 := hqt15_3; have h2 := hqt21_1; omega), if_pos (by have h0 := hqt15_1; have h1 := hqt15_3; have h2 := hqt21_1; omega)]; rw [if_neg (by have h := hqt28_1; omega)]
          rw [hK, hA, hB, hL]
          exact ⟨rfl, none, 0, hk1, Row.nil, hb.grown⟩
      · have hqt21_1b := hqt21_1
        replace hqt21_1 := Bool.eq_false_iff.1 hqt21_1
        try simp only [ne_eq, decide_eq_true_eq, Bool.and_eq_true, Bool.or_eq_true, Bool.not_eq_true', decide_eq_false_iff_not] at hqt21_1
        refine wp_seq_k (fun K14 hK14 => ?_)
        refine wp_region_lit ?_
        refine sqv hf (r_eq rfl rfl) rfl rfl rfl ?_; clear hf fa; intro fa hf
        refine sqv hf (r_assign rfl) rfl rfl rfl ?_; clear hf fa; intro fa hf
        apply wpList_nil
        (try simp only [Exit.then, Exit.inBlock, ↓reduceIte, Nat.reduceEqDiff])
        refine hK14 _ _ ?_
        refine wp_cond_split (t := (decide (((infP op).2.1) = (8 : Int)))) (hf.ev rfl) (fun hqt40_1 => ?_) (fun hqt40_1 => ?_)
        · have hqt40_1b := hqt40_1
          try simp only [decide_eq_true_eq, Bool.and_eq_true, Bool.or_eq_true, Bool.not_eq_true', decide_eq_false_iff_not, ne_eq, Bool.not_eq_true] at hqt40_1
          refine wp_seq_k (fun K15 hK15 => ?_)
          refine wp_region_lit ?_
          refine sqv hf (r_move rfl) rfl rfl rfl ?_; clear hf fa; intro fa hf
          refine sqv hf (r_move rfl) rfl rfl rfl ?_; clear hf fa; intro fa hf
          refine sqdt hf (d_callW (v := (.bool (accK W))) (b := bi) (T := 25) (cs := #[(.int .u8 ((op : Nat) : Int)), (.int .u64 ((accP W).1)), (.int .u64 ((accP W).2)), (.slice none 0 0)]) (vs := [(.pointer (some ⟨bi, 0, none⟩)), (.slice a W.length c)]) rfl Tryd.func55 (by kernel_rfl) (by kernel_rfl) (access_any op bi a W c _ hnb hki (RdS.kb hl hb hnb) hc hn hW hop)) rfl rfl rfl ?_; clear hf fa; rintro fa _ w5 ⟨rfl, hk3, hg3⟩ hf
          replace hb := hb.wrote hg3 hb.size
          refine sqv hf (r_assign rfl) rfl rfl rfl ?_; clear hf fa; intro fa hf
          apply wpList_nil
          (try simp only [Exit.then, Exit.inBlock, ↓reduceIte, Nat.reduceEqDiff])
          refine hK15 _ _ ?_
          refine wp_ret ?_
          (try simp only [Exit.then, Exit.inBlock])
          refine ret1 hf rfl rfl ?_
          have hB : resB op W = (accP W).2 := by unfold resB; rw [if_pos (by have h0 := hqt15_1; have h1 := hqt15_3; have h2 := hqt21_1; have h3 := hqt40_1; omega)]
          have hL : resL op W = [] := by unfold resL; rw [if_pos (by have h0 := hqt15_1; have h1 := hqt15_3; have h2 := hqt21_1; have h3 := hqt40_1; omega)]
          have hK : resK op W = (accK W) := by unfold resK; rw [if_neg (by have h0 := hqt15_1; have h1 := hqt15_3; have h2 := hqt21_1; have h3 := hqt40_1; omega), if_neg (by have h0 := hqt15_1; have h1 := hqt15_3; have h2 := hqt21_1; have h3 := hqt40_1; omega), if_pos (by have h0 := hqt15_1; have h1 := hqt15_3; have h2 := hqt21_1; have h3 := hqt40_1; omega)]
          have hA : resA op W = ((accP W).1) := by unfold resA; rw [if_neg (by have h0 := hqt15_1; have h1 := hqt15_3; have h2 := hqt21_1; have h3 := hqt40_1; omega), if_neg (by have h0 := hqt15_1; have h1 := hqt15_3; have h2 := hqt21_1; have h3 := hqt40_1; omega), if_pos (by have h0 := hqt15_1; have h1 := hqt15_3; have h2 := hqt21_1; have h3 := hqt40_1; omega)]
          rw [hK, hA, hB, hL]
          exact ⟨rfl, none, 0, hk3, Row.nil, hb.grown⟩
        · have hqt40_1b := hqt40_1
          replace hqt40_1 := Bool.eq_false_iff.1 hqt40_1
          try simp only [ne_eq, decide_eq_true_eq, Bool.and_eq_true, Bool.or_eq_true, Bool.not_eq_true', decide_eq_false_iff_not] at hqt40_1
          refine wp_seq_k (fun K16 hK16 => ?_)
          refine wp_region_lit ?_
          refine sqv hf (r_eq rfl rfl) rfl rfl rfl ?_; clear hf fa; intro fa hf
          refine sqv hf (r_assign rfl) rfl rfl rfl ?_; clear hf fa; intro fa hf
          apply wpList_nil
          (try simp only [Exit.then, Exit.inBlock, ↓reduceIte, Nat.reduceEqDiff])
          refine hK16 _ _ ?_
          refine wp_cond_split (t := (decide (((infP op).2.1) = (10 : Int)))) (hf.ev rfl) (fun hqt45_1 => ?_) (fun hqt45_1 => ?_)
          · have hqt45_1b := hqt45_1
            try simp only [decide_eq_true_eq, Bool.and_eq_true, Bool.or_eq_true, Bool.not_eq_true', decide_eq_false_iff_not, ne_eq, Bool.not_eq_true] at hqt45_1
            refine wp_seq_k (fun K17 hK17 => ?_)
            refine wp_region_lit ?_
            refine sqv hf (r_move rfl) rfl rfl rfl ?_; clear hf fa; intro fa hf
            refine sqv hf (r_move rfl) rfl rfl rfl ?_; clear hf fa; intro fa hf
            refine sqdt hf (d_callW (v := (.bool (conP W true).2)) (b := bi) (T := 25) (cs := #[(.int .u8 ((op : Nat) : Int)), (.int .u64 ((conP W true).1)), (.int .u64 (0 : Int)), (.slice none 0 0)]) (vs := [(.pointer (some ⟨bi, 0, none⟩)), (.slice a W.length c), (.bool true)]) rfl Tryd.func56 (by kernel_rfl) (by kernel_rfl) (constant_any op bi a W c true _ hnb hki (RdS.kb hl hb hnb) hc hn hW hop)) rfl rfl rfl ?_; clear hf fa; rintro fa _ w6 ⟨rfl, hk4, hg4⟩ hf
            replace hb := hb.wrote hg4 hb.size
            refine sqv hf (r_assign rfl) rfl rfl rfl ?_; clear hf fa; intro fa hf
            apply wpList_nil
            (try simp only [Exit.then, Exit.inBlock, ↓reduceIte, Nat.reduceEqDiff])
            refine hK17 _ _ ?_
            refine wp_ret ?_
            (try simp only [Exit.then, Exit.inBlock])
            refine ret1 hf rfl rfl ?_
            have hB : resB op W = 0 := by unfold resB; rw [if_neg (by have h0 := hqt15_1; have h1 := hqt15_3; have h2 := hqt21_1; have h3 := hqt40_1; have h4 := hqt45_1; omega)]
            have hL : resL op W = [] := by unfold resL; rw [if_pos (by have h0 := hqt15_1; have h1 := hqt15_3; have h2 := hqt21_1; have h3 := hqt40_1; have h4 := hqt45_1; omega)]
            have hK : resK op W = (conP W true).2 := by unfold resK; rw [if_neg (by have h0 := hqt15_1; have h1 := hqt15_3; have h2 := hqt21_1; have h3 := hqt40_1; have h4 := hqt45_1; omega), if_neg (by have h0 := hqt15_1; have h1 := hqt15_3; have h2 := hqt21_1; have h3 := hqt40_1; have h4 := hqt45_1; omega), if_neg (by have h0 := hqt15_1; have h1 := hqt15_3; have h2 := hqt21_1; have h3 := hqt40_1; have h4 := hqt45_1; omega), if_pos (by have h0 := hqt15_1; have h1 := hqt15_3; have h2 := hqt21_1; have h3 := hqt40_1; have h4 := hqt45_1; omega)]
            have hA : resA op W = ((conP W true).1) := by unfold resA; rw [if_neg (by have h0 := hqt15_1; have h1 := hqt15_3; have h2 := hqt21_1; have h3 := hqt40_1; have h4 := hqt45_1; omega), if_neg (by have h0 := hqt15_1; have h1 := hqt15_3; have h2 := hqt21_1; have h3 := hqt40_1; have h4 := hqt45_1; omega), if_neg (by have h0 := hqt15_1; have h1 := hqt15_3; have h2 := hqt21_1; have h3 := hqt40_1; have h4 := hqt45_1; omega), if_pos (by have h0 := hqt15_1; have h1 := hqt15_3; have h2 := hqt21_1; have h3 := hqt40_1; have h4 := hqt45_1; omega)]
            rw [hK, hA, hB, hL]
            exact ⟨rfl, none, 0, hk4, Row.nil, hb.grown⟩
          · have hqt45_1b := hqt45_1
            replace hqt45_1 := Bool.eq_false_iff.1 hqt45_1
            try simp only [ne_eq, decide_eq_true_eq, Bool.and_eq_true, Bool.or_eq_true, Bool.not_eq_true', decide_eq_false_iff_not] at hqt45_1
            refine wp_seq_k (fun K18 hK18 => ?_)
            refine wp_region_lit ?_
            refine sqv hf (r_eq rfl rfl) rfl rfl rfl ?_; clear hf fa; intro fa hf
            refine sqv hf (r_assign rfl) rfl rfl rfl ?_; clear hf fa; intro fa hf
            apply wpList_nil
            (try simp only [Exit.then, Exit.inBlock, ↓reduceIte, Nat.reduceEqDiff])
            refine hK18 _ _ ?_
            refine wp_cond_split (t := (decide (((infP op).2.1) = (11 : Int)))) (hf.ev rfl) (fun hqt50_1 => ?_) (fun hqt50_1 => ?_)
            · have hqt50_1b := hqt50_1
              try simp only [decide_eq_true_eq, Bool.and_eq_true, Bool.or_eq_true, Bool.not_eq_true', decide_eq_false_iff_not, ne_eq, Bool.not_eq_true] at hqt50_1
              refine wp_seq_k (fun K19 hK19 => ?_)
              refine wp_region_lit ?_
              refine sqv hf (r_move rfl) rfl rfl rfl ?_; clear hf fa; intro fa hf
              refine sqv hf (r_move rfl) rfl rfl rfl ?_; clear hf fa; intro fa hf
              refine sqdt hf (d_callW (v := (.bool (conP W false).2)) (b := bi) (T := 25) (cs := #[(.int .u8 ((op : Nat) : Int)), (.int .u64 ((conP W false).1)), (.int .u64 (0 : Int)), (.slice none 0 0)]) (vs := [(.pointer (some ⟨bi, 0, none⟩)), (.slice a W.length c), (.bool false)]) rfl Tryd.func56 (by kernel_rfl) (by kernel_rfl) (constant_any op bi a W c false _ hnb hki (RdS.kb hl hb hnb) hc hn hW hop)) rfl rfl rfl ?_; clear hf fa; rintro fa _ w7 ⟨rfl, hk5, hg5⟩ hf
              replace hb := hb.wrote hg5 hb.size
              refine sqv hf (r_assign rfl) rfl rfl rfl ?_; clear hf fa; intro fa hf
              apply wpList_nil
              (try simp only [Exit.then, Exit.inBlock, ↓reduceIte, Nat.reduceEqDiff])
              refine hK19 _ _ ?_
              refine wp_ret ?_
              (try simp only [Exit.then, Exit.inBlock])
              refine ret1 hf rfl rfl ?_
              have hB : resB op W = 0 := by unfold resB; rw [if_neg (by have h0 := hqt15_1; have h1 := hqt15_3; have h2 := hqt21_1; have h3 := hqt40_1; have h4 := hqt45_1; have h5 := hqt50_1; omega)]
              have hL : resL op W = [] := by unfold resL; rw [if_pos (by have h0 := hqt15_1; have h1 := hqt15_3; have h2 := hqt21_1; have h3 := hqt40_1; have h4 := hqt45_1; have h5 := hqt50_1; omega)]
              have hK : resK op W = (conP W false).2 := by unfold resK; rw [if_neg (by have h0 := hqt15_1; have h1 := hqt15_3; have h2 := hqt21_1; have h3 := hqt40_1; have h4 := hqt45_1; have h5 := hqt50_1; omega), if_neg (by have h0 := hqt15_1; have h1 := hqt15_3; have h2 := hqt21_1; have h3 := hqt40_1; have h4 := hqt45_1; have h5 := hqt50_1; omega), if_neg (by have h0 := hqt15_1; have h1 := hqt15_3; have h2 := hqt21_1; have h3 := hqt40_1; have h4 := hqt45_1; have h5 := hqt50_1; omega), if_neg (by have h0 := hqt15_1; have h1 := hqt15_3; have h2 := hqt21_1; have h3 := hqt40_1; have h4 := hqt45_1; have h5 := hqt50_1; omega), if_pos (by have h0 := hqt15_1; have h1 := hqt15_3; have h2 := hqt21_1; have h3 := hqt40_1; have h4 := hqt45_1; have h5 := hqt50_1; omega)]
              have hA : resA op W = ((conP W false).1) := by unfold resA; rw [if_neg (by have h0 := hqt15_1; have h1 := hqt15_3; have h2 := hqt21_1; have h3 := hqt40_1; have h4 := hqt45_1; have h5 := hqt50_1; omega), if_neg (by have h0 := hqt15_1; have h1 := hqt15_3; have h2 := hqt21_1; have h3 := hqt40_1; have h4 := hqt45_1; have h5 := hqt50_1; omega), if_neg (by have h0 := hqt15_1; have h1 := hqt15_3; have h2 := hqt21_1; have h3 := hqt40_1; have h4 := hqt45_1; have h5 := hqt50_1; omega), if_neg (by have h0 := hqt15_1; have h1 := hqt15_3; have h2 := hqt21_1; have h3 := hqt40_1; have h4 := hqt45_1; have h5 := hqt50_1; omega), if_pos (by have h0 := hqt15_1; have h1 := hqt15_3; have h2 := hqt21_1; have h3 := hqt40_1; have h4 := hqt45_1; have h5 := hqt50_1; omega)]
              rw [hK, hA, hB, hL]
              exact ⟨rfl, none, 0, hk5, Row.nil, hb.grown⟩
            · have hqt50_1b := hqt50_1
              replace hqt50_1 := Bool.eq_false_iff.1 hqt50_1
              try simp only [ne_eq, decide_eq_true_eq, Bool.and_eq_true, Bool.or_eq_true, Bool.not_eq_true', decide_eq_false_iff_not] at hqt50_1
              refine wp_skip ?_
              (try simp only [Exit.then, Exit.inBlock, ↓reduceIte, Nat.reduceEqDiff])
              refine hK2 _ _ ?_
              refine wp_seq_k (fun K20 hK20 => ?_)
              refine wp_region_lit ?_
              refine sqv hf (r_move rfl) rfl rfl rfl ?_; clear hf fa; intro fa hf
              refine sqdt hf (d_callX (vs := [(.slice a W.length c)]) rfl Tryd.func57 (by kernel_rfl) (by kernel_rfl) (numbers_any a W c _ (RdS.kb hl hb hnb) hc hn hW)) rfl rfl rfl ?_; clear hf fa; rintro fa _ w8 ⟨ra1, rc1, rfl, hr1, he3⟩ hf
              replace hr1 := Row.rebase hr1 hb.size
              replace hki := blk_ext hki he3
              replace hb := hb.trans (Below.mono he3 hb.size)
              have hchr1 := Row.caps hr1
              refine sqv hf (r_move rfl) rfl rfl rfl ?_; clear hf fa; intro fa hf
              refine sqv hf (r_extract rfl (i := 0) rfl) rfl rfl rfl ?_; clear hf fa; intro fa hf
              refine sqv hf (r_extract rfl (i := 1) rfl) rfl rfl rfl ?_; clear hf fa; intro fa hf
              refine sqv hf (r_assign rfl) rfl rfl rfl ?_; clear hf fa; intro fa hf
              refine sqv hf (r_assign rfl) rfl rfl rfl ?_; clear hf fa; intro fa hf
              apply wpList_nil
              (try simp only [Exit.then, Exit.inBlock, ↓reduceIte, Nat.reduceEqDiff])
              refine hK20 _ _ ?_
              refine wp_seq_k (fun K21 hK21 => ?_)
              refine wp_seq_k (fun K22 hK22 => ?_)
              refine wp_region_lit ?_
              refine sqv hf (r_move rfl) rfl rfl rfl ?_; clear hf fa; intro fa hf
              refine sqv hf (r_not rfl) rfl rfl rfl ?_; clear hf fa; intro fa hf
              refine sqv hf (r_move rfl) rfl rfl rfl ?_; clear hf fa; intro fa hf
              refine sqgF (act := (!(!(nbsP W).2))) (ag := true) (c := (!(nbsP W).2)) (v := (.slice ra1 (((nbsP W).1.length)) rc1)) hf rfl rfl rfl (fun hact => (r_move rfl)) rfl rfl ?_; clear hf fa; intro fa hf
              refine sqgF (act := (!(!(nbsP W).2))) (ag := true) (c := (!(nbsP W).2)) (v := (.int .i64 ((((nbsP W).1.length) : Nat) : Int))) hf rfl rfl rfl (fun hact => (r_lensl (gb_ev hact rfl) Tryd.underlying91)) rfl rfl ?_; clear hf fa; intro fa hf
              refine sqgF (act := (!(!(nbsP W).2))) (ag := true) (c := (!(nbsP W).2)) (v := (.bool (decide (((((nbsP W).1.length) : Nat) : Int) = (0 : Int))))) hf rfl rfl rfl (fun hact => (r_eq (gb_ev hact rfl) rfl)) rfl rfl ?_; clear hf fa; intro fa hf
              refine sqv hf (r_pickO (b := (!(nbsP W).2)) (e := (decide (((((nbsP W).1.length) : Nat) : Int) = (0 : Int)))) rfl rfl rfl) rfl rfl rfl ?_; clear hf fa; intro fa hf
              refine sqv hf (r_move rfl) rfl rfl rfl ?_; clear hf fa; intro fa hf
              refine sqgF (act := (!((!(nbsP W).2) || (decide (((((nbsP W).1.length) : Nat) : Int) = (0 : Int)))))) (ag := true) (c := ((!(nbsP W).2) || (decide (((((nbsP W).1.length) : Nat) : Int) = (0 : Int))))) (v := (.slice ra1 (((nbsP W).1.length)) rc1)) hf rfl rfl rfl (fun hact => (r_move rfl)) rfl rfl ?_; clear hf fa; intro fa hf
              refine sqgF (act := (!((!(nbsP W).2) || (decide (((((nbsP W).1.length) : Nat) : Int) = (0 : Int)))))) (ag := true) (c := ((!(nbsP W).2) || (decide (((((nbsP W).1.length) : Nat) : Int) = (0 : Int))))) (v := (.int .i64 ((((nbsP W).1.length) : Nat) : Int))) hf rfl rfl rfl (fun hact => (r_lensl (gb_ev hact rfl) Tryd.underlying91)) rfl rfl ?_; clear hf fa; intro fa hf
              refine sqgF (act := (!((!(nbsP W).2) || (decide (((((nbsP W).1.length) : Nat) : Int) = (0 : Int)))))) (ag := true) (c := ((!(nbsP W).2) || (decide (((((nbsP W).1.length) : Nat) : Int) = (0 : Int))))) (v := (.bool (decide ((1 : Int) < ((((nbsP W).1.length) : Nat) : Int))))) hf rfl rfl rfl (fun hact => (r_gt (gb_ev hact rfl) rfl)) rfl rfl ?_; clear hf fa; intro fa hf
              refine sqgF (act := (!((!(nbsP W).2) || (decide (((((nbsP W).1.length) : Nat) : Int) = (0 : Int)))))) (ag := true) (c := ((!(nbsP W).2) || (decide (((((nbsP W).1.length) : Nat) : Int) = (0 : Int))))) (v := (.bool (decide ((1 : Int) < ((((nbsP W).1.length) : Nat) : Int))))) hf rfl rfl rfl (fun hact => (r_move (gb_ev hact rfl))) rfl rfl ?_; clear hf fa; intro fa hf
              refine sqgT (act := ((!((!(nbsP W).2) || (decide (((((nbsP W).1.length) : Nat) : Int) = (0 : Int))))) && (decide ((1 : Int) < ((((nbsP W).1.length) : Nat) : Int))))) (ag := (!((!(nbsP W).2) || (decide (((((nbsP W).1.length) : Nat) : Int) = (0 : Int)))))) (c := (decide ((1 : Int) < ((((nbsP W).1.length) : Nat) : Int)))) (v := (.pointer (some ⟨bi, 0, none⟩))) hf rfl rfl rfl (fun hact => (r_move rfl)) rfl rfl ?_; clear hf fa; intro fa hf
              refine sqgT (act := ((!((!(nbsP W).2) || (decide (((((nbsP W).1.length) : Nat) : Int) = (0 : Int))))) && (decide ((1 : Int) < ((((nbsP W).1.length) : Nat) : Int))))) (ag := (!((!(nbsP W).2) || (decide (((((nbsP W).1.length) : Nat) : Int) = (0 : Int)))))) (c := (decide ((1 : Int) < ((((nbsP W).1.length) : Nat) : Int)))) (v := (.pointer (some ⟨bi, 0, none⟩))) hf rfl rfl rfl (fun hact => (r_nilCheck (gb_ev hact rfl))) rfl rfl ?_; clear hf fa; intro fa hf
              refine sqgT (act := ((!((!(nbsP W).2) || (decide (((((nbsP W).1.length) : Nat) : Int) = (0 : Int))))) && (decide ((1 : Int) < ((((nbsP W).1.length) : Nat) : Int))))) (ag := (!((!(nbsP W).2) || (decide (((((nbsP W).1.length) : Nat) : Int) = (0 : Int)))))) (c := (decide ((1 : Int) < ((((nbsP W).1.length) : Nat) : Int)))) (v := (.pointer (some ⟨bi, 0, none⟩))) hf rfl rfl rfl (fun hact => (r_fa (gb_ev hact rfl) Tryd.underlying25 (f := 0) (q := 0) rfl (by kernel_rfl) rfl)) rfl rfl ?_; clear hf fa; intro fa hf
              refine sqgT (act := ((!((!(nbsP W).2) || (decide (((((nbsP W).1.length) : Nat) : Int) = (0 : Int))))) && (decide ((1 : Int) < ((((nbsP W).1.length) : Nat) : Int))))) (ag := (!((!(nbsP W).2) || (decide (((((nbsP W).1.length) : Nat) : Int) = (0 : Int)))))) (c := (decide ((1 : Int) < ((((nbsP W).1.length) : Nat) : Int)))) (v := (.int .u8 ((op : Nat) : Int))) hf rfl rfl rfl (fun hact => (r_load (v := (.int .u8 ((op : Nat) : Int))) (gb_ev hact rfl) Tryd.underlying5 rfl (cell_blk hki rfl))) rfl rfl ?_; clear hf fa; intro fa hf
              refine sqgd (R := fun vq wq => vq = gb ((!((!(nbsP W).2) || (decide (((((nbsP W).1.length) : Nat) : Int) = (0 : Int))))) && (decide ((1 : Int) < ((((nbsP W).1.length) : Nat) : Int)))) (.agg #[(.string (infP op).1), (.int .i64 ((infP op).2.1)), (.string (infP op).2.2.1), (.string (infP op).2.2.2.1), (.bool (infP op).2.2.2.2.1)]) ∧ Below w8.heap.size w8 wq) (act := ((!((!(nbsP W).2) || (decide (((((nbsP W).1.length) : Nat) : Int) = (0 : Int))))) && (decide ((1 : Int) < ((((nbsP W).1.length) : Nat) : Int))))) (g := 11) (want := true) (ag := (!((!(nbsP W).2) || (decide (((((nbsP W).1.length) : Nat) : Int) = (0 : Int)))))) (c := (decide ((1 : Int) < ((((nbsP W).1.length) : Nat) : Int)))) hf (by rfl) (by rfl) (act_T _ _) (fun hact => (d_callB (vs := [(.int .u8 ((op : Nat) : Int))]) (cons_ev (gb_ev hact rfl) rfl) Tryd.func20 (by kernel_rfl) (by kernel_rfl) (inf_any op _ hop)).mono (fun _ _ h => ⟨by rw [h.1, hact]; rfl, h.2⟩)) (fun h => ⟨by rw [h]; rfl, Below.refl _ _⟩) rfl ?_; clear hf fa; rintro fa _ w9 ⟨rfl, he4⟩ hf
              replace hki := blk_ext hki he4
              replace hr1 := Row.ext hr1 he4
              replace hb := hb.trans (Below.mono he4 hb.size)
              change Fr _ _ ((76, (gb ((!((!(nbsP W).2) || (decide (((((nbsP W).1.length) : Nat) : Int) = (0 : Int))))) && (decide ((1 : Int) < ((((nbsP W).1.length) : Nat) : Int)))) (.agg #[(.string (infP op).1), (.int .i64 ((infP op).2.1)), (.string (infP op).2.2.1), (.string (infP op).2.2.2.1), (.bool (infP op).2.2.2.2.1)]))) :: _) at hf
              refine sqgT (act := ((!((!(nbsP W).2) || (decide (((((nbsP W).1.length) : Nat) : Int) = (0 : Int))))) && (decide ((1 : Int) < ((((nbsP W).1.length) : Nat) : Int))))) (ag := (!((!(nbsP W).2) || (decide (((((nbsP W).1.length) : Nat) : Int) = (0 : Int)))))) (c := (decide ((1 : Int) < ((((nbsP W).1.length) : Nat) : Int)))) (v := (.int .i64 ((infP op).2.1))) hf rfl rfl rfl (fun hact => (r_field (cs := #[(.string (infP op).1), (.int .i64 ((infP op).2.1)), (.string (infP op).2.2.1), (.string (infP op).2.2.2.1), (.bool (infP op).2.2.2.2.1)]) (v := (.int .i64 ((infP op).2.1))) (gb_ev hact rfl) (fun _ => by kernel_rfl))) rfl rfl ?_; clear hf fa; intro fa hf
              refine sqgT (act := ((!((!(nbsP W).2) || (decide (((((nbsP W).1.length) : Nat) : Int) = (0 : Int))))) && (decide ((1 : Int) < ((((nbsP W).1.length) : Nat) : Int))))) (ag := (!((!(nbsP W).2) || (decide (((((nbsP W).1.length) : Nat) : Int) = (0 : Int)))))) (c := (decide ((1 : Int) < ((((nbsP W).1.length) : Nat) : Int)))) (v := (.bool (decide (((infP op).2.1) ≠ (3 : Int))))) hf rfl rfl rfl (fun hact => (r_ne (gb_ev hact rfl) rfl)) rfl rfl ?_; clear hf fa; intro fa hf
              refine sqgF (act := (!((!(nbsP W).2) || (decide (((((nbsP W).1.length) : Nat) : Int) = (0 : Int)))))) (ag := true) (c := ((!(nbsP W).2) || (decide (((((nbsP W).1.length) : Nat) : Int) = (0 : Int))))) (v := (.bool ((decide ((1 : Int) < ((((nbsP W).1.length) : Nat) : Int))) && (decide (((infP op).2.1) ≠ (3 : Int)))))) hf rfl rfl rfl (fun hact => (r_pickA2 (q := (!((!(nbsP W).2) || (decide (((((nbsP W).1.length) : Nat) : Int) = (0 : Int)))))) (b := (decide ((1 : Int) < ((((nbsP W).1.length) : Nat) : Int)))) (e := (decide (((infP op).2.1) ≠ (3 : Int)))) hact rfl rfl rfl)) rfl rfl ?_; clear hf fa; intro fa hf
              refine sqv hf (r_pickO (b := ((!(nbsP W).2) || (decide (((((nbsP W).1.length) : Nat) : Int) = (0 : Int))))) (e := ((decide ((1 : Int) < ((((nbsP W).1.length) : Nat) : Int))) && (decide (((infP op).2.1) ≠ (3 : Int))))) rfl rfl rfl) rfl rfl rfl ?_; clear hf fa; intro fa hf
              apply wpList_nil
              (try simp only [Exit.then, Exit.inBlock, ↓reduceIte, Nat.reduceEqDiff])
              refine hK22 _ _ ?_
              refine wp_cond_split (t := (((!(nbsP W).2) || (decide (((((nbsP W).1.length) : Nat) : Int) = (0 : Int)))) || ((decide ((1 : Int) < ((((nbsP W).1.length) : Nat) : Int))) && (decide (((infP op).2.1) ≠ (3 : Int)))))) (hf.ev rfl) (fun hqt80_1 => ?_) (fun hqt80_1 => ?_)
              · have hqt80_1b := hqt80_1
                try simp only [decide_eq_true_eq, Bool.and_eq_true, Bool.or_eq_true, Bool.not_eq_true', decide_eq_false_iff_not, ne_eq, Bool.not_eq_true] at hqt80_1
                refine wp_seq_k (fun K23 hK23 => ?_)
                refine wp_region_lit ?_
                refine sqv hf (r_assign rfl) rfl rfl rfl ?_; clear hf fa; intro fa hf
                apply wpList_nil
                (try simp only [Exit.then, Exit.inBlock, ↓reduceIte, Nat.reduceEqDiff])
                refine hK23 _ _ ?_
                refine wp_ret ?_
                (try simp only [Exit.then, Exit.inBlock])
                refine ret1 hf rfl rfl ?_
                have h8 : lblK op W = false := lblK_no hqt80_1
                have hB : resB op W = 0 := by unfold resB; rw [if_neg (by have h0 := hqt15_1; have h1 := hqt15_3; have h2 := hqt21_1; have h3 := hqt40_1; have h4 := hqt45_1; have h5 := hqt50_1; omega)]
                have hK : resK op W = false := by unfold resK; rw [if_neg (by have h0 := hqt15_1; have h1 := hqt15_3; have h2 := hqt21_1; have h3 := hqt40_1; have h4 := hqt45_1; have h5 := hqt50_1; omega), if_neg (by have h0 := hqt15_1; have h1 := hqt15_3; have h2 := hqt21_1; have h3 := hqt40_1; have h4 := hqt45_1; have h5 := hqt50_1; omega), if_neg (by have h0 := hqt15_1; have h1 := hqt15_3; have h2 := hqt21_1; have h3 := hqt40_1; have h4 := hqt45_1; have h5 := hqt50_1; omega), if_neg (by have h0 := hqt15_1; have h1 := hqt15_3; have h2 := hqt21_1; have h3 := hqt40_1; have h4 := hqt45_1; have h5 := hqt50_1; omega), if_neg (by have h0 := hqt15_1; have h1 := hqt15_3; have h2 := hqt21_1; have h3 := hqt40_1; have h4 := hqt45_1; have h5 := hqt50_1; omega)]; exact h8
                have hA : resA op W = (0 : Int) := by unfold resA; rw [if_neg (by have h0 := hqt15_1; have h1 := hqt15_3; have h2 := hqt21_1; have h3 := hqt40_1; have h4 := hqt45_1; have h5 := hqt50_1; omega), if_neg (by have h0 := hqt15_1; have h1 := hqt15_3; have h2 := hqt21_1; have h3 := hqt40_1; have h4 := hqt45_1; have h5 := hqt50_1; omega), if_neg (by have h0 := hqt15_1; have h1 := hqt15_3; have h2 := hqt21_1; have h3 := hqt40_1; have h4 := hqt45_1; have h5 := hqt50_1; omega), if_neg (by have h0 := hqt15_1; have h1 := hqt15_3; have h2 := hqt21_1; have h3 := hqt40_1; have h4 := hqt45_1; have h5 := hqt50_1; omega), if_neg (by have h0 := hqt15_1; have h1 := hqt15_3; have h2 := hqt21_1; have h3 := hqt40_1; have h4 := hqt45_1; have h5 := hqt50_1; omega)]; rw [if_neg (by rw [h8]; decide)]
                have hL : resL op W = [] := by unfold resL; rw [if_neg (by have h0 := hqt15_1; have h1 := hqt15_3; have h2 := hqt21_1; have h3 := hqt40_1; have h4 := hqt45_1; have h5 := hqt50_1; omega), if_neg (by rw [h8]; decide)]
                rw [hK, hA, hB, hL]
                exact ⟨rfl, _, _, hki, Row.nil, hb.grown⟩
              · have hqt80_1b := hqt80_1
                replace hqt80_1 := Bool.eq_false_iff.1 hqt80_1
                try simp only [ne_eq, decide_eq_true_eq, Bool.and_eq_true, Bool.or_eq_true, Bool.not_eq_true', decide_eq_false_iff_not] at hqt80_1
                refine wp_skip ?_
                (try simp only [Exit.then, Exit.inBlock, ↓reduceIte, Nat.reduceEqDiff])
                refine hK21 _ _ ?_
                refine wp_seq_k (fun K24 hK24 => ?_)
                refine wp_region_lit ?_
                refine sqv hf (r_move rfl) rfl rfl rfl ?_; clear hf fa; intro fa hf
                refine sqv hf (r_move rfl) rfl rfl rfl ?_; clear hf fa; intro fa hf
                refine sqv hf (r_move rfl) rfl rfl rfl ?_; clear hf fa; intro fa hf
                refine sqv hf (r_lensl rfl Tryd.underlying91) rfl rfl rfl ?_; clear hf fa; intro fa hf
                refine sqv hf (r_sub (C := (((((nbsP W).1.length) : Nat) : Int) - (1 : Int))) rfl rfl (by rw [IntKind.wrap_i64]; omega)) rfl rfl rfl ?_; clear hf fa; intro fa hf
                obtain ⟨rb1, rfl, hbbrb1, hlbrb1⟩ := Row.some hr1 (by first | omega | (simp only [Sl.list_length, List.length_set, List.length_take, List.length_append, List.length_replicate, List.length_cons, List.length_nil, List.length_map, nums_len]; omega))
                have hy2 : ((nbsP W).1)[((((nbsP W).1.length)) - 1)]? = some ((nbsP W).1.getD ((((nbsP W).1.length)) - 1) 0) := (getD_int (by omega))
                have hel2 := RdS.at (Row.rd (by intros; rfl) hr1) hy2
                obtain ⟨_, _, hab, hlr1, hel2⟩ := hel2
                cases hab
                refine sqv hf (r_ixa (sz := 1) (j := ((((nbsP W).1.length)) - 1)) rfl rfl Tryd.underlying91 (by kernel_rfl) (by omega) (by omega) rfl) rfl rfl rfl ?_; clear hf fa; intro fa hf
                refine sqv hf (r_load (v := (.int .u64 (((nbsP W).1.getD ((((nbsP W).1.length)) - 1) 0)))) rfl Tryd.underlying22 rfl (cellsAt_cell hel2 (i := 0) rfl rfl)) rfl rfl rfl ?_; clear hf fa; intro fa hf
                refine sqv hf (r_nilCheck rfl) rfl rfl rfl ?_; clear hf fa; intro fa hf
                refine sqv hf (r_fa rfl Tryd.underlying25 (f := 1) (q := 1) rfl (by kernel_rfl) rfl) rfl rfl rfl ?_; clear hf fa; intro fa hf
                refine sqn hf (d_storeK (T := 25) (v := (.int .u64 (((nbsP W).1.getD ((((nbsP W).1.length)) - 1) 0)))) (cs := #[(.int .u8 ((op : Nat) : Int)), (.int .u64 (0 : Int)), (.int .u64 (0 : Int)), (.slice none 0 0)]) (cs' := #[(.int .u8 ((op : Nat) : Int)), (.int .u64 (((nbsP W).1.getD ((((nbsP W).1.length)) - 1) 0))), (.int .u64 (0 : Int)), (.slice none 0 0)]) rfl rfl (by kernel_rfl) (by kernel_rfl) hki (by kernel_rfl) (by kernel_rfl)) rfl rfl ?_; clear hf fa; rintro fa _ w10 ⟨hk6, hg6⟩ hf
                replace hr1 := Row.grown hr1 hg6 (Row.ne_type hr1 hki rfl)
                replace hb := hb.wrote hg6 hb.size
                apply wpList_nil
                (try simp only [Exit.then, Exit.inBlock, ↓reduceIte, Nat.reduceEqDiff])
                refine hK24 _ _ ?_
                refine wp_seq_k (fun K25 hK25 => ?_)
                refine wp_seq_k (fun K26 hK26 => ?_)
                refine wp_region_lit ?_
                refine sqv hf (r_move rfl) rfl rfl rfl ?_; clear hf fa; intro fa hf
                refine sqv hf (r_move rfl) rfl rfl rfl ?_; clear hf fa; intro fa hf
                refine sqv hf (r_lensl rfl Tryd.underlying91) rfl rfl rfl ?_; clear hf fa; intro fa hf
                refine sqv hf (r_sub (C := (((((nbsP W).1.length) : Nat) : Int) - (1 : Int))) rfl rfl (by rw [IntKind.wrap_i64]; omega)) rfl rfl rfl ?_; clear hf fa; intro fa hf
                refine sqv hf (r_slto (m := ((((nbsP W).1.length)) - 1)) rfl rfl Tryd.underlying91 (by kernel_rfl) (by omega) (by omega)) rfl rfl rfl ?_; clear hf fa; intro fa hf
                have hr2 := Row.cut (m := ((((nbsP W).1.length)) - 1)) (by intros; rfl) hr1 (Row.caps hr1).1 (by (try simp only [Sl.list_length]); omega) (by (try simp only [Sl.list_length]); omega)
                refine sqv hf (r_lensl rfl Tryd.underlying91) rfl rfl rfl ?_; clear hf fa; intro fa hf
                refine sqv hf (r_move rfl) rfl rfl rfl ?_; clear hf fa; intro fa hf
                apply wpList_nil
                (try simp only [Exit.then, Exit.inBlock, ↓reduceIte, Nat.reduceEqDiff])
                refine hK26 _ _ ?_
                refine wp_block ?_
                refine wp_loop_k (fun mq fa wr => ∃ (k : Nat) (roa : Option Addr) (roc : Nat), mq = ((nbsP W).1.length - 1) - k ∧ Fr 112 fa [(0, (.pointer (some ⟨bi, 0, none⟩))), (94, (.slice (some ⟨rb1, 0, none⟩) (((((nbsP W).1.length)) - 1)) rc1)), (95, (.int .i64 ((((((nbsP W).1.length)) - 1) : Nat) : Int))), (96, (.int .i64 ((k : Nat) : Int)))] ∧ KB bi w.heap.size w wr ∧ Row 1 (vInt .u32) 62 (w.heap.size) wr (.slice roa ((((((nbsP W).1).take ((((nbsP W).1.length)) - 1)).take k)).length) roc) ((((nbsP W).1).take ((((nbsP W).1.length)) - 1)).take k) ∧ Row 1 (vInt .u64) 22 (w.heap.size) wr (.slice (some ⟨rb1, 0, none⟩) ((((((nbsP W).1.length)) - 1))) rc1) (((nbsP W).1).take ((((nbsP W).1.length)) - 1)) ∧ wr.heap[bi]? = some (.cells #[(.int .u8 ((op : Nat) : Int)), (.int .u64 (((nbsP W).1.getD ((((nbsP W).1.length)) - 1) 0))), (.int .u64 (0 : Int)), (.slice roa (((((nbsP W).1).take ((((nbsP W).1.length)) - 1)).take k).length) roc)] 25 (0, 0)) ∧ (k ≤ ((nbsP W).1.length - 1))) ?_ ?_
                · skip
                  exact ⟨_, 0, none, 0, rfl, hf.sub ⟨rfl, rfl, rfl, (some_int (by first | rfl | omega)), trivial⟩, hb, Row.nil, hr2, hk6, by omega⟩
                · skip
                  clear hf fa; intro mq1 fa w11 hI KL1 hKL1
                  clear hb
                  clear hk6
                  clear hr2
                  obtain ⟨k, roa, roc, hmq1, hf, hb, hro, hra1, hkbi, hk⟩ := hI
                  have hcro := Row.caps hro
                  have hcra1 := Row.caps hra1
                  have hol : ((((nbsP W).1).take ((((nbsP W).1.length)) - 1)).take k).length ≤ 200000 := by rw [List.length_take, List.length_take]; omega
                  refine wp_seq_k (fun K27 hK27 => ?_)
                  refine wp_region_lit ?_
                  refine sqv hf (r_lt rfl rfl) rfl rfl rfl ?_; clear hf fa; intro fa hf
                  apply wpList_nil
                  (try simp only [Exit.then, Exit.inBlock, ↓reduceIte, Nat.reduceEqDiff])
                  refine hK27 _ _ ?_
                  refine wp_seq_k (fun K28 hK28 => ?_)
                  refine wp_cond_split (t := (decide (((k : Nat) : Int) < ((((((nbsP W).1.length)) - 1) : Nat) : Int)))) (hf.ev rfl) (fun hqt97_1 => ?_) (fun hqt97_1 => ?_)
                  · have hqt97_1b := hqt97_1
                    try simp only [decide_eq_true_eq, Bool.and_eq_true, Bool.or_eq_true, Bool.not_eq_true', decide_eq_false_iff_not, ne_eq, Bool.not_eq_true] at hqt97_1
                    refine wp_skip ?_
                    (try simp only [Exit.then, Exit.inBlock, ↓reduceIte, Nat.reduceEqDiff])
                    refine hK28 _ _ ?_
                    refine wp_seq_k (fun K29 hK29 => ?_)
                    refine wp_block ?_
                    refine wp_seq_k (fun K30 hK30 => ?_)
                    obtain ⟨y, hy⟩ : ∃ y, (((nbsP W).1).take ((((nbsP W).1.length)) - 1))[k]? = some y := ⟨_, List.getElem?_eq_getElem (by rw [List.length_take]; omega)⟩
                    have hyr := nbs_rng W y (List.mem_of_mem_take (List.mem_of_getElem? hy))
                    refine wp_region_lit ?_
                    have hy3 : ((((nbsP W).1).take ((((nbsP W).1.length)) - 1)))[k]? = some y := hy
                    have hel3 := RdS.at (Row.rd (by intros; rfl) hra1) hy3
                    obtain ⟨_, _, hab, hlr2, hel3⟩ := hel3
                    cases hab
                    refine sqv hf (r_ixa (sz := 1) (j := k) rfl rfl Tryd.underlying91 (by kernel_rfl) rfl (by omega) rfl) rfl rfl rfl ?_; clear hf fa; intro fa hf
                    refine sqv hf (r_load (v := (.int .u64 y)) rfl Tryd.underlying22 rfl (cellsAt_cell hel3 (i := 0) rfl rfl)) rfl rfl rfl ?_; clear hf fa; intro fa hf
                    refine sqv hf (r_assign rfl) rfl rfl rfl ?_; clear hf fa; intro fa hf
                    apply wpList_nil
                    (try simp only [Exit.then, Exit.inBlock, ↓reduceIte, Nat.reduceEqDiff])
                    refine hK30 _ _ ?_
                    refine wp_region_lit ?_
                    refine sqv hf (r_move rfl) rfl rfl rfl ?_; clear hf fa; intro fa hf
                    refine sqv hf (r_move rfl) rfl rfl rfl ?_; clear hf fa; intro fa hf
                    refine sqv hf (r_nilCheck rfl) rfl rfl rfl ?_; clear hf fa; intro fa hf
                    refine sqv hf (r_fa rfl Tryd.underlying25 (f := 3) (q := 3) rfl (by kernel_rfl) rfl) rfl rfl rfl ?_; clear hf fa; intro fa hf
                    refine sqv hf (r_load (v := (.slice roa (((((nbsP W).1).take ((((nbsP W).1.length)) - 1)).take k).length) roc)) rfl Tryd.underlying23 rfl (cell_blk hkbi rfl)) rfl rfl rfl ?_; clear hf fa; intro fa hf
                    refine sqv hf (r_move rfl) rfl rfl rfl ?_; clear hf fa; intro fa hf
                    refine sqv hf (r_conv (C := y) rfl Tryd.underlying22 Tryd.underlying62 (by rw [IntKind.wrap_u32]; omega)) rfl rfl rfl ?_; clear hf fa; intro fa hf
                    refine sqdt hf (d_bslice (z := (.int .u32 (0 : Int))) (sz := 1) (vs := [(0, (.int .u32 y))]) (cs := #[(.int .u32 y)]) rfl Tryd.underlying23 (by kernel_rfl) rfl (by kernel_rfl)) rfl rfl rfl ?_; clear hf fa; rintro fa _ w12 ⟨b1, rfl, hle1, hk7, he5⟩ hf
                    have hBb1 : w.heap.size ≤ b1 := Nat.le_trans hb.size hle1
                    have : bi < b1 := Nat.lt_of_lt_of_le (blk_lt hkbi) hle1
                    have hnr1 : (Value.slice roa (((((((nbsP W).1).take ((((nbsP W).1.length)) - 1)).take k)).length)) roc).ownBlock ≠ some b1 := fun hq => by have := (Row.lt hro _ hq).2; omega
                    have hnl1 : ∀ q, (Value.slice roa (((((((nbsP W).1).take ((((nbsP W).1.length)) - 1)).take k)).length)) roc).ownBlock = some q → q < b1 := fun q hq => Nat.lt_of_lt_of_le (Row.lt hro q hq).2 hle1
                    have : rb1 < b1 := Nat.lt_of_lt_of_le (Row.lt hra1 _ rfl).2 hle1
                    replace hkbi := blk_ext hkbi he5
                    replace hro := Row.ext hro he5
                    replace hra1 := Row.ext hra1 he5
                    replace hb := hb.trans (Below.mono he5 hb.size)
                    have hs1 := Row.rd (by intros; rfl) (Row.of_new (k := 1) (V := (vInt .u32)) (l := [y]) hk7 (Nat.le_refl _) rfl rfl (Nat.le_of_ble_eq_true rfl))
                    refine sqdt hf (d_append (V := (vInt .u32)) (k := 1) (e := 62) (bytes := 4) (z := (.int .u32 (0 : Int))) (news := [y]) (base := w.heap.size) (by intros; rfl) (by intro x u hu; simp only [vInt, List.mem_singleton] at hu; subst hu; rfl) rfl rfl Tryd.underlying23 (by kernel_rfl) rfl rfl rfl hro hs1 rfl (fun h => by cases h) (by first | omega | (simp only [List.length_cons, List.length_nil, List.length_append, nums_len]; omega)) (by have := hb.size; omega)) rfl rfl rfl ?_; clear hf fa; rintro fa v w13 ⟨hr3, hg7⟩ hf; obtain ⟨ra2, rc2, rfl, hcrc2, hmrc2⟩ := Row.slice hr3
                    replace hkbi := blk_row' hkbi hg7 (Row.ne_type hro hkbi rfl)
                    replace hra1 := Row.grown' hra1 hg7 (Row.ne_row hra1 hro rfl)
                    replace hb := hb.trans (row_below hro hg7 hb.size (by have := hb.size; omega))
                    refine sqv hf (r_nilCheck rfl) rfl rfl rfl ?_; clear hf fa; intro fa hf
                    refine sqv hf (r_fa rfl Tryd.underlying25 (f := 3) (q := 3) rfl (by kernel_rfl) rfl) rfl rfl rfl ?_; clear hf fa; intro fa hf
                    refine sqn hf (d_storeK (T := 25) (v := (.slice ra2 (((((((nbsP W).1).take ((((nbsP W).1.length)) - 1)).take k) ++ [y])).length) rc2)) (cs := #[(.int .u8 ((op : Nat) : Int)), (.int .u64 (((nbsP W).1.getD ((((nbsP W).1.length)) - 1) 0))), (.int .u64 (0 : Int)), (.slice roa (((((nbsP W).1).take ((((nbsP W).1.length)) - 1)).take k).length) roc)]) (cs' := #[(.int .u8 ((op : Nat) : Int)), (.int .u64 (((nbsP W).1.getD ((((nbsP W).1.length)) - 1) 0))), (.int .u64 (0 : Int)), (.slice ra2 (((((((nbsP W).1).take ((((nbsP W).1.length)) - 1)).take k) ++ [y])).length) rc2)]) rfl rfl (by kernel_rfl) (by kernel_rfl) hkbi (by kernel_rfl) (by kernel_rfl)) rfl rfl ?_; clear hf fa; rintro fa _ w14 ⟨hk8, hg8⟩ hf
                    replace hr3 := Row.grown hr3 hg8 (Row.ne_type hr3 hkbi rfl)
                    replace hra1 := Row.grown hra1 hg8 (Row.ne_type hra1 hkbi rfl)
                    replace hb := hb.wrote hg8 hb.size
                    apply wpList_nil
                    (try simp only [Exit.then, Exit.inBlock, ↓reduceIte, Nat.reduceEqDiff])
                    refine hK29 _ _ ?_
                    refine wp_region_lit ?_
                    refine sqv hf (r_add (C := (((k : Nat) : Int) + (1 : Int))) rfl rfl (by rw [IntKind.wrap_i64]; omega)) rfl rfl rfl ?_; clear hf fa; intro fa hf
                    refine sqv hf (r_move rfl) rfl rfl rfl ?_; clear hf fa; intro fa hf
                    apply wpList_nil
                    (try simp only [Exit.then, Exit.inBlock, ↓reduceIte, Nat.reduceEqDiff])
                    have hsn : ((((nbsP W).1).take ((((nbsP W).1.length)) - 1)).take k) ++ [y] = (((nbsP W).1).take ((((nbsP W).1.length)) - 1)).take (k + 1) := by rw [List.take_add_one, hy]; rfl
                    have hk9 := hk8
                    rw [hsn] at hk9
                    refine hKL1 _ _ _ (by omega) ⟨(k + 1), ra2, rc2, rfl, hf.sub ⟨rfl, (some_sl (by first | omega | rfl | (simp only [List.length_append, List.length_cons, List.length_nil]; omega) | (simp <;> omega)) rfl), rfl, (some_int (by first | rfl | omega)), trivial⟩, hb, (rowTo6 hr3 hsn), hra1, hk9, by omega⟩
                  · have hqt97_1b := hqt97_1
                    replace hqt97_1 := Bool.eq_false_iff.1 hqt97_1
                    try simp only [ne_eq, decide_eq_true_eq, Bool.and_eq_true, Bool.or_eq_true, Bool.not_eq_true', decide_eq_false_iff_not] at hqt97_1
                    refine wp_exit ?_
                    (try simp only [Exit.then, Exit.inBlock, ↓reduceIte, Nat.reduceEqDiff])
                    refine hK25 _ _ ?_
                    refine wp_seq_k (fun K31 hK31 => ?_)
                    refine wp_region_lit ?_
                    refine sqv hf (r_assign rfl) rfl rfl rfl ?_; clear hf fa; intro fa hf
                    apply wpList_nil
                    (try simp only [Exit.then, Exit.inBlock, ↓reduceIte, Nat.reduceEqDiff])
                    refine hK31 _ _ ?_
                    refine wp_ret ?_
                    (try simp only [Exit.then, Exit.inBlock])
                    refine ret1 hf rfl rfl ?_
                    have h8 : lblK op W = true := lblK_yes hqt80_1
                    have hB : resB op W = 0 := by unfold resB; rw [if_neg (by have h0 := hqt15_1; have h1 := hqt15_3; have h2 := hqt21_1; have h3 := hqt40_1; have h4 := hqt45_1; have h5 := hqt50_1; omega)]
                    have hK : resK op W = true := by unfold resK; rw [if_neg (by have h0 := hqt15_1; have h1 := hqt15_3; have h2 := hqt21_1; have h3 := hqt40_1; have h4 := hqt45_1; have h5 := hqt50_1; omega), if_neg (by have h0 := hqt15_1; have h1 := hqt15_3; have h2 := hqt21_1; have h3 := hqt40_1; have h4 := hqt45_1; have h5 := hqt50_1; omega), if_neg (by have h0 := hqt15_1; have h1 := hqt15_3; have h2 := hqt21_1; have h3 := hqt40_1; have h4 := hqt45_1; have h5 := hqt50_1; omega), if_neg (by have h0 := hqt15_1; have h1 := hqt15_3; have h2 := hqt21_1; have h3 := hqt40_1; have h4 := hqt45_1; have h5 := hqt50_1; omega), if_neg (by have h0 := hqt15_1; have h1 := hqt15_3; have h2 := hqt21_1; have h3 := hqt40_1; have h4 := hqt45_1; have h5 := hqt50_1; omega)]; exact h8
                    have hA : resA op W = (((nbsP W).1.getD ((((nbsP W).1.length)) - 1) 0)) := by unfold resA; rw [if_neg (by have h0 := hqt15_1; have h1 := hqt15_3; have h2 := hqt21_1; have h3 := hqt40_1; have h4 := hqt45_1; have h5 := hqt50_1; omega), if_neg (by have h0 := hqt15_1; have h1 := hqt15_3; have h2 := hqt21_1; have h3 := hqt40_1; have h4 := hqt45_1; have h5 := hqt50_1; omega), if_neg (by have h0 := hqt15_1; have h1 := hqt15_3; have h2 := hqt21_1; have h3 := hqt40_1; have h4 := hqt45_1; have h5 := hqt50_1; omega), if_neg (by have h0 := hqt15_1; have h1 := hqt15_3; have h2 := hqt21_1; have h3 := hqt40_1; have h4 := hqt45_1; have h5 := hqt50_1; omega), if_neg (by have h0 := hqt15_1; have h1 := hqt15_3; have h2 := hqt21_1; have h3 := hqt40_1; have h4 := hqt45_1; have h5 := hqt50_1; omega)]; rw [if_pos h8]
                    have hL : resL op W = ((((nbsP W).1).take ((((nbsP W).1.length)) - 1)).take k) := by unfold resL; rw [if_neg (by have h0 := hqt15_1; have h1 := hqt15_3; have h2 := hqt21_1; have h3 := hqt40_1; have h4 := hqt45_1; have h5 := hqt50_1; omega), if_pos h8]; exact (List.take_of_length_le (i := k) (l := (((nbsP W).1).take ((((nbsP W).1.length)) - 1))) (by rw [List.length_take]; omega)).symm
                    rw [hK, hA, hB, hL]
                    exact ⟨rfl, _, _, hkbi, hro, hb.grown⟩
end Go.Proofs.YtpalmpfkliepfaaDoor

namespace Go.Proofs.YtpalmpfkliepfaaDoor
open Go.RowKit Ut
set_option linter.unusedVariables false
set_option linter.unusedSimpArgs false
attribute [local irreducible] infP ofP chkP rchkP

def no32 (s : ByteArray) : Prop := ∀ c ∈ bl s, c ≠ 32
theorem splitL_cat (ps : List (List Nat)) (h : ∀ p ∈ ps, ∀ c ∈ p, c ≠ 32) : ∀ (p : List Nat), (∀ c ∈ p, c ≠ 32) → splitL (p ++ ps.flatMap (fun q => 32 :: q)) = p :: ps := by
  induction ps with
  | nil =>
    intro p hp
    rw [List.flatMap_nil, List.append_nil]
    unfold splitL
    rw [splitA_no p hp]; rfl
  | cons q ps ih =>
    intro p hp
    have h2 := ih (fun r hr => h r (List.mem_cons_of_mem _ hr)) q (h q (List.mem_cons_self ..))
    unfold splitL at h2 ⊢
    rw [List.flatMap_cons, List.cons_append, splitA_hit p _ hp, h2]; rfl
theorem bl_fold (ws : List ByteArray) : ∀ w0, bl (foldD id w0 ws) = bl w0 ++ (ws.map bl).flatMap (fun q => 32 :: q) := by
  induction ws with
  | nil => intro w0; rw [List.map_nil, List.flatMap_nil, List.append_nil]; rfl
  | cons y ws ih =>
    intro w0
    show bl (foldD id (w0 ++ ((⟨#[32]⟩ : ByteArray) ++ y)) ws) = _
    rw [ih, bl_app, bl_app, List.map_cons, List.flatMap_cons, List.append_assoc]
    rfl
theorem words_join (w0 : ByteArray) (ws : List ByteArray) (h0 : no32 w0) (h : ∀ y ∈ ws, no32 y) : wordsS (foldD id w0 ws) = w0 :: ws := by
  unfold wordsS
  rw [bl_fold, splitL_cat _ (fun p hp => by obtain ⟨y, hy, rfl⟩ := List.mem_map.1 hp; exact h y hy) _ h0, List.map_cons, strN_bl, List.map_map]
  congr 1
  conv => rhs; rw [← List.map_id ws]
  apply List.map_congr_left
  intro y _
  exact strN_bl y

def argsW (op : Nat) (A B : Int) (L : List Int) : List ByteArray :=
  if (infP op).2.1 = 0 ∨ (infP op).2.1 = 9 then []
  else if (infP op).2.1 = 1 then (if A = 64 then [] else [tnameP (A % 256)])
  else if (infP op).2.1 = 3 then L.map dS ++ [dS (sA A)]
  else if (infP op).2.1 = 8 then [(⟨#[97, 108, 105, 103, 110, 61]⟩ : ByteArray) ++ dS (sA A), (⟨#[111, 102, 102, 115, 101, 116, 61]⟩ : ByteArray) ++ dS (sA B)]
  else if (infP op).2.1 = 10 then [dS (s32 A)]
  else [dS (sA A)]
theorem foldD_map {α : Type} (f : α → ByteArray) (l : List α) : ∀ w, foldD id w (l.map f) = foldD f w l := by
  induction l with
  | nil => intro w; rfl
  | cons y l ih => intro w; exact ih _
theorem foldD_one (w y : ByteArray) : foldD id w [y] = w ++ ((⟨#[32]⟩ : ByteArray) ++ y) := rfl
theorem foldD_app {α : Type} (f : α → ByteArray) (l m : List α) (w : ByteArray) : foldD f w (l ++ m) = foldD f (foldD f w l) m := List.foldl_append ..
theorem line_join (op : Nat) (A B : Int) (L : List Int) : nmO op ++ behindP op A B L = foldD id (nmO op) (argsW op A B L) := by
  unfold behindP argsW
  split
  · exact app_nil _
  split
  · unfold blkS
    split
    · exact app_nil _
    · rfl
  split
  · rw [foldD_app, foldD_map, foldD_one, show foldD dS (nmO op) L = nmO op ++ foldD dS (⟨#[]⟩ : ByteArray) L by rw [← foldD_base, app_nil]]
    simp only [ByteArray.append_assoc]
  split
  · show _ = (nmO op ++ ((⟨#[32]⟩ : ByteArray) ++ ((⟨#[97, 108, 105, 103, 110, 61]⟩ : ByteArray) ++ dS (sA A)))) ++ ((⟨#[32]⟩ : ByteArray) ++ ((⟨#[111, 102, 102, 115, 101, 116, 61]⟩ : ByteArray) ++ dS (sA B)))
    rw [show (⟨#[32, 97, 108, 105, 103, 110, 61]⟩ : ByteArray) = (⟨#[32]⟩ : ByteArray) ++ (⟨#[97, 108, 105, 103, 110, 61]⟩ : ByteArray) from rfl, show (⟨#[32, 111, 102, 102, 115, 101, 116, 61]⟩ : ByteArray) = (⟨#[32]⟩ : ByteArray) ++ (⟨#[111, 102, 102, 115, 101, 116, 61]⟩ : ByteArray) from rfl]
    simp only [ByteArray.append_assoc]
  split
  · rfl
  · rfl
theorem dS_no (n : Int) : no32 (dS n) := by
  intro c hc
  rw [bl_dS] at hc
  unfold digB at hc
  split at hc
  · rcases List.mem_cons.1 hc with rfl | hc
    · decide
    · have := natB_dig _ c hc; omega
  · have := natB_dig _ c hc; omega
theorem tname_no32 (b : Int) : no32 (tnameP b) := by
  unfold tnameP no32
  generalize decide (b = 127) = a1
  generalize decide (b = 126) = a2
  generalize decide (b = 125) = a3
  generalize decide (b = 124) = a4
  generalize decide (b = 112) = a5
  cases a1 <;> cases a2 <;> cases a3 <;> cases a4 <;> cases a5 <;> decide
theorem no32_app {s t : ByteArray} (h1 : no32 s) (h2 : no32 t) : no32 (s ++ t) := by
  intro c hc
  rw [bl_app] at hc
  rcases List.mem_append.1 hc with h | h
  · exact h1 c h
  · exact h2 c h
theorem args_no (op : Nat) (A B : Int) (L : List Int) : ∀ y ∈ argsW op A B L, no32 y := by
  have ha : no32 (⟨#[97, 108, 105, 103, 110, 61]⟩ : ByteArray) := by unfold no32; decide
  have ho : no32 (⟨#[111, 102, 102, 115, 101, 116, 61]⟩ : ByteArray) := by unfold no32; decide
  intro y hy
  unfold argsW at hy
  split at hy
  · cases hy
  split at hy
  · split at hy
    · cases hy
    · rw [List.mem_singleton] at hy; subst hy; exact tname_no32 _
  split at hy
  · rcases List.mem_append.1 hy with h | h
    · obtain ⟨z, _, rfl⟩ := List.mem_map.1 h; exact dS_no z
    · rw [List.mem_singleton] at h; subst h; exact dS_no _
  split at hy
  · simp only [List.mem_cons, List.not_mem_nil, or_false] at hy
    rcases hy with rfl | rfl
    · exact no32_app ha (dS_no _)
    · exact no32_app ho (dS_no _)
  split at hy
  · rw [List.mem_singleton] at hy; subst hy; exact dS_no _
  · rw [List.mem_singleton] at hy; subst hy; exact dS_no _
theorem words_line {op : Nat} {A B : Int} {L : List Int} (hop : op < 256) (h : rightP op A B L.length = 0) : wordsS (lineP op A B L) = nmO op :: argsW op A B L := by
  unfold lineP
  rw [if_pos h, line_join]
  exact words_join _ _ (nmO_sp hop) (args_no op A B L)
end Go.Proofs.YtpalmpfkliepfaaDoor

namespace Go.Proofs.YtpalmpfkliepfaaDoor
open Go.RowKit Ut
set_option linter.unusedVariables false
set_option linter.unusedSimpArgs false
attribute [local irreducible] infP ofP chkP rchkP

theorem num_dS {n : Int} (h : inI n) : numP (bl (dS n)) = (n, true) := by rw [bl_dS]; exact numP_dig h
theorem inI_lo {n : Int} (h : 0 ≤ n ∧ n < 4294967296) : inI n := inI_u32 (by omega)
theorem nbs_dig (l : List Int) (h : ∀ y ∈ l, 0 ≤ y ∧ y < 4294967296) : ∀ o, nbsA o (l.map dS) = (o ++ l, true) := by
  induction l with
  | nil => intro o; rw [List.append_nil]; rfl
  | cons y l ih =>
    intro o
    have hy := h y (List.mem_cons_self ..)
    rw [List.map_cons, nbsA, if_pos (by unfold okN; rw [num_dS (inI_lo hy)]; simp; omega), num_dS (inI_lo hy), ih (fun z hz => h z (List.mem_cons_of_mem _ hz)), List.append_assoc]; rfl
theorem hasP_app (p x : ByteArray) : hasP (p ++ x) p = true := by
  rw [hasP_bl, bl_app, List.isPrefixOf_iff_prefix]; exact List.prefix_append _ _
theorem cutS_app (p x : ByteArray) : cutS (p ++ x) p = x := by
  apply bl_inj
  rw [cutS_bl, if_pos (hasP_app p x), bl_app, ← bl_length, List.drop_left]
theorem uA_sA {A : Int} (h : 0 ≤ A ∧ A < 18446744073709551616) : uA (sA A) = A := by unfold uA sA; split <;> split <;> omega
theorem s32_back {A : Int} (h : 0 ≤ A ∧ A < 4294967296) : s32 A % 4294967296 = A ∧ s32 A = i32w (s32 A) := by unfold i32w s32; constructor <;> (repeat' split) <;> omega
theorem sA_low {A : Int} (h : 0 ≤ A ∧ A < 4294967296) : sA A = A := by unfold sA; rw [if_pos (by omega)]

theorem byt_back : bytP (tnameP 127) = 127 ∧ bytP (tnameP 126) = 126 := by decide +kernel
theorem acc_back {A B : Int} (hA : 0 ≤ A ∧ A < 4294967296) (hB : 0 ≤ B ∧ B < 4294967296) : accK [(⟨#[97, 108, 105, 103, 110, 61]⟩ : ByteArray) ++ dS A, (⟨#[111, 102, 102, 115, 101, 116, 61]⟩ : ByteArray) ++ dS B] = true ∧ accP [(⟨#[97, 108, 105, 103, 110, 61]⟩ : ByteArray) ++ dS A, (⟨#[111, 102, 102, 115, 101, 116, 61]⟩ : ByteArray) ++ dS B] = (A, B) := by
  have hl : accL [(⟨#[97, 108, 105, 103, 110, 61]⟩ : ByteArray) ++ dS A, (⟨#[111, 102, 102, 115, 101, 116, 61]⟩ : ByteArray) ++ dS B] = [dS A, dS B] := by
    show [cutS ((⟨#[97, 108, 105, 103, 110, 61]⟩ : ByteArray) ++ dS A) (⟨#[97, 108, 105, 103, 110, 61]⟩ : ByteArray), cutS ((⟨#[111, 102, 102, 115, 101, 116, 61]⟩ : ByteArray) ++ dS B) (⟨#[111, 102, 102, 115, 101, 116, 61]⟩ : ByteArray)] = _
    rw [cutS_app, cutS_app]
  have hn : nbsP [dS A, dS B] = ([A, B], true) := nbs_dig [A, B] (fun y hy => by simp only [List.mem_cons, List.not_mem_nil, or_false] at hy; rcases hy with rfl | rfl <;> assumption) []
  have hk : accK [(⟨#[97, 108, 105, 103, 110, 61]⟩ : ByteArray) ++ dS A, (⟨#[111, 102, 102, 115, 101, 116, 61]⟩ : ByteArray) ++ dS B] = true := by
    unfold accK
    rw [hl, hn]
    show (decide (2 = 2) && (hasP ((⟨#[97, 108, 105, 103, 110, 61]⟩ : ByteArray) ++ dS A) (⟨#[97, 108, 105, 103, 110, 61]⟩ : ByteArray) && (hasP ((⟨#[111, 102, 102, 115, 101, 116, 61]⟩ : ByteArray) ++ dS B) (⟨#[111, 102, 102, 115, 101, 116, 61]⟩ : ByteArray) && true))) = true
    rw [hasP_app, hasP_app]; rfl
  refine ⟨hk, ?_⟩
  unfold accP
  rw [if_pos hk, hl, hn]
  rfl
theorem con_short {A : Int} (h : 0 ≤ A ∧ A < 4294967296) : conP [dS (s32 A)] true = (A, true) := by
  have hb := s32_back h
  unfold conP
  rw [if_neg (show ¬ [dS (s32 A)].length ≠ 1 from fun e => e rfl), if_pos rfl, show wd [dS (s32 A)] 0 = dS (s32 A) from rfl, num_dS (inI_s32 A), decide_eq_true hb.2]
  simp only [hb.1]
  rfl
theorem con_long {A : Int} (h : 0 ≤ A ∧ A < 18446744073709551616) : conP [dS (sA A)] false = (A, true) := by
  unfold conP
  rw [if_neg (show ¬ [dS (sA A)].length ≠ 1 from fun e => e rfl), if_neg (by decide), show wd [dS (sA A)] 0 = dS (sA A) from rfl, num_dS (inI_sA h)]
  simp only [uA_sA h]

theorem rest_back {op : Nat} {A B : Int} {L : List Int} (hr : rightP op A B L.length = 0) (hA : 0 ≤ A ∧ A < 18446744073709551616) (hB : 0 ≤ B) (hL : ∀ y ∈ L, 0 ≤ y ∧ y < 4294967296) :
    resK op (argsW op A B L) = true ∧ resA op (argsW op A B L) = A ∧ resB op (argsW op A B L) = B ∧ resL op (argsW op A B L) = L := by
  obtain ⟨_, h1, _, h3, h4, h5, h6⟩ := right_out hr
  generalize him : (infP op).2.1 = im at h1 h3 h4 h5 h6
  by_cases c0 : im = 0 ∨ im = 9
  · have hl : L = [] := List.eq_nil_of_length_eq_zero (by omega)
    have c8 : ¬ im = 8 := by omega
    have cl : im = 0 ∨ im = 9 ∨ im = 1 ∨ im = 8 ∨ im = 10 ∨ im = 11 := by omega
    simp only [resK, resA, resB, resL, argsW, him, if_pos c0, if_neg c8, if_pos cl, hl]
    exact ⟨rfl, (h4 c0).symm, by omega, trivial⟩
  by_cases c1 : im = 1
  · have hl : L = [] := List.eq_nil_of_length_eq_zero (by omega)
    have c8 : ¬ im = 8 := by omega
    have cl : im = 0 ∨ im = 9 ∨ im = 1 ∨ im = 8 ∨ im = 10 ∨ im = 11 := by omega
    simp only [resK, resA, resB, resL, argsW, him, if_neg c0, if_pos c1, if_neg c8, if_pos cl, hl]
    rcases h5 c1 with e | e | e
    · rw [if_pos e]; exact ⟨rfl, by rw [e]; rfl, by omega, trivial⟩
    · rw [if_neg (show ¬ A = 64 by omega), e]; exact ⟨rfl, byt_back.1, by omega, trivial⟩
    · rw [if_neg (show ¬ A = 64 by omega), e]; exact ⟨rfl, byt_back.2, by omega, trivial⟩
  by_cases c10 : im = 10
  · have hl : L = [] := List.eq_nil_of_length_eq_zero (by omega)
    have c8 : ¬ im = 8 := by omega
    have c3 : ¬ im = 3 := by omega
    have cl : im = 0 ∨ im = 9 ∨ im = 1 ∨ im = 8 ∨ im = 10 ∨ im = 11 := by omega
    have hlo := h6 c0 c1 (by omega)
    simp only [resK, resA, resB, resL, argsW, him, if_neg c0, if_neg c1, if_neg c3, if_neg c8, if_pos c10, if_pos cl, hl, con_short (A := A) ⟨hA.1, hlo.1⟩]
    exact ⟨trivial, trivial, by omega, trivial⟩
  by_cases c11 : im = 11
  · have hl : L = [] := List.eq_nil_of_length_eq_zero (by omega)
    have c8 : ¬ im = 8 := by omega
    have c3 : ¬ im = 3 := by omega
    have cl : im = 0 ∨ im = 9 ∨ im = 1 ∨ im = 8 ∨ im = 10 ∨ im = 11 := by omega
    simp only [resK, resA, resB, resL, argsW, him, if_neg c0, if_neg c1, if_neg c3, if_neg c8, if_neg c10, if_pos c11, if_pos cl, hl, con_long (A := A) hA]
    exact ⟨trivial, trivial, by omega, trivial⟩
  have hlo := h6 c0 c1 c11
  have hsa : sA A = A := sA_low ⟨hA.1, hlo.1⟩
  have hsb : sA B = B := sA_low ⟨hB, hlo.2⟩
  by_cases c8 : im = 8
  · have hl : L = [] := List.eq_nil_of_length_eq_zero (by omega)
    have c3 : ¬ im = 3 := by omega
    have cl : im = 0 ∨ im = 9 ∨ im = 1 ∨ im = 8 ∨ im = 10 ∨ im = 11 := by omega
    have hac := acc_back (A := A) (B := B) ⟨hA.1, hlo.1⟩ ⟨hB, hlo.2⟩
    simp only [resK, resA, resB, resL, argsW, him, if_neg c0, if_neg c1, if_neg c3, if_pos c8, if_pos cl, hl, hsa, hsb, hac.1, hac.2]
    exact ⟨trivial, trivial, trivial, trivial⟩
  have cl : ¬ (im = 0 ∨ im = 9 ∨ im = 1 ∨ im = 8 ∨ im = 10 ∨ im = 11) := by omega
  have hn : nbsP (L.map dS ++ [dS A]) = (L ++ [A], true) := by
    have h := nbs_dig (L ++ [A]) (fun y hy => by
      rcases List.mem_append.1 hy with h | h
      · exact hL y h
      · rw [List.mem_singleton] at h; subst h; exact ⟨hA.1, hlo.1⟩) []
    rw [List.map_append] at h
    exact h
  have ha : argsW op A B L = L.map dS ++ [dS A] := by
    by_cases c3 : im = 3
    · simp only [argsW, him, if_neg c0, if_neg c1, if_pos c3, hsa]
    · have hl : L = [] := List.eq_nil_of_length_eq_zero (by omega)
      simp only [argsW, him, if_neg c0, if_neg c1, if_neg c3, if_neg c8, if_neg c10, hsa, hl]; rfl
  have hk : lblK op (L.map dS ++ [dS A]) = true := by
    refine lblK_yes ?_
    rw [hn, him]
    rintro ((h | h) | ⟨h, h7⟩)
    · cases h
    · rw [List.length_append] at h; simp at h; omega
    · rw [List.length_append] at h; simp at h; omega
  rw [ha]
  simp only [resK, resA, resB, resL, him, if_neg c0, if_neg c1, if_neg c8, if_neg c10, if_neg c11, if_neg cl, hk, if_true, hn]
  refine ⟨trivial, ?_, by omega, ?_⟩
  · simp
  · simp
end Go.Proofs.YtpalmpfkliepfaaDoor

namespace Go.Proofs.YtpalmpfkliepfaaDoor
open Go.RowKit Ut
set_option linter.unusedVariables false
set_option linter.unusedSimpArgs false
attribute [local irreducible] infP ofP chkP rchkP

def w0P (s : ByteArray) : ByteArray := wd (wordsS s) 0
def opN (s : ByteArray) : Nat := (findP (w0P s)).1.toNat
def wsP (s : ByteArray) : List ByteArray := (wordsS s).drop 1
def parK (s : ByteArray) : Bool := (findP (w0P s)).2 && (resK (opN s) (wsP s) && decide (lineP (opN s) (resA (opN s) (wsP s)) (resB (opN s) (wsP s)) (resL (opN s) (wsP s)) = s))
theorem opN_lt (s : ByteArray) : opN s < 256 ∧ (findP (w0P s)).1 = ((opN s : Nat) : Int) := by
  have h := (findP_out (w0P s)).2
  unfold opN
  omega
/-- A right instruction's line is read as it. -/
theorem par_back {op : Nat} {A B : Int} {L : List Int} (hop : op < 256) (hr : rightP op A B L.length = 0) (hA : 0 ≤ A ∧ A < 18446744073709551616) (hB : 0 ≤ B) (hL : ∀ y ∈ L, 0 ≤ y ∧ y < 4294967296) :
    opN (lineP op A B L) = op ∧ wsP (lineP op A B L) = argsW op A B L ∧ parK (lineP op A B L) = true := by
  have hw := words_line (A := A) (B := B) (L := L) hop hr
  have hn := nmO_ok hop (right_out hr).1
  have h0 : w0P (lineP op A B L) = nmO op := by unfold w0P; rw [hw]; rfl
  have hf := findP_hit hop hn
  have ho : opN (lineP op A B L) = op := by unfold opN; rw [h0, hf]; simp
  have hs : wsP (lineP op A B L) = argsW op A B L := by unfold wsP; rw [hw]; rfl
  obtain ⟨b1, b2, b3, b4⟩ := rest_back hr hA hB hL
  refine ⟨ho, hs, ?_⟩
  unfold parK
  rw [ho, hs, h0, hf, b1, b2, b3, b4]
  simp
end Go.Proofs.YtpalmpfkliepfaaDoor

namespace Go.Proofs.YtpalmpfkliepfaaDoor
open Go.RowKit Ut
set_option linter.unusedVariables false
set_option linter.unusedSimpArgs false
attribute [local irreducible] infP ofP chkP rchkP

theorem uA_rng {n : Int} (h : inI n) : 0 ≤ uA n ∧ uA n < 18446744073709551616 := by unfold uA inI at *; split <;> omega
theorem getD_rng {l : List Int} {j : Nat} (h : ∀ y ∈ l, 0 ≤ y ∧ y < (4294967296 : Int)) : 0 ≤ l.getD j 0 ∧ l.getD j 0 < 4294967296 := by
  rw [List.getD_eq_getElem?_getD]
  cases hk : l[j]? with
  | none => exact ⟨by decide, by decide⟩
  | some y => exact h y (List.mem_of_getElem? hk)
theorem conP_rng (W : List ByteArray) (sh : Bool) : 0 ≤ (conP W sh).1 ∧ (conP W sh).1 < 18446744073709551616 := by
  unfold conP
  split
  · exact ⟨by decide, by decide⟩
  · split
    · constructor
      · exact Int.emod_nonneg _ (by decide)
      · have := Int.emod_lt_of_pos (numP (bl (wd W 0))).1 (show (0 : Int) < 4294967296 by decide)
        show (numP (bl (wd W 0))).1 % 4294967296 < _
        omega
    · exact uA_rng (numP_in _)
theorem accP_rng (W : List ByteArray) : (0 ≤ (accP W).1 ∧ (accP W).1 < 4294967296) ∧ (0 ≤ (accP W).2 ∧ (accP W).2 < 4294967296) := by
  unfold accP
  split
  · exact ⟨getD_rng (nbs_rng _), getD_rng (nbs_rng _)⟩
  · exact ⟨⟨by decide, by decide⟩, ⟨by decide, by decide⟩⟩
theorem resA_rng (op : Nat) (W : List ByteArray) : 0 ≤ resA op W ∧ resA op W < 18446744073709551616 := by
  unfold resA
  split
  · exact ⟨by decide, by decide⟩
  split
  · split
    · have := bytP_rng (wd W 0); omega
    · exact ⟨by decide, by decide⟩
  split
  · have := (accP_rng W).1; omega
  split
  · exact conP_rng W true
  split
  · exact conP_rng W false
  split
  · have := getD_rng (j := (nbsP W).1.length - 1) (nbs_rng W); omega
  · exact ⟨by decide, by decide⟩
theorem resB_rng (op : Nat) (W : List ByteArray) : 0 ≤ resB op W ∧ resB op W < 18446744073709551616 := by
  unfold resB
  split
  · have := (accP_rng W).2; omega
  · exact ⟨by decide, by decide⟩
theorem resL_rng (op : Nat) (W : List ByteArray) : (∀ y ∈ resL op W, 0 ≤ y ∧ y < (4294967296 : Int)) ∧ (resL op W).length ≤ W.length := by
  unfold resL
  split
  · exact ⟨fun y hy => (by cases hy), Nat.zero_le _⟩
  split
  · refine ⟨fun y hy => nbs_rng W y (List.mem_of_mem_take hy), ?_⟩
    have := nbsA_len W []
    simp at this
    rw [List.length_take]
    unfold nbsP
    omega
  · exact ⟨fun y hy => (by cases hy), Nat.zero_le _⟩
def pO (s : ByteArray) : Int := if parK s = true then ((opN s : Nat) : Int) else 0
def pA (s : ByteArray) : Int := if parK s = true then resA (opN s) (wsP s) else 0
def pB (s : ByteArray) : Int := if parK s = true then resB (opN s) (wsP s) else 0
def pL (s : ByteArray) : List Int := if parK s = true then resL (opN s) (wsP s) else []
def pE (s : ByteArray) : Int := if parK s = true then 0 else 49
theorem par_yes {s : ByteArray} (h : parK s = true) : pO s = ((opN s : Nat) : Int) ∧ pA s = resA (opN s) (wsP s) ∧ pB s = resB (opN s) (wsP s) ∧ pL s = resL (opN s) (wsP s) ∧ pE s = 0 := by
  unfold pO pA pB pL pE
  rw [if_pos h, if_pos h, if_pos h, if_pos h, if_pos h]
  exact ⟨rfl, rfl, rfl, rfl, rfl⟩
theorem par_no {s : ByteArray} (h : parK s = false) : pO s = 0 ∧ pA s = 0 ∧ pB s = 0 ∧ pL s = [] ∧ pE s = 49 := by
  have h2 : ¬ parK s = true := by rw [h]; decide
  unfold pO pA pB pL pE
  rw [if_neg h2, if_neg h2, if_neg h2, if_neg h2, if_neg h2]
  exact ⟨rfl, rfl, rfl, rfl, rfl⟩
theorem parK_1 {s : ByteArray} (h : ¬ (findP (w0P s)).2 = true) : parK s = false := by
  have h2 : (findP (w0P s)).2 = false := by cases hz : (findP (w0P s)).2; rfl; exact absurd hz h
  unfold parK; rw [h2]; rfl
theorem parK_2 {s : ByteArray} (h : ¬ resK (opN s) (wsP s) = true) : parK s = false := by
  have h2 : resK (opN s) (wsP s) = false := by cases hz : resK (opN s) (wsP s); rfl; exact absurd hz h
  unfold parK; rw [h2]; simp
theorem parK_3 {s : ByteArray} (h : ¬ lineP (opN s) (resA (opN s) (wsP s)) (resB (opN s) (wsP s)) (resL (opN s) (wsP s)) = s) : parK s = false := by
  unfold parK; rw [decide_eq_false h]; simp
theorem parK_4 {s : ByteArray} (h1 : (findP (w0P s)).2 = true) (h2 : resK (opN s) (wsP s) = true) (h : lineP (opN s) (resA (opN s) (wsP s)) (resB (opN s) (wsP s)) (resL (opN s) (wsP s)) = s) : parK s = true := by
  unfold parK; rw [decide_eq_true h, h1, h2]; rfl

theorem calls_val {P : Program} {f : FuncId} {xs : Array Value} {w : World} {v : Value} {R : World → Prop} (h : Calls P f xs w fun e w' => e = .returned v ∧ R w') : Calls P f xs w fun e w' => ∃ x, e = .returned x ∧ (x = v ∧ R w') := h.mono (fun e w' h => ⟨v, h.1, rfl, h.2⟩)
theorem slAt_ne {a : Option Addr} {c l k n cc b : Nat} {q : Addr} (h : slAt a c l k = some q) (hne : (Value.slice a n cc).ownBlock ≠ some b) : q.block ≠ b := by
  cases a with
  | none => unfold slAt at h; split at h <;> cases h
  | some p =>
    intro e
    refine hne ?_
    show some p.block = some b
    unfold slAt at h
    split at h
    · cases h; rw [← e]
    · cases h
      rw [← e]
      show some p.block = some (p.add (l * k)).block
      unfold Addr.add
      split <;> rfl

set_option maxHeartbeats 1000000 in
set_option maxRecDepth 100000 in
theorem parse_any (s : ByteArray) (w : World) (hs : s.size ≤ 50000) : Calls Tryd.prog 9 #[(.string s)] w fun e w' => ∃ v, e = .returned v ∧ ∃ aL cL, v = (.tuple #[.agg #[.int .u8 (pO s), .int .u64 (pA s), .int .u64 (pB s), .slice aL (pL s).length cL], .int .i64 (pE s)]) ∧ Row 1 (vInt .u32) 62 w.heap.size w' (.slice aL (pL s).length cL) (pL s) ∧ Below w.heap.size w w' := by
  have hop := (opN_lt s).1
  have hfo := (opN_lt s).2
  have hwn := words_len s
  have hwl : (wsP s).length = (wordsS s).length - 1 := by unfold wsP; rw [List.length_drop]
  have hwW : ∀ y ∈ wsP s, y.size ≤ 100000 := fun y hy => by
    have := hwn.2.2 y (List.mem_of_mem_drop hy)
    omega
  refine sx_enter (L := [(0, (.string s))]) Tryd.func9 rfl rfl rfl rfl (fun fa hf => ?_)
  have hb : Below w.heap.size w w := Below.refl _ _
  refine wp_seq_k (fun K1 hK1 => ?_)
  refine wp_region_lit ?_
  refine sqdt hf (d_alloc (z := (.agg #[(.int .u8 (0 : Int)), (.int .u64 (0 : Int)), (.int .u64 (0 : Int)), (.slice none 0 0)])) (cs := #[(.int .u8 (0 : Int)), (.int .u64 (0 : Int)), (.int .u64 (0 : Int)), (.slice none 0 0)]) (by kernel_rfl) rfl) rfl rfl rfl ?_; clear hf fa; rintro fa _ w1 ⟨b1, rfl, hle1, hk1, he1⟩ hf
  have hBb1 : w.heap.size ≤ b1 := Nat.le_trans hb.size hle1
  replace hb := hb.trans (Below.mono he1 hb.size)
  refine sqv hf (r_assign rfl) rfl rfl rfl ?_; clear hf fa; intro fa hf
  apply wpList_nil
  (try simp only [Exit.then, Exit.inBlock, ↓reduceIte, Nat.reduceEqDiff])
  refine hK1 _ _ ?_
  refine wp_seq_k (fun K2 hK2 => ?_)
  refine wp_region_lit ?_
  refine sqv hf (r_move rfl) rfl rfl rfl ?_; clear hf fa; intro fa hf
  refine sqdt hf (d_callX (vs := [(.string s), (.string ⟨#[32]⟩)]) rfl Tryd.func26 (by kernel_rfl) (by kernel_rfl) (split_any s _ (by omega))) rfl rfl rfl ?_; clear hf fa; rintro fa v w2 ⟨hr1, he2⟩ hf; obtain ⟨ra1, rc1, rfl, hcrc1, hmrc1⟩ := Row.slice hr1
  replace hr1 := Row.rebase hr1 hb.size
  replace hk1 := blk_ext hk1 he2
  replace hb := hb.trans (Below.mono he2 hb.size)
  refine sqv hf (r_assign rfl) rfl rfl rfl ?_; clear hf fa; intro fa hf
  apply wpList_nil
  (try simp only [Exit.then, Exit.inBlock, ↓reduceIte, Nat.reduceEqDiff])
  refine hK2 _ _ ?_
  refine wp_seq_k (fun K3 hK3 => ?_)
  refine wp_region_lit ?_
  refine sqv hf (r_move rfl) rfl rfl rfl ?_; clear hf fa; intro fa hf
  obtain ⟨rb1, rfl, hbbrb1, hlbrb1⟩ := Row.some hr1 (by first | omega | (simp only [Sl.list_length, List.length_set, List.length_take, List.length_append, List.length_replicate, List.length_cons, List.length_nil, List.length_map, nums_len]; omega))
  have hy1 : ((wordsS s))[0]? = some (w0P s) := (wd_at (by omega))
  have hel1 := RdS.at (Row.rd (by intros; rfl) hr1) hy1
  obtain ⟨_, _, hab, hlr1, hel1⟩ := hel1
  cases hab
  refine sqv hf (r_ixa (sz := 1) (j := 0) rfl rfl Tryd.underlying43 (by kernel_rfl) rfl (by omega) rfl) rfl rfl rfl ?_; clear hf fa; intro fa hf
  refine sqv hf (r_load (v := (.string (w0P s))) rfl Tryd.underlying9 rfl (cellsAt_cell hel1 (i := 0) rfl rfl)) rfl rfl rfl ?_; clear hf fa; intro fa hf
  refine sqdt hf (d_callB (vs := [(.string (w0P s))]) rfl Tryd.func27 (by kernel_rfl) (by kernel_rfl) ((find_any (w0P s) _).mono (fun e w' h => ⟨by rw [h.1, hfo], h.2⟩))) rfl rfl rfl ?_; clear hf fa; rintro fa _ w3 ⟨rfl, he3⟩ hf
  replace hk1 := blk_ext hk1 he3
  replace hr1 := Row.ext hr1 he3
  replace hb := hb.trans (Below.mono he3 hb.size)
  refine sqv hf (r_move rfl) rfl rfl rfl ?_; clear hf fa; intro fa hf
  refine sqv hf (r_extract rfl (i := 0) rfl) rfl rfl rfl ?_; clear hf fa; intro fa hf
  refine sqv hf (r_extract rfl (i := 1) rfl) rfl rfl rfl ?_; clear hf fa; intro fa hf
  refine sqv hf (r_assign rfl) rfl rfl rfl ?_; clear hf fa; intro fa hf
  refine sqv hf (r_assign rfl) rfl rfl rfl ?_; clear hf fa; intro fa hf
  apply wpList_nil
  (try simp only [Exit.then, Exit.inBlock, ↓reduceIte, Nat.reduceEqDiff])
  refine hK3 _ _ ?_
  refine wp_seq_k (fun K4 hK4 => ?_)
  refine wp_region_lit ?_
  refine sqv hf (r_move rfl) rfl rfl rfl ?_; clear hf fa; intro fa hf
  refine sqv hf (r_build (vs := [(0, (.int .u8 ((opN s : Nat) : Int)))]) (cs := #[(.int .u8 ((opN s : Nat) : Int)), (.int .u64 (0 : Int)), (.int .u64 (0 : Int)), (.slice none 0 0)]) rfl (fun _ => by kernel_rfl)) rfl rfl rfl ?_; clear hf fa; intro fa hf
  refine sqdt hf (d_alloc (z := (.agg #[(.int .u8 (0 : Int)), (.int .u64 (0 : Int)), (.int .u64 (0 : Int)), (.slice none 0 0)])) (cs := #[(.int .u8 (0 : Int)), (.int .u64 (0 : Int)), (.int .u64 (0 : Int)), (.slice none 0 0)]) (by kernel_rfl) rfl) rfl rfl rfl ?_; clear hf fa; rintro fa _ w4 ⟨b2, rfl, hle2, hk2, he4⟩ hf
  have hBb2 : w.heap.size ≤ b2 := Nat.le_trans hb.size hle2
  have : b1 < b2 := Nat.lt_of_lt_of_le (blk_lt hk1) hle2
  have : rb1 < b2 := Nat.lt_of_lt_of_le (Row.lt hr1 _ rfl).2 hle2
  replace hk1 := blk_ext hk1 he4
  replace hr1 := Row.ext hr1 he4
  replace hb := hb.trans (Below.mono he4 hb.size)
  refine sqn hf (d_storeK (T := 25) (v := (.agg #[(.int .u8 ((opN s : Nat) : Int)), (.int .u64 (0 : Int)), (.int .u64 (0 : Int)), (.slice none 0 0)])) (cs := #[(.int .u8 (0 : Int)), (.int .u64 (0 : Int)), (.int .u64 (0 : Int)), (.slice none 0 0)]) (cs' := #[(.int .u8 ((opN s : Nat) : Int)), (.int .u64 (0 : Int)), (.int .u64 (0 : Int)), (.slice none 0 0)]) rfl rfl (by kernel_rfl) (by kernel_rfl) hk2 (by kernel_rfl) (by kernel_rfl)) rfl rfl ?_; clear hf fa; rintro fa _ w5 ⟨hk3, hg1⟩ hf
  replace hk1 := blk_grown hk1 hg1 (by omega)
  replace hr1 := Row.grown hr1 hg1 (Row.ne_type hr1 hk2 rfl)
  replace hb := hb.trans (grown_below hg1 hb.size hBb2)
  apply wpList_nil
  (try simp only [Exit.then, Exit.inBlock, ↓reduceIte, Nat.reduceEqDiff])
  refine hK4 _ _ ?_
  refine wp_seq_k (fun K5 hK5 => ?_)
  refine wp_seq_k (fun K6 hK6 => ?_)
  by_cases hsp1 : (findP (w0P s)).2 = true
  · have hsp1b : decide ((findP (w0P s)).2 = true) = true := decide_eq_true hsp1
    by_cases hsp2 : resK (opN s) (wsP s) = true
    · have hsp2b : decide (resK (opN s) (wsP s) = true) = true := decide_eq_true hsp2
      refine wp_region_lit ?_
      refine sqv hf (Runs.veq (r_move rfl) (congrArg Value.bool (show _ = true from hsp1))) rfl rfl rfl ?_; clear hf fa; intro fa hf
      refine sqv hf (Runs.veq (v' := (.bool false)) (r_not rfl) rfl) rfl rfl rfl ?_; clear hf fa; intro fa hf
      refine sqv hf (r_move rfl) rfl rfl rfl ?_; clear hf fa; intro fa hf
      refine sqgd (act := true) (g := 2) (want := false) (ag := true) (c := false) hf (by rfl) (by rfl) rfl (fun _ =>  Runs.does (R := fun vq wq => vq = (.slice (some ⟨rb1, 0, none⟩) (((wordsS s)).length) rc1) ∧ w5 = wq) (r_move rfl) ⟨rfl, rfl⟩) (fun h => by cases h) rfl ?_; clear hf fa; rintro fa _ _ ⟨rfl, rfl⟩ hf
      change Fr _ _ ((22, (.slice (some ⟨rb1, 0, none⟩) (((wordsS s)).length) rc1)) :: _) at hf
      refine sqgd (act := true) (g := 2) (want := false) (ag := true) (c := false) hf (by rfl) (by rfl) rfl (fun _ =>  Runs.does (R := fun vq wq => vq = (.slice (slAt (some ⟨rb1, 0, none⟩) rc1 1 1) (((((wordsS s)).length) - 1)) (rc1 - 1)) ∧ w5 = wq) (r_slfrom (l := 1) (sz := 1) rfl rfl Tryd.underlying43 (by kernel_rfl) rfl (by omega)) ⟨rfl, rfl⟩) (fun h => by cases h) rfl ?_; clear hf fa; rintro fa _ _ ⟨rfl, rfl⟩ hf
      change Fr _ _ ((23, (.slice (slAt (some ⟨rb1, 0, none⟩) rc1 1 1) (((((wordsS s)).length) - 1)) (rc1 - 1))) :: _) at hf
      have hrest := (rest_any (opN s) b2 (slAt (some ⟨rb1, 0, none⟩) rc1 1 1) (wsP s) ((rc1 - 1)) _ (fun q hq => slAt_ne hq (Row.ne_type hr1 hk3 rfl)) hk3 (slAt_rd (l := 1) (X := wsP s) (by intros; rfl) hr1 (by show (wsP s).take (wsP s).length = wsP s; exact List.take_length) (by rw [hwl]; omega)) (by have := Row.caps hr1; omega) (by omega) hwW hop)
      rw [hwl] at hrest
      refine sqgd (act := true) (g := 2) (want := false) (ag := true) (c := false) hf (by rfl) (by rfl) rfl (fun _ =>  (d_callX (vs := [(.pointer (some ⟨b2, 0, none⟩)), (.slice (slAt (some ⟨rb1, 0, none⟩) rc1 1 1) (((((wordsS s)).length) - 1)) (rc1 - 1))]) rfl Tryd.func28 (by kernel_rfl) (by kernel_rfl) (calls_val hrest))) (fun h => by cases h) rfl ?_; clear hf fa; rintro fa _ w6 ⟨rfl, aL, cL, hk4, hr2, hg2⟩ hf
      replace hr2 := Row.rebase hr2 hb.size
      replace hk1 := blk_grown hk1 hg2 (by omega)
      replace hr1 := Row.grown hr1 hg2 (Row.ne_type hr1 hk3 rfl)
      replace hb := hb.trans (grown_below hg2 hb.size hBb2)
      have hcl := Row.caps hr2
      change Fr _ _ ((24, (.bool (resK (opN s) (wsP s)))) :: _) at hf
      refine sqgd (act := true) (g := 2) (want := false) (ag := true) (c := false) hf (by rfl) (by rfl) rfl (fun _ =>  Runs.does (R := fun vq wq => vq = (.bool false) ∧ w6 = wq) (Runs.veq (r_not rfl) (congrArg Value.bool (show _ = false from (by rw [hsp2]; rfl)))) ⟨rfl, rfl⟩) (fun h => by cases h) rfl ?_; clear hf fa; rintro fa _ _ ⟨rfl, rfl⟩ hf
      change Fr _ _ ((25, (.bool false)) :: _) at hf
      refine sqv hf (r_pick (b := false) rfl rfl rfl rfl) rfl rfl rfl ?_; clear hf fa; intro fa hf
      refine sqv hf (r_move rfl) rfl rfl rfl ?_; clear hf fa; intro fa hf
      refine sqgd (act := true) (g := 8) (want := false) (ag := true) (c := false) hf (by rfl) (by rfl) rfl (fun _ =>  Runs.does (R := fun vq wq => vq = (.agg #[(.int .u8 ((opN s : Nat) : Int)), (.int .u64 ((resA (opN s) (wsP s)))), (.int .u64 ((resB (opN s) (wsP s)))), (.slice aL (((resL (opN s) (wsP s)).length)) cL)]) ∧ w6 = wq) (r_loadA (cs := [(.int .u8 ((opN s : Nat) : Int)), (.int .u64 ((resA (opN s) (wsP s)))), (.int .u64 ((resB (opN s) (wsP s)))), (.slice aL (((resL (opN s) (wsP s)).length)) cL)]) rfl Tryd.underlying25 rfl (by kernel_rfl) (cellsAt_blk hk4)) ⟨rfl, rfl⟩) (fun h => by cases h) rfl ?_; clear hf fa; rintro fa _ _ ⟨rfl, rfl⟩ hf
      change Fr _ _ ((28, (.agg #[(.int .u8 ((opN s : Nat) : Int)), (.int .u64 ((resA (opN s) (wsP s)))), (.int .u64 ((resB (opN s) (wsP s)))), (.slice aL (((resL (opN s) (wsP s)).length)) cL)])) :: _) at hf
      refine sqgd (act := true) (g := 8) (want := false) (ag := true) (c := false) hf (by rfl) (by rfl) rfl (fun _ =>  (d_callB (vs := [(.agg #[(.int .u8 ((opN s : Nat) : Int)), (.int .u64 ((resA (opN s) (wsP s)))), (.int .u64 ((resB (opN s) (wsP s)))), (.slice aL (((resL (opN s) (wsP s)).length)) cL)])]) rfl Tryd.func7 (by kernel_rfl) (by kernel_rfl) (line_any (opN s) _ _ (resL (opN s) (wsP s)) _ _ _ (Row.rd (by intros; rfl) hr2) (resL_rng _ _).1 hop (resA_rng _ _) (resB_rng _ _) (by have := Row.caps hr2; omega) (by have := (resL_rng (opN s) (wsP s)).2; omega))) ) (fun h => by cases h) rfl ?_; clear hf fa; rintro fa _ w7 ⟨rfl, he5⟩ hf
      replace hk1 := blk_ext hk1 he5
      replace hk4 := blk_ext hk4 he5
      replace hr1 := Row.ext hr1 he5
      replace hr2 := Row.ext hr2 he5
      replace hb := hb.trans (Below.mono he5 hb.size)
      change Fr _ _ ((29, (.string (lineP (opN s) (resA (opN s) (wsP s)) (resB (opN s) (wsP s)) (resL (opN s) (wsP s))))) :: _) at hf
      refine sqgd (act := true) (g := 8) (want := false) (ag := true) (c := false) hf (by rfl) (by rfl) rfl (fun _ =>  Runs.does (R := fun vq wq => vq = (.string s) ∧ w7 = wq) (r_move rfl) ⟨rfl, rfl⟩) (fun h => by cases h) rfl ?_; clear hf fa; rintro fa _ _ ⟨rfl, rfl⟩ hf
      change Fr _ _ ((30, (.string s)) :: _) at hf
      refine sqgd (act := true) (g := 8) (want := false) (ag := true) (c := false) hf (by rfl) (by rfl) rfl (fun _ =>  Runs.does (R := fun vq wq => vq = (.bool (decide ((lineP (opN s) (resA (opN s) (wsP s)) (resB (opN s) (wsP s)) (resL (opN s) (wsP s))) ≠ s))) ∧ w7 = wq) (r_sne rfl rfl) ⟨rfl, rfl⟩) (fun h => by cases h) rfl ?_; clear hf fa; rintro fa _ _ ⟨rfl, rfl⟩ hf
      change Fr _ _ ((31, (.bool (decide ((lineP (opN s) (resA (opN s) (wsP s)) (resB (opN s) (wsP s)) (resL (opN s) (wsP s))) ≠ s)))) :: _) at hf
      refine sqv hf (r_pick (b := false) rfl rfl rfl rfl) rfl rfl rfl ?_; clear hf fa; intro fa hf
      apply wpList_nil
      (try simp only [Exit.then, Exit.inBlock, ↓reduceIte, Nat.reduceEqDiff])
      refine hK6 _ _ ?_
      refine wp_cond_split (t := (decide ((lineP (opN s) (resA (opN s) (wsP s)) (resB (opN s) (wsP s)) (resL (opN s) (wsP s))) ≠ s))) (hf.ev rfl) (fun hqt32_1 => ?_) (fun hqt32_1 => ?_)
      · have hqt32_1b := hqt32_1
        try simp only [decide_eq_true_eq, Bool.and_eq_true, Bool.or_eq_true, Bool.not_eq_true', decide_eq_false_iff_not, ne_eq, Bool.not_eq_true] at hqt32_1
        refine wp_seq_k (fun K7 hK7 => ?_)
        refine wp_region_lit ?_
        refine sqv hf (r_build (vs := []) (cs := #[(.int .u8 (0 : Int)), (.int .u64 (0 : Int)), (.int .u64 (0 : Int)), (.slice none 0 0)]) rfl (fun _ => by kernel_rfl)) rfl rfl rfl ?_; clear hf fa; intro fa hf
        refine sqn hf (d_storeK (T := 25) (v := (.agg #[(.int .u8 (0 : Int)), (.int .u64 (0 : Int)), (.int .u64 (0 : Int)), (.slice none 0 0)])) (cs := #[(.int .u8 (0 : Int)), (.int .u64 (0 : Int)), (.int .u64 (0 : Int)), (.slice none 0 0)]) (cs' := #[(.int .u8 (0 : Int)), (.int .u64 (0 : Int)), (.int .u64 (0 : Int)), (.slice none 0 0)]) rfl rfl (by kernel_rfl) (by kernel_rfl) hk1 (by kernel_rfl) (by kernel_rfl)) rfl rfl ?_; clear hf fa; rintro fa _ w8 ⟨hk5, hg3⟩ hf
        replace hk4 := blk_grown hk4 hg3 (by omega)
        replace hr1 := Row.grown hr1 hg3 (Row.ne_type hr1 hk1 rfl)
        replace hr2 := Row.grown hr2 hg3 (Row.ne_type hr2 hk1 rfl)
        replace hb := hb.trans (grown_below hg3 hb.size hBb1)
        refine sqv hf (r_assign rfl) rfl rfl rfl ?_; clear hf fa; intro fa hf
        apply wpList_nil
        (try simp only [Exit.then, Exit.inBlock, ↓reduceIte, Nat.reduceEqDiff])
        refine hK7 _ _ ?_
        refine wp_ret ?_
        (try simp only [Exit.then, Exit.inBlock])
        refine retCT hf rfl rfl hk5 Tryd.underlying25 rfl (by kernel_rfl) rfl ?_
        obtain ⟨e1, e2, e3, e4, e5⟩ := par_no (parK_3 hqt32_1)
        rw [e1, e2, e3, e4, e5]
        exact ⟨_, rfl, none, 0, rfl, Row.nil, hb⟩
      · have hqt32_1b := hqt32_1
        replace hqt32_1 := Bool.eq_false_iff.1 hqt32_1
        try simp only [ne_eq, decide_eq_true_eq, Bool.and_eq_true, Bool.or_eq_true, Bool.not_eq_true', decide_eq_false_iff_not] at hqt32_1
        refine wp_skip ?_
        (try simp only [Exit.then, Exit.inBlock, ↓reduceIte, Nat.reduceEqDiff])
        refine hK5 _ _ ?_
        refine wp_seq_k (fun K8 hK8 => ?_)
        refine wp_region_lit ?_
        refine sqv hf (r_loadA (cs := [(.int .u8 ((opN s : Nat) : Int)), (.int .u64 ((resA (opN s) (wsP s)))), (.int .u64 ((resB (opN s) (wsP s)))), (.slice aL (((resL (opN s) (wsP s)).length)) cL)]) rfl Tryd.underlying25 rfl (by kernel_rfl) (cellsAt_blk hk4)) rfl rfl rfl ?_; clear hf fa; intro fa hf
        refine sqn hf (d_storeK (T := 25) (v := (.agg #[(.int .u8 ((opN s : Nat) : Int)), (.int .u64 ((resA (opN s) (wsP s)))), (.int .u64 ((resB (opN s) (wsP s)))), (.slice aL (((resL (opN s) (wsP s)).length)) cL)])) (cs := #[(.int .u8 (0 : Int)), (.int .u64 (0 : Int)), (.int .u64 (0 : Int)), (.slice none 0 0)]) (cs' := #[(.int .u8 ((opN s : Nat) : Int)), (.int .u64 ((resA (opN s) (wsP s)))), (.int .u64 ((resB (opN s) (wsP s)))), (.slice aL (((resL (opN s) (wsP s)).length)) cL)]) rfl rfl (by kernel_rfl) (by kernel_rfl) hk1 (by kernel_rfl) (by kernel_rfl)) rfl rfl ?_; clear hf fa; rintro fa _ w9 ⟨hk6, hg4⟩ hf
        replace hk4 := blk_grown hk4 hg4 (by omega)
        replace hr1 := Row.grown hr1 hg4 (Row.ne_type hr1 hk1 rfl)
        replace hr2 := Row.grown hr2 hg4 (Row.ne_type hr2 hk1 rfl)
        replace hb := hb.trans (grown_below hg4 hb.size hBb1)
        refine sqv hf (r_assign rfl) rfl rfl rfl ?_; clear hf fa; intro fa hf
        apply wpList_nil
        (try simp only [Exit.then, Exit.inBlock, ↓reduceIte, Nat.reduceEqDiff])
        refine hK8 _ _ ?_
        refine wp_ret ?_
        (try simp only [Exit.then, Exit.inBlock])
        refine retCT hf rfl rfl hk6 Tryd.underlying25 rfl (by kernel_rfl) rfl ?_
        obtain ⟨e1, e2, e3, e4, e5⟩ := par_yes (parK_4 hsp1 hsp2 (Classical.not_not.1 hqt32_1))
        rw [e1, e2, e3, e4, e5]
        exact ⟨_, rfl, _, _, rfl, hr2, hb⟩
    · have hsp2b : decide (resK (opN s) (wsP s) = true) = false := decide_eq_false hsp2
      refine wp_region_lit ?_
      refine sqv hf (Runs.veq (r_move rfl) (congrArg Value.bool (show _ = true from hsp1))) rfl rfl rfl ?_; clear hf fa; intro fa hf
      refine sqv hf (Runs.veq (v' := (.bool false)) (r_not rfl) rfl) rfl rfl rfl ?_; clear hf fa; intro fa hf
      refine sqv hf (r_move rfl) rfl rfl rfl ?_; clear hf fa; intro fa hf
      refine sqgd (act := true) (g := 2) (want := false) (ag := true) (c := false) hf (by rfl) (by rfl) rfl (fun _ =>  Runs.does (R := fun vq wq => vq = (.slice (some ⟨rb1, 0, none⟩) (((wordsS s)).length) rc1) ∧ w5 = wq) (r_move rfl) ⟨rfl, rfl⟩) (fun h => by cases h) rfl ?_; clear hf fa; rintro fa _ _ ⟨rfl, rfl⟩ hf
      change Fr _ _ ((22, (.slice (some ⟨rb1, 0, none⟩) (((wordsS s)).length) rc1)) :: _) at hf
      refine sqgd (act := true) (g := 2) (want := false) (ag := true) (c := false) hf (by rfl) (by rfl) rfl (fun _ =>  Runs.does (R := fun vq wq => vq = (.slice (slAt (some ⟨rb1, 0, none⟩) rc1 1 1) (((((wordsS s)).length) - 1)) (rc1 - 1)) ∧ w5 = wq) (r_slfrom (l := 1) (sz := 1) rfl rfl Tryd.underlying43 (by kernel_rfl) rfl (by omega)) ⟨rfl, rfl⟩) (fun h => by cases h) rfl ?_; clear hf fa; rintro fa _ _ ⟨rfl, rfl⟩ hf
      change Fr _ _ ((23, (.slice (slAt (some ⟨rb1, 0, none⟩) rc1 1 1) (((((wordsS s)).length) - 1)) (rc1 - 1))) :: _) at hf
      have hrest := (rest_any (opN s) b2 (slAt (some ⟨rb1, 0, none⟩) rc1 1 1) (wsP s) ((rc1 - 1)) _ (fun q hq => slAt_ne hq (Row.ne_type hr1 hk3 rfl)) hk3 (slAt_rd (l := 1) (X := wsP s) (by intros; rfl) hr1 (by show (wsP s).take (wsP s).length = wsP s; exact List.take_length) (by rw [hwl]; omega)) (by have := Row.caps hr1; omega) (by omega) hwW hop)
      rw [hwl] at hrest
      refine sqgd (act := true) (g := 2) (want := false) (ag := true) (c := false) hf (by rfl) (by rfl) rfl (fun _ =>  (d_callX (vs := [(.pointer (some ⟨b2, 0, none⟩)), (.slice (slAt (some ⟨rb1, 0, none⟩) rc1 1 1) (((((wordsS s)).length) - 1)) (rc1 - 1))]) rfl Tryd.func28 (by kernel_rfl) (by kernel_rfl) (calls_val hrest))) (fun h => by cases h) rfl ?_; clear hf fa; rintro fa _ w10 ⟨rfl, aL, cL, hk7, hr3, hg5⟩ hf
      replace hr3 := Row.rebase hr3 hb.size
      replace hk1 := blk_grown hk1 hg5 (by omega)
      replace hr1 := Row.grown hr1 hg5 (Row.ne_type hr1 hk3 rfl)
      replace hb := hb.trans (grown_below hg5 hb.size hBb2)
      have hcl := Row.caps hr3
      change Fr _ _ ((24, (.bool (resK (opN s) (wsP s)))) :: _) at hf
      refine sqgd (act := true) (g := 2) (want := false) (ag := true) (c := false) hf (by rfl) (by rfl) rfl (fun _ =>  Runs.does (R := fun vq wq => vq = (.bool true) ∧ w10 = wq) (Runs.veq (r_not rfl) (congrArg Value.bool (show _ = true from (by rw [Bool.eq_false_iff.2 hsp2]; rfl)))) ⟨rfl, rfl⟩) (fun h => by cases h) rfl ?_; clear hf fa; rintro fa _ _ ⟨rfl, rfl⟩ hf
      change Fr _ _ ((25, (.bool true)) :: _) at hf
      refine sqv hf (r_pick (b := false) rfl rfl rfl rfl) rfl rfl rfl ?_; clear hf fa; intro fa hf
      refine sqv hf (r_move rfl) rfl rfl rfl ?_; clear hf fa; intro fa hf
      refine sqgF (act := false) (ag := true) (c := true) (v := .bool false) hf rfl rfl rfl (fun hact => by cases hact) rfl rfl ?_; clear hf fa; intro fa hf
      refine sqgF (act := false) (ag := true) (c := true) (v := .bool false) hf rfl rfl rfl (fun hact => by cases hact) rfl rfl ?_; clear hf fa; intro fa hf
      refine sqgF (act := false) (ag := true) (c := true) (v := .bool false) hf rfl rfl rfl (fun hact => by cases hact) rfl rfl ?_; clear hf fa; intro fa hf
      refine sqgF (act := false) (ag := true) (c := true) (v := .bool false) hf rfl rfl rfl (fun hact => by cases hact) rfl rfl ?_; clear hf fa; intro fa hf
      refine sqv hf (r_pick (b := true) rfl rfl rfl rfl) rfl rfl rfl ?_; clear hf fa; intro fa hf
      apply wpList_nil
      (try simp only [Exit.then, Exit.inBlock, ↓reduceIte, Nat.reduceEqDiff])
      refine hK6 _ _ ?_
      refine wp_cond_true (hf.ev rfl) ?_
      refine wp_seq_k (fun K9 hK9 => ?_)
      refine wp_region_lit ?_
      refine sqv hf (r_build (vs := []) (cs := #[(.int .u8 (0 : Int)), (.int .u64 (0 : Int)), (.int .u64 (0 : Int)), (.slice none 0 0)]) rfl (fun _ => by kernel_rfl)) rfl rfl rfl ?_; clear hf fa; intro fa hf
      refine sqn hf (d_storeK (T := 25) (v := (.agg #[(.int .u8 (0 : Int)), (.int .u64 (0 : Int)), (.int .u64 (0 : Int)), (.slice none 0 0)])) (cs := #[(.int .u8 (0 : Int)), (.int .u64 (0 : Int)), (.int .u64 (0 : Int)), (.slice none 0 0)]) (cs' := #[(.int .u8 (0 : Int)), (.int .u64 (0 : Int)), (.int .u64 (0 : Int)), (.slice none 0 0)]) rfl rfl (by kernel_rfl) (by kernel_rfl) hk1 (by kernel_rfl) (by kernel_rfl)) rfl rfl ?_; clear hf fa; rintro fa _ w11 ⟨hk8, hg6⟩ hf
      replace hk7 := blk_grown hk7 hg6 (by omega)
      replace hr1 := Row.grown hr1 hg6 (Row.ne_type hr1 hk1 rfl)
      replace hr3 := Row.grown hr3 hg6 (Row.ne_type hr3 hk1 rfl)
      replace hb := hb.trans (grown_below hg6 hb.size hBb1)
      refine sqv hf (r_assign rfl) rfl rfl rfl ?_; clear hf fa; intro fa hf
      apply wpList_nil
      (try simp only [Exit.then, Exit.inBlock, ↓reduceIte, Nat.reduceEqDiff])
      refine hK9 _ _ ?_
      refine wp_ret ?_
      (try simp only [Exit.then, Exit.inBlock])
      refine retCT hf rfl rfl hk8 Tryd.underlying25 rfl (by kernel_rfl) rfl ?_
      obtain ⟨e1, e2, e3, e4, e5⟩ := par_no (parK_2 hsp2)
      rw [e1, e2, e3, e4, e5]
      exact ⟨_, rfl, none, 0, rfl, Row.nil, hb⟩
  · have hsp1b : decide ((findP (w0P s)).2 = true) = false := decide_eq_false hsp1
    refine wp_region_lit ?_
    refine sqv hf (Runs.veq (r_move rfl) (congrArg Value.bool (show _ = false from (Bool.eq_false_iff.2 hsp1)))) rfl rfl rfl ?_; clear hf fa; intro fa hf
    refine sqv hf (Runs.veq (v' := (.bool true)) (r_not rfl) rfl) rfl rfl rfl ?_; clear hf fa; intro fa hf
    refine sqv hf (r_move rfl) rfl rfl rfl ?_; clear hf fa; intro fa hf
    refine sqgF (act := false) (ag := true) (c := true) (v := .bool false) hf rfl rfl rfl (fun hact => by cases hact) rfl rfl ?_; clear hf fa; intro fa hf
    refine sqgF (act := false) (ag := true) (c := true) (v := .bool false) hf rfl rfl rfl (fun hact => by cases hact) rfl rfl ?_; clear hf fa; intro fa hf
    refine sqgF (act := false) (ag := true) (c := true) (v := .bool false) hf rfl rfl rfl (fun hact => by cases hact) rfl rfl ?_; clear hf fa; intro fa hf
    refine sqgF (act := false) (ag := true) (c := true) (v := .bool false) hf rfl rfl rfl (fun hact => by cases hact) rfl rfl ?_; clear hf fa; intro fa hf
    refine sqv hf (r_pick (b := true) rfl rfl rfl rfl) rfl rfl rfl ?_; clear hf fa; intro fa hf
    refine sqv hf (r_move rfl) rfl rfl rfl ?_; clear hf fa; intro fa hf
    refine sqgF (act := false) (ag := true) (c := true) (v := .bool false) hf rfl rfl rfl (fun hact => by cases hact) rfl rfl ?_; clear hf fa; intro fa hf
    refine sqgF (act := false) (ag := true) (c := true) (v := .bool false) hf rfl rfl rfl (fun hact => by cases hact) rfl rfl ?_; clear hf fa; intro fa hf
    refine sqgF (act := false) (ag := true) (c := true) (v := .bool false) hf rfl rfl rfl (fun hact => by cases hact) rfl rfl ?_; clear hf fa; intro fa hf
    refine sqgF (act := false) (ag := true) (c := true) (v := .bool false) hf rfl rfl rfl (fun hact => by cases hact) rfl rfl ?_; clear hf fa; intro fa hf
    refine sqv hf (r_pick (b := true) rfl rfl rfl rfl) rfl rfl rfl ?_; clear hf fa; intro fa hf
    apply wpList_nil
    (try simp only [Exit.then, Exit.inBlock, ↓reduceIte, Nat.reduceEqDiff])
    refine hK6 _ _ ?_
    refine wp_cond_true (hf.ev rfl) ?_
    refine wp_seq_k (fun K10 hK10 => ?_)
    refine wp_region_lit ?_
    refine sqv hf (r_build (vs := []) (cs := #[(.int .u8 (0 : Int)), (.int .u64 (0 : Int)), (.int .u64 (0 : Int)), (.slice none 0 0)]) rfl (fun _ => by kernel_rfl)) rfl rfl rfl ?_; clear hf fa; intro fa hf
    refine sqn hf (d_storeK (T := 25) (v := (.agg #[(.int .u8 (0 : Int)), (.int .u64 (0 : Int)), (.int .u64 (0 : Int)), (.slice none 0 0)])) (cs := #[(.int .u8 (0 : Int)), (.int .u64 (0 : Int)), (.int .u64 (0 : Int)), (.slice none 0 0)]) (cs' := #[(.int .u8 (0 : Int)), (.int .u64 (0 : Int)), (.int .u64 (0 : Int)), (.slice none 0 0)]) rfl rfl (by kernel_rfl) (by kernel_rfl) hk1 (by kernel_rfl) (by kernel_rfl)) rfl rfl ?_; clear hf fa; rintro fa _ w12 ⟨hk9, hg7⟩ hf
    replace hk3 := blk_grown hk3 hg7 (by omega)
    replace hr1 := Row.grown hr1 hg7 (Row.ne_type hr1 hk1 rfl)
    replace hb := hb.trans (grown_below hg7 hb.size hBb1)
    refine sqv hf (r_assign rfl) rfl rfl rfl ?_; clear hf fa; intro fa hf
    apply wpList_nil
    (try simp only [Exit.then, Exit.inBlock, ↓reduceIte, Nat.reduceEqDiff])
    refine hK10 _ _ ?_
    refine wp_ret ?_
    (try simp only [Exit.then, Exit.inBlock])
    refine retCT hf rfl rfl hk9 Tryd.underlying25 rfl (by kernel_rfl) rfl ?_
    obtain ⟨e1, e2, e3, e4, e5⟩ := par_no (parK_1 hsp1)
    rw [e1, e2, e3, e4, e5]
    exact ⟨_, rfl, none, 0, rfl, Row.nil, hb⟩
end Go.Proofs.YtpalmpfkliepfaaDoor

namespace Go.Proofs.YtpalmpfkliepfaaDoor
open Go.RowKit Ut
set_option linter.unusedVariables false
set_option linter.unusedSimpArgs false
attribute [local irreducible] infP ofP chkP rchkP

theorem behind_len2 {op : Nat} {A B : Int} {L : List Int} (hA : 0 ≤ A ∧ A < 18446744073709551616) (hB : 0 ≤ B ∧ B < 18446744073709551616) (hL : ∀ y ∈ L, 0 ≤ y ∧ y < 4294967296) : (behindP op A B L).size ≤ 100 + 21 * L.length := by
  have h1 := dS_len (inI_sA hA)
  have h2 := dS_len (inI_sA hB)
  have h3 := dS_len (inI_s32 A)
  have h4 := blkS_len A
  have h5 := foldD_len (f := dS) (B := 20) L ⟨#[]⟩ (fun y hy => dS_len (inI_u32 (by have := hL y hy; omega)))
  have e0 : (⟨#[]⟩ : ByteArray).size = 0 := rfl
  unfold behindP
  split
  · rw [e0]; omega
  split
  · omega
  split
  · rw [ByteArray.size_append, ByteArray.size_append]
    have e : ((⟨#[32]⟩ : ByteArray) : ByteArray).size = 1 := rfl
    omega
  split
  · rw [ByteArray.size_append, ByteArray.size_append, ByteArray.size_append]
    have e : ((⟨#[32, 97, 108, 105, 103, 110, 61]⟩ : ByteArray) : ByteArray).size = 7 := rfl
    have e2 : ((⟨#[32, 111, 102, 102, 115, 101, 116, 61]⟩ : ByteArray) : ByteArray).size = 8 := rfl
    omega
  split
  · rw [ByteArray.size_append]
    have e : ((⟨#[32]⟩ : ByteArray) : ByteArray).size = 1 := rfl
    omega
  · rw [ByteArray.size_append]
    have e : ((⟨#[32]⟩ : ByteArray) : ByteArray).size = 1 := rfl
    omega
theorem lineP_len {op : Nat} {A B : Int} {L : List Int} (hop : op < 256) (hA : 0 ≤ A ∧ A < 18446744073709551616) (hB : 0 ≤ B ∧ B < 18446744073709551616) (hL : ∀ y ∈ L, 0 ≤ y ∧ y < 4294967296) : (lineP op A B L).size ≤ 124 + 21 * L.length := by
  have h1 := behind_len2 (op := op) hA hB hL
  have h2 := nmO_len hop
  have e0 : (⟨#[]⟩ : ByteArray).size = 0 := rfl
  unfold lineP
  split
  · rw [ByteArray.size_append]; omega
  · rw [e0]; omega
theorem line_bad {op : Nat} {A B : Int} {L : List Int} (h : rightP op A B L.length ≠ 0) : lineP op A B L = ⟨#[]⟩ := by unfold lineP; rw [if_neg h]
theorem pE_empty : pE ⟨#[]⟩ = 49 := (par_no (parK_1 (by
  have h : w0P ⟨#[]⟩ = ⟨#[]⟩ := rfl
  unfold findP; rw [h, if_pos rfl]; decide))).2.2.2.2
theorem same_eq {o A' B' : Int} {L' : List Int} (op : Nat) (A B : Int) (L : List Int) (a a2 : Option Addr) (c c2 : Nat) (w : World) (eo : o = ((op : Nat) : Int)) (eA : A' = A) (eB : B' = B) (eL : L' = L) (hl : RdS 1 (vInt .u32) w a L') (hl2 : RdS 1 (vInt .u32) w a2 L) (hc : L'.length ≤ c) (hc2 : L.length ≤ c2) (hn : L.length ≤ 100000) : Calls Tryd.prog 11 #[(.agg #[(.int .u8 o), (.int .u64 A'), (.int .u64 B'), (.slice a L'.length c)]), (.agg #[(.int .u8 ((op : Nat) : Int)), (.int .u64 A), (.int .u64 B), (.slice a2 L.length c2)])] w fun e w' => e = .returned (.bool true) ∧ Below w.heap.size w w' := by
  subst eo eA eB eL
  exact same07_any op _ _ _ a a2 c c2 w hl hl2 hc hc2 hn
theorem line_back {op : Nat} {A B : Int} {L : List Int} (hop : op < 256) (hr : rightP op A B L.length = 0) (hA : 0 ≤ A ∧ A < 18446744073709551616) (hB : 0 ≤ B) (hL : ∀ y ∈ L, 0 ≤ y ∧ y < 4294967296) :
    pO (lineP op A B L) = ((op : Nat) : Int) ∧ pA (lineP op A B L) = A ∧ pB (lineP op A B L) = B ∧ pL (lineP op A B L) = L ∧ pE (lineP op A B L) = 0 := by
  obtain ⟨h1, h2, h3⟩ := par_back hop hr hA hB hL
  obtain ⟨b1, b2, b3, b4⟩ := rest_back hr hA hB hL
  obtain ⟨e1, e2, e3, e4, e5⟩ := par_yes h3
  rw [h1, h2] at e2 e3 e4
  rw [h1] at e1
  rw [b2] at e2
  rw [b3] at e3
  rw [b4] at e4
  exact ⟨e1, e2, e3, e4, e5⟩

set_option maxHeartbeats 1000000 in
set_option maxRecDepth 100000 in
theorem textLines_any (op : Nat) (A B : Int) (L : List Int) (a : Option Addr) (c : Nat) (w : World) (hl : RdS 1 (vInt .u32) w a L) (hL : ∀ y ∈ L, 0 ≤ y ∧ y < 4294967296) (hop : op < 256) (hA : 0 ≤ A ∧ A < 18446744073709551616) (hB : 0 ≤ B ∧ B < 18446744073709551616) (hc : L.length ≤ c) (hcm : c ≤ maxLen) : Calls Tryd.prog 3 #[(.agg #[(.int .u8 ((op : Nat) : Int)), (.int .u64 A), (.int .u64 B), (.slice a L.length c)])] w fun e w' => e = .returned (.bool true) ∧ Below w.heap.size w w' := by
  refine sx_enter (L := [(0, (.agg #[(.int .u8 ((op : Nat) : Int)), (.int .u64 A), (.int .u64 B), (.slice a L.length c)]))]) Tryd.func3 rfl rfl rfl rfl (fun fa hf => ?_)
  have hb : Below w.heap.size w w := Below.refl _ _
  refine wp_seq_k (fun K1 hK1 => ?_)
  refine wp_region_lit ?_
  refine sqdt hf (d_box (cs := #[(.int .u8 ((op : Nat) : Int)), (.int .u64 A), (.int .u64 B), (.slice a L.length c)]) rfl rfl) rfl rfl rfl ?_; clear hf fa; rintro fa _ w1 ⟨b1, rfl, hle1, hk1, he1⟩ hf
  have hBb1 : w.heap.size ≤ b1 := Nat.le_trans hb.size hle1
  replace hb := hb.trans (Below.mono he1 hb.size)
  refine sqv hf (r_assign rfl) rfl rfl rfl ?_; clear hf fa; intro fa hf
  apply wpList_nil
  (try simp only [Exit.then, Exit.inBlock, ↓reduceIte, Nat.reduceEqDiff])
  refine hK1 _ _ ?_
  refine wp_seq_k (fun K2 hK2 => ?_)
  refine wp_seq_k (fun K3 hK3 => ?_)
  refine wp_region_lit ?_
  refine sqdt hf (d_callB (vs := []) rfl Tryd.func6 (by kernel_rfl) (by kernel_rfl) (awake46_any _)) rfl rfl rfl ?_; clear hf fa; rintro fa _ w2 ⟨rfl, he2⟩ hf
  replace hk1 := blk_ext hk1 he2
  replace hb := hb.trans (Below.mono he2 hb.size)
  refine sqv hf (Runs.veq (v' := (.bool false)) (r_not rfl) rfl) rfl rfl rfl ?_; clear hf fa; intro fa hf
  apply wpList_nil
  (try simp only [Exit.then, Exit.inBlock, ↓reduceIte, Nat.reduceEqDiff])
  refine hK3 _ _ ?_
  refine wp_cond_false (hf.ev rfl) ?_
  refine wp_skip ?_
  (try simp only [Exit.then, Exit.inBlock, ↓reduceIte, Nat.reduceEqDiff])
  refine hK2 _ _ ?_
  refine wp_seq_k (fun K4 hK4 => ?_)
  refine wp_seq_k (fun K5 hK5 => ?_)
  refine wp_region_lit ?_
  refine sqv hf (r_fa rfl Tryd.underlying25 (f := 3) (q := 3) rfl (by kernel_rfl) rfl) rfl rfl rfl ?_; clear hf fa; intro fa hf
  refine sqv hf (r_load (v := (.slice a L.length c)) rfl Tryd.underlying23 rfl (cell_blk hk1 rfl)) rfl rfl rfl ?_; clear hf fa; intro fa hf
  refine sqv hf (r_lensl rfl Tryd.underlying23) rfl rfl rfl ?_; clear hf fa; intro fa hf
  refine sqv hf (r_gt rfl rfl) rfl rfl rfl ?_; clear hf fa; intro fa hf
  apply wpList_nil
  (try simp only [Exit.then, Exit.inBlock, ↓reduceIte, Nat.reduceEqDiff])
  refine hK5 _ _ ?_
  refine wp_cond_split (t := (decide ((100 : Int) < ((L.length : Nat) : Int)))) (hf.ev rfl) (fun hqt11_1 => ?_) (fun hqt11_1 => ?_)
  · have hqt11_1b := hqt11_1
    try simp only [decide_eq_true_eq, Bool.and_eq_true, Bool.or_eq_true, Bool.not_eq_true', decide_eq_false_iff_not, ne_eq, Bool.not_eq_true] at hqt11_1
    refine wp_seq_k (fun K6 hK6 => ?_)
    refine wp_region_lit ?_
    refine sqv hf (r_assign rfl) rfl rfl rfl ?_; clear hf fa; intro fa hf
    apply wpList_nil
    (try simp only [Exit.then, Exit.inBlock, ↓reduceIte, Nat.reduceEqDiff])
    refine hK6 _ _ ?_
    refine wp_ret ?_
    (try simp only [Exit.then, Exit.inBlock])
    refine ret1 hf rfl rfl ?_
    exact ⟨rfl, hb⟩
  · have hqt11_1b := hqt11_1
    replace hqt11_1 := Bool.eq_false_iff.1 hqt11_1
    try simp only [ne_eq, decide_eq_true_eq, Bool.and_eq_true, Bool.or_eq_true, Bool.not_eq_true', decide_eq_false_iff_not] at hqt11_1
    refine wp_skip ?_
    (try simp only [Exit.then, Exit.inBlock, ↓reduceIte, Nat.reduceEqDiff])
    refine hK4 _ _ ?_
    refine wp_seq_k (fun K7 hK7 => ?_)
    refine wp_region_lit ?_
    refine sqv hf (r_loadA (cs := [(.int .u8 ((op : Nat) : Int)), (.int .u64 A), (.int .u64 B), (.slice a L.length c)]) rfl Tryd.underlying25 rfl (by kernel_rfl) (cellsAt_blk hk1)) rfl rfl rfl ?_; clear hf fa; intro fa hf
    refine sqdt hf (d_callB (vs := [(.agg #[(.int .u8 ((op : Nat) : Int)), (.int .u64 A), (.int .u64 B), (.slice a L.length c)])]) rfl Tryd.func7 (by kernel_rfl) (by kernel_rfl) (line_any op A B L a c _ (RdS.ext hl hb) hL hop hA hB hc (by have h := hqt11_1; omega))) rfl rfl rfl ?_; clear hf fa; rintro fa _ w3 ⟨rfl, he3⟩ hf
    replace hk1 := blk_ext hk1 he3
    replace hb := hb.trans (Below.mono he3 hb.size)
    refine sqv hf (r_assign rfl) rfl rfl rfl ?_; clear hf fa; intro fa hf
    apply wpList_nil
    (try simp only [Exit.then, Exit.inBlock, ↓reduceIte, Nat.reduceEqDiff])
    refine hK7 _ _ ?_
    refine wp_seq_k (fun K8 hK8 => ?_)
    refine wp_seq_k (fun K9 hK9 => ?_)
    refine wp_region_lit ?_
    refine sqv hf (r_move rfl) rfl rfl rfl ?_; clear hf fa; intro fa hf
    refine sqv hf (r_loadA (cs := [(.int .u8 ((op : Nat) : Int)), (.int .u64 A), (.int .u64 B), (.slice a L.length c)]) rfl Tryd.underlying25 rfl (by kernel_rfl) (cellsAt_blk hk1)) rfl rfl rfl ?_; clear hf fa; intro fa hf
    refine sqdt hf (d_callB (vs := [(.agg #[(.int .u8 ((op : Nat) : Int)), (.int .u64 A), (.int .u64 B), (.slice a L.length c)])]) rfl Tryd.func8 (by kernel_rfl) (by kernel_rfl) (rline_any op A B L a c _ (RdS.ext hl hb) hL hop hA hB hc (by have h := hqt11_1; omega))) rfl rfl rfl ?_; clear hf fa; rintro fa _ w4 ⟨rfl, he4⟩ hf
    replace hk1 := blk_ext hk1 he4
    replace hb := hb.trans (Below.mono he4 hb.size)
    refine sqv hf (Runs.veq (r_sne rfl rfl) (congrArg Value.bool (show _ = false from (by simp)))) rfl rfl rfl ?_; clear hf fa; intro fa hf
    apply wpList_nil
    (try simp only [Exit.then, Exit.inBlock, ↓reduceIte, Nat.reduceEqDiff])
    refine hK9 _ _ ?_
    refine wp_cond_false (hf.ev rfl) ?_
    refine wp_skip ?_
    (try simp only [Exit.then, Exit.inBlock, ↓reduceIte, Nat.reduceEqDiff])
    refine hK8 _ _ ?_
    refine wp_seq_k (fun K10 hK10 => ?_)
    refine wp_region_lit ?_
    refine sqv hf (r_move rfl) rfl rfl rfl ?_; clear hf fa; intro fa hf
    refine sqdt hf (d_callX (vs := [(.string (lineP op A B L))]) rfl Tryd.func9 (by kernel_rfl) (by kernel_rfl) (parse_any (lineP op A B L) _ (by have := lineP_len hop hA hB hL; omega))) rfl rfl rfl ?_; clear hf fa; rintro fa _ w5 ⟨aL1, cL1, rfl, hr1, he5⟩ hf
    replace hr1 := Row.rebase hr1 hb.size
    replace hk1 := blk_ext hk1 he5
    replace hb := hb.trans (Below.mono he5 hb.size)
    have hcaL1 := Row.caps hr1
    refine sqv hf (r_move rfl) rfl rfl rfl ?_; clear hf fa; intro fa hf
    refine sqv hf (r_extract rfl (i := 0) rfl) rfl rfl rfl ?_; clear hf fa; intro fa hf
    refine sqv hf (r_extract rfl (i := 1) rfl) rfl rfl rfl ?_; clear hf fa; intro fa hf
    refine sqdt hf (d_alloc (z := (.agg #[(.int .u8 (0 : Int)), (.int .u64 (0 : Int)), (.int .u64 (0 : Int)), (.slice none 0 0)])) (cs := #[(.int .u8 (0 : Int)), (.int .u64 (0 : Int)), (.int .u64 (0 : Int)), (.slice none 0 0)]) (by kernel_rfl) rfl) rfl rfl rfl ?_; clear hf fa; rintro fa _ w6 ⟨b2, rfl, hle2, hk2, he6⟩ hf
    have hBb2 : w.heap.size ≤ b2 := Nat.le_trans hb.size hle2
    have : b1 < b2 := Nat.lt_of_lt_of_le (blk_lt hk1) hle2
    replace hk1 := blk_ext hk1 he6
    replace hr1 := Row.ext hr1 he6
    replace hb := hb.trans (Below.mono he6 hb.size)
    refine sqn hf (d_storeK (T := 25) (v := (.agg #[(.int .u8 ((pO (lineP op A B L)))), (.int .u64 ((pA (lineP op A B L)))), (.int .u64 ((pB (lineP op A B L)))), (.slice aL1 (((pL (lineP op A B L)).length)) cL1)])) (cs := #[(.int .u8 (0 : Int)), (.int .u64 (0 : Int)), (.int .u64 (0 : Int)), (.slice none 0 0)]) (cs' := #[(.int .u8 ((pO (lineP op A B L)))), (.int .u64 ((pA (lineP op A B L)))), (.int .u64 ((pB (lineP op A B L)))), (.slice aL1 (((pL (lineP op A B L)).length)) cL1)]) rfl rfl (by kernel_rfl) (by kernel_rfl) hk2 (by kernel_rfl) (by kernel_rfl)) rfl rfl ?_; clear hf fa; rintro fa _ w7 ⟨hk3, hg1⟩ hf
    replace hk1 := blk_grown hk1 hg1 (by omega)
    replace hr1 := Row.grown hr1 hg1 (Row.ne_type hr1 hk2 rfl)
    replace hb := hb.trans (grown_below hg1 hb.size hBb2)
    refine sqv hf (r_assign rfl) rfl rfl rfl ?_; clear hf fa; intro fa hf
    apply wpList_nil
    (try simp only [Exit.then, Exit.inBlock, ↓reduceIte, Nat.reduceEqDiff])
    refine hK10 _ _ ?_
    refine wp_seq_k (fun K11 hK11 => ?_)
    refine wp_seq_k (fun K12 hK12 => ?_)
    refine wp_region_lit ?_
    refine sqv hf (r_loadA (cs := [(.int .u8 ((op : Nat) : Int)), (.int .u64 A), (.int .u64 B), (.slice a L.length c)]) rfl Tryd.underlying25 rfl (by kernel_rfl) (cellsAt_blk hk1)) rfl rfl rfl ?_; clear hf fa; intro fa hf
    refine sqdt hf (d_callB (vs := [(.agg #[(.int .u8 ((op : Nat) : Int)), (.int .u64 A), (.int .u64 B), (.slice a L.length c)])]) rfl Tryd.func10 (by kernel_rfl) (by kernel_rfl) (rright_any op A B L a c _ hop hA hB hc (by have h := hqt11_1; omega))) rfl rfl rfl ?_; clear hf fa; rintro fa _ w8 ⟨rfl, he7⟩ hf
    replace hk1 := blk_ext hk1 he7
    replace hk3 := blk_ext hk3 he7
    replace hr1 := Row.ext hr1 he7
    replace hb := hb.trans (Below.mono he7 hb.size)
    refine sqv hf (r_ne rfl rfl) rfl rfl rfl ?_; clear hf fa; intro fa hf
    apply wpList_nil
    (try simp only [Exit.then, Exit.inBlock, ↓reduceIte, Nat.reduceEqDiff])
    refine hK12 _ _ ?_
    refine wp_cond_split (t := (decide (((rightP op A B L.length)) ≠ (0 : Int)))) (hf.ev rfl) (fun hqt25_1 => ?_) (fun hqt25_1 => ?_)
    · have hqt25_1b := hqt25_1
      try simp only [decide_eq_true_eq, Bool.and_eq_true, Bool.or_eq_true, Bool.not_eq_true', decide_eq_false_iff_not, ne_eq, Bool.not_eq_true] at hqt25_1
      refine wp_seq_k (fun K13 hK13 => ?_)
      have hbd := line_bad (L := L) hqt25_1
      refine wp_region_lit ?_
      refine sqv hf (r_move rfl) rfl rfl rfl ?_; clear hf fa; intro fa hf
      refine sqv hf (Runs.veq (r_seq rfl rfl) (congrArg Value.bool (show _ = true from (by rw [hbd]; rfl)))) rfl rfl rfl ?_; clear hf fa; intro fa hf
      refine sqv hf (r_move rfl) rfl rfl rfl ?_; clear hf fa; intro fa hf
      refine sqgd (act := true) (g := 2) (want := true) (ag := true) (c := true) hf (by rfl) (by rfl) rfl (fun _ =>  Runs.does (R := fun vq wq => vq = (.int .i64 ((pE (lineP op A B L)))) ∧ w8 = wq) (r_move rfl) ⟨rfl, rfl⟩) (fun h => by cases h) rfl ?_; clear hf fa; rintro fa _ _ ⟨rfl, rfl⟩ hf
      change Fr _ _ ((29, (.int .i64 ((pE (lineP op A B L))))) :: _) at hf
      refine sqgd (act := true) (g := 2) (want := true) (ag := true) (c := true) hf (by rfl) (by rfl) rfl (fun _ =>  Runs.does (R := fun vq wq => vq = (.bool true) ∧ w8 = wq) (Runs.veq (r_eq rfl rfl) (congrArg Value.bool (show _ = true from (by rw [hbd, pE_empty]; rfl)))) ⟨rfl, rfl⟩) (fun h => by cases h) rfl ?_; clear hf fa; rintro fa _ _ ⟨rfl, rfl⟩ hf
      change Fr _ _ ((30, (.bool true)) :: _) at hf
      refine sqv hf (r_pick (b := true) rfl rfl rfl rfl) rfl rfl rfl ?_; clear hf fa; intro fa hf
      refine sqv hf (r_assign rfl) rfl rfl rfl ?_; clear hf fa; intro fa hf
      apply wpList_nil
      (try simp only [Exit.then, Exit.inBlock, ↓reduceIte, Nat.reduceEqDiff])
      refine hK13 _ _ ?_
      refine wp_ret ?_
      (try simp only [Exit.then, Exit.inBlock])
      refine ret1 hf rfl rfl ?_
      exact ⟨rfl, hb⟩
    · have hqt25_1b := hqt25_1
      replace hqt25_1 := Bool.eq_false_iff.1 hqt25_1
      try simp only [ne_eq, decide_eq_true_eq, Bool.and_eq_true, Bool.or_eq_true, Bool.not_eq_true', decide_eq_false_iff_not] at hqt25_1
      refine wp_skip ?_
      (try simp only [Exit.then, Exit.inBlock, ↓reduceIte, Nat.reduceEqDiff])
      refine hK11 _ _ ?_
      refine wp_seq_k (fun K14 hK14 => ?_)
      have hlb := line_back hop (by have h := hqt25_1; omega) hA hB.1 hL
      refine wp_region_lit ?_
      refine sqv hf (r_move rfl) rfl rfl rfl ?_; clear hf fa; intro fa hf
      refine sqv hf (Runs.veq (r_eq rfl rfl) (congrArg Value.bool (show _ = true from (by rw [hlb.2.2.2.2]; rfl)))) rfl rfl rfl ?_; clear hf fa; intro fa hf
      refine sqv hf (r_move rfl) rfl rfl rfl ?_; clear hf fa; intro fa hf
      refine sqgd (act := true) (g := 2) (want := true) (ag := true) (c := true) hf (by rfl) (by rfl) rfl (fun _ =>  Runs.does (R := fun vq wq => vq = (.agg #[(.int .u8 ((pO (lineP op A B L)))), (.int .u64 ((pA (lineP op A B L)))), (.int .u64 ((pB (lineP op A B L)))), (.slice aL1 (((pL (lineP op A B L)).length)) cL1)]) ∧ w8 = wq) (r_loadA (cs := [(.int .u8 ((pO (lineP op A B L)))), (.int .u64 ((pA (lineP op A B L)))), (.int .u64 ((pB (lineP op A B L)))), (.slice aL1 (((pL (lineP op A B L)).length)) cL1)]) rfl Tryd.underlying25 rfl (by kernel_rfl) (cellsAt_blk hk3)) ⟨rfl, rfl⟩) (fun h => by cases h) rfl ?_; clear hf fa; rintro fa _ _ ⟨rfl, rfl⟩ hf
      change Fr _ _ ((35, (.agg #[(.int .u8 ((pO (lineP op A B L)))), (.int .u64 ((pA (lineP op A B L)))), (.int .u64 ((pB (lineP op A B L)))), (.slice aL1 (((pL (lineP op A B L)).length)) cL1)])) :: _) at hf
      refine sqgd (act := true) (g := 2) (want := true) (ag := true) (c := true) hf (by rfl) (by rfl) rfl (fun _ =>  Runs.does (R := fun vq wq => vq = (.agg #[(.int .u8 ((op : Nat) : Int)), (.int .u64 A), (.int .u64 B), (.slice a L.length c)]) ∧ w8 = wq) (r_loadA (cs := [(.int .u8 ((op : Nat) : Int)), (.int .u64 A), (.int .u64 B), (.slice a L.length c)]) rfl Tryd.underlying25 rfl (by kernel_rfl) (cellsAt_blk hk1)) ⟨rfl, rfl⟩) (fun h => by cases h) rfl ?_; clear hf fa; rintro fa _ _ ⟨rfl, rfl⟩ hf
      change Fr _ _ ((36, (.agg #[(.int .u8 ((op : Nat) : Int)), (.int .u64 A), (.int .u64 B), (.slice a L.length c)])) :: _) at hf
      refine sqgd (act := true) (g := 2) (want := true) (ag := true) (c := true) hf (by rfl) (by rfl) rfl (fun _ =>  (d_callB (vs := [(.agg #[(.int .u8 ((pO (lineP op A B L)))), (.int .u64 ((pA (lineP op A B L)))), (.int .u64 ((pB (lineP op A B L)))), (.slice aL1 (((pL (lineP op A B L)).length)) cL1)]), (.agg #[(.int .u8 ((op : Nat) : Int)), (.int .u64 A), (.int .u64 B), (.slice a L.length c)])]) rfl Tryd.func11 (by kernel_rfl) (by kernel_rfl) (same_eq op A B L _ _ _ _ _ hlb.1 hlb.2.1 hlb.2.2.1 hlb.2.2.2.1 (Row.rd (by intros; rfl) hr1) (RdS.ext hl hb) (by have := Row.caps hr1; omega) hc (by omega))) ) (fun h => by cases h) rfl ?_; clear hf fa; rintro fa _ w9 ⟨rfl, he8⟩ hf
      replace hk1 := blk_ext hk1 he8
      replace hk3 := blk_ext hk3 he8
      replace hr1 := Row.ext hr1 he8
      replace hb := hb.trans (Below.mono he8 hb.size)
      change Fr _ _ ((37, (.bool true)) :: _) at hf
      refine sqv hf (r_pick (b := true) rfl rfl rfl rfl) rfl rfl rfl ?_; clear hf fa; intro fa hf
      refine sqv hf (r_assign rfl) rfl rfl rfl ?_; clear hf fa; intro fa hf
      apply wpList_nil
      (try simp only [Exit.then, Exit.inBlock, ↓reduceIte, Nat.reduceEqDiff])
      refine hK14 _ _ ?_
      refine wp_ret ?_
      (try simp only [Exit.then, Exit.inBlock])
      refine ret1 hf rfl rfl ?_
      exact ⟨rfl, hb⟩
end Go.Proofs.YtpalmpfkliepfaaDoor

namespace Go.Proofs.YtpalmpfkliepfaaDoor.textLines
open Go.ChangeShapes Go.WideShapes Go.ChangeAt Go.RowKit
open Go.ChangeMaps (open_string shut_string)
set_option linter.unusedVariables false
set_option linter.unusedSimpArgs false

theorem own : ownKnob Tryd.prog.godebug = none := by kernel_rfl
theorem laidOut : laidOutB Tryd.prog = true := by kernel_rfl
theorem walk (d : MIn) (W : World) (g : fMIn W d) : Calls Tryd.prog 3 #[.agg #[.int .u8 d.1, .int .u64 d.2.1, .int .u64 d.2.2.1, .slice d.2.2.2.1.at' d.2.2.2.1.len d.2.2.2.1.cap]] W fun e w' => e = .returned (.bool true) ∧ Below W.heap.size W w' := by
  obtain ⟨o, A, B, L, u⟩ := d
  obtain ⟨g1, g2, g3, g4, _⟩ := g
  simp [fInt, Lit.wf, IntKind.min, IntKind.max, IntKind.signed, IntKind.bits] at g1 g2 g3
  obtain ⟨n, rfl⟩ : ∃ n : Nat, o = (n : Int) := ⟨o.toNat, by omega⟩
  have hl : RdS 1 (vInt .u32) W L.at' L.list := RdS.of_arg g4.2
  have h := textLines_any n A B L.list L.at' L.cap W hl (fun y hy => by
    obtain ⟨j, hj, rfl⟩ : ∃ j, j < L.len ∧ L.el j = y := by
      unfold Sl.list at hy
      obtain ⟨j, hj, e⟩ := List.mem_map.1 hy
      exact ⟨j, List.mem_range.1 hj, e⟩
    have hf := (g4.2.2.2.2 j hj).1
    simp [fInt, Lit.wf, IntKind.min, IntKind.max, IntKind.signed, IntKind.bits] at hf
    omega) (by omega) (by omega) (by omega) (by rw [Sl.list_length]; exact g4.2.1) g4.2.2.1
  rw [Sl.list_length] at h
  exact h

set_option maxRecDepth 100000 in
theorem lifted (os : Os) (started : os.Started) (H : Type) (enc : TypeId × Value → H) :
    ReturnsInHanded {} Tryd.checked os 3 .any (fun w args => (Rows.textLinesSpec.pre enc Tryd.prog Tryd.f3 Rows.textLinesRow.domain false w args ∧ laidMetH Tryd.prog Rows.textLinesRow.laid w) ∧ sizedMet enc Tryd.prog Tryd.f3 (OpenSpec.ofChange Rows.textLinesSpec) false w args)
      (Rows.textLinesSpec.post enc Tryd.prog Tryd.f3 false true false false) := by
  refine returnsInHanded_of_change_and (C := Tryd.checked) (X := fun w _ => laidMetH Tryd.prog Rows.textLinesRow.laid w) (fun _ _ _ hh h => h.of_heap hh) own started (by kernel_rfl) Tryd.func3
    (ChangeSpec.witness_shaped (enc := enc) (C := Tryd.checked) (os := os) (X := fun w _ => laidMetH Tryd.prog Rows.textLinesRow.laid w) false (World.laidAll Tryd.prog os Rows.textLinesRow.laid) #[.agg #[.int .u8 0, .int .u64 0, .int .u64 0, .slice none 0 0]] 8 (World.laidAll_os _ _ _)
      (World.shaped_of_ZipB (by kernel_rfl) (by kernel_rfl)) (by kernel_rfl) (by kernel_rfl) (by kernel_rfl)
      (by rw [MakeChecks.laidMetH_plain _ _ _ (by kernel_rfl)]; exact laidMet_laidAll _ (by kernel_rfl) (by kernel_rfl))) ?_
  intro W base args ds gs before hval0 hW hcnd hsz hL _
  have hval : ∀ (j : Nat) t v, Tryd.f3.params[j]? = some t → args[j]? = some v → Value.okWide Tryd.prog W .any base t v := hval0
  have hW' := hW
  obtain ⟨p, q, hA0, hV, rfl, hfz, hnd⟩ := hW
  have hA : DataW.TrodAll enc Tryd.prog W 0 (fun _ => true) true Tryd.f3.params.toList args.toList ds p := hA0
  rw [Tryd.params3] at hA hval
  obtain ⟨v0, vs0, x0, ds0, p0, q0, hargs, rfl, rfl, h0, r0⟩ := trodAll_cons hA
  obtain ⟨rfl, rfl, rfl⟩ := trodAll_nil r0
  obtain rfl : args = #[v0] := by cases args; simp_all
  obtain ⟨rfl, rfl⟩ := trodVars_none hV
  have k0 := h0
  have lt0 : ∀ x ∈ p0, x.block < W.heap.size := by obtain ⟨m, hm⟩ := k0; exact DataW.trod_lt m _ _ _ hm
  obtain ⟨cs0, rfl, _, _⟩ : ∃ cs, v0 = .agg cs ∧ cs.size = Tryd.prog.cellsOf 25 ∧ Row.okWide Tryd.prog W .any base 25 cs := by
    have := hval 0 25 v0 rfl rfl
    simpa [Value.okWide, Tryd.underlying25] using this
  obtain ⟨d0, e0, g0⟩ := (rdMIn).arg h0 (weights_at hsz (j := 0) (t := 25) (by kernel_rfl) rfl)
  replace e0 : cs0 = (_ : List Value).toArray := Array.ext' (by simpa [Value.cells] using e0)
  subst e0
  clear hA0 hval0
  refine (walk d0 W g0).mono fun e W' ⟨he, bel⟩ => ?_
  subst he
  exact ⟨_, rfl, _, _, _, [], _, [], hW', trodAll_mk1 (shut_bool Tryd.underlying4 _), (trodAll_cons_mk (Below.trod laidOut (by kernel_rfl) (of_decide_eq_true (by kernel_rfl)) k0 bel lt0) trodAll_mk0), rfl, bel.frame _, fun h => by cases h⟩

theorem over : Rows.TextLinesSaid :=
  OpenClaim.holds_of_wide 3 Tryd.f3 rfl rfl rfl rfl rfl rfl rfl ⟨rfl, rfl, rfl, rfl, rfl⟩ rfl rfl rfl rfl rfl (by kernel_rfl) Tryd.func3 (by kernel_rfl)
    (of_decide_eq_true (by kernel_rfl)) (by unfold Func.isWrapper; first | (rw [if_pos (by decide +kernel)]; kernel_rfl) | (rw [if_neg (by decide +kernel)]; exact ⟨rfl, rfl⟩))
    (fun os started H enc _ => lifted os started H enc)

/-- The statement: the tied card. -/
theorem proved : Rows.TextLinesCardSaid :=
  Claim7.holds_tied_plain_at .later [] [.data, .pinned] true (true, "1452cfc0cc647c3d0a7f82359f3ea450cdc05db002e7940a6a6c43ff579af210") false
    over (fun _ h => by cases h) (by kernel_rfl) (fun _ h => by cases h) textLines_row_tie rfl ⟨rfl, rfl⟩ (by kernel_rfl) rfl
    (fun f fn hf hfn => by
      obtain rfl : f = 3 := Option.some.inj ((show Tryd.prog.funcNamed "creel/creellaw46.TextLines" = some 3 by kernel_rfl).symm.trans hf) |>.symm
      obtain rfl : fn = Tryd.f3 := (Option.some.inj (Tryd.func3.symm.trans hfn)).symm
      exact ⟨by kernel_rfl, fun j t ht => by
        rw [Tryd.params3] at ht
        have hm : t ∈ [25] := by simpa using Array.mem_of_getElem? ht
        have hall : ([25].all fun u => !Tryd.prog.wantsStandIn u) = true := by kernel_rfl
        exact (show Tryd.prog.wantsStandIn t = false by simpa using List.all_eq_true.1 hall t hm)⟩)
    (by kernel_rfl)
#print axioms proved
end Go.Proofs.YtpalmpfkliepfaaDoor.textLines
