/- What is proved here: an instruction as a line, by the program and by the document. What is proved here: a line of words, by the program and by the document. What is proved here: the words of a line, by the document; numbers behind names. What is proved here: numbers among words; types by name. What is proved here: what stands behind a name, by the program. What is proved here: equal instructions are the same, by the document; the example. -/
import Derived.Test.YtpalmpfkliepfaaDoorTextBodiesMgAD
import Derived.Test.YtpalmpfkliepfaaDoorTextBodiesMgAA
import Derived.Lib.SplitLaws
namespace Go.Proofs.YtpalmpfkliepfaaDoor
open Go.RowKit Ut
set_option linter.unusedVariables false
set_option linter.unusedSimpArgs false
attribute [local irreducible] infP ofP chkP rchkP

def foldD {α : Type} (f : α → ByteArray) (s : ByteArray) (l : List α) : ByteArray := l.foldl (fun a y => a ++ ((⟨#[32]⟩ : ByteArray) ++ f y)) s
theorem take_at {α : Type} {l : List α} {k : Nat} {y : α} (h : l[k]? = some y) : l.take (k + 1) = l.take k ++ [y] := by rw [List.take_add_one, h]; rfl
theorem foldD_snoc {α : Type} {f : α → ByteArray} {s : ByteArray} {l : List α} {k : Nat} {y : α} (h : l[k]? = some y) : foldD f s (l.take k) ++ ((⟨#[32]⟩ : ByteArray) ++ f y) = foldD f s (l.take (k + 1)) := by
  rw [take_at h]; unfold foldD; rw [List.foldl_append]; rfl
theorem foldD_snoc2 {α : Type} {f : α → ByteArray} {s : ByteArray} {l : List α} {k : Nat} {y : α} (h : l[k]? = some y) : (foldD f s (l.take k) ++ (⟨#[32]⟩ : ByteArray)) ++ f y = foldD f s (l.take (k + 1)) := by
  rw [← foldD_snoc h, ByteArray.append_assoc]
theorem foldD_len {α : Type} {f : α → ByteArray} {B : Nat} (l : List α) : ∀ s : ByteArray, (∀ y ∈ l, (f y).size ≤ B) → (foldD f s l).size ≤ s.size + l.length * (B + 1) := by
  induction l with
  | nil => intro s _; simp [foldD]
  | cons a o ih =>
    intro s h
    have h1 := ih (s ++ ((⟨#[32]⟩ : ByteArray) ++ f a)) (fun y hy => h y (List.mem_cons_of_mem _ hy))
    have h2 := h a (List.mem_cons_self ..)
    have h3 : (s ++ ((⟨#[32]⟩ : ByteArray) ++ f a)).size = s.size + (1 + (f a).size) := by rw [ByteArray.size_append, ByteArray.size_append]; rfl
    unfold foldD at h1 ⊢
    rw [List.foldl_cons, List.length_cons, Nat.add_mul]
    omega

def sA (n : Int) : Int := if n < 9223372036854775808 then n else n - 18446744073709551616
def s32 (n : Int) : Int := if n % 4294967296 < 2147483648 then n % 4294967296 else n % 4294967296 - 4294967296
theorem wrap_sA {n : Int} (h : 0 ≤ n ∧ n < 18446744073709551616) : IntKind.wrap .i64 n = sA n := by unfold sA; rw [IntKind.wrap_i64]; split <;> omega
theorem inI_sA {n : Int} (h : 0 ≤ n ∧ n < 18446744073709551616) : inI (sA n) := by unfold sA inI; split <;> omega
theorem inI_s32 (n : Int) : inI (s32 n) := by unfold s32 inI; split <;> omega
theorem foldD_base {α : Type} {f : α → ByteArray} (s t : ByteArray) (l : List α) : foldD f (s ++ t) l = s ++ foldD f t l := by
  induction l generalizing t with
  | nil => rfl
  | cons y l ih =>
    show foldD f ((s ++ t) ++ ((⟨#[32]⟩ : ByteArray) ++ f y)) l = s ++ foldD f (t ++ ((⟨#[32]⟩ : ByteArray) ++ f y)) l
    rw [← ih, ByteArray.append_assoc]
theorem app_nil (s : ByteArray) : s ++ (⟨#[]⟩ : ByteArray) = s := by
  apply bl_inj; rw [bl_app]; exact List.append_nil _
def blkS (A : Int) : ByteArray := if A = 64 then ⟨#[]⟩ else (⟨#[32]⟩ : ByteArray) ++ tnameP (A % 256)
theorem blkS_len (A : Int) : (blkS A).size ≤ 8 := by
  have h := tname_le (A % 256)
  have e : (⟨#[32]⟩ : ByteArray).size = 1 := rfl
  unfold blkS
  split
  · decide
  · rw [ByteArray.size_append]; omega
def behindP (op : Nat) (A B : Int) (L : List Int) : ByteArray :=
  if (infP op).2.1 = 0 ∨ (infP op).2.1 = 9 then ⟨#[]⟩
  else if (infP op).2.1 = 1 then blkS A
  else if (infP op).2.1 = 3 then (foldD dS ⟨#[]⟩ L ++ (⟨#[32]⟩ : ByteArray)) ++ dS (sA A)
  else if (infP op).2.1 = 8 then (((⟨#[32, 97, 108, 105, 103, 110, 61]⟩ : ByteArray) ++ dS (sA A)) ++ (⟨#[32, 111, 102, 102, 115, 101, 116, 61]⟩ : ByteArray)) ++ dS (sA B)
  else if (infP op).2.1 = 10 then (⟨#[32]⟩ : ByteArray) ++ dS (s32 A)
  else (⟨#[32]⟩ : ByteArray) ++ dS (sA A)
def lineP (op : Nat) (A B : Int) (L : List Int) : ByteArray := if rightP op A B L.length = 0 then nmO op ++ behindP op A B L else ⟨#[]⟩

set_option maxHeartbeats 1000000 in
set_option maxRecDepth 100000 in
theorem nat46_any (n : Int) (w : World) (h : 0 ≤ n ∧ n < 18446744073709551616) : Calls Tryd.prog 49 #[(.int .u64 n)] w fun e w' => e = .returned (.string (dS (sA n))) ∧ Below w.heap.size w w' := by
  refine sx_enter (L := [(0, (.int .u64 n))]) Tryd.func49 rfl rfl rfl rfl (fun fa hf => ?_)
  have hb : Below w.heap.size w w := Below.refl _ _
  refine wp_seq_k (fun K1 hK1 => ?_)
  refine wp_region_lit ?_
  refine sqv hf (r_assign rfl) rfl rfl rfl ?_; clear hf fa; intro fa hf
  apply wpList_nil
  (try simp only [Exit.then, Exit.inBlock, ↓reduceIte, Nat.reduceEqDiff])
  refine hK1 _ _ ?_
  refine wp_seq_k (fun K2 hK2 => ?_)
  refine wp_region_lit ?_
  refine sqv hf (r_move rfl) rfl rfl rfl ?_; clear hf fa; intro fa hf
  refine sqv hf (r_conv (C := ((sA n))) rfl Tryd.underlying22 Tryd.underlying3 (wrap_sA h)) rfl rfl rfl ?_; clear hf fa; intro fa hf
  refine sqdt hf (d_callB (vs := [(.int .i64 ((sA n)))]) rfl Tryd.func50 (by kernel_rfl) (by kernel_rfl) (digits_any ((sA n)) _ (by first | exact inI_sA (by omega) | exact inI_s32 _))) rfl rfl rfl ?_; clear hf fa; rintro fa _ w1 ⟨rfl, he1⟩ hf
  replace hb := hb.trans (Below.mono he1 hb.size)
  refine sqv hf (r_assign rfl) rfl rfl rfl ?_; clear hf fa; intro fa hf
  apply wpList_nil
  (try simp only [Exit.then, Exit.inBlock, ↓reduceIte, Nat.reduceEqDiff])
  refine hK2 _ _ ?_
  refine wp_ret ?_
  (try simp only [Exit.then, Exit.inBlock])
  refine ret1 hf rfl rfl ?_
  exact ⟨rfl, hb⟩

set_option maxHeartbeats 1000000 in
set_option maxRecDepth 100000 in
theorem num46_any (n : Int) (w : World) (h : 0 ≤ n ∧ n < 18446744073709551616) : Calls Tryd.prog 24 #[(.int .u64 n)] w fun e w' => e = .returned (.string (dS (sA n))) ∧ Below w.heap.size w w' := by
  refine sx_enter (L := [(0, (.int .u64 n))]) Tryd.func24 rfl rfl rfl rfl (fun fa hf => ?_)
  have hb : Below w.heap.size w w := Below.refl _ _
  refine wp_seq_k (fun K1 hK1 => ?_)
  refine wp_region_lit ?_
  refine sqv hf (r_assign rfl) rfl rfl rfl ?_; clear hf fa; intro fa hf
  apply wpList_nil
  (try simp only [Exit.then, Exit.inBlock, ↓reduceIte, Nat.reduceEqDiff])
  refine hK1 _ _ ?_
  refine wp_seq_k (fun K2 hK2 => ?_)
  refine wp_region_lit ?_
  refine sqv hf (r_move rfl) rfl rfl rfl ?_; clear hf fa; intro fa hf
  refine sqv hf (r_conv (C := ((sA n))) rfl Tryd.underlying22 Tryd.underlying3 (wrap_sA h)) rfl rfl rfl ?_; clear hf fa; intro fa hf
  refine sqdt hf (d_callB (vs := [(.int .i64 ((sA n)))]) rfl Tryd.func25 (by kernel_rfl) (by kernel_rfl) (rdigits_any ((sA n)) _ (by first | exact inI_sA (by omega) | exact inI_s32 _))) rfl rfl rfl ?_; clear hf fa; rintro fa _ w1 ⟨rfl, he1⟩ hf
  replace hb := hb.trans (Below.mono he1 hb.size)
  refine sqv hf (r_assign rfl) rfl rfl rfl ?_; clear hf fa; intro fa hf
  apply wpList_nil
  (try simp only [Exit.then, Exit.inBlock, ↓reduceIte, Nat.reduceEqDiff])
  refine hK2 _ _ ?_
  refine wp_ret ?_
  (try simp only [Exit.then, Exit.inBlock])
  refine ret1 hf rfl rfl ?_
  exact ⟨rfl, hb⟩

theorem sA_lo {n : Int} (h : 0 ≤ n ∧ n < 4294967296) : sA n = n := by unfold sA; rw [if_pos (by omega)]
theorem nat46u (n : Int) (w : World) (h : 0 ≤ n ∧ n < 4294967296) : Calls Tryd.prog 49 #[.int .u64 n] w fun e w' => e = .returned (.string (dS n)) ∧ Below w.heap.size w w' := by
  have h2 := nat46_any n w (by omega)
  rw [sA_lo h] at h2
  exact h2
theorem num46u (n : Int) (w : World) (h : 0 ≤ n ∧ n < 4294967296) : Calls Tryd.prog 24 #[.int .u64 n] w fun e w' => e = .returned (.string (dS n)) ∧ Below w.heap.size w w' := by
  have h2 := num46_any n w (by omega)
  rw [sA_lo h] at h2
  exact h2

set_option maxHeartbeats 1000000 in
set_option maxRecDepth 100000 in
theorem tblk_any (A : Int) (w : World) (hA : 0 ≤ A ∧ A < 18446744073709551616) : Calls Tryd.prog 48 #[(.int .u64 A)] w fun e w' => e = .returned (.string (blkS A)) ∧ Below w.heap.size w w' := by
  have htl := tname_le (A % 256)
  refine sx_enter (L := [(0, (.int .u64 A))]) Tryd.func48 rfl rfl rfl rfl (fun fa hf => ?_)
  have hb : Below w.heap.size w w := Below.refl _ _
  refine wp_seq_k (fun K1 hK1 => ?_)
  refine wp_region_lit ?_
  refine sqv hf (r_assign rfl) rfl rfl rfl ?_; clear hf fa; intro fa hf
  apply wpList_nil
  (try simp only [Exit.then, Exit.inBlock, ↓reduceIte, Nat.reduceEqDiff])
  refine hK1 _ _ ?_
  refine wp_seq_k (fun K2 hK2 => ?_)
  refine wp_seq_k (fun K3 hK3 => ?_)
  refine wp_region_lit ?_
  refine sqv hf (r_move rfl) rfl rfl rfl ?_; clear hf fa; intro fa hf
  refine sqv hf (r_eq rfl rfl) rfl rfl rfl ?_; clear hf fa; intro fa hf
  apply wpList_nil
  (try simp only [Exit.then, Exit.inBlock, ↓reduceIte, Nat.reduceEqDiff])
  refine hK3 _ _ ?_
  refine wp_cond_split (t := (decide (A = (64 : Int)))) (hf.ev rfl) (fun hqt4_1 => ?_) (fun hqt4_1 => ?_)
  · have hqt4_1b := hqt4_1
    try simp only [decide_eq_true_eq, Bool.and_eq_true, Bool.or_eq_true, Bool.not_eq_true', decide_eq_false_iff_not, ne_eq, Bool.not_eq_true] at hqt4_1
    refine wp_seq_k (fun K4 hK4 => ?_)
    refine wp_region_lit ?_
    refine sqv hf (r_assign rfl) rfl rfl rfl ?_; clear hf fa; intro fa hf
    apply wpList_nil
    (try simp only [Exit.then, Exit.inBlock, ↓reduceIte, Nat.reduceEqDiff])
    refine hK4 _ _ ?_
    refine wp_ret ?_
    (try simp only [Exit.then, Exit.inBlock])
    refine ret1 hf rfl rfl ?_
    refine ⟨congrArg (fun s => Ending.returned (.string s)) ?_, hb⟩; unfold blkS; rw [if_pos hqt4_1]
  · have hqt4_1b := hqt4_1
    replace hqt4_1 := Bool.eq_false_iff.1 hqt4_1
    try simp only [ne_eq, decide_eq_true_eq, Bool.and_eq_true, Bool.or_eq_true, Bool.not_eq_true', decide_eq_false_iff_not] at hqt4_1
    refine wp_skip ?_
    (try simp only [Exit.then, Exit.inBlock, ↓reduceIte, Nat.reduceEqDiff])
    refine hK2 _ _ ?_
    refine wp_seq_k (fun K5 hK5 => ?_)
    refine wp_region_lit ?_
    refine sqv hf (r_move rfl) rfl rfl rfl ?_; clear hf fa; intro fa hf
    refine sqv hf (r_conv (C := ((A % 256))) rfl Tryd.underlying22 Tryd.underlying5 (by rw [IntKind.wrap_u8])) rfl rfl rfl ?_; clear hf fa; intro fa hf
    refine sqdt hf (d_callB (vs := [(.int .u8 ((A % 256)))]) rfl Tryd.func74 (by kernel_rfl) (by kernel_rfl) (tname_any ((A % 256)) _)) rfl rfl rfl ?_; clear hf fa; rintro fa _ w1 ⟨rfl, he1⟩ hf
    replace hb := hb.trans (Below.mono he1 hb.size)
    refine sqv hf (r_sadd rfl rfl (by have : ((⟨#[32]⟩) : ByteArray).size = 1 := rfl; omega)) rfl rfl rfl ?_; clear hf fa; intro fa hf
    refine sqv hf (r_assign rfl) rfl rfl rfl ?_; clear hf fa; intro fa hf
    apply wpList_nil
    (try simp only [Exit.then, Exit.inBlock, ↓reduceIte, Nat.reduceEqDiff])
    refine hK5 _ _ ?_
    refine wp_ret ?_
    (try simp only [Exit.then, Exit.inBlock])
    refine ret1 hf rfl rfl ?_
    refine ⟨congrArg (fun s => Ending.returned (.string s)) ?_, hb⟩; unfold blkS; rw [if_neg hqt4_1]

set_option maxHeartbeats 1000000 in
set_option maxRecDepth 100000 in
theorem behind_any (op : Nat) (A B : Int) (L : List Int) (a : Option Addr) (c : Nat) (w : World) (hl : RdS 1 (vInt .u32) w a L) (hL : ∀ y ∈ L, 0 ≤ y ∧ y < 4294967296) (hop : op < 256) (hA : 0 ≤ A ∧ A < 18446744073709551616) (hB : 0 ≤ B ∧ B < 18446744073709551616) (hc : L.length ≤ c) (hn : L.length ≤ 100000) : Calls Tryd.prog 21 #[(.agg #[(.int .u8 ((op : Nat) : Int)), (.int .u64 A), (.int .u64 B), (.slice a L.length c)])] w fun e w' => e = .returned (.string (behindP op A B L)) ∧ Below w.heap.size w w' := by
  have hd0 := dS_len (n := (sA A)) (inI_sA hA)
  have hd1 := dS_len (n := (sA B)) (inI_sA hB)
  have hd2 := dS_len (n := (s32 A)) (inI_s32 A)
  refine sx_enter (L := [(0, (.agg #[(.int .u8 ((op : Nat) : Int)), (.int .u64 A), (.int .u64 B), (.slice a L.length c)]))]) Tryd.func21 rfl rfl rfl rfl (fun fa hf => ?_)
  have hb : Below w.heap.size w w := Below.refl _ _
  refine wp_seq_k (fun K1 hK1 => ?_)
  refine wp_region_lit ?_
  refine sqdt hf (d_box (cs := #[(.int .u8 ((op : Nat) : Int)), (.int .u64 A), (.int .u64 B), (.slice a L.length c)]) rfl rfl) rfl rfl rfl ?_; clear hf fa; rintro fa _ w1 ⟨b1, rfl, hle1, hk1, he1⟩ hf
  have hBb1 : w.heap.size ≤ b1 := Nat.le_trans hb.size hle1
  replace hb := hb.trans (Below.mono he1 hb.size)
  refine sqv hf (r_assign rfl) rfl rfl rfl ?_; clear hf fa; intro fa hf
  apply wpList_nil
  (try simp only [Exit.then, Exit.inBlock, ↓reduceIte, Nat.reduceEqDiff])
  refine hK1 _ _ ?_
  refine wp_seq_k (fun K2 hK2 => ?_)
  refine wp_seq_k (fun K3 hK3 => ?_)
  refine wp_region_lit ?_
  refine sqv hf (r_fa rfl Tryd.underlying25 (f := 0) (q := 0) rfl (by kernel_rfl) rfl) rfl rfl rfl ?_; clear hf fa; intro fa hf
  refine sqv hf (r_load (v := (.int .u8 ((op : Nat) : Int))) rfl Tryd.underlying5 rfl (cell_blk hk1 rfl)) rfl rfl rfl ?_; clear hf fa; intro fa hf
  refine sqdt hf (d_callB (vs := [(.int .u8 ((op : Nat) : Int))]) rfl Tryd.func20 (by kernel_rfl) (by kernel_rfl) (inf_any op _ hop)) rfl rfl rfl ?_; clear hf fa; rintro fa _ w2 ⟨rfl, he2⟩ hf
  replace hk1 := blk_ext hk1 he2
  replace hb := hb.trans (Below.mono he2 hb.size)
  refine sqv hf (r_field (cs := #[(.string (infP op).1), (.int .i64 ((infP op).2.1)), (.string (infP op).2.2.1), (.string (infP op).2.2.2.1), (.bool (infP op).2.2.2.2.1)]) (v := (.int .i64 ((infP op).2.1))) rfl (fun _ => by kernel_rfl)) rfl rfl rfl ?_; clear hf fa; intro fa hf
  apply wpList_nil
  (try simp only [Exit.then, Exit.inBlock, ↓reduceIte, Nat.reduceEqDiff])
  refine hK3 _ _ ?_
  refine wp_block ?_
  refine wp_seq_k (fun K4 hK4 => ?_)
  refine wp_seq_k (fun K5 hK5 => ?_)
  refine wp_region_lit ?_
  refine sqv hf (r_eq rfl rfl) rfl rfl rfl ?_; clear hf fa; intro fa hf
  refine sqv hf (r_assign rfl) rfl rfl rfl ?_; clear hf fa; intro fa hf
  apply wpList_nil
  (try simp only [Exit.then, Exit.inBlock, ↓reduceIte, Nat.reduceEqDiff])
  refine hK5 _ _ ?_
  refine wp_cond_split (t := (decide (((infP op).2.1) = (0 : Int)))) (hf.ev rfl) (fun hqt10_1 => ?_) (fun hqt10_1 => ?_)
  · have hqt10_1b := hqt10_1
    try simp only [decide_eq_true_eq, Bool.and_eq_true, Bool.or_eq_true, Bool.not_eq_true', decide_eq_false_iff_not, ne_eq, Bool.not_eq_true] at hqt10_1
    refine wp_skip ?_
    (try simp only [Exit.then, Exit.inBlock, ↓reduceIte, Nat.reduceEqDiff])
    refine hK4 _ _ ?_
    refine wp_cond_true ((hf.ev rfl).trans (congrArg Value.bool (show (decide (((infP op).2.1) = (0 : Int))) = true from hqt10_1b))) ?_
    refine wp_seq_k (fun K6 hK6 => ?_)
    refine wp_region_lit ?_
    refine sqv hf (r_assign rfl) rfl rfl rfl ?_; clear hf fa; intro fa hf
    apply wpList_nil
    (try simp only [Exit.then, Exit.inBlock, ↓reduceIte, Nat.reduceEqDiff])
    refine hK6 _ _ ?_
    refine wp_ret ?_
    (try simp only [Exit.then, Exit.inBlock])
    refine ret1 hf rfl rfl ?_
    refine ⟨congrArg (fun s => Ending.returned (.string s)) ?_, hb⟩; unfold behindP; rw [if_pos (by have h0 := hqt10_1; omega)]
  · have hqt10_1b := hqt10_1
    replace hqt10_1 := Bool.eq_false_iff.1 hqt10_1
    try simp only [ne_eq, decide_eq_true_eq, Bool.and_eq_true, Bool.or_eq_true, Bool.not_eq_true', decide_eq_false_iff_not] at hqt10_1
    refine wp_region_lit ?_
    refine sqv hf (r_eq rfl rfl) rfl rfl rfl ?_; clear hf fa; intro fa hf
    refine sqv hf (r_assign rfl) rfl rfl rfl ?_; clear hf fa; intro fa hf
    apply wpList_nil
    (try simp only [Exit.then, Exit.inBlock, ↓reduceIte, Nat.reduceEqDiff])
    refine hK4 _ _ ?_
    refine wp_cond_split (t := (decide (((infP op).2.1) = (9 : Int)))) (hf.ev rfl) (fun hqt10_3 => ?_) (fun hqt10_3 => ?_)
    · have hqt10_3b := hqt10_3
      try simp only [decide_eq_true_eq, Bool.and_eq_true, Bool.or_eq_true, Bool.not_eq_true', decide_eq_false_iff_not, ne_eq, Bool.not_eq_true] at hqt10_3
      refine wp_seq_k (fun K7 hK7 => ?_)
      refine wp_region_lit ?_
      refine sqv hf (r_assign rfl) rfl rfl rfl ?_; clear hf fa; intro fa hf
      apply wpList_nil
      (try simp only [Exit.then, Exit.inBlock, ↓reduceIte, Nat.reduceEqDiff])
      refine hK7 _ _ ?_
      refine wp_ret ?_
      (try simp only [Exit.then, Exit.inBlock])
      refine ret1 hf rfl rfl ?_
      refine ⟨congrArg (fun s => Ending.returned (.string s)) ?_, hb⟩; unfold behindP; rw [if_pos (by have h0 := hqt10_1; have h1 := hqt10_3; omega)]
    · have hqt10_3b := hqt10_3
      replace hqt10_3 := Bool.eq_false_iff.1 hqt10_3
      try simp only [ne_eq, decide_eq_true_eq, Bool.and_eq_true, Bool.or_eq_true, Bool.not_eq_true', decide_eq_false_iff_not] at hqt10_3
      refine wp_seq_k (fun K8 hK8 => ?_)
      refine wp_region_lit ?_
      refine sqv hf (r_eq rfl rfl) rfl rfl rfl ?_; clear hf fa; intro fa hf
      refine sqv hf (r_assign rfl) rfl rfl rfl ?_; clear hf fa; intro fa hf
      apply wpList_nil
      (try simp only [Exit.then, Exit.inBlock, ↓reduceIte, Nat.reduceEqDiff])
      refine hK8 _ _ ?_
      refine wp_cond_split (t := (decide (((infP op).2.1) = (1 : Int)))) (hf.ev rfl) (fun hqt13_1 => ?_) (fun hqt13_1 => ?_)
      · have hqt13_1b := hqt13_1
        try simp only [decide_eq_true_eq, Bool.and_eq_true, Bool.or_eq_true, Bool.not_eq_true', decide_eq_false_iff_not, ne_eq, Bool.not_eq_true] at hqt13_1
        refine wp_seq_k (fun K9 hK9 => ?_)
        refine wp_region_lit ?_
        refine sqv hf (r_fa rfl Tryd.underlying25 (f := 1) (q := 1) rfl (by kernel_rfl) rfl) rfl rfl rfl ?_; clear hf fa; intro fa hf
        refine sqv hf (r_load (v := (.int .u64 A)) rfl Tryd.underlying22 rfl (cell_blk hk1 rfl)) rfl rfl rfl ?_; clear hf fa; intro fa hf
        refine sqdt hf (d_callB (vs := [(.int .u64 A)]) rfl Tryd.func48 (by kernel_rfl) (by kernel_rfl) (tblk_any A _ hA)) rfl rfl rfl ?_; clear hf fa; rintro fa _ w3 ⟨rfl, he3⟩ hf
        replace hk1 := blk_ext hk1 he3
        replace hb := hb.trans (Below.mono he3 hb.size)
        refine sqv hf (r_assign rfl) rfl rfl rfl ?_; clear hf fa; intro fa hf
        apply wpList_nil
        (try simp only [Exit.then, Exit.inBlock, ↓reduceIte, Nat.reduceEqDiff])
        refine hK9 _ _ ?_
        refine wp_ret ?_
        (try simp only [Exit.then, Exit.inBlock])
        refine ret1 hf rfl rfl ?_
        refine ⟨congrArg (fun s => Ending.returned (.string s)) ?_, hb⟩; unfold behindP; rw [if_neg (by have h0 := hqt10_1; have h1 := hqt10_3; have h2 := hqt13_1; omega), if_pos (by have h0 := hqt10_1; have h1 := hqt10_3; have h2 := hqt13_1; omega)]
      · have hqt13_1b := hqt13_1
        replace hqt13_1 := Bool.eq_false_iff.1 hqt13_1
        try simp only [ne_eq, decide_eq_true_eq, Bool.and_eq_true, Bool.or_eq_true, Bool.not_eq_true', decide_eq_false_iff_not] at hqt13_1
        refine wp_seq_k (fun K10 hK10 => ?_)
        refine wp_region_lit ?_
        refine sqv hf (r_eq rfl rfl) rfl rfl rfl ?_; clear hf fa; intro fa hf
        refine sqv hf (r_assign rfl) rfl rfl rfl ?_; clear hf fa; intro fa hf
        apply wpList_nil
        (try simp only [Exit.then, Exit.inBlock, ↓reduceIte, Nat.reduceEqDiff])
        refine hK10 _ _ ?_
        refine wp_cond_split (t := (decide (((infP op).2.1) = (3 : Int)))) (hf.ev rfl) (fun hqt18_1 => ?_) (fun hqt18_1 => ?_)
        · have hqt18_1b := hqt18_1
          try simp only [decide_eq_true_eq, Bool.and_eq_true, Bool.or_eq_true, Bool.not_eq_true', decide_eq_false_iff_not, ne_eq, Bool.not_eq_true] at hqt18_1
          refine wp_seq_k (fun K11 hK11 => ?_)
          refine wp_region_lit ?_
          refine sqv hf (r_assign rfl) rfl rfl rfl ?_; clear hf fa; intro fa hf
          apply wpList_nil
          (try simp only [Exit.then, Exit.inBlock, ↓reduceIte, Nat.reduceEqDiff])
          refine hK11 _ _ ?_
          refine wp_seq_k (fun K12 hK12 => ?_)
          refine wp_seq_k (fun K13 hK13 => ?_)
          refine wp_region_lit ?_
          refine sqv hf (r_fa rfl Tryd.underlying25 (f := 3) (q := 3) rfl (by kernel_rfl) rfl) rfl rfl rfl ?_; clear hf fa; intro fa hf
          refine sqv hf (r_load (v := (.slice a L.length c)) rfl Tryd.underlying23 rfl (cell_blk hk1 rfl)) rfl rfl rfl ?_; clear hf fa; intro fa hf
          refine sqv hf (r_lensl rfl Tryd.underlying23) rfl rfl rfl ?_; clear hf fa; intro fa hf
          refine sqv hf (r_move rfl) rfl rfl rfl ?_; clear hf fa; intro fa hf
          apply wpList_nil
          (try simp only [Exit.then, Exit.inBlock, ↓reduceIte, Nat.reduceEqDiff])
          refine hK13 _ _ ?_
          refine wp_block ?_
          refine wp_loop_k (fun mq fa wr => ∃ (k : Nat), mq = L.length - k ∧ Fr 71 fa [(1, (.pointer (some ⟨b1, 0, none⟩))), (3, (.string (foldD dS (⟨#[]⟩ : ByteArray) (L.take k)))), (21, (.slice a L.length c)), (22, (.int .i64 ((L.length : Nat) : Int))), (23, (.int .i64 ((k : Nat) : Int)))] ∧ Below w.heap.size w wr ∧ wr.heap[b1]? = some (.cells #[(.int .u8 ((op : Nat) : Int)), (.int .u64 A), (.int .u64 B), (.slice a L.length c)] 25 (0, 0)) ∧ (k ≤ L.length)) ?_ ?_
          · skip
            exact ⟨_, 0, rfl, hf.sub ⟨rfl, (some_str (by first | rfl | assumption | simp)), rfl, rfl, (some_int (by first | rfl | omega)), trivial⟩, hb, hk1, by omega⟩
          · skip
            clear hf fa; intro mq1 fa w4 hI KL1 hKL1
            clear hb
            clear hk1
            obtain ⟨k, hmq1, hf, hb, hkb1, hk⟩ := hI
            have hfn := foldD_len (f := dS) (B := 20) (L.take k) (⟨#[]⟩ : ByteArray) (fun y hy => dS_len (inI_u32 (by have := hL y (List.mem_of_mem_take hy); omega))); rw [List.length_take] at hfn
            have hfm : min k L.length ≤ 100000 := by omega
            have hfq : (foldD dS (⟨#[]⟩ : ByteArray) (L.take k)).size ≤ 3000000 := by have hz : (⟨#[]⟩ : ByteArray).size = 0 := rfl; omega
            refine wp_seq_k (fun K14 hK14 => ?_)
            refine wp_region_lit ?_
            refine sqv hf (r_lt rfl rfl) rfl rfl rfl ?_; clear hf fa; intro fa hf
            apply wpList_nil
            (try simp only [Exit.then, Exit.inBlock, ↓reduceIte, Nat.reduceEqDiff])
            refine hK14 _ _ ?_
            refine wp_seq_k (fun K15 hK15 => ?_)
            refine wp_cond_split (t := (decide (((k : Nat) : Int) < ((L.length : Nat) : Int)))) (hf.ev rfl) (fun hqt24_1 => ?_) (fun hqt24_1 => ?_)
            · have hqt24_1b := hqt24_1
              try simp only [decide_eq_true_eq, Bool.and_eq_true, Bool.or_eq_true, Bool.not_eq_true', decide_eq_false_iff_not, ne_eq, Bool.not_eq_true] at hqt24_1
              refine wp_skip ?_
              (try simp only [Exit.then, Exit.inBlock, ↓reduceIte, Nat.reduceEqDiff])
              refine hK15 _ _ ?_
              refine wp_seq_k (fun K16 hK16 => ?_)
              refine wp_block ?_
              refine wp_seq_k (fun K17 hK17 => ?_)
              obtain ⟨y, hy⟩ : ∃ y, L[k]? = some y := ⟨_, List.getElem?_eq_getElem (by omega)⟩
              have hyr := hL y (List.mem_of_getElem? hy)
              have hyl := dS_len (n := y) (inI_u32 (by omega))
              have hsy : sA y = y := by unfold sA; rw [if_pos (by omega)]
              refine wp_region_lit ?_
              have hy1 : (L)[k]? = some y := hy
              obtain ⟨ab1, aoff1, hat1, hlb1, hel1⟩ := RdS.at hl hy1
              refine sqv hf (r_ixa (sz := 1) (j := k) (evAt rfl hat1) rfl Tryd.underlying23 (by kernel_rfl) rfl (by omega) rfl) rfl rfl rfl ?_; clear hf fa; intro fa hf
              refine sqv hf (r_load (v := (.int .u32 y)) rfl Tryd.underlying62 rfl (cellsAt_cell (cellsAt_below hel1 hb hlb1) (i := 0) rfl rfl)) rfl rfl rfl ?_; clear hf fa; intro fa hf
              refine sqv hf (r_assign rfl) rfl rfl rfl ?_; clear hf fa; intro fa hf
              apply wpList_nil
              (try simp only [Exit.then, Exit.inBlock, ↓reduceIte, Nat.reduceEqDiff])
              refine hK17 _ _ ?_
              have hst3 := foldD_snoc (f := dS) (s := (⟨#[]⟩ : ByteArray)) hy
              refine wp_region_lit ?_
              refine sqv hf (r_move rfl) rfl rfl rfl ?_; clear hf fa; intro fa hf
              refine sqv hf (r_move rfl) rfl rfl rfl ?_; clear hf fa; intro fa hf
              refine sqv hf (r_conv (C := y) rfl Tryd.underlying62 Tryd.underlying22 (by rw [IntKind.wrap_u64]; omega)) rfl rfl rfl ?_; clear hf fa; intro fa hf
              refine sqdt hf (d_callB (vs := [(.int .u64 y)]) rfl Tryd.func49 (by kernel_rfl) (by kernel_rfl) (nat46u y _ hyr)) rfl rfl rfl ?_; clear hf fa; rintro fa _ w5 ⟨rfl, he4⟩ hf
              replace hkb1 := blk_ext hkb1 he4
              replace hb := hb.trans (Below.mono he4 hb.size)
              refine sqv hf (r_sadd rfl rfl (by have : ((⟨#[32]⟩) : ByteArray).size = 1 := rfl; omega)) rfl rfl rfl ?_; clear hf fa; intro fa hf
              refine sqv hf (r_sadd rfl rfl (by have : ((⟨#[32]⟩) : ByteArray).size = 1 := rfl; have := sz_app (⟨#[32]⟩ : ByteArray) (dS y); omega)) rfl rfl rfl ?_; clear hf fa; intro fa hf
              refine sqv hf (r_assign rfl) rfl rfl rfl ?_; clear hf fa; intro fa hf
              apply wpList_nil
              (try simp only [Exit.then, Exit.inBlock, ↓reduceIte, Nat.reduceEqDiff])
              refine hK16 _ _ ?_
              skip
              refine wp_region_lit ?_
              refine sqv hf (r_add (C := (((k : Nat) : Int) + (1 : Int))) rfl rfl (by rw [IntKind.wrap_i64]; omega)) rfl rfl rfl ?_; clear hf fa; intro fa hf
              refine sqv hf (r_move rfl) rfl rfl rfl ?_; clear hf fa; intro fa hf
              apply wpList_nil
              (try simp only [Exit.then, Exit.inBlock, ↓reduceIte, Nat.reduceEqDiff])
              refine hKL1 _ _ _ (by omega) ⟨(k + 1), rfl, hf.sub ⟨rfl, (some_str (by first | rfl | assumption | simp)), rfl, rfl, (some_int (by first | rfl | omega)), trivial⟩, hb, hkb1, by omega⟩
            · have hqt24_1b := hqt24_1
              replace hqt24_1 := Bool.eq_false_iff.1 hqt24_1
              try simp only [ne_eq, decide_eq_true_eq, Bool.and_eq_true, Bool.or_eq_true, Bool.not_eq_true', decide_eq_false_iff_not] at hqt24_1
              refine wp_exit ?_
              (try simp only [Exit.then, Exit.inBlock, ↓reduceIte, Nat.reduceEqDiff])
              refine hK12 _ _ ?_
              refine wp_seq_k (fun K18 hK18 => ?_)
              refine wp_region_lit ?_
              refine sqv hf (r_move rfl) rfl rfl rfl ?_; clear hf fa; intro fa hf
              refine sqv hf (r_sadd rfl rfl (by have : ((⟨#[32]⟩) : ByteArray).size = 1 := rfl; omega)) rfl rfl rfl ?_; clear hf fa; intro fa hf
              refine sqv hf (r_fa rfl Tryd.underlying25 (f := 1) (q := 1) rfl (by kernel_rfl) rfl) rfl rfl rfl ?_; clear hf fa; intro fa hf
              refine sqv hf (r_load (v := (.int .u64 A)) rfl Tryd.underlying22 rfl (cell_blk hkb1 rfl)) rfl rfl rfl ?_; clear hf fa; intro fa hf
              refine sqdt hf (d_callB (vs := [(.int .u64 A)]) rfl Tryd.func49 (by kernel_rfl) (by kernel_rfl) (nat46_any A _ (by omega))) rfl rfl rfl ?_; clear hf fa; rintro fa _ w6 ⟨rfl, he5⟩ hf
              replace hkb1 := blk_ext hkb1 he5
              replace hb := hb.trans (Below.mono he5 hb.size)
              refine sqv hf (r_sadd rfl rfl (by have : ((⟨#[32]⟩) : ByteArray).size = 1 := rfl; have := sz_app (foldD dS (⟨#[]⟩ : ByteArray) (L.take k)) (⟨#[32]⟩ : ByteArray); omega)) rfl rfl rfl ?_; clear hf fa; intro fa hf
              refine sqv hf (r_assign rfl) rfl rfl rfl ?_; clear hf fa; intro fa hf
              apply wpList_nil
              (try simp only [Exit.then, Exit.inBlock, ↓reduceIte, Nat.reduceEqDiff])
              refine hK18 _ _ ?_
              refine wp_ret ?_
              (try simp only [Exit.then, Exit.inBlock])
              refine ret1 hf rfl rfl ?_
              refine ⟨congrArg (fun s => Ending.returned (.string s)) ?_, hb⟩; unfold behindP; rw [if_neg (by have h0 := hqt10_1; have h1 := hqt10_3; have h2 := hqt13_1; have h3 := hqt18_1; omega), if_neg (by have h0 := hqt10_1; have h1 := hqt10_3; have h2 := hqt13_1; have h3 := hqt18_1; omega), if_pos (by have h0 := hqt10_1; have h1 := hqt10_3; have h2 := hqt13_1; have h3 := hqt18_1; omega)]; rw [List.take_of_length_le (by omega)]
        · have hqt18_1b := hqt18_1
          replace hqt18_1 := Bool.eq_false_iff.1 hqt18_1
          try simp only [ne_eq, decide_eq_true_eq, Bool.and_eq_true, Bool.or_eq_true, Bool.not_eq_true', decide_eq_false_iff_not] at hqt18_1
          refine wp_seq_k (fun K19 hK19 => ?_)
          refine wp_region_lit ?_
          refine sqv hf (r_eq rfl rfl) rfl rfl rfl ?_; clear hf fa; intro fa hf
          refine sqv hf (r_assign rfl) rfl rfl rfl ?_; clear hf fa; intro fa hf
          apply wpList_nil
          (try simp only [Exit.then, Exit.inBlock, ↓reduceIte, Nat.reduceEqDiff])
          refine hK19 _ _ ?_
          refine wp_cond_split (t := (decide (((infP op).2.1) = (8 : Int)))) (hf.ev rfl) (fun hqt40_1 => ?_) (fun hqt40_1 => ?_)
          · have hqt40_1b := hqt40_1
            try simp only [decide_eq_true_eq, Bool.and_eq_true, Bool.or_eq_true, Bool.not_eq_true', decide_eq_false_iff_not, ne_eq, Bool.not_eq_true] at hqt40_1
            refine wp_seq_k (fun K20 hK20 => ?_)
            refine wp_region_un (fun wq => Below w2.heap.size w2 wq) (fun w w' => Below w.heap.size w w')
              (fun V => [(fun x _ => x = (.pointer (some ⟨b1, 1, none⟩))), (fun x _ => x = (.int .u64 A)), (fun x _ => x = (.string (dS (sA A)))), (fun x _ => x = (.string ((⟨#[32, 97, 108, 105, 103, 110, 61]⟩ : ByteArray) ++ (dS (sA A))))), (fun x _ => x = (.string (((⟨#[32, 97, 108, 105, 103, 110, 61]⟩ : ByteArray) ++ (dS (sA A))) ++ (⟨#[32, 111, 102, 102, 115, 101, 116, 61]⟩ : ByteArray)))), (fun x _ => x = (.pointer (some ⟨b1, 2, none⟩))), (fun x _ => x = (.int .u64 B)), (fun x _ => x = (.string (dS (sA B)))), (fun x _ => x = (.string ((((⟨#[32, 97, 108, 105, 103, 110, 61]⟩ : ByteArray) ++ (dS (sA A))) ++ (⟨#[32, 111, 102, 102, 115, 101, 116, 61]⟩ : ByteArray)) ++ (dS (sA B))))), (fun x _ => x = (.string ((((⟨#[32, 97, 108, 105, 103, 110, 61]⟩ : ByteArray) ++ (dS (sA A))) ++ (⟨#[32, 111, 102, 102, 115, 101, 116, 61]⟩ : ByteArray)) ++ (dS (sA B)))))])
              []
              [[], [0], [1], [2], [3], [], [5], [2, 6], [4, 7], [0, 1, 2, 3, 4, 5, 6, 7, 8]]
              hf (by kernel_rfl) (by kernel_rfl) (fun _ => rfl) ((Below.refl _ _).drew) (fun a b h1 h2 => h1.trans (h2.mono h1.size)) (fun _ _ h => h.size) (fun V => ⟨kept_eq, kept_eq, kept_eq, kept_eq, kept_eq, kept_eq, kept_eq, kept_eq, kept_eq, kept_eq, trivial⟩) (fun _ _ _ _ _ => rfl) ?_ ?_
            · skip
              intro V
              refine ⟨fun wu0 hC hd => ?_, ?_⟩
              · clear hd
                replace hb := hb.trans (hC.mono hb.size)
                replace hk1 := blk_ext hk1 hC
                exact Runs.does (r_fa rfl Tryd.underlying25 (f := 1) (q := 1) rfl (by kernel_rfl) rfl) ⟨Below.refl _ _, rfl, nofr rfl⟩
              refine ⟨fun wu1 hC hd => ?_, ?_⟩
              · obtain ⟨h0, _⟩ := hd
                skip
                replace h0 : V 0 = (.pointer (some ⟨b1, 1, none⟩)) := h0
                replace hb := hb.trans (hC.mono hb.size)
                replace hk1 := blk_ext hk1 hC
                exact Runs.does (r_load (v := (.int .u64 A)) (congrArg some h0) Tryd.underlying22 rfl (cell_blk hk1 rfl)) ⟨Below.refl _ _, rfl, nofr rfl⟩
              refine ⟨fun wu2 hC hd => ?_, ?_⟩
              · obtain ⟨h1, _⟩ := hd
                skip
                replace h1 : V 1 = (.int .u64 A) := h1
                replace hb := hb.trans (hC.mono hb.size)
                replace hk1 := blk_ext hk1 hC
                refine Does.mono (d_callB (vs := [(.int .u64 A)]) (show [some (V 1)] = [some (.int .u64 A)] from by rw [h1]) Tryd.func49 (by kernel_rfl) (by kernel_rfl) (nat46_any A _ (by omega))) (fun _ _ h => ⟨h.2, h.1, nofr rfl⟩)
              refine ⟨fun wu3 hC hd => ?_, ?_⟩
              · obtain ⟨h2, _⟩ := hd
                skip
                replace h2 : V 2 = (.string (dS (sA A))) := h2
                replace hb := hb.trans (hC.mono hb.size)
                replace hk1 := blk_ext hk1 hC
                exact Runs.does (r_sadd rfl (congrArg some h2) (by have : ((⟨#[32, 97, 108, 105, 103, 110, 61]⟩) : ByteArray).size = 7 := rfl; omega)) ⟨Below.refl _ _, rfl, nofr rfl⟩
              refine ⟨fun wu4 hC hd => ?_, ?_⟩
              · obtain ⟨h3, _⟩ := hd
                skip
                replace h3 : V 3 = (.string ((⟨#[32, 97, 108, 105, 103, 110, 61]⟩ : ByteArray) ++ (dS (sA A)))) := h3
                replace hb := hb.trans (hC.mono hb.size)
                replace hk1 := blk_ext hk1 hC
                exact Runs.does (r_sadd (congrArg some h3) rfl (by have : ((⟨#[32, 97, 108, 105, 103, 110, 61]⟩) : ByteArray).size = 7 := rfl; have := sz_app (⟨#[32, 97, 108, 105, 103, 110, 61]⟩ : ByteArray) (dS (sA A)); have : ((⟨#[32, 111, 102, 102, 115, 101, 116, 61]⟩) : ByteArray).size = 8 := rfl; omega)) ⟨Below.refl _ _, rfl, nofr rfl⟩
              refine ⟨fun wu5 hC hd => ?_, ?_⟩
              · clear hd
                replace hb := hb.trans (hC.mono hb.size)
                replace hk1 := blk_ext hk1 hC
                exact Runs.does (r_fa rfl Tryd.underlying25 (f := 2) (q := 2) rfl (by kernel_rfl) rfl) ⟨Below.refl _ _, rfl, nofr rfl⟩
              refine ⟨fun wu6 hC hd => ?_, ?_⟩
              · obtain ⟨h5, _⟩ := hd
                skip
                replace h5 : V 5 = (.pointer (some ⟨b1, 2, none⟩)) := h5
                replace hb := hb.trans (hC.mono hb.size)
                replace hk1 := blk_ext hk1 hC
                exact Runs.does (r_load (v := (.int .u64 B)) (congrArg some h5) Tryd.underlying22 rfl (cell_blk hk1 rfl)) ⟨Below.refl _ _, rfl, nofr rfl⟩
              refine ⟨fun wu7 hC hd => ?_, ?_⟩
              · obtain ⟨h2, h6, _⟩ := hd
                skip
                skip
                replace h2 : V 2 = (.string (dS (sA A))) := h2
                replace h6 : V 6 = (.int .u64 B) := h6
                replace hb := hb.trans (hC.mono hb.size)
                replace hk1 := blk_ext hk1 hC
                refine Does.mono (d_callB (vs := [(.int .u64 B)]) (show [some (V 6)] = [some (.int .u64 B)] from by rw [h6]) Tryd.func49 (by kernel_rfl) (by kernel_rfl) (nat46_any B _ (by omega))) (fun _ _ h => ⟨h.2, h.1, nofr rfl⟩)
              refine ⟨fun wu8 hC hd => ?_, ?_⟩
              · obtain ⟨h4, h7, _⟩ := hd
                skip
                skip
                replace h4 : V 4 = (.string (((⟨#[32, 97, 108, 105, 103, 110, 61]⟩ : ByteArray) ++ (dS (sA A))) ++ (⟨#[32, 111, 102, 102, 115, 101, 116, 61]⟩ : ByteArray))) := h4
                replace h7 : V 7 = (.string (dS (sA B))) := h7
                replace hb := hb.trans (hC.mono hb.size)
                replace hk1 := blk_ext hk1 hC
                exact Runs.does (r_sadd (congrArg some h4) (congrArg some h7) (by have : ((⟨#[32, 97, 108, 105, 103, 110, 61]⟩) : ByteArray).size = 7 := rfl; have := sz_app (⟨#[32, 97, 108, 105, 103, 110, 61]⟩ : ByteArray) (dS (sA A)); have : ((⟨#[32, 111, 102, 102, 115, 101, 116, 61]⟩) : ByteArray).size = 8 := rfl; have := sz_app ((⟨#[32, 97, 108, 105, 103, 110, 61]⟩ : ByteArray) ++ (dS (sA A))) (⟨#[32, 111, 102, 102, 115, 101, 116, 61]⟩ : ByteArray); omega)) ⟨Below.refl _ _, rfl, nofr rfl⟩
              refine ⟨fun wu9 hC hd => ?_, ?_⟩
              · obtain ⟨h0, h1, h2, h3, h4, h5, h6, h7, h8, _⟩ := hd
                skip
                skip
                skip
                skip
                skip
                skip
                skip
                skip
                skip
                replace h0 : V 0 = (.pointer (some ⟨b1, 1, none⟩)) := h0
                replace h1 : V 1 = (.int .u64 A) := h1
                replace h2 : V 2 = (.string (dS (sA A))) := h2
                replace h3 : V 3 = (.string ((⟨#[32, 97, 108, 105, 103, 110, 61]⟩ : ByteArray) ++ (dS (sA A)))) := h3
                replace h4 : V 4 = (.string (((⟨#[32, 97, 108, 105, 103, 110, 61]⟩ : ByteArray) ++ (dS (sA A))) ++ (⟨#[32, 111, 102, 102, 115, 101, 116, 61]⟩ : ByteArray))) := h4
                replace h5 : V 5 = (.pointer (some ⟨b1, 2, none⟩)) := h5
                replace h6 : V 6 = (.int .u64 B) := h6
                replace h7 : V 7 = (.string (dS (sA B))) := h7
                replace h8 : V 8 = (.string ((((⟨#[32, 97, 108, 105, 103, 110, 61]⟩ : ByteArray) ++ (dS (sA A))) ++ (⟨#[32, 111, 102, 102, 115, 101, 116, 61]⟩ : ByteArray)) ++ (dS (sA B)))) := h8
                replace hb := hb.trans (hC.mono hb.size)
                replace hk1 := blk_ext hk1 hC
                exact Runs.does (r_assign (congrArg some h8)) ⟨Below.refl _ _, rfl, nofr rfl⟩
              trivial
            · skip
              clear hf fa; intro V w7 fa he6 hp hnb hf
              have hv0 : V 0 = (.pointer (some ⟨b1, 1, none⟩)) := postsHold_at hp 0 rfl
              have hv1 : V 1 = (.int .u64 A) := postsHold_at hp 1 rfl
              have hv2 : V 2 = (.string (dS (sA A))) := postsHold_at hp 2 rfl
              have hv3 : V 3 = (.string ((⟨#[32, 97, 108, 105, 103, 110, 61]⟩ : ByteArray) ++ (dS (sA A)))) := postsHold_at hp 3 rfl
              have hv4 : V 4 = (.string (((⟨#[32, 97, 108, 105, 103, 110, 61]⟩ : ByteArray) ++ (dS (sA A))) ++ (⟨#[32, 111, 102, 102, 115, 101, 116, 61]⟩ : ByteArray))) := postsHold_at hp 4 rfl
              have hv5 : V 5 = (.pointer (some ⟨b1, 2, none⟩)) := postsHold_at hp 5 rfl
              have hv6 : V 6 = (.int .u64 B) := postsHold_at hp 6 rfl
              have hv7 : V 7 = (.string (dS (sA B))) := postsHold_at hp 7 rfl
              have hv8 : V 8 = (.string ((((⟨#[32, 97, 108, 105, 103, 110, 61]⟩ : ByteArray) ++ (dS (sA A))) ++ (⟨#[32, 111, 102, 102, 115, 101, 116, 61]⟩ : ByteArray)) ++ (dS (sA B)))) := postsHold_at hp 8 rfl
              have hv9 : V 9 = (.string ((((⟨#[32, 97, 108, 105, 103, 110, 61]⟩ : ByteArray) ++ (dS (sA A))) ++ (⟨#[32, 111, 102, 102, 115, 101, 116, 61]⟩ : ByteArray)) ++ (dS (sA B)))) := postsHold_at hp 9 rfl
              simp only [List.take_succ_cons, List.take_zero, insAll, ins, hv0, hv1, hv2, hv3, hv4, hv5, hv6, hv7, hv8, hv9] at hf
              clear hp hnb hv0 hv1 hv2 hv3 hv4 hv5 hv6 hv7 hv8 hv9
              replace hk1 := blk_ext hk1 he6
              replace hb := hb.trans (Below.mono he6 hb.size)
              (try simp only [Exit.then, Exit.inBlock, ↓reduceIte, Nat.reduceEqDiff])
              refine hK20 _ _ ?_
              refine wp_ret ?_
              (try simp only [Exit.then, Exit.inBlock])
              refine ret1 hf rfl rfl ?_
              refine ⟨congrArg (fun s => Ending.returned (.string s)) ?_, hb⟩; unfold behindP; rw [if_neg (by have h0 := hqt10_1; have h1 := hqt10_3; have h2 := hqt13_1; have h3 := hqt18_1; have h4 := hqt40_1; omega), if_neg (by have h0 := hqt10_1; have h1 := hqt10_3; have h2 := hqt13_1; have h3 := hqt18_1; have h4 := hqt40_1; omega), if_neg (by have h0 := hqt10_1; have h1 := hqt10_3; have h2 := hqt13_1; have h3 := hqt18_1; have h4 := hqt40_1; omega), if_pos (by have h0 := hqt10_1; have h1 := hqt10_3; have h2 := hqt13_1; have h3 := hqt18_1; have h4 := hqt40_1; omega)]
          · have hqt40_1b := hqt40_1
            replace hqt40_1 := Bool.eq_false_iff.1 hqt40_1
            try simp only [ne_eq, decide_eq_true_eq, Bool.and_eq_true, Bool.or_eq_true, Bool.not_eq_true', decide_eq_false_iff_not] at hqt40_1
            refine wp_seq_k (fun K21 hK21 => ?_)
            refine wp_region_lit ?_
            refine sqv hf (r_eq rfl rfl) rfl rfl rfl ?_; clear hf fa; intro fa hf
            refine sqv hf (r_assign rfl) rfl rfl rfl ?_; clear hf fa; intro fa hf
            apply wpList_nil
            (try simp only [Exit.then, Exit.inBlock, ↓reduceIte, Nat.reduceEqDiff])
            refine hK21 _ _ ?_
            refine wp_cond_split (t := (decide (((infP op).2.1) = (10 : Int)))) (hf.ev rfl) (fun hqt51_1 => ?_) (fun hqt51_1 => ?_)
            · have hqt51_1b := hqt51_1
              try simp only [decide_eq_true_eq, Bool.and_eq_true, Bool.or_eq_true, Bool.not_eq_true', decide_eq_false_iff_not, ne_eq, Bool.not_eq_true] at hqt51_1
              refine wp_seq_k (fun K22 hK22 => ?_)
              refine wp_region_lit ?_
              refine sqv hf (r_fa rfl Tryd.underlying25 (f := 1) (q := 1) rfl (by kernel_rfl) rfl) rfl rfl rfl ?_; clear hf fa; intro fa hf
              refine sqv hf (r_load (v := (.int .u64 A)) rfl Tryd.underlying22 rfl (cell_blk hk1 rfl)) rfl rfl rfl ?_; clear hf fa; intro fa hf
              refine sqv hf (r_conv (C := ((A % 4294967296))) rfl Tryd.underlying22 Tryd.underlying62 (by rw [IntKind.wrap_u32])) rfl rfl rfl ?_; clear hf fa; intro fa hf
              refine sqv hf (r_conv (C := ((s32 A))) rfl Tryd.underlying62 Tryd.underlying21 (by unfold s32; rw [IntKind.wrap_i32]; split <;> omega)) rfl rfl rfl ?_; clear hf fa; intro fa hf
              refine sqv hf (r_conv (C := ((s32 A))) rfl Tryd.underlying21 Tryd.underlying3 (by have := inI_s32 A; unfold inI at this; rw [IntKind.wrap_i64]; omega)) rfl rfl rfl ?_; clear hf fa; intro fa hf
              refine sqdt hf (d_callB (vs := [(.int .i64 ((s32 A)))]) rfl Tryd.func50 (by kernel_rfl) (by kernel_rfl) (digits_any ((s32 A)) _ (by first | exact inI_sA (by omega) | exact inI_s32 _))) rfl rfl rfl ?_; clear hf fa; rintro fa _ w8 ⟨rfl, he7⟩ hf
              replace hk1 := blk_ext hk1 he7
              replace hb := hb.trans (Below.mono he7 hb.size)
              refine sqv hf (r_sadd rfl rfl (by have : ((⟨#[32]⟩) : ByteArray).size = 1 := rfl; omega)) rfl rfl rfl ?_; clear hf fa; intro fa hf
              refine sqv hf (r_assign rfl) rfl rfl rfl ?_; clear hf fa; intro fa hf
              apply wpList_nil
              (try simp only [Exit.then, Exit.inBlock, ↓reduceIte, Nat.reduceEqDiff])
              refine hK22 _ _ ?_
              refine wp_ret ?_
              (try simp only [Exit.then, Exit.inBlock])
              refine ret1 hf rfl rfl ?_
              refine ⟨congrArg (fun s => Ending.returned (.string s)) ?_, hb⟩; unfold behindP; rw [if_neg (by have h0 := hqt10_1; have h1 := hqt10_3; have h2 := hqt13_1; have h3 := hqt18_1; have h4 := hqt40_1; have h5 := hqt51_1; omega), if_neg (by have h0 := hqt10_1; have h1 := hqt10_3; have h2 := hqt13_1; have h3 := hqt18_1; have h4 := hqt40_1; have h5 := hqt51_1; omega), if_neg (by have h0 := hqt10_1; have h1 := hqt10_3; have h2 := hqt13_1; have h3 := hqt18_1; have h4 := hqt40_1; have h5 := hqt51_1; omega), if_neg (by have h0 := hqt10_1; have h1 := hqt10_3; have h2 := hqt13_1; have h3 := hqt18_1; have h4 := hqt40_1; have h5 := hqt51_1; omega), if_pos (by have h0 := hqt10_1; have h1 := hqt10_3; have h2 := hqt13_1; have h3 := hqt18_1; have h4 := hqt40_1; have h5 := hqt51_1; omega)]
            · have hqt51_1b := hqt51_1
              replace hqt51_1 := Bool.eq_false_iff.1 hqt51_1
              try simp only [ne_eq, decide_eq_true_eq, Bool.and_eq_true, Bool.or_eq_true, Bool.not_eq_true', decide_eq_false_iff_not] at hqt51_1
              refine wp_seq_k (fun K23 hK23 => ?_)
              refine wp_region_lit ?_
              refine sqv hf (r_eq rfl rfl) rfl rfl rfl ?_; clear hf fa; intro fa hf
              refine sqv hf (r_assign rfl) rfl rfl rfl ?_; clear hf fa; intro fa hf
              apply wpList_nil
              (try simp only [Exit.then, Exit.inBlock, ↓reduceIte, Nat.reduceEqDiff])
              refine hK23 _ _ ?_
              refine wp_cond_split (t := (decide (((infP op).2.1) = (11 : Int)))) (hf.ev rfl) (fun hqt60_1 => ?_) (fun hqt60_1 => ?_)
              · have hqt60_1b := hqt60_1
                try simp only [decide_eq_true_eq, Bool.and_eq_true, Bool.or_eq_true, Bool.not_eq_true', decide_eq_false_iff_not, ne_eq, Bool.not_eq_true] at hqt60_1
                refine wp_seq_k (fun K24 hK24 => ?_)
                refine wp_region_lit ?_
                refine sqv hf (r_fa rfl Tryd.underlying25 (f := 1) (q := 1) rfl (by kernel_rfl) rfl) rfl rfl rfl ?_; clear hf fa; intro fa hf
                refine sqv hf (r_load (v := (.int .u64 A)) rfl Tryd.underlying22 rfl (cell_blk hk1 rfl)) rfl rfl rfl ?_; clear hf fa; intro fa hf
                refine sqv hf (r_conv (C := ((sA A))) rfl Tryd.underlying22 Tryd.underlying3 (wrap_sA hA)) rfl rfl rfl ?_; clear hf fa; intro fa hf
                refine sqdt hf (d_callB (vs := [(.int .i64 ((sA A)))]) rfl Tryd.func50 (by kernel_rfl) (by kernel_rfl) (digits_any ((sA A)) _ (by first | exact inI_sA (by omega) | exact inI_s32 _))) rfl rfl rfl ?_; clear hf fa; rintro fa _ w9 ⟨rfl, he8⟩ hf
                replace hk1 := blk_ext hk1 he8
                replace hb := hb.trans (Below.mono he8 hb.size)
                refine sqv hf (r_sadd rfl rfl (by have : ((⟨#[32]⟩) : ByteArray).size = 1 := rfl; omega)) rfl rfl rfl ?_; clear hf fa; intro fa hf
                refine sqv hf (r_assign rfl) rfl rfl rfl ?_; clear hf fa; intro fa hf
                apply wpList_nil
                (try simp only [Exit.then, Exit.inBlock, ↓reduceIte, Nat.reduceEqDiff])
                refine hK24 _ _ ?_
                refine wp_ret ?_
                (try simp only [Exit.then, Exit.inBlock])
                refine ret1 hf rfl rfl ?_
                refine ⟨congrArg (fun s => Ending.returned (.string s)) ?_, hb⟩; unfold behindP; rw [if_neg (by have h0 := hqt10_1; have h1 := hqt10_3; have h2 := hqt13_1; have h3 := hqt18_1; have h4 := hqt40_1; have h5 := hqt51_1; have h6 := hqt60_1; omega), if_neg (by have h0 := hqt10_1; have h1 := hqt10_3; have h2 := hqt13_1; have h3 := hqt18_1; have h4 := hqt40_1; have h5 := hqt51_1; have h6 := hqt60_1; omega), if_neg (by have h0 := hqt10_1; have h1 := hqt10_3; have h2 := hqt13_1; have h3 := hqt18_1; have h4 := hqt40_1; have h5 := hqt51_1; have h6 := hqt60_1; omega), if_neg (by have h0 := hqt10_1; have h1 := hqt10_3; have h2 := hqt13_1; have h3 := hqt18_1; have h4 := hqt40_1; have h5 := hqt51_1; have h6 := hqt60_1; omega), if_neg (by have h0 := hqt10_1; have h1 := hqt10_3; have h2 := hqt13_1; have h3 := hqt18_1; have h4 := hqt40_1; have h5 := hqt51_1; have h6 := hqt60_1; omega)]
              · have hqt60_1b := hqt60_1
                replace hqt60_1 := Bool.eq_false_iff.1 hqt60_1
                try simp only [ne_eq, decide_eq_true_eq, Bool.and_eq_true, Bool.or_eq_true, Bool.not_eq_true', decide_eq_false_iff_not] at hqt60_1
                refine wp_skip ?_
                (try simp only [Exit.then, Exit.inBlock, ↓reduceIte, Nat.reduceEqDiff])
                refine hK2 _ _ ?_
                refine wp_seq_k (fun K25 hK25 => ?_)
                refine wp_region_lit ?_
                refine sqv hf (r_fa rfl Tryd.underlying25 (f := 1) (q := 1) rfl (by kernel_rfl) rfl) rfl rfl rfl ?_; clear hf fa; intro fa hf
                refine sqv hf (r_load (v := (.int .u64 A)) rfl Tryd.underlying22 rfl (cell_blk hk1 rfl)) rfl rfl rfl ?_; clear hf fa; intro fa hf
                refine sqdt hf (d_callB (vs := [(.int .u64 A)]) rfl Tryd.func49 (by kernel_rfl) (by kernel_rfl) (nat46_any A _ (by omega))) rfl rfl rfl ?_; clear hf fa; rintro fa _ w10 ⟨rfl, he9⟩ hf
                replace hk1 := blk_ext hk1 he9
                replace hb := hb.trans (Below.mono he9 hb.size)
                refine sqv hf (r_sadd rfl rfl (by have : ((⟨#[32]⟩) : ByteArray).size = 1 := rfl; omega)) rfl rfl rfl ?_; clear hf fa; intro fa hf
                refine sqv hf (r_assign rfl) rfl rfl rfl ?_; clear hf fa; intro fa hf
                apply wpList_nil
                (try simp only [Exit.then, Exit.inBlock, ↓reduceIte, Nat.reduceEqDiff])
                refine hK25 _ _ ?_
                refine wp_ret ?_
                (try simp only [Exit.then, Exit.inBlock])
                refine ret1 hf rfl rfl ?_
                refine ⟨congrArg (fun s => Ending.returned (.string s)) ?_, hb⟩; unfold behindP; rw [if_neg (by have h0 := hqt10_1; have h1 := hqt10_3; have h2 := hqt13_1; have h3 := hqt18_1; have h4 := hqt40_1; have h5 := hqt51_1; have h6 := hqt60_1; omega), if_neg (by have h0 := hqt10_1; have h1 := hqt10_3; have h2 := hqt13_1; have h3 := hqt18_1; have h4 := hqt40_1; have h5 := hqt51_1; have h6 := hqt60_1; omega), if_neg (by have h0 := hqt10_1; have h1 := hqt10_3; have h2 := hqt13_1; have h3 := hqt18_1; have h4 := hqt40_1; have h5 := hqt51_1; have h6 := hqt60_1; omega), if_neg (by have h0 := hqt10_1; have h1 := hqt10_3; have h2 := hqt13_1; have h3 := hqt18_1; have h4 := hqt40_1; have h5 := hqt51_1; have h6 := hqt60_1; omega), if_neg (by have h0 := hqt10_1; have h1 := hqt10_3; have h2 := hqt13_1; have h3 := hqt18_1; have h4 := hqt40_1; have h5 := hqt51_1; have h6 := hqt60_1; omega)]

theorem behind_len (op : Nat) (A B : Int) (L : List Int) (hA : 0 ≤ A ∧ A < 18446744073709551616) (hB : 0 ≤ B ∧ B < 18446744073709551616) (hn : L.length ≤ 100000) (hL : ∀ y ∈ L, 0 ≤ y ∧ y < 4294967296) : (behindP op A B L).size ≤ 2200000 := by
  have h1 := dS_len (inI_sA hA)
  have h2 := dS_len (inI_sA hB)
  have h3 := dS_len (inI_s32 A)
  have h4 := blkS_len A
  have h5 := foldD_len (f := dS) (B := 20) L (⟨#[]⟩ : ByteArray) (fun y hy => dS_len (inI_u32 (by have := hL y hy; omega)))
  have e0 : (⟨#[]⟩ : ByteArray).size = 0 := rfl
  have e1 : (⟨#[32]⟩ : ByteArray).size = 1 := rfl
  have e7 : (⟨#[32, 97, 108, 105, 103, 110, 61]⟩ : ByteArray).size = 7 := rfl
  have e8 : (⟨#[32, 111, 102, 102, 115, 101, 116, 61]⟩ : ByteArray).size = 8 := rfl
  unfold behindP
  split
  · omega
  split
  · omega
  split
  · simp only [ByteArray.size_append]; omega
  split
  · simp only [ByteArray.size_append]; omega
  split
  · simp only [ByteArray.size_append]; omega
  · simp only [ByteArray.size_append]; omega
theorem right_out {op : Nat} {A B : Int} {n : Nat} (h : rightP op A B n = 0) : chkP op = 0 ∧ (n = 0 ∨ (infP op).2.1 = 3) ∧ n ≤ 10000 ∧ (B = 0 ∨ (infP op).2.1 = 8) ∧ ((infP op).2.1 = 0 ∨ (infP op).2.1 = 9 → A = 0) ∧ ((infP op).2.1 = 1 → A = 64 ∨ A = 127 ∨ A = 126) ∧ (¬ ((infP op).2.1 = 0 ∨ (infP op).2.1 = 9) → (infP op).2.1 ≠ 1 → (infP op).2.1 ≠ 11 → A < 4294967296 ∧ B < 4294967296) := by
  generalize him : (infP op).2.1 = im at *
  generalize hck : chkP op = ck at *
  unfold rightP at h
  rw [him, hck] at h
  split at h
  · omega
  split at h
  · omega
  split at h
  · omega
  split at h
  · omega
  refine ⟨by omega, by omega, by omega, by omega, fun e => ?_, fun e => ?_, fun e1 e2 e3 => ?_⟩
  · rw [if_pos e] at h
    split at h
    · assumption
    · omega
  · rw [if_neg (by omega), if_pos e] at h
    unfold blkP at h
    split at h
    · omega
    split at h
    · omega
    split at h
    · omega
    split at h <;> omega
  · rw [if_neg e1, if_neg e2, if_neg e3] at h
    split at h
    · assumption
    · omega

set_option maxHeartbeats 1000000 in
set_option maxRecDepth 100000 in
theorem line_any (op : Nat) (A B : Int) (L : List Int) (a : Option Addr) (c : Nat) (w : World) (hl : RdS 1 (vInt .u32) w a L) (hL : ∀ y ∈ L, 0 ≤ y ∧ y < 4294967296) (hop : op < 256) (hA : 0 ≤ A ∧ A < 18446744073709551616) (hB : 0 ≤ B ∧ B < 18446744073709551616) (hc : L.length ≤ c) (hn : L.length ≤ 100000) : Calls Tryd.prog 7 #[(.agg #[(.int .u8 ((op : Nat) : Int)), (.int .u64 A), (.int .u64 B), (.slice a L.length c)])] w fun e w' => e = .returned (.string (lineP op A B L)) ∧ Below w.heap.size w w' := by
  have hnm : (infP op).1.size ≤ 24 := nmO_len hop
  have hbl := behind_len op A B L hA hB hn hL
  have him := of_imm hop
  have hon := of_name hop
  have hnl := nmO_len hop
  have hd0 := dS_len (n := (sA A)) (inI_sA hA)
  have hd1 := dS_len (n := (sA B)) (inI_sA hB)
  have hd2 := dS_len (n := (s32 A)) (inI_s32 A)
  refine sx_enter (L := [(0, (.agg #[(.int .u8 ((op : Nat) : Int)), (.int .u64 A), (.int .u64 B), (.slice a L.length c)]))]) Tryd.func7 rfl rfl rfl rfl (fun fa hf => ?_)
  have hb : Below w.heap.size w w := Below.refl _ _
  refine wp_seq_k (fun K1 hK1 => ?_)
  refine wp_region_lit ?_
  refine sqdt hf (d_box (cs := #[(.int .u8 ((op : Nat) : Int)), (.int .u64 A), (.int .u64 B), (.slice a L.length c)]) rfl rfl) rfl rfl rfl ?_; clear hf fa; rintro fa _ w1 ⟨b1, rfl, hle1, hk1, he1⟩ hf
  have hBb1 : w.heap.size ≤ b1 := Nat.le_trans hb.size hle1
  replace hb := hb.trans (Below.mono he1 hb.size)
  refine sqv hf (r_assign rfl) rfl rfl rfl ?_; clear hf fa; intro fa hf
  apply wpList_nil
  (try simp only [Exit.then, Exit.inBlock, ↓reduceIte, Nat.reduceEqDiff])
  refine hK1 _ _ ?_
  refine wp_seq_k (fun K2 hK2 => ?_)
  refine wp_seq_k (fun K3 hK3 => ?_)
  refine wp_region_lit ?_
  refine sqv hf (r_loadA (cs := [(.int .u8 ((op : Nat) : Int)), (.int .u64 A), (.int .u64 B), (.slice a L.length c)]) rfl Tryd.underlying25 rfl (by kernel_rfl) (cellsAt_blk hk1)) rfl rfl rfl ?_; clear hf fa; intro fa hf
  refine sqdt hf (d_callB (vs := [(.agg #[(.int .u8 ((op : Nat) : Int)), (.int .u64 A), (.int .u64 B), (.slice a L.length c)])]) rfl Tryd.func19 (by kernel_rfl) (by kernel_rfl) (iright_any op A B L a c _ hop hA hB hc hn)) rfl rfl rfl ?_; clear hf fa; rintro fa _ w2 ⟨rfl, he2⟩ hf
  replace hk1 := blk_ext hk1 he2
  replace hb := hb.trans (Below.mono he2 hb.size)
  refine sqv hf (r_ne rfl rfl) rfl rfl rfl ?_; clear hf fa; intro fa hf
  apply wpList_nil
  (try simp only [Exit.then, Exit.inBlock, ↓reduceIte, Nat.reduceEqDiff])
  refine hK3 _ _ ?_
  refine wp_cond_split (t := (decide (((rightP op A B L.length)) ≠ (0 : Int)))) (hf.ev rfl) (fun hqt5_1 => ?_) (fun hqt5_1 => ?_)
  · have hqt5_1b := hqt5_1
    try simp only [decide_eq_true_eq, Bool.and_eq_true, Bool.or_eq_true, Bool.not_eq_true', decide_eq_false_iff_not, ne_eq, Bool.not_eq_true] at hqt5_1
    refine wp_seq_k (fun K4 hK4 => ?_)
    refine wp_region_lit ?_
    refine sqv hf (r_assign rfl) rfl rfl rfl ?_; clear hf fa; intro fa hf
    apply wpList_nil
    (try simp only [Exit.then, Exit.inBlock, ↓reduceIte, Nat.reduceEqDiff])
    refine hK4 _ _ ?_
    refine wp_ret ?_
    (try simp only [Exit.then, Exit.inBlock])
    refine ret1 hf rfl rfl ?_
    refine ⟨congrArg (fun s => Ending.returned (.string s)) ?_, hb⟩; unfold lineP; rw [if_neg hqt5_1]
  · have hqt5_1b := hqt5_1
    replace hqt5_1 := Bool.eq_false_iff.1 hqt5_1
    try simp only [ne_eq, decide_eq_true_eq, Bool.and_eq_true, Bool.or_eq_true, Bool.not_eq_true', decide_eq_false_iff_not] at hqt5_1
    refine wp_skip ?_
    (try simp only [Exit.then, Exit.inBlock, ↓reduceIte, Nat.reduceEqDiff])
    refine hK2 _ _ ?_
    refine wp_seq_k (fun K5 hK5 => ?_)
    refine wp_region_un (fun wq => Below w2.heap.size w2 wq) (fun w w' => Below w.heap.size w w')
      (fun V => [(fun x _ => x = (.pointer (some ⟨b1, 0, none⟩))), (fun x _ => x = (.int .u8 ((op : Nat) : Int))), (fun x _ => x = (.agg #[(.string (infP op).1), (.int .i64 ((infP op).2.1)), (.string (infP op).2.2.1), (.string (infP op).2.2.2.1), (.bool (infP op).2.2.2.2.1)])), (fun x _ => x = (.string (infP op).1)), (fun x _ => x = (.agg #[(.int .u8 ((op : Nat) : Int)), (.int .u64 A), (.int .u64 B), (.slice a L.length c)])), (fun x _ => x = (.string (behindP op A B L))), (fun x _ => x = (.string ((infP op).1 ++ (behindP op A B L)))), (fun x _ => x = (.string ((infP op).1 ++ (behindP op A B L))))])
      []
      [[], [0], [1], [2], [], [2, 4], [3, 5], [0, 1, 2, 3, 4, 5, 6]]
      hf (by kernel_rfl) (by kernel_rfl) (fun _ => rfl) ((Below.refl _ _).drew) (fun a b h1 h2 => h1.trans (h2.mono h1.size)) (fun _ _ h => h.size) (fun V => ⟨kept_eq, kept_eq, kept_eq, kept_eq, kept_eq, kept_eq, kept_eq, kept_eq, trivial⟩) (fun _ _ _ _ _ => rfl) ?_ ?_
    · skip
      intro V
      refine ⟨fun wu0 hC hd => ?_, ?_⟩
      · clear hd
        replace hb := hb.trans (hC.mono hb.size)
        replace hk1 := blk_ext hk1 hC
        exact Runs.does (r_fa rfl Tryd.underlying25 (f := 0) (q := 0) rfl (by kernel_rfl) rfl) ⟨Below.refl _ _, rfl, nofr rfl⟩
      refine ⟨fun wu1 hC hd => ?_, ?_⟩
      · obtain ⟨h0, _⟩ := hd
        skip
        replace h0 : V 0 = (.pointer (some ⟨b1, 0, none⟩)) := h0
        replace hb := hb.trans (hC.mono hb.size)
        replace hk1 := blk_ext hk1 hC
        exact Runs.does (r_load (v := (.int .u8 ((op : Nat) : Int))) (congrArg some h0) Tryd.underlying5 rfl (cell_blk hk1 rfl)) ⟨Below.refl _ _, rfl, nofr rfl⟩
      refine ⟨fun wu2 hC hd => ?_, ?_⟩
      · obtain ⟨h1, _⟩ := hd
        skip
        replace h1 : V 1 = (.int .u8 ((op : Nat) : Int)) := h1
        replace hb := hb.trans (hC.mono hb.size)
        replace hk1 := blk_ext hk1 hC
        refine Does.mono (d_callB (vs := [(.int .u8 ((op : Nat) : Int))]) (show [some (V 1)] = [some (.int .u8 ((op : Nat) : Int))] from by rw [h1]) Tryd.func20 (by kernel_rfl) (by kernel_rfl) (inf_any op _ hop)) (fun _ _ h => ⟨h.2, h.1, nofr rfl⟩)
      refine ⟨fun wu3 hC hd => ?_, ?_⟩
      · obtain ⟨h2, _⟩ := hd
        skip
        replace h2 : V 2 = (.agg #[(.string (infP op).1), (.int .i64 ((infP op).2.1)), (.string (infP op).2.2.1), (.string (infP op).2.2.2.1), (.bool (infP op).2.2.2.2.1)]) := h2
        replace hb := hb.trans (hC.mono hb.size)
        replace hk1 := blk_ext hk1 hC
        exact Runs.does (r_field (cs := #[(.string (infP op).1), (.int .i64 ((infP op).2.1)), (.string (infP op).2.2.1), (.string (infP op).2.2.2.1), (.bool (infP op).2.2.2.2.1)]) (v := (.string (infP op).1)) (congrArg some h2) (fun _ => by kernel_rfl)) ⟨Below.refl _ _, rfl, nofr rfl⟩
      refine ⟨fun wu4 hC hd => ?_, ?_⟩
      · clear hd
        replace hb := hb.trans (hC.mono hb.size)
        replace hk1 := blk_ext hk1 hC
        exact Runs.does (r_loadA (cs := [(.int .u8 ((op : Nat) : Int)), (.int .u64 A), (.int .u64 B), (.slice a L.length c)]) rfl Tryd.underlying25 rfl (by kernel_rfl) (cellsAt_blk hk1)) ⟨Below.refl _ _, rfl, nofr rfl⟩
      refine ⟨fun wu5 hC hd => ?_, ?_⟩
      · obtain ⟨h2, h4, _⟩ := hd
        skip
        skip
        replace h2 : V 2 = (.agg #[(.string (infP op).1), (.int .i64 ((infP op).2.1)), (.string (infP op).2.2.1), (.string (infP op).2.2.2.1), (.bool (infP op).2.2.2.2.1)]) := h2
        replace h4 : V 4 = (.agg #[(.int .u8 ((op : Nat) : Int)), (.int .u64 A), (.int .u64 B), (.slice a L.length c)]) := h4
        replace hb := hb.trans (hC.mono hb.size)
        replace hk1 := blk_ext hk1 hC
        refine Does.mono (d_callB (vs := [(.agg #[(.int .u8 ((op : Nat) : Int)), (.int .u64 A), (.int .u64 B), (.slice a L.length c)])]) (show [some (V 4)] = [some (.agg #[(.int .u8 ((op : Nat) : Int)), (.int .u64 A), (.int .u64 B), (.slice a L.length c)])] from by rw [h4]) Tryd.func21 (by kernel_rfl) (by kernel_rfl) (behind_any op A B L a c _ (RdS.ext hl hb) hL hop hA hB hc hn)) (fun _ _ h => ⟨h.2, h.1, nofr rfl⟩)
      refine ⟨fun wu6 hC hd => ?_, ?_⟩
      · obtain ⟨h3, h5, _⟩ := hd
        skip
        skip
        replace h3 : V 3 = (.string (infP op).1) := h3
        replace h5 : V 5 = (.string (behindP op A B L)) := h5
        replace hb := hb.trans (hC.mono hb.size)
        replace hk1 := blk_ext hk1 hC
        exact Runs.does (r_sadd (congrArg some h3) (congrArg some h5) (by omega)) ⟨Below.refl _ _, rfl, nofr rfl⟩
      refine ⟨fun wu7 hC hd => ?_, ?_⟩
      · obtain ⟨h0, h1, h2, h3, h4, h5, h6, _⟩ := hd
        skip
        skip
        skip
        skip
        skip
        skip
        skip
        replace h0 : V 0 = (.pointer (some ⟨b1, 0, none⟩)) := h0
        replace h1 : V 1 = (.int .u8 ((op : Nat) : Int)) := h1
        replace h2 : V 2 = (.agg #[(.string (infP op).1), (.int .i64 ((infP op).2.1)), (.string (infP op).2.2.1), (.string (infP op).2.2.2.1), (.bool (infP op).2.2.2.2.1)]) := h2
        replace h3 : V 3 = (.string (infP op).1) := h3
        replace h4 : V 4 = (.agg #[(.int .u8 ((op : Nat) : Int)), (.int .u64 A), (.int .u64 B), (.slice a L.length c)]) := h4
        replace h5 : V 5 = (.string (behindP op A B L)) := h5
        replace h6 : V 6 = (.string ((infP op).1 ++ (behindP op A B L))) := h6
        replace hb := hb.trans (hC.mono hb.size)
        replace hk1 := blk_ext hk1 hC
        exact Runs.does (r_assign (congrArg some h6)) ⟨Below.refl _ _, rfl, nofr rfl⟩
      trivial
    · skip
      clear hf fa; intro V w3 fa he3 hp hnb hf
      have hv0 : V 0 = (.pointer (some ⟨b1, 0, none⟩)) := postsHold_at hp 0 rfl
      have hv1 : V 1 = (.int .u8 ((op : Nat) : Int)) := postsHold_at hp 1 rfl
      have hv2 : V 2 = (.agg #[(.string (infP op).1), (.int .i64 ((infP op).2.1)), (.string (infP op).2.2.1), (.string (infP op).2.2.2.1), (.bool (infP op).2.2.2.2.1)]) := postsHold_at hp 2 rfl
      have hv3 : V 3 = (.string (infP op).1) := postsHold_at hp 3 rfl
      have hv4 : V 4 = (.agg #[(.int .u8 ((op : Nat) : Int)), (.int .u64 A), (.int .u64 B), (.slice a L.length c)]) := postsHold_at hp 4 rfl
      have hv5 : V 5 = (.string (behindP op A B L)) := postsHold_at hp 5 rfl
      have hv6 : V 6 = (.string ((infP op).1 ++ (behindP op A B L))) := postsHold_at hp 6 rfl
      have hv7 : V 7 = (.string ((infP op).1 ++ (behindP op A B L))) := postsHold_at hp 7 rfl
      simp only [List.take_succ_cons, List.take_zero, insAll, ins, hv0, hv1, hv2, hv3, hv4, hv5, hv6, hv7] at hf
      clear hp hnb hv0 hv1 hv2 hv3 hv4 hv5 hv6 hv7
      replace hk1 := blk_ext hk1 he3
      replace hb := hb.trans (Below.mono he3 hb.size)
      (try simp only [Exit.then, Exit.inBlock, ↓reduceIte, Nat.reduceEqDiff])
      refine hK5 _ _ ?_
      refine wp_ret ?_
      (try simp only [Exit.then, Exit.inBlock])
      refine ret1 hf rfl rfl ?_
      refine ⟨congrArg (fun s => Ending.returned (.string s)) ?_, hb⟩; unfold lineP; rw [if_pos (by have h := hqt5_1; omega)]; rfl

set_option maxHeartbeats 1000000 in
set_option maxRecDepth 100000 in
theorem rline_any (op : Nat) (A B : Int) (L : List Int) (a : Option Addr) (c : Nat) (w : World) (hl : RdS 1 (vInt .u32) w a L) (hL : ∀ y ∈ L, 0 ≤ y ∧ y < 4294967296) (hop : op < 256) (hA : 0 ≤ A ∧ A < 18446744073709551616) (hB : 0 ≤ B ∧ B < 18446744073709551616) (hc : L.length ≤ c) (hn : L.length ≤ 100000) : Calls Tryd.prog 8 #[(.agg #[(.int .u8 ((op : Nat) : Int)), (.int .u64 A), (.int .u64 B), (.slice a L.length c)])] w fun e w' => e = .returned (.string (lineP op A B L)) ∧ Below w.heap.size w w' := by
  have hnm : (infP op).1.size ≤ 24 := nmO_len hop
  have hbl := behind_len op A B L hA hB hn hL
  have him := of_imm hop
  have hon := of_name hop
  have hnl := nmO_len hop
  have hd0 := dS_len (n := (sA A)) (inI_sA hA)
  have hd1 := dS_len (n := (sA B)) (inI_sA hB)
  have hd2 := dS_len (n := (s32 A)) (inI_s32 A)
  have hon2 : (ofP op).1.2.1.size ≤ 24 := by rw [hon]; exact hnl
  refine sx_enter (L := [(0, (.agg #[(.int .u8 ((op : Nat) : Int)), (.int .u64 A), (.int .u64 B), (.slice a L.length c)]))]) Tryd.func8 rfl rfl rfl rfl (fun fa hf => ?_)
  have hb : Below w.heap.size w w := Below.refl _ _
  refine wp_seq_k (fun K1 hK1 => ?_)
  refine wp_region_lit ?_
  refine sqdt hf (d_box (cs := #[(.int .u8 ((op : Nat) : Int)), (.int .u64 A), (.int .u64 B), (.slice a L.length c)]) rfl rfl) rfl rfl rfl ?_; clear hf fa; rintro fa _ w1 ⟨b1, rfl, hle1, hk1, he1⟩ hf
  have hBb1 : w.heap.size ≤ b1 := Nat.le_trans hb.size hle1
  replace hb := hb.trans (Below.mono he1 hb.size)
  refine sqv hf (r_assign rfl) rfl rfl rfl ?_; clear hf fa; intro fa hf
  apply wpList_nil
  (try simp only [Exit.then, Exit.inBlock, ↓reduceIte, Nat.reduceEqDiff])
  refine hK1 _ _ ?_
  refine wp_seq_k (fun K2 hK2 => ?_)
  refine wp_seq_k (fun K3 hK3 => ?_)
  refine wp_region_lit ?_
  refine sqv hf (r_loadA (cs := [(.int .u8 ((op : Nat) : Int)), (.int .u64 A), (.int .u64 B), (.slice a L.length c)]) rfl Tryd.underlying25 rfl (by kernel_rfl) (cellsAt_blk hk1)) rfl rfl rfl ?_; clear hf fa; intro fa hf
  refine sqdt hf (d_callB (vs := [(.agg #[(.int .u8 ((op : Nat) : Int)), (.int .u64 A), (.int .u64 B), (.slice a L.length c)])]) rfl Tryd.func10 (by kernel_rfl) (by kernel_rfl) (rright_any op A B L a c _ hop hA hB hc hn)) rfl rfl rfl ?_; clear hf fa; rintro fa _ w2 ⟨rfl, he2⟩ hf
  replace hk1 := blk_ext hk1 he2
  replace hb := hb.trans (Below.mono he2 hb.size)
  refine sqv hf (r_ne rfl rfl) rfl rfl rfl ?_; clear hf fa; intro fa hf
  apply wpList_nil
  (try simp only [Exit.then, Exit.inBlock, ↓reduceIte, Nat.reduceEqDiff])
  refine hK3 _ _ ?_
  refine wp_cond_split (t := (decide (((rightP op A B L.length)) ≠ (0 : Int)))) (hf.ev rfl) (fun hqt9_1 => ?_) (fun hqt9_1 => ?_)
  · have hqt9_1b := hqt9_1
    try simp only [decide_eq_true_eq, Bool.and_eq_true, Bool.or_eq_true, Bool.not_eq_true', decide_eq_false_iff_not, ne_eq, Bool.not_eq_true] at hqt9_1
    refine wp_seq_k (fun K4 hK4 => ?_)
    refine wp_region_lit ?_
    refine sqv hf (r_assign rfl) rfl rfl rfl ?_; clear hf fa; intro fa hf
    apply wpList_nil
    (try simp only [Exit.then, Exit.inBlock, ↓reduceIte, Nat.reduceEqDiff])
    refine hK4 _ _ ?_
    refine wp_ret ?_
    (try simp only [Exit.then, Exit.inBlock])
    refine ret1 hf rfl rfl ?_
    refine ⟨congrArg (fun s => Ending.returned (.string s)) ?_, hb⟩; unfold lineP; rw [if_neg hqt9_1]
  · have hqt9_1b := hqt9_1
    replace hqt9_1 := Bool.eq_false_iff.1 hqt9_1
    try simp only [ne_eq, decide_eq_true_eq, Bool.and_eq_true, Bool.or_eq_true, Bool.not_eq_true', decide_eq_false_iff_not] at hqt9_1
    refine wp_skip ?_
    (try simp only [Exit.then, Exit.inBlock, ↓reduceIte, Nat.reduceEqDiff])
    refine hK2 _ _ ?_
    refine wp_seq_k (fun K5 hK5 => ?_)
    refine wp_region_lit ?_
    refine sqv hf (r_fa rfl Tryd.underlying25 (f := 0) (q := 0) rfl (by kernel_rfl) rfl) rfl rfl rfl ?_; clear hf fa; intro fa hf
    refine sqv hf (r_load (v := (.int .u8 ((op : Nat) : Int))) rfl Tryd.underlying5 rfl (cell_blk hk1 rfl)) rfl rfl rfl ?_; clear hf fa; intro fa hf
    refine sqv hf (r_conv (C := ((op : Nat) : Int)) rfl Tryd.underlying5 Tryd.underlying3 (by rw [IntKind.wrap_i64]; omega)) rfl rfl rfl ?_; clear hf fa; intro fa hf
    refine sqdt hf (d_callB (vs := [(.int .i64 ((op : Nat) : Int))]) rfl Tryd.func22 (by kernel_rfl) (by kernel_rfl) (of_any op _ hop)) rfl rfl rfl ?_; clear hf fa; rintro fa _ w3 ⟨rfl, he3⟩ hf
    replace hk1 := blk_ext hk1 he3
    replace hb := hb.trans (Below.mono he3 hb.size)
    refine sqv hf (r_move rfl) rfl rfl rfl ?_; clear hf fa; intro fa hf
    refine sqv hf (r_extract rfl (i := 0) rfl) rfl rfl rfl ?_; clear hf fa; intro fa hf
    refine sqv hf (r_extract rfl (i := 1) rfl) rfl rfl rfl ?_; clear hf fa; intro fa hf
    refine sqdt hf (d_alloc (z := (.agg #[(.int .i64 (0 : Int)), (.string ⟨#[]⟩), (.int .i64 (0 : Int)), (.string ⟨#[]⟩), (.string ⟨#[]⟩), (.bool false)])) (cs := #[(.int .i64 (0 : Int)), (.string ⟨#[]⟩), (.int .i64 (0 : Int)), (.string ⟨#[]⟩), (.string ⟨#[]⟩), (.bool false)]) (by kernel_rfl) rfl) rfl rfl rfl ?_; clear hf fa; rintro fa _ w4 ⟨b2, rfl, hle2, hk2, he4⟩ hf
    have hBb2 : w.heap.size ≤ b2 := Nat.le_trans hb.size hle2
    have : b1 < b2 := Nat.lt_of_lt_of_le (blk_lt hk1) hle2
    replace hk1 := blk_ext hk1 he4
    replace hb := hb.trans (Below.mono he4 hb.size)
    refine sqn hf (d_storeK (T := 57) (v := (.agg #[(.int .i64 ((ofP op).1.1)), (.string (ofP op).1.2.1), (.int .i64 ((ofP op).1.2.2.1)), (.string (ofP op).1.2.2.2.1), (.string (ofP op).1.2.2.2.2.1), (.bool (ofP op).1.2.2.2.2.2.1)])) (cs := #[(.int .i64 (0 : Int)), (.string ⟨#[]⟩), (.int .i64 (0 : Int)), (.string ⟨#[]⟩), (.string ⟨#[]⟩), (.bool false)]) (cs' := #[(.int .i64 ((ofP op).1.1)), (.string (ofP op).1.2.1), (.int .i64 ((ofP op).1.2.2.1)), (.string (ofP op).1.2.2.2.1), (.string (ofP op).1.2.2.2.2.1), (.bool (ofP op).1.2.2.2.2.2.1)]) rfl rfl (by kernel_rfl) (by kernel_rfl) hk2 (by kernel_rfl) (by kernel_rfl)) rfl rfl ?_; clear hf fa; rintro fa _ w5 ⟨hk3, hg1⟩ hf
    replace hk1 := blk_grown hk1 hg1 (by omega)
    replace hb := hb.trans (grown_below hg1 hb.size hBb2)
    refine sqv hf (r_assign rfl) rfl rfl rfl ?_; clear hf fa; intro fa hf
    apply wpList_nil
    (try simp only [Exit.then, Exit.inBlock, ↓reduceIte, Nat.reduceEqDiff])
    refine hK5 _ _ ?_
    refine wp_seq_k (fun K6 hK6 => ?_)
    refine wp_region_lit ?_
    refine sqv hf (r_fa rfl Tryd.underlying57 (f := 1) (q := 1) rfl (by kernel_rfl) rfl) rfl rfl rfl ?_; clear hf fa; intro fa hf
    refine sqv hf (r_load (v := (.string (ofP op).1.2.1)) rfl Tryd.underlying9 rfl (cell_blk hk3 rfl)) rfl rfl rfl ?_; clear hf fa; intro fa hf
    refine sqv hf (r_assign rfl) rfl rfl rfl ?_; clear hf fa; intro fa hf
    apply wpList_nil
    (try simp only [Exit.then, Exit.inBlock, ↓reduceIte, Nat.reduceEqDiff])
    refine hK6 _ _ ?_
    refine wp_seq_k (fun K7 hK7 => ?_)
    refine wp_seq_k (fun K8 hK8 => ?_)
    refine wp_region_lit ?_
    refine sqv hf (r_fa rfl Tryd.underlying57 (f := 2) (q := 2) rfl (by kernel_rfl) rfl) rfl rfl rfl ?_; clear hf fa; intro fa hf
    refine sqv hf (r_load (v := (.int .i64 ((ofP op).1.2.2.1))) rfl Tryd.underlying3 rfl (cell_blk hk3 rfl)) rfl rfl rfl ?_; clear hf fa; intro fa hf
    apply wpList_nil
    (try simp only [Exit.then, Exit.inBlock, ↓reduceIte, Nat.reduceEqDiff])
    refine hK8 _ _ ?_
    refine wp_block ?_
    refine wp_seq_k (fun K9 hK9 => ?_)
    refine wp_seq_k (fun K10 hK10 => ?_)
    refine wp_region_lit ?_
    refine sqv hf (r_eq rfl rfl) rfl rfl rfl ?_; clear hf fa; intro fa hf
    refine sqv hf (r_assign rfl) rfl rfl rfl ?_; clear hf fa; intro fa hf
    apply wpList_nil
    (try simp only [Exit.then, Exit.inBlock, ↓reduceIte, Nat.reduceEqDiff])
    refine hK10 _ _ ?_
    refine wp_cond_split (t := (decide (((ofP op).1.2.2.1) = (0 : Int)))) (hf.ev rfl) (fun hqt21_1 => ?_) (fun hqt21_1 => ?_)
    · have hqt21_1b := hqt21_1
      try simp only [decide_eq_true_eq, Bool.and_eq_true, Bool.or_eq_true, Bool.not_eq_true', decide_eq_false_iff_not, ne_eq, Bool.not_eq_true] at hqt21_1
      refine wp_skip ?_
      (try simp only [Exit.then, Exit.inBlock, ↓reduceIte, Nat.reduceEqDiff])
      refine hK9 _ _ ?_
      refine wp_cond_true ((hf.ev rfl).trans (congrArg Value.bool (show (decide (((ofP op).1.2.2.1) = (0 : Int))) = true from hqt21_1b))) ?_
      refine wp_seq_k (fun K11 hK11 => ?_)
      refine wp_region_lit ?_
      refine sqv hf (r_move rfl) rfl rfl rfl ?_; clear hf fa; intro fa hf
      refine sqv hf (r_assign rfl) rfl rfl rfl ?_; clear hf fa; intro fa hf
      apply wpList_nil
      (try simp only [Exit.then, Exit.inBlock, ↓reduceIte, Nat.reduceEqDiff])
      refine hK11 _ _ ?_
      refine wp_ret ?_
      (try simp only [Exit.then, Exit.inBlock])
      refine ret1 hf rfl rfl ?_
      refine ⟨congrArg (fun s => Ending.returned (.string s)) ?_, hb⟩; unfold lineP; rw [if_pos (by have h := hqt9_1; omega)]; unfold behindP; rw [if_pos (by have h0 := hqt21_1; omega), hon]; exact (app_nil _).symm
    · have hqt21_1b := hqt21_1
      replace hqt21_1 := Bool.eq_false_iff.1 hqt21_1
      try simp only [ne_eq, decide_eq_true_eq, Bool.and_eq_true, Bool.or_eq_true, Bool.not_eq_true', decide_eq_false_iff_not] at hqt21_1
      refine wp_region_lit ?_
      refine sqv hf (r_eq rfl rfl) rfl rfl rfl ?_; clear hf fa; intro fa hf
      refine sqv hf (r_assign rfl) rfl rfl rfl ?_; clear hf fa; intro fa hf
      apply wpList_nil
      (try simp only [Exit.then, Exit.inBlock, ↓reduceIte, Nat.reduceEqDiff])
      refine hK9 _ _ ?_
      refine wp_cond_split (t := (decide (((ofP op).1.2.2.1) = (9 : Int)))) (hf.ev rfl) (fun hqt21_3 => ?_) (fun hqt21_3 => ?_)
      · have hqt21_3b := hqt21_3
        try simp only [decide_eq_true_eq, Bool.and_eq_true, Bool.or_eq_true, Bool.not_eq_true', decide_eq_false_iff_not, ne_eq, Bool.not_eq_true] at hqt21_3
        refine wp_seq_k (fun K12 hK12 => ?_)
        refine wp_region_lit ?_
        refine sqv hf (r_move rfl) rfl rfl rfl ?_; clear hf fa; intro fa hf
        refine sqv hf (r_assign rfl) rfl rfl rfl ?_; clear hf fa; intro fa hf
        apply wpList_nil
        (try simp only [Exit.then, Exit.inBlock, ↓reduceIte, Nat.reduceEqDiff])
        refine hK12 _ _ ?_
        refine wp_ret ?_
        (try simp only [Exit.then, Exit.inBlock])
        refine ret1 hf rfl rfl ?_
        refine ⟨congrArg (fun s => Ending.returned (.string s)) ?_, hb⟩; unfold lineP; rw [if_pos (by have h := hqt9_1; omega)]; unfold behindP; rw [if_pos (by have h0 := hqt21_1; have h1 := hqt21_3; omega), hon]; exact (app_nil _).symm
      · have hqt21_3b := hqt21_3
        replace hqt21_3 := Bool.eq_false_iff.1 hqt21_3
        try simp only [ne_eq, decide_eq_true_eq, Bool.and_eq_true, Bool.or_eq_true, Bool.not_eq_true', decide_eq_false_iff_not] at hqt21_3
        refine wp_seq_k (fun K13 hK13 => ?_)
        refine wp_region_lit ?_
        refine sqv hf (r_eq rfl rfl) rfl rfl rfl ?_; clear hf fa; intro fa hf
        refine sqv hf (r_assign rfl) rfl rfl rfl ?_; clear hf fa; intro fa hf
        apply wpList_nil
        (try simp only [Exit.then, Exit.inBlock, ↓reduceIte, Nat.reduceEqDiff])
        refine hK13 _ _ ?_
        refine wp_cond_split (t := (decide (((ofP op).1.2.2.1) = (1 : Int)))) (hf.ev rfl) (fun hqt25_1 => ?_) (fun hqt25_1 => ?_)
        · have hqt25_1b := hqt25_1
          try simp only [decide_eq_true_eq, Bool.and_eq_true, Bool.or_eq_true, Bool.not_eq_true', decide_eq_false_iff_not, ne_eq, Bool.not_eq_true] at hqt25_1
          refine wp_seq_k (fun K14 hK14 => ?_)
          refine wp_seq_k (fun K15 hK15 => ?_)
          refine wp_region_lit ?_
          refine sqv hf (r_fa rfl Tryd.underlying25 (f := 1) (q := 1) rfl (by kernel_rfl) rfl) rfl rfl rfl ?_; clear hf fa; intro fa hf
          refine sqv hf (r_load (v := (.int .u64 A)) rfl Tryd.underlying22 rfl (cell_blk hk1 rfl)) rfl rfl rfl ?_; clear hf fa; intro fa hf
          refine sqv hf (r_eq rfl rfl) rfl rfl rfl ?_; clear hf fa; intro fa hf
          apply wpList_nil
          (try simp only [Exit.then, Exit.inBlock, ↓reduceIte, Nat.reduceEqDiff])
          refine hK15 _ _ ?_
          refine wp_cond_split (t := (decide (A = (64 : Int)))) (hf.ev rfl) (fun hqt29_1 => ?_) (fun hqt29_1 => ?_)
          · have hqt29_1b := hqt29_1
            try simp only [decide_eq_true_eq, Bool.and_eq_true, Bool.or_eq_true, Bool.not_eq_true', decide_eq_false_iff_not, ne_eq, Bool.not_eq_true] at hqt29_1
            refine wp_seq_k (fun K16 hK16 => ?_)
            refine wp_region_lit ?_
            refine sqv hf (r_move rfl) rfl rfl rfl ?_; clear hf fa; intro fa hf
            refine sqv hf (r_assign rfl) rfl rfl rfl ?_; clear hf fa; intro fa hf
            apply wpList_nil
            (try simp only [Exit.then, Exit.inBlock, ↓reduceIte, Nat.reduceEqDiff])
            refine hK16 _ _ ?_
            refine wp_ret ?_
            (try simp only [Exit.then, Exit.inBlock])
            refine ret1 hf rfl rfl ?_
            refine ⟨congrArg (fun s => Ending.returned (.string s)) ?_, hb⟩; unfold lineP; rw [if_pos (by have h := hqt9_1; omega)]; unfold behindP; rw [if_neg (by have h0 := hqt21_1; have h1 := hqt21_3; have h2 := hqt25_1; omega), if_pos (by have h0 := hqt21_1; have h1 := hqt21_3; have h2 := hqt25_1; omega), hon]; unfold blkS; rw [if_pos hqt29_1]; exact (app_nil _).symm
          · have hqt29_1b := hqt29_1
            replace hqt29_1 := Bool.eq_false_iff.1 hqt29_1
            try simp only [ne_eq, decide_eq_true_eq, Bool.and_eq_true, Bool.or_eq_true, Bool.not_eq_true', decide_eq_false_iff_not] at hqt29_1
            refine wp_skip ?_
            (try simp only [Exit.then, Exit.inBlock, ↓reduceIte, Nat.reduceEqDiff])
            refine hK14 _ _ ?_
            refine wp_seq_k (fun K17 hK17 => ?_)
            have hro := right_out (op := op) (A := A) (B := B) (n := L.length) (by have h := hqt9_1; omega)
            have hA3 := hro.2.2.2.2.2.1 (by have h := hqt25_1; omega)
            have hA4 : 64 ≤ A ∧ A ≤ 127 := by omega
            have hA5 : A % 256 = A := by omega
            have htl := tname_le A
            refine wp_region_lit ?_
            refine sqv hf (r_move rfl) rfl rfl rfl ?_; clear hf fa; intro fa hf
            refine sqv hf (r_sadd rfl rfl (by have : ((⟨#[32]⟩) : ByteArray).size = 1 := rfl; omega)) rfl rfl rfl ?_; clear hf fa; intro fa hf
            refine sqv hf (r_fa rfl Tryd.underlying25 (f := 1) (q := 1) rfl (by kernel_rfl) rfl) rfl rfl rfl ?_; clear hf fa; intro fa hf
            refine sqv hf (r_load (v := (.int .u64 A)) rfl Tryd.underlying22 rfl (cell_blk hk1 rfl)) rfl rfl rfl ?_; clear hf fa; intro fa hf
            refine sqv hf (r_conv (C := A) rfl Tryd.underlying22 Tryd.underlying3 (by rw [IntKind.wrap_i64]; omega)) rfl rfl rfl ?_; clear hf fa; intro fa hf
            refine sqdt hf (d_callB (vs := [(.int .i64 A)]) rfl Tryd.func23 (by kernel_rfl) (by kernel_rfl) (rname_any A _ (by omega))) rfl rfl rfl ?_; clear hf fa; rintro fa _ w6 ⟨rfl, he5⟩ hf
            replace hk1 := blk_ext hk1 he5
            replace hk3 := blk_ext hk3 he5
            replace hb := hb.trans (Below.mono he5 hb.size)
            refine sqv hf (r_sadd rfl rfl (by have : ((⟨#[32]⟩) : ByteArray).size = 1 := rfl; have := sz_app (ofP op).1.2.1 (⟨#[32]⟩ : ByteArray); omega)) rfl rfl rfl ?_; clear hf fa; intro fa hf
            refine sqv hf (r_assign rfl) rfl rfl rfl ?_; clear hf fa; intro fa hf
            apply wpList_nil
            (try simp only [Exit.then, Exit.inBlock, ↓reduceIte, Nat.reduceEqDiff])
            refine hK17 _ _ ?_
            refine wp_ret ?_
            (try simp only [Exit.then, Exit.inBlock])
            refine ret1 hf rfl rfl ?_
            refine ⟨congrArg (fun s => Ending.returned (.string s)) ?_, hb⟩; unfold lineP; rw [if_pos (by have h := hqt9_1; omega)]; unfold behindP; rw [if_neg (by have h0 := hqt21_1; have h1 := hqt21_3; have h2 := hqt25_1; omega), if_pos (by have h0 := hqt21_1; have h1 := hqt21_3; have h2 := hqt25_1; omega), hon]; unfold blkS; rw [if_neg hqt29_1, hA5, ByteArray.append_assoc]
        · have hqt25_1b := hqt25_1
          replace hqt25_1 := Bool.eq_false_iff.1 hqt25_1
          try simp only [ne_eq, decide_eq_true_eq, Bool.and_eq_true, Bool.or_eq_true, Bool.not_eq_true', decide_eq_false_iff_not] at hqt25_1
          refine wp_seq_k (fun K18 hK18 => ?_)
          refine wp_region_lit ?_
          refine sqv hf (r_eq rfl rfl) rfl rfl rfl ?_; clear hf fa; intro fa hf
          refine sqv hf (r_assign rfl) rfl rfl rfl ?_; clear hf fa; intro fa hf
          apply wpList_nil
          (try simp only [Exit.then, Exit.inBlock, ↓reduceIte, Nat.reduceEqDiff])
          refine hK18 _ _ ?_
          refine wp_cond_split (t := (decide (((ofP op).1.2.2.1) = (3 : Int)))) (hf.ev rfl) (fun hqt38_1 => ?_) (fun hqt38_1 => ?_)
          · have hqt38_1b := hqt38_1
            try simp only [decide_eq_true_eq, Bool.and_eq_true, Bool.or_eq_true, Bool.not_eq_true', decide_eq_false_iff_not, ne_eq, Bool.not_eq_true] at hqt38_1
            refine wp_seq_k (fun K19 hK19 => ?_)
            refine wp_seq_k (fun K20 hK20 => ?_)
            refine wp_region_lit ?_
            refine sqv hf (r_assign rfl) rfl rfl rfl ?_; clear hf fa; intro fa hf
            apply wpList_nil
            (try simp only [Exit.then, Exit.inBlock, ↓reduceIte, Nat.reduceEqDiff])
            refine hK20 _ _ ?_
            refine wp_block ?_
            refine wp_loop_k (fun mq fa wr => ∃ (k : Nat), mq = L.length - k ∧ Fr 93 fa [(1, (.pointer (some ⟨b1, 0, none⟩))), (5, (.string (foldD dS (ofP op).1.2.1 (L.take k)))), (6, (.int .i64 ((k : Nat) : Int)))] ∧ Below w.heap.size w wr ∧ wr.heap[b1]? = some (.cells #[(.int .u8 ((op : Nat) : Int)), (.int .u64 A), (.int .u64 B), (.slice a L.length c)] 25 (0, 0)) ∧ (k ≤ L.length)) ?_ ?_
            · skip
              exact ⟨_, 0, rfl, hf.sub ⟨rfl, (some_str (by first | rfl | assumption | simp)), (some_int (by first | rfl | omega)), trivial⟩, hb, hk1, by omega⟩
            · skip
              clear hf fa; intro mq1 fa w7 hI KL1 hKL1
              clear hb
              clear hk1
              clear hk3
              obtain ⟨k, hmq1, hf, hb, hkb1, hk⟩ := hI
              have hfn := foldD_len (f := dS) (B := 20) (L.take k) ((ofP op).1.2.1) (fun y hy => dS_len (inI_u32 (by have := hL y (List.mem_of_mem_take hy); omega))); rw [List.length_take] at hfn
              have hfm : min k L.length ≤ 100000 := by omega
              have hfq : (foldD dS ((ofP op).1.2.1) (L.take k)).size ≤ 3000000 := by have hz : (ofP op).1.2.1.size ≤ 24 := hon2; omega
              refine wp_seq_k (fun K21 hK21 => ?_)
              refine wp_seq_k (fun K22 hK22 => ?_)
              refine wp_region_lit ?_
              refine sqv hf (r_move rfl) rfl rfl rfl ?_; clear hf fa; intro fa hf
              refine sqv hf (r_fa rfl Tryd.underlying25 (f := 3) (q := 3) rfl (by kernel_rfl) rfl) rfl rfl rfl ?_; clear hf fa; intro fa hf
              refine sqv hf (r_load (v := (.slice a L.length c)) rfl Tryd.underlying23 rfl (cell_blk hkb1 rfl)) rfl rfl rfl ?_; clear hf fa; intro fa hf
              refine sqv hf (r_lensl rfl Tryd.underlying23) rfl rfl rfl ?_; clear hf fa; intro fa hf
              refine sqv hf (r_lt rfl rfl) rfl rfl rfl ?_; clear hf fa; intro fa hf
              apply wpList_nil
              (try simp only [Exit.then, Exit.inBlock, ↓reduceIte, Nat.reduceEqDiff])
              refine hK22 _ _ ?_
              refine wp_cond_split (t := (decide (((k : Nat) : Int) < ((L.length : Nat) : Int)))) (hf.ev rfl) (fun hqt44_1 => ?_) (fun hqt44_1 => ?_)
              · have hqt44_1b := hqt44_1
                try simp only [decide_eq_true_eq, Bool.and_eq_true, Bool.or_eq_true, Bool.not_eq_true', decide_eq_false_iff_not, ne_eq, Bool.not_eq_true] at hqt44_1
                refine wp_skip ?_
                (try simp only [Exit.then, Exit.inBlock, ↓reduceIte, Nat.reduceEqDiff])
                refine hK21 _ _ ?_
                refine wp_seq_k (fun K23 hK23 => ?_)
                refine wp_block ?_
                obtain ⟨y, hy⟩ : ∃ y, L[k]? = some y := ⟨_, List.getElem?_eq_getElem (by omega)⟩
                have hyr := hL y (List.mem_of_getElem? hy)
                have hyl := dS_len (n := y) (inI_u32 (by omega))
                have hsy : sA y = y := by unfold sA; rw [if_pos (by omega)]
                have hst5 := foldD_snoc2 (f := dS) (s := ((ofP op).1.2.1)) hy
                refine wp_region_lit ?_
                refine sqv hf (r_move rfl) rfl rfl rfl ?_; clear hf fa; intro fa hf
                refine sqv hf (r_sadd rfl rfl (by have : ((⟨#[32]⟩) : ByteArray).size = 1 := rfl; omega)) rfl rfl rfl ?_; clear hf fa; intro fa hf
                refine sqv hf (r_fa rfl Tryd.underlying25 (f := 3) (q := 3) rfl (by kernel_rfl) rfl) rfl rfl rfl ?_; clear hf fa; intro fa hf
                refine sqv hf (r_load (v := (.slice a L.length c)) rfl Tryd.underlying23 rfl (cell_blk hkb1 rfl)) rfl rfl rfl ?_; clear hf fa; intro fa hf
                refine sqv hf (r_move rfl) rfl rfl rfl ?_; clear hf fa; intro fa hf
                have hy1 : (L)[k]? = some y := hy
                obtain ⟨ab1, aoff1, hat1, hlb1, hel1⟩ := RdS.at hl hy1
                refine sqv hf (r_ixa (sz := 1) (j := k) (evAt rfl hat1) rfl Tryd.underlying23 (by kernel_rfl) rfl (by omega) rfl) rfl rfl rfl ?_; clear hf fa; intro fa hf
                refine sqv hf (r_load (v := (.int .u32 y)) rfl Tryd.underlying62 rfl (cellsAt_cell (cellsAt_below hel1 hb hlb1) (i := 0) rfl rfl)) rfl rfl rfl ?_; clear hf fa; intro fa hf
                refine sqv hf (r_conv (C := y) rfl Tryd.underlying62 Tryd.underlying22 (by rw [IntKind.wrap_u64]; omega)) rfl rfl rfl ?_; clear hf fa; intro fa hf
                refine sqdt hf (d_callB (vs := [(.int .u64 y)]) rfl Tryd.func24 (by kernel_rfl) (by kernel_rfl) (num46u y _ hyr)) rfl rfl rfl ?_; clear hf fa; rintro fa _ w8 ⟨rfl, he6⟩ hf
                replace hkb1 := blk_ext hkb1 he6
                replace hb := hb.trans (Below.mono he6 hb.size)
                refine sqv hf (r_sadd rfl rfl (by have : ((⟨#[32]⟩) : ByteArray).size = 1 := rfl; have := sz_app (foldD dS (ofP op).1.2.1 (L.take k)) (⟨#[32]⟩ : ByteArray); omega)) rfl rfl rfl ?_; clear hf fa; intro fa hf
                refine sqv hf (r_assign rfl) rfl rfl rfl ?_; clear hf fa; intro fa hf
                apply wpList_nil
                (try simp only [Exit.then, Exit.inBlock, ↓reduceIte, Nat.reduceEqDiff])
                refine hK23 _ _ ?_
                refine wp_region_lit ?_
                refine sqv hf (r_move rfl) rfl rfl rfl ?_; clear hf fa; intro fa hf
                refine sqv hf (r_add (C := (((k : Nat) : Int) + (1 : Int))) rfl rfl (by rw [IntKind.wrap_i64]; omega)) rfl rfl rfl ?_; clear hf fa; intro fa hf
                refine sqv hf (r_assign rfl) rfl rfl rfl ?_; clear hf fa; intro fa hf
                apply wpList_nil
                (try simp only [Exit.then, Exit.inBlock, ↓reduceIte, Nat.reduceEqDiff])
                refine hKL1 _ _ _ (by omega) ⟨(k + 1), rfl, hf.sub ⟨rfl, (some_str (by first | rfl | assumption | simp)), (some_int (by first | rfl | omega)), trivial⟩, hb, hkb1, by omega⟩
              · have hqt44_1b := hqt44_1
                replace hqt44_1 := Bool.eq_false_iff.1 hqt44_1
                try simp only [ne_eq, decide_eq_true_eq, Bool.and_eq_true, Bool.or_eq_true, Bool.not_eq_true', decide_eq_false_iff_not] at hqt44_1
                refine wp_exit ?_
                (try simp only [Exit.then, Exit.inBlock, ↓reduceIte, Nat.reduceEqDiff])
                refine hK19 _ _ ?_
                refine wp_seq_k (fun K24 hK24 => ?_)
                refine wp_region_lit ?_
                refine sqv hf (r_move rfl) rfl rfl rfl ?_; clear hf fa; intro fa hf
                refine sqv hf (r_sadd rfl rfl (by have : ((⟨#[32]⟩) : ByteArray).size = 1 := rfl; omega)) rfl rfl rfl ?_; clear hf fa; intro fa hf
                refine sqv hf (r_fa rfl Tryd.underlying25 (f := 1) (q := 1) rfl (by kernel_rfl) rfl) rfl rfl rfl ?_; clear hf fa; intro fa hf
                refine sqv hf (r_load (v := (.int .u64 A)) rfl Tryd.underlying22 rfl (cell_blk hkb1 rfl)) rfl rfl rfl ?_; clear hf fa; intro fa hf
                refine sqdt hf (d_callB (vs := [(.int .u64 A)]) rfl Tryd.func24 (by kernel_rfl) (by kernel_rfl) (num46_any A _ (by omega))) rfl rfl rfl ?_; clear hf fa; rintro fa _ w9 ⟨rfl, he7⟩ hf
                replace hkb1 := blk_ext hkb1 he7
                replace hb := hb.trans (Below.mono he7 hb.size)
                refine sqv hf (r_sadd rfl rfl (by have : ((⟨#[32]⟩) : ByteArray).size = 1 := rfl; have := sz_app (foldD dS (ofP op).1.2.1 (L.take k)) (⟨#[32]⟩ : ByteArray); omega)) rfl rfl rfl ?_; clear hf fa; intro fa hf
                refine sqv hf (r_assign rfl) rfl rfl rfl ?_; clear hf fa; intro fa hf
                apply wpList_nil
                (try simp only [Exit.then, Exit.inBlock, ↓reduceIte, Nat.reduceEqDiff])
                refine hK24 _ _ ?_
                refine wp_ret ?_
                (try simp only [Exit.then, Exit.inBlock])
                refine ret1 hf rfl rfl ?_
                refine ⟨congrArg (fun s => Ending.returned (.string s)) ?_, hb⟩; unfold lineP; rw [if_pos (by have h := hqt9_1; omega)]; unfold behindP; rw [if_neg (by have h0 := hqt21_1; have h1 := hqt21_3; have h2 := hqt25_1; have h3 := hqt38_1; omega), if_neg (by have h0 := hqt21_1; have h1 := hqt21_3; have h2 := hqt25_1; have h3 := hqt38_1; omega), if_pos (by have h0 := hqt21_1; have h1 := hqt21_3; have h2 := hqt25_1; have h3 := hqt38_1; omega), hon]; rw [List.take_of_length_le (by omega)]; rw [show foldD dS (nmO op) L = nmO op ++ foldD dS (⟨#[]⟩ : ByteArray) L by rw [← foldD_base, app_nil]]; simp only [ByteArray.append_assoc]
          · have hqt38_1b := hqt38_1
            replace hqt38_1 := Bool.eq_false_iff.1 hqt38_1
            try simp only [ne_eq, decide_eq_true_eq, Bool.and_eq_true, Bool.or_eq_true, Bool.not_eq_true', decide_eq_false_iff_not] at hqt38_1
            refine wp_seq_k (fun K25 hK25 => ?_)
            refine wp_region_lit ?_
            refine sqv hf (r_eq rfl rfl) rfl rfl rfl ?_; clear hf fa; intro fa hf
            refine sqv hf (r_assign rfl) rfl rfl rfl ?_; clear hf fa; intro fa hf
            apply wpList_nil
            (try simp only [Exit.then, Exit.inBlock, ↓reduceIte, Nat.reduceEqDiff])
            refine hK25 _ _ ?_
            refine wp_cond_split (t := (decide (((ofP op).1.2.2.1) = (8 : Int)))) (hf.ev rfl) (fun hqt63_1 => ?_) (fun hqt63_1 => ?_)
            · have hqt63_1b := hqt63_1
              try simp only [decide_eq_true_eq, Bool.and_eq_true, Bool.or_eq_true, Bool.not_eq_true', decide_eq_false_iff_not, ne_eq, Bool.not_eq_true] at hqt63_1
              refine wp_seq_k (fun K26 hK26 => ?_)
              refine wp_region_un (fun wq => Below w5.heap.size w5 wq) (fun w w' => Below w.heap.size w w')
                (fun V => [(fun x _ => x = (.string (ofP op).1.2.1)), (fun x _ => x = (.string ((ofP op).1.2.1 ++ (⟨#[32, 97, 108, 105, 103, 110, 61]⟩ : ByteArray)))), (fun x _ => x = (.pointer (some ⟨b1, 1, none⟩))), (fun x _ => x = (.int .u64 A)), (fun x _ => x = (.string (dS (sA A)))), (fun x _ => x = (.string (((ofP op).1.2.1 ++ (⟨#[32, 97, 108, 105, 103, 110, 61]⟩ : ByteArray)) ++ (dS (sA A))))), (fun x _ => x = (.string ((((ofP op).1.2.1 ++ (⟨#[32, 97, 108, 105, 103, 110, 61]⟩ : ByteArray)) ++ (dS (sA A))) ++ (⟨#[32, 111, 102, 102, 115, 101, 116, 61]⟩ : ByteArray)))), (fun x _ => x = (.pointer (some ⟨b1, 2, none⟩))), (fun x _ => x = (.int .u64 B)), (fun x _ => x = (.string (dS (sA B)))), (fun x _ => x = (.string (((((ofP op).1.2.1 ++ (⟨#[32, 97, 108, 105, 103, 110, 61]⟩ : ByteArray)) ++ (dS (sA A))) ++ (⟨#[32, 111, 102, 102, 115, 101, 116, 61]⟩ : ByteArray)) ++ (dS (sA B))))), (fun x _ => x = (.string (((((ofP op).1.2.1 ++ (⟨#[32, 97, 108, 105, 103, 110, 61]⟩ : ByteArray)) ++ (dS (sA A))) ++ (⟨#[32, 111, 102, 102, 115, 101, 116, 61]⟩ : ByteArray)) ++ (dS (sA B)))))])
                []
                [[], [0], [], [2], [3], [1, 4], [5], [], [7], [4, 8], [6, 9], [0, 1, 2, 3, 4, 5, 6, 7, 8, 9, 10]]
                hf (by kernel_rfl) (by kernel_rfl) (fun _ => rfl) ((Below.refl _ _).drew) (fun a b h1 h2 => h1.trans (h2.mono h1.size)) (fun _ _ h => h.size) (fun V => ⟨kept_eq, kept_eq, kept_eq, kept_eq, kept_eq, kept_eq, kept_eq, kept_eq, kept_eq, kept_eq, kept_eq, kept_eq, trivial⟩) (fun _ _ _ _ _ => rfl) ?_ ?_
              · skip
                intro V
                refine ⟨fun wu0 hC hd => ?_, ?_⟩
                · clear hd
                  replace hb := hb.trans (hC.mono hb.size)
                  replace hk1 := blk_ext hk1 hC
                  replace hk3 := blk_ext hk3 hC
                  exact Runs.does (r_move rfl) ⟨Below.refl _ _, rfl, nofr rfl⟩
                refine ⟨fun wu1 hC hd => ?_, ?_⟩
                · obtain ⟨h0, _⟩ := hd
                  skip
                  replace h0 : V 0 = (.string (ofP op).1.2.1) := h0
                  replace hb := hb.trans (hC.mono hb.size)
                  replace hk1 := blk_ext hk1 hC
                  replace hk3 := blk_ext hk3 hC
                  exact Runs.does (r_sadd (congrArg some h0) rfl (by have : ((⟨#[32, 97, 108, 105, 103, 110, 61]⟩) : ByteArray).size = 7 := rfl; omega)) ⟨Below.refl _ _, rfl, nofr rfl⟩
                refine ⟨fun wu2 hC hd => ?_, ?_⟩
                · clear hd
                  replace hb := hb.trans (hC.mono hb.size)
                  replace hk1 := blk_ext hk1 hC
                  replace hk3 := blk_ext hk3 hC
                  exact Runs.does (r_fa rfl Tryd.underlying25 (f := 1) (q := 1) rfl (by kernel_rfl) rfl) ⟨Below.refl _ _, rfl, nofr rfl⟩
                refine ⟨fun wu3 hC hd => ?_, ?_⟩
                · obtain ⟨h2, _⟩ := hd
                  skip
                  replace h2 : V 2 = (.pointer (some ⟨b1, 1, none⟩)) := h2
                  replace hb := hb.trans (hC.mono hb.size)
                  replace hk1 := blk_ext hk1 hC
                  replace hk3 := blk_ext hk3 hC
                  exact Runs.does (r_load (v := (.int .u64 A)) (congrArg some h2) Tryd.underlying22 rfl (cell_blk hk1 rfl)) ⟨Below.refl _ _, rfl, nofr rfl⟩
                refine ⟨fun wu4 hC hd => ?_, ?_⟩
                · obtain ⟨h3, _⟩ := hd
                  skip
                  replace h3 : V 3 = (.int .u64 A) := h3
                  replace hb := hb.trans (hC.mono hb.size)
                  replace hk1 := blk_ext hk1 hC
                  replace hk3 := blk_ext hk3 hC
                  refine Does.mono (d_callB (vs := [(.int .u64 A)]) (show [some (V 3)] = [some (.int .u64 A)] from by rw [h3]) Tryd.func24 (by kernel_rfl) (by kernel_rfl) (num46_any A _ (by omega))) (fun _ _ h => ⟨h.2, h.1, nofr rfl⟩)
                refine ⟨fun wu5 hC hd => ?_, ?_⟩
                · obtain ⟨h1, h4, _⟩ := hd
                  skip
                  skip
                  replace h1 : V 1 = (.string ((ofP op).1.2.1 ++ (⟨#[32, 97, 108, 105, 103, 110, 61]⟩ : ByteArray))) := h1
                  replace h4 : V 4 = (.string (dS (sA A))) := h4
                  replace hb := hb.trans (hC.mono hb.size)
                  replace hk1 := blk_ext hk1 hC
                  replace hk3 := blk_ext hk3 hC
                  exact Runs.does (r_sadd (congrArg some h1) (congrArg some h4) (by have : ((⟨#[32, 97, 108, 105, 103, 110, 61]⟩) : ByteArray).size = 7 := rfl; have := sz_app (ofP op).1.2.1 (⟨#[32, 97, 108, 105, 103, 110, 61]⟩ : ByteArray); omega)) ⟨Below.refl _ _, rfl, nofr rfl⟩
                refine ⟨fun wu6 hC hd => ?_, ?_⟩
                · obtain ⟨h5, _⟩ := hd
                  skip
                  replace h5 : V 5 = (.string (((ofP op).1.2.1 ++ (⟨#[32, 97, 108, 105, 103, 110, 61]⟩ : ByteArray)) ++ (dS (sA A)))) := h5
                  replace hb := hb.trans (hC.mono hb.size)
                  replace hk1 := blk_ext hk1 hC
                  replace hk3 := blk_ext hk3 hC
                  exact Runs.does (r_sadd (congrArg some h5) rfl (by have : ((⟨#[32, 97, 108, 105, 103, 110, 61]⟩) : ByteArray).size = 7 := rfl; have := sz_app (ofP op).1.2.1 (⟨#[32, 97, 108, 105, 103, 110, 61]⟩ : ByteArray); have := sz_app ((ofP op).1.2.1 ++ (⟨#[32, 97, 108, 105, 103, 110, 61]⟩ : ByteArray)) (dS (sA A)); have : ((⟨#[32, 111, 102, 102, 115, 101, 116, 61]⟩) : ByteArray).size = 8 := rfl; omega)) ⟨Below.refl _ _, rfl, nofr rfl⟩
                refine ⟨fun wu7 hC hd => ?_, ?_⟩
                · clear hd
                  replace hb := hb.trans (hC.mono hb.size)
                  replace hk1 := blk_ext hk1 hC
                  replace hk3 := blk_ext hk3 hC
                  exact Runs.does (r_fa rfl Tryd.underlying25 (f := 2) (q := 2) rfl (by kernel_rfl) rfl) ⟨Below.refl _ _, rfl, nofr rfl⟩
                refine ⟨fun wu8 hC hd => ?_, ?_⟩
                · obtain ⟨h7, _⟩ := hd
                  skip
                  replace h7 : V 7 = (.pointer (some ⟨b1, 2, none⟩)) := h7
                  replace hb := hb.trans (hC.mono hb.size)
                  replace hk1 := blk_ext hk1 hC
                  replace hk3 := blk_ext hk3 hC
                  exact Runs.does (r_load (v := (.int .u64 B)) (congrArg some h7) Tryd.underlying22 rfl (cell_blk hk1 rfl)) ⟨Below.refl _ _, rfl, nofr rfl⟩
                refine ⟨fun wu9 hC hd => ?_, ?_⟩
                · obtain ⟨h4, h8, _⟩ := hd
                  skip
                  skip
                  replace h4 : V 4 = (.string (dS (sA A))) := h4
                  replace h8 : V 8 = (.int .u64 B) := h8
                  replace hb := hb.trans (hC.mono hb.size)
                  replace hk1 := blk_ext hk1 hC
                  replace hk3 := blk_ext hk3 hC
                  refine Does.mono (d_callB (vs := [(.int .u64 B)]) (show [some (V 8)] = [some (.int .u64 B)] from by rw [h8]) Tryd.func24 (by kernel_rfl) (by kernel_rfl) (num46_any B _ (by omega))) (fun _ _ h => ⟨h.2, h.1, nofr rfl⟩)
                refine ⟨fun wu10 hC hd => ?_, ?_⟩
                · obtain ⟨h6, h9, _⟩ := hd
                  skip
                  skip
                  replace h6 : V 6 = (.string ((((ofP op).1.2.1 ++ (⟨#[32, 97, 108, 105, 103, 110, 61]⟩ : ByteArray)) ++ (dS (sA A))) ++ (⟨#[32, 111, 102, 102, 115, 101, 116, 61]⟩ : ByteArray))) := h6
                  replace h9 : V 9 = (.string (dS (sA B))) := h9
                  replace hb := hb.trans (hC.mono hb.size)
                  replace hk1 := blk_ext hk1 hC
                  replace hk3 := blk_ext hk3 hC
                  exact Runs.does (r_sadd (congrArg some h6) (congrArg some h9) (by have : ((⟨#[32, 97, 108, 105, 103, 110, 61]⟩) : ByteArray).size = 7 := rfl; have := sz_app (ofP op).1.2.1 (⟨#[32, 97, 108, 105, 103, 110, 61]⟩ : ByteArray); have := sz_app ((ofP op).1.2.1 ++ (⟨#[32, 97, 108, 105, 103, 110, 61]⟩ : ByteArray)) (dS (sA A)); have : ((⟨#[32, 111, 102, 102, 115, 101, 116, 61]⟩) : ByteArray).size = 8 := rfl; have := sz_app (((ofP op).1.2.1 ++ (⟨#[32, 97, 108, 105, 103, 110, 61]⟩ : ByteArray)) ++ (dS (sA A))) (⟨#[32, 111, 102, 102, 115, 101, 116, 61]⟩ : ByteArray); omega)) ⟨Below.refl _ _, rfl, nofr rfl⟩
                refine ⟨fun wu11 hC hd => ?_, ?_⟩
                · obtain ⟨h0, h1, h2, h3, h4, h5, h6, h7, h8, h9, h10, _⟩ := hd
                  skip
                  skip
                  skip
                  skip
                  skip
                  skip
                  skip
                  skip
                  skip
                  skip
                  skip
                  replace h0 : V 0 = (.string (ofP op).1.2.1) := h0
                  replace h1 : V 1 = (.string ((ofP op).1.2.1 ++ (⟨#[32, 97, 108, 105, 103, 110, 61]⟩ : ByteArray))) := h1
                  replace h2 : V 2 = (.pointer (some ⟨b1, 1, none⟩)) := h2
                  replace h3 : V 3 = (.int .u64 A) := h3
                  replace h4 : V 4 = (.string (dS (sA A))) := h4
                  replace h5 : V 5 = (.string (((ofP op).1.2.1 ++ (⟨#[32, 97, 108, 105, 103, 110, 61]⟩ : ByteArray)) ++ (dS (sA A)))) := h5
                  replace h6 : V 6 = (.string ((((ofP op).1.2.1 ++ (⟨#[32, 97, 108, 105, 103, 110, 61]⟩ : ByteArray)) ++ (dS (sA A))) ++ (⟨#[32, 111, 102, 102, 115, 101, 116, 61]⟩ : ByteArray))) := h6
                  replace h7 : V 7 = (.pointer (some ⟨b1, 2, none⟩)) := h7
                  replace h8 : V 8 = (.int .u64 B) := h8
                  replace h9 : V 9 = (.string (dS (sA B))) := h9
                  replace h10 : V 10 = (.string (((((ofP op).1.2.1 ++ (⟨#[32, 97, 108, 105, 103, 110, 61]⟩ : ByteArray)) ++ (dS (sA A))) ++ (⟨#[32, 111, 102, 102, 115, 101, 116, 61]⟩ : ByteArray)) ++ (dS (sA B)))) := h10
                  replace hb := hb.trans (hC.mono hb.size)
                  replace hk1 := blk_ext hk1 hC
                  replace hk3 := blk_ext hk3 hC
                  exact Runs.does (r_assign (congrArg some h10)) ⟨Below.refl _ _, rfl, nofr rfl⟩
                trivial
              · skip
                clear hf fa; intro V w10 fa he8 hp hnb hf
                have hv0 : V 0 = (.string (ofP op).1.2.1) := postsHold_at hp 0 rfl
                have hv1 : V 1 = (.string ((ofP op).1.2.1 ++ (⟨#[32, 97, 108, 105, 103, 110, 61]⟩ : ByteArray))) := postsHold_at hp 1 rfl
                have hv2 : V 2 = (.pointer (some ⟨b1, 1, none⟩)) := postsHold_at hp 2 rfl
                have hv3 : V 3 = (.int .u64 A) := postsHold_at hp 3 rfl
                have hv4 : V 4 = (.string (dS (sA A))) := postsHold_at hp 4 rfl
                have hv5 : V 5 = (.string (((ofP op).1.2.1 ++ (⟨#[32, 97, 108, 105, 103, 110, 61]⟩ : ByteArray)) ++ (dS (sA A)))) := postsHold_at hp 5 rfl
                have hv6 : V 6 = (.string ((((ofP op).1.2.1 ++ (⟨#[32, 97, 108, 105, 103, 110, 61]⟩ : ByteArray)) ++ (dS (sA A))) ++ (⟨#[32, 111, 102, 102, 115, 101, 116, 61]⟩ : ByteArray))) := postsHold_at hp 6 rfl
                have hv7 : V 7 = (.pointer (some ⟨b1, 2, none⟩)) := postsHold_at hp 7 rfl
                have hv8 : V 8 = (.int .u64 B) := postsHold_at hp 8 rfl
                have hv9 : V 9 = (.string (dS (sA B))) := postsHold_at hp 9 rfl
                have hv10 : V 10 = (.string (((((ofP op).1.2.1 ++ (⟨#[32, 97, 108, 105, 103, 110, 61]⟩ : ByteArray)) ++ (dS (sA A))) ++ (⟨#[32, 111, 102, 102, 115, 101, 116, 61]⟩ : ByteArray)) ++ (dS (sA B)))) := postsHold_at hp 10 rfl
                have hv11 : V 11 = (.string (((((ofP op).1.2.1 ++ (⟨#[32, 97, 108, 105, 103, 110, 61]⟩ : ByteArray)) ++ (dS (sA A))) ++ (⟨#[32, 111, 102, 102, 115, 101, 116, 61]⟩ : ByteArray)) ++ (dS (sA B)))) := postsHold_at hp 11 rfl
                simp only [List.take_succ_cons, List.take_zero, insAll, ins, hv0, hv1, hv2, hv3, hv4, hv5, hv6, hv7, hv8, hv9, hv10, hv11] at hf
                clear hp hnb hv0 hv1 hv2 hv3 hv4 hv5 hv6 hv7 hv8 hv9 hv10 hv11
                replace hk1 := blk_ext hk1 he8
                replace hk3 := blk_ext hk3 he8
                replace hb := hb.trans (Below.mono he8 hb.size)
                (try simp only [Exit.then, Exit.inBlock, ↓reduceIte, Nat.reduceEqDiff])
                refine hK26 _ _ ?_
                refine wp_ret ?_
                (try simp only [Exit.then, Exit.inBlock])
                refine ret1 hf rfl rfl ?_
                refine ⟨congrArg (fun s => Ending.returned (.string s)) ?_, hb⟩; unfold lineP; rw [if_pos (by have h := hqt9_1; omega)]; unfold behindP; rw [if_neg (by have h0 := hqt21_1; have h1 := hqt21_3; have h2 := hqt25_1; have h3 := hqt38_1; have h4 := hqt63_1; omega), if_neg (by have h0 := hqt21_1; have h1 := hqt21_3; have h2 := hqt25_1; have h3 := hqt38_1; have h4 := hqt63_1; omega), if_neg (by have h0 := hqt21_1; have h1 := hqt21_3; have h2 := hqt25_1; have h3 := hqt38_1; have h4 := hqt63_1; omega), if_pos (by have h0 := hqt21_1; have h1 := hqt21_3; have h2 := hqt25_1; have h3 := hqt38_1; have h4 := hqt63_1; omega), hon]; simp only [ByteArray.append_assoc]
            · have hqt63_1b := hqt63_1
              replace hqt63_1 := Bool.eq_false_iff.1 hqt63_1
              try simp only [ne_eq, decide_eq_true_eq, Bool.and_eq_true, Bool.or_eq_true, Bool.not_eq_true', decide_eq_false_iff_not] at hqt63_1
              refine wp_seq_k (fun K27 hK27 => ?_)
              refine wp_region_lit ?_
              refine sqv hf (r_eq rfl rfl) rfl rfl rfl ?_; clear hf fa; intro fa hf
              refine sqv hf (r_assign rfl) rfl rfl rfl ?_; clear hf fa; intro fa hf
              apply wpList_nil
              (try simp only [Exit.then, Exit.inBlock, ↓reduceIte, Nat.reduceEqDiff])
              refine hK27 _ _ ?_
              refine wp_cond_split (t := (decide (((ofP op).1.2.2.1) = (10 : Int)))) (hf.ev rfl) (fun hqt76_1 => ?_) (fun hqt76_1 => ?_)
              · have hqt76_1b := hqt76_1
                try simp only [decide_eq_true_eq, Bool.and_eq_true, Bool.or_eq_true, Bool.not_eq_true', decide_eq_false_iff_not, ne_eq, Bool.not_eq_true] at hqt76_1
                refine wp_seq_k (fun K28 hK28 => ?_)
                refine wp_region_lit ?_
                refine sqv hf (r_move rfl) rfl rfl rfl ?_; clear hf fa; intro fa hf
                refine sqv hf (r_sadd rfl rfl (by have : ((⟨#[32]⟩) : ByteArray).size = 1 := rfl; omega)) rfl rfl rfl ?_; clear hf fa; intro fa hf
                refine sqv hf (r_fa rfl Tryd.underlying25 (f := 1) (q := 1) rfl (by kernel_rfl) rfl) rfl rfl rfl ?_; clear hf fa; intro fa hf
                refine sqv hf (r_load (v := (.int .u64 A)) rfl Tryd.underlying22 rfl (cell_blk hk1 rfl)) rfl rfl rfl ?_; clear hf fa; intro fa hf
                refine sqv hf (r_conv (C := ((A % 4294967296))) rfl Tryd.underlying22 Tryd.underlying62 (by rw [IntKind.wrap_u32])) rfl rfl rfl ?_; clear hf fa; intro fa hf
                refine sqv hf (r_conv (C := ((s32 A))) rfl Tryd.underlying62 Tryd.underlying21 (by unfold s32; rw [IntKind.wrap_i32]; split <;> omega)) rfl rfl rfl ?_; clear hf fa; intro fa hf
                refine sqv hf (r_conv (C := ((s32 A))) rfl Tryd.underlying21 Tryd.underlying3 (by have := inI_s32 A; unfold inI at this; rw [IntKind.wrap_i64]; omega)) rfl rfl rfl ?_; clear hf fa; intro fa hf
                refine sqdt hf (d_callB (vs := [(.int .i64 ((s32 A)))]) rfl Tryd.func25 (by kernel_rfl) (by kernel_rfl) (rdigits_any ((s32 A)) _ (by first | exact inI_sA (by omega) | exact inI_s32 _))) rfl rfl rfl ?_; clear hf fa; rintro fa _ w11 ⟨rfl, he9⟩ hf
                replace hk1 := blk_ext hk1 he9
                replace hk3 := blk_ext hk3 he9
                replace hb := hb.trans (Below.mono he9 hb.size)
                refine sqv hf (r_sadd rfl rfl (by have : ((⟨#[32]⟩) : ByteArray).size = 1 := rfl; have := sz_app (ofP op).1.2.1 (⟨#[32]⟩ : ByteArray); omega)) rfl rfl rfl ?_; clear hf fa; intro fa hf
                refine sqv hf (r_assign rfl) rfl rfl rfl ?_; clear hf fa; intro fa hf
                apply wpList_nil
                (try simp only [Exit.then, Exit.inBlock, ↓reduceIte, Nat.reduceEqDiff])
                refine hK28 _ _ ?_
                refine wp_ret ?_
                (try simp only [Exit.then, Exit.inBlock])
                refine ret1 hf rfl rfl ?_
                refine ⟨congrArg (fun s => Ending.returned (.string s)) ?_, hb⟩; unfold lineP; rw [if_pos (by have h := hqt9_1; omega)]; unfold behindP; rw [if_neg (by have h0 := hqt21_1; have h1 := hqt21_3; have h2 := hqt25_1; have h3 := hqt38_1; have h4 := hqt63_1; have h5 := hqt76_1; omega), if_neg (by have h0 := hqt21_1; have h1 := hqt21_3; have h2 := hqt25_1; have h3 := hqt38_1; have h4 := hqt63_1; have h5 := hqt76_1; omega), if_neg (by have h0 := hqt21_1; have h1 := hqt21_3; have h2 := hqt25_1; have h3 := hqt38_1; have h4 := hqt63_1; have h5 := hqt76_1; omega), if_neg (by have h0 := hqt21_1; have h1 := hqt21_3; have h2 := hqt25_1; have h3 := hqt38_1; have h4 := hqt63_1; have h5 := hqt76_1; omega), if_pos (by have h0 := hqt21_1; have h1 := hqt21_3; have h2 := hqt25_1; have h3 := hqt38_1; have h4 := hqt63_1; have h5 := hqt76_1; omega), hon]; simp only [ByteArray.append_assoc]
              · have hqt76_1b := hqt76_1
                replace hqt76_1 := Bool.eq_false_iff.1 hqt76_1
                try simp only [ne_eq, decide_eq_true_eq, Bool.and_eq_true, Bool.or_eq_true, Bool.not_eq_true', decide_eq_false_iff_not] at hqt76_1
                refine wp_skip ?_
                (try simp only [Exit.then, Exit.inBlock, ↓reduceIte, Nat.reduceEqDiff])
                refine hK7 _ _ ?_
                refine wp_seq_k (fun K29 hK29 => ?_)
                refine wp_region_lit ?_
                refine sqv hf (r_move rfl) rfl rfl rfl ?_; clear hf fa; intro fa hf
                refine sqv hf (r_sadd rfl rfl (by have : ((⟨#[32]⟩) : ByteArray).size = 1 := rfl; omega)) rfl rfl rfl ?_; clear hf fa; intro fa hf
                refine sqv hf (r_fa rfl Tryd.underlying25 (f := 1) (q := 1) rfl (by kernel_rfl) rfl) rfl rfl rfl ?_; clear hf fa; intro fa hf
                refine sqv hf (r_load (v := (.int .u64 A)) rfl Tryd.underlying22 rfl (cell_blk hk1 rfl)) rfl rfl rfl ?_; clear hf fa; intro fa hf
                refine sqdt hf (d_callB (vs := [(.int .u64 A)]) rfl Tryd.func24 (by kernel_rfl) (by kernel_rfl) (num46_any A _ (by omega))) rfl rfl rfl ?_; clear hf fa; rintro fa _ w12 ⟨rfl, he10⟩ hf
                replace hk1 := blk_ext hk1 he10
                replace hk3 := blk_ext hk3 he10
                replace hb := hb.trans (Below.mono he10 hb.size)
                refine sqv hf (r_sadd rfl rfl (by have : ((⟨#[32]⟩) : ByteArray).size = 1 := rfl; have := sz_app (ofP op).1.2.1 (⟨#[32]⟩ : ByteArray); omega)) rfl rfl rfl ?_; clear hf fa; intro fa hf
                refine sqv hf (r_assign rfl) rfl rfl rfl ?_; clear hf fa; intro fa hf
                apply wpList_nil
                (try simp only [Exit.then, Exit.inBlock, ↓reduceIte, Nat.reduceEqDiff])
                refine hK29 _ _ ?_
                refine wp_ret ?_
                (try simp only [Exit.then, Exit.inBlock])
                refine ret1 hf rfl rfl ?_
                refine ⟨congrArg (fun s => Ending.returned (.string s)) ?_, hb⟩; unfold lineP; rw [if_pos (by have h := hqt9_1; omega)]; unfold behindP; rw [if_neg (by have h0 := hqt21_1; have h1 := hqt21_3; have h2 := hqt25_1; have h3 := hqt38_1; have h4 := hqt63_1; have h5 := hqt76_1; omega), if_neg (by have h0 := hqt21_1; have h1 := hqt21_3; have h2 := hqt25_1; have h3 := hqt38_1; have h4 := hqt63_1; have h5 := hqt76_1; omega), if_neg (by have h0 := hqt21_1; have h1 := hqt21_3; have h2 := hqt25_1; have h3 := hqt38_1; have h4 := hqt63_1; have h5 := hqt76_1; omega), if_neg (by have h0 := hqt21_1; have h1 := hqt21_3; have h2 := hqt25_1; have h3 := hqt38_1; have h4 := hqt63_1; have h5 := hqt76_1; omega), if_neg (by have h0 := hqt21_1; have h1 := hqt21_3; have h2 := hqt25_1; have h3 := hqt38_1; have h4 := hqt63_1; have h5 := hqt76_1; omega), hon]; simp only [ByteArray.append_assoc]
end Go.Proofs.YtpalmpfkliepfaaDoor

namespace Go.Proofs.YtpalmpfkliepfaaDoor
open Go.RowKit Ut
set_option linter.unusedVariables false
set_option linter.unusedSimpArgs false
attribute [local irreducible] infP ofP chkP rchkP

theorem idx_split : ∀ (l : List Nat), l.idxOf 32 < l.length → l = l.take (l.idxOf 32) ++ 32 :: l.drop (l.idxOf 32 + 1) ∧ ∀ c ∈ l.take (l.idxOf 32), c ≠ 32
  | [], h => by cases h
  | c :: l, h => by
    rw [List.idxOf_cons] at h ⊢
    by_cases hc : c = 32
    · subst hc
      simp
    · have h1 : (c == 32) = false := by simp [hc]
      rw [h1] at h ⊢
      simp only [cond_false, Bool.false_eq_true, if_false, List.length_cons] at h ⊢
      have ih := idx_split l (by omega)
      refine ⟨?_, fun d hd => ?_⟩
      · rw [List.take_succ_cons, List.drop_succ_cons, List.cons_append, ← ih.1]
      · rw [List.take_succ_cons] at hd
        rcases List.mem_cons.1 hd with rfl | hd
        · exact hc
        · exact ih.2 d hd
def splitA (cur : List Nat) : List Nat → List (List Nat)
  | [] => [cur]
  | c :: l => if c = 32 then cur :: splitA [] l else splitA (cur ++ [c]) l
def splitL (l : List Nat) : List (List Nat) := splitA [] l
def wordsS (s : ByteArray) : List ByteArray := (splitL (bl s)).map strN
theorem splitA_no (p : List Nat) (h : ∀ c ∈ p, c ≠ 32) : ∀ cur, splitA cur p = [cur ++ p] := by
  induction p with
  | nil => intro cur; rw [List.append_nil]; rfl
  | cons c p ih =>
    intro cur
    rw [splitA, if_neg (h c (List.mem_cons_self ..)), ih (fun d hd => h d (List.mem_cons_of_mem _ hd)), List.append_assoc]; rfl
theorem splitA_hit (p r : List Nat) (h : ∀ c ∈ p, c ≠ 32) : ∀ cur, splitA cur (p ++ 32 :: r) = (cur ++ p) :: splitA [] r := by
  induction p with
  | nil => intro cur; rw [List.append_nil, List.nil_append, splitA, if_pos rfl]
  | cons c p ih =>
    intro cur
    rw [List.cons_append, splitA, if_neg (h c (List.mem_cons_self ..)), ih (fun d hd => h d (List.mem_cons_of_mem _ hd)), List.append_assoc]; rfl
theorem splitA_len (l : List Nat) : ∀ cur, (splitA cur l).length ≤ l.length + 1 ∧ 1 ≤ (splitA cur l).length ∧ ∀ p ∈ splitA cur l, p.length ≤ cur.length + l.length := by
  induction l with
  | nil => intro cur; exact ⟨Nat.le_refl _, Nat.le_refl _, fun p hp => by rw [splitA, List.mem_singleton] at hp; subst hp; exact Nat.le_refl _⟩
  | cons c l ih =>
    intro cur
    rw [splitA]
    split
    · have h1 := ih []
      simp only [List.length_cons, List.length_nil] at h1 ⊢
      exact ⟨by omega, by omega, fun p hp => by rcases List.mem_cons.1 hp with rfl | hp; omega; have := h1.2.2 p hp; omega⟩
    · have h1 := ih (cur ++ [c])
      simp only [List.length_cons, List.length_append, List.length_nil] at h1 ⊢
      exact ⟨by omega, by omega, fun p hp => by have := h1.2.2 p hp; omega⟩
theorem words_len (s : ByteArray) : (wordsS s).length ≤ s.size + 1 ∧ 1 ≤ (wordsS s).length ∧ ∀ y ∈ wordsS s, y.size ≤ s.size := by
  have h := splitA_len (bl s) []
  rw [bl_length] at h
  unfold wordsS splitL
  rw [List.length_map]
  refine ⟨h.1, h.2.1, fun y hy => ?_⟩
  obtain ⟨p, hp, rfl⟩ := List.mem_map.1 hy
  rw [strN_size]
  have := h.2.2 p hp
  simpa using this
theorem idx32 (s : ByteArray) : Lib.indexB s ⟨#[32]⟩ = if (bl s).idxOf 32 < s.size then (((bl s).idxOf 32 : Nat) : Int) else -1 := by
  have h1 : Lib.indexB s ⟨#[32]⟩ = Lib.indexByte s.data.toList 32 := Lib.index_one s.data.toList 32
  rw [h1, indexByte_eq]
  rfl
theorem splitB_bl : ∀ (k : Nat) (s : ByteArray), Lib.countB s ⟨#[32]⟩ = k → (Lib.splitB ⟨#[32]⟩ 0 k s).map bl = splitL (bl s) := by
  intro k
  induction k with
  | zero =>
    intro s hk
    rcases Lib.indexB_cases s ⟨#[32]⟩ with hix | ⟨i, hix, hr⟩
    · rw [Lib.splitB_miss _ _ _ _ hix]
      have h2 := idx32 s
      rw [hix] at h2
      have hno : ¬ (bl s).idxOf 32 < s.size := fun e => by rw [if_pos e] at h2; omega
      have hmem : (32 : Nat) ∉ bl s := fun e => hno (by rw [← bl_length]; exact List.idxOf_lt_length_iff.2 e)
      unfold splitL
      rw [splitA_no _ (fun c hc e => hmem (by rw [← e]; exact hc))]
      rfl
    · have := Lib.countB_hit s ⟨#[32]⟩ i (by decide) hix; omega
  | succ k ih =>
    intro s hk
    rcases Lib.indexB_cases s ⟨#[32]⟩ with hix | ⟨i, hix, hr⟩
    · rw [Lib.countB_miss _ _ hix] at hk; omega
    · have h3 := Lib.countB_hit s ⟨#[32]⟩ i (by decide) hix
      have h2 := idx32 s
      rw [hix] at h2
      have hlt : (bl s).idxOf 32 < s.size := by
        rcases Nat.lt_or_ge ((bl s).idxOf 32) s.size with h | h
        · exact h
        · rw [if_neg (by omega)] at h2; omega
      rw [if_pos hlt] at h2
      have hi : (bl s).idxOf 32 = i := by omega
      rw [Lib.splitB_hit _ _ _ _ _ hix, List.map_cons, ih _ (by omega), bl_mid, bl_drop]
      have hsz : (⟨#[32]⟩ : ByteArray).size = 1 := rfl
      rw [hsz]
      have hli : (bl s).idxOf 32 < (bl s).length := by rw [bl_length]; exact hlt
      obtain ⟨hsplit, hno⟩ := idx_split (bl s) hli
      rw [hi] at hsplit hno
      show List.take (i + 0 - 0) (List.drop 0 (bl s)) :: _ = _
      conv => rhs; unfold splitL; rw [hsplit, splitA_hit _ _ hno]
      rw [List.drop_zero, List.nil_append]
      rfl

theorem wordsS_eq (s : ByteArray) : Lib.splitB ⟨#[32]⟩ 0 (Lib.countB s ⟨#[32]⟩) s = wordsS s := by
  unfold wordsS
  rw [← splitB_bl _ s rfl, List.map_map]
  conv => lhs; rw [← List.map_id (Lib.splitB ⟨#[32]⟩ 0 (Lib.countB s ⟨#[32]⟩) s)]
  apply List.map_congr_left
  intro x _
  exact (strN_bl x).symm
set_option maxRecDepth 100000 in
theorem gensplit_any (s : ByteArray) (w : World) (hs : s.size ≤ 100000) : Calls Tryd.prog 53 #[.string s, .string ⟨#[32]⟩, .int .i64 0, .int .i64 (-1)] w fun e w' => ∃ v, e = .returned v ∧ Row 1 vStr 9 w.heap.size w' v (wordsS s) ∧ Below w.heap.size w w' := by
  have hcl := Lib.countB_le ⟨#[32]⟩ (by decide) s.size s (Nat.le_refl _)
  have h := Any.strings_genSplit_core sh_lays221 (by kernel_rfl) s ⟨#[32]⟩ 0 (-1) (Lib.countB s ⟨#[32]⟩ + 1) w (by omega) (by decide) (by decide)
    (fun x c _ => (sh_strings_Index_one x 32 _).mono fun e w' h => ⟨by rw [h.1, ← Lib.index_one], h.2⟩)
    ((sh_strings_Count_one s 32 w).mono fun e w' h => ⟨by rw [h.1]; unfold Lib.countByte; rw [← Lib.count_one], h.2⟩)
    (by decide) (by decide) (by rw [if_pos (by decide)]; omega)
  refine h.mono ?_
  rintro e w' ⟨rfl, rfl⟩
  rw [Nat.add_sub_cancel, wordsS_eq]
  have hlen : (wordsS s).length = Lib.countB s ⟨#[32]⟩ + 1 := by rw [← wordsS_eq]; exact Lib.splitB_all _ (by decide) _ _ _ rfl
  rw [← hlen, Lib.cellsOf_full]
  refine ⟨_, rfl, ?_, (Below.refl _ _).alloc (Nat.le_refl _) _⟩
  exact Row.of_new (k := 1) (V := vStr) (l := wordsS s) (base := w.heap.size) (heap_alloc_last _ _) (Nat.le_refl _) (by
    rw [List.toList_toArray]
    induction wordsS s with
    | nil => rfl
    | cons x l ih => rw [List.map_cons, List.flatMap_cons, ih]; rfl) (by rw [Nat.mul_one, List.size_toArray, List.length_map]) (by have := (words_len s).1; unfold maxLen; omega)

set_option maxHeartbeats 1000000 in
set_option maxRecDepth 100000 in
theorem split_any (s : ByteArray) (w : World) (hs : s.size ≤ 100000) : Calls Tryd.prog 26 #[(.string s), (.string ⟨#[32]⟩)] w fun e w' => ∃ v, e = .returned v ∧ Row 1 vStr 9 w.heap.size w' v (wordsS s) ∧ Below w.heap.size w w' := by
  refine sx_enter (L := [(0, (.string s)), (1, (.string ⟨#[32]⟩))]) Tryd.func26 rfl rfl rfl rfl (fun fa hf => ?_)
  have hb : Below w.heap.size w w := Below.refl _ _
  refine wp_seq_k (fun K1 hK1 => ?_)
  refine wp_region_lit ?_
  refine sqv hf (r_assign rfl) rfl rfl rfl ?_; clear hf fa; intro fa hf
  apply wpList_nil
  (try simp only [Exit.then, Exit.inBlock, ↓reduceIte, Nat.reduceEqDiff])
  refine hK1 _ _ ?_
  refine wp_seq_k (fun K2 hK2 => ?_)
  refine wp_region_lit ?_
  refine sqv hf (r_move rfl) rfl rfl rfl ?_; clear hf fa; intro fa hf
  refine sqv hf (r_move rfl) rfl rfl rfl ?_; clear hf fa; intro fa hf
  refine sqdt hf (d_callX (vs := [(.string s), (.string ⟨#[32]⟩), (.int .i64 (0 : Int)), (.int .i64 (-1 : Int))]) rfl Tryd.func53 (by kernel_rfl) (by kernel_rfl) (gensplit_any s _ hs)) rfl rfl rfl ?_; clear hf fa; rintro fa v w1 ⟨hr1, he1⟩ hf; obtain ⟨ra1, rc1, rfl, hcrc1, hmrc1⟩ := Row.slice hr1
  replace hr1 := Row.rebase hr1 hb.size
  replace hb := hb.trans (Below.mono he1 hb.size)
  refine sqv hf (r_assign rfl) rfl rfl rfl ?_; clear hf fa; intro fa hf
  apply wpList_nil
  (try simp only [Exit.then, Exit.inBlock, ↓reduceIte, Nat.reduceEqDiff])
  refine hK2 _ _ ?_
  refine wp_ret ?_
  (try simp only [Exit.then, Exit.inBlock])
  refine ret1 hf rfl rfl ?_
  exact ⟨_, rfl, hr1, hb⟩

set_option maxHeartbeats 1000000 in
set_option maxRecDepth 100000 in
theorem find_any (nm : ByteArray) (w : World) : Calls Tryd.prog 27 #[(.string nm)] w fun e w' => e = .returned (.tuple #[.int .u8 (findP nm).1, .bool (findP nm).2]) ∧ Below w.heap.size w w' := by
  refine sx_enter (L := [(0, (.string nm))]) Tryd.func27 rfl rfl rfl rfl (fun fa hf => ?_)
  have hb : Below w.heap.size w w := Below.refl _ _
  refine wp_seq_k (fun K1 hK1 => ?_)
  refine wp_region_lit ?_
  refine sqv hf (r_assign rfl) rfl rfl rfl ?_; clear hf fa; intro fa hf
  refine sqv hf (r_assign rfl) rfl rfl rfl ?_; clear hf fa; intro fa hf
  apply wpList_nil
  (try simp only [Exit.then, Exit.inBlock, ↓reduceIte, Nat.reduceEqDiff])
  refine hK1 _ _ ?_
  refine wp_seq_k (fun K2 hK2 => ?_)
  refine wp_seq_k (fun K3 hK3 => ?_)
  refine wp_region_lit ?_
  refine sqv hf (r_assign rfl) rfl rfl rfl ?_; clear hf fa; intro fa hf
  apply wpList_nil
  (try simp only [Exit.then, Exit.inBlock, ↓reduceIte, Nat.reduceEqDiff])
  refine hK3 _ _ ?_
  refine wp_block ?_
  refine wp_loop_k (fun mq fa wr => ∃ (k : Nat), mq = 256 - k ∧ Fr 21 fa [(0, (.string nm)), (4, (.int .i64 ((k : Nat) : Int)))] ∧ Below w.heap.size w wr ∧ (k ≤ 256) ∧ (nm ≠ ⟨#[]⟩ → findP nm = findR nm (256 - k) k)) ?_ ?_
  · skip
    exact ⟨_, 0, rfl, hf.sub ⟨rfl, (some_int (by first | rfl | omega)), trivial⟩, hb, by omega, (fun h0 => by unfold findP; rw [if_neg h0])⟩
  · skip
    clear hf fa; intro mq1 fa w1 hI KL1 hKL1
    clear hb
    obtain ⟨k, hmq1, hf, hb, hk, Hs⟩ := hI
    refine wp_seq_k (fun K4 hK4 => ?_)
    refine wp_seq_k (fun K5 hK5 => ?_)
    refine wp_region_lit ?_
    refine sqv hf (r_move rfl) rfl rfl rfl ?_; clear hf fa; intro fa hf
    refine sqv hf (r_lt rfl rfl) rfl rfl rfl ?_; clear hf fa; intro fa hf
    refine sqv hf (r_move rfl) rfl rfl rfl ?_; clear hf fa; intro fa hf
    refine sqgT (act := (decide (((k : Nat) : Int) < (256 : Int)))) (ag := true) (c := (decide (((k : Nat) : Int) < (256 : Int)))) (v := (.string nm)) hf rfl rfl rfl (fun hact => (r_move rfl)) rfl rfl ?_; clear hf fa; intro fa hf
    refine sqgT (act := (decide (((k : Nat) : Int) < (256 : Int)))) (ag := true) (c := (decide (((k : Nat) : Int) < (256 : Int)))) (v := (.bool (decide (nm ≠ ⟨#[]⟩)))) hf rfl rfl rfl (fun hact => (r_sne (gb_ev hact rfl) rfl)) rfl rfl ?_; clear hf fa; intro fa hf
    refine sqv hf (r_pickA (b := (decide (((k : Nat) : Int) < (256 : Int)))) (e := (decide (nm ≠ ⟨#[]⟩))) rfl rfl rfl) rfl rfl rfl ?_; clear hf fa; intro fa hf
    apply wpList_nil
    (try simp only [Exit.then, Exit.inBlock, ↓reduceIte, Nat.reduceEqDiff])
    refine hK5 _ _ ?_
    refine wp_cond_split (t := ((decide (((k : Nat) : Int) < (256 : Int))) && (decide (nm ≠ ⟨#[]⟩)))) (hf.ev rfl) (fun hqt10_1 => ?_) (fun hqt10_1 => ?_)
    · have hqt10_1b := hqt10_1
      try simp only [decide_eq_true_eq, Bool.and_eq_true, Bool.or_eq_true, Bool.not_eq_true', decide_eq_false_iff_not, ne_eq, Bool.not_eq_true] at hqt10_1
      refine wp_skip ?_
      (try simp only [Exit.then, Exit.inBlock, ↓reduceIte, Nat.reduceEqDiff])
      refine hK4 _ _ ?_
      refine wp_seq_k (fun K6 hK6 => ?_)
      refine wp_block ?_
      refine wp_seq_k (fun K7 hK7 => ?_)
      refine wp_region_lit ?_
      refine sqv hf (r_move rfl) rfl rfl rfl ?_; clear hf fa; intro fa hf
      refine sqv hf (r_conv (C := ((k : Nat) : Int)) rfl Tryd.underlying3 Tryd.underlying5 (by rw [IntKind.wrap_u8]; omega)) rfl rfl rfl ?_; clear hf fa; intro fa hf
      refine sqdt hf (d_callB (vs := [(.int .u8 ((k : Nat) : Int))]) rfl Tryd.func20 (by kernel_rfl) (by kernel_rfl) (inf_any k _ (by omega))) rfl rfl rfl ?_; clear hf fa; rintro fa _ w2 ⟨rfl, he1⟩ hf
      replace hb := hb.trans (Below.mono he1 hb.size)
      refine sqv hf (r_field (cs := #[(.string (infP k).1), (.int .i64 ((infP k).2.1)), (.string (infP k).2.2.1), (.string (infP k).2.2.2.1), (.bool (infP k).2.2.2.2.1)]) (v := (.string (infP k).1)) rfl (fun _ => by kernel_rfl)) rfl rfl rfl ?_; clear hf fa; intro fa hf
      refine sqv hf (r_move rfl) rfl rfl rfl ?_; clear hf fa; intro fa hf
      refine sqv hf (r_seq rfl rfl) rfl rfl rfl ?_; clear hf fa; intro fa hf
      apply wpList_nil
      (try simp only [Exit.then, Exit.inBlock, ↓reduceIte, Nat.reduceEqDiff])
      refine hK7 _ _ ?_
      refine wp_cond_split (t := (decide ((infP k).1 = nm))) (hf.ev rfl) (fun hqt18_1 => ?_) (fun hqt18_1 => ?_)
      · have hqt18_1b := hqt18_1
        try simp only [decide_eq_true_eq, Bool.and_eq_true, Bool.or_eq_true, Bool.not_eq_true', decide_eq_false_iff_not, ne_eq, Bool.not_eq_true] at hqt18_1
        refine wp_seq_k (fun K8 hK8 => ?_)
        refine wp_region_lit ?_
        refine sqv hf (r_move rfl) rfl rfl rfl ?_; clear hf fa; intro fa hf
        refine sqv hf (r_conv (C := ((k : Nat) : Int)) rfl Tryd.underlying3 Tryd.underlying5 (by rw [IntKind.wrap_u8]; omega)) rfl rfl rfl ?_; clear hf fa; intro fa hf
        refine sqv hf (r_assign rfl) rfl rfl rfl ?_; clear hf fa; intro fa hf
        refine sqv hf (r_assign rfl) rfl rfl rfl ?_; clear hf fa; intro fa hf
        apply wpList_nil
        (try simp only [Exit.then, Exit.inBlock, ↓reduceIte, Nat.reduceEqDiff])
        refine hK8 _ _ ?_
        refine wp_ret ?_
        (try simp only [Exit.then, Exit.inBlock])
        refine ret2 hf rfl rfl rfl ?_
        refine ⟨congrArg (fun n : Int × Bool => Ending.returned (.tuple #[.int .u8 n.1, .bool n.2])) (show (((k : Nat) : Int), true) = findP nm from ?_), hb⟩; rw [Hs (by have h := hqt10_1; exact h.2), show 256 - k = (256 - (k + 1)) + 1 by omega, findR, if_pos (by have h := hqt18_1; exact h)]
      · have hqt18_1b := hqt18_1
        replace hqt18_1 := Bool.eq_false_iff.1 hqt18_1
        try simp only [ne_eq, decide_eq_true_eq, Bool.and_eq_true, Bool.or_eq_true, Bool.not_eq_true', decide_eq_false_iff_not] at hqt18_1
        refine wp_skip ?_
        (try simp only [Exit.then, Exit.inBlock, ↓reduceIte, Nat.reduceEqDiff])
        refine hK6 _ _ ?_
        refine wp_region_lit ?_
        refine sqv hf (r_move rfl) rfl rfl rfl ?_; clear hf fa; intro fa hf
        refine sqv hf (r_add (C := (((k : Nat) : Int) + (1 : Int))) rfl rfl (by rw [IntKind.wrap_i64]; omega)) rfl rfl rfl ?_; clear hf fa; intro fa hf
        refine sqv hf (r_assign rfl) rfl rfl rfl ?_; clear hf fa; intro fa hf
        apply wpList_nil
        (try simp only [Exit.then, Exit.inBlock, ↓reduceIte, Nat.reduceEqDiff])
        refine hKL1 _ _ _ (by omega) ⟨(k + 1), rfl, hf.sub ⟨rfl, (some_int (by first | rfl | omega)), trivial⟩, hb, by omega, (fun h0 => by rw [Hs h0, show 256 - k = (256 - (k + 1)) + 1 by omega, findR, if_neg (by have h := hqt18_1; exact h)])⟩
    · have hqt10_1b := hqt10_1
      replace hqt10_1 := Bool.eq_false_iff.1 hqt10_1
      try simp only [ne_eq, decide_eq_true_eq, Bool.and_eq_true, Bool.or_eq_true, Bool.not_eq_true', decide_eq_false_iff_not] at hqt10_1
      refine wp_exit ?_
      (try simp only [Exit.then, Exit.inBlock, ↓reduceIte, Nat.reduceEqDiff])
      refine hK2 _ _ ?_
      refine wp_seq_k (fun K9 hK9 => ?_)
      refine wp_region_lit ?_
      refine sqv hf (r_assign rfl) rfl rfl rfl ?_; clear hf fa; intro fa hf
      refine sqv hf (r_assign rfl) rfl rfl rfl ?_; clear hf fa; intro fa hf
      apply wpList_nil
      (try simp only [Exit.then, Exit.inBlock, ↓reduceIte, Nat.reduceEqDiff])
      refine hK9 _ _ ?_
      refine wp_ret ?_
      (try simp only [Exit.then, Exit.inBlock])
      refine ret2 hf rfl rfl rfl ?_
      refine ⟨congrArg (fun n : Int × Bool => Ending.returned (.tuple #[.int .u8 n.1, .bool n.2])) (show ((0 : Int), false) = findP nm from ?_), hb⟩; by_cases h0 : nm = ⟨#[]⟩
      · unfold findP; rw [if_pos h0]
      · rw [Hs h0, show 256 - k = 0 by rcases Nat.lt_or_ge k 256 with h1 | h1; exact absurd (And.intro (by omega) h0) hqt10_1; omega]; rfl
end Go.Proofs.YtpalmpfkliepfaaDoor

namespace Go.Proofs.YtpalmpfkliepfaaDoor
open Go.RowKit Ut
set_option linter.unusedVariables false
set_option linter.unusedSimpArgs false
attribute [local irreducible] infP ofP chkP rchkP

end Go.Proofs.YtpalmpfkliepfaaDoor

namespace Go.Proofs.YtpalmpfkliepfaaDoor
open Go.RowKit Ut
set_option linter.unusedVariables false
set_option linter.unusedSimpArgs false
attribute [local irreducible] infP ofP chkP rchkP

def uA (n : Int) : Int := if n < 0 then n + 18446744073709551616 else n
theorem wrap_uA {n : Int} (h : inI n) : IntKind.wrap .u64 n = uA n := by unfold uA inI at *; rw [IntKind.wrap_u64]; split <;> omega
theorem numP_in (l : List Nat) : inI (numP l).1 := by
  cases h : (numP l).2 with
  | false => rw [numP_no h]; unfold inI; decide
  | true => exact (numP_yes (n := (numP l).1) (by rw [← h])).1
def bytL : List Int := [127, 126, 125, 124, 112]
def bytO (j : Nat) : Int := bytL.getD j 0
theorem bytO_at {j : Nat} (h : j < 5) : bytL[j]? = some (bytO j) := by
  unfold bytO
  exact getD_at (l := bytL) (j := j) _ h
def bytR (s : ByteArray) : Nat → Nat → Int
  | 0, _ => 0
  | f + 1, i => if tnameP (bytO i) = s then bytO i else bytR s f (i + 1)
def bytP (s : ByteArray) : Int := bytR s 5 0
def okN (y : ByteArray) : Bool := (numP (bl y)).2 && decide (0 ≤ (numP (bl y)).1 ∧ (numP (bl y)).1 < 4294967296)
def nbsA (o : List Int) : List ByteArray → List Int × Bool
  | [] => (o, true)
  | y :: l => if okN y = true then nbsA (o ++ [(numP (bl y)).1]) l else ([], false)
def nbsP (W : List ByteArray) : List Int × Bool := nbsA [] W
theorem drop_atH {α : Type} {l : List α} {k : Nat} {y : α} (h : l[k]? = some y) : l.drop k = y :: l.drop (k + 1) := by
  obtain ⟨hk, rfl⟩ := List.getElem?_eq_some_iff.1 h
  exact List.drop_eq_getElem_cons hk
theorem nbsA_len (W : List ByteArray) : ∀ o, (nbsA o W).1.length ≤ o.length + W.length := by
  induction W with
  | nil => intro o; exact Nat.le_refl _
  | cons y l ih =>
    intro o
    rw [nbsA]
    split
    · have := ih (o ++ [(numP (bl y)).1]); simp only [List.length_append, List.length_cons, List.length_nil] at this ⊢; omega
    · exact Nat.zero_le _

set_option maxHeartbeats 1000000 in
set_option maxRecDepth 100000 in
theorem byte_any (s : ByteArray) (w : World) : Calls Tryd.prog 54 #[(.string s)] w fun e w' => e = .returned (.int .u8 (bytP s)) ∧ Below w.heap.size w w' := by
  refine sx_enter (L := [(0, (.string s))]) Tryd.func54 rfl rfl rfl rfl (fun fa hf => ?_)
  have hb : Below w.heap.size w w := Below.refl _ _
  refine wp_seq_k (fun K1 hK1 => ?_)
  refine wp_region_lit ?_
  refine sqv hf (r_assign rfl) rfl rfl rfl ?_; clear hf fa; intro fa hf
  apply wpList_nil
  (try simp only [Exit.then, Exit.inBlock, ↓reduceIte, Nat.reduceEqDiff])
  refine hK1 _ _ ?_
  refine wp_seq_k (fun K2 hK2 => ?_)
  refine wp_seq_k (fun K3 hK3 => ?_)
  refine wp_region_lit ?_
  refine sqdt hf (d_bslice (z := (.int .u8 (0 : Int))) (sz := 1) (vs := [(0, (.int .u8 (127 : Int))), (1, (.int .u8 (126 : Int))), (2, (.int .u8 (125 : Int))), (3, (.int .u8 (124 : Int))), (4, (.int .u8 (112 : Int)))]) (cs := #[(.int .u8 (127 : Int)), (.int .u8 (126 : Int)), (.int .u8 (125 : Int)), (.int .u8 (124 : Int)), (.int .u8 (112 : Int))]) rfl Tryd.underlying87 (by kernel_rfl) rfl (by kernel_rfl)) rfl rfl rfl ?_; clear hf fa; rintro fa _ w1 ⟨b1, rfl, hle1, hk1, he1⟩ hf
  have hBb1 : w.heap.size ≤ b1 := Nat.le_trans hb.size hle1
  replace hb := hb.trans (Below.mono he1 hb.size)
  have hr1 := Row.of_new (k := 1) (V := (vInt .u8)) (l := [(127 : Int), (126 : Int), (125 : Int), (124 : Int), (112 : Int)]) (base := w.heap.size) hk1 (by omega) rfl rfl (Nat.le_of_ble_eq_true rfl)
  refine sqv hf (r_lensl rfl Tryd.underlying87) rfl rfl rfl ?_; clear hf fa; intro fa hf
  refine sqv hf (r_move rfl) rfl rfl rfl ?_; clear hf fa; intro fa hf
  apply wpList_nil
  (try simp only [Exit.then, Exit.inBlock, ↓reduceIte, Nat.reduceEqDiff])
  refine hK3 _ _ ?_
  refine wp_block ?_
  refine wp_loop_k (fun mq fa wr => ∃ (k : Nat), mq = 5 - k ∧ Fr 17 fa [(0, (.string s)), (6, (.int .i64 (5 : Int))), (7, (.int .i64 ((k : Nat) : Int))), (5, (.slice (some ⟨b1, 0, none⟩) 5 5))] ∧ Below w.heap.size w wr ∧ Row 1 (vInt .u8) 5 (w.heap.size) wr (.slice (some ⟨b1, 0, none⟩) (5) 5) [(127 : Int), (126 : Int), (125 : Int), (124 : Int), (112 : Int)] ∧ (k ≤ 5) ∧ (bytP s = bytR s (5 - k) k)) ?_ ?_
  · skip
    exact ⟨_, 0, rfl, hf.sub ⟨rfl, rfl, (some_int (by first | rfl | omega)), rfl, trivial⟩, hb, hr1, by omega, rfl⟩
  · skip
    clear hf fa; intro mq1 fa w2 hI KL1 hKL1
    clear hb
    clear hr1
    obtain ⟨k, hmq1, hf, hb, hrhr1, hk, Hs⟩ := hI
    have hcrhr1 := Row.caps hrhr1
    refine wp_seq_k (fun K4 hK4 => ?_)
    refine wp_region_lit ?_
    refine sqv hf (r_lt rfl rfl) rfl rfl rfl ?_; clear hf fa; intro fa hf
    apply wpList_nil
    (try simp only [Exit.then, Exit.inBlock, ↓reduceIte, Nat.reduceEqDiff])
    refine hK4 _ _ ?_
    refine wp_seq_k (fun K5 hK5 => ?_)
    refine wp_cond_split (t := (decide (((k : Nat) : Int) < (5 : Int)))) (hf.ev rfl) (fun hqt8_1 => ?_) (fun hqt8_1 => ?_)
    · have hqt8_1b := hqt8_1
      try simp only [decide_eq_true_eq, Bool.and_eq_true, Bool.or_eq_true, Bool.not_eq_true', decide_eq_false_iff_not, ne_eq, Bool.not_eq_true] at hqt8_1
      refine wp_skip ?_
      (try simp only [Exit.then, Exit.inBlock, ↓reduceIte, Nat.reduceEqDiff])
      refine hK5 _ _ ?_
      refine wp_seq_k (fun K6 hK6 => ?_)
      refine wp_block ?_
      refine wp_seq_k (fun K7 hK7 => ?_)
      refine wp_region_lit ?_
      have hy1 : ([(127 : Int), (126 : Int), (125 : Int), (124 : Int), (112 : Int)])[k]? = some (bytO k) := (bytO_at (by omega))
      have hel1 := RdS.at (Row.rd (by intros; rfl) hrhr1) hy1
      obtain ⟨_, _, hab, hlr1, hel1⟩ := hel1
      cases hab
      refine sqv hf (r_ixa (sz := 1) (j := k) rfl rfl Tryd.underlying87 (by kernel_rfl) rfl (by omega) rfl) rfl rfl rfl ?_; clear hf fa; intro fa hf
      refine sqv hf (r_load (v := (.int .u8 ((bytO k)))) rfl Tryd.underlying5 rfl (cellsAt_cell hel1 (i := 0) rfl rfl)) rfl rfl rfl ?_; clear hf fa; intro fa hf
      refine sqv hf (r_assign rfl) rfl rfl rfl ?_; clear hf fa; intro fa hf
      apply wpList_nil
      (try simp only [Exit.then, Exit.inBlock, ↓reduceIte, Nat.reduceEqDiff])
      refine hK7 _ _ ?_
      refine wp_seq_k (fun K8 hK8 => ?_)
      refine wp_region_lit ?_
      refine sqv hf (r_move rfl) rfl rfl rfl ?_; clear hf fa; intro fa hf
      refine sqdt hf (d_callB (vs := [(.int .u8 ((bytO k)))]) rfl Tryd.func74 (by kernel_rfl) (by kernel_rfl) (tname_any ((bytO k)) _)) rfl rfl rfl ?_; clear hf fa; rintro fa _ w3 ⟨rfl, he2⟩ hf
      replace hrhr1 := Row.ext hrhr1 he2
      replace hb := hb.trans (Below.mono he2 hb.size)
      refine sqv hf (r_move rfl) rfl rfl rfl ?_; clear hf fa; intro fa hf
      refine sqv hf (r_seq rfl rfl) rfl rfl rfl ?_; clear hf fa; intro fa hf
      apply wpList_nil
      (try simp only [Exit.then, Exit.inBlock, ↓reduceIte, Nat.reduceEqDiff])
      refine hK8 _ _ ?_
      refine wp_cond_split (t := (decide ((tnameP ((bytO k))) = s))) (hf.ev rfl) (fun hqt14_1 => ?_) (fun hqt14_1 => ?_)
      · have hqt14_1b := hqt14_1
        try simp only [decide_eq_true_eq, Bool.and_eq_true, Bool.or_eq_true, Bool.not_eq_true', decide_eq_false_iff_not, ne_eq, Bool.not_eq_true] at hqt14_1
        refine wp_seq_k (fun K9 hK9 => ?_)
        refine wp_region_lit ?_
        refine sqv hf (r_move rfl) rfl rfl rfl ?_; clear hf fa; intro fa hf
        refine sqv hf (r_assign rfl) rfl rfl rfl ?_; clear hf fa; intro fa hf
        apply wpList_nil
        (try simp only [Exit.then, Exit.inBlock, ↓reduceIte, Nat.reduceEqDiff])
        refine hK9 _ _ ?_
        refine wp_ret ?_
        (try simp only [Exit.then, Exit.inBlock])
        refine ret1 hf rfl rfl ?_
        refine ⟨congrArg (fun n => Ending.returned (.int .u8 n)) ?_, hb⟩; rw [Hs, show 5 - k = (5 - (k + 1)) + 1 by omega, bytR, if_pos hqt14_1]
      · have hqt14_1b := hqt14_1
        replace hqt14_1 := Bool.eq_false_iff.1 hqt14_1
        try simp only [ne_eq, decide_eq_true_eq, Bool.and_eq_true, Bool.or_eq_true, Bool.not_eq_true', decide_eq_false_iff_not] at hqt14_1
        refine wp_skip ?_
        (try simp only [Exit.then, Exit.inBlock, ↓reduceIte, Nat.reduceEqDiff])
        refine hK6 _ _ ?_
        refine wp_region_lit ?_
        refine sqv hf (r_add (C := (((k : Nat) : Int) + (1 : Int))) rfl rfl (by rw [IntKind.wrap_i64]; omega)) rfl rfl rfl ?_; clear hf fa; intro fa hf
        refine sqv hf (r_move rfl) rfl rfl rfl ?_; clear hf fa; intro fa hf
        apply wpList_nil
        (try simp only [Exit.then, Exit.inBlock, ↓reduceIte, Nat.reduceEqDiff])
        refine hKL1 _ _ _ (by omega) ⟨(k + 1), rfl, hf.sub ⟨rfl, rfl, (some_int (by first | rfl | omega)), rfl, trivial⟩, hb, hrhr1, by omega, (by rw [Hs, show 5 - k = (5 - (k + 1)) + 1 by omega, bytR, if_neg hqt14_1])⟩
    · have hqt8_1b := hqt8_1
      replace hqt8_1 := Bool.eq_false_iff.1 hqt8_1
      try simp only [ne_eq, decide_eq_true_eq, Bool.and_eq_true, Bool.or_eq_true, Bool.not_eq_true', decide_eq_false_iff_not] at hqt8_1
      refine wp_exit ?_
      (try simp only [Exit.then, Exit.inBlock, ↓reduceIte, Nat.reduceEqDiff])
      refine hK2 _ _ ?_
      refine wp_seq_k (fun K10 hK10 => ?_)
      refine wp_region_lit ?_
      refine sqv hf (r_assign rfl) rfl rfl rfl ?_; clear hf fa; intro fa hf
      apply wpList_nil
      (try simp only [Exit.then, Exit.inBlock, ↓reduceIte, Nat.reduceEqDiff])
      refine hK10 _ _ ?_
      refine wp_ret ?_
      (try simp only [Exit.then, Exit.inBlock])
      refine ret1 hf rfl rfl ?_
      refine ⟨congrArg (fun n => Ending.returned (.int .u8 n)) ?_, hb⟩; rw [Hs, show 5 - k = 0 by omega, bytR]

set_option maxHeartbeats 1000000 in
set_option maxRecDepth 100000 in
theorem numbers_any (a : Option Addr) (W : List ByteArray) (c : Nat) (w : World) (hl : RdS 1 vStr w a W) (hc : W.length ≤ c) (hn : W.length ≤ 100000) (hW : ∀ y ∈ W, y.size ≤ 100000) : Calls Tryd.prog 57 #[(.slice a W.length c)] w fun e w' => ∃ v, e = .returned v ∧ ∃ a1 c1, v = (.tuple #[.slice a1 (nbsP W).1.length c1, .bool (nbsP W).2]) ∧ Row 1 (vInt .u64) 22 w.heap.size w' (.slice a1 (nbsP W).1.length c1) (nbsP W).1 ∧ Below w.heap.size w w' := by
  refine sx_enter (L := [(0, (.slice a W.length c))]) Tryd.func57 rfl rfl rfl rfl (fun fa hf => ?_)
  have hb : Below w.heap.size w w := Below.refl _ _
  refine wp_seq_k (fun K1 hK1 => ?_)
  refine wp_region_lit ?_
  refine sqv hf (r_assign rfl) rfl rfl rfl ?_; clear hf fa; intro fa hf
  refine sqv hf (r_assign rfl) rfl rfl rfl ?_; clear hf fa; intro fa hf
  apply wpList_nil
  (try simp only [Exit.then, Exit.inBlock, ↓reduceIte, Nat.reduceEqDiff])
  refine hK1 _ _ ?_
  refine wp_seq_k (fun K2 hK2 => ?_)
  refine wp_region_lit ?_
  refine sqv hf (r_assign rfl) rfl rfl rfl ?_; clear hf fa; intro fa hf
  apply wpList_nil
  (try simp only [Exit.then, Exit.inBlock, ↓reduceIte, Nat.reduceEqDiff])
  refine hK2 _ _ ?_
  refine wp_seq_k (fun K3 hK3 => ?_)
  refine wp_seq_k (fun K4 hK4 => ?_)
  refine wp_region_lit ?_
  refine sqv hf (r_move rfl) rfl rfl rfl ?_; clear hf fa; intro fa hf
  refine sqv hf (r_lensl rfl Tryd.underlying43) rfl rfl rfl ?_; clear hf fa; intro fa hf
  refine sqv hf (r_move rfl) rfl rfl rfl ?_; clear hf fa; intro fa hf
  apply wpList_nil
  (try simp only [Exit.then, Exit.inBlock, ↓reduceIte, Nat.reduceEqDiff])
  refine hK4 _ _ ?_
  refine wp_block ?_
  refine wp_loop_k (fun mq fa wr => ∃ (k : Nat) (o : List Int) (roa : Option Addr) (roc : Nat), mq = W.length - k ∧ Fr 37 fa [(9, (.slice a W.length c)), (10, (.int .i64 ((W.length : Nat) : Int))), (11, (.int .i64 ((k : Nat) : Int))), (4, (.slice roa o.length roc))] ∧ Below w.heap.size w wr ∧ Row 1 (vInt .u64) 22 (w.heap.size) wr (.slice roa (o.length) roc) o ∧ (k ≤ W.length) ∧ (o.length ≤ k) ∧ (nbsP W = nbsA o (W.drop k))) ?_ ?_
  · skip
    exact ⟨_, 0, [], none, 0, rfl, hf.sub ⟨rfl, rfl, (some_int (by first | rfl | omega)), (some_sl (by first | omega | rfl | (simp only [List.length_append, List.length_cons, List.length_nil]; omega) | (simp <;> omega)) rfl), trivial⟩, hb, Row.nil, by omega, by simp, rfl⟩
  · skip
    clear hf fa; intro mq1 fa w1 hI KL1 hKL1
    clear hb
    obtain ⟨k, o, roa, roc, hmq1, hf, hb, hro, hk, hlo, HW⟩ := hI
    have hcro := Row.caps hro
    refine wp_seq_k (fun K5 hK5 => ?_)
    refine wp_region_lit ?_
    refine sqv hf (r_lt rfl rfl) rfl rfl rfl ?_; clear hf fa; intro fa hf
    apply wpList_nil
    (try simp only [Exit.then, Exit.inBlock, ↓reduceIte, Nat.reduceEqDiff])
    refine hK5 _ _ ?_
    refine wp_seq_k (fun K6 hK6 => ?_)
    refine wp_cond_split (t := (decide (((k : Nat) : Int) < ((W.length : Nat) : Int)))) (hf.ev rfl) (fun hqt12_1 => ?_) (fun hqt12_1 => ?_)
    · have hqt12_1b := hqt12_1
      try simp only [decide_eq_true_eq, Bool.and_eq_true, Bool.or_eq_true, Bool.not_eq_true', decide_eq_false_iff_not, ne_eq, Bool.not_eq_true] at hqt12_1
      refine wp_skip ?_
      (try simp only [Exit.then, Exit.inBlock, ↓reduceIte, Nat.reduceEqDiff])
      refine hK6 _ _ ?_
      refine wp_seq_k (fun K7 hK7 => ?_)
      refine wp_block ?_
      refine wp_seq_k (fun K8 hK8 => ?_)
      obtain ⟨y, hy⟩ : ∃ y, W[k]? = some y := ⟨_, List.getElem?_eq_getElem (by omega)⟩
      have hys := hW y (List.mem_of_getElem? hy)
      have hyi := numP_in (bl y)
      unfold inI at hyi
      refine wp_region_lit ?_
      have hy1 : (W)[k]? = some y := hy
      obtain ⟨ab1, aoff1, hat1, hlb1, hel1⟩ := RdS.at hl hy1
      refine sqv hf (r_ixa (sz := 1) (j := k) (evAt rfl hat1) rfl Tryd.underlying43 (by kernel_rfl) rfl (by omega) rfl) rfl rfl rfl ?_; clear hf fa; intro fa hf
      refine sqv hf (r_load (v := (.string y)) rfl Tryd.underlying9 rfl (cellsAt_cell (cellsAt_below hel1 hb hlb1) (i := 0) rfl rfl)) rfl rfl rfl ?_; clear hf fa; intro fa hf
      refine sqv hf (r_assign rfl) rfl rfl rfl ?_; clear hf fa; intro fa hf
      apply wpList_nil
      (try simp only [Exit.then, Exit.inBlock, ↓reduceIte, Nat.reduceEqDiff])
      refine hK8 _ _ ?_
      refine wp_seq_k (fun K9 hK9 => ?_)
      refine wp_region_lit ?_
      refine sqv hf (r_move rfl) rfl rfl rfl ?_; clear hf fa; intro fa hf
      refine sqdt hf (d_callB (vs := [(.string y)]) rfl Tryd.func80 (by kernel_rfl) (by kernel_rfl) (number_any y _ (by omega))) rfl rfl rfl ?_; clear hf fa; rintro fa _ w2 ⟨rfl, he1⟩ hf
      replace hro := Row.ext hro he1
      replace hb := hb.trans (Below.mono he1 hb.size)
      refine sqv hf (r_move rfl) rfl rfl rfl ?_; clear hf fa; intro fa hf
      refine sqv hf (r_extract rfl (i := 0) rfl) rfl rfl rfl ?_; clear hf fa; intro fa hf
      refine sqv hf (r_extract rfl (i := 1) rfl) rfl rfl rfl ?_; clear hf fa; intro fa hf
      refine sqv hf (r_assign rfl) rfl rfl rfl ?_; clear hf fa; intro fa hf
      refine sqv hf (r_assign rfl) rfl rfl rfl ?_; clear hf fa; intro fa hf
      apply wpList_nil
      (try simp only [Exit.then, Exit.inBlock, ↓reduceIte, Nat.reduceEqDiff])
      refine hK9 _ _ ?_
      refine wp_seq_k (fun K10 hK10 => ?_)
      refine wp_seq_k (fun K11 hK11 => ?_)
      refine wp_region_lit ?_
      refine sqv hf (r_move rfl) rfl rfl rfl ?_; clear hf fa; intro fa hf
      refine sqv hf (r_not rfl) rfl rfl rfl ?_; clear hf fa; intro fa hf
      refine sqv hf (r_move rfl) rfl rfl rfl ?_; clear hf fa; intro fa hf
      refine sqgF (act := (!(!(numP (bl y)).2))) (ag := true) (c := (!(numP (bl y)).2)) (v := (.int .i64 ((numP (bl y)).1))) hf rfl rfl rfl (fun hact => (r_move rfl)) rfl rfl ?_; clear hf fa; intro fa hf
      refine sqgF (act := (!(!(numP (bl y)).2))) (ag := true) (c := (!(numP (bl y)).2)) (v := (.bool (decide (((numP (bl y)).1) < (0 : Int))))) hf rfl rfl rfl (fun hact => (r_lt (gb_ev hact rfl) rfl)) rfl rfl ?_; clear hf fa; intro fa hf
      refine sqv hf (r_pickO (b := (!(numP (bl y)).2)) (e := (decide (((numP (bl y)).1) < (0 : Int)))) rfl rfl rfl) rfl rfl rfl ?_; clear hf fa; intro fa hf
      refine sqv hf (r_move rfl) rfl rfl rfl ?_; clear hf fa; intro fa hf
      refine sqgF (act := (!((!(numP (bl y)).2) || (decide (((numP (bl y)).1) < (0 : Int)))))) (ag := true) (c := ((!(numP (bl y)).2) || (decide (((numP (bl y)).1) < (0 : Int))))) (v := (.int .i64 ((numP (bl y)).1))) hf rfl rfl rfl (fun hact => (r_move rfl)) rfl rfl ?_; clear hf fa; intro fa hf
      refine sqgF (act := (!((!(numP (bl y)).2) || (decide (((numP (bl y)).1) < (0 : Int)))))) (ag := true) (c := ((!(numP (bl y)).2) || (decide (((numP (bl y)).1) < (0 : Int))))) (v := (.bool (decide ((4294967296 : Int) ≤ ((numP (bl y)).1))))) hf rfl rfl rfl (fun hact => (r_ge (gb_ev hact rfl) rfl)) rfl rfl ?_; clear hf fa; intro fa hf
      refine sqv hf (r_pickO (b := ((!(numP (bl y)).2) || (decide (((numP (bl y)).1) < (0 : Int))))) (e := (decide ((4294967296 : Int) ≤ ((numP (bl y)).1)))) rfl rfl rfl) rfl rfl rfl ?_; clear hf fa; intro fa hf
      apply wpList_nil
      (try simp only [Exit.then, Exit.inBlock, ↓reduceIte, Nat.reduceEqDiff])
      refine hK11 _ _ ?_
      refine wp_cond_split (t := (((!(numP (bl y)).2) || (decide (((numP (bl y)).1) < (0 : Int)))) || (decide ((4294967296 : Int) ≤ ((numP (bl y)).1))))) (hf.ev rfl) (fun hqt29_1 => ?_) (fun hqt29_1 => ?_)
      · have hqt29_1b := hqt29_1
        try simp only [decide_eq_true_eq, Bool.and_eq_true, Bool.or_eq_true, Bool.not_eq_true', decide_eq_false_iff_not, ne_eq, Bool.not_eq_true] at hqt29_1
        refine wp_seq_k (fun K12 hK12 => ?_)
        refine wp_region_lit ?_
        refine sqv hf (r_assign rfl) rfl rfl rfl ?_; clear hf fa; intro fa hf
        refine sqv hf (r_assign rfl) rfl rfl rfl ?_; clear hf fa; intro fa hf
        apply wpList_nil
        (try simp only [Exit.then, Exit.inBlock, ↓reduceIte, Nat.reduceEqDiff])
        refine hK12 _ _ ?_
        refine wp_ret ?_
        (try simp only [Exit.then, Exit.inBlock])
        refine ret2 hf rfl rfl rfl ?_
        have hno : ¬ okN y = true := by
          intro he
          unfold okN at he
          have h := hqt29_1
          simp at he h
          rcases h with h | h
          · rcases h with h | h
            · rw [he.1] at h; cases h
            · omega
          · omega
        have hN : nbsP W = ([], false) := by rw [HW, drop_atH hy, nbsA, if_neg hno]
        rw [hN]; exact ⟨_, rfl, none, 0, rfl, Row.nil, hb⟩
      · have hqt29_1b := hqt29_1
        replace hqt29_1 := Bool.eq_false_iff.1 hqt29_1
        try simp only [ne_eq, decide_eq_true_eq, Bool.and_eq_true, Bool.or_eq_true, Bool.not_eq_true', decide_eq_false_iff_not] at hqt29_1
        refine wp_skip ?_
        (try simp only [Exit.then, Exit.inBlock, ↓reduceIte, Nat.reduceEqDiff])
        refine hK10 _ _ ?_
        refine wp_region_lit ?_
        refine sqv hf (r_move rfl) rfl rfl rfl ?_; clear hf fa; intro fa hf
        refine sqv hf (r_move rfl) rfl rfl rfl ?_; clear hf fa; intro fa hf
        refine sqv hf (r_conv (C := ((numP (bl y)).1)) rfl Tryd.underlying3 Tryd.underlying22 (by rw [IntKind.wrap_u64]; omega)) rfl rfl rfl ?_; clear hf fa; intro fa hf
        refine sqdt hf (d_bslice (z := (.int .u64 (0 : Int))) (sz := 1) (vs := [(0, (.int .u64 ((numP (bl y)).1)))]) (cs := #[(.int .u64 ((numP (bl y)).1))]) rfl Tryd.underlying91 (by kernel_rfl) rfl (by kernel_rfl)) rfl rfl rfl ?_; clear hf fa; rintro fa _ w3 ⟨b1, rfl, hle1, hk1, he2⟩ hf
        have hBb1 : w.heap.size ≤ b1 := Nat.le_trans hb.size hle1
        have hnr1 : (Value.slice roa (o.length) roc).ownBlock ≠ some b1 := fun hq => by have := (Row.lt hro _ hq).2; omega
        have hnl1 : ∀ q, (Value.slice roa (o.length) roc).ownBlock = some q → q < b1 := fun q hq => Nat.lt_of_lt_of_le (Row.lt hro q hq).2 hle1
        replace hro := Row.ext hro he2
        replace hb := hb.trans (Below.mono he2 hb.size)
        have hs1 := Row.rd (by intros; rfl) (Row.of_new (k := 1) (V := (vInt .u64)) (l := [((numP (bl y)).1)]) hk1 (Nat.le_refl _) rfl rfl (Nat.le_of_ble_eq_true rfl))
        refine sqdt hf (d_append (V := (vInt .u64)) (k := 1) (e := 22) (bytes := 8) (z := (.int .u64 (0 : Int))) (news := [((numP (bl y)).1)]) (base := w.heap.size) (by intros; rfl) (by intro x u hu; simp only [vInt, List.mem_singleton] at hu; subst hu; rfl) rfl rfl Tryd.underlying91 (by kernel_rfl) rfl rfl rfl hro hs1 rfl (fun h => by cases h) (by first | omega | (simp only [List.length_cons, List.length_nil, List.length_append, nums_len]; omega)) (by have := hb.size; omega)) rfl rfl rfl ?_; clear hf fa; rintro fa v w4 ⟨hr1, hg1⟩ hf; obtain ⟨ra1, rc1, rfl, hcrc1, hmrc1⟩ := Row.slice hr1
        replace hb := hb.trans (row_below hro hg1 hb.size (by have := hb.size; omega))
        refine sqv hf (r_assign rfl) rfl rfl rfl ?_; clear hf fa; intro fa hf
        apply wpList_nil
        (try simp only [Exit.then, Exit.inBlock, ↓reduceIte, Nat.reduceEqDiff])
        refine hK7 _ _ ?_
        refine wp_region_lit ?_
        refine sqv hf (r_add (C := (((k : Nat) : Int) + (1 : Int))) rfl rfl (by rw [IntKind.wrap_i64]; omega)) rfl rfl rfl ?_; clear hf fa; intro fa hf
        refine sqv hf (r_move rfl) rfl rfl rfl ?_; clear hf fa; intro fa hf
        apply wpList_nil
        (try simp only [Exit.then, Exit.inBlock, ↓reduceIte, Nat.reduceEqDiff])
        have hok : okN y = true := by
          have h := hqt29_1
          unfold okN
          simp only [not_or, Int.not_lt, Int.not_le, ge_iff_le] at h
          cases hz : (numP (bl y)).2 <;> simp [hz] at h ⊢ <;> omega
        refine hKL1 _ _ _ (by omega) ⟨(k + 1), (o ++ [(numP (bl y)).1]), ra1, rc1, rfl, hf.sub ⟨rfl, rfl, (some_int (by first | rfl | omega)), (some_sl (by first | omega | rfl | (simp only [List.length_append, List.length_cons, List.length_nil]; omega) | (simp <;> omega)) rfl), trivial⟩, hb, (Row.relen hr1), by omega, (by rw [List.length_append]; simp; omega), (by rw [HW, drop_atH hy, nbsA, if_pos hok])⟩
    · have hqt12_1b := hqt12_1
      replace hqt12_1 := Bool.eq_false_iff.1 hqt12_1
      try simp only [ne_eq, decide_eq_true_eq, Bool.and_eq_true, Bool.or_eq_true, Bool.not_eq_true', decide_eq_false_iff_not] at hqt12_1
      refine wp_exit ?_
      (try simp only [Exit.then, Exit.inBlock, ↓reduceIte, Nat.reduceEqDiff])
      refine hK3 _ _ ?_
      refine wp_seq_k (fun K13 hK13 => ?_)
      refine wp_region_lit ?_
      refine sqv hf (r_move rfl) rfl rfl rfl ?_; clear hf fa; intro fa hf
      refine sqv hf (r_assign rfl) rfl rfl rfl ?_; clear hf fa; intro fa hf
      refine sqv hf (r_assign rfl) rfl rfl rfl ?_; clear hf fa; intro fa hf
      apply wpList_nil
      (try simp only [Exit.then, Exit.inBlock, ↓reduceIte, Nat.reduceEqDiff])
      refine hK13 _ _ ?_
      refine wp_ret ?_
      (try simp only [Exit.then, Exit.inBlock])
      refine ret2 hf rfl rfl rfl ?_
      have hN : nbsP W = (o, true) := by rw [HW, List.drop_eq_nil_of_le (by omega)]; rfl
      rw [hN]; exact ⟨_, rfl, _, _, rfl, hro, hb⟩
end Go.Proofs.YtpalmpfkliepfaaDoor

namespace Go.Proofs.YtpalmpfkliepfaaDoor
open Go.RowKit Ut
set_option linter.unusedVariables false
set_option linter.unusedSimpArgs false
attribute [local irreducible] infP ofP chkP rchkP

theorem cellsAt_kb {w w' : World} {b o B bi : Nat} {cs : List Value} (h : cellsAt w b o cs) (hb : KB bi B w w') (hl : b < B) (hne : b ≠ bi) : cellsAt w' b o cs := fun j v hv => by
  have h1 := h j v hv
  have h2 := hb.block b hl hne
  unfold World.cell? at h1 ⊢
  simp only [h2]
  exact h1
theorem cellsAt_grown {w w' : World} {b o bi : Nat} {cs : List Value} (h : cellsAt w b o cs) (hg : w.grownBy w' (some bi)) (hl : b < w.heap.size) (hne : b ≠ bi) : cellsAt w' b o cs := fun j v hv => by
  have h1 := h j v hv
  have h2 := hg.block b hl (fun e => hne (Option.some.inj e))
  unfold World.cell? at h1 ⊢
  simp only [h2]
  exact h1
def wd (W : List ByteArray) (j : Nat) : ByteArray := W.getD j ⟨#[]⟩
theorem wd_at {W : List ByteArray} {j : Nat} (h : j < W.length) : W[j]? = some (wd W j) := by
  unfold wd
  exact getD_at (l := W) (j := j) _ h
def i32w (n : Int) : Int := if n % 4294967296 < 2147483648 then n % 4294967296 else n % 4294967296 - 4294967296
def conP (W : List ByteArray) (sh : Bool) : Int × Bool :=
  if W.length ≠ 1 then (0, false)
  else if sh = true then ((numP (bl (wd W 0))).1 % 4294967296, (numP (bl (wd W 0))).2 && decide ((numP (bl (wd W 0))).1 = i32w (numP (bl (wd W 0))).1))
  else (uA (numP (bl (wd W 0))).1, (numP (bl (wd W 0))).2)

set_option maxHeartbeats 1000000 in
set_option maxRecDepth 100000 in
theorem constant_any (op bi : Nat) (a : Option Addr) (W : List ByteArray) (c : Nat) (sh : Bool) (w : World) (hnb : ∀ q : Addr, a = some q → q.block ≠ bi) (hki : w.heap[bi]? = some (.cells #[(.int .u8 ((op : Nat) : Int)), (.int .u64 (0 : Int)), (.int .u64 (0 : Int)), (.slice none 0 0)] 25 (0, 0))) (hl : RdS 1 vStr w a W) (hc : W.length ≤ c) (hn : W.length ≤ 100000) (hW : ∀ y ∈ W, y.size ≤ 100000) (hop : op < 256) : Calls Tryd.prog 56 #[(.pointer (some ⟨bi, 0, none⟩)), (.slice a W.length c), (.bool sh)] w fun e w' => e = .returned (.bool (conP W sh).2) ∧ Wrote w bi #[(.int .u8 ((op : Nat) : Int)), (.int .u64 ((conP W sh).1)), (.int .u64 (0 : Int)), (.slice none 0 0)] 25 w' := by
  have hy0 : (wd W 0).size ≤ 100000 := by
    unfold wd
    rw [List.getD_eq_getElem?_getD]
    cases h : W[0]? with
    | none => decide
    | some y => exact hW y (List.mem_of_getElem? h)
  have hin := numP_in (bl (wd W 0))
  have hin2 := hin
  unfold inI at hin2
  refine sx_enter (L := [(0, (.pointer (some ⟨bi, 0, none⟩))), (1, (.slice a W.length c)), (2, (.bool sh))]) Tryd.func56 rfl rfl rfl rfl (fun fa hf => ?_)
  have hb : KB bi w.heap.size w w := KB.refl _ _ _
  refine wp_seq_k (fun K1 hK1 => ?_)
  refine wp_region_lit ?_
  refine sqv hf (r_assign rfl) rfl rfl rfl ?_; clear hf fa; intro fa hf
  apply wpList_nil
  (try simp only [Exit.then, Exit.inBlock, ↓reduceIte, Nat.reduceEqDiff])
  refine hK1 _ _ ?_
  refine wp_seq_k (fun K2 hK2 => ?_)
  refine wp_seq_k (fun K3 hK3 => ?_)
  refine wp_region_lit ?_
  refine sqv hf (r_move rfl) rfl rfl rfl ?_; clear hf fa; intro fa hf
  refine sqv hf (r_lensl rfl Tryd.underlying43) rfl rfl rfl ?_; clear hf fa; intro fa hf
  refine sqv hf (r_ne rfl rfl) rfl rfl rfl ?_; clear hf fa; intro fa hf
  apply wpList_nil
  (try simp only [Exit.then, Exit.inBlock, ↓reduceIte, Nat.reduceEqDiff])
  refine hK3 _ _ ?_
  refine wp_cond_split (t := (decide (((W.length : Nat) : Int) ≠ (1 : Int)))) (hf.ev rfl) (fun hqt11_1 => ?_) (fun hqt11_1 => ?_)
  · have hqt11_1b := hqt11_1
    try simp only [decide_eq_true_eq, Bool.and_eq_true, Bool.or_eq_true, Bool.not_eq_true', decide_eq_false_iff_not, ne_eq, Bool.not_eq_true] at hqt11_1
    refine wp_seq_k (fun K4 hK4 => ?_)
    refine wp_region_lit ?_
    refine sqv hf (r_assign rfl) rfl rfl rfl ?_; clear hf fa; intro fa hf
    apply wpList_nil
    (try simp only [Exit.then, Exit.inBlock, ↓reduceIte, Nat.reduceEqDiff])
    refine hK4 _ _ ?_
    refine wp_ret ?_
    (try simp only [Exit.then, Exit.inBlock])
    refine ret1 hf rfl rfl ?_
    have hC : conP W sh = (0, false) := by unfold conP; rw [if_pos (by have h := hqt11_1; omega)]
    rw [hC]; exact ⟨rfl, hki, hb.grown⟩
  · have hqt11_1b := hqt11_1
    replace hqt11_1 := Bool.eq_false_iff.1 hqt11_1
    try simp only [ne_eq, decide_eq_true_eq, Bool.and_eq_true, Bool.or_eq_true, Bool.not_eq_true', decide_eq_false_iff_not] at hqt11_1
    refine wp_skip ?_
    (try simp only [Exit.then, Exit.inBlock, ↓reduceIte, Nat.reduceEqDiff])
    refine hK2 _ _ ?_
    refine wp_seq_k (fun K5 hK5 => ?_)
    refine wp_region_lit ?_
    refine sqv hf (r_move rfl) rfl rfl rfl ?_; clear hf fa; intro fa hf
    have hy1 : (W)[0]? = some (wd W 0) := (wd_at (by omega))
    obtain ⟨ab1, aoff1, hat1, hlb1, hel1⟩ := RdS.at hl hy1
    have hneab1 : ab1 ≠ bi := hnb _ hat1
    refine sqv hf (r_ixa (sz := 1) (j := 0) (evAt rfl hat1) rfl Tryd.underlying43 (by kernel_rfl) rfl (by omega) rfl) rfl rfl rfl ?_; clear hf fa; intro fa hf
    refine sqv hf (r_load (v := (.string (wd W 0))) rfl Tryd.underlying9 rfl (cellsAt_cell (cellsAt_kb hel1 hb hlb1 hneab1) (i := 0) rfl rfl)) rfl rfl rfl ?_; clear hf fa; intro fa hf
    refine sqdt hf (d_callB (vs := [(.string (wd W 0))]) rfl Tryd.func80 (by kernel_rfl) (by kernel_rfl) (number_any (wd W 0) _ hy0)) rfl rfl rfl ?_; clear hf fa; rintro fa _ w1 ⟨rfl, he1⟩ hf
    replace hki := blk_ext hki he1
    replace hb := hb.trans (Below.mono he1 hb.size)
    refine sqv hf (r_move rfl) rfl rfl rfl ?_; clear hf fa; intro fa hf
    refine sqv hf (r_extract rfl (i := 0) rfl) rfl rfl rfl ?_; clear hf fa; intro fa hf
    refine sqv hf (r_extract rfl (i := 1) rfl) rfl rfl rfl ?_; clear hf fa; intro fa hf
    refine sqv hf (r_assign rfl) rfl rfl rfl ?_; clear hf fa; intro fa hf
    refine sqv hf (r_assign rfl) rfl rfl rfl ?_; clear hf fa; intro fa hf
    apply wpList_nil
    (try simp only [Exit.then, Exit.inBlock, ↓reduceIte, Nat.reduceEqDiff])
    refine hK5 _ _ ?_
    refine wp_seq_k (fun K6 hK6 => ?_)
    refine wp_region_lit ?_
    refine sqv hf (r_move rfl) rfl rfl rfl ?_; clear hf fa; intro fa hf
    refine sqv hf (r_move rfl) rfl rfl rfl ?_; clear hf fa; intro fa hf
    refine sqv hf (r_conv (C := ((uA (numP (bl (wd W 0))).1))) rfl Tryd.underlying3 Tryd.underlying22 (wrap_uA hin)) rfl rfl rfl ?_; clear hf fa; intro fa hf
    refine sqv hf (r_nilCheck rfl) rfl rfl rfl ?_; clear hf fa; intro fa hf
    refine sqv hf (r_fa rfl Tryd.underlying25 (f := 1) (q := 1) rfl (by kernel_rfl) rfl) rfl rfl rfl ?_; clear hf fa; intro fa hf
    refine sqn hf (d_storeK (T := 25) (v := (.int .u64 ((uA (numP (bl (wd W 0))).1)))) (cs := #[(.int .u8 ((op : Nat) : Int)), (.int .u64 (0 : Int)), (.int .u64 (0 : Int)), (.slice none 0 0)]) (cs' := #[(.int .u8 ((op : Nat) : Int)), (.int .u64 ((uA (numP (bl (wd W 0))).1))), (.int .u64 (0 : Int)), (.slice none 0 0)]) rfl rfl (by kernel_rfl) (by kernel_rfl) hki (by kernel_rfl) (by kernel_rfl)) rfl rfl ?_; clear hf fa; rintro fa _ w2 ⟨hk1, hg1⟩ hf
    replace hb := hb.wrote hg1 hb.size
    apply wpList_nil
    (try simp only [Exit.then, Exit.inBlock, ↓reduceIte, Nat.reduceEqDiff])
    refine hK6 _ _ ?_
    refine wp_seq_k (fun K7 hK7 => ?_)
    refine wp_seq_k (fun K8 hK8 => ?_)
    refine wp_region_lit ?_
    refine sqv hf (r_move rfl) rfl rfl rfl ?_; clear hf fa; intro fa hf
    apply wpList_nil
    (try simp only [Exit.then, Exit.inBlock, ↓reduceIte, Nat.reduceEqDiff])
    refine hK8 _ _ ?_
    refine wp_cond_split (t := sh) (hf.ev rfl) (fun hqt24_1 => ?_) (fun hqt24_1 => ?_)
    · have hqt24_1b := hqt24_1
      try simp only [decide_eq_true_eq, Bool.and_eq_true, Bool.or_eq_true, Bool.not_eq_true', decide_eq_false_iff_not, ne_eq, Bool.not_eq_true] at hqt24_1
      refine wp_seq_k (fun K9 hK9 => ?_)
      refine wp_region_lit ?_
      refine sqv hf (r_move rfl) rfl rfl rfl ?_; clear hf fa; intro fa hf
      refine sqv hf (r_move rfl) rfl rfl rfl ?_; clear hf fa; intro fa hf
      refine sqgT (act := (numP (bl (wd W 0))).2) (ag := true) (c := (numP (bl (wd W 0))).2) (v := (.int .i64 ((numP (bl (wd W 0))).1))) hf rfl rfl rfl (fun hact => (r_move rfl)) rfl rfl ?_; clear hf fa; intro fa hf
      refine sqgT (act := (numP (bl (wd W 0))).2) (ag := true) (c := (numP (bl (wd W 0))).2) (v := (.int .i64 ((numP (bl (wd W 0))).1))) hf rfl rfl rfl (fun hact => (r_move rfl)) rfl rfl ?_; clear hf fa; intro fa hf
      refine sqgT (act := (numP (bl (wd W 0))).2) (ag := true) (c := (numP (bl (wd W 0))).2) (v := (.int .i32 ((i32w (numP (bl (wd W 0))).1)))) hf rfl rfl rfl (fun hact => (by have hact0 := hact; (try simp only [Bool.and_eq_true, Bool.not_eq_true', Bool.or_eq_false_iff, Bool.or_eq_true, Bool.and_eq_false_iff, ne_eq, decide_eq_true_eq, decide_eq_false_iff_not] at hact0); exact (r_conv (C := ((i32w (numP (bl (wd W 0))).1))) (gb_ev hact rfl) Tryd.underlying3 Tryd.underlying21 (by unfold i32w; rw [IntKind.wrap_i32]; split <;> omega)))) rfl rfl ?_; clear hf fa; intro fa hf
      refine sqgT (act := (numP (bl (wd W 0))).2) (ag := true) (c := (numP (bl (wd W 0))).2) (v := (.int .i64 ((i32w (numP (bl (wd W 0))).1)))) hf rfl rfl rfl (fun hact => (by have hact0 := hact; (try simp only [Bool.and_eq_true, Bool.not_eq_true', Bool.or_eq_false_iff, Bool.or_eq_true, Bool.and_eq_false_iff, ne_eq, decide_eq_true_eq, decide_eq_false_iff_not] at hact0); exact (r_conv (C := ((i32w (numP (bl (wd W 0))).1))) (gb_ev hact rfl) Tryd.underlying21 Tryd.underlying3 (by have hw32 : -2147483648 ≤ i32w (numP (bl (wd W 0))).1 ∧ i32w (numP (bl (wd W 0))).1 < 2147483648 := (by unfold i32w; split <;> omega); rw [IntKind.wrap_i64]; omega)))) rfl rfl ?_; clear hf fa; intro fa hf
      refine sqgT (act := (numP (bl (wd W 0))).2) (ag := true) (c := (numP (bl (wd W 0))).2) (v := (.bool (decide (((numP (bl (wd W 0))).1) = ((i32w (numP (bl (wd W 0))).1)))))) hf rfl rfl rfl (fun hact => (r_eq (gb_ev hact rfl) (gb_ev hact rfl))) rfl rfl ?_; clear hf fa; intro fa hf
      refine sqv hf (r_pickA (b := (numP (bl (wd W 0))).2) (e := (decide (((numP (bl (wd W 0))).1) = ((i32w (numP (bl (wd W 0))).1))))) rfl rfl rfl) rfl rfl rfl ?_; clear hf fa; intro fa hf
      refine sqv hf (r_assign rfl) rfl rfl rfl ?_; clear hf fa; intro fa hf
      apply wpList_nil
      (try simp only [Exit.then, Exit.inBlock, ↓reduceIte, Nat.reduceEqDiff])
      refine hK9 _ _ ?_
      refine wp_region_lit ?_
      refine sqv hf (r_move rfl) rfl rfl rfl ?_; clear hf fa; intro fa hf
      refine sqv hf (r_move rfl) rfl rfl rfl ?_; clear hf fa; intro fa hf
      refine sqv hf (r_conv (C := (((numP (bl (wd W 0))).1 % 4294967296))) rfl Tryd.underlying3 Tryd.underlying62 (by rw [IntKind.wrap_u32])) rfl rfl rfl ?_; clear hf fa; intro fa hf
      refine sqv hf (r_conv (C := (((numP (bl (wd W 0))).1 % 4294967296))) rfl Tryd.underlying62 Tryd.underlying22 (by rw [IntKind.wrap_u64]; omega)) rfl rfl rfl ?_; clear hf fa; intro fa hf
      refine sqv hf (r_nilCheck rfl) rfl rfl rfl ?_; clear hf fa; intro fa hf
      refine sqv hf (r_fa rfl Tryd.underlying25 (f := 1) (q := 1) rfl (by kernel_rfl) rfl) rfl rfl rfl ?_; clear hf fa; intro fa hf
      refine sqn hf (d_storeK (T := 25) (v := (.int .u64 (((numP (bl (wd W 0))).1 % 4294967296)))) (cs := #[(.int .u8 ((op : Nat) : Int)), (.int .u64 ((uA (numP (bl (wd W 0))).1))), (.int .u64 (0 : Int)), (.slice none 0 0)]) (cs' := #[(.int .u8 ((op : Nat) : Int)), (.int .u64 (((numP (bl (wd W 0))).1 % 4294967296))), (.int .u64 (0 : Int)), (.slice none 0 0)]) rfl rfl (by kernel_rfl) (by kernel_rfl) hk1 (by kernel_rfl) (by kernel_rfl)) rfl rfl ?_; clear hf fa; rintro fa _ w3 ⟨hk2, hg2⟩ hf
      replace hb := hb.wrote hg2 hb.size
      apply wpList_nil
      (try simp only [Exit.then, Exit.inBlock, ↓reduceIte, Nat.reduceEqDiff])
      refine hK7 _ _ ?_
      refine wp_seq_k (fun K10 hK10 => ?_)
      refine wp_region_lit ?_
      refine sqv hf (r_move rfl) rfl rfl rfl ?_; clear hf fa; intro fa hf
      refine sqv hf (r_assign rfl) rfl rfl rfl ?_; clear hf fa; intro fa hf
      apply wpList_nil
      (try simp only [Exit.then, Exit.inBlock, ↓reduceIte, Nat.reduceEqDiff])
      refine hK10 _ _ ?_
      refine wp_ret ?_
      (try simp only [Exit.then, Exit.inBlock])
      refine ret1 hf rfl rfl ?_
      have hC : conP W sh = ((numP (bl (wd W 0))).1 % 4294967296, (numP (bl (wd W 0))).2 && decide ((numP (bl (wd W 0))).1 = i32w (numP (bl (wd W 0))).1)) := by unfold conP; rw [if_neg (by have h := hqt11_1; omega), if_pos hqt24_1]
      rw [hC]; exact ⟨rfl, hk2, hb.grown⟩
    · have hqt24_1b := hqt24_1
      replace hqt24_1 := Bool.eq_false_iff.1 hqt24_1
      try simp only [ne_eq, decide_eq_true_eq, Bool.and_eq_true, Bool.or_eq_true, Bool.not_eq_true', decide_eq_false_iff_not] at hqt24_1
      refine wp_skip ?_
      (try simp only [Exit.then, Exit.inBlock, ↓reduceIte, Nat.reduceEqDiff])
      refine hK7 _ _ ?_
      refine wp_seq_k (fun K11 hK11 => ?_)
      refine wp_region_lit ?_
      refine sqv hf (r_move rfl) rfl rfl rfl ?_; clear hf fa; intro fa hf
      refine sqv hf (r_assign rfl) rfl rfl rfl ?_; clear hf fa; intro fa hf
      apply wpList_nil
      (try simp only [Exit.then, Exit.inBlock, ↓reduceIte, Nat.reduceEqDiff])
      refine hK11 _ _ ?_
      refine wp_ret ?_
      (try simp only [Exit.then, Exit.inBlock])
      refine ret1 hf rfl rfl ?_
      have hC : conP W sh = (uA (numP (bl (wd W 0))).1, (numP (bl (wd W 0))).2) := by unfold conP; rw [if_neg (by have h := hqt11_1; omega), if_neg hqt24_1]
      rw [hC]; exact ⟨rfl, hk1, hb.grown⟩

def accL (W : List ByteArray) : List ByteArray := [cutS (wd W 0) (⟨#[97, 108, 105, 103, 110, 61]⟩ : ByteArray), cutS (wd W 1) (⟨#[111, 102, 102, 115, 101, 116, 61]⟩ : ByteArray)]
def accK (W : List ByteArray) : Bool := decide (W.length = 2) && (hasP (wd W 0) (⟨#[97, 108, 105, 103, 110, 61]⟩ : ByteArray) && (hasP (wd W 1) (⟨#[111, 102, 102, 115, 101, 116, 61]⟩ : ByteArray) && (nbsP (accL W)).2))
def accP (W : List ByteArray) : Int × Int := if accK W = true then ((nbsP (accL W)).1.getD 0 0, (nbsP (accL W)).1.getD 1 0) else (0, 0)
theorem nbsA_all (W : List ByteArray) : ∀ o, (nbsA o W).2 = true → (nbsA o W).1.length = o.length + W.length := by
  induction W with
  | nil => intro o _; rfl
  | cons y l ih =>
    intro o h
    rw [nbsA] at h ⊢
    split
    · rename_i hk
      rw [if_pos hk] at h
      rw [ih _ h, List.length_append, List.length_cons, List.length_cons, List.length_nil]; omega
    · rename_i hk
      rw [if_neg hk] at h; cases h
theorem getD_int {l : List Int} {j : Nat} (h : j < l.length) : l[j]? = some (l.getD j 0) := getD_at (l := l) (j := j) _ h

set_option maxHeartbeats 1000000 in
set_option maxRecDepth 100000 in
theorem access_any (op bi : Nat) (a : Option Addr) (W : List ByteArray) (c : Nat) (w : World) (hnb : ∀ q : Addr, a = some q → q.block ≠ bi) (hki : w.heap[bi]? = some (.cells #[(.int .u8 ((op : Nat) : Int)), (.int .u64 (0 : Int)), (.int .u64 (0 : Int)), (.slice none 0 0)] 25 (0, 0))) (hl : RdS 1 vStr w a W) (hc : W.length ≤ c) (hn : W.length ≤ 100000) (hW : ∀ y ∈ W, y.size ≤ 100000) (hop : op < 256) : Calls Tryd.prog 55 #[(.pointer (some ⟨bi, 0, none⟩)), (.slice a W.length c)] w fun e w' => e = .returned (.bool (accK W)) ∧ Wrote w bi #[(.int .u8 ((op : Nat) : Int)), (.int .u64 ((accP W).1)), (.int .u64 ((accP W).2)), (.slice none 0 0)] 25 w' := by
  have hy0 : (wd W 0).size ≤ 100000 := by
    unfold wd
    rw [List.getD_eq_getElem?_getD]
    cases h : W[0]? with
    | none => decide
    | some y => exact hW y (List.mem_of_getElem? h)
  have hy1 : (wd W 1).size ≤ 100000 := by
    unfold wd
    rw [List.getD_eq_getElem?_getD]
    cases h : W[1]? with
    | none => decide
    | some y => exact hW y (List.mem_of_getElem? h)
  have hcut : ∀ y ∈ accL W, y.size ≤ 100000 := by
    intro y hy
    unfold accL at hy
    simp only [List.mem_cons, List.not_mem_nil, or_false] at hy
    have h1 := cutS_len (wd W 0) (⟨#[97, 108, 105, 103, 110, 61]⟩ : ByteArray)
    have h2 := cutS_len (wd W 1) (⟨#[111, 102, 102, 115, 101, 116, 61]⟩ : ByteArray)
    rcases hy with rfl | rfl <;> omega
  refine sx_enter (L := [(0, (.pointer (some ⟨bi, 0, none⟩))), (1, (.slice a W.length c))]) Tryd.func55 rfl rfl rfl rfl (fun fa hf => ?_)
  have hb : KB bi w.heap.size w w := KB.refl _ _ _
  refine wp_seq_k (fun K1 hK1 => ?_)
  refine wp_region_lit ?_
  refine sqv hf (r_assign rfl) rfl rfl rfl ?_; clear hf fa; intro fa hf
  apply wpList_nil
  (try simp only [Exit.then, Exit.inBlock, ↓reduceIte, Nat.reduceEqDiff])
  refine hK1 _ _ ?_
  refine wp_seq_k (fun K2 hK2 => ?_)
  refine wp_seq_k (fun K3 hK3 => ?_)
  refine wp_region_lit ?_
  refine sqv hf (r_move rfl) rfl rfl rfl ?_; clear hf fa; intro fa hf
  refine sqv hf (r_lensl rfl Tryd.underlying43) rfl rfl rfl ?_; clear hf fa; intro fa hf
  refine sqv hf (r_ne rfl rfl) rfl rfl rfl ?_; clear hf fa; intro fa hf
  apply wpList_nil
  (try simp only [Exit.then, Exit.inBlock, ↓reduceIte, Nat.reduceEqDiff])
  refine hK3 _ _ ?_
  refine wp_cond_split (t := (decide (((W.length : Nat) : Int) ≠ (2 : Int)))) (hf.ev rfl) (fun hqt13_1 => ?_) (fun hqt13_1 => ?_)
  · have hqt13_1b := hqt13_1
    try simp only [decide_eq_true_eq, Bool.and_eq_true, Bool.or_eq_true, Bool.not_eq_true', decide_eq_false_iff_not, ne_eq, Bool.not_eq_true] at hqt13_1
    refine wp_seq_k (fun K4 hK4 => ?_)
    refine wp_region_lit ?_
    refine sqv hf (r_assign rfl) rfl rfl rfl ?_; clear hf fa; intro fa hf
    apply wpList_nil
    (try simp only [Exit.then, Exit.inBlock, ↓reduceIte, Nat.reduceEqDiff])
    refine hK4 _ _ ?_
    refine wp_ret ?_
    (try simp only [Exit.then, Exit.inBlock])
    refine ret1 hf rfl rfl ?_
    have hK : accK W = false := by unfold accK; rw [decide_eq_false (by have h := hqt13_1; omega)]; rfl
    have hA : accP W = (0, 0) := by unfold accP; rw [hK]; rfl
    rw [hK, hA]; exact ⟨rfl, hki, hb.grown⟩
  · have hqt13_1b := hqt13_1
    replace hqt13_1 := Bool.eq_false_iff.1 hqt13_1
    try simp only [ne_eq, decide_eq_true_eq, Bool.and_eq_true, Bool.or_eq_true, Bool.not_eq_true', decide_eq_false_iff_not] at hqt13_1
    refine wp_skip ?_
    (try simp only [Exit.then, Exit.inBlock, ↓reduceIte, Nat.reduceEqDiff])
    refine hK2 _ _ ?_
    refine wp_seq_k (fun K5 hK5 => ?_)
    refine wp_region_lit ?_
    refine sqv hf (r_move rfl) rfl rfl rfl ?_; clear hf fa; intro fa hf
    have hy1 : (W)[0]? = some (wd W 0) := (wd_at (by omega))
    obtain ⟨ab1, aoff1, hat1, hlb1, hel1⟩ := RdS.at hl hy1
    have hneab1 : ab1 ≠ bi := hnb _ hat1
    refine sqv hf (r_ixa (sz := 1) (j := 0) (evAt rfl hat1) rfl Tryd.underlying43 (by kernel_rfl) rfl (by omega) rfl) rfl rfl rfl ?_; clear hf fa; intro fa hf
    refine sqv hf (r_load (v := (.string (wd W 0))) rfl Tryd.underlying9 rfl (cellsAt_cell (cellsAt_kb hel1 hb hlb1 hneab1) (i := 0) rfl rfl)) rfl rfl rfl ?_; clear hf fa; intro fa hf
    refine sqdt hf (d_callS (vs := [(.string (wd W 0)), (.string ⟨#[97, 108, 105, 103, 110, 61]⟩)]) rfl Tryd.func79 (by kernel_rfl) (by kernel_rfl) (cutPrefix_any (wd W 0) _ _)) rfl rfl rfl ?_; clear hf fa; rintro fa _ _ ⟨rfl, rfl⟩ hf
    refine sqv hf (r_move rfl) rfl rfl rfl ?_; clear hf fa; intro fa hf
    refine sqv hf (r_extract rfl (i := 0) rfl) rfl rfl rfl ?_; clear hf fa; intro fa hf
    refine sqv hf (r_extract rfl (i := 1) rfl) rfl rfl rfl ?_; clear hf fa; intro fa hf
    refine sqv hf (r_assign rfl) rfl rfl rfl ?_; clear hf fa; intro fa hf
    refine sqv hf (r_assign rfl) rfl rfl rfl ?_; clear hf fa; intro fa hf
    apply wpList_nil
    (try simp only [Exit.then, Exit.inBlock, ↓reduceIte, Nat.reduceEqDiff])
    refine hK5 _ _ ?_
    refine wp_seq_k (fun K6 hK6 => ?_)
    refine wp_region_lit ?_
    refine sqv hf (r_move rfl) rfl rfl rfl ?_; clear hf fa; intro fa hf
    have hy2 : (W)[1]? = some (wd W 1) := (wd_at (by omega))
    obtain ⟨_, _, hab1, hlb2, hel2⟩ := RdS.at hl hy2
    rw [hat1] at hab1; cases hab1
    refine sqv hf (r_ixa (sz := 1) (j := 1) (evAt rfl hat1) rfl Tryd.underlying43 (by kernel_rfl) rfl (by omega) rfl) rfl rfl rfl ?_; clear hf fa; intro fa hf
    refine sqv hf (r_load (v := (.string (wd W 1))) rfl Tryd.underlying9 rfl (cellsAt_cell (cellsAt_kb hel2 hb hlb2 hneab1) (i := 0) rfl rfl)) rfl rfl rfl ?_; clear hf fa; intro fa hf
    refine sqdt hf (d_callS (vs := [(.string (wd W 1)), (.string ⟨#[111, 102, 102, 115, 101, 116, 61]⟩)]) rfl Tryd.func79 (by kernel_rfl) (by kernel_rfl) (cutPrefix_any (wd W 1) _ _)) rfl rfl rfl ?_; clear hf fa; rintro fa _ _ ⟨rfl, rfl⟩ hf
    refine sqv hf (r_move rfl) rfl rfl rfl ?_; clear hf fa; intro fa hf
    refine sqv hf (r_extract rfl (i := 0) rfl) rfl rfl rfl ?_; clear hf fa; intro fa hf
    refine sqv hf (r_extract rfl (i := 1) rfl) rfl rfl rfl ?_; clear hf fa; intro fa hf
    refine sqv hf (r_assign rfl) rfl rfl rfl ?_; clear hf fa; intro fa hf
    refine sqv hf (r_assign rfl) rfl rfl rfl ?_; clear hf fa; intro fa hf
    apply wpList_nil
    (try simp only [Exit.then, Exit.inBlock, ↓reduceIte, Nat.reduceEqDiff])
    refine hK6 _ _ ?_
    refine wp_seq_k (fun K7 hK7 => ?_)
    refine wp_region_lit ?_
    refine sqv hf (r_move rfl) rfl rfl rfl ?_; clear hf fa; intro fa hf
    refine sqv hf (r_move rfl) rfl rfl rfl ?_; clear hf fa; intro fa hf
    refine sqdt hf (d_bslice (z := (.string ⟨#[]⟩)) (sz := 1) (vs := [(0, (.string (cutS (wd W 0) (⟨#[97, 108, 105, 103, 110, 61]⟩ : ByteArray)))), (1, (.string (cutS (wd W 1) (⟨#[111, 102, 102, 115, 101, 116, 61]⟩ : ByteArray))))]) (cs := #[(.string (cutS (wd W 0) (⟨#[97, 108, 105, 103, 110, 61]⟩ : ByteArray))), (.string (cutS (wd W 1) (⟨#[111, 102, 102, 115, 101, 116, 61]⟩ : ByteArray)))]) rfl Tryd.underlying43 (by kernel_rfl) rfl (by kernel_rfl)) rfl rfl rfl ?_; clear hf fa; rintro fa _ w1 ⟨b1, rfl, hle1, hk1, he1⟩ hf
    have hBb1 : w.heap.size ≤ b1 := Nat.le_trans hb.size hle1
    have : bi < b1 := Nat.lt_of_lt_of_le (blk_lt hki) hle1
    replace hki := blk_ext hki he1
    replace hb := hb.trans (Below.mono he1 hb.size)
    have hr1 := Row.of_new (k := 1) (V := vStr) (l := [(cutS (wd W 0) (⟨#[97, 108, 105, 103, 110, 61]⟩ : ByteArray)), (cutS (wd W 1) (⟨#[111, 102, 102, 115, 101, 116, 61]⟩ : ByteArray))]) (base := w.heap.size) hk1 (by omega) rfl rfl (Nat.le_of_ble_eq_true rfl)
    refine sqdt hf (d_callX (vs := [(.slice (some ⟨b1, 0, none⟩) 2 2)]) rfl Tryd.func57 (by kernel_rfl) (by kernel_rfl) (numbers_any (some ⟨b1, 0, none⟩) (accL W) 2 _ (Row.rd (by intros; rfl) hr1) (Nat.le_refl 2) (show 2 ≤ 100000 by decide) hcut)) rfl rfl rfl ?_; clear hf fa; rintro fa _ w2 ⟨ra1, rc1, rfl, hr2, he2⟩ hf
    replace hr2 := Row.rebase hr2 hb.size
    replace hki := blk_ext hki he2
    replace hr1 := Row.ext hr1 he2
    replace hb := hb.trans (Below.mono he2 hb.size)
    have hchr2 := Row.caps hr2
    refine sqv hf (r_move rfl) rfl rfl rfl ?_; clear hf fa; intro fa hf
    refine sqv hf (r_extract rfl (i := 0) rfl) rfl rfl rfl ?_; clear hf fa; intro fa hf
    refine sqv hf (r_extract rfl (i := 1) rfl) rfl rfl rfl ?_; clear hf fa; intro fa hf
    refine sqv hf (r_assign rfl) rfl rfl rfl ?_; clear hf fa; intro fa hf
    refine sqv hf (r_assign rfl) rfl rfl rfl ?_; clear hf fa; intro fa hf
    apply wpList_nil
    (try simp only [Exit.then, Exit.inBlock, ↓reduceIte, Nat.reduceEqDiff])
    refine hK7 _ _ ?_
    refine wp_seq_k (fun K8 hK8 => ?_)
    refine wp_seq_k (fun K9 hK9 => ?_)
    refine wp_region_lit ?_
    refine sqv hf (r_move rfl) rfl rfl rfl ?_; clear hf fa; intro fa hf
    refine sqv hf (r_not rfl) rfl rfl rfl ?_; clear hf fa; intro fa hf
    refine sqv hf (r_move rfl) rfl rfl rfl ?_; clear hf fa; intro fa hf
    refine sqgF (act := (!(!(hasP (wd W 0) (⟨#[97, 108, 105, 103, 110, 61]⟩ : ByteArray))))) (ag := true) (c := (!(hasP (wd W 0) (⟨#[97, 108, 105, 103, 110, 61]⟩ : ByteArray)))) (v := (.bool (hasP (wd W 1) (⟨#[111, 102, 102, 115, 101, 116, 61]⟩ : ByteArray)))) hf rfl rfl rfl (fun hact => (r_move rfl)) rfl rfl ?_; clear hf fa; intro fa hf
    refine sqgF (act := (!(!(hasP (wd W 0) (⟨#[97, 108, 105, 103, 110, 61]⟩ : ByteArray))))) (ag := true) (c := (!(hasP (wd W 0) (⟨#[97, 108, 105, 103, 110, 61]⟩ : ByteArray)))) (v := (.bool (!(hasP (wd W 1) (⟨#[111, 102, 102, 115, 101, 116, 61]⟩ : ByteArray))))) hf rfl rfl rfl (fun hact => (r_not (gb_ev hact rfl))) rfl rfl ?_; clear hf fa; intro fa hf
    refine sqv hf (r_pickO (b := (!(hasP (wd W 0) (⟨#[97, 108, 105, 103, 110, 61]⟩ : ByteArray)))) (e := (!(hasP (wd W 1) (⟨#[111, 102, 102, 115, 101, 116, 61]⟩ : ByteArray)))) rfl rfl rfl) rfl rfl rfl ?_; clear hf fa; intro fa hf
    refine sqv hf (r_move rfl) rfl rfl rfl ?_; clear hf fa; intro fa hf
    refine sqgF (act := (!((!(hasP (wd W 0) (⟨#[97, 108, 105, 103, 110, 61]⟩ : ByteArray))) || (!(hasP (wd W 1) (⟨#[111, 102, 102, 115, 101, 116, 61]⟩ : ByteArray)))))) (ag := true) (c := ((!(hasP (wd W 0) (⟨#[97, 108, 105, 103, 110, 61]⟩ : ByteArray))) || (!(hasP (wd W 1) (⟨#[111, 102, 102, 115, 101, 116, 61]⟩ : ByteArray))))) (v := (.bool (nbsP (accL W)).2)) hf rfl rfl rfl (fun hact => (r_move rfl)) rfl rfl ?_; clear hf fa; intro fa hf
    refine sqgF (act := (!((!(hasP (wd W 0) (⟨#[97, 108, 105, 103, 110, 61]⟩ : ByteArray))) || (!(hasP (wd W 1) (⟨#[111, 102, 102, 115, 101, 116, 61]⟩ : ByteArray)))))) (ag := true) (c := ((!(hasP (wd W 0) (⟨#[97, 108, 105, 103, 110, 61]⟩ : ByteArray))) || (!(hasP (wd W 1) (⟨#[111, 102, 102, 115, 101, 116, 61]⟩ : ByteArray))))) (v := (.bool (!(nbsP (accL W)).2))) hf rfl rfl rfl (fun hact => (r_not (gb_ev hact rfl))) rfl rfl ?_; clear hf fa; intro fa hf
    refine sqv hf (r_pickO (b := ((!(hasP (wd W 0) (⟨#[97, 108, 105, 103, 110, 61]⟩ : ByteArray))) || (!(hasP (wd W 1) (⟨#[111, 102, 102, 115, 101, 116, 61]⟩ : ByteArray))))) (e := (!(nbsP (accL W)).2)) rfl rfl rfl) rfl rfl rfl ?_; clear hf fa; intro fa hf
    apply wpList_nil
    (try simp only [Exit.then, Exit.inBlock, ↓reduceIte, Nat.reduceEqDiff])
    refine hK9 _ _ ?_
    refine wp_cond_split (t := (((!(hasP (wd W 0) (⟨#[97, 108, 105, 103, 110, 61]⟩ : ByteArray))) || (!(hasP (wd W 1) (⟨#[111, 102, 102, 115, 101, 116, 61]⟩ : ByteArray)))) || (!(nbsP (accL W)).2))) (hf.ev rfl) (fun hqt44_1 => ?_) (fun hqt44_1 => ?_)
    · have hqt44_1b := hqt44_1
      try simp only [decide_eq_true_eq, Bool.and_eq_true, Bool.or_eq_true, Bool.not_eq_true', decide_eq_false_iff_not, ne_eq, Bool.not_eq_true] at hqt44_1
      refine wp_seq_k (fun K10 hK10 => ?_)
      refine wp_region_lit ?_
      refine sqv hf (r_assign rfl) rfl rfl rfl ?_; clear hf fa; intro fa hf
      apply wpList_nil
      (try simp only [Exit.then, Exit.inBlock, ↓reduceIte, Nat.reduceEqDiff])
      refine hK10 _ _ ?_
      refine wp_ret ?_
      (try simp only [Exit.then, Exit.inBlock])
      refine ret1 hf rfl rfl ?_
      have hK : accK W = false := by
        have h := hqt44_1
        unfold accK
        cases h1 : hasP (wd W 0) (⟨#[97, 108, 105, 103, 110, 61]⟩ : ByteArray) <;> cases h2 : hasP (wd W 1) (⟨#[111, 102, 102, 115, 101, 116, 61]⟩ : ByteArray) <;> cases h3 : (nbsP (accL W)).2 <;> simp [h1, h2, h3] at h ⊢
      have hA : accP W = (0, 0) := by unfold accP; rw [hK]; rfl
      rw [hK, hA]; exact ⟨rfl, hki, hb.grown⟩
    · have hqt44_1b := hqt44_1
      replace hqt44_1 := Bool.eq_false_iff.1 hqt44_1
      try simp only [ne_eq, decide_eq_true_eq, Bool.and_eq_true, Bool.or_eq_true, Bool.not_eq_true', decide_eq_false_iff_not] at hqt44_1
      refine wp_skip ?_
      (try simp only [Exit.then, Exit.inBlock, ↓reduceIte, Nat.reduceEqDiff])
      refine hK8 _ _ ?_
      refine wp_seq_k (fun K11 hK11 => ?_)
      have hln : (nbsP (accL W)).1.length = 2 := by have h := hqt44_1; simp at h; exact nbsA_all (accL W) [] h.2
      obtain ⟨rb1, rfl, hbbrb1, hlbrb1⟩ := Row.some hr2 (by first | omega | (simp only [Sl.list_length, List.length_set, List.length_take, List.length_append, List.length_replicate, List.length_cons, List.length_nil, List.length_map, nums_len]; omega))
      have hy3 : ((nbsP (accL W)).1)[0]? = some ((nbsP (accL W)).1.getD 0 0) := (getD_int (by omega))
      have hel3 := RdS.at (Row.rd (by intros; rfl) hr2) hy3
      obtain ⟨_, _, hab, hlr1, hel3⟩ := hel3
      cases hab
      have hy4 : ((nbsP (accL W)).1)[1]? = some ((nbsP (accL W)).1.getD 1 0) := (getD_int (by omega))
      have hel4 := RdS.at (Row.rd (by intros; rfl) hr2) hy4
      obtain ⟨_, _, hab, hlr2, hel4⟩ := hel4
      cases hab
      have hne_hel3 : rb1 ≠ bi := fun e => (Row.ne_type hr2 hki rfl) (congrArg some e)
      have hne_hel4 : rb1 ≠ bi := fun e => (Row.ne_type hr2 hki rfl) (congrArg some e)
      refine wp_region_unT 13 (fun wc => (w2.grownBy wc (some bi) ∧ (wc.heap[bi]? = some (.cells #[(.int .u8 ((op : Nat) : Int)), (.int .u64 (0 : Int)), (.int .u64 (0 : Int)), (.slice none 0 0)] 25 (0, 0)) ∨ wc.heap[bi]? = some (.cells #[(.int .u8 ((op : Nat) : Int)), (.int .u64 (((nbsP (accL W)).1.getD 0 0))), (.int .u64 (0 : Int)), (.slice none 0 0)] 25 (0, 0))))) (fun wa wc => ((w2.grownBy wa (some bi) ∧ (wa.heap[bi]? = some (.cells #[(.int .u8 ((op : Nat) : Int)), (.int .u64 (0 : Int)), (.int .u64 (0 : Int)), (.slice none 0 0)] 25 (0, 0)) ∨ wa.heap[bi]? = some (.cells #[(.int .u8 ((op : Nat) : Int)), (.int .u64 (((nbsP (accL W)).1.getD 0 0))), (.int .u64 (0 : Int)), (.slice none 0 0)] 25 (0, 0)))) → (w2.grownBy wc (some bi) ∧ (wc.heap[bi]? = some (.cells #[(.int .u8 ((op : Nat) : Int)), (.int .u64 (0 : Int)), (.int .u64 (0 : Int)), (.slice none 0 0)] 25 (0, 0)) ∨ wc.heap[bi]? = some (.cells #[(.int .u8 ((op : Nat) : Int)), (.int .u64 (((nbsP (accL W)).1.getD 0 0))), (.int .u64 (0 : Int)), (.slice none 0 0)] 25 (0, 0))))) ∧ wa.heap.size ≤ wc.heap.size ∧ (wa.heap[bi]? = some (.cells #[(.int .u8 ((op : Nat) : Int)), (.int .u64 (((nbsP (accL W)).1.getD 0 0))), (.int .u64 (0 : Int)), (.slice none 0 0)] 25 (0, 0)) → wc.heap[bi]? = some (.cells #[(.int .u8 ((op : Nat) : Int)), (.int .u64 (((nbsP (accL W)).1.getD 0 0))), (.int .u64 (0 : Int)), (.slice none 0 0)] 25 (0, 0))))
        (fun V => [(fun x _ => x = (.pointer (some ⟨bi, 0, none⟩))), (fun x _ => x = (.pointer (some ⟨bi, 0, none⟩))), (fun x _ => x = (.slice (some ⟨rb1, 0, none⟩) (((nbsP (accL W)).1.length)) rc1)), (fun x _ => x = (.pointer (some ⟨rb1, (0 + 0 * 1), none⟩))), (fun x _ => x = (.int .u64 (((nbsP (accL W)).1.getD 0 0)))), (fun x _ => x = (.slice (some ⟨rb1, 0, none⟩) (((nbsP (accL W)).1.length)) rc1)), (fun x _ => x = (.pointer (some ⟨rb1, (0 + 1 * 1), none⟩))), (fun x _ => x = (.int .u64 (((nbsP (accL W)).1.getD 1 0)))), (fun x _ => x = (.pointer (some ⟨bi, 0, none⟩))), (fun x _ => x = (.pointer (some ⟨bi, 1, none⟩))), (fun _ wq => wq.heap[bi]? = some (.cells #[(.int .u8 ((op : Nat) : Int)), (.int .u64 (((nbsP (accL W)).1.getD 0 0))), (.int .u64 (0 : Int)), (.slice none 0 0)] 25 (0, 0))), (fun x _ => x = (.pointer (some ⟨bi, 0, none⟩))), (fun x _ => x = (.pointer (some ⟨bi, 2, none⟩)))])
        []
        [[], [], [], [2], [3], [], [5], [6], [0, 2, 3, 4, 7], [0, 2, 3, 4, 7, 8], [0, 2, 3, 4, 7, 9], [0, 1, 2, 3, 4, 5, 6, 7, 8, 9, 10], [0, 1, 2, 3, 4, 5, 6, 7, 8, 9, 10, 11], []]
        hf (by kernel_rfl) (by kernel_rfl) (by kernel_rfl) (fun _ => rfl) ⟨below_grown (Below.refl _ _).drew, .inl (blk_ext hki (Below.refl _ _).drew)⟩ (fun a b h1 h2 => h2.1 h1) (fun _ _ h => h.2.1) (fun V => ⟨(fun _ _ _ h _ => h), (fun _ _ _ h _ => h), (fun _ _ _ h _ => h), (fun _ _ _ h _ => h), (fun _ _ _ h _ => h), (fun _ _ _ h _ => h), (fun _ _ _ h _ => h), (fun _ _ _ h _ => h), (fun _ _ _ h _ => h), (fun _ _ _ h _ => h), (fun _ _ _ h hG => hG.2.2 h), (fun _ _ _ h _ => h), (fun _ _ _ h _ => h), trivial⟩) (fun _ _ _ _ _ => rfl) ?_ ?_
      · skip
        intro V
        refine ⟨fun wu0 hC hd => ?_, ?_⟩
        · clear hd
          have hgC := hC.1
          replace hr1 := Row.grown hr1 hgC (Row.ne_type hr1 hki rfl)
          replace hr2 := Row.grown hr2 hgC (Row.ne_type hr2 hki rfl)
          replace hb := hb.wrote hgC hb.size
          exact Runs.does (r_move rfl) ⟨⟨id, Nat.le_refl _, id⟩, rfl, nofr rfl⟩
        refine ⟨fun wu1 hC hd => ?_, ?_⟩
        · clear hd
          have hgC := hC.1
          replace hr1 := Row.grown hr1 hgC (Row.ne_type hr1 hki rfl)
          replace hr2 := Row.grown hr2 hgC (Row.ne_type hr2 hki rfl)
          replace hb := hb.wrote hgC hb.size
          exact Runs.does (r_move rfl) ⟨⟨id, Nat.le_refl _, id⟩, rfl, nofr rfl⟩
        refine ⟨fun wu2 hC hd => ?_, ?_⟩
        · clear hd
          have hgC := hC.1
          replace hr1 := Row.grown hr1 hgC (Row.ne_type hr1 hki rfl)
          replace hr2 := Row.grown hr2 hgC (Row.ne_type hr2 hki rfl)
          replace hb := hb.wrote hgC hb.size
          exact Runs.does (r_move rfl) ⟨⟨id, Nat.le_refl _, id⟩, rfl, nofr rfl⟩
        refine ⟨fun wu3 hC hd => ?_, ?_⟩
        · obtain ⟨h2, _⟩ := hd
          replace h2 : V 2 = (.slice (some ⟨rb1, 0, none⟩) (((nbsP (accL W)).1.length)) rc1) := h2
          have hgC := hC.1
          replace hr1 := Row.grown hr1 hgC (Row.ne_type hr1 hki rfl)
          replace hr2 := Row.grown hr2 hgC (Row.ne_type hr2 hki rfl)
          replace hb := hb.wrote hgC hb.size
          exact Runs.does (r_ixa (sz := 1) (j := 0) (congrArg some h2) rfl Tryd.underlying91 (by kernel_rfl) rfl (by omega) rfl) ⟨⟨id, Nat.le_refl _, id⟩, rfl, nofr rfl⟩
        refine ⟨fun wu4 hC hd => ?_, ?_⟩
        · obtain ⟨h3, _⟩ := hd
          replace h3 : V 3 = (.pointer (some ⟨rb1, (0 + 0 * 1), none⟩)) := h3
          have hgC := hC.1
          replace hr1 := Row.grown hr1 hgC (Row.ne_type hr1 hki rfl)
          replace hr2 := Row.grown hr2 hgC (Row.ne_type hr2 hki rfl)
          replace hb := hb.wrote hgC hb.size
          exact Runs.does (r_load (v := (.int .u64 (((nbsP (accL W)).1.getD 0 0)))) (congrArg some h3) Tryd.underlying22 rfl (cellsAt_cell (cellsAt_grown hel3 hgC hlr1 hne_hel3) (i := 0) rfl rfl)) ⟨⟨id, Nat.le_refl _, id⟩, rfl, nofr rfl⟩
        refine ⟨fun wu5 hC hd => ?_, ?_⟩
        · clear hd
          have hgC := hC.1
          replace hr1 := Row.grown hr1 hgC (Row.ne_type hr1 hki rfl)
          replace hr2 := Row.grown hr2 hgC (Row.ne_type hr2 hki rfl)
          replace hb := hb.wrote hgC hb.size
          exact Runs.does (r_move rfl) ⟨⟨id, Nat.le_refl _, id⟩, rfl, nofr rfl⟩
        refine ⟨fun wu6 hC hd => ?_, ?_⟩
        · obtain ⟨h5, _⟩ := hd
          replace h5 : V 5 = (.slice (some ⟨rb1, 0, none⟩) (((nbsP (accL W)).1.length)) rc1) := h5
          have hgC := hC.1
          replace hr1 := Row.grown hr1 hgC (Row.ne_type hr1 hki rfl)
          replace hr2 := Row.grown hr2 hgC (Row.ne_type hr2 hki rfl)
          replace hb := hb.wrote hgC hb.size
          exact Runs.does (r_ixa (sz := 1) (j := 1) (congrArg some h5) rfl Tryd.underlying91 (by kernel_rfl) rfl (by omega) rfl) ⟨⟨id, Nat.le_refl _, id⟩, rfl, nofr rfl⟩
        refine ⟨fun wu7 hC hd => ?_, ?_⟩
        · obtain ⟨h6, _⟩ := hd
          replace h6 : V 6 = (.pointer (some ⟨rb1, (0 + 1 * 1), none⟩)) := h6
          have hgC := hC.1
          replace hr1 := Row.grown hr1 hgC (Row.ne_type hr1 hki rfl)
          replace hr2 := Row.grown hr2 hgC (Row.ne_type hr2 hki rfl)
          replace hb := hb.wrote hgC hb.size
          exact Runs.does (r_load (v := (.int .u64 (((nbsP (accL W)).1.getD 1 0)))) (congrArg some h6) Tryd.underlying22 rfl (cellsAt_cell (cellsAt_grown hel4 hgC hlr2 hne_hel4) (i := 0) rfl rfl)) ⟨⟨id, Nat.le_refl _, id⟩, rfl, nofr rfl⟩
        refine ⟨fun wu8 hC hd => ?_, ?_⟩
        · obtain ⟨h0, h2, h3, h4, h7, _⟩ := hd
          replace h0 : V 0 = (.pointer (some ⟨bi, 0, none⟩)) := h0
          replace h2 : V 2 = (.slice (some ⟨rb1, 0, none⟩) (((nbsP (accL W)).1.length)) rc1) := h2
          replace h3 : V 3 = (.pointer (some ⟨rb1, (0 + 0 * 1), none⟩)) := h3
          replace h4 : V 4 = (.int .u64 (((nbsP (accL W)).1.getD 0 0))) := h4
          replace h7 : V 7 = (.int .u64 (((nbsP (accL W)).1.getD 1 0))) := h7
          have hgC := hC.1
          replace hr1 := Row.grown hr1 hgC (Row.ne_type hr1 hki rfl)
          replace hr2 := Row.grown hr2 hgC (Row.ne_type hr2 hki rfl)
          replace hb := hb.wrote hgC hb.size
          exact Runs.does (r_nilCheck (congrArg some h0)) ⟨⟨id, Nat.le_refl _, id⟩, rfl, nofr rfl⟩
        refine ⟨fun wu9 hC hd => ?_, ?_⟩
        · obtain ⟨h0, h2, h3, h4, h7, h8, _⟩ := hd
          replace h0 : V 0 = (.pointer (some ⟨bi, 0, none⟩)) := h0
          replace h2 : V 2 = (.slice (some ⟨rb1, 0, none⟩) (((nbsP (accL W)).1.length)) rc1) := h2
          replace h3 : V 3 = (.pointer (some ⟨rb1, (0 + 0 * 1), none⟩)) := h3
          replace h4 : V 4 = (.int .u64 (((nbsP (accL W)).1.getD 0 0))) := h4
          replace h7 : V 7 = (.int .u64 (((nbsP (accL W)).1.getD 1 0))) := h7
          replace h8 : V 8 = (.pointer (some ⟨bi, 0, none⟩)) := h8
          have hgC := hC.1
          replace hr1 := Row.grown hr1 hgC (Row.ne_type hr1 hki rfl)
          replace hr2 := Row.grown hr2 hgC (Row.ne_type hr2 hki rfl)
          replace hb := hb.wrote hgC hb.size
          exact Runs.does (r_fa (congrArg some h8) Tryd.underlying25 (f := 1) (q := 1) rfl (by kernel_rfl) rfl) ⟨⟨id, Nat.le_refl _, id⟩, rfl, nofr rfl⟩
        refine ⟨fun wu10 hC hd => ?_, ?_⟩
        · obtain ⟨h0, h2, h3, h4, h7, h9, _⟩ := hd
          replace h0 : V 0 = (.pointer (some ⟨bi, 0, none⟩)) := h0
          replace h2 : V 2 = (.slice (some ⟨rb1, 0, none⟩) (((nbsP (accL W)).1.length)) rc1) := h2
          replace h3 : V 3 = (.pointer (some ⟨rb1, (0 + 0 * 1), none⟩)) := h3
          replace h4 : V 4 = (.int .u64 (((nbsP (accL W)).1.getD 0 0))) := h4
          replace h7 : V 7 = (.int .u64 (((nbsP (accL W)).1.getD 1 0))) := h7
          replace h9 : V 9 = (.pointer (some ⟨bi, 1, none⟩)) := h9
          have hgC := hC.1
          replace hr1 := Row.grown hr1 hgC (Row.ne_type hr1 hki rfl)
          replace hr2 := Row.grown hr2 hgC (Row.ne_type hr2 hki rfl)
          replace hb := hb.wrote hgC hb.size
          rcases hC.2 with hX | hX
          · refine Does.mono (d_storeK (T := 25) (v := (.int .u64 (((nbsP (accL W)).1.getD 0 0)))) (cs := #[(.int .u8 ((op : Nat) : Int)), (.int .u64 (0 : Int)), (.int .u64 (0 : Int)), (.slice none 0 0)]) (cs' := #[(.int .u8 ((op : Nat) : Int)), (.int .u64 (((nbsP (accL W)).1.getD 0 0))), (.int .u64 (0 : Int)), (.slice none 0 0)]) (congrArg some h9) (congrArg some h4) (by kernel_rfl) (by kernel_rfl) hX (by kernel_rfl) (by kernel_rfl)) ?_
            rintro _ wz ⟨hY, hgY⟩
            exact ⟨⟨fun _ => ⟨grownBy_trans hgC hgY, .inr hY⟩, hgY.size, fun _ => hY⟩, hY, nofr rfl⟩
          · refine Does.mono (d_storeK (T := 25) (v := (.int .u64 (((nbsP (accL W)).1.getD 0 0)))) (cs := #[(.int .u8 ((op : Nat) : Int)), (.int .u64 (((nbsP (accL W)).1.getD 0 0))), (.int .u64 (0 : Int)), (.slice none 0 0)]) (cs' := #[(.int .u8 ((op : Nat) : Int)), (.int .u64 (((nbsP (accL W)).1.getD 0 0))), (.int .u64 (0 : Int)), (.slice none 0 0)]) (congrArg some h9) (congrArg some h4) (by kernel_rfl) (by kernel_rfl) hX (by kernel_rfl) (by kernel_rfl)) ?_
            rintro _ wz ⟨hY, hgY⟩
            exact ⟨⟨fun _ => ⟨grownBy_trans hgC hgY, .inr hY⟩, hgY.size, fun _ => hY⟩, hY, nofr rfl⟩
        refine ⟨fun wu11 hC hd => ?_, ?_⟩
        · obtain ⟨h0, h1, h2, h3, h4, h5, h6, h7, h8, h9, h10, _⟩ := hd
          replace h0 : V 0 = (.pointer (some ⟨bi, 0, none⟩)) := h0
          replace h1 : V 1 = (.pointer (some ⟨bi, 0, none⟩)) := h1
          replace h2 : V 2 = (.slice (some ⟨rb1, 0, none⟩) (((nbsP (accL W)).1.length)) rc1) := h2
          replace h3 : V 3 = (.pointer (some ⟨rb1, (0 + 0 * 1), none⟩)) := h3
          replace h4 : V 4 = (.int .u64 (((nbsP (accL W)).1.getD 0 0))) := h4
          replace h5 : V 5 = (.slice (some ⟨rb1, 0, none⟩) (((nbsP (accL W)).1.length)) rc1) := h5
          replace h6 : V 6 = (.pointer (some ⟨rb1, (0 + 1 * 1), none⟩)) := h6
          replace h7 : V 7 = (.int .u64 (((nbsP (accL W)).1.getD 1 0))) := h7
          replace h8 : V 8 = (.pointer (some ⟨bi, 0, none⟩)) := h8
          replace h9 : V 9 = (.pointer (some ⟨bi, 1, none⟩)) := h9
          have hgC := hC.1
          replace hr1 := Row.grown hr1 hgC (Row.ne_type hr1 hki rfl)
          replace hr2 := Row.grown hr2 hgC (Row.ne_type hr2 hki rfl)
          replace hb := hb.wrote hgC hb.size
          exact Runs.does (r_nilCheck (congrArg some h1)) ⟨⟨id, Nat.le_refl _, id⟩, rfl, nofr rfl⟩
        refine ⟨fun wu12 hC hd => ?_, ?_⟩
        · obtain ⟨h0, h1, h2, h3, h4, h5, h6, h7, h8, h9, h10, h11, _⟩ := hd
          replace h0 : V 0 = (.pointer (some ⟨bi, 0, none⟩)) := h0
          replace h1 : V 1 = (.pointer (some ⟨bi, 0, none⟩)) := h1
          replace h2 : V 2 = (.slice (some ⟨rb1, 0, none⟩) (((nbsP (accL W)).1.length)) rc1) := h2
          replace h3 : V 3 = (.pointer (some ⟨rb1, (0 + 0 * 1), none⟩)) := h3
          replace h4 : V 4 = (.int .u64 (((nbsP (accL W)).1.getD 0 0))) := h4
          replace h5 : V 5 = (.slice (some ⟨rb1, 0, none⟩) (((nbsP (accL W)).1.length)) rc1) := h5
          replace h6 : V 6 = (.pointer (some ⟨rb1, (0 + 1 * 1), none⟩)) := h6
          replace h7 : V 7 = (.int .u64 (((nbsP (accL W)).1.getD 1 0))) := h7
          replace h8 : V 8 = (.pointer (some ⟨bi, 0, none⟩)) := h8
          replace h9 : V 9 = (.pointer (some ⟨bi, 1, none⟩)) := h9
          replace h11 : V 11 = (.pointer (some ⟨bi, 0, none⟩)) := h11
          have hgC := hC.1
          replace hr1 := Row.grown hr1 hgC (Row.ne_type hr1 hki rfl)
          replace hr2 := Row.grown hr2 hgC (Row.ne_type hr2 hki rfl)
          replace hb := hb.wrote hgC hb.size
          exact Runs.does (r_fa (congrArg some h11) Tryd.underlying25 (f := 2) (q := 2) rfl (by kernel_rfl) rfl) ⟨⟨id, Nat.le_refl _, id⟩, rfl, nofr rfl⟩
        trivial
      · skip
        clear hf fa; intro V w3 fa he3 hp hnb hf
        have hg1 := he3.1
        have hv0 : V 0 = (.pointer (some ⟨bi, 0, none⟩)) := postsHold_at hp 0 rfl
        have hv1 : V 1 = (.pointer (some ⟨bi, 0, none⟩)) := postsHold_at hp 1 rfl
        have hv2 : V 2 = (.slice (some ⟨rb1, 0, none⟩) (((nbsP (accL W)).1.length)) rc1) := postsHold_at hp 2 rfl
        have hv3 : V 3 = (.pointer (some ⟨rb1, (0 + 0 * 1), none⟩)) := postsHold_at hp 3 rfl
        have hv4 : V 4 = (.int .u64 (((nbsP (accL W)).1.getD 0 0))) := postsHold_at hp 4 rfl
        have hv5 : V 5 = (.slice (some ⟨rb1, 0, none⟩) (((nbsP (accL W)).1.length)) rc1) := postsHold_at hp 5 rfl
        have hv6 : V 6 = (.pointer (some ⟨rb1, (0 + 1 * 1), none⟩)) := postsHold_at hp 6 rfl
        have hv7 : V 7 = (.int .u64 (((nbsP (accL W)).1.getD 1 0))) := postsHold_at hp 7 rfl
        have hv8 : V 8 = (.pointer (some ⟨bi, 0, none⟩)) := postsHold_at hp 8 rfl
        have hv9 : V 9 = (.pointer (some ⟨bi, 1, none⟩)) := postsHold_at hp 9 rfl
        have hv11 : V 11 = (.pointer (some ⟨bi, 0, none⟩)) := postsHold_at hp 11 rfl
        have hv12 : V 12 = (.pointer (some ⟨bi, 2, none⟩)) := postsHold_at hp 12 rfl
        have hk2 := postsHold_at hp 10 rfl
        simp only [List.take_succ_cons, List.take_zero, insAll, ins, hv0, hv1, hv2, hv3, hv4, hv5, hv6, hv7, hv8, hv9, hv11, hv12] at hf
        clear hp hnb hv0 hv1 hv2 hv3 hv4 hv5 hv6 hv7 hv8 hv9 hv11 hv12
        replace hr1 := Row.grown hr1 hg1 (Row.ne_type hr1 hki rfl)
        replace hr2 := Row.grown hr2 hg1 (Row.ne_type hr2 hki rfl)
        replace hb := hb.wrote hg1 hb.size
        replace hk2 : w3.heap[bi]? = some (.cells #[(.int .u8 ((op : Nat) : Int)), (.int .u64 (((nbsP (accL W)).1.getD 0 0))), (.int .u64 (0 : Int)), (.slice none 0 0)] 25 (0, 0)) := hk2
        simp only [List.drop_succ_cons, List.drop_zero]
        refine sqn hf (d_storeK (T := 25) (v := (.int .u64 (((nbsP (accL W)).1.getD 1 0)))) (cs := #[(.int .u8 ((op : Nat) : Int)), (.int .u64 (((nbsP (accL W)).1.getD 0 0))), (.int .u64 (0 : Int)), (.slice none 0 0)]) (cs' := #[(.int .u8 ((op : Nat) : Int)), (.int .u64 (((nbsP (accL W)).1.getD 0 0))), (.int .u64 (((nbsP (accL W)).1.getD 1 0))), (.slice none 0 0)]) rfl rfl (by kernel_rfl) (by kernel_rfl) hk2 (by kernel_rfl) (by kernel_rfl)) rfl rfl ?_; clear hf fa; rintro fa _ w4 ⟨hk3, hg2⟩ hf
        replace hr1 := Row.grown hr1 hg2 (Row.ne_type hr1 hk2 rfl)
        replace hr2 := Row.grown hr2 hg2 (Row.ne_type hr2 hk2 rfl)
        replace hb := hb.wrote hg2 hb.size
        apply wpList_nil
        (try simp only [Exit.then, Exit.inBlock, ↓reduceIte, Nat.reduceEqDiff])
        refine hK11 _ _ ?_
        refine wp_seq_k (fun K12 hK12 => ?_)
        refine wp_region_lit ?_
        refine sqv hf (r_assign rfl) rfl rfl rfl ?_; clear hf fa; intro fa hf
        apply wpList_nil
        (try simp only [Exit.then, Exit.inBlock, ↓reduceIte, Nat.reduceEqDiff])
        refine hK12 _ _ ?_
        refine wp_ret ?_
        (try simp only [Exit.then, Exit.inBlock])
        refine ret1 hf rfl rfl ?_
        have hK : accK W = true := by have h := hqt44_1; unfold accK; rw [decide_eq_true (by omega)]; simp at h ⊢; exact ⟨h.1.1, h.1.2, h.2⟩
        have hA : accP W = ((nbsP (accL W)).1.getD 0 0, (nbsP (accL W)).1.getD 1 0) := by unfold accP; rw [if_pos hK]
        rw [hK, hA]; exact ⟨rfl, hk3, hb.grown⟩
end Go.Proofs.YtpalmpfkliepfaaDoor

namespace Go.Proofs.YtpalmpfkliepfaaDoor
open Go.RowKit Ut
set_option linter.unusedVariables false
set_option linter.unusedSimpArgs false

set_option maxHeartbeats 1000000 in
set_option maxRecDepth 100000 in
theorem same07_any (op : Nat) (A B : Int) (L : List Int) (a a2 : Option Addr) (c c2 : Nat) (w : World) (hl : RdS 1 (vInt .u32) w a L) (hl2 : RdS 1 (vInt .u32) w a2 L) (hc : L.length ≤ c) (hc2 : L.length ≤ c2) (hn : L.length ≤ 100000) : Calls Tryd.prog 11 #[(.agg #[(.int .u8 ((op : Nat) : Int)), (.int .u64 A), (.int .u64 B), (.slice a L.length c)]), (.agg #[(.int .u8 ((op : Nat) : Int)), (.int .u64 A), (.int .u64 B), (.slice a2 L.length c2)])] w fun e w' => e = .returned (.bool true) ∧ Below w.heap.size w w' := by
  refine sx_enter (L := [(0, (.agg #[(.int .u8 ((op : Nat) : Int)), (.int .u64 A), (.int .u64 B), (.slice a L.length c)])), (1, (.agg #[(.int .u8 ((op : Nat) : Int)), (.int .u64 A), (.int .u64 B), (.slice a2 L.length c2)]))]) Tryd.func11 rfl rfl rfl rfl (fun fa hf => ?_)
  have hb : Below w.heap.size w w := Below.refl _ _
  refine wp_seq_k (fun K1 hK1 => ?_)
  refine wp_region_lit ?_
  refine sqdt hf (d_box (cs := #[(.int .u8 ((op : Nat) : Int)), (.int .u64 A), (.int .u64 B), (.slice a L.length c)]) rfl rfl) rfl rfl rfl ?_; clear hf fa; rintro fa _ w1 ⟨b1, rfl, hle1, hk1, he1⟩ hf
  have hBb1 : w.heap.size ≤ b1 := Nat.le_trans hb.size hle1
  replace hb := hb.trans (Below.mono he1 hb.size)
  refine sqdt hf (d_box (cs := #[(.int .u8 ((op : Nat) : Int)), (.int .u64 A), (.int .u64 B), (.slice a2 L.length c2)]) rfl rfl) rfl rfl rfl ?_; clear hf fa; rintro fa _ w2 ⟨b2, rfl, hle2, hk2, he2⟩ hf
  have hBb2 : w.heap.size ≤ b2 := Nat.le_trans hb.size hle2
  have : b1 < b2 := Nat.lt_of_lt_of_le (blk_lt hk1) hle2
  replace hk1 := blk_ext hk1 he2
  replace hb := hb.trans (Below.mono he2 hb.size)
  refine sqv hf (r_assign rfl) rfl rfl rfl ?_; clear hf fa; intro fa hf
  apply wpList_nil
  (try simp only [Exit.then, Exit.inBlock, ↓reduceIte, Nat.reduceEqDiff])
  refine hK1 _ _ ?_
  refine wp_seq_k (fun K2 hK2 => ?_)
  refine wp_seq_k (fun K3 hK3 => ?_)
  refine wp_region_lit ?_
  refine sqv hf (r_fa rfl Tryd.underlying25 (f := 0) (q := 0) rfl (by kernel_rfl) rfl) rfl rfl rfl ?_; clear hf fa; intro fa hf
  refine sqv hf (r_load (v := (.int .u8 ((op : Nat) : Int))) rfl Tryd.underlying5 rfl (cell_blk hk1 rfl)) rfl rfl rfl ?_; clear hf fa; intro fa hf
  refine sqv hf (r_fa rfl Tryd.underlying25 (f := 0) (q := 0) rfl (by kernel_rfl) rfl) rfl rfl rfl ?_; clear hf fa; intro fa hf
  refine sqv hf (r_load (v := (.int .u8 ((op : Nat) : Int))) rfl Tryd.underlying5 rfl (cell_blk hk2 rfl)) rfl rfl rfl ?_; clear hf fa; intro fa hf
  refine sqv hf (Runs.veq (r_ne rfl rfl) (congrArg Value.bool (show _ = false from (by simp)))) rfl rfl rfl ?_; clear hf fa; intro fa hf
  refine sqv hf (r_move rfl) rfl rfl rfl ?_; clear hf fa; intro fa hf
  refine sqgd (act := true) (g := 5) (want := false) (ag := true) (c := false) hf (by rfl) (by rfl) rfl (fun _ =>  Runs.does (R := fun vq wq => vq = (.pointer (some ⟨b1, 1, none⟩)) ∧ w2 = wq) (r_fa rfl Tryd.underlying25 (f := 1) (q := 1) rfl (by kernel_rfl) rfl) ⟨rfl, rfl⟩) (fun h => by cases h) rfl ?_; clear hf fa; rintro fa _ _ ⟨rfl, rfl⟩ hf
  change Fr _ _ ((12, (.pointer (some ⟨b1, 1, none⟩))) :: _) at hf
  refine sqgd (act := true) (g := 5) (want := false) (ag := true) (c := false) hf (by rfl) (by rfl) rfl (fun _ =>  Runs.does (R := fun vq wq => vq = (.int .u64 A) ∧ w2 = wq) (r_load (v := (.int .u64 A)) rfl Tryd.underlying22 rfl (cell_blk hk1 rfl)) ⟨rfl, rfl⟩) (fun h => by cases h) rfl ?_; clear hf fa; rintro fa _ _ ⟨rfl, rfl⟩ hf
  change Fr _ _ ((13, (.int .u64 A)) :: _) at hf
  refine sqgd (act := true) (g := 5) (want := false) (ag := true) (c := false) hf (by rfl) (by rfl) rfl (fun _ =>  Runs.does (R := fun vq wq => vq = (.pointer (some ⟨b2, 1, none⟩)) ∧ w2 = wq) (r_fa rfl Tryd.underlying25 (f := 1) (q := 1) rfl (by kernel_rfl) rfl) ⟨rfl, rfl⟩) (fun h => by cases h) rfl ?_; clear hf fa; rintro fa _ _ ⟨rfl, rfl⟩ hf
  change Fr _ _ ((14, (.pointer (some ⟨b2, 1, none⟩))) :: _) at hf
  refine sqgd (act := true) (g := 5) (want := false) (ag := true) (c := false) hf (by rfl) (by rfl) rfl (fun _ =>  Runs.does (R := fun vq wq => vq = (.int .u64 A) ∧ w2 = wq) (r_load (v := (.int .u64 A)) rfl Tryd.underlying22 rfl (cell_blk hk2 rfl)) ⟨rfl, rfl⟩) (fun h => by cases h) rfl ?_; clear hf fa; rintro fa _ _ ⟨rfl, rfl⟩ hf
  change Fr _ _ ((15, (.int .u64 A)) :: _) at hf
  refine sqgd (act := true) (g := 5) (want := false) (ag := true) (c := false) hf (by rfl) (by rfl) rfl (fun _ =>  Runs.does (R := fun vq wq => vq = (.bool false) ∧ w2 = wq) (Runs.veq (r_ne rfl rfl) (congrArg Value.bool (show _ = false from (by simp)))) ⟨rfl, rfl⟩) (fun h => by cases h) rfl ?_; clear hf fa; rintro fa _ _ ⟨rfl, rfl⟩ hf
  change Fr _ _ ((16, (.bool false)) :: _) at hf
  refine sqv hf (r_pick (b := false) rfl rfl rfl rfl) rfl rfl rfl ?_; clear hf fa; intro fa hf
  refine sqv hf (r_move rfl) rfl rfl rfl ?_; clear hf fa; intro fa hf
  refine sqgd (act := true) (g := 12) (want := false) (ag := true) (c := false) hf (by rfl) (by rfl) rfl (fun _ =>  Runs.does (R := fun vq wq => vq = (.pointer (some ⟨b1, 2, none⟩)) ∧ w2 = wq) (r_fa rfl Tryd.underlying25 (f := 2) (q := 2) rfl (by kernel_rfl) rfl) ⟨rfl, rfl⟩) (fun h => by cases h) rfl ?_; clear hf fa; rintro fa _ _ ⟨rfl, rfl⟩ hf
  change Fr _ _ ((19, (.pointer (some ⟨b1, 2, none⟩))) :: _) at hf
  refine sqgd (act := true) (g := 12) (want := false) (ag := true) (c := false) hf (by rfl) (by rfl) rfl (fun _ =>  Runs.does (R := fun vq wq => vq = (.int .u64 B) ∧ w2 = wq) (r_load (v := (.int .u64 B)) rfl Tryd.underlying22 rfl (cell_blk hk1 rfl)) ⟨rfl, rfl⟩) (fun h => by cases h) rfl ?_; clear hf fa; rintro fa _ _ ⟨rfl, rfl⟩ hf
  change Fr _ _ ((20, (.int .u64 B)) :: _) at hf
  refine sqgd (act := true) (g := 12) (want := false) (ag := true) (c := false) hf (by rfl) (by rfl) rfl (fun _ =>  Runs.does (R := fun vq wq => vq = (.pointer (some ⟨b2, 2, none⟩)) ∧ w2 = wq) (r_fa rfl Tryd.underlying25 (f := 2) (q := 2) rfl (by kernel_rfl) rfl) ⟨rfl, rfl⟩) (fun h => by cases h) rfl ?_; clear hf fa; rintro fa _ _ ⟨rfl, rfl⟩ hf
  change Fr _ _ ((21, (.pointer (some ⟨b2, 2, none⟩))) :: _) at hf
  refine sqgd (act := true) (g := 12) (want := false) (ag := true) (c := false) hf (by rfl) (by rfl) rfl (fun _ =>  Runs.does (R := fun vq wq => vq = (.int .u64 B) ∧ w2 = wq) (r_load (v := (.int .u64 B)) rfl Tryd.underlying22 rfl (cell_blk hk2 rfl)) ⟨rfl, rfl⟩) (fun h => by cases h) rfl ?_; clear hf fa; rintro fa _ _ ⟨rfl, rfl⟩ hf
  change Fr _ _ ((22, (.int .u64 B)) :: _) at hf
  refine sqgd (act := true) (g := 12) (want := false) (ag := true) (c := false) hf (by rfl) (by rfl) rfl (fun _ =>  Runs.does (R := fun vq wq => vq = (.bool false) ∧ w2 = wq) (Runs.veq (r_ne rfl rfl) (congrArg Value.bool (show _ = false from (by simp)))) ⟨rfl, rfl⟩) (fun h => by cases h) rfl ?_; clear hf fa; rintro fa _ _ ⟨rfl, rfl⟩ hf
  change Fr _ _ ((23, (.bool false)) :: _) at hf
  refine sqv hf (r_pick (b := false) rfl rfl rfl rfl) rfl rfl rfl ?_; clear hf fa; intro fa hf
  refine sqv hf (r_move rfl) rfl rfl rfl ?_; clear hf fa; intro fa hf
  refine sqgd (act := true) (g := 19) (want := false) (ag := true) (c := false) hf (by rfl) (by rfl) rfl (fun _ =>  Runs.does (R := fun vq wq => vq = (.pointer (some ⟨b1, 3, none⟩)) ∧ w2 = wq) (r_fa rfl Tryd.underlying25 (f := 3) (q := 3) rfl (by kernel_rfl) rfl) ⟨rfl, rfl⟩) (fun h => by cases h) rfl ?_; clear hf fa; rintro fa _ _ ⟨rfl, rfl⟩ hf
  change Fr _ _ ((26, (.pointer (some ⟨b1, 3, none⟩))) :: _) at hf
  refine sqgd (act := true) (g := 19) (want := false) (ag := true) (c := false) hf (by rfl) (by rfl) rfl (fun _ =>  Runs.does (R := fun vq wq => vq = (.slice a L.length c) ∧ w2 = wq) (r_load (v := (.slice a L.length c)) rfl Tryd.underlying23 rfl (cell_blk hk1 rfl)) ⟨rfl, rfl⟩) (fun h => by cases h) rfl ?_; clear hf fa; rintro fa _ _ ⟨rfl, rfl⟩ hf
  change Fr _ _ ((27, (.slice a L.length c)) :: _) at hf
  refine sqgd (act := true) (g := 19) (want := false) (ag := true) (c := false) hf (by rfl) (by rfl) rfl (fun _ =>  Runs.does (R := fun vq wq => vq = (.int .i64 ((L.length : Nat) : Int)) ∧ w2 = wq) (r_lensl rfl Tryd.underlying23) ⟨rfl, rfl⟩) (fun h => by cases h) rfl ?_; clear hf fa; rintro fa _ _ ⟨rfl, rfl⟩ hf
  change Fr _ _ ((28, (.int .i64 ((L.length : Nat) : Int))) :: _) at hf
  refine sqgd (act := true) (g := 19) (want := false) (ag := true) (c := false) hf (by rfl) (by rfl) rfl (fun _ =>  Runs.does (R := fun vq wq => vq = (.pointer (some ⟨b2, 3, none⟩)) ∧ w2 = wq) (r_fa rfl Tryd.underlying25 (f := 3) (q := 3) rfl (by kernel_rfl) rfl) ⟨rfl, rfl⟩) (fun h => by cases h) rfl ?_; clear hf fa; rintro fa _ _ ⟨rfl, rfl⟩ hf
  change Fr _ _ ((29, (.pointer (some ⟨b2, 3, none⟩))) :: _) at hf
  refine sqgd (act := true) (g := 19) (want := false) (ag := true) (c := false) hf (by rfl) (by rfl) rfl (fun _ =>  Runs.does (R := fun vq wq => vq = (.slice a2 L.length c2) ∧ w2 = wq) (r_load (v := (.slice a2 L.length c2)) rfl Tryd.underlying23 rfl (cell_blk hk2 rfl)) ⟨rfl, rfl⟩) (fun h => by cases h) rfl ?_; clear hf fa; rintro fa _ _ ⟨rfl, rfl⟩ hf
  change Fr _ _ ((30, (.slice a2 L.length c2)) :: _) at hf
  refine sqgd (act := true) (g := 19) (want := false) (ag := true) (c := false) hf (by rfl) (by rfl) rfl (fun _ =>  Runs.does (R := fun vq wq => vq = (.int .i64 ((L.length : Nat) : Int)) ∧ w2 = wq) (r_lensl rfl Tryd.underlying23) ⟨rfl, rfl⟩) (fun h => by cases h) rfl ?_; clear hf fa; rintro fa _ _ ⟨rfl, rfl⟩ hf
  change Fr _ _ ((31, (.int .i64 ((L.length : Nat) : Int))) :: _) at hf
  refine sqgd (act := true) (g := 19) (want := false) (ag := true) (c := false) hf (by rfl) (by rfl) rfl (fun _ =>  Runs.does (R := fun vq wq => vq = (.bool false) ∧ w2 = wq) (Runs.veq (r_ne rfl rfl) (congrArg Value.bool (show _ = false from (by simp)))) ⟨rfl, rfl⟩) (fun h => by cases h) rfl ?_; clear hf fa; rintro fa _ _ ⟨rfl, rfl⟩ hf
  change Fr _ _ ((32, (.bool false)) :: _) at hf
  refine sqv hf (r_pick (b := false) rfl rfl rfl rfl) rfl rfl rfl ?_; clear hf fa; intro fa hf
  apply wpList_nil
  (try simp only [Exit.then, Exit.inBlock, ↓reduceIte, Nat.reduceEqDiff])
  refine hK3 _ _ ?_
  refine wp_cond_false (hf.ev rfl) ?_
  refine wp_skip ?_
  (try simp only [Exit.then, Exit.inBlock, ↓reduceIte, Nat.reduceEqDiff])
  refine hK2 _ _ ?_
  refine wp_seq_k (fun K4 hK4 => ?_)
  refine wp_seq_k (fun K5 hK5 => ?_)
  refine wp_region_lit ?_
  refine sqv hf (r_assign rfl) rfl rfl rfl ?_; clear hf fa; intro fa hf
  apply wpList_nil
  (try simp only [Exit.then, Exit.inBlock, ↓reduceIte, Nat.reduceEqDiff])
  refine hK5 _ _ ?_
  refine wp_block ?_
  refine wp_loop_k (fun mq fa wr => ∃ (k : Nat), mq = L.length - k ∧ Fr 52 fa [(2, (.pointer (some ⟨b1, 0, none⟩))), (3, (.pointer (some ⟨b2, 0, none⟩))), (5, (.int .i64 ((k : Nat) : Int)))] ∧ Below w.heap.size w wr ∧ wr.heap[b1]? = some (.cells #[(.int .u8 ((op : Nat) : Int)), (.int .u64 A), (.int .u64 B), (.slice a L.length c)] 25 (0, 0)) ∧ wr.heap[b2]? = some (.cells #[(.int .u8 ((op : Nat) : Int)), (.int .u64 A), (.int .u64 B), (.slice a2 L.length c2)] 25 (0, 0)) ∧ (k ≤ L.length)) ?_ ?_
  · skip
    exact ⟨_, 0, rfl, hf.sub ⟨rfl, rfl, (some_int (by first | rfl | omega)), trivial⟩, hb, hk1, hk2, by omega⟩
  · skip
    clear hf fa; intro mq1 fa w3 hI KL1 hKL1
    clear hb
    clear hk1
    clear hk2
    obtain ⟨k, hmq1, hf, hb, hkb1, hkb2, hk⟩ := hI
    refine wp_seq_k (fun K6 hK6 => ?_)
    refine wp_seq_k (fun K7 hK7 => ?_)
    refine wp_region_lit ?_
    refine sqv hf (r_move rfl) rfl rfl rfl ?_; clear hf fa; intro fa hf
    refine sqv hf (r_fa rfl Tryd.underlying25 (f := 3) (q := 3) rfl (by kernel_rfl) rfl) rfl rfl rfl ?_; clear hf fa; intro fa hf
    refine sqv hf (r_load (v := (.slice a L.length c)) rfl Tryd.underlying23 rfl (cell_blk hkb1 rfl)) rfl rfl rfl ?_; clear hf fa; intro fa hf
    refine sqv hf (r_lensl rfl Tryd.underlying23) rfl rfl rfl ?_; clear hf fa; intro fa hf
    refine sqv hf (r_lt rfl rfl) rfl rfl rfl ?_; clear hf fa; intro fa hf
    apply wpList_nil
    (try simp only [Exit.then, Exit.inBlock, ↓reduceIte, Nat.reduceEqDiff])
    refine hK7 _ _ ?_
    refine wp_cond_split (t := (decide (((k : Nat) : Int) < ((L.length : Nat) : Int)))) (hf.ev rfl) (fun hqt38_1 => ?_) (fun hqt38_1 => ?_)
    · have hqt38_1b := hqt38_1
      try simp only [decide_eq_true_eq, Bool.and_eq_true, Bool.or_eq_true, Bool.not_eq_true', decide_eq_false_iff_not, ne_eq, Bool.not_eq_true] at hqt38_1
      refine wp_skip ?_
      (try simp only [Exit.then, Exit.inBlock, ↓reduceIte, Nat.reduceEqDiff])
      refine hK6 _ _ ?_
      refine wp_seq_k (fun K8 hK8 => ?_)
      refine wp_block ?_
      refine wp_seq_k (fun K9 hK9 => ?_)
      obtain ⟨y, hy⟩ : ∃ y, L[k]? = some y := ⟨_, List.getElem?_eq_getElem (by omega)⟩
      have hy1 : (L)[k]? = some y := hy
      obtain ⟨ab1, aoff1, hat1, hlb1, hel1⟩ := RdS.at hl hy1
      have hy2 : (L)[k]? = some y := hy
      obtain ⟨ab2, aoff2, hat2, hlb2, hel2⟩ := RdS.at hl2 hy2
      refine wp_region_un (fun wq => Below w3.heap.size w3 wq) (fun w w' => Below w.heap.size w w')
        (fun V => [(fun x _ => x = (.pointer (some ⟨b1, 3, none⟩))), (fun x _ => x = (.slice a L.length c)), (fun x _ => x = (.int .i64 ((k : Nat) : Int))), (fun x _ => x = (.pointer (some ⟨ab1, (aoff1 + k * 1), none⟩))), (fun x _ => x = (.int .u32 y)), (fun x _ => x = (.pointer (some ⟨b2, 3, none⟩))), (fun x _ => x = (.slice a2 L.length c2)), (fun x _ => x = (.int .i64 ((k : Nat) : Int))), (fun x _ => x = (.pointer (some ⟨ab2, (aoff2 + k * 1), none⟩))), (fun x _ => x = (.int .u32 y)), (fun x _ => x = (.bool false))])
        []
        [[], [0], [], [1, 2], [3], [], [5], [], [6, 7], [8], [4, 9]]
        hf (by kernel_rfl) (by kernel_rfl) (fun _ => rfl) ((Below.refl _ _).drew) (fun a b h1 h2 => h1.trans (h2.mono h1.size)) (fun _ _ h => h.size) (fun V => ⟨kept_eq, kept_eq, kept_eq, kept_eq, kept_eq, kept_eq, kept_eq, kept_eq, kept_eq, kept_eq, kept_eq, trivial⟩) (fun _ _ _ _ _ => rfl) ?_ ?_
      · skip
        intro V
        refine ⟨fun wu0 hC hd => ?_, ?_⟩
        · clear hd
          replace hb := hb.trans (hC.mono hb.size)
          replace hkb1 := blk_ext hkb1 hC
          replace hkb2 := blk_ext hkb2 hC
          exact Runs.does (r_fa rfl Tryd.underlying25 (f := 3) (q := 3) rfl (by kernel_rfl) rfl) ⟨Below.refl _ _, rfl, nofr rfl⟩
        refine ⟨fun wu1 hC hd => ?_, ?_⟩
        · obtain ⟨h0, _⟩ := hd
          skip
          replace h0 : V 0 = (.pointer (some ⟨b1, 3, none⟩)) := h0
          replace hb := hb.trans (hC.mono hb.size)
          replace hkb1 := blk_ext hkb1 hC
          replace hkb2 := blk_ext hkb2 hC
          exact Runs.does (r_load (v := (.slice a L.length c)) (congrArg some h0) Tryd.underlying23 rfl (cell_blk hkb1 rfl)) ⟨Below.refl _ _, rfl, nofr rfl⟩
        refine ⟨fun wu2 hC hd => ?_, ?_⟩
        · clear hd
          replace hb := hb.trans (hC.mono hb.size)
          replace hkb1 := blk_ext hkb1 hC
          replace hkb2 := blk_ext hkb2 hC
          exact Runs.does (r_move rfl) ⟨Below.refl _ _, rfl, nofr rfl⟩
        refine ⟨fun wu3 hC hd => ?_, ?_⟩
        · obtain ⟨h1, h2, _⟩ := hd
          skip
          skip
          replace h1 : V 1 = (.slice a L.length c) := h1
          replace h2 : V 2 = (.int .i64 ((k : Nat) : Int)) := h2
          replace hb := hb.trans (hC.mono hb.size)
          replace hkb1 := blk_ext hkb1 hC
          replace hkb2 := blk_ext hkb2 hC
          exact Runs.does (r_ixa (sz := 1) (j := k) (evAt (congrArg some h1) hat1) (congrArg some h2) Tryd.underlying23 (by kernel_rfl) rfl (by omega) rfl) ⟨Below.refl _ _, rfl, nofr rfl⟩
        refine ⟨fun wu4 hC hd => ?_, ?_⟩
        · obtain ⟨h3, _⟩ := hd
          skip
          replace h3 : V 3 = (.pointer (some ⟨ab1, (aoff1 + k * 1), none⟩)) := h3
          replace hb := hb.trans (hC.mono hb.size)
          replace hkb1 := blk_ext hkb1 hC
          replace hkb2 := blk_ext hkb2 hC
          exact Runs.does (r_load (v := (.int .u32 y)) (congrArg some h3) Tryd.underlying62 rfl (cellsAt_cell (cellsAt_below hel1 hb hlb1) (i := 0) rfl rfl)) ⟨Below.refl _ _, rfl, nofr rfl⟩
        refine ⟨fun wu5 hC hd => ?_, ?_⟩
        · clear hd
          replace hb := hb.trans (hC.mono hb.size)
          replace hkb1 := blk_ext hkb1 hC
          replace hkb2 := blk_ext hkb2 hC
          exact Runs.does (r_fa rfl Tryd.underlying25 (f := 3) (q := 3) rfl (by kernel_rfl) rfl) ⟨Below.refl _ _, rfl, nofr rfl⟩
        refine ⟨fun wu6 hC hd => ?_, ?_⟩
        · obtain ⟨h5, _⟩ := hd
          skip
          replace h5 : V 5 = (.pointer (some ⟨b2, 3, none⟩)) := h5
          replace hb := hb.trans (hC.mono hb.size)
          replace hkb1 := blk_ext hkb1 hC
          replace hkb2 := blk_ext hkb2 hC
          exact Runs.does (r_load (v := (.slice a2 L.length c2)) (congrArg some h5) Tryd.underlying23 rfl (cell_blk hkb2 rfl)) ⟨Below.refl _ _, rfl, nofr rfl⟩
        refine ⟨fun wu7 hC hd => ?_, ?_⟩
        · clear hd
          replace hb := hb.trans (hC.mono hb.size)
          replace hkb1 := blk_ext hkb1 hC
          replace hkb2 := blk_ext hkb2 hC
          exact Runs.does (r_move rfl) ⟨Below.refl _ _, rfl, nofr rfl⟩
        refine ⟨fun wu8 hC hd => ?_, ?_⟩
        · obtain ⟨h6, h7, _⟩ := hd
          skip
          skip
          replace h6 : V 6 = (.slice a2 L.length c2) := h6
          replace h7 : V 7 = (.int .i64 ((k : Nat) : Int)) := h7
          replace hb := hb.trans (hC.mono hb.size)
          replace hkb1 := blk_ext hkb1 hC
          replace hkb2 := blk_ext hkb2 hC
          exact Runs.does (r_ixa (sz := 1) (j := k) (evAt (congrArg some h6) hat2) (congrArg some h7) Tryd.underlying23 (by kernel_rfl) rfl (by omega) rfl) ⟨Below.refl _ _, rfl, nofr rfl⟩
        refine ⟨fun wu9 hC hd => ?_, ?_⟩
        · obtain ⟨h8, _⟩ := hd
          skip
          replace h8 : V 8 = (.pointer (some ⟨ab2, (aoff2 + k * 1), none⟩)) := h8
          replace hb := hb.trans (hC.mono hb.size)
          replace hkb1 := blk_ext hkb1 hC
          replace hkb2 := blk_ext hkb2 hC
          exact Runs.does (r_load (v := (.int .u32 y)) (congrArg some h8) Tryd.underlying62 rfl (cellsAt_cell (cellsAt_below hel2 hb hlb2) (i := 0) rfl rfl)) ⟨Below.refl _ _, rfl, nofr rfl⟩
        refine ⟨fun wu10 hC hd => ?_, ?_⟩
        · obtain ⟨h4, h9, _⟩ := hd
          skip
          skip
          replace h4 : V 4 = (.int .u32 y) := h4
          replace h9 : V 9 = (.int .u32 y) := h9
          replace hb := hb.trans (hC.mono hb.size)
          replace hkb1 := blk_ext hkb1 hC
          replace hkb2 := blk_ext hkb2 hC
          exact Runs.does (Runs.veq (r_ne (congrArg some h4) (congrArg some h9)) (congrArg Value.bool (show _ = false from (by simp)))) ⟨Below.refl _ _, rfl, nofr rfl⟩
        trivial
      · skip
        clear hf fa; intro V w4 fa he3 hp hnb hf
        have hv0 : V 0 = (.pointer (some ⟨b1, 3, none⟩)) := postsHold_at hp 0 rfl
        have hv1 : V 1 = (.slice a L.length c) := postsHold_at hp 1 rfl
        have hv2 : V 2 = (.int .i64 ((k : Nat) : Int)) := postsHold_at hp 2 rfl
        have hv3 : V 3 = (.pointer (some ⟨ab1, (aoff1 + k * 1), none⟩)) := postsHold_at hp 3 rfl
        have hv4 : V 4 = (.int .u32 y) := postsHold_at hp 4 rfl
        have hv5 : V 5 = (.pointer (some ⟨b2, 3, none⟩)) := postsHold_at hp 5 rfl
        have hv6 : V 6 = (.slice a2 L.length c2) := postsHold_at hp 6 rfl
        have hv7 : V 7 = (.int .i64 ((k : Nat) : Int)) := postsHold_at hp 7 rfl
        have hv8 : V 8 = (.pointer (some ⟨ab2, (aoff2 + k * 1), none⟩)) := postsHold_at hp 8 rfl
        have hv9 : V 9 = (.int .u32 y) := postsHold_at hp 9 rfl
        have hv10 : V 10 = (.bool false) := postsHold_at hp 10 rfl
        simp only [List.take_succ_cons, List.take_zero, insAll, ins, hv0, hv1, hv2, hv3, hv4, hv5, hv6, hv7, hv8, hv9, hv10] at hf
        clear hp hnb hv0 hv1 hv2 hv3 hv4 hv5 hv6 hv7 hv8 hv9 hv10
        replace hkb1 := blk_ext hkb1 he3
        replace hkb2 := blk_ext hkb2 he3
        replace hb := hb.trans (Below.mono he3 hb.size)
        (try simp only [Exit.then, Exit.inBlock, ↓reduceIte, Nat.reduceEqDiff])
        refine hK9 _ _ ?_
        refine wp_cond_false (hf.ev rfl) ?_
        refine wp_skip ?_
        (try simp only [Exit.then, Exit.inBlock, ↓reduceIte, Nat.reduceEqDiff])
        refine hK8 _ _ ?_
        refine wp_region_lit ?_
        refine sqv hf (r_move rfl) rfl rfl rfl ?_; clear hf fa; intro fa hf
        refine sqv hf (r_add (C := (((k : Nat) : Int) + (1 : Int))) rfl rfl (by rw [IntKind.wrap_i64]; omega)) rfl rfl rfl ?_; clear hf fa; intro fa hf
        refine sqv hf (r_assign rfl) rfl rfl rfl ?_; clear hf fa; intro fa hf
        apply wpList_nil
        (try simp only [Exit.then, Exit.inBlock, ↓reduceIte, Nat.reduceEqDiff])
        refine hKL1 _ _ _ (by omega) ⟨(k + 1), rfl, hf.sub ⟨rfl, rfl, (some_int (by first | rfl | omega)), trivial⟩, hb, hkb1, hkb2, by omega⟩
    · have hqt38_1b := hqt38_1
      replace hqt38_1 := Bool.eq_false_iff.1 hqt38_1
      try simp only [ne_eq, decide_eq_true_eq, Bool.and_eq_true, Bool.or_eq_true, Bool.not_eq_true', decide_eq_false_iff_not] at hqt38_1
      refine wp_exit ?_
      (try simp only [Exit.then, Exit.inBlock, ↓reduceIte, Nat.reduceEqDiff])
      refine hK4 _ _ ?_
      refine wp_seq_k (fun K10 hK10 => ?_)
      refine wp_region_lit ?_
      refine sqv hf (r_assign rfl) rfl rfl rfl ?_; clear hf fa; intro fa hf
      apply wpList_nil
      (try simp only [Exit.then, Exit.inBlock, ↓reduceIte, Nat.reduceEqDiff])
      refine hK10 _ _ ?_
      refine wp_ret ?_
      (try simp only [Exit.then, Exit.inBlock])
      refine ret1 hf rfl rfl ?_
      exact ⟨rfl, hb⟩

theorem dS2 : dS 2 = ⟨#[50]⟩ := by unfold dS digB; rw [if_neg (by decide), show (2 : Int).natAbs = 2 from rfl, natB_lt (by decide)]; rfl
theorem dS8 : dS 8 = ⟨#[56]⟩ := by unfold dS digB; rw [if_neg (by decide), show (8 : Int).natAbs = 8 from rfl, natB_lt (by decide)]; rfl
theorem right_ex : rightP 40 2 8 0 = 0 := by decide +kernel
theorem imm_ex : (infP 40).2.1 = 8 := by decide +kernel
theorem nm_ex : nmO 40 = ⟨#[105, 51, 50, 46, 108, 111, 97, 100]⟩ := by decide +kernel
theorem line_ex : lineP 40 2 8 [] = ⟨#[105, 51, 50, 46, 108, 111, 97, 100, 32, 97, 108, 105, 103, 110, 61, 50, 32, 111, 102, 102, 115, 101, 116, 61, 56]⟩ := by
  unfold lineP
  rw [if_pos (show rightP 40 2 8 ([] : List Int).length = 0 from right_ex)]
  unfold behindP
  rw [imm_ex, if_neg (by decide), if_neg (by decide), if_neg (by decide), if_pos rfl, nm_ex, show sA 2 = 2 from rfl, show sA 8 = 8 from rfl, dS2, dS8]
  rfl
theorem line46 (w : World) : Calls Tryd.prog 7 #[.agg #[.int .u8 40, .int .u64 2, .int .u64 8, .slice none 0 0]] w fun e w' => e = .returned (.string ⟨#[105, 51, 50, 46, 108, 111, 97, 100, 32, 97, 108, 105, 103, 110, 61, 50, 32, 111, 102, 102, 115, 101, 116, 61, 56]⟩) ∧ Below w.heap.size w w' := by
  have h := line_any 40 2 8 [] none 0 w RdS.nil (fun y hy => by cases hy) (by decide) (by decide) (by decide) (Nat.le_refl 0) (by decide)
  rw [line_ex] at h
  exact h

set_option maxHeartbeats 1000000 in
set_option maxRecDepth 100000 in
theorem awake46_any (w : World) : Calls Tryd.prog 6 #[] w fun e w' => e = .returned (.bool true) ∧ Below w.heap.size w w' := by
  refine sx_enter (L := []) Tryd.func6 rfl rfl rfl rfl (fun fa hf => ?_)
  have hb : Below w.heap.size w w := Below.refl _ _
  refine wp_seq_k (fun K1 hK1 => ?_)
  refine wp_region_lit ?_
  refine sqv hf (r_assign rfl) rfl rfl rfl ?_; clear hf fa; intro fa hf
  apply wpList_nil
  (try simp only [Exit.then, Exit.inBlock, ↓reduceIte, Nat.reduceEqDiff])
  refine hK1 _ _ ?_
  refine wp_seq_k (fun K2 hK2 => ?_)
  refine wp_region_lit ?_
  refine sqv hf (r_build (vs := [(0, (.int .u8 (40 : Int))), (1, (.int .u64 (2 : Int))), (2, (.int .u64 (8 : Int)))]) (cs := #[(.int .u8 (40 : Int)), (.int .u64 (2 : Int)), (.int .u64 (8 : Int)), (.slice none 0 0)]) rfl (fun _ => by kernel_rfl)) rfl rfl rfl ?_; clear hf fa; intro fa hf
  refine sqdt hf (d_callB (vs := [(.agg #[(.int .u8 (40 : Int)), (.int .u64 (2 : Int)), (.int .u64 (8 : Int)), (.slice none 0 0)])]) rfl Tryd.func7 (by kernel_rfl) (by kernel_rfl) (line46 _)) rfl rfl rfl ?_; clear hf fa; rintro fa _ w1 ⟨rfl, he1⟩ hf
  replace hb := hb.trans (Below.mono he1 hb.size)
  refine sqv hf (Runs.veq (r_seq rfl rfl) (congrArg Value.bool (show _ = true from (by simp)))) rfl rfl rfl ?_; clear hf fa; intro fa hf
  refine sqv hf (r_assign rfl) rfl rfl rfl ?_; clear hf fa; intro fa hf
  apply wpList_nil
  (try simp only [Exit.then, Exit.inBlock, ↓reduceIte, Nat.reduceEqDiff])
  refine hK2 _ _ ?_
  refine wp_ret ?_
  (try simp only [Exit.then, Exit.inBlock])
  refine ret1 hf rfl rfl ?_
  exact ⟨rfl, hb⟩
end Go.Proofs.YtpalmpfkliepfaaDoor
