/- What is proved here: how a memory is read and written by an instruction. -/
import Derived.Test.YtmcmickgllffoaaCwAp
namespace Go.Proofs.Ytmcmickgllffoaa
open Go.RowKit
set_option linter.unusedVariables false
set_option linter.unusedSimpArgs false
theorem mem_two {op : Nat} (hop : op < 256) (h : (memP op).2.1 = 8) : 2 ≤ (memP op).1.size ∧ (memP op).1.size ≤ 20 := by
  have : ∀ j : Fin 256, (memP j.val).2.1 = 8 → 2 ≤ (memP j.val).1.size ∧ (memP j.val).1.size ≤ 20 := by decide +kernel
  exact this ⟨op, hop⟩ h

/-- How many bytes, which type, whether it writes, whether it has a sign, whether it is one. -/
def accT (op : Nat) : Int × Int × Bool × Bool × Bool :=
  if op = 0x28 then (4, 127, false, false, true) else if op = 0x29 then (8, 126, false, false, true)
  else if op = 0x2c then (1, 127, false, true, true) else if op = 0x2d then (1, 127, false, false, true)
  else if op = 0x2e then (2, 127, false, true, true) else if op = 0x2f then (2, 127, false, false, true)
  else if op = 0x30 then (1, 126, false, true, true) else if op = 0x31 then (1, 126, false, false, true)
  else if op = 0x32 then (2, 126, false, true, true) else if op = 0x33 then (2, 126, false, false, true)
  else if op = 0x34 then (4, 126, false, true, true) else if op = 0x35 then (4, 126, false, false, true)
  else if op = 0x36 then (4, 127, true, false, true) else if op = 0x37 then (8, 126, true, false, true)
  else if op = 0x3a then (1, 127, true, false, true) else if op = 0x3b then (2, 127, true, false, true)
  else if op = 0x3c then (1, 126, true, false, true) else if op = 0x3d then (2, 126, true, false, true)
  else if op = 0x3e then (4, 126, true, false, true) else (0, 0, false, false, false)
theorem accT_ok {op : Nat} (hop : op < 256) : 0 ≤ (accT op).1 ∧ (accT op).1 ≤ 8 ∧ 0 ≤ (accT op).2.1 ∧ (accT op).2.1 < 256 ∧ ((accT op).2.2.2.2 = true → 1 ≤ (accT op).1) := by
  have : ∀ j : Fin 256, 0 ≤ (accT j.val).1 ∧ (accT j.val).1 ≤ 8 ∧ 0 ≤ (accT j.val).2.1 ∧ (accT j.val).2.1 < 256 ∧ ((accT j.val).2.2.2.2 = true → 1 ≤ (accT j.val).1) := by decide +kernel
  exact this ⟨op, hop⟩
def inA (op : Nat) : Prop := op = 44 ∨ op = 45 ∨ op = 48 ∨ op = 49 ∨ op = 58 ∨ op = 60
def inB (op : Nat) : Prop := op = 46 ∨ op = 47 ∨ op = 50 ∨ op = 51 ∨ op = 59 ∨ op = 61
def inC (op : Nat) : Prop := op = 52 ∨ op = 53 ∨ op = 62
instance (op : Nat) : Decidable (inA op) := by unfold inA; infer_instance
instance (op : Nat) : Decidable (inB op) := by unfold inB; infer_instance
instance (op : Nat) : Decidable (inC op) := by unfold inC; infer_instance
theorem acc_no {op : Nat} (hop : op < 256) (h : ¬ (memP op).2.1 = 8) : accT op = (0, 0, false, false, false) := by
  have : ∀ j : Fin 256, ¬ (memP j.val).2.1 = 8 → accT j.val = (0, 0, false, false, false) := by decide +kernel
  exact this ⟨op, hop⟩ h
theorem acc_tab {op : Nat} (hop : op < 256) (h : (memP op).2.1 = 8) : (accT op).2.2.2.2 = true ∧ (accT op).2.1 = (if sbt (memP op).1 1 = 51 then 127 else 126) ∧
    (accT op).1 = (if inA op then 1 else if inB op then 2 else if inC op then 4 else if sbt (memP op).1 1 = 51 then 4 else 8) ∧ (accT op).2.2.1 = decide ((54 : Int) ≤ ((op : Nat) : Int)) ∧ (accT op).2.2.2.1 = (decide (((op : Nat) : Int) = (44 : Int)) || (decide (((op : Nat) : Int) = (46 : Int))) || (decide (((op : Nat) : Int) = (48 : Int))) || (decide (((op : Nat) : Int) = (50 : Int))) || (decide (((op : Nat) : Int) = (52 : Int)))) := by
  have : ∀ j : Fin 256, (memP j.val).2.1 = 8 → (accT j.val).2.2.2.2 = true ∧ (accT j.val).2.1 = (if sbt (memP j.val).1 1 = 51 then 127 else 126) ∧
    (accT j.val).1 = (if inA j.val then 1 else if inB j.val then 2 else if inC j.val then 4 else if sbt (memP j.val).1 1 = 51 then 4 else 8) ∧ (accT j.val).2.2.1 = decide ((54 : Int) ≤ ((j.val : Nat) : Int)) ∧ (accT j.val).2.2.2.1 = (decide (((j.val : Nat) : Int) = (44 : Int)) || (decide (((j.val : Nat) : Int) = (46 : Int))) || (decide (((j.val : Nat) : Int) = (48 : Int))) || (decide (((j.val : Nat) : Int) = (50 : Int))) || (decide (((j.val : Nat) : Int) = (52 : Int)))) := by decide +kernel
  exact this ⟨op, hop⟩ h

set_option maxHeartbeats 1000000 in
set_option maxRecDepth 100000 in
theorem access_any (op : Nat) (w : World) (hop : op < 256) : Calls Try.prog 73 #[(.int .u8 ((op : Nat) : Int))] w fun e w' => e = .returned (.tuple #[.agg #[.int .i64 (accT op).1, .int .u8 (accT op).2.1, .bool (accT op).2.2.1, .bool (accT op).2.2.2.1], .bool (accT op).2.2.2.2]) ∧ Below w.heap.size w w' := by
  refine sx_enter (L := [(0, (.int .u8 ((op : Nat) : Int)))]) Try.func73 rfl rfl rfl rfl (fun fa hf => ?_)
  have hb : Below w.heap.size w w := Below.refl _ _
  refine wp_seq_k (fun K1 hK1 => ?_)
  refine wp_region_lit ?_
  refine sqdt hf (d_alloc (z := (.agg #[(.int .i64 (0 : Int)), (.int .u8 (0 : Int)), (.bool false), (.bool false)])) (cs := #[(.int .i64 (0 : Int)), (.int .u8 (0 : Int)), (.bool false), (.bool false)]) (by kernel_rfl) rfl) rfl rfl rfl ?_; clear hf fa; rintro fa _ w1 ⟨b1, rfl, hle1, hk1, he1⟩ hf
  have hBb1 : w.heap.size ≤ b1 := Nat.le_trans hb.size hle1
  replace hb := hb.trans (Below.mono he1 hb.size)
  refine sqv hf (r_assign rfl) rfl rfl rfl ?_; clear hf fa; intro fa hf
  apply wpList_nil
  (try simp only [Exit.then, Exit.inBlock, ↓reduceIte, Nat.reduceEqDiff])
  refine hK1 _ _ ?_
  refine wp_seq_k (fun K2 hK2 => ?_)
  refine wp_region_lit ?_
  refine sqv hf (r_move rfl) rfl rfl rfl ?_; clear hf fa; intro fa hf
  refine sqdt hf (d_callB (vs := [(.int .u8 ((op : Nat) : Int))]) rfl Try.func86 (by kernel_rfl) (by kernel_rfl) (mem_any op _ hop)) rfl rfl rfl ?_; clear hf fa; rintro fa _ w2 ⟨rfl, he2⟩ hf
  replace hk1 := blk_ext hk1 he2
  replace hb := hb.trans (Below.mono he2 hb.size)
  refine sqdt hf (d_alloc (z := (.agg #[(.string ⟨#[]⟩), (.int .i64 (0 : Int)), (.string ⟨#[]⟩), (.string ⟨#[]⟩), (.bool false)])) (cs := #[(.string ⟨#[]⟩), (.int .i64 (0 : Int)), (.string ⟨#[]⟩), (.string ⟨#[]⟩), (.bool false)]) (by kernel_rfl) rfl) rfl rfl rfl ?_; clear hf fa; rintro fa _ w3 ⟨b2, rfl, hle2, hk2, he3⟩ hf
  have hBb2 : w.heap.size ≤ b2 := Nat.le_trans hb.size hle2
  have : b1 < b2 := Nat.lt_of_lt_of_le (blk_lt hk1) hle2
  replace hk1 := blk_ext hk1 he3
  replace hb := hb.trans (Below.mono he3 hb.size)
  refine sqn hf (d_storeK (T := 165) (v := (.agg #[(.string (memP op).1), (.int .i64 ((memP op).2.1)), (.string (memP op).2.2.1), (.string (memP op).2.2.2.1), (.bool (memP op).2.2.2.2.1)])) (cs := #[(.string ⟨#[]⟩), (.int .i64 (0 : Int)), (.string ⟨#[]⟩), (.string ⟨#[]⟩), (.bool false)]) (cs' := #[(.string (memP op).1), (.int .i64 ((memP op).2.1)), (.string (memP op).2.2.1), (.string (memP op).2.2.2.1), (.bool (memP op).2.2.2.2.1)]) rfl rfl (by kernel_rfl) (by kernel_rfl) hk2 (by kernel_rfl) (by kernel_rfl)) rfl rfl ?_; clear hf fa; rintro fa _ w4 ⟨hk3, hg1⟩ hf
  replace hk1 := blk_grown hk1 hg1 (by omega)
  replace hb := hb.trans (grown_below hg1 hb.size hBb2)
  apply wpList_nil
  (try simp only [Exit.then, Exit.inBlock, ↓reduceIte, Nat.reduceEqDiff])
  refine hK2 _ _ ?_
  refine wp_seq_k (fun K3 hK3 => ?_)
  refine wp_seq_k (fun K4 hK4 => ?_)
  refine wp_region_lit ?_
  refine sqv hf (r_fa rfl Try.underlying165 (f := 1) (q := 1) rfl (by kernel_rfl) rfl) rfl rfl rfl ?_; clear hf fa; intro fa hf
  refine sqv hf (r_load (v := (.int .i64 ((memP op).2.1))) rfl Try.underlying163 rfl (cell_blk hk3 rfl)) rfl rfl rfl ?_; clear hf fa; intro fa hf
  refine sqv hf (r_ne rfl rfl) rfl rfl rfl ?_; clear hf fa; intro fa hf
  apply wpList_nil
  (try simp only [Exit.then, Exit.inBlock, ↓reduceIte, Nat.reduceEqDiff])
  refine hK4 _ _ ?_
  refine wp_cond_split (t := (decide (((memP op).2.1) ≠ (8 : Int)))) (hf.ev rfl) (fun hqt10_1 => ?_) (fun hqt10_1 => ?_)
  · have hqt10_1b := hqt10_1
    try simp only [decide_eq_true_eq, Bool.and_eq_true, Bool.or_eq_true, Bool.not_eq_true', decide_eq_false_iff_not, ne_eq, Bool.not_eq_true] at hqt10_1
    refine wp_seq_k (fun K5 hK5 => ?_)
    refine wp_region_lit ?_
    refine sqv hf (r_build (vs := []) (cs := #[(.int .i64 (0 : Int)), (.int .u8 (0 : Int)), (.bool false), (.bool false)]) rfl (fun _ => by kernel_rfl)) rfl rfl rfl ?_; clear hf fa; intro fa hf
    refine sqn hf (d_storeK (T := 141) (v := (.agg #[(.int .i64 (0 : Int)), (.int .u8 (0 : Int)), (.bool false), (.bool false)])) (cs := #[(.int .i64 (0 : Int)), (.int .u8 (0 : Int)), (.bool false), (.bool false)]) (cs' := #[(.int .i64 (0 : Int)), (.int .u8 (0 : Int)), (.bool false), (.bool false)]) rfl rfl (by kernel_rfl) (by kernel_rfl) hk1 (by kernel_rfl) (by kernel_rfl)) rfl rfl ?_; clear hf fa; rintro fa _ w5 ⟨hk4, hg2⟩ hf
    replace hk3 := blk_grown hk3 hg2 (by omega)
    replace hb := hb.trans (grown_below hg2 hb.size hBb1)
    refine sqv hf (r_assign rfl) rfl rfl rfl ?_; clear hf fa; intro fa hf
    apply wpList_nil
    (try simp only [Exit.then, Exit.inBlock, ↓reduceIte, Nat.reduceEqDiff])
    refine hK5 _ _ ?_
    refine wp_ret ?_
    (try simp only [Exit.then, Exit.inBlock])
    refine retCT hf rfl rfl hk4 Try.underlying141 rfl (by kernel_rfl) rfl ?_
    rw [acc_no hop (by have h := hqt10_1; omega)]
    exact ⟨rfl, hb⟩
  · have hqt10_1b := hqt10_1
    replace hqt10_1 := Bool.eq_false_iff.1 hqt10_1
    try simp only [ne_eq, decide_eq_true_eq, Bool.and_eq_true, Bool.or_eq_true, Bool.not_eq_true', decide_eq_false_iff_not] at hqt10_1
    refine wp_skip ?_
    (try simp only [Exit.then, Exit.inBlock, ↓reduceIte, Nat.reduceEqDiff])
    refine hK3 _ _ ?_
    refine wp_seq_k (fun K6 hK6 => ?_)
    have hm8 : (memP op).2.1 = 8 := by have h := hqt10_1; omega
    have hm2 := mem_two hop hm8
    obtain ⟨hT0, hT1, hT2, hT3, hT4⟩ := acc_tab hop hm8
    refine wp_region_lit ?_
    refine sqv hf (r_move rfl) rfl rfl rfl ?_; clear hf fa; intro fa hf
    refine sqv hf (r_ge rfl rfl) rfl rfl rfl ?_; clear hf fa; intro fa hf
    refine sqv hf (r_build (vs := [(1, (.int .u8 (126 : Int))), (2, (.bool (decide ((54 : Int) ≤ ((op : Nat) : Int))))), (0, (.int .i64 (8 : Int)))]) (cs := #[(.int .i64 (8 : Int)), (.int .u8 (126 : Int)), (.bool (decide ((54 : Int) ≤ ((op : Nat) : Int)))), (.bool false)]) rfl (fun _ => by kernel_rfl)) rfl rfl rfl ?_; clear hf fa; intro fa hf
    refine sqdt hf (d_alloc (z := (.agg #[(.int .i64 (0 : Int)), (.int .u8 (0 : Int)), (.bool false), (.bool false)])) (cs := #[(.int .i64 (0 : Int)), (.int .u8 (0 : Int)), (.bool false), (.bool false)]) (by kernel_rfl) rfl) rfl rfl rfl ?_; clear hf fa; rintro fa _ w6 ⟨b3, rfl, hle3, hk5, he4⟩ hf
    have hBb3 : w.heap.size ≤ b3 := Nat.le_trans hb.size hle3
    have : b1 < b3 := Nat.lt_of_lt_of_le (blk_lt hk1) hle3
    have : b2 < b3 := Nat.lt_of_lt_of_le (blk_lt hk3) hle3
    replace hk1 := blk_ext hk1 he4
    replace hk3 := blk_ext hk3 he4
    replace hb := hb.trans (Below.mono he4 hb.size)
    refine sqn hf (d_storeK (T := 141) (v := (.agg #[(.int .i64 (8 : Int)), (.int .u8 (126 : Int)), (.bool (decide ((54 : Int) ≤ ((op : Nat) : Int)))), (.bool false)])) (cs := #[(.int .i64 (0 : Int)), (.int .u8 (0 : Int)), (.bool false), (.bool false)]) (cs' := #[(.int .i64 (8 : Int)), (.int .u8 (126 : Int)), (.bool (decide ((54 : Int) ≤ ((op : Nat) : Int)))), (.bool false)]) rfl rfl (by kernel_rfl) (by kernel_rfl) hk5 (by kernel_rfl) (by kernel_rfl)) rfl rfl ?_; clear hf fa; rintro fa _ w7 ⟨hk6, hg3⟩ hf
    replace hk1 := blk_grown hk1 hg3 (by omega)
    replace hk3 := blk_grown hk3 hg3 (by omega)
    replace hb := hb.trans (grown_below hg3 hb.size hBb3)
    apply wpList_nil
    (try simp only [Exit.then, Exit.inBlock, ↓reduceIte, Nat.reduceEqDiff])
    refine hK6 _ _ ?_
    refine wp_seq_k (fun K7 hK7 => ?_)
    refine wp_seq_k (fun K8 hK8 => ?_)
    refine wp_region_lit ?_
    refine sqv hf (r_fa rfl Try.underlying165 (f := 0) (q := 0) rfl (by kernel_rfl) rfl) rfl rfl rfl ?_; clear hf fa; intro fa hf
    refine sqv hf (r_load (v := (.string (memP op).1)) rfl Try.underlying9 rfl (cell_blk hk3 rfl)) rfl rfl rfl ?_; clear hf fa; intro fa hf
    refine sqv hf (r_sindexD (j := 1) rfl rfl Try.underlying9 rfl (by omega)) rfl rfl rfl ?_; clear hf fa; intro fa hf
    refine sqv hf (r_eq rfl rfl) rfl rfl rfl ?_; clear hf fa; intro fa hf
    apply wpList_nil
    (try simp only [Exit.then, Exit.inBlock, ↓reduceIte, Nat.reduceEqDiff])
    refine hK8 _ _ ?_
    refine wp_cond_split (t := (decide (((sbt (memP op).1 1 : Nat) : Int) = (51 : Int)))) (hf.ev rfl) (fun hqt18_1 => ?_) (fun hqt18_1 => ?_)
    · have hqt18_1b := hqt18_1
      try simp only [decide_eq_true_eq, Bool.and_eq_true, Bool.or_eq_true, Bool.not_eq_true', decide_eq_false_iff_not, ne_eq, Bool.not_eq_true] at hqt18_1
      refine wp_region_lit ?_
      refine sqv hf (r_fa rfl Try.underlying141 (f := 1) (q := 1) rfl (by kernel_rfl) rfl) rfl rfl rfl ?_; clear hf fa; intro fa hf
      refine sqn hf (d_storeK (T := 141) (v := (.int .u8 (127 : Int))) (cs := #[(.int .i64 (8 : Int)), (.int .u8 (126 : Int)), (.bool (decide ((54 : Int) ≤ ((op : Nat) : Int)))), (.bool false)]) (cs' := #[(.int .i64 (8 : Int)), (.int .u8 (127 : Int)), (.bool (decide ((54 : Int) ≤ ((op : Nat) : Int)))), (.bool false)]) rfl rfl (by kernel_rfl) (by kernel_rfl) hk6 (by kernel_rfl) (by kernel_rfl)) rfl rfl ?_; clear hf fa; rintro fa _ w8 ⟨hk7, hg4⟩ hf
      replace hk1 := blk_grown hk1 hg4 (by omega)
      replace hk3 := blk_grown hk3 hg4 (by omega)
      replace hb := hb.trans (grown_below hg4 hb.size hBb3)
      refine sqv hf (r_fa rfl Try.underlying141 (f := 0) (q := 0) rfl (by kernel_rfl) rfl) rfl rfl rfl ?_; clear hf fa; intro fa hf
      refine sqn hf (d_storeK (T := 141) (v := (.int .i64 (4 : Int))) (cs := #[(.int .i64 (8 : Int)), (.int .u8 (127 : Int)), (.bool (decide ((54 : Int) ≤ ((op : Nat) : Int)))), (.bool false)]) (cs' := #[(.int .i64 (4 : Int)), (.int .u8 (127 : Int)), (.bool (decide ((54 : Int) ≤ ((op : Nat) : Int)))), (.bool false)]) rfl rfl (by kernel_rfl) (by kernel_rfl) hk7 (by kernel_rfl) (by kernel_rfl)) rfl rfl ?_; clear hf fa; rintro fa _ w9 ⟨hk8, hg5⟩ hf
      replace hk1 := blk_grown hk1 hg5 (by omega)
      replace hk3 := blk_grown hk3 hg5 (by omega)
      replace hb := hb.trans (grown_below hg5 hb.size hBb3)
      apply wpList_nil
      (try simp only [Exit.then, Exit.inBlock, ↓reduceIte, Nat.reduceEqDiff])
      refine hK7 _ _ ?_
      refine wp_cut_k (fun fa wr => ∃ (nc : Int) (tt : Int), Fr 63 fa [(0, (.int .u8 ((op : Nat) : Int))), (2, (.pointer (some ⟨b1, 0, none⟩))), (5, (.pointer (some ⟨b3, 0, none⟩)))] ∧ Below w.heap.size w wr ∧ wr.heap[b1]? = some (.cells #[(.int .i64 (0 : Int)), (.int .u8 (0 : Int)), (.bool false), (.bool false)] 141 (0, 0)) ∧ wr.heap[b3]? = some (.cells #[(.int .i64 nc), (.int .u8 tt), (.bool (decide ((54 : Int) ≤ ((op : Nat) : Int)))), (.bool false)] 141 (0, 0)) ∧ (nc = (accT op).1) ∧ (tt = (accT op).2.1)) (fun KC1 hKC1 => ?_) ?_
      · skip
        refine wp_cut_k (fun fa wr => ∃ (nb : Int) (tt : Int), Fr 63 fa [(0, (.int .u8 ((op : Nat) : Int))), (2, (.pointer (some ⟨b1, 0, none⟩))), (4, (.pointer (some ⟨b2, 0, none⟩))), (5, (.pointer (some ⟨b3, 0, none⟩))), (21, (.int .u8 ((op : Nat) : Int)))] ∧ Below w.heap.size w wr ∧ wr.heap[b1]? = some (.cells #[(.int .i64 (0 : Int)), (.int .u8 (0 : Int)), (.bool false), (.bool false)] 141 (0, 0)) ∧ wr.heap[b3]? = some (.cells #[(.int .i64 nb), (.int .u8 tt), (.bool (decide ((54 : Int) ≤ ((op : Nat) : Int)))), (.bool false)] 141 (0, 0)) ∧ ((nb = 4 ∧ tt = 127 ∧ sbt (memP op).1 1 = 51) ∨ (nb = 8 ∧ tt = 126 ∧ ¬ sbt (memP op).1 1 = 51))) (fun KC2 hKC2 => ?_) ?_
        · skip
          refine wp_region_lit ?_
          refine sqv hf (r_move rfl) rfl rfl rfl ?_; clear hf fa; intro fa hf
          apply wpList_nil
          (try simp only [Exit.then, Exit.inBlock, ↓reduceIte, Nat.reduceEqDiff])
          exact hKC2 _ _ ⟨(4 : Int), (127 : Int), hf.sub ⟨rfl, rfl, rfl, rfl, rfl, trivial⟩, hb, hk1, hk8, (.inl ⟨rfl, rfl, by have h := hqt18_1; omega⟩)⟩
        · clear hf hb fa hk1 hk3 hk8
          rintro fa w10 ⟨nb, tt, hf, hb, hkb1, hkb3, hn⟩
          refine wp_block ?_
          refine wp_seq_k (fun K11 hK11 => ?_)
          refine wp_seq_k (fun K12 hK12 => ?_)
          refine wp_region_lit ?_
          refine sqv hf (r_eq rfl rfl) rfl rfl rfl ?_; clear hf fa; intro fa hf
          refine sqv hf (r_assign rfl) rfl rfl rfl ?_; clear hf fa; intro fa hf
          apply wpList_nil
          (try simp only [Exit.then, Exit.inBlock, ↓reduceIte, Nat.reduceEqDiff])
          refine hK12 _ _ ?_
          refine wp_cond_split (t := (decide (((op : Nat) : Int) = (44 : Int)))) (hf.ev rfl) (fun hqt22_1 => ?_) (fun hqt22_1 => ?_)
          · have hqt22_1b := hqt22_1
            try simp only [decide_eq_true_eq, Bool.and_eq_true, Bool.or_eq_true, Bool.not_eq_true', decide_eq_false_iff_not, ne_eq, Bool.not_eq_true] at hqt22_1
            refine wp_skip ?_
            (try simp only [Exit.then, Exit.inBlock, ↓reduceIte, Nat.reduceEqDiff])
            refine hK11 _ _ ?_
            refine wp_cond_true ((hf.ev rfl).trans (congrArg Value.bool (show (decide (((op : Nat) : Int) = (44 : Int))) = true from hqt22_1b))) ?_
            refine wp_region_lit ?_
            refine sqv hf (r_fa rfl Try.underlying141 (f := 0) (q := 0) rfl (by kernel_rfl) rfl) rfl rfl rfl ?_; clear hf fa; intro fa hf
            refine sqn hf (d_storeK (T := 141) (v := (.int .i64 (1 : Int))) (cs := #[(.int .i64 nb), (.int .u8 tt), (.bool (decide ((54 : Int) ≤ ((op : Nat) : Int)))), (.bool false)]) (cs' := #[(.int .i64 (1 : Int)), (.int .u8 tt), (.bool (decide ((54 : Int) ≤ ((op : Nat) : Int)))), (.bool false)]) rfl rfl (by kernel_rfl) (by kernel_rfl) hkb3 (by kernel_rfl) (by kernel_rfl)) rfl rfl ?_; clear hf fa; rintro fa _ w11 ⟨hk9, hg6⟩ hf
            replace hkb1 := blk_grown hkb1 hg6 (by omega)
            replace hb := hb.trans (grown_below hg6 hb.size hBb3)
            apply wpList_nil
            (try simp only [Exit.then, Exit.inBlock, ↓reduceIte, Nat.reduceEqDiff])
            exact hKC1 _ _ ⟨(1 : Int), tt, hf.sub ⟨rfl, rfl, rfl, trivial⟩, hb, hkb1, hk9, (by rw [hT2, if_pos (by have h0 := hqt22_1; unfold inA; omega)]), (by rw [hT1]; rcases hn with ⟨_, e, h⟩ | ⟨_, e, h⟩; rw [if_pos h]; exact e; rw [if_neg h]; exact e)⟩
          · have hqt22_1b := hqt22_1
            replace hqt22_1 := Bool.eq_false_iff.1 hqt22_1
            try simp only [ne_eq, decide_eq_true_eq, Bool.and_eq_true, Bool.or_eq_true, Bool.not_eq_true', decide_eq_false_iff_not] at hqt22_1
            refine wp_seq_k (fun K13 hK13 => ?_)
            refine wp_region_lit ?_
            refine sqv hf (r_eq rfl rfl) rfl rfl rfl ?_; clear hf fa; intro fa hf
            refine sqv hf (r_assign rfl) rfl rfl rfl ?_; clear hf fa; intro fa hf
            apply wpList_nil
            (try simp only [Exit.then, Exit.inBlock, ↓reduceIte, Nat.reduceEqDiff])
            refine hK13 _ _ ?_
            refine wp_cond_split (t := (decide (((op : Nat) : Int) = (45 : Int)))) (hf.ev rfl) (fun hqt22_3 => ?_) (fun hqt22_3 => ?_)
            · have hqt22_3b := hqt22_3
              try simp only [decide_eq_true_eq, Bool.and_eq_true, Bool.or_eq_true, Bool.not_eq_true', decide_eq_false_iff_not, ne_eq, Bool.not_eq_true] at hqt22_3
              refine wp_skip ?_
              (try simp only [Exit.then, Exit.inBlock, ↓reduceIte, Nat.reduceEqDiff])
              refine hK11 _ _ ?_
              refine wp_cond_true ((hf.ev rfl).trans (congrArg Value.bool (show (decide (((op : Nat) : Int) = (45 : Int))) = true from hqt22_3b))) ?_
              refine wp_region_lit ?_
              refine sqv hf (r_fa rfl Try.underlying141 (f := 0) (q := 0) rfl (by kernel_rfl) rfl) rfl rfl rfl ?_; clear hf fa; intro fa hf
              refine sqn hf (d_storeK (T := 141) (v := (.int .i64 (1 : Int))) (cs := #[(.int .i64 nb), (.int .u8 tt), (.bool (decide ((54 : Int) ≤ ((op : Nat) : Int)))), (.bool false)]) (cs' := #[(.int .i64 (1 : Int)), (.int .u8 tt), (.bool (decide ((54 : Int) ≤ ((op : Nat) : Int)))), (.bool false)]) rfl rfl (by kernel_rfl) (by kernel_rfl) hkb3 (by kernel_rfl) (by kernel_rfl)) rfl rfl ?_; clear hf fa; rintro fa _ w12 ⟨hk10, hg7⟩ hf
              replace hkb1 := blk_grown hkb1 hg7 (by omega)
              replace hb := hb.trans (grown_below hg7 hb.size hBb3)
              apply wpList_nil
              (try simp only [Exit.then, Exit.inBlock, ↓reduceIte, Nat.reduceEqDiff])
              exact hKC1 _ _ ⟨(1 : Int), tt, hf.sub ⟨rfl, rfl, rfl, trivial⟩, hb, hkb1, hk10, (by rw [hT2, if_pos (by have h0 := hqt22_1; have h1 := hqt22_3; unfold inA; omega)]), (by rw [hT1]; rcases hn with ⟨_, e, h⟩ | ⟨_, e, h⟩; rw [if_pos h]; exact e; rw [if_neg h]; exact e)⟩
            · have hqt22_3b := hqt22_3
              replace hqt22_3 := Bool.eq_false_iff.1 hqt22_3
              try simp only [ne_eq, decide_eq_true_eq, Bool.and_eq_true, Bool.or_eq_true, Bool.not_eq_true', decide_eq_false_iff_not] at hqt22_3
              refine wp_seq_k (fun K14 hK14 => ?_)
              refine wp_region_lit ?_
              refine sqv hf (r_eq rfl rfl) rfl rfl rfl ?_; clear hf fa; intro fa hf
              refine sqv hf (r_assign rfl) rfl rfl rfl ?_; clear hf fa; intro fa hf
              apply wpList_nil
              (try simp only [Exit.then, Exit.inBlock, ↓reduceIte, Nat.reduceEqDiff])
              refine hK14 _ _ ?_
              refine wp_cond_split (t := (decide (((op : Nat) : Int) = (48 : Int)))) (hf.ev rfl) (fun hqt22_5 => ?_) (fun hqt22_5 => ?_)
              · have hqt22_5b := hqt22_5
                try simp only [decide_eq_true_eq, Bool.and_eq_true, Bool.or_eq_true, Bool.not_eq_true', decide_eq_false_iff_not, ne_eq, Bool.not_eq_true] at hqt22_5
                refine wp_skip ?_
                (try simp only [Exit.then, Exit.inBlock, ↓reduceIte, Nat.reduceEqDiff])
                refine hK11 _ _ ?_
                refine wp_cond_true ((hf.ev rfl).trans (congrArg Value.bool (show (decide (((op : Nat) : Int) = (48 : Int))) = true from hqt22_5b))) ?_
                refine wp_region_lit ?_
                refine sqv hf (r_fa rfl Try.underlying141 (f := 0) (q := 0) rfl (by kernel_rfl) rfl) rfl rfl rfl ?_; clear hf fa; intro fa hf
                refine sqn hf (d_storeK (T := 141) (v := (.int .i64 (1 : Int))) (cs := #[(.int .i64 nb), (.int .u8 tt), (.bool (decide ((54 : Int) ≤ ((op : Nat) : Int)))), (.bool false)]) (cs' := #[(.int .i64 (1 : Int)), (.int .u8 tt), (.bool (decide ((54 : Int) ≤ ((op : Nat) : Int)))), (.bool false)]) rfl rfl (by kernel_rfl) (by kernel_rfl) hkb3 (by kernel_rfl) (by kernel_rfl)) rfl rfl ?_; clear hf fa; rintro fa _ w13 ⟨hk11, hg8⟩ hf
                replace hkb1 := blk_grown hkb1 hg8 (by omega)
                replace hb := hb.trans (grown_below hg8 hb.size hBb3)
                apply wpList_nil
                (try simp only [Exit.then, Exit.inBlock, ↓reduceIte, Nat.reduceEqDiff])
                exact hKC1 _ _ ⟨(1 : Int), tt, hf.sub ⟨rfl, rfl, rfl, trivial⟩, hb, hkb1, hk11, (by rw [hT2, if_pos (by have h0 := hqt22_1; have h1 := hqt22_3; have h2 := hqt22_5; unfold inA; omega)]), (by rw [hT1]; rcases hn with ⟨_, e, h⟩ | ⟨_, e, h⟩; rw [if_pos h]; exact e; rw [if_neg h]; exact e)⟩
              · have hqt22_5b := hqt22_5
                replace hqt22_5 := Bool.eq_false_iff.1 hqt22_5
                try simp only [ne_eq, decide_eq_true_eq, Bool.and_eq_true, Bool.or_eq_true, Bool.not_eq_true', decide_eq_false_iff_not] at hqt22_5
                refine wp_seq_k (fun K15 hK15 => ?_)
                refine wp_region_lit ?_
                refine sqv hf (r_eq rfl rfl) rfl rfl rfl ?_; clear hf fa; intro fa hf
                refine sqv hf (r_assign rfl) rfl rfl rfl ?_; clear hf fa; intro fa hf
                apply wpList_nil
                (try simp only [Exit.then, Exit.inBlock, ↓reduceIte, Nat.reduceEqDiff])
                refine hK15 _ _ ?_
                refine wp_cond_split (t := (decide (((op : Nat) : Int) = (49 : Int)))) (hf.ev rfl) (fun hqt22_7 => ?_) (fun hqt22_7 => ?_)
                · have hqt22_7b := hqt22_7
                  try simp only [decide_eq_true_eq, Bool.and_eq_true, Bool.or_eq_true, Bool.not_eq_true', decide_eq_false_iff_not, ne_eq, Bool.not_eq_true] at hqt22_7
                  refine wp_skip ?_
                  (try simp only [Exit.then, Exit.inBlock, ↓reduceIte, Nat.reduceEqDiff])
                  refine hK11 _ _ ?_
                  refine wp_cond_true ((hf.ev rfl).trans (congrArg Value.bool (show (decide (((op : Nat) : Int) = (49 : Int))) = true from hqt22_7b))) ?_
                  refine wp_region_lit ?_
                  refine sqv hf (r_fa rfl Try.underlying141 (f := 0) (q := 0) rfl (by kernel_rfl) rfl) rfl rfl rfl ?_; clear hf fa; intro fa hf
                  refine sqn hf (d_storeK (T := 141) (v := (.int .i64 (1 : Int))) (cs := #[(.int .i64 nb), (.int .u8 tt), (.bool (decide ((54 : Int) ≤ ((op : Nat) : Int)))), (.bool false)]) (cs' := #[(.int .i64 (1 : Int)), (.int .u8 tt), (.bool (decide ((54 : Int) ≤ ((op : Nat) : Int)))), (.bool false)]) rfl rfl (by kernel_rfl) (by kernel_rfl) hkb3 (by kernel_rfl) (by kernel_rfl)) rfl rfl ?_; clear hf fa; rintro fa _ w14 ⟨hk12, hg9⟩ hf
                  replace hkb1 := blk_grown hkb1 hg9 (by omega)
                  replace hb := hb.trans (grown_below hg9 hb.size hBb3)
                  apply wpList_nil
                  (try simp only [Exit.then, Exit.inBlock, ↓reduceIte, Nat.reduceEqDiff])
                  exact hKC1 _ _ ⟨(1 : Int), tt, hf.sub ⟨rfl, rfl, rfl, trivial⟩, hb, hkb1, hk12, (by rw [hT2, if_pos (by have h0 := hqt22_1; have h1 := hqt22_3; have h2 := hqt22_5; have h3 := hqt22_7; unfold inA; omega)]), (by rw [hT1]; rcases hn with ⟨_, e, h⟩ | ⟨_, e, h⟩; rw [if_pos h]; exact e; rw [if_neg h]; exact e)⟩
                · have hqt22_7b := hqt22_7
                  replace hqt22_7 := Bool.eq_false_iff.1 hqt22_7
                  try simp only [ne_eq, decide_eq_true_eq, Bool.and_eq_true, Bool.or_eq_true, Bool.not_eq_true', decide_eq_false_iff_not] at hqt22_7
                  refine wp_seq_k (fun K16 hK16 => ?_)
                  refine wp_region_lit ?_
                  refine sqv hf (r_eq rfl rfl) rfl rfl rfl ?_; clear hf fa; intro fa hf
                  refine sqv hf (r_assign rfl) rfl rfl rfl ?_; clear hf fa; intro fa hf
                  apply wpList_nil
                  (try simp only [Exit.then, Exit.inBlock, ↓reduceIte, Nat.reduceEqDiff])
                  refine hK16 _ _ ?_
                  refine wp_cond_split (t := (decide (((op : Nat) : Int) = (58 : Int)))) (hf.ev rfl) (fun hqt22_9 => ?_) (fun hqt22_9 => ?_)
                  · have hqt22_9b := hqt22_9
                    try simp only [decide_eq_true_eq, Bool.and_eq_true, Bool.or_eq_true, Bool.not_eq_true', decide_eq_false_iff_not, ne_eq, Bool.not_eq_true] at hqt22_9
                    refine wp_skip ?_
                    (try simp only [Exit.then, Exit.inBlock, ↓reduceIte, Nat.reduceEqDiff])
                    refine hK11 _ _ ?_
                    refine wp_cond_true ((hf.ev rfl).trans (congrArg Value.bool (show (decide (((op : Nat) : Int) = (58 : Int))) = true from hqt22_9b))) ?_
                    refine wp_region_lit ?_
                    refine sqv hf (r_fa rfl Try.underlying141 (f := 0) (q := 0) rfl (by kernel_rfl) rfl) rfl rfl rfl ?_; clear hf fa; intro fa hf
                    refine sqn hf (d_storeK (T := 141) (v := (.int .i64 (1 : Int))) (cs := #[(.int .i64 nb), (.int .u8 tt), (.bool (decide ((54 : Int) ≤ ((op : Nat) : Int)))), (.bool false)]) (cs' := #[(.int .i64 (1 : Int)), (.int .u8 tt), (.bool (decide ((54 : Int) ≤ ((op : Nat) : Int)))), (.bool false)]) rfl rfl (by kernel_rfl) (by kernel_rfl) hkb3 (by kernel_rfl) (by kernel_rfl)) rfl rfl ?_; clear hf fa; rintro fa _ w15 ⟨hk13, hg10⟩ hf
                    replace hkb1 := blk_grown hkb1 hg10 (by omega)
                    replace hb := hb.trans (grown_below hg10 hb.size hBb3)
                    apply wpList_nil
                    (try simp only [Exit.then, Exit.inBlock, ↓reduceIte, Nat.reduceEqDiff])
                    exact hKC1 _ _ ⟨(1 : Int), tt, hf.sub ⟨rfl, rfl, rfl, trivial⟩, hb, hkb1, hk13, (by rw [hT2, if_pos (by have h0 := hqt22_1; have h1 := hqt22_3; have h2 := hqt22_5; have h3 := hqt22_7; have h4 := hqt22_9; unfold inA; omega)]), (by rw [hT1]; rcases hn with ⟨_, e, h⟩ | ⟨_, e, h⟩; rw [if_pos h]; exact e; rw [if_neg h]; exact e)⟩
                  · have hqt22_9b := hqt22_9
                    replace hqt22_9 := Bool.eq_false_iff.1 hqt22_9
                    try simp only [ne_eq, decide_eq_true_eq, Bool.and_eq_true, Bool.or_eq_true, Bool.not_eq_true', decide_eq_false_iff_not] at hqt22_9
                    refine wp_region_lit ?_
                    refine sqv hf (r_eq rfl rfl) rfl rfl rfl ?_; clear hf fa; intro fa hf
                    refine sqv hf (r_assign rfl) rfl rfl rfl ?_; clear hf fa; intro fa hf
                    apply wpList_nil
                    (try simp only [Exit.then, Exit.inBlock, ↓reduceIte, Nat.reduceEqDiff])
                    refine hK11 _ _ ?_
                    refine wp_cond_split (t := (decide (((op : Nat) : Int) = (60 : Int)))) (hf.ev rfl) (fun hqt22_11 => ?_) (fun hqt22_11 => ?_)
                    · have hqt22_11b := hqt22_11
                      try simp only [decide_eq_true_eq, Bool.and_eq_true, Bool.or_eq_true, Bool.not_eq_true', decide_eq_false_iff_not, ne_eq, Bool.not_eq_true] at hqt22_11
                      refine wp_region_lit ?_
                      refine sqv hf (r_fa rfl Try.underlying141 (f := 0) (q := 0) rfl (by kernel_rfl) rfl) rfl rfl rfl ?_; clear hf fa; intro fa hf
                      refine sqn hf (d_storeK (T := 141) (v := (.int .i64 (1 : Int))) (cs := #[(.int .i64 nb), (.int .u8 tt), (.bool (decide ((54 : Int) ≤ ((op : Nat) : Int)))), (.bool false)]) (cs' := #[(.int .i64 (1 : Int)), (.int .u8 tt), (.bool (decide ((54 : Int) ≤ ((op : Nat) : Int)))), (.bool false)]) rfl rfl (by kernel_rfl) (by kernel_rfl) hkb3 (by kernel_rfl) (by kernel_rfl)) rfl rfl ?_; clear hf fa; rintro fa _ w16 ⟨hk14, hg11⟩ hf
                      replace hkb1 := blk_grown hkb1 hg11 (by omega)
                      replace hb := hb.trans (grown_below hg11 hb.size hBb3)
                      apply wpList_nil
                      (try simp only [Exit.then, Exit.inBlock, ↓reduceIte, Nat.reduceEqDiff])
                      exact hKC1 _ _ ⟨(1 : Int), tt, hf.sub ⟨rfl, rfl, rfl, trivial⟩, hb, hkb1, hk14, (by rw [hT2, if_pos (by have h0 := hqt22_1; have h1 := hqt22_3; have h2 := hqt22_5; have h3 := hqt22_7; have h4 := hqt22_9; have h5 := hqt22_11; unfold inA; omega)]), (by rw [hT1]; rcases hn with ⟨_, e, h⟩ | ⟨_, e, h⟩; rw [if_pos h]; exact e; rw [if_neg h]; exact e)⟩
                    · have hqt22_11b := hqt22_11
                      replace hqt22_11 := Bool.eq_false_iff.1 hqt22_11
                      try simp only [ne_eq, decide_eq_true_eq, Bool.and_eq_true, Bool.or_eq_true, Bool.not_eq_true', decide_eq_false_iff_not] at hqt22_11
                      refine wp_seq_k (fun K17 hK17 => ?_)
                      refine wp_seq_k (fun K18 hK18 => ?_)
                      refine wp_region_lit ?_
                      refine sqv hf (r_eq rfl rfl) rfl rfl rfl ?_; clear hf fa; intro fa hf
                      refine sqv hf (r_assign rfl) rfl rfl rfl ?_; clear hf fa; intro fa hf
                      apply wpList_nil
                      (try simp only [Exit.then, Exit.inBlock, ↓reduceIte, Nat.reduceEqDiff])
                      refine hK18 _ _ ?_
                      refine wp_cond_split (t := (decide (((op : Nat) : Int) = (46 : Int)))) (hf.ev rfl) (fun hqt30_1 => ?_) (fun hqt30_1 => ?_)
                      · have hqt30_1b := hqt30_1
                        try simp only [decide_eq_true_eq, Bool.and_eq_true, Bool.or_eq_true, Bool.not_eq_true', decide_eq_false_iff_not, ne_eq, Bool.not_eq_true] at hqt30_1
                        refine wp_skip ?_
                        (try simp only [Exit.then, Exit.inBlock, ↓reduceIte, Nat.reduceEqDiff])
                        refine hK17 _ _ ?_
                        refine wp_cond_true ((hf.ev rfl).trans (congrArg Value.bool (show (decide (((op : Nat) : Int) = (46 : Int))) = true from hqt30_1b))) ?_
                        refine wp_region_lit ?_
                        refine sqv hf (r_fa rfl Try.underlying141 (f := 0) (q := 0) rfl (by kernel_rfl) rfl) rfl rfl rfl ?_; clear hf fa; intro fa hf
                        refine sqn hf (d_storeK (T := 141) (v := (.int .i64 (2 : Int))) (cs := #[(.int .i64 nb), (.int .u8 tt), (.bool (decide ((54 : Int) ≤ ((op : Nat) : Int)))), (.bool false)]) (cs' := #[(.int .i64 (2 : Int)), (.int .u8 tt), (.bool (decide ((54 : Int) ≤ ((op : Nat) : Int)))), (.bool false)]) rfl rfl (by kernel_rfl) (by kernel_rfl) hkb3 (by kernel_rfl) (by kernel_rfl)) rfl rfl ?_; clear hf fa; rintro fa _ w17 ⟨hk15, hg12⟩ hf
                        replace hkb1 := blk_grown hkb1 hg12 (by omega)
                        replace hb := hb.trans (grown_below hg12 hb.size hBb3)
                        apply wpList_nil
                        (try simp only [Exit.then, Exit.inBlock, ↓reduceIte, Nat.reduceEqDiff])
                        exact hKC1 _ _ ⟨(2 : Int), tt, hf.sub ⟨rfl, rfl, rfl, trivial⟩, hb, hkb1, hk15, (by rw [hT2, if_neg (by have h0 := hqt22_1; have h1 := hqt22_3; have h2 := hqt22_5; have h3 := hqt22_7; have h4 := hqt22_9; have h5 := hqt22_11; have h6 := hqt30_1; unfold inA; omega), if_pos (by have h0 := hqt22_1; have h1 := hqt22_3; have h2 := hqt22_5; have h3 := hqt22_7; have h4 := hqt22_9; have h5 := hqt22_11; have h6 := hqt30_1; unfold inB; omega)]), (by rw [hT1]; rcases hn with ⟨_, e, h⟩ | ⟨_, e, h⟩; rw [if_pos h]; exact e; rw [if_neg h]; exact e)⟩
                      · have hqt30_1b := hqt30_1
                        replace hqt30_1 := Bool.eq_false_iff.1 hqt30_1
                        try simp only [ne_eq, decide_eq_true_eq, Bool.and_eq_true, Bool.or_eq_true, Bool.not_eq_true', decide_eq_false_iff_not] at hqt30_1
                        refine wp_seq_k (fun K19 hK19 => ?_)
                        refine wp_region_lit ?_
                        refine sqv hf (r_eq rfl rfl) rfl rfl rfl ?_; clear hf fa; intro fa hf
                        refine sqv hf (r_assign rfl) rfl rfl rfl ?_; clear hf fa; intro fa hf
                        apply wpList_nil
                        (try simp only [Exit.then, Exit.inBlock, ↓reduceIte, Nat.reduceEqDiff])
                        refine hK19 _ _ ?_
                        refine wp_cond_split (t := (decide (((op : Nat) : Int) = (47 : Int)))) (hf.ev rfl) (fun hqt30_3 => ?_) (fun hqt30_3 => ?_)
                        · have hqt30_3b := hqt30_3
                          try simp only [decide_eq_true_eq, Bool.and_eq_true, Bool.or_eq_true, Bool.not_eq_true', decide_eq_false_iff_not, ne_eq, Bool.not_eq_true] at hqt30_3
                          refine wp_skip ?_
                          (try simp only [Exit.then, Exit.inBlock, ↓reduceIte, Nat.reduceEqDiff])
                          refine hK17 _ _ ?_
                          refine wp_cond_true ((hf.ev rfl).trans (congrArg Value.bool (show (decide (((op : Nat) : Int) = (47 : Int))) = true from hqt30_3b))) ?_
                          refine wp_region_lit ?_
                          refine sqv hf (r_fa rfl Try.underlying141 (f := 0) (q := 0) rfl (by kernel_rfl) rfl) rfl rfl rfl ?_; clear hf fa; intro fa hf
                          refine sqn hf (d_storeK (T := 141) (v := (.int .i64 (2 : Int))) (cs := #[(.int .i64 nb), (.int .u8 tt), (.bool (decide ((54 : Int) ≤ ((op : Nat) : Int)))), (.bool false)]) (cs' := #[(.int .i64 (2 : Int)), (.int .u8 tt), (.bool (decide ((54 : Int) ≤ ((op : Nat) : Int)))), (.bool false)]) rfl rfl (by kernel_rfl) (by kernel_rfl) hkb3 (by kernel_rfl) (by kernel_rfl)) rfl rfl ?_; clear hf fa; rintro fa _ w18 ⟨hk16, hg13⟩ hf
                          replace hkb1 := blk_grown hkb1 hg13 (by omega)
                          replace hb := hb.trans (grown_below hg13 hb.size hBb3)
                          apply wpList_nil
                          (try simp only [Exit.then, Exit.inBlock, ↓reduceIte, Nat.reduceEqDiff])
                          exact hKC1 _ _ ⟨(2 : Int), tt, hf.sub ⟨rfl, rfl, rfl, trivial⟩, hb, hkb1, hk16, (by rw [hT2, if_neg (by have h0 := hqt22_1; have h1 := hqt22_3; have h2 := hqt22_5; have h3 := hqt22_7; have h4 := hqt22_9; have h5 := hqt22_11; have h6 := hqt30_1; have h7 := hqt30_3; unfold inA; omega), if_pos (by have h0 := hqt22_1; have h1 := hqt22_3; have h2 := hqt22_5; have h3 := hqt22_7; have h4 := hqt22_9; have h5 := hqt22_11; have h6 := hqt30_1; have h7 := hqt30_3; unfold inB; omega)]), (by rw [hT1]; rcases hn with ⟨_, e, h⟩ | ⟨_, e, h⟩; rw [if_pos h]; exact e; rw [if_neg h]; exact e)⟩
                        · have hqt30_3b := hqt30_3
                          replace hqt30_3 := Bool.eq_false_iff.1 hqt30_3
                          try simp only [ne_eq, decide_eq_true_eq, Bool.and_eq_true, Bool.or_eq_true, Bool.not_eq_true', decide_eq_false_iff_not] at hqt30_3
                          refine wp_seq_k (fun K20 hK20 => ?_)
                          refine wp_region_lit ?_
                          refine sqv hf (r_eq rfl rfl) rfl rfl rfl ?_; clear hf fa; intro fa hf
                          refine sqv hf (r_assign rfl) rfl rfl rfl ?_; clear hf fa; intro fa hf
                          apply wpList_nil
                          (try simp only [Exit.then, Exit.inBlock, ↓reduceIte, Nat.reduceEqDiff])
                          refine hK20 _ _ ?_
                          refine wp_cond_split (t := (decide (((op : Nat) : Int) = (50 : Int)))) (hf.ev rfl) (fun hqt30_5 => ?_) (fun hqt30_5 => ?_)
                          · have hqt30_5b := hqt30_5
                            try simp only [decide_eq_true_eq, Bool.and_eq_true, Bool.or_eq_true, Bool.not_eq_true', decide_eq_false_iff_not, ne_eq, Bool.not_eq_true] at hqt30_5
                            refine wp_skip ?_
                            (try simp only [Exit.then, Exit.inBlock, ↓reduceIte, Nat.reduceEqDiff])
                            refine hK17 _ _ ?_
                            refine wp_cond_true ((hf.ev rfl).trans (congrArg Value.bool (show (decide (((op : Nat) : Int) = (50 : Int))) = true from hqt30_5b))) ?_
                            refine wp_region_lit ?_
                            refine sqv hf (r_fa rfl Try.underlying141 (f := 0) (q := 0) rfl (by kernel_rfl) rfl) rfl rfl rfl ?_; clear hf fa; intro fa hf
                            refine sqn hf (d_storeK (T := 141) (v := (.int .i64 (2 : Int))) (cs := #[(.int .i64 nb), (.int .u8 tt), (.bool (decide ((54 : Int) ≤ ((op : Nat) : Int)))), (.bool false)]) (cs' := #[(.int .i64 (2 : Int)), (.int .u8 tt), (.bool (decide ((54 : Int) ≤ ((op : Nat) : Int)))), (.bool false)]) rfl rfl (by kernel_rfl) (by kernel_rfl) hkb3 (by kernel_rfl) (by kernel_rfl)) rfl rfl ?_; clear hf fa; rintro fa _ w19 ⟨hk17, hg14⟩ hf
                            replace hkb1 := blk_grown hkb1 hg14 (by omega)
                            replace hb := hb.trans (grown_below hg14 hb.size hBb3)
                            apply wpList_nil
                            (try simp only [Exit.then, Exit.inBlock, ↓reduceIte, Nat.reduceEqDiff])
                            exact hKC1 _ _ ⟨(2 : Int), tt, hf.sub ⟨rfl, rfl, rfl, trivial⟩, hb, hkb1, hk17, (by rw [hT2, if_neg (by have h0 := hqt22_1; have h1 := hqt22_3; have h2 := hqt22_5; have h3 := hqt22_7; have h4 := hqt22_9; have h5 := hqt22_11; have h6 := hqt30_1; have h7 := hqt30_3; have h8 := hqt30_5; unfold inA; omega), if_pos (by have h0 := hqt22_1; have h1 := hqt22_3; have h2 := hqt22_5; have h3 := hqt22_7; have h4 := hqt22_9; have h5 := hqt22_11; have h6 := hqt30_1; have h7 := hqt30_3; have h8 := hqt30_5; unfold inB; omega)]), (by rw [hT1]; rcases hn with ⟨_, e, h⟩ | ⟨_, e, h⟩; rw [if_pos h]; exact e; rw [if_neg h]; exact e)⟩
                          · have hqt30_5b := hqt30_5
                            replace hqt30_5 := Bool.eq_false_iff.1 hqt30_5
                            try simp only [ne_eq, decide_eq_true_eq, Bool.and_eq_true, Bool.or_eq_true, Bool.not_eq_true', decide_eq_false_iff_not] at hqt30_5
                            refine wp_seq_k (fun K21 hK21 => ?_)
                            refine wp_region_lit ?_
                            refine sqv hf (r_eq rfl rfl) rfl rfl rfl ?_; clear hf fa; intro fa hf
                            refine sqv hf (r_assign rfl) rfl rfl rfl ?_; clear hf fa; intro fa hf
                            apply wpList_nil
                            (try simp only [Exit.then, Exit.inBlock, ↓reduceIte, Nat.reduceEqDiff])
                            refine hK21 _ _ ?_
                            refine wp_cond_split (t := (decide (((op : Nat) : Int) = (51 : Int)))) (hf.ev rfl) (fun hqt30_7 => ?_) (fun hqt30_7 => ?_)
                            · have hqt30_7b := hqt30_7
                              try simp only [decide_eq_true_eq, Bool.and_eq_true, Bool.or_eq_true, Bool.not_eq_true', decide_eq_false_iff_not, ne_eq, Bool.not_eq_true] at hqt30_7
                              refine wp_skip ?_
                              (try simp only [Exit.then, Exit.inBlock, ↓reduceIte, Nat.reduceEqDiff])
                              refine hK17 _ _ ?_
                              refine wp_cond_true ((hf.ev rfl).trans (congrArg Value.bool (show (decide (((op : Nat) : Int) = (51 : Int))) = true from hqt30_7b))) ?_
                              refine wp_region_lit ?_
                              refine sqv hf (r_fa rfl Try.underlying141 (f := 0) (q := 0) rfl (by kernel_rfl) rfl) rfl rfl rfl ?_; clear hf fa; intro fa hf
                              refine sqn hf (d_storeK (T := 141) (v := (.int .i64 (2 : Int))) (cs := #[(.int .i64 nb), (.int .u8 tt), (.bool (decide ((54 : Int) ≤ ((op : Nat) : Int)))), (.bool false)]) (cs' := #[(.int .i64 (2 : Int)), (.int .u8 tt), (.bool (decide ((54 : Int) ≤ ((op : Nat) : Int)))), (.bool false)]) rfl rfl (by kernel_rfl) (by kernel_rfl) hkb3 (by kernel_rfl) (by kernel_rfl)) rfl rfl ?_; clear hf fa; rintro fa _ w20 ⟨hk18, hg15⟩ hf
                              replace hkb1 := blk_grown hkb1 hg15 (by omega)
                              replace hb := hb.trans (grown_below hg15 hb.size hBb3)
                              apply wpList_nil
                              (try simp only [Exit.then, Exit.inBlock, ↓reduceIte, Nat.reduceEqDiff])
                              exact hKC1 _ _ ⟨(2 : Int), tt, hf.sub ⟨rfl, rfl, rfl, trivial⟩, hb, hkb1, hk18, (by rw [hT2, if_neg (by have h0 := hqt22_1; have h1 := hqt22_3; have h2 := hqt22_5; have h3 := hqt22_7; have h4 := hqt22_9; have h5 := hqt22_11; have h6 := hqt30_1; have h7 := hqt30_3; have h8 := hqt30_5; have h9 := hqt30_7; unfold inA; omega), if_pos (by have h0 := hqt22_1; have h1 := hqt22_3; have h2 := hqt22_5; have h3 := hqt22_7; have h4 := hqt22_9; have h5 := hqt22_11; have h6 := hqt30_1; have h7 := hqt30_3; have h8 := hqt30_5; have h9 := hqt30_7; unfold inB; omega)]), (by rw [hT1]; rcases hn with ⟨_, e, h⟩ | ⟨_, e, h⟩; rw [if_pos h]; exact e; rw [if_neg h]; exact e)⟩
                            · have hqt30_7b := hqt30_7
                              replace hqt30_7 := Bool.eq_false_iff.1 hqt30_7
                              try simp only [ne_eq, decide_eq_true_eq, Bool.and_eq_true, Bool.or_eq_true, Bool.not_eq_true', decide_eq_false_iff_not] at hqt30_7
                              refine wp_seq_k (fun K22 hK22 => ?_)
                              refine wp_region_lit ?_
                              refine sqv hf (r_eq rfl rfl) rfl rfl rfl ?_; clear hf fa; intro fa hf
                              refine sqv hf (r_assign rfl) rfl rfl rfl ?_; clear hf fa; intro fa hf
                              apply wpList_nil
                              (try simp only [Exit.then, Exit.inBlock, ↓reduceIte, Nat.reduceEqDiff])
                              refine hK22 _ _ ?_
                              refine wp_cond_split (t := (decide (((op : Nat) : Int) = (59 : Int)))) (hf.ev rfl) (fun hqt30_9 => ?_) (fun hqt30_9 => ?_)
                              · have hqt30_9b := hqt30_9
                                try simp only [decide_eq_true_eq, Bool.and_eq_true, Bool.or_eq_true, Bool.not_eq_true', decide_eq_false_iff_not, ne_eq, Bool.not_eq_true] at hqt30_9
                                refine wp_skip ?_
                                (try simp only [Exit.then, Exit.inBlock, ↓reduceIte, Nat.reduceEqDiff])
                                refine hK17 _ _ ?_
                                refine wp_cond_true ((hf.ev rfl).trans (congrArg Value.bool (show (decide (((op : Nat) : Int) = (59 : Int))) = true from hqt30_9b))) ?_
                                refine wp_region_lit ?_
                                refine sqv hf (r_fa rfl Try.underlying141 (f := 0) (q := 0) rfl (by kernel_rfl) rfl) rfl rfl rfl ?_; clear hf fa; intro fa hf
                                refine sqn hf (d_storeK (T := 141) (v := (.int .i64 (2 : Int))) (cs := #[(.int .i64 nb), (.int .u8 tt), (.bool (decide ((54 : Int) ≤ ((op : Nat) : Int)))), (.bool false)]) (cs' := #[(.int .i64 (2 : Int)), (.int .u8 tt), (.bool (decide ((54 : Int) ≤ ((op : Nat) : Int)))), (.bool false)]) rfl rfl (by kernel_rfl) (by kernel_rfl) hkb3 (by kernel_rfl) (by kernel_rfl)) rfl rfl ?_; clear hf fa; rintro fa _ w21 ⟨hk19, hg16⟩ hf
                                replace hkb1 := blk_grown hkb1 hg16 (by omega)
                                replace hb := hb.trans (grown_below hg16 hb.size hBb3)
                                apply wpList_nil
                                (try simp only [Exit.then, Exit.inBlock, ↓reduceIte, Nat.reduceEqDiff])
                                exact hKC1 _ _ ⟨(2 : Int), tt, hf.sub ⟨rfl, rfl, rfl, trivial⟩, hb, hkb1, hk19, (by rw [hT2, if_neg (by have h0 := hqt22_1; have h1 := hqt22_3; have h2 := hqt22_5; have h3 := hqt22_7; have h4 := hqt22_9; have h5 := hqt22_11; have h6 := hqt30_1; have h7 := hqt30_3; have h8 := hqt30_5; have h9 := hqt30_7; have h10 := hqt30_9; unfold inA; omega), if_pos (by have h0 := hqt22_1; have h1 := hqt22_3; have h2 := hqt22_5; have h3 := hqt22_7; have h4 := hqt22_9; have h5 := hqt22_11; have h6 := hqt30_1; have h7 := hqt30_3; have h8 := hqt30_5; have h9 := hqt30_7; have h10 := hqt30_9; unfold inB; omega)]), (by rw [hT1]; rcases hn with ⟨_, e, h⟩ | ⟨_, e, h⟩; rw [if_pos h]; exact e; rw [if_neg h]; exact e)⟩
                              · have hqt30_9b := hqt30_9
                                replace hqt30_9 := Bool.eq_false_iff.1 hqt30_9
                                try simp only [ne_eq, decide_eq_true_eq, Bool.and_eq_true, Bool.or_eq_true, Bool.not_eq_true', decide_eq_false_iff_not] at hqt30_9
                                refine wp_region_lit ?_
                                refine sqv hf (r_eq rfl rfl) rfl rfl rfl ?_; clear hf fa; intro fa hf
                                refine sqv hf (r_assign rfl) rfl rfl rfl ?_; clear hf fa; intro fa hf
                                apply wpList_nil
                                (try simp only [Exit.then, Exit.inBlock, ↓reduceIte, Nat.reduceEqDiff])
                                refine hK17 _ _ ?_
                                refine wp_cond_split (t := (decide (((op : Nat) : Int) = (61 : Int)))) (hf.ev rfl) (fun hqt30_11 => ?_) (fun hqt30_11 => ?_)
                                · have hqt30_11b := hqt30_11
                                  try simp only [decide_eq_true_eq, Bool.and_eq_true, Bool.or_eq_true, Bool.not_eq_true', decide_eq_false_iff_not, ne_eq, Bool.not_eq_true] at hqt30_11
                                  refine wp_region_lit ?_
                                  refine sqv hf (r_fa rfl Try.underlying141 (f := 0) (q := 0) rfl (by kernel_rfl) rfl) rfl rfl rfl ?_; clear hf fa; intro fa hf
                                  refine sqn hf (d_storeK (T := 141) (v := (.int .i64 (2 : Int))) (cs := #[(.int .i64 nb), (.int .u8 tt), (.bool (decide ((54 : Int) ≤ ((op : Nat) : Int)))), (.bool false)]) (cs' := #[(.int .i64 (2 : Int)), (.int .u8 tt), (.bool (decide ((54 : Int) ≤ ((op : Nat) : Int)))), (.bool false)]) rfl rfl (by kernel_rfl) (by kernel_rfl) hkb3 (by kernel_rfl) (by kernel_rfl)) rfl rfl ?_; clear hf fa; rintro fa _ w22 ⟨hk20, hg17⟩ hf
                                  replace hkb1 := blk_grown hkb1 hg17 (by omega)
                                  replace hb := hb.trans (grown_below hg17 hb.size hBb3)
                                  apply wpList_nil
                                  (try simp only [Exit.then, Exit.inBlock, ↓reduceIte, Nat.reduceEqDiff])
                                  exact hKC1 _ _ ⟨(2 : Int), tt, hf.sub ⟨rfl, rfl, rfl, trivial⟩, hb, hkb1, hk20, (by rw [hT2, if_neg (by have h0 := hqt22_1; have h1 := hqt22_3; have h2 := hqt22_5; have h3 := hqt22_7; have h4 := hqt22_9; have h5 := hqt22_11; have h6 := hqt30_1; have h7 := hqt30_3; have h8 := hqt30_5; have h9 := hqt30_7; have h10 := hqt30_9; have h11 := hqt30_11; unfold inA; omega), if_pos (by have h0 := hqt22_1; have h1 := hqt22_3; have h2 := hqt22_5; have h3 := hqt22_7; have h4 := hqt22_9; have h5 := hqt22_11; have h6 := hqt30_1; have h7 := hqt30_3; have h8 := hqt30_5; have h9 := hqt30_7; have h10 := hqt30_9; have h11 := hqt30_11; unfold inB; omega)]), (by rw [hT1]; rcases hn with ⟨_, e, h⟩ | ⟨_, e, h⟩; rw [if_pos h]; exact e; rw [if_neg h]; exact e)⟩
                                · have hqt30_11b := hqt30_11
                                  replace hqt30_11 := Bool.eq_false_iff.1 hqt30_11
                                  try simp only [ne_eq, decide_eq_true_eq, Bool.and_eq_true, Bool.or_eq_true, Bool.not_eq_true', decide_eq_false_iff_not] at hqt30_11
                                  refine wp_seq_k (fun K23 hK23 => ?_)
                                  refine wp_seq_k (fun K24 hK24 => ?_)
                                  refine wp_region_lit ?_
                                  refine sqv hf (r_eq rfl rfl) rfl rfl rfl ?_; clear hf fa; intro fa hf
                                  refine sqv hf (r_assign rfl) rfl rfl rfl ?_; clear hf fa; intro fa hf
                                  apply wpList_nil
                                  (try simp only [Exit.then, Exit.inBlock, ↓reduceIte, Nat.reduceEqDiff])
                                  refine hK24 _ _ ?_
                                  refine wp_cond_split (t := (decide (((op : Nat) : Int) = (52 : Int)))) (hf.ev rfl) (fun hqt38_1 => ?_) (fun hqt38_1 => ?_)
                                  · have hqt38_1b := hqt38_1
                                    try simp only [decide_eq_true_eq, Bool.and_eq_true, Bool.or_eq_true, Bool.not_eq_true', decide_eq_false_iff_not, ne_eq, Bool.not_eq_true] at hqt38_1
                                    refine wp_skip ?_
                                    (try simp only [Exit.then, Exit.inBlock, ↓reduceIte, Nat.reduceEqDiff])
                                    refine hK23 _ _ ?_
                                    refine wp_cond_true ((hf.ev rfl).trans (congrArg Value.bool (show (decide (((op : Nat) : Int) = (52 : Int))) = true from hqt38_1b))) ?_
                                    refine wp_region_lit ?_
                                    refine sqv hf (r_fa rfl Try.underlying141 (f := 0) (q := 0) rfl (by kernel_rfl) rfl) rfl rfl rfl ?_; clear hf fa; intro fa hf
                                    refine sqn hf (d_storeK (T := 141) (v := (.int .i64 (4 : Int))) (cs := #[(.int .i64 nb), (.int .u8 tt), (.bool (decide ((54 : Int) ≤ ((op : Nat) : Int)))), (.bool false)]) (cs' := #[(.int .i64 (4 : Int)), (.int .u8 tt), (.bool (decide ((54 : Int) ≤ ((op : Nat) : Int)))), (.bool false)]) rfl rfl (by kernel_rfl) (by kernel_rfl) hkb3 (by kernel_rfl) (by kernel_rfl)) rfl rfl ?_; clear hf fa; rintro fa _ w23 ⟨hk21, hg18⟩ hf
                                    replace hkb1 := blk_grown hkb1 hg18 (by omega)
                                    replace hb := hb.trans (grown_below hg18 hb.size hBb3)
                                    apply wpList_nil
                                    (try simp only [Exit.then, Exit.inBlock, ↓reduceIte, Nat.reduceEqDiff])
                                    exact hKC1 _ _ ⟨(4 : Int), tt, hf.sub ⟨rfl, rfl, rfl, trivial⟩, hb, hkb1, hk21, (by rw [hT2, if_neg (by have h0 := hqt22_1; have h1 := hqt22_3; have h2 := hqt22_5; have h3 := hqt22_7; have h4 := hqt22_9; have h5 := hqt22_11; have h6 := hqt30_1; have h7 := hqt30_3; have h8 := hqt30_5; have h9 := hqt30_7; have h10 := hqt30_9; have h11 := hqt30_11; have h12 := hqt38_1; unfold inA; omega), if_neg (by have h0 := hqt22_1; have h1 := hqt22_3; have h2 := hqt22_5; have h3 := hqt22_7; have h4 := hqt22_9; have h5 := hqt22_11; have h6 := hqt30_1; have h7 := hqt30_3; have h8 := hqt30_5; have h9 := hqt30_7; have h10 := hqt30_9; have h11 := hqt30_11; have h12 := hqt38_1; unfold inB; omega), if_pos (by have h0 := hqt22_1; have h1 := hqt22_3; have h2 := hqt22_5; have h3 := hqt22_7; have h4 := hqt22_9; have h5 := hqt22_11; have h6 := hqt30_1; have h7 := hqt30_3; have h8 := hqt30_5; have h9 := hqt30_7; have h10 := hqt30_9; have h11 := hqt30_11; have h12 := hqt38_1; unfold inC; omega)]), (by rw [hT1]; rcases hn with ⟨_, e, h⟩ | ⟨_, e, h⟩; rw [if_pos h]; exact e; rw [if_neg h]; exact e)⟩
                                  · have hqt38_1b := hqt38_1
                                    replace hqt38_1 := Bool.eq_false_iff.1 hqt38_1
                                    try simp only [ne_eq, decide_eq_true_eq, Bool.and_eq_true, Bool.or_eq_true, Bool.not_eq_true', decide_eq_false_iff_not] at hqt38_1
                                    refine wp_seq_k (fun K25 hK25 => ?_)
                                    refine wp_region_lit ?_
                                    refine sqv hf (r_eq rfl rfl) rfl rfl rfl ?_; clear hf fa; intro fa hf
                                    refine sqv hf (r_assign rfl) rfl rfl rfl ?_; clear hf fa; intro fa hf
                                    apply wpList_nil
                                    (try simp only [Exit.then, Exit.inBlock, ↓reduceIte, Nat.reduceEqDiff])
                                    refine hK25 _ _ ?_
                                    refine wp_cond_split (t := (decide (((op : Nat) : Int) = (53 : Int)))) (hf.ev rfl) (fun hqt38_3 => ?_) (fun hqt38_3 => ?_)
                                    · have hqt38_3b := hqt38_3
                                      try simp only [decide_eq_true_eq, Bool.and_eq_true, Bool.or_eq_true, Bool.not_eq_true', decide_eq_false_iff_not, ne_eq, Bool.not_eq_true] at hqt38_3
                                      refine wp_skip ?_
                                      (try simp only [Exit.then, Exit.inBlock, ↓reduceIte, Nat.reduceEqDiff])
                                      refine hK23 _ _ ?_
                                      refine wp_cond_true ((hf.ev rfl).trans (congrArg Value.bool (show (decide (((op : Nat) : Int) = (53 : Int))) = true from hqt38_3b))) ?_
                                      refine wp_region_lit ?_
                                      refine sqv hf (r_fa rfl Try.underlying141 (f := 0) (q := 0) rfl (by kernel_rfl) rfl) rfl rfl rfl ?_; clear hf fa; intro fa hf
                                      refine sqn hf (d_storeK (T := 141) (v := (.int .i64 (4 : Int))) (cs := #[(.int .i64 nb), (.int .u8 tt), (.bool (decide ((54 : Int) ≤ ((op : Nat) : Int)))), (.bool false)]) (cs' := #[(.int .i64 (4 : Int)), (.int .u8 tt), (.bool (decide ((54 : Int) ≤ ((op : Nat) : Int)))), (.bool false)]) rfl rfl (by kernel_rfl) (by kernel_rfl) hkb3 (by kernel_rfl) (by kernel_rfl)) rfl rfl ?_; clear hf fa; rintro fa _ w24 ⟨hk22, hg19⟩ hf
                                      replace hkb1 := blk_grown hkb1 hg19 (by omega)
                                      replace hb := hb.trans (grown_below hg19 hb.size hBb3)
                                      apply wpList_nil
                                      (try simp only [Exit.then, Exit.inBlock, ↓reduceIte, Nat.reduceEqDiff])
                                      exact hKC1 _ _ ⟨(4 : Int), tt, hf.sub ⟨rfl, rfl, rfl, trivial⟩, hb, hkb1, hk22, (by rw [hT2, if_neg (by have h0 := hqt22_1; have h1 := hqt22_3; have h2 := hqt22_5; have h3 := hqt22_7; have h4 := hqt22_9; have h5 := hqt22_11; have h6 := hqt30_1; have h7 := hqt30_3; have h8 := hqt30_5; have h9 := hqt30_7; have h10 := hqt30_9; have h11 := hqt30_11; have h12 := hqt38_1; have h13 := hqt38_3; unfold inA; omega), if_neg (by have h0 := hqt22_1; have h1 := hqt22_3; have h2 := hqt22_5; have h3 := hqt22_7; have h4 := hqt22_9; have h5 := hqt22_11; have h6 := hqt30_1; have h7 := hqt30_3; have h8 := hqt30_5; have h9 := hqt30_7; have h10 := hqt30_9; have h11 := hqt30_11; have h12 := hqt38_1; have h13 := hqt38_3; unfold inB; omega), if_pos (by have h0 := hqt22_1; have h1 := hqt22_3; have h2 := hqt22_5; have h3 := hqt22_7; have h4 := hqt22_9; have h5 := hqt22_11; have h6 := hqt30_1; have h7 := hqt30_3; have h8 := hqt30_5; have h9 := hqt30_7; have h10 := hqt30_9; have h11 := hqt30_11; have h12 := hqt38_1; have h13 := hqt38_3; unfold inC; omega)]), (by rw [hT1]; rcases hn with ⟨_, e, h⟩ | ⟨_, e, h⟩; rw [if_pos h]; exact e; rw [if_neg h]; exact e)⟩
                                    · have hqt38_3b := hqt38_3
                                      replace hqt38_3 := Bool.eq_false_iff.1 hqt38_3
                                      try simp only [ne_eq, decide_eq_true_eq, Bool.and_eq_true, Bool.or_eq_true, Bool.not_eq_true', decide_eq_false_iff_not] at hqt38_3
                                      refine wp_region_lit ?_
                                      refine sqv hf (r_eq rfl rfl) rfl rfl rfl ?_; clear hf fa; intro fa hf
                                      refine sqv hf (r_assign rfl) rfl rfl rfl ?_; clear hf fa; intro fa hf
                                      apply wpList_nil
                                      (try simp only [Exit.then, Exit.inBlock, ↓reduceIte, Nat.reduceEqDiff])
                                      refine hK23 _ _ ?_
                                      refine wp_cond_split (t := (decide (((op : Nat) : Int) = (62 : Int)))) (hf.ev rfl) (fun hqt38_5 => ?_) (fun hqt38_5 => ?_)
                                      · have hqt38_5b := hqt38_5
                                        try simp only [decide_eq_true_eq, Bool.and_eq_true, Bool.or_eq_true, Bool.not_eq_true', decide_eq_false_iff_not, ne_eq, Bool.not_eq_true] at hqt38_5
                                        refine wp_region_lit ?_
                                        refine sqv hf (r_fa rfl Try.underlying141 (f := 0) (q := 0) rfl (by kernel_rfl) rfl) rfl rfl rfl ?_; clear hf fa; intro fa hf
                                        refine sqn hf (d_storeK (T := 141) (v := (.int .i64 (4 : Int))) (cs := #[(.int .i64 nb), (.int .u8 tt), (.bool (decide ((54 : Int) ≤ ((op : Nat) : Int)))), (.bool false)]) (cs' := #[(.int .i64 (4 : Int)), (.int .u8 tt), (.bool (decide ((54 : Int) ≤ ((op : Nat) : Int)))), (.bool false)]) rfl rfl (by kernel_rfl) (by kernel_rfl) hkb3 (by kernel_rfl) (by kernel_rfl)) rfl rfl ?_; clear hf fa; rintro fa _ w25 ⟨hk23, hg20⟩ hf
                                        replace hkb1 := blk_grown hkb1 hg20 (by omega)
                                        replace hb := hb.trans (grown_below hg20 hb.size hBb3)
                                        apply wpList_nil
                                        (try simp only [Exit.then, Exit.inBlock, ↓reduceIte, Nat.reduceEqDiff])
                                        exact hKC1 _ _ ⟨(4 : Int), tt, hf.sub ⟨rfl, rfl, rfl, trivial⟩, hb, hkb1, hk23, (by rw [hT2, if_neg (by have h0 := hqt22_1; have h1 := hqt22_3; have h2 := hqt22_5; have h3 := hqt22_7; have h4 := hqt22_9; have h5 := hqt22_11; have h6 := hqt30_1; have h7 := hqt30_3; have h8 := hqt30_5; have h9 := hqt30_7; have h10 := hqt30_9; have h11 := hqt30_11; have h12 := hqt38_1; have h13 := hqt38_3; have h14 := hqt38_5; unfold inA; omega), if_neg (by have h0 := hqt22_1; have h1 := hqt22_3; have h2 := hqt22_5; have h3 := hqt22_7; have h4 := hqt22_9; have h5 := hqt22_11; have h6 := hqt30_1; have h7 := hqt30_3; have h8 := hqt30_5; have h9 := hqt30_7; have h10 := hqt30_9; have h11 := hqt30_11; have h12 := hqt38_1; have h13 := hqt38_3; have h14 := hqt38_5; unfold inB; omega), if_pos (by have h0 := hqt22_1; have h1 := hqt22_3; have h2 := hqt22_5; have h3 := hqt22_7; have h4 := hqt22_9; have h5 := hqt22_11; have h6 := hqt30_1; have h7 := hqt30_3; have h8 := hqt30_5; have h9 := hqt30_7; have h10 := hqt30_9; have h11 := hqt30_11; have h12 := hqt38_1; have h13 := hqt38_3; have h14 := hqt38_5; unfold inC; omega)]), (by rw [hT1]; rcases hn with ⟨_, e, h⟩ | ⟨_, e, h⟩; rw [if_pos h]; exact e; rw [if_neg h]; exact e)⟩
                                      · have hqt38_5b := hqt38_5
                                        replace hqt38_5 := Bool.eq_false_iff.1 hqt38_5
                                        try simp only [ne_eq, decide_eq_true_eq, Bool.and_eq_true, Bool.or_eq_true, Bool.not_eq_true', decide_eq_false_iff_not] at hqt38_5
                                        refine wp_skip ?_
                                        (try simp only [Exit.then, Exit.inBlock, ↓reduceIte, Nat.reduceEqDiff])
                                        exact hKC1 _ _ ⟨nb, tt, hf.sub ⟨rfl, rfl, rfl, trivial⟩, hb, hkb1, hkb3, (by rw [hT2, if_neg (by have h0 := hqt22_1; have h1 := hqt22_3; have h2 := hqt22_5; have h3 := hqt22_7; have h4 := hqt22_9; have h5 := hqt22_11; have h6 := hqt30_1; have h7 := hqt30_3; have h8 := hqt30_5; have h9 := hqt30_7; have h10 := hqt30_9; have h11 := hqt30_11; have h12 := hqt38_1; have h13 := hqt38_3; have h14 := hqt38_5; unfold inA; omega), if_neg (by have h0 := hqt22_1; have h1 := hqt22_3; have h2 := hqt22_5; have h3 := hqt22_7; have h4 := hqt22_9; have h5 := hqt22_11; have h6 := hqt30_1; have h7 := hqt30_3; have h8 := hqt30_5; have h9 := hqt30_7; have h10 := hqt30_9; have h11 := hqt30_11; have h12 := hqt38_1; have h13 := hqt38_3; have h14 := hqt38_5; unfold inB; omega), if_neg (by have h0 := hqt22_1; have h1 := hqt22_3; have h2 := hqt22_5; have h3 := hqt22_7; have h4 := hqt22_9; have h5 := hqt22_11; have h6 := hqt30_1; have h7 := hqt30_3; have h8 := hqt30_5; have h9 := hqt30_7; have h10 := hqt30_9; have h11 := hqt30_11; have h12 := hqt38_1; have h13 := hqt38_3; have h14 := hqt38_5; unfold inC; omega)]; rcases hn with ⟨e, _, h⟩ | ⟨e, _, h⟩; rw [if_pos h]; exact e; rw [if_neg h]; exact e), (by rw [hT1]; rcases hn with ⟨_, e, h⟩ | ⟨_, e, h⟩; rw [if_pos h]; exact e; rw [if_neg h]; exact e)⟩
      · clear hf hb fa hk1 hk3 hk8
        rintro fa w26 ⟨nc, tt, hf, hb, hkb1, hkb3, hnc, htt⟩
        refine wp_seq_k (fun K26 hK26 => ?_)
        refine wp_region_lit ?_
        refine sqv hf (r_move rfl) rfl rfl rfl ?_; clear hf fa; intro fa hf
        refine sqv hf (r_eq rfl rfl) rfl rfl rfl ?_; clear hf fa; intro fa hf
        refine sqv hf (r_move rfl) rfl rfl rfl ?_; clear hf fa; intro fa hf
        refine sqgF (act := (!(decide (((op : Nat) : Int) = (44 : Int))))) (ag := true) (c := (decide (((op : Nat) : Int) = (44 : Int)))) (v := (.int .u8 ((op : Nat) : Int))) hf rfl rfl rfl (fun hact => (r_move rfl)) rfl rfl ?_; clear hf fa; intro fa hf
        refine sqgF (act := (!(decide (((op : Nat) : Int) = (44 : Int))))) (ag := true) (c := (decide (((op : Nat) : Int) = (44 : Int)))) (v := (.bool (decide (((op : Nat) : Int) = (46 : Int))))) hf rfl rfl rfl (fun hact => (r_eq (gb_ev hact rfl) rfl)) rfl rfl ?_; clear hf fa; intro fa hf
        refine sqv hf (r_pickO (b := (decide (((op : Nat) : Int) = (44 : Int)))) (e := (decide (((op : Nat) : Int) = (46 : Int)))) rfl rfl rfl) rfl rfl rfl ?_; clear hf fa; intro fa hf
        refine sqv hf (r_move rfl) rfl rfl rfl ?_; clear hf fa; intro fa hf
        refine sqgF (act := (!((decide (((op : Nat) : Int) = (44 : Int))) || (decide (((op : Nat) : Int) = (46 : Int)))))) (ag := true) (c := ((decide (((op : Nat) : Int) = (44 : Int))) || (decide (((op : Nat) : Int) = (46 : Int))))) (v := (.int .u8 ((op : Nat) : Int))) hf rfl rfl rfl (fun hact => (r_move rfl)) rfl rfl ?_; clear hf fa; intro fa hf
        refine sqgF (act := (!((decide (((op : Nat) : Int) = (44 : Int))) || (decide (((op : Nat) : Int) = (46 : Int)))))) (ag := true) (c := ((decide (((op : Nat) : Int) = (44 : Int))) || (decide (((op : Nat) : Int) = (46 : Int))))) (v := (.bool (decide (((op : Nat) : Int) = (48 : Int))))) hf rfl rfl rfl (fun hact => (r_eq (gb_ev hact rfl) rfl)) rfl rfl ?_; clear hf fa; intro fa hf
        refine sqv hf (r_pickO (b := ((decide (((op : Nat) : Int) = (44 : Int))) || (decide (((op : Nat) : Int) = (46 : Int))))) (e := (decide (((op : Nat) : Int) = (48 : Int)))) rfl rfl rfl) rfl rfl rfl ?_; clear hf fa; intro fa hf
        refine sqv hf (r_move rfl) rfl rfl rfl ?_; clear hf fa; intro fa hf
        refine sqgF (act := (!(((decide (((op : Nat) : Int) = (44 : Int))) || (decide (((op : Nat) : Int) = (46 : Int)))) || (decide (((op : Nat) : Int) = (48 : Int)))))) (ag := true) (c := (((decide (((op : Nat) : Int) = (44 : Int))) || (decide (((op : Nat) : Int) = (46 : Int)))) || (decide (((op : Nat) : Int) = (48 : Int))))) (v := (.int .u8 ((op : Nat) : Int))) hf rfl rfl rfl (fun hact => (r_move rfl)) rfl rfl ?_; clear hf fa; intro fa hf
        refine sqgF (act := (!(((decide (((op : Nat) : Int) = (44 : Int))) || (decide (((op : Nat) : Int) = (46 : Int)))) || (decide (((op : Nat) : Int) = (48 : Int)))))) (ag := true) (c := (((decide (((op : Nat) : Int) = (44 : Int))) || (decide (((op : Nat) : Int) = (46 : Int)))) || (decide (((op : Nat) : Int) = (48 : Int))))) (v := (.bool (decide (((op : Nat) : Int) = (50 : Int))))) hf rfl rfl rfl (fun hact => (r_eq (gb_ev hact rfl) rfl)) rfl rfl ?_; clear hf fa; intro fa hf
        refine sqv hf (r_pickO (b := (((decide (((op : Nat) : Int) = (44 : Int))) || (decide (((op : Nat) : Int) = (46 : Int)))) || (decide (((op : Nat) : Int) = (48 : Int))))) (e := (decide (((op : Nat) : Int) = (50 : Int)))) rfl rfl rfl) rfl rfl rfl ?_; clear hf fa; intro fa hf
        refine sqv hf (r_move rfl) rfl rfl rfl ?_; clear hf fa; intro fa hf
        refine sqgF (act := (!((((decide (((op : Nat) : Int) = (44 : Int))) || (decide (((op : Nat) : Int) = (46 : Int)))) || (decide (((op : Nat) : Int) = (48 : Int)))) || (decide (((op : Nat) : Int) = (50 : Int)))))) (ag := true) (c := ((((decide (((op : Nat) : Int) = (44 : Int))) || (decide (((op : Nat) : Int) = (46 : Int)))) || (decide (((op : Nat) : Int) = (48 : Int)))) || (decide (((op : Nat) : Int) = (50 : Int))))) (v := (.int .u8 ((op : Nat) : Int))) hf rfl rfl rfl (fun hact => (r_move rfl)) rfl rfl ?_; clear hf fa; intro fa hf
        refine sqgF (act := (!((((decide (((op : Nat) : Int) = (44 : Int))) || (decide (((op : Nat) : Int) = (46 : Int)))) || (decide (((op : Nat) : Int) = (48 : Int)))) || (decide (((op : Nat) : Int) = (50 : Int)))))) (ag := true) (c := ((((decide (((op : Nat) : Int) = (44 : Int))) || (decide (((op : Nat) : Int) = (46 : Int)))) || (decide (((op : Nat) : Int) = (48 : Int)))) || (decide (((op : Nat) : Int) = (50 : Int))))) (v := (.bool (decide (((op : Nat) : Int) = (52 : Int))))) hf rfl rfl rfl (fun hact => (r_eq (gb_ev hact rfl) rfl)) rfl rfl ?_; clear hf fa; intro fa hf
        refine sqv hf (r_pickO (b := ((((decide (((op : Nat) : Int) = (44 : Int))) || (decide (((op : Nat) : Int) = (46 : Int)))) || (decide (((op : Nat) : Int) = (48 : Int)))) || (decide (((op : Nat) : Int) = (50 : Int))))) (e := (decide (((op : Nat) : Int) = (52 : Int)))) rfl rfl rfl) rfl rfl rfl ?_; clear hf fa; intro fa hf
        refine sqv hf (r_fa rfl Try.underlying141 (f := 3) (q := 3) rfl (by kernel_rfl) rfl) rfl rfl rfl ?_; clear hf fa; intro fa hf
        refine sqn hf (d_storeK (T := 141) (v := (.bool (((((decide (((op : Nat) : Int) = (44 : Int))) || (decide (((op : Nat) : Int) = (46 : Int)))) || (decide (((op : Nat) : Int) = (48 : Int)))) || (decide (((op : Nat) : Int) = (50 : Int)))) || (decide (((op : Nat) : Int) = (52 : Int)))))) (cs := #[(.int .i64 nc), (.int .u8 tt), (.bool (decide ((54 : Int) ≤ ((op : Nat) : Int)))), (.bool false)]) (cs' := #[(.int .i64 nc), (.int .u8 tt), (.bool (decide ((54 : Int) ≤ ((op : Nat) : Int)))), (.bool (((((decide (((op : Nat) : Int) = (44 : Int))) || (decide (((op : Nat) : Int) = (46 : Int)))) || (decide (((op : Nat) : Int) = (48 : Int)))) || (decide (((op : Nat) : Int) = (50 : Int)))) || (decide (((op : Nat) : Int) = (52 : Int)))))]) rfl rfl (by kernel_rfl) (by kernel_rfl) hkb3 (by kernel_rfl) (by kernel_rfl)) rfl rfl ?_; clear hf fa; rintro fa _ w27 ⟨hk24, hg21⟩ hf
        replace hkb1 := blk_grown hkb1 hg21 (by omega)
        replace hb := hb.trans (grown_below hg21 hb.size hBb3)
        apply wpList_nil
        (try simp only [Exit.then, Exit.inBlock, ↓reduceIte, Nat.reduceEqDiff])
        refine hK26 _ _ ?_
        refine wp_seq_k (fun K27 hK27 => ?_)
        refine wp_region_lit ?_
        refine sqv hf (r_loadA (cs := [(.int .i64 nc), (.int .u8 tt), (.bool (decide ((54 : Int) ≤ ((op : Nat) : Int)))), (.bool (((((decide (((op : Nat) : Int) = (44 : Int))) || (decide (((op : Nat) : Int) = (46 : Int)))) || (decide (((op : Nat) : Int) = (48 : Int)))) || (decide (((op : Nat) : Int) = (50 : Int)))) || (decide (((op : Nat) : Int) = (52 : Int)))))]) rfl Try.underlying141 rfl (by kernel_rfl) (cellsAt_blk hk24)) rfl rfl rfl ?_; clear hf fa; intro fa hf
        refine sqn hf (d_storeK (T := 141) (v := (.agg #[(.int .i64 nc), (.int .u8 tt), (.bool (decide ((54 : Int) ≤ ((op : Nat) : Int)))), (.bool (((((decide (((op : Nat) : Int) = (44 : Int))) || (decide (((op : Nat) : Int) = (46 : Int)))) || (decide (((op : Nat) : Int) = (48 : Int)))) || (decide (((op : Nat) : Int) = (50 : Int)))) || (decide (((op : Nat) : Int) = (52 : Int)))))])) (cs := #[(.int .i64 (0 : Int)), (.int .u8 (0 : Int)), (.bool false), (.bool false)]) (cs' := #[(.int .i64 nc), (.int .u8 tt), (.bool (decide ((54 : Int) ≤ ((op : Nat) : Int)))), (.bool (((((decide (((op : Nat) : Int) = (44 : Int))) || (decide (((op : Nat) : Int) = (46 : Int)))) || (decide (((op : Nat) : Int) = (48 : Int)))) || (decide (((op : Nat) : Int) = (50 : Int)))) || (decide (((op : Nat) : Int) = (52 : Int)))))]) rfl rfl (by kernel_rfl) (by kernel_rfl) hkb1 (by kernel_rfl) (by kernel_rfl)) rfl rfl ?_; clear hf fa; rintro fa _ w28 ⟨hk25, hg22⟩ hf
        replace hk24 := blk_grown hk24 hg22 (by omega)
        replace hb := hb.trans (grown_below hg22 hb.size hBb1)
        refine sqv hf (r_assign rfl) rfl rfl rfl ?_; clear hf fa; intro fa hf
        apply wpList_nil
        (try simp only [Exit.then, Exit.inBlock, ↓reduceIte, Nat.reduceEqDiff])
        refine hK27 _ _ ?_
        refine wp_ret ?_
        (try simp only [Exit.then, Exit.inBlock])
        refine retCT hf rfl rfl hk25 Try.underlying141 rfl (by kernel_rfl) rfl ?_
        refine ⟨?_, hb⟩
        rw [hnc, htt, hT0, hT3, hT4]
    · have hqt18_1b := hqt18_1
      replace hqt18_1 := Bool.eq_false_iff.1 hqt18_1
      try simp only [ne_eq, decide_eq_true_eq, Bool.and_eq_true, Bool.or_eq_true, Bool.not_eq_true', decide_eq_false_iff_not] at hqt18_1
      refine wp_skip ?_
      (try simp only [Exit.then, Exit.inBlock, ↓reduceIte, Nat.reduceEqDiff])
      refine hK7 _ _ ?_
      refine wp_cut_k (fun fa wr => ∃ (nc : Int) (tt : Int), Fr 63 fa [(0, (.int .u8 ((op : Nat) : Int))), (2, (.pointer (some ⟨b1, 0, none⟩))), (5, (.pointer (some ⟨b3, 0, none⟩)))] ∧ Below w.heap.size w wr ∧ wr.heap[b1]? = some (.cells #[(.int .i64 (0 : Int)), (.int .u8 (0 : Int)), (.bool false), (.bool false)] 141 (0, 0)) ∧ wr.heap[b3]? = some (.cells #[(.int .i64 nc), (.int .u8 tt), (.bool (decide ((54 : Int) ≤ ((op : Nat) : Int)))), (.bool false)] 141 (0, 0)) ∧ (nc = (accT op).1) ∧ (tt = (accT op).2.1)) (fun KC3 hKC3 => ?_) ?_
      · skip
        refine wp_cut_k (fun fa wr => ∃ (nb : Int) (tt : Int), Fr 63 fa [(0, (.int .u8 ((op : Nat) : Int))), (2, (.pointer (some ⟨b1, 0, none⟩))), (4, (.pointer (some ⟨b2, 0, none⟩))), (5, (.pointer (some ⟨b3, 0, none⟩))), (21, (.int .u8 ((op : Nat) : Int)))] ∧ Below w.heap.size w wr ∧ wr.heap[b1]? = some (.cells #[(.int .i64 (0 : Int)), (.int .u8 (0 : Int)), (.bool false), (.bool false)] 141 (0, 0)) ∧ wr.heap[b3]? = some (.cells #[(.int .i64 nb), (.int .u8 tt), (.bool (decide ((54 : Int) ≤ ((op : Nat) : Int)))), (.bool false)] 141 (0, 0)) ∧ ((nb = 4 ∧ tt = 127 ∧ sbt (memP op).1 1 = 51) ∨ (nb = 8 ∧ tt = 126 ∧ ¬ sbt (memP op).1 1 = 51))) (fun KC4 hKC4 => ?_) ?_
        · skip
          refine wp_region_lit ?_
          refine sqv hf (r_move rfl) rfl rfl rfl ?_; clear hf fa; intro fa hf
          apply wpList_nil
          (try simp only [Exit.then, Exit.inBlock, ↓reduceIte, Nat.reduceEqDiff])
          exact hKC4 _ _ ⟨(8 : Int), (126 : Int), hf.sub ⟨rfl, rfl, rfl, rfl, rfl, trivial⟩, hb, hk1, hk6, (.inr ⟨rfl, rfl, by have h := hqt18_1; omega⟩)⟩
        · clear hf hb fa hk1 hk3 hk6
          rintro fa w29 ⟨nb, tt, hf, hb, hkb1, hkb3, hn⟩
          refine wp_block ?_
          refine wp_seq_k (fun K30 hK30 => ?_)
          refine wp_seq_k (fun K31 hK31 => ?_)
          refine wp_region_lit ?_
          refine sqv hf (r_eq rfl rfl) rfl rfl rfl ?_; clear hf fa; intro fa hf
          refine sqv hf (r_assign rfl) rfl rfl rfl ?_; clear hf fa; intro fa hf
          apply wpList_nil
          (try simp only [Exit.then, Exit.inBlock, ↓reduceIte, Nat.reduceEqDiff])
          refine hK31 _ _ ?_
          refine wp_cond_split (t := (decide (((op : Nat) : Int) = (44 : Int)))) (hf.ev rfl) (fun hqt22_12 => ?_) (fun hqt22_12 => ?_)
          · have hqt22_12b := hqt22_12
            try simp only [decide_eq_true_eq, Bool.and_eq_true, Bool.or_eq_true, Bool.not_eq_true', decide_eq_false_iff_not, ne_eq, Bool.not_eq_true] at hqt22_12
            refine wp_skip ?_
            (try simp only [Exit.then, Exit.inBlock, ↓reduceIte, Nat.reduceEqDiff])
            refine hK30 _ _ ?_
            refine wp_cond_true ((hf.ev rfl).trans (congrArg Value.bool (show (decide (((op : Nat) : Int) = (44 : Int))) = true from hqt22_12b))) ?_
            refine wp_region_lit ?_
            refine sqv hf (r_fa rfl Try.underlying141 (f := 0) (q := 0) rfl (by kernel_rfl) rfl) rfl rfl rfl ?_; clear hf fa; intro fa hf
            refine sqn hf (d_storeK (T := 141) (v := (.int .i64 (1 : Int))) (cs := #[(.int .i64 nb), (.int .u8 tt), (.bool (decide ((54 : Int) ≤ ((op : Nat) : Int)))), (.bool false)]) (cs' := #[(.int .i64 (1 : Int)), (.int .u8 tt), (.bool (decide ((54 : Int) ≤ ((op : Nat) : Int)))), (.bool false)]) rfl rfl (by kernel_rfl) (by kernel_rfl) hkb3 (by kernel_rfl) (by kernel_rfl)) rfl rfl ?_; clear hf fa; rintro fa _ w30 ⟨hk26, hg23⟩ hf
            replace hkb1 := blk_grown hkb1 hg23 (by omega)
            replace hb := hb.trans (grown_below hg23 hb.size hBb3)
            apply wpList_nil
            (try simp only [Exit.then, Exit.inBlock, ↓reduceIte, Nat.reduceEqDiff])
            exact hKC3 _ _ ⟨(1 : Int), tt, hf.sub ⟨rfl, rfl, rfl, trivial⟩, hb, hkb1, hk26, (by rw [hT2, if_pos (by have h0 := hqt22_12; unfold inA; omega)]), (by rw [hT1]; rcases hn with ⟨_, e, h⟩ | ⟨_, e, h⟩; rw [if_pos h]; exact e; rw [if_neg h]; exact e)⟩
          · have hqt22_12b := hqt22_12
            replace hqt22_12 := Bool.eq_false_iff.1 hqt22_12
            try simp only [ne_eq, decide_eq_true_eq, Bool.and_eq_true, Bool.or_eq_true, Bool.not_eq_true', decide_eq_false_iff_not] at hqt22_12
            refine wp_seq_k (fun K32 hK32 => ?_)
            refine wp_region_lit ?_
            refine sqv hf (r_eq rfl rfl) rfl rfl rfl ?_; clear hf fa; intro fa hf
            refine sqv hf (r_assign rfl) rfl rfl rfl ?_; clear hf fa; intro fa hf
            apply wpList_nil
            (try simp only [Exit.then, Exit.inBlock, ↓reduceIte, Nat.reduceEqDiff])
            refine hK32 _ _ ?_
            refine wp_cond_split (t := (decide (((op : Nat) : Int) = (45 : Int)))) (hf.ev rfl) (fun hqt22_14 => ?_) (fun hqt22_14 => ?_)
            · have hqt22_14b := hqt22_14
              try simp only [decide_eq_true_eq, Bool.and_eq_true, Bool.or_eq_true, Bool.not_eq_true', decide_eq_false_iff_not, ne_eq, Bool.not_eq_true] at hqt22_14
              refine wp_skip ?_
              (try simp only [Exit.then, Exit.inBlock, ↓reduceIte, Nat.reduceEqDiff])
              refine hK30 _ _ ?_
              refine wp_cond_true ((hf.ev rfl).trans (congrArg Value.bool (show (decide (((op : Nat) : Int) = (45 : Int))) = true from hqt22_14b))) ?_
              refine wp_region_lit ?_
              refine sqv hf (r_fa rfl Try.underlying141 (f := 0) (q := 0) rfl (by kernel_rfl) rfl) rfl rfl rfl ?_; clear hf fa; intro fa hf
              refine sqn hf (d_storeK (T := 141) (v := (.int .i64 (1 : Int))) (cs := #[(.int .i64 nb), (.int .u8 tt), (.bool (decide ((54 : Int) ≤ ((op : Nat) : Int)))), (.bool false)]) (cs' := #[(.int .i64 (1 : Int)), (.int .u8 tt), (.bool (decide ((54 : Int) ≤ ((op : Nat) : Int)))), (.bool false)]) rfl rfl (by kernel_rfl) (by kernel_rfl) hkb3 (by kernel_rfl) (by kernel_rfl)) rfl rfl ?_; clear hf fa; rintro fa _ w31 ⟨hk27, hg24⟩ hf
              replace hkb1 := blk_grown hkb1 hg24 (by omega)
              replace hb := hb.trans (grown_below hg24 hb.size hBb3)
              apply wpList_nil
              (try simp only [Exit.then, Exit.inBlock, ↓reduceIte, Nat.reduceEqDiff])
              exact hKC3 _ _ ⟨(1 : Int), tt, hf.sub ⟨rfl, rfl, rfl, trivial⟩, hb, hkb1, hk27, (by rw [hT2, if_pos (by have h0 := hqt22_12; have h1 := hqt22_14; unfold inA; omega)]), (by rw [hT1]; rcases hn with ⟨_, e, h⟩ | ⟨_, e, h⟩; rw [if_pos h]; exact e; rw [if_neg h]; exact e)⟩
            · have hqt22_14b := hqt22_14
              replace hqt22_14 := Bool.eq_false_iff.1 hqt22_14
              try simp only [ne_eq, decide_eq_true_eq, Bool.and_eq_true, Bool.or_eq_true, Bool.not_eq_true', decide_eq_false_iff_not] at hqt22_14
              refine wp_seq_k (fun K33 hK33 => ?_)
              refine wp_region_lit ?_
              refine sqv hf (r_eq rfl rfl) rfl rfl rfl ?_; clear hf fa; intro fa hf
              refine sqv hf (r_assign rfl) rfl rfl rfl ?_; clear hf fa; intro fa hf
              apply wpList_nil
              (try simp only [Exit.then, Exit.inBlock, ↓reduceIte, Nat.reduceEqDiff])
              refine hK33 _ _ ?_
              refine wp_cond_split (t := (decide (((op : Nat) : Int) = (48 : Int)))) (hf.ev rfl) (fun hqt22_16 => ?_) (fun hqt22_16 => ?_)
              · have hqt22_16b := hqt22_16
                try simp only [decide_eq_true_eq, Bool.and_eq_true, Bool.or_eq_true, Bool.not_eq_true', decide_eq_false_iff_not, ne_eq, Bool.not_eq_true] at hqt22_16
                refine wp_skip ?_
                (try simp only [Exit.then, Exit.inBlock, ↓reduceIte, Nat.reduceEqDiff])
                refine hK30 _ _ ?_
                refine wp_cond_true ((hf.ev rfl).trans (congrArg Value.bool (show (decide (((op : Nat) : Int) = (48 : Int))) = true from hqt22_16b))) ?_
                refine wp_region_lit ?_
                refine sqv hf (r_fa rfl Try.underlying141 (f := 0) (q := 0) rfl (by kernel_rfl) rfl) rfl rfl rfl ?_; clear hf fa; intro fa hf
                refine sqn hf (d_storeK (T := 141) (v := (.int .i64 (1 : Int))) (cs := #[(.int .i64 nb), (.int .u8 tt), (.bool (decide ((54 : Int) ≤ ((op : Nat) : Int)))), (.bool false)]) (cs' := #[(.int .i64 (1 : Int)), (.int .u8 tt), (.bool (decide ((54 : Int) ≤ ((op : Nat) : Int)))), (.bool false)]) rfl rfl (by kernel_rfl) (by kernel_rfl) hkb3 (by kernel_rfl) (by kernel_rfl)) rfl rfl ?_; clear hf fa; rintro fa _ w32 ⟨hk28, hg25⟩ hf
                replace hkb1 := blk_grown hkb1 hg25 (by omega)
                replace hb := hb.trans (grown_below hg25 hb.size hBb3)
                apply wpList_nil
                (try simp only [Exit.then, Exit.inBlock, ↓reduceIte, Nat.reduceEqDiff])
                exact hKC3 _ _ ⟨(1 : Int), tt, hf.sub ⟨rfl, rfl, rfl, trivial⟩, hb, hkb1, hk28, (by rw [hT2, if_pos (by have h0 := hqt22_12; have h1 := hqt22_14; have h2 := hqt22_16; unfold inA; omega)]), (by rw [hT1]; rcases hn with ⟨_, e, h⟩ | ⟨_, e, h⟩; rw [if_pos h]; exact e; rw [if_neg h]; exact e)⟩
              · have hqt22_16b := hqt22_16
                replace hqt22_16 := Bool.eq_false_iff.1 hqt22_16
                try simp only [ne_eq, decide_eq_true_eq, Bool.and_eq_true, Bool.or_eq_true, Bool.not_eq_true', decide_eq_false_iff_not] at hqt22_16
                refine wp_seq_k (fun K34 hK34 => ?_)
                refine wp_region_lit ?_
                refine sqv hf (r_eq rfl rfl) rfl rfl rfl ?_; clear hf fa; intro fa hf
                refine sqv hf (r_assign rfl) rfl rfl rfl ?_; clear hf fa; intro fa hf
                apply wpList_nil
                (try simp only [Exit.then, Exit.inBlock, ↓reduceIte, Nat.reduceEqDiff])
                refine hK34 _ _ ?_
                refine wp_cond_split (t := (decide (((op : Nat) : Int) = (49 : Int)))) (hf.ev rfl) (fun hqt22_18 => ?_) (fun hqt22_18 => ?_)
                · have hqt22_18b := hqt22_18
                  try simp only [decide_eq_true_eq, Bool.and_eq_true, Bool.or_eq_true, Bool.not_eq_true', decide_eq_false_iff_not, ne_eq, Bool.not_eq_true] at hqt22_18
                  refine wp_skip ?_
                  (try simp only [Exit.then, Exit.inBlock, ↓reduceIte, Nat.reduceEqDiff])
                  refine hK30 _ _ ?_
                  refine wp_cond_true ((hf.ev rfl).trans (congrArg Value.bool (show (decide (((op : Nat) : Int) = (49 : Int))) = true from hqt22_18b))) ?_
                  refine wp_region_lit ?_
                  refine sqv hf (r_fa rfl Try.underlying141 (f := 0) (q := 0) rfl (by kernel_rfl) rfl) rfl rfl rfl ?_; clear hf fa; intro fa hf
                  refine sqn hf (d_storeK (T := 141) (v := (.int .i64 (1 : Int))) (cs := #[(.int .i64 nb), (.int .u8 tt), (.bool (decide ((54 : Int) ≤ ((op : Nat) : Int)))), (.bool false)]) (cs' := #[(.int .i64 (1 : Int)), (.int .u8 tt), (.bool (decide ((54 : Int) ≤ ((op : Nat) : Int)))), (.bool false)]) rfl rfl (by kernel_rfl) (by kernel_rfl) hkb3 (by kernel_rfl) (by kernel_rfl)) rfl rfl ?_; clear hf fa; rintro fa _ w33 ⟨hk29, hg26⟩ hf
                  replace hkb1 := blk_grown hkb1 hg26 (by omega)
                  replace hb := hb.trans (grown_below hg26 hb.size hBb3)
                  apply wpList_nil
                  (try simp only [Exit.then, Exit.inBlock, ↓reduceIte, Nat.reduceEqDiff])
                  exact hKC3 _ _ ⟨(1 : Int), tt, hf.sub ⟨rfl, rfl, rfl, trivial⟩, hb, hkb1, hk29, (by rw [hT2, if_pos (by have h0 := hqt22_12; have h1 := hqt22_14; have h2 := hqt22_16; have h3 := hqt22_18; unfold inA; omega)]), (by rw [hT1]; rcases hn with ⟨_, e, h⟩ | ⟨_, e, h⟩; rw [if_pos h]; exact e; rw [if_neg h]; exact e)⟩
                · have hqt22_18b := hqt22_18
                  replace hqt22_18 := Bool.eq_false_iff.1 hqt22_18
                  try simp only [ne_eq, decide_eq_true_eq, Bool.and_eq_true, Bool.or_eq_true, Bool.not_eq_true', decide_eq_false_iff_not] at hqt22_18
                  refine wp_seq_k (fun K35 hK35 => ?_)
                  refine wp_region_lit ?_
                  refine sqv hf (r_eq rfl rfl) rfl rfl rfl ?_; clear hf fa; intro fa hf
                  refine sqv hf (r_assign rfl) rfl rfl rfl ?_; clear hf fa; intro fa hf
                  apply wpList_nil
                  (try simp only [Exit.then, Exit.inBlock, ↓reduceIte, Nat.reduceEqDiff])
                  refine hK35 _ _ ?_
                  refine wp_cond_split (t := (decide (((op : Nat) : Int) = (58 : Int)))) (hf.ev rfl) (fun hqt22_20 => ?_) (fun hqt22_20 => ?_)
                  · have hqt22_20b := hqt22_20
                    try simp only [decide_eq_true_eq, Bool.and_eq_true, Bool.or_eq_true, Bool.not_eq_true', decide_eq_false_iff_not, ne_eq, Bool.not_eq_true] at hqt22_20
                    refine wp_skip ?_
                    (try simp only [Exit.then, Exit.inBlock, ↓reduceIte, Nat.reduceEqDiff])
                    refine hK30 _ _ ?_
                    refine wp_cond_true ((hf.ev rfl).trans (congrArg Value.bool (show (decide (((op : Nat) : Int) = (58 : Int))) = true from hqt22_20b))) ?_
                    refine wp_region_lit ?_
                    refine sqv hf (r_fa rfl Try.underlying141 (f := 0) (q := 0) rfl (by kernel_rfl) rfl) rfl rfl rfl ?_; clear hf fa; intro fa hf
                    refine sqn hf (d_storeK (T := 141) (v := (.int .i64 (1 : Int))) (cs := #[(.int .i64 nb), (.int .u8 tt), (.bool (decide ((54 : Int) ≤ ((op : Nat) : Int)))), (.bool false)]) (cs' := #[(.int .i64 (1 : Int)), (.int .u8 tt), (.bool (decide ((54 : Int) ≤ ((op : Nat) : Int)))), (.bool false)]) rfl rfl (by kernel_rfl) (by kernel_rfl) hkb3 (by kernel_rfl) (by kernel_rfl)) rfl rfl ?_; clear hf fa; rintro fa _ w34 ⟨hk30, hg27⟩ hf
                    replace hkb1 := blk_grown hkb1 hg27 (by omega)
                    replace hb := hb.trans (grown_below hg27 hb.size hBb3)
                    apply wpList_nil
                    (try simp only [Exit.then, Exit.inBlock, ↓reduceIte, Nat.reduceEqDiff])
                    exact hKC3 _ _ ⟨(1 : Int), tt, hf.sub ⟨rfl, rfl, rfl, trivial⟩, hb, hkb1, hk30, (by rw [hT2, if_pos (by have h0 := hqt22_12; have h1 := hqt22_14; have h2 := hqt22_16; have h3 := hqt22_18; have h4 := hqt22_20; unfold inA; omega)]), (by rw [hT1]; rcases hn with ⟨_, e, h⟩ | ⟨_, e, h⟩; rw [if_pos h]; exact e; rw [if_neg h]; exact e)⟩
                  · have hqt22_20b := hqt22_20
                    replace hqt22_20 := Bool.eq_false_iff.1 hqt22_20
                    try simp only [ne_eq, decide_eq_true_eq, Bool.and_eq_true, Bool.or_eq_true, Bool.not_eq_true', decide_eq_false_iff_not] at hqt22_20
                    refine wp_region_lit ?_
                    refine sqv hf (r_eq rfl rfl) rfl rfl rfl ?_; clear hf fa; intro fa hf
                    refine sqv hf (r_assign rfl) rfl rfl rfl ?_; clear hf fa; intro fa hf
                    apply wpList_nil
                    (try simp only [Exit.then, Exit.inBlock, ↓reduceIte, Nat.reduceEqDiff])
                    refine hK30 _ _ ?_
                    refine wp_cond_split (t := (decide (((op : Nat) : Int) = (60 : Int)))) (hf.ev rfl) (fun hqt22_22 => ?_) (fun hqt22_22 => ?_)
                    · have hqt22_22b := hqt22_22
                      try simp only [decide_eq_true_eq, Bool.and_eq_true, Bool.or_eq_true, Bool.not_eq_true', decide_eq_false_iff_not, ne_eq, Bool.not_eq_true] at hqt22_22
                      refine wp_region_lit ?_
                      refine sqv hf (r_fa rfl Try.underlying141 (f := 0) (q := 0) rfl (by kernel_rfl) rfl) rfl rfl rfl ?_; clear hf fa; intro fa hf
                      refine sqn hf (d_storeK (T := 141) (v := (.int .i64 (1 : Int))) (cs := #[(.int .i64 nb), (.int .u8 tt), (.bool (decide ((54 : Int) ≤ ((op : Nat) : Int)))), (.bool false)]) (cs' := #[(.int .i64 (1 : Int)), (.int .u8 tt), (.bool (decide ((54 : Int) ≤ ((op : Nat) : Int)))), (.bool false)]) rfl rfl (by kernel_rfl) (by kernel_rfl) hkb3 (by kernel_rfl) (by kernel_rfl)) rfl rfl ?_; clear hf fa; rintro fa _ w35 ⟨hk31, hg28⟩ hf
                      replace hkb1 := blk_grown hkb1 hg28 (by omega)
                      replace hb := hb.trans (grown_below hg28 hb.size hBb3)
                      apply wpList_nil
                      (try simp only [Exit.then, Exit.inBlock, ↓reduceIte, Nat.reduceEqDiff])
                      exact hKC3 _ _ ⟨(1 : Int), tt, hf.sub ⟨rfl, rfl, rfl, trivial⟩, hb, hkb1, hk31, (by rw [hT2, if_pos (by have h0 := hqt22_12; have h1 := hqt22_14; have h2 := hqt22_16; have h3 := hqt22_18; have h4 := hqt22_20; have h5 := hqt22_22; unfold inA; omega)]), (by rw [hT1]; rcases hn with ⟨_, e, h⟩ | ⟨_, e, h⟩; rw [if_pos h]; exact e; rw [if_neg h]; exact e)⟩
                    · have hqt22_22b := hqt22_22
                      replace hqt22_22 := Bool.eq_false_iff.1 hqt22_22
                      try simp only [ne_eq, decide_eq_true_eq, Bool.and_eq_true, Bool.or_eq_true, Bool.not_eq_true', decide_eq_false_iff_not] at hqt22_22
                      refine wp_seq_k (fun K36 hK36 => ?_)
                      refine wp_seq_k (fun K37 hK37 => ?_)
                      refine wp_region_lit ?_
                      refine sqv hf (r_eq rfl rfl) rfl rfl rfl ?_; clear hf fa; intro fa hf
                      refine sqv hf (r_assign rfl) rfl rfl rfl ?_; clear hf fa; intro fa hf
                      apply wpList_nil
                      (try simp only [Exit.then, Exit.inBlock, ↓reduceIte, Nat.reduceEqDiff])
                      refine hK37 _ _ ?_
                      refine wp_cond_split (t := (decide (((op : Nat) : Int) = (46 : Int)))) (hf.ev rfl) (fun hqt30_12 => ?_) (fun hqt30_12 => ?_)
                      · have hqt30_12b := hqt30_12
                        try simp only [decide_eq_true_eq, Bool.and_eq_true, Bool.or_eq_true, Bool.not_eq_true', decide_eq_false_iff_not, ne_eq, Bool.not_eq_true] at hqt30_12
                        refine wp_skip ?_
                        (try simp only [Exit.then, Exit.inBlock, ↓reduceIte, Nat.reduceEqDiff])
                        refine hK36 _ _ ?_
                        refine wp_cond_true ((hf.ev rfl).trans (congrArg Value.bool (show (decide (((op : Nat) : Int) = (46 : Int))) = true from hqt30_12b))) ?_
                        refine wp_region_lit ?_
                        refine sqv hf (r_fa rfl Try.underlying141 (f := 0) (q := 0) rfl (by kernel_rfl) rfl) rfl rfl rfl ?_; clear hf fa; intro fa hf
                        refine sqn hf (d_storeK (T := 141) (v := (.int .i64 (2 : Int))) (cs := #[(.int .i64 nb), (.int .u8 tt), (.bool (decide ((54 : Int) ≤ ((op : Nat) : Int)))), (.bool false)]) (cs' := #[(.int .i64 (2 : Int)), (.int .u8 tt), (.bool (decide ((54 : Int) ≤ ((op : Nat) : Int)))), (.bool false)]) rfl rfl (by kernel_rfl) (by kernel_rfl) hkb3 (by kernel_rfl) (by kernel_rfl)) rfl rfl ?_; clear hf fa; rintro fa _ w36 ⟨hk32, hg29⟩ hf
                        replace hkb1 := blk_grown hkb1 hg29 (by omega)
                        replace hb := hb.trans (grown_below hg29 hb.size hBb3)
                        apply wpList_nil
                        (try simp only [Exit.then, Exit.inBlock, ↓reduceIte, Nat.reduceEqDiff])
                        exact hKC3 _ _ ⟨(2 : Int), tt, hf.sub ⟨rfl, rfl, rfl, trivial⟩, hb, hkb1, hk32, (by rw [hT2, if_neg (by have h0 := hqt22_12; have h1 := hqt22_14; have h2 := hqt22_16; have h3 := hqt22_18; have h4 := hqt22_20; have h5 := hqt22_22; have h6 := hqt30_12; unfold inA; omega), if_pos (by have h0 := hqt22_12; have h1 := hqt22_14; have h2 := hqt22_16; have h3 := hqt22_18; have h4 := hqt22_20; have h5 := hqt22_22; have h6 := hqt30_12; unfold inB; omega)]), (by rw [hT1]; rcases hn with ⟨_, e, h⟩ | ⟨_, e, h⟩; rw [if_pos h]; exact e; rw [if_neg h]; exact e)⟩
                      · have hqt30_12b := hqt30_12
                        replace hqt30_12 := Bool.eq_false_iff.1 hqt30_12
                        try simp only [ne_eq, decide_eq_true_eq, Bool.and_eq_true, Bool.or_eq_true, Bool.not_eq_true', decide_eq_false_iff_not] at hqt30_12
                        refine wp_seq_k (fun K38 hK38 => ?_)
                        refine wp_region_lit ?_
                        refine sqv hf (r_eq rfl rfl) rfl rfl rfl ?_; clear hf fa; intro fa hf
                        refine sqv hf (r_assign rfl) rfl rfl rfl ?_; clear hf fa; intro fa hf
                        apply wpList_nil
                        (try simp only [Exit.then, Exit.inBlock, ↓reduceIte, Nat.reduceEqDiff])
                        refine hK38 _ _ ?_
                        refine wp_cond_split (t := (decide (((op : Nat) : Int) = (47 : Int)))) (hf.ev rfl) (fun hqt30_14 => ?_) (fun hqt30_14 => ?_)
                        · have hqt30_14b := hqt30_14
                          try simp only [decide_eq_true_eq, Bool.and_eq_true, Bool.or_eq_true, Bool.not_eq_true', decide_eq_false_iff_not, ne_eq, Bool.not_eq_true] at hqt30_14
                          refine wp_skip ?_
                          (try simp only [Exit.then, Exit.inBlock, ↓reduceIte, Nat.reduceEqDiff])
                          refine hK36 _ _ ?_
                          refine wp_cond_true ((hf.ev rfl).trans (congrArg Value.bool (show (decide (((op : Nat) : Int) = (47 : Int))) = true from hqt30_14b))) ?_
                          refine wp_region_lit ?_
                          refine sqv hf (r_fa rfl Try.underlying141 (f := 0) (q := 0) rfl (by kernel_rfl) rfl) rfl rfl rfl ?_; clear hf fa; intro fa hf
                          refine sqn hf (d_storeK (T := 141) (v := (.int .i64 (2 : Int))) (cs := #[(.int .i64 nb), (.int .u8 tt), (.bool (decide ((54 : Int) ≤ ((op : Nat) : Int)))), (.bool false)]) (cs' := #[(.int .i64 (2 : Int)), (.int .u8 tt), (.bool (decide ((54 : Int) ≤ ((op : Nat) : Int)))), (.bool false)]) rfl rfl (by kernel_rfl) (by kernel_rfl) hkb3 (by kernel_rfl) (by kernel_rfl)) rfl rfl ?_; clear hf fa; rintro fa _ w37 ⟨hk33, hg30⟩ hf
                          replace hkb1 := blk_grown hkb1 hg30 (by omega)
                          replace hb := hb.trans (grown_below hg30 hb.size hBb3)
                          apply wpList_nil
                          (try simp only [Exit.then, Exit.inBlock, ↓reduceIte, Nat.reduceEqDiff])
                          exact hKC3 _ _ ⟨(2 : Int), tt, hf.sub ⟨rfl, rfl, rfl, trivial⟩, hb, hkb1, hk33, (by rw [hT2, if_neg (by have h0 := hqt22_12; have h1 := hqt22_14; have h2 := hqt22_16; have h3 := hqt22_18; have h4 := hqt22_20; have h5 := hqt22_22; have h6 := hqt30_12; have h7 := hqt30_14; unfold inA; omega), if_pos (by have h0 := hqt22_12; have h1 := hqt22_14; have h2 := hqt22_16; have h3 := hqt22_18; have h4 := hqt22_20; have h5 := hqt22_22; have h6 := hqt30_12; have h7 := hqt30_14; unfold inB; omega)]), (by rw [hT1]; rcases hn with ⟨_, e, h⟩ | ⟨_, e, h⟩; rw [if_pos h]; exact e; rw [if_neg h]; exact e)⟩
                        · have hqt30_14b := hqt30_14
                          replace hqt30_14 := Bool.eq_false_iff.1 hqt30_14
                          try simp only [ne_eq, decide_eq_true_eq, Bool.and_eq_true, Bool.or_eq_true, Bool.not_eq_true', decide_eq_false_iff_not] at hqt30_14
                          refine wp_seq_k (fun K39 hK39 => ?_)
                          refine wp_region_lit ?_
                          refine sqv hf (r_eq rfl rfl) rfl rfl rfl ?_; clear hf fa; intro fa hf
                          refine sqv hf (r_assign rfl) rfl rfl rfl ?_; clear hf fa; intro fa hf
                          apply wpList_nil
                          (try simp only [Exit.then, Exit.inBlock, ↓reduceIte, Nat.reduceEqDiff])
                          refine hK39 _ _ ?_
                          refine wp_cond_split (t := (decide (((op : Nat) : Int) = (50 : Int)))) (hf.ev rfl) (fun hqt30_16 => ?_) (fun hqt30_16 => ?_)
                          · have hqt30_16b := hqt30_16
                            try simp only [decide_eq_true_eq, Bool.and_eq_true, Bool.or_eq_true, Bool.not_eq_true', decide_eq_false_iff_not, ne_eq, Bool.not_eq_true] at hqt30_16
                            refine wp_skip ?_
                            (try simp only [Exit.then, Exit.inBlock, ↓reduceIte, Nat.reduceEqDiff])
                            refine hK36 _ _ ?_
                            refine wp_cond_true ((hf.ev rfl).trans (congrArg Value.bool (show (decide (((op : Nat) : Int) = (50 : Int))) = true from hqt30_16b))) ?_
                            refine wp_region_lit ?_
                            refine sqv hf (r_fa rfl Try.underlying141 (f := 0) (q := 0) rfl (by kernel_rfl) rfl) rfl rfl rfl ?_; clear hf fa; intro fa hf
                            refine sqn hf (d_storeK (T := 141) (v := (.int .i64 (2 : Int))) (cs := #[(.int .i64 nb), (.int .u8 tt), (.bool (decide ((54 : Int) ≤ ((op : Nat) : Int)))), (.bool false)]) (cs' := #[(.int .i64 (2 : Int)), (.int .u8 tt), (.bool (decide ((54 : Int) ≤ ((op : Nat) : Int)))), (.bool false)]) rfl rfl (by kernel_rfl) (by kernel_rfl) hkb3 (by kernel_rfl) (by kernel_rfl)) rfl rfl ?_; clear hf fa; rintro fa _ w38 ⟨hk34, hg31⟩ hf
                            replace hkb1 := blk_grown hkb1 hg31 (by omega)
                            replace hb := hb.trans (grown_below hg31 hb.size hBb3)
                            apply wpList_nil
                            (try simp only [Exit.then, Exit.inBlock, ↓reduceIte, Nat.reduceEqDiff])
                            exact hKC3 _ _ ⟨(2 : Int), tt, hf.sub ⟨rfl, rfl, rfl, trivial⟩, hb, hkb1, hk34, (by rw [hT2, if_neg (by have h0 := hqt22_12; have h1 := hqt22_14; have h2 := hqt22_16; have h3 := hqt22_18; have h4 := hqt22_20; have h5 := hqt22_22; have h6 := hqt30_12; have h7 := hqt30_14; have h8 := hqt30_16; unfold inA; omega), if_pos (by have h0 := hqt22_12; have h1 := hqt22_14; have h2 := hqt22_16; have h3 := hqt22_18; have h4 := hqt22_20; have h5 := hqt22_22; have h6 := hqt30_12; have h7 := hqt30_14; have h8 := hqt30_16; unfold inB; omega)]), (by rw [hT1]; rcases hn with ⟨_, e, h⟩ | ⟨_, e, h⟩; rw [if_pos h]; exact e; rw [if_neg h]; exact e)⟩
                          · have hqt30_16b := hqt30_16
                            replace hqt30_16 := Bool.eq_false_iff.1 hqt30_16
                            try simp only [ne_eq, decide_eq_true_eq, Bool.and_eq_true, Bool.or_eq_true, Bool.not_eq_true', decide_eq_false_iff_not] at hqt30_16
                            refine wp_seq_k (fun K40 hK40 => ?_)
                            refine wp_region_lit ?_
                            refine sqv hf (r_eq rfl rfl) rfl rfl rfl ?_; clear hf fa; intro fa hf
                            refine sqv hf (r_assign rfl) rfl rfl rfl ?_; clear hf fa; intro fa hf
                            apply wpList_nil
                            (try simp only [Exit.then, Exit.inBlock, ↓reduceIte, Nat.reduceEqDiff])
                            refine hK40 _ _ ?_
                            refine wp_cond_split (t := (decide (((op : Nat) : Int) = (51 : Int)))) (hf.ev rfl) (fun hqt30_18 => ?_) (fun hqt30_18 => ?_)
                            · have hqt30_18b := hqt30_18
                              try simp only [decide_eq_true_eq, Bool.and_eq_true, Bool.or_eq_true, Bool.not_eq_true', decide_eq_false_iff_not, ne_eq, Bool.not_eq_true] at hqt30_18
                              refine wp_skip ?_
                              (try simp only [Exit.then, Exit.inBlock, ↓reduceIte, Nat.reduceEqDiff])
                              refine hK36 _ _ ?_
                              refine wp_cond_true ((hf.ev rfl).trans (congrArg Value.bool (show (decide (((op : Nat) : Int) = (51 : Int))) = true from hqt30_18b))) ?_
                              refine wp_region_lit ?_
                              refine sqv hf (r_fa rfl Try.underlying141 (f := 0) (q := 0) rfl (by kernel_rfl) rfl) rfl rfl rfl ?_; clear hf fa; intro fa hf
                              refine sqn hf (d_storeK (T := 141) (v := (.int .i64 (2 : Int))) (cs := #[(.int .i64 nb), (.int .u8 tt), (.bool (decide ((54 : Int) ≤ ((op : Nat) : Int)))), (.bool false)]) (cs' := #[(.int .i64 (2 : Int)), (.int .u8 tt), (.bool (decide ((54 : Int) ≤ ((op : Nat) : Int)))), (.bool false)]) rfl rfl (by kernel_rfl) (by kernel_rfl) hkb3 (by kernel_rfl) (by kernel_rfl)) rfl rfl ?_; clear hf fa; rintro fa _ w39 ⟨hk35, hg32⟩ hf
                              replace hkb1 := blk_grown hkb1 hg32 (by omega)
                              replace hb := hb.trans (grown_below hg32 hb.size hBb3)
                              apply wpList_nil
                              (try simp only [Exit.then, Exit.inBlock, ↓reduceIte, Nat.reduceEqDiff])
                              exact hKC3 _ _ ⟨(2 : Int), tt, hf.sub ⟨rfl, rfl, rfl, trivial⟩, hb, hkb1, hk35, (by rw [hT2, if_neg (by have h0 := hqt22_12; have h1 := hqt22_14; have h2 := hqt22_16; have h3 := hqt22_18; have h4 := hqt22_20; have h5 := hqt22_22; have h6 := hqt30_12; have h7 := hqt30_14; have h8 := hqt30_16; have h9 := hqt30_18; unfold inA; omega), if_pos (by have h0 := hqt22_12; have h1 := hqt22_14; have h2 := hqt22_16; have h3 := hqt22_18; have h4 := hqt22_20; have h5 := hqt22_22; have h6 := hqt30_12; have h7 := hqt30_14; have h8 := hqt30_16; have h9 := hqt30_18; unfold inB; omega)]), (by rw [hT1]; rcases hn with ⟨_, e, h⟩ | ⟨_, e, h⟩; rw [if_pos h]; exact e; rw [if_neg h]; exact e)⟩
                            · have hqt30_18b := hqt30_18
                              replace hqt30_18 := Bool.eq_false_iff.1 hqt30_18
                              try simp only [ne_eq, decide_eq_true_eq, Bool.and_eq_true, Bool.or_eq_true, Bool.not_eq_true', decide_eq_false_iff_not] at hqt30_18
                              refine wp_seq_k (fun K41 hK41 => ?_)
                              refine wp_region_lit ?_
                              refine sqv hf (r_eq rfl rfl) rfl rfl rfl ?_; clear hf fa; intro fa hf
                              refine sqv hf (r_assign rfl) rfl rfl rfl ?_; clear hf fa; intro fa hf
                              apply wpList_nil
                              (try simp only [Exit.then, Exit.inBlock, ↓reduceIte, Nat.reduceEqDiff])
                              refine hK41 _ _ ?_
                              refine wp_cond_split (t := (decide (((op : Nat) : Int) = (59 : Int)))) (hf.ev rfl) (fun hqt30_20 => ?_) (fun hqt30_20 => ?_)
                              · have hqt30_20b := hqt30_20
                                try simp only [decide_eq_true_eq, Bool.and_eq_true, Bool.or_eq_true, Bool.not_eq_true', decide_eq_false_iff_not, ne_eq, Bool.not_eq_true] at hqt30_20
                                refine wp_skip ?_
                                (try simp only [Exit.then, Exit.inBlock, ↓reduceIte, Nat.reduceEqDiff])
                                refine hK36 _ _ ?_
                                refine wp_cond_true ((hf.ev rfl).trans (congrArg Value.bool (show (decide (((op : Nat) : Int) = (59 : Int))) = true from hqt30_20b))) ?_
                                refine wp_region_lit ?_
                                refine sqv hf (r_fa rfl Try.underlying141 (f := 0) (q := 0) rfl (by kernel_rfl) rfl) rfl rfl rfl ?_; clear hf fa; intro fa hf
                                refine sqn hf (d_storeK (T := 141) (v := (.int .i64 (2 : Int))) (cs := #[(.int .i64 nb), (.int .u8 tt), (.bool (decide ((54 : Int) ≤ ((op : Nat) : Int)))), (.bool false)]) (cs' := #[(.int .i64 (2 : Int)), (.int .u8 tt), (.bool (decide ((54 : Int) ≤ ((op : Nat) : Int)))), (.bool false)]) rfl rfl (by kernel_rfl) (by kernel_rfl) hkb3 (by kernel_rfl) (by kernel_rfl)) rfl rfl ?_; clear hf fa; rintro fa _ w40 ⟨hk36, hg33⟩ hf
                                replace hkb1 := blk_grown hkb1 hg33 (by omega)
                                replace hb := hb.trans (grown_below hg33 hb.size hBb3)
                                apply wpList_nil
                                (try simp only [Exit.then, Exit.inBlock, ↓reduceIte, Nat.reduceEqDiff])
                                exact hKC3 _ _ ⟨(2 : Int), tt, hf.sub ⟨rfl, rfl, rfl, trivial⟩, hb, hkb1, hk36, (by rw [hT2, if_neg (by have h0 := hqt22_12; have h1 := hqt22_14; have h2 := hqt22_16; have h3 := hqt22_18; have h4 := hqt22_20; have h5 := hqt22_22; have h6 := hqt30_12; have h7 := hqt30_14; have h8 := hqt30_16; have h9 := hqt30_18; have h10 := hqt30_20; unfold inA; omega), if_pos (by have h0 := hqt22_12; have h1 := hqt22_14; have h2 := hqt22_16; have h3 := hqt22_18; have h4 := hqt22_20; have h5 := hqt22_22; have h6 := hqt30_12; have h7 := hqt30_14; have h8 := hqt30_16; have h9 := hqt30_18; have h10 := hqt30_20; unfold inB; omega)]), (by rw [hT1]; rcases hn with ⟨_, e, h⟩ | ⟨_, e, h⟩; rw [if_pos h]; exact e; rw [if_neg h]; exact e)⟩
                              · have hqt30_20b := hqt30_20
                                replace hqt30_20 := Bool.eq_false_iff.1 hqt30_20
                                try simp only [ne_eq, decide_eq_true_eq, Bool.and_eq_true, Bool.or_eq_true, Bool.not_eq_true', decide_eq_false_iff_not] at hqt30_20
                                refine wp_region_lit ?_
                                refine sqv hf (r_eq rfl rfl) rfl rfl rfl ?_; clear hf fa; intro fa hf
                                refine sqv hf (r_assign rfl) rfl rfl rfl ?_; clear hf fa; intro fa hf
                                apply wpList_nil
                                (try simp only [Exit.then, Exit.inBlock, ↓reduceIte, Nat.reduceEqDiff])
                                refine hK36 _ _ ?_
                                refine wp_cond_split (t := (decide (((op : Nat) : Int) = (61 : Int)))) (hf.ev rfl) (fun hqt30_22 => ?_) (fun hqt30_22 => ?_)
                                · have hqt30_22b := hqt30_22
                                  try simp only [decide_eq_true_eq, Bool.and_eq_true, Bool.or_eq_true, Bool.not_eq_true', decide_eq_false_iff_not, ne_eq, Bool.not_eq_true] at hqt30_22
                                  refine wp_region_lit ?_
                                  refine sqv hf (r_fa rfl Try.underlying141 (f := 0) (q := 0) rfl (by kernel_rfl) rfl) rfl rfl rfl ?_; clear hf fa; intro fa hf
                                  refine sqn hf (d_storeK (T := 141) (v := (.int .i64 (2 : Int))) (cs := #[(.int .i64 nb), (.int .u8 tt), (.bool (decide ((54 : Int) ≤ ((op : Nat) : Int)))), (.bool false)]) (cs' := #[(.int .i64 (2 : Int)), (.int .u8 tt), (.bool (decide ((54 : Int) ≤ ((op : Nat) : Int)))), (.bool false)]) rfl rfl (by kernel_rfl) (by kernel_rfl) hkb3 (by kernel_rfl) (by kernel_rfl)) rfl rfl ?_; clear hf fa; rintro fa _ w41 ⟨hk37, hg34⟩ hf
                                  replace hkb1 := blk_grown hkb1 hg34 (by omega)
                                  replace hb := hb.trans (grown_below hg34 hb.size hBb3)
                                  apply wpList_nil
                                  (try simp only [Exit.then, Exit.inBlock, ↓reduceIte, Nat.reduceEqDiff])
                                  exact hKC3 _ _ ⟨(2 : Int), tt, hf.sub ⟨rfl, rfl, rfl, trivial⟩, hb, hkb1, hk37, (by rw [hT2, if_neg (by have h0 := hqt22_12; have h1 := hqt22_14; have h2 := hqt22_16; have h3 := hqt22_18; have h4 := hqt22_20; have h5 := hqt22_22; have h6 := hqt30_12; have h7 := hqt30_14; have h8 := hqt30_16; have h9 := hqt30_18; have h10 := hqt30_20; have h11 := hqt30_22; unfold inA; omega), if_pos (by have h0 := hqt22_12; have h1 := hqt22_14; have h2 := hqt22_16; have h3 := hqt22_18; have h4 := hqt22_20; have h5 := hqt22_22; have h6 := hqt30_12; have h7 := hqt30_14; have h8 := hqt30_16; have h9 := hqt30_18; have h10 := hqt30_20; have h11 := hqt30_22; unfold inB; omega)]), (by rw [hT1]; rcases hn with ⟨_, e, h⟩ | ⟨_, e, h⟩; rw [if_pos h]; exact e; rw [if_neg h]; exact e)⟩
                                · have hqt30_22b := hqt30_22
                                  replace hqt30_22 := Bool.eq_false_iff.1 hqt30_22
                                  try simp only [ne_eq, decide_eq_true_eq, Bool.and_eq_true, Bool.or_eq_true, Bool.not_eq_true', decide_eq_false_iff_not] at hqt30_22
                                  refine wp_seq_k (fun K42 hK42 => ?_)
                                  refine wp_seq_k (fun K43 hK43 => ?_)
                                  refine wp_region_lit ?_
                                  refine sqv hf (r_eq rfl rfl) rfl rfl rfl ?_; clear hf fa; intro fa hf
                                  refine sqv hf (r_assign rfl) rfl rfl rfl ?_; clear hf fa; intro fa hf
                                  apply wpList_nil
                                  (try simp only [Exit.then, Exit.inBlock, ↓reduceIte, Nat.reduceEqDiff])
                                  refine hK43 _ _ ?_
                                  refine wp_cond_split (t := (decide (((op : Nat) : Int) = (52 : Int)))) (hf.ev rfl) (fun hqt38_6 => ?_) (fun hqt38_6 => ?_)
                                  · have hqt38_6b := hqt38_6
                                    try simp only [decide_eq_true_eq, Bool.and_eq_true, Bool.or_eq_true, Bool.not_eq_true', decide_eq_false_iff_not, ne_eq, Bool.not_eq_true] at hqt38_6
                                    refine wp_skip ?_
                                    (try simp only [Exit.then, Exit.inBlock, ↓reduceIte, Nat.reduceEqDiff])
                                    refine hK42 _ _ ?_
                                    refine wp_cond_true ((hf.ev rfl).trans (congrArg Value.bool (show (decide (((op : Nat) : Int) = (52 : Int))) = true from hqt38_6b))) ?_
                                    refine wp_region_lit ?_
                                    refine sqv hf (r_fa rfl Try.underlying141 (f := 0) (q := 0) rfl (by kernel_rfl) rfl) rfl rfl rfl ?_; clear hf fa; intro fa hf
                                    refine sqn hf (d_storeK (T := 141) (v := (.int .i64 (4 : Int))) (cs := #[(.int .i64 nb), (.int .u8 tt), (.bool (decide ((54 : Int) ≤ ((op : Nat) : Int)))), (.bool false)]) (cs' := #[(.int .i64 (4 : Int)), (.int .u8 tt), (.bool (decide ((54 : Int) ≤ ((op : Nat) : Int)))), (.bool false)]) rfl rfl (by kernel_rfl) (by kernel_rfl) hkb3 (by kernel_rfl) (by kernel_rfl)) rfl rfl ?_; clear hf fa; rintro fa _ w42 ⟨hk38, hg35⟩ hf
                                    replace hkb1 := blk_grown hkb1 hg35 (by omega)
                                    replace hb := hb.trans (grown_below hg35 hb.size hBb3)
                                    apply wpList_nil
                                    (try simp only [Exit.then, Exit.inBlock, ↓reduceIte, Nat.reduceEqDiff])
                                    exact hKC3 _ _ ⟨(4 : Int), tt, hf.sub ⟨rfl, rfl, rfl, trivial⟩, hb, hkb1, hk38, (by rw [hT2, if_neg (by have h0 := hqt22_12; have h1 := hqt22_14; have h2 := hqt22_16; have h3 := hqt22_18; have h4 := hqt22_20; have h5 := hqt22_22; have h6 := hqt30_12; have h7 := hqt30_14; have h8 := hqt30_16; have h9 := hqt30_18; have h10 := hqt30_20; have h11 := hqt30_22; have h12 := hqt38_6; unfold inA; omega), if_neg (by have h0 := hqt22_12; have h1 := hqt22_14; have h2 := hqt22_16; have h3 := hqt22_18; have h4 := hqt22_20; have h5 := hqt22_22; have h6 := hqt30_12; have h7 := hqt30_14; have h8 := hqt30_16; have h9 := hqt30_18; have h10 := hqt30_20; have h11 := hqt30_22; have h12 := hqt38_6; unfold inB; omega), if_pos (by have h0 := hqt22_12; have h1 := hqt22_14; have h2 := hqt22_16; have h3 := hqt22_18; have h4 := hqt22_20; have h5 := hqt22_22; have h6 := hqt30_12; have h7 := hqt30_14; have h8 := hqt30_16; have h9 := hqt30_18; have h10 := hqt30_20; have h11 := hqt30_22; have h12 := hqt38_6; unfold inC; omega)]), (by rw [hT1]; rcases hn with ⟨_, e, h⟩ | ⟨_, e, h⟩; rw [if_pos h]; exact e; rw [if_neg h]; exact e)⟩
                                  · have hqt38_6b := hqt38_6
                                    replace hqt38_6 := Bool.eq_false_iff.1 hqt38_6
                                    try simp only [ne_eq, decide_eq_true_eq, Bool.and_eq_true, Bool.or_eq_true, Bool.not_eq_true', decide_eq_false_iff_not] at hqt38_6
                                    refine wp_seq_k (fun K44 hK44 => ?_)
                                    refine wp_region_lit ?_
                                    refine sqv hf (r_eq rfl rfl) rfl rfl rfl ?_; clear hf fa; intro fa hf
                                    refine sqv hf (r_assign rfl) rfl rfl rfl ?_; clear hf fa; intro fa hf
                                    apply wpList_nil
                                    (try simp only [Exit.then, Exit.inBlock, ↓reduceIte, Nat.reduceEqDiff])
                                    refine hK44 _ _ ?_
                                    refine wp_cond_split (t := (decide (((op : Nat) : Int) = (53 : Int)))) (hf.ev rfl) (fun hqt38_8 => ?_) (fun hqt38_8 => ?_)
                                    · have hqt38_8b := hqt38_8
                                      try simp only [decide_eq_true_eq, Bool.and_eq_true, Bool.or_eq_true, Bool.not_eq_true', decide_eq_false_iff_not, ne_eq, Bool.not_eq_true] at hqt38_8
                                      refine wp_skip ?_
                                      (try simp only [Exit.then, Exit.inBlock, ↓reduceIte, Nat.reduceEqDiff])
                                      refine hK42 _ _ ?_
                                      refine wp_cond_true ((hf.ev rfl).trans (congrArg Value.bool (show (decide (((op : Nat) : Int) = (53 : Int))) = true from hqt38_8b))) ?_
                                      refine wp_region_lit ?_
                                      refine sqv hf (r_fa rfl Try.underlying141 (f := 0) (q := 0) rfl (by kernel_rfl) rfl) rfl rfl rfl ?_; clear hf fa; intro fa hf
                                      refine sqn hf (d_storeK (T := 141) (v := (.int .i64 (4 : Int))) (cs := #[(.int .i64 nb), (.int .u8 tt), (.bool (decide ((54 : Int) ≤ ((op : Nat) : Int)))), (.bool false)]) (cs' := #[(.int .i64 (4 : Int)), (.int .u8 tt), (.bool (decide ((54 : Int) ≤ ((op : Nat) : Int)))), (.bool false)]) rfl rfl (by kernel_rfl) (by kernel_rfl) hkb3 (by kernel_rfl) (by kernel_rfl)) rfl rfl ?_; clear hf fa; rintro fa _ w43 ⟨hk39, hg36⟩ hf
                                      replace hkb1 := blk_grown hkb1 hg36 (by omega)
                                      replace hb := hb.trans (grown_below hg36 hb.size hBb3)
                                      apply wpList_nil
                                      (try simp only [Exit.then, Exit.inBlock, ↓reduceIte, Nat.reduceEqDiff])
                                      exact hKC3 _ _ ⟨(4 : Int), tt, hf.sub ⟨rfl, rfl, rfl, trivial⟩, hb, hkb1, hk39, (by rw [hT2, if_neg (by have h0 := hqt22_12; have h1 := hqt22_14; have h2 := hqt22_16; have h3 := hqt22_18; have h4 := hqt22_20; have h5 := hqt22_22; have h6 := hqt30_12; have h7 := hqt30_14; have h8 := hqt30_16; have h9 := hqt30_18; have h10 := hqt30_20; have h11 := hqt30_22; have h12 := hqt38_6; have h13 := hqt38_8; unfold inA; omega), if_neg (by have h0 := hqt22_12; have h1 := hqt22_14; have h2 := hqt22_16; have h3 := hqt22_18; have h4 := hqt22_20; have h5 := hqt22_22; have h6 := hqt30_12; have h7 := hqt30_14; have h8 := hqt30_16; have h9 := hqt30_18; have h10 := hqt30_20; have h11 := hqt30_22; have h12 := hqt38_6; have h13 := hqt38_8; unfold inB; omega), if_pos (by have h0 := hqt22_12; have h1 := hqt22_14; have h2 := hqt22_16; have h3 := hqt22_18; have h4 := hqt22_20; have h5 := hqt22_22; have h6 := hqt30_12; have h7 := hqt30_14; have h8 := hqt30_16; have h9 := hqt30_18; have h10 := hqt30_20; have h11 := hqt30_22; have h12 := hqt38_6; have h13 := hqt38_8; unfold inC; omega)]), (by rw [hT1]; rcases hn with ⟨_, e, h⟩ | ⟨_, e, h⟩; rw [if_pos h]; exact e; rw [if_neg h]; exact e)⟩
                                    · have hqt38_8b := hqt38_8
                                      replace hqt38_8 := Bool.eq_false_iff.1 hqt38_8
                                      try simp only [ne_eq, decide_eq_true_eq, Bool.and_eq_true, Bool.or_eq_true, Bool.not_eq_true', decide_eq_false_iff_not] at hqt38_8
                                      refine wp_region_lit ?_
                                      refine sqv hf (r_eq rfl rfl) rfl rfl rfl ?_; clear hf fa; intro fa hf
                                      refine sqv hf (r_assign rfl) rfl rfl rfl ?_; clear hf fa; intro fa hf
                                      apply wpList_nil
                                      (try simp only [Exit.then, Exit.inBlock, ↓reduceIte, Nat.reduceEqDiff])
                                      refine hK42 _ _ ?_
                                      refine wp_cond_split (t := (decide (((op : Nat) : Int) = (62 : Int)))) (hf.ev rfl) (fun hqt38_10 => ?_) (fun hqt38_10 => ?_)
                                      · have hqt38_10b := hqt38_10
                                        try simp only [decide_eq_true_eq, Bool.and_eq_true, Bool.or_eq_true, Bool.not_eq_true', decide_eq_false_iff_not, ne_eq, Bool.not_eq_true] at hqt38_10
                                        refine wp_region_lit ?_
                                        refine sqv hf (r_fa rfl Try.underlying141 (f := 0) (q := 0) rfl (by kernel_rfl) rfl) rfl rfl rfl ?_; clear hf fa; intro fa hf
                                        refine sqn hf (d_storeK (T := 141) (v := (.int .i64 (4 : Int))) (cs := #[(.int .i64 nb), (.int .u8 tt), (.bool (decide ((54 : Int) ≤ ((op : Nat) : Int)))), (.bool false)]) (cs' := #[(.int .i64 (4 : Int)), (.int .u8 tt), (.bool (decide ((54 : Int) ≤ ((op : Nat) : Int)))), (.bool false)]) rfl rfl (by kernel_rfl) (by kernel_rfl) hkb3 (by kernel_rfl) (by kernel_rfl)) rfl rfl ?_; clear hf fa; rintro fa _ w44 ⟨hk40, hg37⟩ hf
                                        replace hkb1 := blk_grown hkb1 hg37 (by omega)
                                        replace hb := hb.trans (grown_below hg37 hb.size hBb3)
                                        apply wpList_nil
                                        (try simp only [Exit.then, Exit.inBlock, ↓reduceIte, Nat.reduceEqDiff])
                                        exact hKC3 _ _ ⟨(4 : Int), tt, hf.sub ⟨rfl, rfl, rfl, trivial⟩, hb, hkb1, hk40, (by rw [hT2, if_neg (by have h0 := hqt22_12; have h1 := hqt22_14; have h2 := hqt22_16; have h3 := hqt22_18; have h4 := hqt22_20; have h5 := hqt22_22; have h6 := hqt30_12; have h7 := hqt30_14; have h8 := hqt30_16; have h9 := hqt30_18; have h10 := hqt30_20; have h11 := hqt30_22; have h12 := hqt38_6; have h13 := hqt38_8; have h14 := hqt38_10; unfold inA; omega), if_neg (by have h0 := hqt22_12; have h1 := hqt22_14; have h2 := hqt22_16; have h3 := hqt22_18; have h4 := hqt22_20; have h5 := hqt22_22; have h6 := hqt30_12; have h7 := hqt30_14; have h8 := hqt30_16; have h9 := hqt30_18; have h10 := hqt30_20; have h11 := hqt30_22; have h12 := hqt38_6; have h13 := hqt38_8; have h14 := hqt38_10; unfold inB; omega), if_pos (by have h0 := hqt22_12; have h1 := hqt22_14; have h2 := hqt22_16; have h3 := hqt22_18; have h4 := hqt22_20; have h5 := hqt22_22; have h6 := hqt30_12; have h7 := hqt30_14; have h8 := hqt30_16; have h9 := hqt30_18; have h10 := hqt30_20; have h11 := hqt30_22; have h12 := hqt38_6; have h13 := hqt38_8; have h14 := hqt38_10; unfold inC; omega)]), (by rw [hT1]; rcases hn with ⟨_, e, h⟩ | ⟨_, e, h⟩; rw [if_pos h]; exact e; rw [if_neg h]; exact e)⟩
                                      · have hqt38_10b := hqt38_10
                                        replace hqt38_10 := Bool.eq_false_iff.1 hqt38_10
                                        try simp only [ne_eq, decide_eq_true_eq, Bool.and_eq_true, Bool.or_eq_true, Bool.not_eq_true', decide_eq_false_iff_not] at hqt38_10
                                        refine wp_skip ?_
                                        (try simp only [Exit.then, Exit.inBlock, ↓reduceIte, Nat.reduceEqDiff])
                                        exact hKC3 _ _ ⟨nb, tt, hf.sub ⟨rfl, rfl, rfl, trivial⟩, hb, hkb1, hkb3, (by rw [hT2, if_neg (by have h0 := hqt22_12; have h1 := hqt22_14; have h2 := hqt22_16; have h3 := hqt22_18; have h4 := hqt22_20; have h5 := hqt22_22; have h6 := hqt30_12; have h7 := hqt30_14; have h8 := hqt30_16; have h9 := hqt30_18; have h10 := hqt30_20; have h11 := hqt30_22; have h12 := hqt38_6; have h13 := hqt38_8; have h14 := hqt38_10; unfold inA; omega), if_neg (by have h0 := hqt22_12; have h1 := hqt22_14; have h2 := hqt22_16; have h3 := hqt22_18; have h4 := hqt22_20; have h5 := hqt22_22; have h6 := hqt30_12; have h7 := hqt30_14; have h8 := hqt30_16; have h9 := hqt30_18; have h10 := hqt30_20; have h11 := hqt30_22; have h12 := hqt38_6; have h13 := hqt38_8; have h14 := hqt38_10; unfold inB; omega), if_neg (by have h0 := hqt22_12; have h1 := hqt22_14; have h2 := hqt22_16; have h3 := hqt22_18; have h4 := hqt22_20; have h5 := hqt22_22; have h6 := hqt30_12; have h7 := hqt30_14; have h8 := hqt30_16; have h9 := hqt30_18; have h10 := hqt30_20; have h11 := hqt30_22; have h12 := hqt38_6; have h13 := hqt38_8; have h14 := hqt38_10; unfold inC; omega)]; rcases hn with ⟨e, _, h⟩ | ⟨e, _, h⟩; rw [if_pos h]; exact e; rw [if_neg h]; exact e), (by rw [hT1]; rcases hn with ⟨_, e, h⟩ | ⟨_, e, h⟩; rw [if_pos h]; exact e; rw [if_neg h]; exact e)⟩
      · clear hf hb fa hk1 hk3 hk6
        rintro fa w45 ⟨nc, tt, hf, hb, hkb1, hkb3, hnc, htt⟩
        refine wp_seq_k (fun K45 hK45 => ?_)
        refine wp_region_lit ?_
        refine sqv hf (r_move rfl) rfl rfl rfl ?_; clear hf fa; intro fa hf
        refine sqv hf (r_eq rfl rfl) rfl rfl rfl ?_; clear hf fa; intro fa hf
        refine sqv hf (r_move rfl) rfl rfl rfl ?_; clear hf fa; intro fa hf
        refine sqgF (act := (!(decide (((op : Nat) : Int) = (44 : Int))))) (ag := true) (c := (decide (((op : Nat) : Int) = (44 : Int)))) (v := (.int .u8 ((op : Nat) : Int))) hf rfl rfl rfl (fun hact => (r_move rfl)) rfl rfl ?_; clear hf fa; intro fa hf
        refine sqgF (act := (!(decide (((op : Nat) : Int) = (44 : Int))))) (ag := true) (c := (decide (((op : Nat) : Int) = (44 : Int)))) (v := (.bool (decide (((op : Nat) : Int) = (46 : Int))))) hf rfl rfl rfl (fun hact => (r_eq (gb_ev hact rfl) rfl)) rfl rfl ?_; clear hf fa; intro fa hf
        refine sqv hf (r_pickO (b := (decide (((op : Nat) : Int) = (44 : Int)))) (e := (decide (((op : Nat) : Int) = (46 : Int)))) rfl rfl rfl) rfl rfl rfl ?_; clear hf fa; intro fa hf
        refine sqv hf (r_move rfl) rfl rfl rfl ?_; clear hf fa; intro fa hf
        refine sqgF (act := (!((decide (((op : Nat) : Int) = (44 : Int))) || (decide (((op : Nat) : Int) = (46 : Int)))))) (ag := true) (c := ((decide (((op : Nat) : Int) = (44 : Int))) || (decide (((op : Nat) : Int) = (46 : Int))))) (v := (.int .u8 ((op : Nat) : Int))) hf rfl rfl rfl (fun hact => (r_move rfl)) rfl rfl ?_; clear hf fa; intro fa hf
        refine sqgF (act := (!((decide (((op : Nat) : Int) = (44 : Int))) || (decide (((op : Nat) : Int) = (46 : Int)))))) (ag := true) (c := ((decide (((op : Nat) : Int) = (44 : Int))) || (decide (((op : Nat) : Int) = (46 : Int))))) (v := (.bool (decide (((op : Nat) : Int) = (48 : Int))))) hf rfl rfl rfl (fun hact => (r_eq (gb_ev hact rfl) rfl)) rfl rfl ?_; clear hf fa; intro fa hf
        refine sqv hf (r_pickO (b := ((decide (((op : Nat) : Int) = (44 : Int))) || (decide (((op : Nat) : Int) = (46 : Int))))) (e := (decide (((op : Nat) : Int) = (48 : Int)))) rfl rfl rfl) rfl rfl rfl ?_; clear hf fa; intro fa hf
        refine sqv hf (r_move rfl) rfl rfl rfl ?_; clear hf fa; intro fa hf
        refine sqgF (act := (!(((decide (((op : Nat) : Int) = (44 : Int))) || (decide (((op : Nat) : Int) = (46 : Int)))) || (decide (((op : Nat) : Int) = (48 : Int)))))) (ag := true) (c := (((decide (((op : Nat) : Int) = (44 : Int))) || (decide (((op : Nat) : Int) = (46 : Int)))) || (decide (((op : Nat) : Int) = (48 : Int))))) (v := (.int .u8 ((op : Nat) : Int))) hf rfl rfl rfl (fun hact => (r_move rfl)) rfl rfl ?_; clear hf fa; intro fa hf
        refine sqgF (act := (!(((decide (((op : Nat) : Int) = (44 : Int))) || (decide (((op : Nat) : Int) = (46 : Int)))) || (decide (((op : Nat) : Int) = (48 : Int)))))) (ag := true) (c := (((decide (((op : Nat) : Int) = (44 : Int))) || (decide (((op : Nat) : Int) = (46 : Int)))) || (decide (((op : Nat) : Int) = (48 : Int))))) (v := (.bool (decide (((op : Nat) : Int) = (50 : Int))))) hf rfl rfl rfl (fun hact => (r_eq (gb_ev hact rfl) rfl)) rfl rfl ?_; clear hf fa; intro fa hf
        refine sqv hf (r_pickO (b := (((decide (((op : Nat) : Int) = (44 : Int))) || (decide (((op : Nat) : Int) = (46 : Int)))) || (decide (((op : Nat) : Int) = (48 : Int))))) (e := (decide (((op : Nat) : Int) = (50 : Int)))) rfl rfl rfl) rfl rfl rfl ?_; clear hf fa; intro fa hf
        refine sqv hf (r_move rfl) rfl rfl rfl ?_; clear hf fa; intro fa hf
        refine sqgF (act := (!((((decide (((op : Nat) : Int) = (44 : Int))) || (decide (((op : Nat) : Int) = (46 : Int)))) || (decide (((op : Nat) : Int) = (48 : Int)))) || (decide (((op : Nat) : Int) = (50 : Int)))))) (ag := true) (c := ((((decide (((op : Nat) : Int) = (44 : Int))) || (decide (((op : Nat) : Int) = (46 : Int)))) || (decide (((op : Nat) : Int) = (48 : Int)))) || (decide (((op : Nat) : Int) = (50 : Int))))) (v := (.int .u8 ((op : Nat) : Int))) hf rfl rfl rfl (fun hact => (r_move rfl)) rfl rfl ?_; clear hf fa; intro fa hf
        refine sqgF (act := (!((((decide (((op : Nat) : Int) = (44 : Int))) || (decide (((op : Nat) : Int) = (46 : Int)))) || (decide (((op : Nat) : Int) = (48 : Int)))) || (decide (((op : Nat) : Int) = (50 : Int)))))) (ag := true) (c := ((((decide (((op : Nat) : Int) = (44 : Int))) || (decide (((op : Nat) : Int) = (46 : Int)))) || (decide (((op : Nat) : Int) = (48 : Int)))) || (decide (((op : Nat) : Int) = (50 : Int))))) (v := (.bool (decide (((op : Nat) : Int) = (52 : Int))))) hf rfl rfl rfl (fun hact => (r_eq (gb_ev hact rfl) rfl)) rfl rfl ?_; clear hf fa; intro fa hf
        refine sqv hf (r_pickO (b := ((((decide (((op : Nat) : Int) = (44 : Int))) || (decide (((op : Nat) : Int) = (46 : Int)))) || (decide (((op : Nat) : Int) = (48 : Int)))) || (decide (((op : Nat) : Int) = (50 : Int))))) (e := (decide (((op : Nat) : Int) = (52 : Int)))) rfl rfl rfl) rfl rfl rfl ?_; clear hf fa; intro fa hf
        refine sqv hf (r_fa rfl Try.underlying141 (f := 3) (q := 3) rfl (by kernel_rfl) rfl) rfl rfl rfl ?_; clear hf fa; intro fa hf
        refine sqn hf (d_storeK (T := 141) (v := (.bool (((((decide (((op : Nat) : Int) = (44 : Int))) || (decide (((op : Nat) : Int) = (46 : Int)))) || (decide (((op : Nat) : Int) = (48 : Int)))) || (decide (((op : Nat) : Int) = (50 : Int)))) || (decide (((op : Nat) : Int) = (52 : Int)))))) (cs := #[(.int .i64 nc), (.int .u8 tt), (.bool (decide ((54 : Int) ≤ ((op : Nat) : Int)))), (.bool false)]) (cs' := #[(.int .i64 nc), (.int .u8 tt), (.bool (decide ((54 : Int) ≤ ((op : Nat) : Int)))), (.bool (((((decide (((op : Nat) : Int) = (44 : Int))) || (decide (((op : Nat) : Int) = (46 : Int)))) || (decide (((op : Nat) : Int) = (48 : Int)))) || (decide (((op : Nat) : Int) = (50 : Int)))) || (decide (((op : Nat) : Int) = (52 : Int)))))]) rfl rfl (by kernel_rfl) (by kernel_rfl) hkb3 (by kernel_rfl) (by kernel_rfl)) rfl rfl ?_; clear hf fa; rintro fa _ w46 ⟨hk41, hg38⟩ hf
        replace hkb1 := blk_grown hkb1 hg38 (by omega)
        replace hb := hb.trans (grown_below hg38 hb.size hBb3)
        apply wpList_nil
        (try simp only [Exit.then, Exit.inBlock, ↓reduceIte, Nat.reduceEqDiff])
        refine hK45 _ _ ?_
        refine wp_seq_k (fun K46 hK46 => ?_)
        refine wp_region_lit ?_
        refine sqv hf (r_loadA (cs := [(.int .i64 nc), (.int .u8 tt), (.bool (decide ((54 : Int) ≤ ((op : Nat) : Int)))), (.bool (((((decide (((op : Nat) : Int) = (44 : Int))) || (decide (((op : Nat) : Int) = (46 : Int)))) || (decide (((op : Nat) : Int) = (48 : Int)))) || (decide (((op : Nat) : Int) = (50 : Int)))) || (decide (((op : Nat) : Int) = (52 : Int)))))]) rfl Try.underlying141 rfl (by kernel_rfl) (cellsAt_blk hk41)) rfl rfl rfl ?_; clear hf fa; intro fa hf
        refine sqn hf (d_storeK (T := 141) (v := (.agg #[(.int .i64 nc), (.int .u8 tt), (.bool (decide ((54 : Int) ≤ ((op : Nat) : Int)))), (.bool (((((decide (((op : Nat) : Int) = (44 : Int))) || (decide (((op : Nat) : Int) = (46 : Int)))) || (decide (((op : Nat) : Int) = (48 : Int)))) || (decide (((op : Nat) : Int) = (50 : Int)))) || (decide (((op : Nat) : Int) = (52 : Int)))))])) (cs := #[(.int .i64 (0 : Int)), (.int .u8 (0 : Int)), (.bool false), (.bool false)]) (cs' := #[(.int .i64 nc), (.int .u8 tt), (.bool (decide ((54 : Int) ≤ ((op : Nat) : Int)))), (.bool (((((decide (((op : Nat) : Int) = (44 : Int))) || (decide (((op : Nat) : Int) = (46 : Int)))) || (decide (((op : Nat) : Int) = (48 : Int)))) || (decide (((op : Nat) : Int) = (50 : Int)))) || (decide (((op : Nat) : Int) = (52 : Int)))))]) rfl rfl (by kernel_rfl) (by kernel_rfl) hkb1 (by kernel_rfl) (by kernel_rfl)) rfl rfl ?_; clear hf fa; rintro fa _ w47 ⟨hk42, hg39⟩ hf
        replace hk41 := blk_grown hk41 hg39 (by omega)
        replace hb := hb.trans (grown_below hg39 hb.size hBb1)
        refine sqv hf (r_assign rfl) rfl rfl rfl ?_; clear hf fa; intro fa hf
        apply wpList_nil
        (try simp only [Exit.then, Exit.inBlock, ↓reduceIte, Nat.reduceEqDiff])
        refine hK46 _ _ ?_
        refine wp_ret ?_
        (try simp only [Exit.then, Exit.inBlock])
        refine retCT hf rfl rfl hk42 Try.underlying141 rfl (by kernel_rfl) rfl ?_
        refine ⟨?_, hb⟩
        rw [hnc, htt, hT0, hT3, hT4]
end Go.Proofs.Ytmcmickgllffoaa
