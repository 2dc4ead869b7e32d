/- What is proved here: which instructions may be, by the program and by the document. What is proved here: an instruction as a line, by the program and by the document. What is proved here: a line of words, by the program and by the document. -/
import Derived.Test.YtpalmpfkliepfaaDoorTextParsesMgAD
import Derived.Test.YtpalmpfkliepfaaDoorTextParsesMgAA
import Derived.Lib.SplitLaws
namespace Go.Proofs.YtpalmpfkliepfaaDoor
open Go.RowKit Ut
set_option linter.unusedVariables false
set_option linter.unusedSimpArgs false
attribute [local irreducible] infP ofP chkP rchkP
theorem inI_u32 {n : Int} (h : 0 ≤ n ∧ n < 9223372036854775808) : inI n := by unfold inI; omega
def blkP (A : Int) : Int := if A = 64 then 0 else if 255 < A then 7 else if A = 127 ∨ A = 126 then 0 else if A = 125 ∨ A = 124 then 8 else 7
def rightP (op : Nat) (A B : Int) (n : Nat) : Int :=
  if chkP op ≠ 0 then chkP op else if 0 < n ∧ (infP op).2.1 ≠ 3 then 1 else if 10000 < n then 29 else if B ≠ 0 ∧ (infP op).2.1 ≠ 8 then 1
  else if (infP op).2.1 = 0 ∨ (infP op).2.1 = 9 then (if A = 0 then 0 else 1) else if (infP op).2.1 = 1 then blkP A else if (infP op).2.1 = 11 then 0 else if A < 4294967296 ∧ B < 4294967296 then 0 else 1

def tnameP (b : Int) : ByteArray :=
  bif (decide (b = (127 : Int))) then ⟨#[105, 51, 50]⟩
  else bif (decide (b = (126 : Int))) then ⟨#[105, 54, 52]⟩
  else bif (decide (b = (125 : Int))) then ⟨#[102, 51, 50]⟩
  else bif (decide (b = (124 : Int))) then ⟨#[102, 54, 52]⟩
  else bif (decide (b = (112 : Int))) then ⟨#[102, 117, 110, 99, 114, 101, 102]⟩
  else ⟨#[63]⟩

set_option maxHeartbeats 1000000 in
set_option maxRecDepth 100000 in
theorem tname_any (b : Int) (w : World)  : Calls Tryd.prog 74 #[(.int .u8 b)] w fun e w' => e = .returned (.string (tnameP b)) ∧ Below w.heap.size w w' := by
  refine sx_enter (L := [(0, (.int .u8 b))]) Tryd.func74 rfl rfl rfl rfl (fun fa hf => ?_)
  have hb : Below w.heap.size w w := Below.refl _ _
  refine wp_seq_k (fun K1 hK1 => ?_)
  refine wp_region_lit ?_
  refine sqv hf (r_assign rfl) rfl rfl rfl ?_; clear hf fa; intro fa hf
  apply wpList_nil
  (try simp only [Exit.then, Exit.inBlock, ↓reduceIte, Nat.reduceEqDiff])
  refine hK1 _ _ ?_
  refine wp_seq_k (fun K2 hK2 => ?_)
  refine wp_seq_k (fun K3 hK3 => ?_)
  refine wp_region_lit ?_
  refine sqv hf (r_move rfl) rfl rfl rfl ?_; clear hf fa; intro fa hf
  apply wpList_nil
  (try simp only [Exit.then, Exit.inBlock, ↓reduceIte, Nat.reduceEqDiff])
  refine hK3 _ _ ?_
  refine wp_block ?_
  refine wp_seq_k (fun K4 hK4 => ?_)
  refine wp_region_lit ?_
  refine sqv hf (r_eq rfl rfl) rfl rfl rfl ?_; clear hf fa; intro fa hf
  refine sqv hf (r_assign rfl) rfl rfl rfl ?_; clear hf fa; intro fa hf
  apply wpList_nil
  (try simp only [Exit.then, Exit.inBlock, ↓reduceIte, Nat.reduceEqDiff])
  refine hK4 _ _ ?_
  refine wp_cond_split (t := (decide (b = (127 : Int)))) (hf.ev rfl) (fun hqt4_1 => ?_) (fun hqt4_1 => ?_)
  · have hqt4_1b := hqt4_1
    try simp only [decide_eq_true_eq, Bool.and_eq_true, Bool.or_eq_true, Bool.not_eq_true', decide_eq_false_iff_not, ne_eq, Bool.not_eq_true] at hqt4_1
    refine wp_seq_k (fun K5 hK5 => ?_)
    refine wp_region_lit ?_
    refine sqv hf (r_assign rfl) rfl rfl rfl ?_; clear hf fa; intro fa hf
    apply wpList_nil
    (try simp only [Exit.then, Exit.inBlock, ↓reduceIte, Nat.reduceEqDiff])
    refine hK5 _ _ ?_
    refine wp_ret ?_
    (try simp only [Exit.then, Exit.inBlock])
    refine ret1 hf rfl rfl ?_
    refine ⟨?_, hb⟩; unfold tnameP; rw [hqt4_1b]; (try rfl)
  · have hqt4_1b := hqt4_1
    replace hqt4_1 := Bool.eq_false_iff.1 hqt4_1
    try simp only [ne_eq, decide_eq_true_eq, Bool.and_eq_true, Bool.or_eq_true, Bool.not_eq_true', decide_eq_false_iff_not] at hqt4_1
    refine wp_seq_k (fun K6 hK6 => ?_)
    refine wp_region_lit ?_
    refine sqv hf (r_eq rfl rfl) rfl rfl rfl ?_; clear hf fa; intro fa hf
    refine sqv hf (r_assign rfl) rfl rfl rfl ?_; clear hf fa; intro fa hf
    apply wpList_nil
    (try simp only [Exit.then, Exit.inBlock, ↓reduceIte, Nat.reduceEqDiff])
    refine hK6 _ _ ?_
    refine wp_cond_split (t := (decide (b = (126 : Int)))) (hf.ev rfl) (fun hqt6_1 => ?_) (fun hqt6_1 => ?_)
    · have hqt6_1b := hqt6_1
      try simp only [decide_eq_true_eq, Bool.and_eq_true, Bool.or_eq_true, Bool.not_eq_true', decide_eq_false_iff_not, ne_eq, Bool.not_eq_true] at hqt6_1
      refine wp_seq_k (fun K7 hK7 => ?_)
      refine wp_region_lit ?_
      refine sqv hf (r_assign rfl) rfl rfl rfl ?_; clear hf fa; intro fa hf
      apply wpList_nil
      (try simp only [Exit.then, Exit.inBlock, ↓reduceIte, Nat.reduceEqDiff])
      refine hK7 _ _ ?_
      refine wp_ret ?_
      (try simp only [Exit.then, Exit.inBlock])
      refine ret1 hf rfl rfl ?_
      refine ⟨?_, hb⟩; unfold tnameP; rw [hqt4_1b, hqt6_1b]; (try rfl)
    · have hqt6_1b := hqt6_1
      replace hqt6_1 := Bool.eq_false_iff.1 hqt6_1
      try simp only [ne_eq, decide_eq_true_eq, Bool.and_eq_true, Bool.or_eq_true, Bool.not_eq_true', decide_eq_false_iff_not] at hqt6_1
      refine wp_seq_k (fun K8 hK8 => ?_)
      refine wp_region_lit ?_
      refine sqv hf (r_eq rfl rfl) rfl rfl rfl ?_; clear hf fa; intro fa hf
      refine sqv hf (r_assign rfl) rfl rfl rfl ?_; clear hf fa; intro fa hf
      apply wpList_nil
      (try simp only [Exit.then, Exit.inBlock, ↓reduceIte, Nat.reduceEqDiff])
      refine hK8 _ _ ?_
      refine wp_cond_split (t := (decide (b = (125 : Int)))) (hf.ev rfl) (fun hqt8_1 => ?_) (fun hqt8_1 => ?_)
      · have hqt8_1b := hqt8_1
        try simp only [decide_eq_true_eq, Bool.and_eq_true, Bool.or_eq_true, Bool.not_eq_true', decide_eq_false_iff_not, ne_eq, Bool.not_eq_true] at hqt8_1
        refine wp_seq_k (fun K9 hK9 => ?_)
        refine wp_region_lit ?_
        refine sqv hf (r_assign rfl) rfl rfl rfl ?_; clear hf fa; intro fa hf
        apply wpList_nil
        (try simp only [Exit.then, Exit.inBlock, ↓reduceIte, Nat.reduceEqDiff])
        refine hK9 _ _ ?_
        refine wp_ret ?_
        (try simp only [Exit.then, Exit.inBlock])
        refine ret1 hf rfl rfl ?_
        refine ⟨?_, hb⟩; unfold tnameP; rw [hqt4_1b, hqt6_1b, hqt8_1b]; (try rfl)
      · have hqt8_1b := hqt8_1
        replace hqt8_1 := Bool.eq_false_iff.1 hqt8_1
        try simp only [ne_eq, decide_eq_true_eq, Bool.and_eq_true, Bool.or_eq_true, Bool.not_eq_true', decide_eq_false_iff_not] at hqt8_1
        refine wp_seq_k (fun K10 hK10 => ?_)
        refine wp_region_lit ?_
        refine sqv hf (r_eq rfl rfl) rfl rfl rfl ?_; clear hf fa; intro fa hf
        refine sqv hf (r_assign rfl) rfl rfl rfl ?_; clear hf fa; intro fa hf
        apply wpList_nil
        (try simp only [Exit.then, Exit.inBlock, ↓reduceIte, Nat.reduceEqDiff])
        refine hK10 _ _ ?_
        refine wp_cond_split (t := (decide (b = (124 : Int)))) (hf.ev rfl) (fun hqt10_1 => ?_) (fun hqt10_1 => ?_)
        · have hqt10_1b := hqt10_1
          try simp only [decide_eq_true_eq, Bool.and_eq_true, Bool.or_eq_true, Bool.not_eq_true', decide_eq_false_iff_not, ne_eq, Bool.not_eq_true] at hqt10_1
          refine wp_seq_k (fun K11 hK11 => ?_)
          refine wp_region_lit ?_
          refine sqv hf (r_assign rfl) rfl rfl rfl ?_; clear hf fa; intro fa hf
          apply wpList_nil
          (try simp only [Exit.then, Exit.inBlock, ↓reduceIte, Nat.reduceEqDiff])
          refine hK11 _ _ ?_
          refine wp_ret ?_
          (try simp only [Exit.then, Exit.inBlock])
          refine ret1 hf rfl rfl ?_
          refine ⟨?_, hb⟩; unfold tnameP; rw [hqt4_1b, hqt6_1b, hqt8_1b, hqt10_1b]; (try rfl)
        · have hqt10_1b := hqt10_1
          replace hqt10_1 := Bool.eq_false_iff.1 hqt10_1
          try simp only [ne_eq, decide_eq_true_eq, Bool.and_eq_true, Bool.or_eq_true, Bool.not_eq_true', decide_eq_false_iff_not] at hqt10_1
          refine wp_seq_k (fun K12 hK12 => ?_)
          refine wp_region_lit ?_
          refine sqv hf (r_eq rfl rfl) rfl rfl rfl ?_; clear hf fa; intro fa hf
          refine sqv hf (r_assign rfl) rfl rfl rfl ?_; clear hf fa; intro fa hf
          apply wpList_nil
          (try simp only [Exit.then, Exit.inBlock, ↓reduceIte, Nat.reduceEqDiff])
          refine hK12 _ _ ?_
          refine wp_cond_split (t := (decide (b = (112 : Int)))) (hf.ev rfl) (fun hqt12_1 => ?_) (fun hqt12_1 => ?_)
          · have hqt12_1b := hqt12_1
            try simp only [decide_eq_true_eq, Bool.and_eq_true, Bool.or_eq_true, Bool.not_eq_true', decide_eq_false_iff_not, ne_eq, Bool.not_eq_true] at hqt12_1
            refine wp_seq_k (fun K13 hK13 => ?_)
            refine wp_region_lit ?_
            refine sqv hf (r_assign rfl) rfl rfl rfl ?_; clear hf fa; intro fa hf
            apply wpList_nil
            (try simp only [Exit.then, Exit.inBlock, ↓reduceIte, Nat.reduceEqDiff])
            refine hK13 _ _ ?_
            refine wp_ret ?_
            (try simp only [Exit.then, Exit.inBlock])
            refine ret1 hf rfl rfl ?_
            refine ⟨?_, hb⟩; unfold tnameP; rw [hqt4_1b, hqt6_1b, hqt8_1b, hqt10_1b, hqt12_1b]; (try rfl)
          · have hqt12_1b := hqt12_1
            replace hqt12_1 := Bool.eq_false_iff.1 hqt12_1
            try simp only [ne_eq, decide_eq_true_eq, Bool.and_eq_true, Bool.or_eq_true, Bool.not_eq_true', decide_eq_false_iff_not] at hqt12_1
            refine wp_skip ?_
            (try simp only [Exit.then, Exit.inBlock, ↓reduceIte, Nat.reduceEqDiff])
            refine hK2 _ _ ?_
            refine wp_seq_k (fun K14 hK14 => ?_)
            refine wp_region_lit ?_
            refine sqv hf (r_assign rfl) rfl rfl rfl ?_; clear hf fa; intro fa hf
            apply wpList_nil
            (try simp only [Exit.then, Exit.inBlock, ↓reduceIte, Nat.reduceEqDiff])
            refine hK14 _ _ ?_
            refine wp_ret ?_
            (try simp only [Exit.then, Exit.inBlock])
            refine ret1 hf rfl rfl ?_
            refine ⟨?_, hb⟩; unfold tnameP; rw [hqt4_1b, hqt6_1b, hqt8_1b, hqt10_1b, hqt12_1b]; (try rfl)

theorem tnL_at (b : Int) (h : 124 ≤ b ∧ b ≤ 127) : ([(⟨#[105, 51, 50]⟩ : ByteArray), (⟨#[105, 54, 52]⟩ : ByteArray), (⟨#[102, 51, 50]⟩ : ByteArray), (⟨#[102, 54, 52]⟩ : ByteArray)] : List ByteArray)[127 - b.toNat]? = some (tnameP b) := by
  rcases (show b = 124 ∨ b = 125 ∨ b = 126 ∨ b = 127 by omega) with rfl | rfl | rfl | rfl <;> rfl
theorem tname_le (b : Int) : (tnameP b).size ≤ 7 := by
  unfold tnameP
  generalize decide (b = 127) = a1
  generalize decide (b = 126) = a2
  generalize decide (b = 125) = a3
  generalize decide (b = 124) = a4
  generalize decide (b = 112) = a5
  cases a1 <;> cases a2 <;> cases a3 <;> cases a4 <;> cases a5 <;> decide
theorem tname_no (b : Int) (h : ¬ (124 ≤ b ∧ b ≤ 127)) (h2 : b ≠ 112) : tnameP b = (⟨#[63]⟩ : ByteArray) := by
  unfold tnameP
  rw [decide_eq_false (by omega), decide_eq_false (by omega), decide_eq_false (by omega), decide_eq_false (by omega), decide_eq_false (by omega)]; rfl
set_option maxHeartbeats 1000000 in
set_option maxRecDepth 100000 in
theorem rname_any (b : Int) (w : World) (hb0 : -1000 ≤ b ∧ b ≤ 1000) : Calls Tryd.prog 23 #[(.int .i64 b)] w fun e w' => e = .returned (.string (tnameP b)) ∧ Below w.heap.size w w' := by
  refine sx_enter (L := [(0, (.int .i64 b))]) Tryd.func23 rfl rfl rfl rfl (fun fa hf => ?_)
  have hb : Below w.heap.size w w := Below.refl _ _
  refine wp_seq_k (fun K1 hK1 => ?_)
  refine wp_region_lit ?_
  refine sqv hf (r_assign rfl) rfl rfl rfl ?_; clear hf fa; intro fa hf
  apply wpList_nil
  (try simp only [Exit.then, Exit.inBlock, ↓reduceIte, Nat.reduceEqDiff])
  refine hK1 _ _ ?_
  refine wp_seq_k (fun K2 hK2 => ?_)
  refine wp_region_lit ?_
  refine sqdt hf (d_bslice (z := (.string ⟨#[]⟩)) (sz := 1) (vs := [(0, (.string ⟨#[105, 51, 50]⟩)), (1, (.string ⟨#[105, 54, 52]⟩)), (2, (.string ⟨#[102, 51, 50]⟩)), (3, (.string ⟨#[102, 54, 52]⟩))]) (cs := #[(.string ⟨#[105, 51, 50]⟩), (.string ⟨#[105, 54, 52]⟩), (.string ⟨#[102, 51, 50]⟩), (.string ⟨#[102, 54, 52]⟩)]) rfl Tryd.underlying43 (by kernel_rfl) rfl (by kernel_rfl)) rfl rfl rfl ?_; clear hf fa; rintro fa _ w1 ⟨b1, rfl, hle1, hk1, he1⟩ hf
  have hBb1 : w.heap.size ≤ b1 := Nat.le_trans hb.size hle1
  replace hb := hb.trans (Below.mono he1 hb.size)
  refine sqv hf (r_assign rfl) rfl rfl rfl ?_; clear hf fa; intro fa hf
  apply wpList_nil
  (try simp only [Exit.then, Exit.inBlock, ↓reduceIte, Nat.reduceEqDiff])
  refine hK2 _ _ ?_
  refine wp_seq_k (fun K3 hK3 => ?_)
  refine wp_seq_k (fun K4 hK4 => ?_)
  refine wp_region_lit ?_
  refine sqv hf (r_move rfl) rfl rfl rfl ?_; clear hf fa; intro fa hf
  refine sqv hf (r_ge rfl rfl) rfl rfl rfl ?_; clear hf fa; intro fa hf
  refine sqv hf (r_move rfl) rfl rfl rfl ?_; clear hf fa; intro fa hf
  refine sqgT (act := (decide ((124 : Int) ≤ b))) (ag := true) (c := (decide ((124 : Int) ≤ b))) (v := (.int .i64 b)) hf rfl rfl rfl (fun hact => (r_move rfl)) rfl rfl ?_; clear hf fa; intro fa hf
  refine sqgT (act := (decide ((124 : Int) ≤ b))) (ag := true) (c := (decide ((124 : Int) ≤ b))) (v := (.bool (decide (b ≤ (127 : Int))))) hf rfl rfl rfl (fun hact => (r_le (gb_ev hact rfl) rfl)) rfl rfl ?_; clear hf fa; intro fa hf
  refine sqv hf (r_pickA (b := (decide ((124 : Int) ≤ b))) (e := (decide (b ≤ (127 : Int)))) rfl rfl rfl) rfl rfl rfl ?_; clear hf fa; intro fa hf
  apply wpList_nil
  (try simp only [Exit.then, Exit.inBlock, ↓reduceIte, Nat.reduceEqDiff])
  refine hK4 _ _ ?_
  refine wp_cond_split (t := ((decide ((124 : Int) ≤ b)) && (decide (b ≤ (127 : Int))))) (hf.ev rfl) (fun hqt10_1 => ?_) (fun hqt10_1 => ?_)
  · have hqt10_1b := hqt10_1
    try simp only [decide_eq_true_eq, Bool.and_eq_true, Bool.or_eq_true, Bool.not_eq_true', decide_eq_false_iff_not, ne_eq, Bool.not_eq_true] at hqt10_1
    refine wp_seq_k (fun K5 hK5 => ?_)
    have hkk : 124 ≤ b ∧ b ≤ 127 := by have h := hqt10_1; omega
    have hr1 := Row.of_new (k := 1) (V := vStr) (l := [(⟨#[105, 51, 50]⟩ : ByteArray), (⟨#[105, 54, 52]⟩ : ByteArray), (⟨#[102, 51, 50]⟩ : ByteArray), (⟨#[102, 54, 52]⟩ : ByteArray)]) (base := w.heap.size) hk1 (by omega) rfl rfl (Nat.le_of_ble_eq_true rfl)
    skip
    refine wp_region_lit ?_
    refine sqv hf (r_move rfl) rfl rfl rfl ?_; clear hf fa; intro fa hf
    refine sqv hf (r_move rfl) rfl rfl rfl ?_; clear hf fa; intro fa hf
    refine sqv hf (r_sub (C := ((127 : Int) - b)) rfl rfl (by rw [IntKind.wrap_i64]; omega)) rfl rfl rfl ?_; clear hf fa; intro fa hf
    have hy1 : ([(⟨#[105, 51, 50]⟩ : ByteArray), (⟨#[105, 54, 52]⟩ : ByteArray), (⟨#[102, 51, 50]⟩ : ByteArray), (⟨#[102, 54, 52]⟩ : ByteArray)])[(127 - (b).toNat)]? = some (tnameP b) := (tnL_at b hkk)
    have hel1 := RdS.at (Row.rd (by intros; rfl) hr1) hy1
    obtain ⟨_, _, hab, hlr1, hel1⟩ := hel1
    cases hab
    refine sqv hf (r_ixa (sz := 1) (j := (127 - (b).toNat)) rfl rfl Tryd.underlying43 (by kernel_rfl) (by omega) (by omega) rfl) rfl rfl rfl ?_; clear hf fa; intro fa hf
    refine sqv hf (r_load (v := (.string (tnameP b))) rfl Tryd.underlying9 rfl (cellsAt_cell hel1 (i := 0) rfl rfl)) rfl rfl rfl ?_; clear hf fa; intro fa hf
    refine sqv hf (r_assign rfl) rfl rfl rfl ?_; clear hf fa; intro fa hf
    apply wpList_nil
    (try simp only [Exit.then, Exit.inBlock, ↓reduceIte, Nat.reduceEqDiff])
    refine hK5 _ _ ?_
    refine wp_ret ?_
    (try simp only [Exit.then, Exit.inBlock])
    refine ret1 hf rfl rfl ?_
    refine ⟨congrArg (fun s => Ending.returned (.string s)) ?_, hb⟩; rfl
  · have hqt10_1b := hqt10_1
    replace hqt10_1 := Bool.eq_false_iff.1 hqt10_1
    try simp only [ne_eq, decide_eq_true_eq, Bool.and_eq_true, Bool.or_eq_true, Bool.not_eq_true', decide_eq_false_iff_not] at hqt10_1
    refine wp_skip ?_
    (try simp only [Exit.then, Exit.inBlock, ↓reduceIte, Nat.reduceEqDiff])
    refine hK3 _ _ ?_
    refine wp_seq_k (fun K6 hK6 => ?_)
    refine wp_seq_k (fun K7 hK7 => ?_)
    refine wp_region_lit ?_
    refine sqv hf (r_move rfl) rfl rfl rfl ?_; clear hf fa; intro fa hf
    refine sqv hf (r_eq rfl rfl) rfl rfl rfl ?_; clear hf fa; intro fa hf
    apply wpList_nil
    (try simp only [Exit.then, Exit.inBlock, ↓reduceIte, Nat.reduceEqDiff])
    refine hK7 _ _ ?_
    refine wp_cond_split (t := (decide (b = (112 : Int)))) (hf.ev rfl) (fun hqt17_1 => ?_) (fun hqt17_1 => ?_)
    · have hqt17_1b := hqt17_1
      try simp only [decide_eq_true_eq, Bool.and_eq_true, Bool.or_eq_true, Bool.not_eq_true', decide_eq_false_iff_not, ne_eq, Bool.not_eq_true] at hqt17_1
      refine wp_seq_k (fun K8 hK8 => ?_)
      refine wp_region_lit ?_
      refine sqv hf (r_assign rfl) rfl rfl rfl ?_; clear hf fa; intro fa hf
      apply wpList_nil
      (try simp only [Exit.then, Exit.inBlock, ↓reduceIte, Nat.reduceEqDiff])
      refine hK8 _ _ ?_
      refine wp_ret ?_
      (try simp only [Exit.then, Exit.inBlock])
      refine ret1 hf rfl rfl ?_
      refine ⟨congrArg (fun s => Ending.returned (.string s)) ?_, hb⟩; rw [hqt17_1]; rfl
    · have hqt17_1b := hqt17_1
      replace hqt17_1 := Bool.eq_false_iff.1 hqt17_1
      try simp only [ne_eq, decide_eq_true_eq, Bool.and_eq_true, Bool.or_eq_true, Bool.not_eq_true', decide_eq_false_iff_not] at hqt17_1
      refine wp_skip ?_
      (try simp only [Exit.then, Exit.inBlock, ↓reduceIte, Nat.reduceEqDiff])
      refine hK6 _ _ ?_
      refine wp_seq_k (fun K9 hK9 => ?_)
      refine wp_region_lit ?_
      refine sqv hf (r_assign rfl) rfl rfl rfl ?_; clear hf fa; intro fa hf
      apply wpList_nil
      (try simp only [Exit.then, Exit.inBlock, ↓reduceIte, Nat.reduceEqDiff])
      refine hK9 _ _ ?_
      refine wp_ret ?_
      (try simp only [Exit.then, Exit.inBlock])
      refine ret1 hf rfl rfl ?_
      refine ⟨congrArg (fun s => Ending.returned (.string s)) ?_, hb⟩; exact (tname_no b (by have h := hqt10_1; omega) hqt17_1).symm

def valP (b : Int) : Int := if b = 127 ∨ b = 126 then 0 else if b = 125 ∨ b = 124 then 8 else 7

set_option maxHeartbeats 1000000 in
set_option maxRecDepth 100000 in
theorem tval_any (b : Int) (w : World) : Calls Tryd.prog 72 #[(.int .u8 b)] w fun e w' => e = .returned (.int .i64 (valP b)) ∧ Below w.heap.size w w' := by
  refine sx_enter (L := [(0, (.int .u8 b))]) Tryd.func72 rfl rfl rfl rfl (fun fa hf => ?_)
  have hb : Below w.heap.size w w := Below.refl _ _
  refine wp_seq_k (fun K1 hK1 => ?_)
  refine wp_region_lit ?_
  refine sqv hf (r_assign rfl) rfl rfl rfl ?_; clear hf fa; intro fa hf
  apply wpList_nil
  (try simp only [Exit.then, Exit.inBlock, ↓reduceIte, Nat.reduceEqDiff])
  refine hK1 _ _ ?_
  refine wp_seq_k (fun K2 hK2 => ?_)
  refine wp_seq_k (fun K3 hK3 => ?_)
  refine wp_region_lit ?_
  refine sqv hf (r_move rfl) rfl rfl rfl ?_; clear hf fa; intro fa hf
  apply wpList_nil
  (try simp only [Exit.then, Exit.inBlock, ↓reduceIte, Nat.reduceEqDiff])
  refine hK3 _ _ ?_
  refine wp_block ?_
  refine wp_seq_k (fun K4 hK4 => ?_)
  refine wp_seq_k (fun K5 hK5 => ?_)
  refine wp_region_lit ?_
  refine sqv hf (r_eq rfl rfl) rfl rfl rfl ?_; clear hf fa; intro fa hf
  refine sqv hf (r_assign rfl) rfl rfl rfl ?_; clear hf fa; intro fa hf
  apply wpList_nil
  (try simp only [Exit.then, Exit.inBlock, ↓reduceIte, Nat.reduceEqDiff])
  refine hK5 _ _ ?_
  refine wp_cond_split (t := (decide (b = (127 : Int)))) (hf.ev rfl) (fun hqt4_1 => ?_) (fun hqt4_1 => ?_)
  · have hqt4_1b := hqt4_1
    try simp only [decide_eq_true_eq, Bool.and_eq_true, Bool.or_eq_true, Bool.not_eq_true', decide_eq_false_iff_not, ne_eq, Bool.not_eq_true] at hqt4_1
    refine wp_skip ?_
    (try simp only [Exit.then, Exit.inBlock, ↓reduceIte, Nat.reduceEqDiff])
    refine hK4 _ _ ?_
    refine wp_cond_true ((hf.ev rfl).trans (congrArg Value.bool (show (decide (b = (127 : Int))) = true from hqt4_1b))) ?_
    refine wp_seq_k (fun K6 hK6 => ?_)
    refine wp_region_lit ?_
    refine sqv hf (r_assign rfl) rfl rfl rfl ?_; clear hf fa; intro fa hf
    apply wpList_nil
    (try simp only [Exit.then, Exit.inBlock, ↓reduceIte, Nat.reduceEqDiff])
    refine hK6 _ _ ?_
    refine wp_ret ?_
    (try simp only [Exit.then, Exit.inBlock])
    refine ret1 hf rfl rfl ?_
    refine ⟨congrArg (fun n => Ending.returned (.int .i64 n)) ?_, hb⟩; unfold valP; (repeat' split) <;> omega
  · have hqt4_1b := hqt4_1
    replace hqt4_1 := Bool.eq_false_iff.1 hqt4_1
    try simp only [ne_eq, decide_eq_true_eq, Bool.and_eq_true, Bool.or_eq_true, Bool.not_eq_true', decide_eq_false_iff_not] at hqt4_1
    refine wp_region_lit ?_
    refine sqv hf (r_eq rfl rfl) rfl rfl rfl ?_; clear hf fa; intro fa hf
    refine sqv hf (r_assign rfl) rfl rfl rfl ?_; clear hf fa; intro fa hf
    apply wpList_nil
    (try simp only [Exit.then, Exit.inBlock, ↓reduceIte, Nat.reduceEqDiff])
    refine hK4 _ _ ?_
    refine wp_cond_split (t := (decide (b = (126 : Int)))) (hf.ev rfl) (fun hqt4_3 => ?_) (fun hqt4_3 => ?_)
    · have hqt4_3b := hqt4_3
      try simp only [decide_eq_true_eq, Bool.and_eq_true, Bool.or_eq_true, Bool.not_eq_true', decide_eq_false_iff_not, ne_eq, Bool.not_eq_true] at hqt4_3
      refine wp_seq_k (fun K7 hK7 => ?_)
      refine wp_region_lit ?_
      refine sqv hf (r_assign rfl) rfl rfl rfl ?_; clear hf fa; intro fa hf
      apply wpList_nil
      (try simp only [Exit.then, Exit.inBlock, ↓reduceIte, Nat.reduceEqDiff])
      refine hK7 _ _ ?_
      refine wp_ret ?_
      (try simp only [Exit.then, Exit.inBlock])
      refine ret1 hf rfl rfl ?_
      refine ⟨congrArg (fun n => Ending.returned (.int .i64 n)) ?_, hb⟩; unfold valP; (repeat' split) <;> omega
    · have hqt4_3b := hqt4_3
      replace hqt4_3 := Bool.eq_false_iff.1 hqt4_3
      try simp only [ne_eq, decide_eq_true_eq, Bool.and_eq_true, Bool.or_eq_true, Bool.not_eq_true', decide_eq_false_iff_not] at hqt4_3
      refine wp_seq_k (fun K8 hK8 => ?_)
      refine wp_seq_k (fun K9 hK9 => ?_)
      refine wp_region_lit ?_
      refine sqv hf (r_eq rfl rfl) rfl rfl rfl ?_; clear hf fa; intro fa hf
      refine sqv hf (r_assign rfl) rfl rfl rfl ?_; clear hf fa; intro fa hf
      apply wpList_nil
      (try simp only [Exit.then, Exit.inBlock, ↓reduceIte, Nat.reduceEqDiff])
      refine hK9 _ _ ?_
      refine wp_cond_split (t := (decide (b = (125 : Int)))) (hf.ev rfl) (fun hqt7_1 => ?_) (fun hqt7_1 => ?_)
      · have hqt7_1b := hqt7_1
        try simp only [decide_eq_true_eq, Bool.and_eq_true, Bool.or_eq_true, Bool.not_eq_true', decide_eq_false_iff_not, ne_eq, Bool.not_eq_true] at hqt7_1
        refine wp_skip ?_
        (try simp only [Exit.then, Exit.inBlock, ↓reduceIte, Nat.reduceEqDiff])
        refine hK8 _ _ ?_
        refine wp_cond_true ((hf.ev rfl).trans (congrArg Value.bool (show (decide (b = (125 : Int))) = true from hqt7_1b))) ?_
        refine wp_seq_k (fun K10 hK10 => ?_)
        refine wp_region_lit ?_
        refine sqv hf (r_assign rfl) rfl rfl rfl ?_; clear hf fa; intro fa hf
        apply wpList_nil
        (try simp only [Exit.then, Exit.inBlock, ↓reduceIte, Nat.reduceEqDiff])
        refine hK10 _ _ ?_
        refine wp_ret ?_
        (try simp only [Exit.then, Exit.inBlock])
        refine ret1 hf rfl rfl ?_
        refine ⟨congrArg (fun n => Ending.returned (.int .i64 n)) ?_, hb⟩; unfold valP; (repeat' split) <;> omega
      · have hqt7_1b := hqt7_1
        replace hqt7_1 := Bool.eq_false_iff.1 hqt7_1
        try simp only [ne_eq, decide_eq_true_eq, Bool.and_eq_true, Bool.or_eq_true, Bool.not_eq_true', decide_eq_false_iff_not] at hqt7_1
        refine wp_region_lit ?_
        refine sqv hf (r_eq rfl rfl) rfl rfl rfl ?_; clear hf fa; intro fa hf
        refine sqv hf (r_assign rfl) rfl rfl rfl ?_; clear hf fa; intro fa hf
        apply wpList_nil
        (try simp only [Exit.then, Exit.inBlock, ↓reduceIte, Nat.reduceEqDiff])
        refine hK8 _ _ ?_
        refine wp_cond_split (t := (decide (b = (124 : Int)))) (hf.ev rfl) (fun hqt7_3 => ?_) (fun hqt7_3 => ?_)
        · have hqt7_3b := hqt7_3
          try simp only [decide_eq_true_eq, Bool.and_eq_true, Bool.or_eq_true, Bool.not_eq_true', decide_eq_false_iff_not, ne_eq, Bool.not_eq_true] at hqt7_3
          refine wp_seq_k (fun K11 hK11 => ?_)
          refine wp_region_lit ?_
          refine sqv hf (r_assign rfl) rfl rfl rfl ?_; clear hf fa; intro fa hf
          apply wpList_nil
          (try simp only [Exit.then, Exit.inBlock, ↓reduceIte, Nat.reduceEqDiff])
          refine hK11 _ _ ?_
          refine wp_ret ?_
          (try simp only [Exit.then, Exit.inBlock])
          refine ret1 hf rfl rfl ?_
          refine ⟨congrArg (fun n => Ending.returned (.int .i64 n)) ?_, hb⟩; unfold valP; (repeat' split) <;> omega
        · have hqt7_3b := hqt7_3
          replace hqt7_3 := Bool.eq_false_iff.1 hqt7_3
          try simp only [ne_eq, decide_eq_true_eq, Bool.and_eq_true, Bool.or_eq_true, Bool.not_eq_true', decide_eq_false_iff_not] at hqt7_3
          refine wp_skip ?_
          (try simp only [Exit.then, Exit.inBlock, ↓reduceIte, Nat.reduceEqDiff])
          refine hK2 _ _ ?_
          refine wp_seq_k (fun K12 hK12 => ?_)
          refine wp_region_lit ?_
          refine sqv hf (r_assign rfl) rfl rfl rfl ?_; clear hf fa; intro fa hf
          apply wpList_nil
          (try simp only [Exit.then, Exit.inBlock, ↓reduceIte, Nat.reduceEqDiff])
          refine hK12 _ _ ?_
          refine wp_ret ?_
          (try simp only [Exit.then, Exit.inBlock])
          refine ret1 hf rfl rfl ?_
          refine ⟨congrArg (fun n => Ending.returned (.int .i64 n)) ?_, hb⟩; unfold valP; (repeat' split) <;> omega

set_option maxHeartbeats 1000000 in
set_option maxRecDepth 100000 in
theorem rval_any (b : Int) (w : World) : Calls Tryd.prog 30 #[(.int .i64 b)] w fun e w' => e = .returned (.int .i64 (valP b)) ∧ Below w.heap.size w w' := by
  refine sx_enter (L := [(0, (.int .i64 b))]) Tryd.func30 rfl rfl rfl rfl (fun fa hf => ?_)
  have hb : Below w.heap.size w w := Below.refl _ _
  refine wp_seq_k (fun K1 hK1 => ?_)
  refine wp_region_lit ?_
  refine sqv hf (r_assign rfl) rfl rfl rfl ?_; clear hf fa; intro fa hf
  apply wpList_nil
  (try simp only [Exit.then, Exit.inBlock, ↓reduceIte, Nat.reduceEqDiff])
  refine hK1 _ _ ?_
  refine wp_seq_k (fun K2 hK2 => ?_)
  refine wp_seq_k (fun K3 hK3 => ?_)
  refine wp_region_lit ?_
  refine sqv hf (r_move rfl) rfl rfl rfl ?_; clear hf fa; intro fa hf
  refine sqv hf (r_eq rfl rfl) rfl rfl rfl ?_; clear hf fa; intro fa hf
  refine sqv hf (r_move rfl) rfl rfl rfl ?_; clear hf fa; intro fa hf
  refine sqgF (act := (!(decide (b = (127 : Int))))) (ag := true) (c := (decide (b = (127 : Int)))) (v := (.int .i64 b)) hf rfl rfl rfl (fun hact => (r_move rfl)) rfl rfl ?_; clear hf fa; intro fa hf
  refine sqgF (act := (!(decide (b = (127 : Int))))) (ag := true) (c := (decide (b = (127 : Int)))) (v := (.bool (decide (b = (126 : Int))))) hf rfl rfl rfl (fun hact => (r_eq (gb_ev hact rfl) rfl)) rfl rfl ?_; clear hf fa; intro fa hf
  refine sqv hf (r_pickO (b := (decide (b = (127 : Int)))) (e := (decide (b = (126 : Int)))) rfl rfl rfl) rfl rfl rfl ?_; clear hf fa; intro fa hf
  apply wpList_nil
  (try simp only [Exit.then, Exit.inBlock, ↓reduceIte, Nat.reduceEqDiff])
  refine hK3 _ _ ?_
  refine wp_cond_split (t := ((decide (b = (127 : Int))) || (decide (b = (126 : Int))))) (hf.ev rfl) (fun hqt8_1 => ?_) (fun hqt8_1 => ?_)
  · have hqt8_1b := hqt8_1
    try simp only [decide_eq_true_eq, Bool.and_eq_true, Bool.or_eq_true, Bool.not_eq_true', decide_eq_false_iff_not, ne_eq, Bool.not_eq_true] at hqt8_1
    refine wp_seq_k (fun K4 hK4 => ?_)
    refine wp_region_lit ?_
    refine sqv hf (r_assign rfl) rfl rfl rfl ?_; clear hf fa; intro fa hf
    apply wpList_nil
    (try simp only [Exit.then, Exit.inBlock, ↓reduceIte, Nat.reduceEqDiff])
    refine hK4 _ _ ?_
    refine wp_ret ?_
    (try simp only [Exit.then, Exit.inBlock])
    refine ret1 hf rfl rfl ?_
    refine ⟨congrArg (fun n => Ending.returned (.int .i64 n)) ?_, hb⟩; unfold valP; (repeat' split) <;> omega
  · have hqt8_1b := hqt8_1
    replace hqt8_1 := Bool.eq_false_iff.1 hqt8_1
    try simp only [ne_eq, decide_eq_true_eq, Bool.and_eq_true, Bool.or_eq_true, Bool.not_eq_true', decide_eq_false_iff_not] at hqt8_1
    refine wp_skip ?_
    (try simp only [Exit.then, Exit.inBlock, ↓reduceIte, Nat.reduceEqDiff])
    refine hK2 _ _ ?_
    refine wp_seq_k (fun K5 hK5 => ?_)
    refine wp_seq_k (fun K6 hK6 => ?_)
    refine wp_region_lit ?_
    refine sqv hf (r_move rfl) rfl rfl rfl ?_; clear hf fa; intro fa hf
    refine sqv hf (r_eq rfl rfl) rfl rfl rfl ?_; clear hf fa; intro fa hf
    refine sqv hf (r_move rfl) rfl rfl rfl ?_; clear hf fa; intro fa hf
    refine sqgF (act := (!(decide (b = (125 : Int))))) (ag := true) (c := (decide (b = (125 : Int)))) (v := (.int .i64 b)) hf rfl rfl rfl (fun hact => (r_move rfl)) rfl rfl ?_; clear hf fa; intro fa hf
    refine sqgF (act := (!(decide (b = (125 : Int))))) (ag := true) (c := (decide (b = (125 : Int)))) (v := (.bool (decide (b = (124 : Int))))) hf rfl rfl rfl (fun hact => (r_eq (gb_ev hact rfl) rfl)) rfl rfl ?_; clear hf fa; intro fa hf
    refine sqv hf (r_pickO (b := (decide (b = (125 : Int)))) (e := (decide (b = (124 : Int)))) rfl rfl rfl) rfl rfl rfl ?_; clear hf fa; intro fa hf
    apply wpList_nil
    (try simp only [Exit.then, Exit.inBlock, ↓reduceIte, Nat.reduceEqDiff])
    refine hK6 _ _ ?_
    refine wp_cond_split (t := ((decide (b = (125 : Int))) || (decide (b = (124 : Int))))) (hf.ev rfl) (fun hqt14_1 => ?_) (fun hqt14_1 => ?_)
    · have hqt14_1b := hqt14_1
      try simp only [decide_eq_true_eq, Bool.and_eq_true, Bool.or_eq_true, Bool.not_eq_true', decide_eq_false_iff_not, ne_eq, Bool.not_eq_true] at hqt14_1
      refine wp_seq_k (fun K7 hK7 => ?_)
      refine wp_region_lit ?_
      refine sqv hf (r_assign rfl) rfl rfl rfl ?_; clear hf fa; intro fa hf
      apply wpList_nil
      (try simp only [Exit.then, Exit.inBlock, ↓reduceIte, Nat.reduceEqDiff])
      refine hK7 _ _ ?_
      refine wp_ret ?_
      (try simp only [Exit.then, Exit.inBlock])
      refine ret1 hf rfl rfl ?_
      refine ⟨congrArg (fun n => Ending.returned (.int .i64 n)) ?_, hb⟩; unfold valP; (repeat' split) <;> omega
    · have hqt14_1b := hqt14_1
      replace hqt14_1 := Bool.eq_false_iff.1 hqt14_1
      try simp only [ne_eq, decide_eq_true_eq, Bool.and_eq_true, Bool.or_eq_true, Bool.not_eq_true', decide_eq_false_iff_not] at hqt14_1
      refine wp_skip ?_
      (try simp only [Exit.then, Exit.inBlock, ↓reduceIte, Nat.reduceEqDiff])
      refine hK5 _ _ ?_
      refine wp_seq_k (fun K8 hK8 => ?_)
      refine wp_region_lit ?_
      refine sqv hf (r_assign rfl) rfl rfl rfl ?_; clear hf fa; intro fa hf
      apply wpList_nil
      (try simp only [Exit.then, Exit.inBlock, ↓reduceIte, Nat.reduceEqDiff])
      refine hK8 _ _ ?_
      refine wp_ret ?_
      (try simp only [Exit.then, Exit.inBlock])
      refine ret1 hf rfl rfl ?_
      refine ⟨congrArg (fun n => Ending.returned (.int .i64 n)) ?_, hb⟩; unfold valP; (repeat' split) <;> omega

set_option maxHeartbeats 1000000 in
set_option maxRecDepth 100000 in
theorem iblk_any (A : Int) (w : World) (hA : 0 ≤ A ∧ A < 18446744073709551616) : Calls Tryd.prog 44 #[(.int .u64 A)] w fun e w' => e = .returned (.int .i64 (blkP A)) ∧ Below w.heap.size w w' := by
  refine sx_enter (L := [(0, (.int .u64 A))]) Tryd.func44 rfl rfl rfl rfl (fun fa hf => ?_)
  have hb : Below w.heap.size w w := Below.refl _ _
  refine wp_seq_k (fun K1 hK1 => ?_)
  refine wp_region_lit ?_
  refine sqv hf (r_assign rfl) rfl rfl rfl ?_; clear hf fa; intro fa hf
  apply wpList_nil
  (try simp only [Exit.then, Exit.inBlock, ↓reduceIte, Nat.reduceEqDiff])
  refine hK1 _ _ ?_
  refine wp_seq_k (fun K2 hK2 => ?_)
  refine wp_block ?_
  refine wp_seq_k (fun K3 hK3 => ?_)
  refine wp_region_lit ?_
  refine sqv hf (r_move rfl) rfl rfl rfl ?_; clear hf fa; intro fa hf
  refine sqv hf (r_eq rfl rfl) rfl rfl rfl ?_; clear hf fa; intro fa hf
  refine sqv hf (r_assign rfl) rfl rfl rfl ?_; clear hf fa; intro fa hf
  apply wpList_nil
  (try simp only [Exit.then, Exit.inBlock, ↓reduceIte, Nat.reduceEqDiff])
  refine hK3 _ _ ?_
  refine wp_cond_split (t := (decide (A = (64 : Int)))) (hf.ev rfl) (fun hqt3_1 => ?_) (fun hqt3_1 => ?_)
  · have hqt3_1b := hqt3_1
    try simp only [decide_eq_true_eq, Bool.and_eq_true, Bool.or_eq_true, Bool.not_eq_true', decide_eq_false_iff_not, ne_eq, Bool.not_eq_true] at hqt3_1
    refine wp_seq_k (fun K4 hK4 => ?_)
    refine wp_region_lit ?_
    refine sqv hf (r_assign rfl) rfl rfl rfl ?_; clear hf fa; intro fa hf
    apply wpList_nil
    (try simp only [Exit.then, Exit.inBlock, ↓reduceIte, Nat.reduceEqDiff])
    refine hK4 _ _ ?_
    refine wp_ret ?_
    (try simp only [Exit.then, Exit.inBlock])
    refine ret1 hf rfl rfl ?_
    refine ⟨congrArg (fun n => Ending.returned (.int .i64 n)) ?_, hb⟩; unfold blkP; (repeat' split) <;> omega
  · have hqt3_1b := hqt3_1
    replace hqt3_1 := Bool.eq_false_iff.1 hqt3_1
    try simp only [ne_eq, decide_eq_true_eq, Bool.and_eq_true, Bool.or_eq_true, Bool.not_eq_true', decide_eq_false_iff_not] at hqt3_1
    refine wp_seq_k (fun K5 hK5 => ?_)
    refine wp_region_lit ?_
    refine sqv hf (r_move rfl) rfl rfl rfl ?_; clear hf fa; intro fa hf
    refine sqv hf (r_gt rfl rfl) rfl rfl rfl ?_; clear hf fa; intro fa hf
    refine sqv hf (r_assign rfl) rfl rfl rfl ?_; clear hf fa; intro fa hf
    apply wpList_nil
    (try simp only [Exit.then, Exit.inBlock, ↓reduceIte, Nat.reduceEqDiff])
    refine hK5 _ _ ?_
    refine wp_cond_split (t := (decide ((255 : Int) < A))) (hf.ev rfl) (fun hqt6_1 => ?_) (fun hqt6_1 => ?_)
    · have hqt6_1b := hqt6_1
      try simp only [decide_eq_true_eq, Bool.and_eq_true, Bool.or_eq_true, Bool.not_eq_true', decide_eq_false_iff_not, ne_eq, Bool.not_eq_true] at hqt6_1
      refine wp_seq_k (fun K6 hK6 => ?_)
      refine wp_region_lit ?_
      refine sqv hf (r_assign rfl) rfl rfl rfl ?_; clear hf fa; intro fa hf
      apply wpList_nil
      (try simp only [Exit.then, Exit.inBlock, ↓reduceIte, Nat.reduceEqDiff])
      refine hK6 _ _ ?_
      refine wp_ret ?_
      (try simp only [Exit.then, Exit.inBlock])
      refine ret1 hf rfl rfl ?_
      refine ⟨congrArg (fun n => Ending.returned (.int .i64 n)) ?_, hb⟩; unfold blkP; (repeat' split) <;> omega
    · have hqt6_1b := hqt6_1
      replace hqt6_1 := Bool.eq_false_iff.1 hqt6_1
      try simp only [ne_eq, decide_eq_true_eq, Bool.and_eq_true, Bool.or_eq_true, Bool.not_eq_true', decide_eq_false_iff_not] at hqt6_1
      refine wp_skip ?_
      (try simp only [Exit.then, Exit.inBlock, ↓reduceIte, Nat.reduceEqDiff])
      refine hK2 _ _ ?_
      refine wp_seq_k (fun K7 hK7 => ?_)
      refine wp_region_lit ?_
      refine sqv hf (r_move rfl) rfl rfl rfl ?_; clear hf fa; intro fa hf
      refine sqv hf (r_conv (C := A) rfl Tryd.underlying22 Tryd.underlying5 (by rw [IntKind.wrap_u8]; omega)) rfl rfl rfl ?_; clear hf fa; intro fa hf
      refine sqdt hf (d_callB (vs := [(.int .u8 A)]) rfl Tryd.func72 (by kernel_rfl) (by kernel_rfl) (tval_any A _)) rfl rfl rfl ?_; clear hf fa; rintro fa _ w1 ⟨rfl, he1⟩ hf
      replace hb := hb.trans (Below.mono he1 hb.size)
      refine sqv hf (r_assign rfl) rfl rfl rfl ?_; clear hf fa; intro fa hf
      apply wpList_nil
      (try simp only [Exit.then, Exit.inBlock, ↓reduceIte, Nat.reduceEqDiff])
      refine hK7 _ _ ?_
      refine wp_ret ?_
      (try simp only [Exit.then, Exit.inBlock])
      refine ret1 hf rfl rfl ?_
      refine ⟨congrArg (fun n => Ending.returned (.int .i64 n)) ?_, hb⟩; unfold blkP; unfold valP; (repeat' split) <;> omega

def unlP (b : Bool) : Int := if b = true then 0 else 1

set_option maxHeartbeats 1000000 in
set_option maxRecDepth 100000 in
theorem unl_any (b : Bool) (w : World) : Calls Tryd.prog 43 #[(.bool b)] w fun e w' => e = .returned (.int .i64 (unlP b)) ∧ Below w.heap.size w w' := by
  refine sx_enter (L := [(0, (.bool b))]) Tryd.func43 rfl rfl rfl rfl (fun fa hf => ?_)
  have hb : Below w.heap.size w w := Below.refl _ _
  refine wp_seq_k (fun K1 hK1 => ?_)
  refine wp_region_lit ?_
  refine sqv hf (r_assign rfl) rfl rfl rfl ?_; clear hf fa; intro fa hf
  apply wpList_nil
  (try simp only [Exit.then, Exit.inBlock, ↓reduceIte, Nat.reduceEqDiff])
  refine hK1 _ _ ?_
  refine wp_seq_k (fun K2 hK2 => ?_)
  refine wp_seq_k (fun K3 hK3 => ?_)
  refine wp_region_lit ?_
  refine sqv hf (r_move rfl) rfl rfl rfl ?_; clear hf fa; intro fa hf
  apply wpList_nil
  (try simp only [Exit.then, Exit.inBlock, ↓reduceIte, Nat.reduceEqDiff])
  refine hK3 _ _ ?_
  refine wp_cond_split (t := b) (hf.ev rfl) (fun hqt3_1 => ?_) (fun hqt3_1 => ?_)
  · have hqt3_1b := hqt3_1
    try simp only [decide_eq_true_eq, Bool.and_eq_true, Bool.or_eq_true, Bool.not_eq_true', decide_eq_false_iff_not, ne_eq, Bool.not_eq_true] at hqt3_1
    refine wp_seq_k (fun K4 hK4 => ?_)
    refine wp_region_lit ?_
    refine sqv hf (r_assign rfl) rfl rfl rfl ?_; clear hf fa; intro fa hf
    apply wpList_nil
    (try simp only [Exit.then, Exit.inBlock, ↓reduceIte, Nat.reduceEqDiff])
    refine hK4 _ _ ?_
    refine wp_ret ?_
    (try simp only [Exit.then, Exit.inBlock])
    refine ret1 hf rfl rfl ?_
    refine ⟨congrArg (fun n => Ending.returned (.int .i64 n)) ?_, hb⟩; unfold unlP; rw [if_pos hqt3_1]
  · have hqt3_1b := hqt3_1
    replace hqt3_1 := Bool.eq_false_iff.1 hqt3_1
    try simp only [ne_eq, decide_eq_true_eq, Bool.and_eq_true, Bool.or_eq_true, Bool.not_eq_true', decide_eq_false_iff_not] at hqt3_1
    refine wp_skip ?_
    (try simp only [Exit.then, Exit.inBlock, ↓reduceIte, Nat.reduceEqDiff])
    refine hK2 _ _ ?_
    refine wp_seq_k (fun K5 hK5 => ?_)
    refine wp_region_lit ?_
    refine sqv hf (r_assign rfl) rfl rfl rfl ?_; clear hf fa; intro fa hf
    apply wpList_nil
    (try simp only [Exit.then, Exit.inBlock, ↓reduceIte, Nat.reduceEqDiff])
    refine hK5 _ _ ?_
    refine wp_ret ?_
    (try simp only [Exit.then, Exit.inBlock])
    refine ret1 hf rfl rfl ?_
    refine ⟨congrArg (fun n => Ending.returned (.int .i64 n)) ?_, hb⟩; unfold unlP; rw [if_neg hqt3_1]

def mnyP (b : Int) : Int := if b = 3 then 29 else 1

set_option maxHeartbeats 1000000 in
set_option maxRecDepth 100000 in
theorem mny_any (b : Int) (w : World) : Calls Tryd.prog 42 #[(.int .i64 b)] w fun e w' => e = .returned (.int .i64 (mnyP b)) ∧ Below w.heap.size w w' := by
  refine sx_enter (L := [(0, (.int .i64 b))]) Tryd.func42 rfl rfl rfl rfl (fun fa hf => ?_)
  have hb : Below w.heap.size w w := Below.refl _ _
  refine wp_seq_k (fun K1 hK1 => ?_)
  refine wp_region_lit ?_
  refine sqv hf (r_assign rfl) rfl rfl rfl ?_; clear hf fa; intro fa hf
  apply wpList_nil
  (try simp only [Exit.then, Exit.inBlock, ↓reduceIte, Nat.reduceEqDiff])
  refine hK1 _ _ ?_
  refine wp_seq_k (fun K2 hK2 => ?_)
  refine wp_seq_k (fun K3 hK3 => ?_)
  refine wp_region_lit ?_
  refine sqv hf (r_move rfl) rfl rfl rfl ?_; clear hf fa; intro fa hf
  refine sqv hf (r_eq rfl rfl) rfl rfl rfl ?_; clear hf fa; intro fa hf
  apply wpList_nil
  (try simp only [Exit.then, Exit.inBlock, ↓reduceIte, Nat.reduceEqDiff])
  refine hK3 _ _ ?_
  refine wp_cond_split (t := (decide (b = (3 : Int)))) (hf.ev rfl) (fun hqt4_1 => ?_) (fun hqt4_1 => ?_)
  · have hqt4_1b := hqt4_1
    try simp only [decide_eq_true_eq, Bool.and_eq_true, Bool.or_eq_true, Bool.not_eq_true', decide_eq_false_iff_not, ne_eq, Bool.not_eq_true] at hqt4_1
    refine wp_seq_k (fun K4 hK4 => ?_)
    refine wp_region_lit ?_
    refine sqv hf (r_assign rfl) rfl rfl rfl ?_; clear hf fa; intro fa hf
    apply wpList_nil
    (try simp only [Exit.then, Exit.inBlock, ↓reduceIte, Nat.reduceEqDiff])
    refine hK4 _ _ ?_
    refine wp_ret ?_
    (try simp only [Exit.then, Exit.inBlock])
    refine ret1 hf rfl rfl ?_
    refine ⟨congrArg (fun n => Ending.returned (.int .i64 n)) ?_, hb⟩; unfold mnyP; (repeat' split) <;> omega
  · have hqt4_1b := hqt4_1
    replace hqt4_1 := Bool.eq_false_iff.1 hqt4_1
    try simp only [ne_eq, decide_eq_true_eq, Bool.and_eq_true, Bool.or_eq_true, Bool.not_eq_true', decide_eq_false_iff_not] at hqt4_1
    refine wp_skip ?_
    (try simp only [Exit.then, Exit.inBlock, ↓reduceIte, Nat.reduceEqDiff])
    refine hK2 _ _ ?_
    refine wp_seq_k (fun K5 hK5 => ?_)
    refine wp_region_lit ?_
    refine sqv hf (r_assign rfl) rfl rfl rfl ?_; clear hf fa; intro fa hf
    apply wpList_nil
    (try simp only [Exit.then, Exit.inBlock, ↓reduceIte, Nat.reduceEqDiff])
    refine hK5 _ _ ?_
    refine wp_ret ?_
    (try simp only [Exit.then, Exit.inBlock])
    refine ret1 hf rfl rfl ?_
    refine ⟨congrArg (fun n => Ending.returned (.int .i64 n)) ?_, hb⟩; unfold mnyP; (repeat' split) <;> omega

set_option maxHeartbeats 1000000 in
set_option maxRecDepth 100000 in
theorem iright_any (op : Nat) (A B : Int) (L : List Int) (a : Option Addr) (c : Nat) (w : World) (hop : op < 256) (hA : 0 ≤ A ∧ A < 18446744073709551616) (hB : 0 ≤ B ∧ B < 18446744073709551616) (hc : L.length ≤ c) (hn : L.length ≤ 100000) : Calls Tryd.prog 19 #[(.agg #[(.int .u8 ((op : Nat) : Int)), (.int .u64 A), (.int .u64 B), (.slice a L.length c)])] w fun e w' => e = .returned (.int .i64 (rightP op A B L.length)) ∧ Below w.heap.size w w' := by
  refine sx_enter (L := [(0, (.agg #[(.int .u8 ((op : Nat) : Int)), (.int .u64 A), (.int .u64 B), (.slice a L.length c)]))]) Tryd.func19 rfl rfl rfl rfl (fun fa hf => ?_)
  have hb : Below w.heap.size w w := Below.refl _ _
  refine wp_seq_k (fun K1 hK1 => ?_)
  refine wp_region_lit ?_
  refine sqdt hf (d_box (cs := #[(.int .u8 ((op : Nat) : Int)), (.int .u64 A), (.int .u64 B), (.slice a L.length c)]) rfl rfl) rfl rfl rfl ?_; clear hf fa; rintro fa _ w1 ⟨b1, rfl, hle1, hk1, he1⟩ hf
  have hBb1 : w.heap.size ≤ b1 := Nat.le_trans hb.size hle1
  replace hb := hb.trans (Below.mono he1 hb.size)
  refine sqv hf (r_assign rfl) rfl rfl rfl ?_; clear hf fa; intro fa hf
  apply wpList_nil
  (try simp only [Exit.then, Exit.inBlock, ↓reduceIte, Nat.reduceEqDiff])
  refine hK1 _ _ ?_
  refine wp_seq_k (fun K2 hK2 => ?_)
  refine wp_seq_k (fun K3 hK3 => ?_)
  refine wp_region_lit ?_
  refine sqv hf (r_fa rfl Tryd.underlying25 (f := 0) (q := 0) rfl (by kernel_rfl) rfl) rfl rfl rfl ?_; clear hf fa; intro fa hf
  refine sqv hf (r_load (v := (.int .u8 ((op : Nat) : Int))) rfl Tryd.underlying5 rfl (cell_blk hk1 rfl)) rfl rfl rfl ?_; clear hf fa; intro fa hf
  refine sqdt hf (d_callB (vs := [(.int .u8 ((op : Nat) : Int))]) rfl Tryd.func41 (by kernel_rfl) (by kernel_rfl) (chk_any op _ hop)) rfl rfl rfl ?_; clear hf fa; rintro fa _ w2 ⟨rfl, he2⟩ hf
  replace hk1 := blk_ext hk1 he2
  replace hb := hb.trans (Below.mono he2 hb.size)
  refine sqv hf (r_assign rfl) rfl rfl rfl ?_; clear hf fa; intro fa hf
  apply wpList_nil
  (try simp only [Exit.then, Exit.inBlock, ↓reduceIte, Nat.reduceEqDiff])
  refine hK3 _ _ ?_
  refine wp_seq_k (fun K4 hK4 => ?_)
  refine wp_region_lit ?_
  refine sqv hf (r_move rfl) rfl rfl rfl ?_; clear hf fa; intro fa hf
  refine sqv hf (r_ne rfl rfl) rfl rfl rfl ?_; clear hf fa; intro fa hf
  apply wpList_nil
  (try simp only [Exit.then, Exit.inBlock, ↓reduceIte, Nat.reduceEqDiff])
  refine hK4 _ _ ?_
  refine wp_cond_split (t := (decide (((chkP op)) ≠ (0 : Int)))) (hf.ev rfl) (fun hqt9_1 => ?_) (fun hqt9_1 => ?_)
  · have hqt9_1b := hqt9_1
    try simp only [decide_eq_true_eq, Bool.and_eq_true, Bool.or_eq_true, Bool.not_eq_true', decide_eq_false_iff_not, ne_eq, Bool.not_eq_true] at hqt9_1
    refine wp_seq_k (fun K5 hK5 => ?_)
    refine wp_region_lit ?_
    refine sqv hf (r_move rfl) rfl rfl rfl ?_; clear hf fa; intro fa hf
    refine sqv hf (r_assign rfl) rfl rfl rfl ?_; clear hf fa; intro fa hf
    apply wpList_nil
    (try simp only [Exit.then, Exit.inBlock, ↓reduceIte, Nat.reduceEqDiff])
    refine hK5 _ _ ?_
    refine wp_ret ?_
    (try simp only [Exit.then, Exit.inBlock])
    refine ret1 hf rfl rfl ?_
    refine ⟨congrArg (fun n => Ending.returned (.int .i64 n)) ?_, hb⟩; unfold rightP; (repeat' split) <;> first | rfl | omega
  · have hqt9_1b := hqt9_1
    replace hqt9_1 := Bool.eq_false_iff.1 hqt9_1
    try simp only [ne_eq, decide_eq_true_eq, Bool.and_eq_true, Bool.or_eq_true, Bool.not_eq_true', decide_eq_false_iff_not] at hqt9_1
    refine wp_skip ?_
    (try simp only [Exit.then, Exit.inBlock, ↓reduceIte, Nat.reduceEqDiff])
    refine hK2 _ _ ?_
    refine wp_seq_k (fun K6 hK6 => ?_)
    refine wp_region_lit ?_
    refine sqv hf (r_fa rfl Tryd.underlying25 (f := 0) (q := 0) rfl (by kernel_rfl) rfl) rfl rfl rfl ?_; clear hf fa; intro fa hf
    refine sqv hf (r_load (v := (.int .u8 ((op : Nat) : Int))) rfl Tryd.underlying5 rfl (cell_blk hk1 rfl)) rfl rfl rfl ?_; clear hf fa; intro fa hf
    refine sqdt hf (d_callB (vs := [(.int .u8 ((op : Nat) : Int))]) rfl Tryd.func20 (by kernel_rfl) (by kernel_rfl) (inf_any op _ hop)) rfl rfl rfl ?_; clear hf fa; rintro fa _ w3 ⟨rfl, he3⟩ hf
    replace hk1 := blk_ext hk1 he3
    replace hb := hb.trans (Below.mono he3 hb.size)
    refine sqv hf (r_field (cs := #[(.string (infP op).1), (.int .i64 ((infP op).2.1)), (.string (infP op).2.2.1), (.string (infP op).2.2.2.1), (.bool (infP op).2.2.2.2.1)]) (v := (.int .i64 ((infP op).2.1))) rfl (fun _ => by kernel_rfl)) rfl rfl rfl ?_; clear hf fa; intro fa hf
    refine sqv hf (r_assign rfl) rfl rfl rfl ?_; clear hf fa; intro fa hf
    apply wpList_nil
    (try simp only [Exit.then, Exit.inBlock, ↓reduceIte, Nat.reduceEqDiff])
    refine hK6 _ _ ?_
    refine wp_seq_k (fun K7 hK7 => ?_)
    refine wp_seq_k (fun K8 hK8 => ?_)
    refine wp_region_lit ?_
    refine sqv hf (r_fa rfl Tryd.underlying25 (f := 3) (q := 3) rfl (by kernel_rfl) rfl) rfl rfl rfl ?_; clear hf fa; intro fa hf
    refine sqv hf (r_load (v := (.slice a L.length c)) rfl Tryd.underlying23 rfl (cell_blk hk1 rfl)) rfl rfl rfl ?_; clear hf fa; intro fa hf
    refine sqv hf (r_lensl rfl Tryd.underlying23) rfl rfl rfl ?_; clear hf fa; intro fa hf
    refine sqv hf (r_gt rfl rfl) rfl rfl rfl ?_; clear hf fa; intro fa hf
    refine sqv hf (r_move rfl) rfl rfl rfl ?_; clear hf fa; intro fa hf
    refine sqgT (act := (decide ((0 : Int) < ((L.length : Nat) : Int)))) (ag := true) (c := (decide ((0 : Int) < ((L.length : Nat) : Int)))) (v := (.int .i64 ((infP op).2.1))) hf rfl rfl rfl (fun hact => (r_move rfl)) rfl rfl ?_; clear hf fa; intro fa hf
    refine sqgT (act := (decide ((0 : Int) < ((L.length : Nat) : Int)))) (ag := true) (c := (decide ((0 : Int) < ((L.length : Nat) : Int)))) (v := (.bool (decide (((infP op).2.1) ≠ (3 : Int))))) hf rfl rfl rfl (fun hact => (r_ne (gb_ev hact rfl) rfl)) rfl rfl ?_; clear hf fa; intro fa hf
    refine sqv hf (r_pickA (b := (decide ((0 : Int) < ((L.length : Nat) : Int)))) (e := (decide (((infP op).2.1) ≠ (3 : Int)))) rfl rfl rfl) rfl rfl rfl ?_; clear hf fa; intro fa hf
    refine sqv hf (r_move rfl) rfl rfl rfl ?_; clear hf fa; intro fa hf
    refine sqgF (act := (!((decide ((0 : Int) < ((L.length : Nat) : Int))) && (decide (((infP op).2.1) ≠ (3 : Int)))))) (ag := true) (c := ((decide ((0 : Int) < ((L.length : Nat) : Int))) && (decide (((infP op).2.1) ≠ (3 : Int))))) (v := (.pointer (some ⟨b1, 3, none⟩))) hf rfl rfl rfl (fun hact => (r_fa rfl Tryd.underlying25 (f := 3) (q := 3) rfl (by kernel_rfl) rfl)) rfl rfl ?_; clear hf fa; intro fa hf
    refine sqgF (act := (!((decide ((0 : Int) < ((L.length : Nat) : Int))) && (decide (((infP op).2.1) ≠ (3 : Int)))))) (ag := true) (c := ((decide ((0 : Int) < ((L.length : Nat) : Int))) && (decide (((infP op).2.1) ≠ (3 : Int))))) (v := (.slice a L.length c)) hf rfl rfl rfl (fun hact => (r_load (v := (.slice a L.length c)) (gb_ev hact rfl) Tryd.underlying23 rfl (cell_blk hk1 rfl))) rfl rfl ?_; clear hf fa; intro fa hf
    refine sqgF (act := (!((decide ((0 : Int) < ((L.length : Nat) : Int))) && (decide (((infP op).2.1) ≠ (3 : Int)))))) (ag := true) (c := ((decide ((0 : Int) < ((L.length : Nat) : Int))) && (decide (((infP op).2.1) ≠ (3 : Int))))) (v := (.int .i64 ((L.length : Nat) : Int))) hf rfl rfl rfl (fun hact => (r_lensl (gb_ev hact rfl) Tryd.underlying23)) rfl rfl ?_; clear hf fa; intro fa hf
    refine sqgF (act := (!((decide ((0 : Int) < ((L.length : Nat) : Int))) && (decide (((infP op).2.1) ≠ (3 : Int)))))) (ag := true) (c := ((decide ((0 : Int) < ((L.length : Nat) : Int))) && (decide (((infP op).2.1) ≠ (3 : Int))))) (v := (.bool (decide ((10000 : Int) < ((L.length : Nat) : Int))))) hf rfl rfl rfl (fun hact => (r_gt (gb_ev hact rfl) rfl)) rfl rfl ?_; clear hf fa; intro fa hf
    refine sqv hf (r_pickO (b := ((decide ((0 : Int) < ((L.length : Nat) : Int))) && (decide (((infP op).2.1) ≠ (3 : Int))))) (e := (decide ((10000 : Int) < ((L.length : Nat) : Int)))) rfl rfl rfl) rfl rfl rfl ?_; clear hf fa; intro fa hf
    apply wpList_nil
    (try simp only [Exit.then, Exit.inBlock, ↓reduceIte, Nat.reduceEqDiff])
    refine hK8 _ _ ?_
    refine wp_cond_split (t := (((decide ((0 : Int) < ((L.length : Nat) : Int))) && (decide (((infP op).2.1) ≠ (3 : Int)))) || (decide ((10000 : Int) < ((L.length : Nat) : Int))))) (hf.ev rfl) (fun hqt28_1 => ?_) (fun hqt28_1 => ?_)
    · have hqt28_1b := hqt28_1
      try simp only [decide_eq_true_eq, Bool.and_eq_true, Bool.or_eq_true, Bool.not_eq_true', decide_eq_false_iff_not, ne_eq, Bool.not_eq_true] at hqt28_1
      refine wp_seq_k (fun K9 hK9 => ?_)
      refine wp_region_lit ?_
      refine sqv hf (r_move rfl) rfl rfl rfl ?_; clear hf fa; intro fa hf
      refine sqdt hf (d_callB (vs := [(.int .i64 ((infP op).2.1))]) rfl Tryd.func42 (by kernel_rfl) (by kernel_rfl) (mny_any ((infP op).2.1) _)) rfl rfl rfl ?_; clear hf fa; rintro fa _ w4 ⟨rfl, he4⟩ hf
      replace hk1 := blk_ext hk1 he4
      replace hb := hb.trans (Below.mono he4 hb.size)
      refine sqv hf (r_assign rfl) rfl rfl rfl ?_; clear hf fa; intro fa hf
      apply wpList_nil
      (try simp only [Exit.then, Exit.inBlock, ↓reduceIte, Nat.reduceEqDiff])
      refine hK9 _ _ ?_
      refine wp_ret ?_
      (try simp only [Exit.then, Exit.inBlock])
      refine ret1 hf rfl rfl ?_
      refine ⟨congrArg (fun n => Ending.returned (.int .i64 n)) ?_, hb⟩; unfold rightP; unfold mnyP; (repeat' split) <;> first | rfl | omega
    · have hqt28_1b := hqt28_1
      replace hqt28_1 := Bool.eq_false_iff.1 hqt28_1
      try simp only [ne_eq, decide_eq_true_eq, Bool.and_eq_true, Bool.or_eq_true, Bool.not_eq_true', decide_eq_false_iff_not] at hqt28_1
      refine wp_skip ?_
      (try simp only [Exit.then, Exit.inBlock, ↓reduceIte, Nat.reduceEqDiff])
      refine hK7 _ _ ?_
      refine wp_seq_k (fun K10 hK10 => ?_)
      refine wp_seq_k (fun K11 hK11 => ?_)
      refine wp_region_lit ?_
      refine sqv hf (r_fa rfl Tryd.underlying25 (f := 2) (q := 2) rfl (by kernel_rfl) rfl) rfl rfl rfl ?_; clear hf fa; intro fa hf
      refine sqv hf (r_load (v := (.int .u64 B)) rfl Tryd.underlying22 rfl (cell_blk hk1 rfl)) rfl rfl rfl ?_; clear hf fa; intro fa hf
      refine sqv hf (r_ne rfl rfl) rfl rfl rfl ?_; clear hf fa; intro fa hf
      refine sqv hf (r_move rfl) rfl rfl rfl ?_; clear hf fa; intro fa hf
      refine sqgT (act := (decide (B ≠ (0 : Int)))) (ag := true) (c := (decide (B ≠ (0 : Int)))) (v := (.int .i64 ((infP op).2.1))) hf rfl rfl rfl (fun hact => (r_move rfl)) rfl rfl ?_; clear hf fa; intro fa hf
      refine sqgT (act := (decide (B ≠ (0 : Int)))) (ag := true) (c := (decide (B ≠ (0 : Int)))) (v := (.bool (decide (((infP op).2.1) ≠ (8 : Int))))) hf rfl rfl rfl (fun hact => (r_ne (gb_ev hact rfl) rfl)) rfl rfl ?_; clear hf fa; intro fa hf
      refine sqv hf (r_pickA (b := (decide (B ≠ (0 : Int)))) (e := (decide (((infP op).2.1) ≠ (8 : Int)))) rfl rfl rfl) rfl rfl rfl ?_; clear hf fa; intro fa hf
      apply wpList_nil
      (try simp only [Exit.then, Exit.inBlock, ↓reduceIte, Nat.reduceEqDiff])
      refine hK11 _ _ ?_
      refine wp_cond_split (t := ((decide (B ≠ (0 : Int))) && (decide (((infP op).2.1) ≠ (8 : Int))))) (hf.ev rfl) (fun hqt37_1 => ?_) (fun hqt37_1 => ?_)
      · have hqt37_1b := hqt37_1
        try simp only [decide_eq_true_eq, Bool.and_eq_true, Bool.or_eq_true, Bool.not_eq_true', decide_eq_false_iff_not, ne_eq, Bool.not_eq_true] at hqt37_1
        refine wp_seq_k (fun K12 hK12 => ?_)
        refine wp_region_lit ?_
        refine sqv hf (r_assign rfl) rfl rfl rfl ?_; clear hf fa; intro fa hf
        apply wpList_nil
        (try simp only [Exit.then, Exit.inBlock, ↓reduceIte, Nat.reduceEqDiff])
        refine hK12 _ _ ?_
        refine wp_ret ?_
        (try simp only [Exit.then, Exit.inBlock])
        refine ret1 hf rfl rfl ?_
        refine ⟨congrArg (fun n => Ending.returned (.int .i64 n)) ?_, hb⟩; unfold rightP; (repeat' split) <;> first | rfl | omega
      · have hqt37_1b := hqt37_1
        replace hqt37_1 := Bool.eq_false_iff.1 hqt37_1
        try simp only [ne_eq, decide_eq_true_eq, Bool.and_eq_true, Bool.or_eq_true, Bool.not_eq_true', decide_eq_false_iff_not] at hqt37_1
        refine wp_skip ?_
        (try simp only [Exit.then, Exit.inBlock, ↓reduceIte, Nat.reduceEqDiff])
        refine hK10 _ _ ?_
        refine wp_seq_k (fun K13 hK13 => ?_)
        refine wp_seq_k (fun K14 hK14 => ?_)
        refine wp_region_lit ?_
        refine sqv hf (r_move rfl) rfl rfl rfl ?_; clear hf fa; intro fa hf
        apply wpList_nil
        (try simp only [Exit.then, Exit.inBlock, ↓reduceIte, Nat.reduceEqDiff])
        refine hK14 _ _ ?_
        refine wp_block ?_
        refine wp_seq_k (fun K15 hK15 => ?_)
        refine wp_seq_k (fun K16 hK16 => ?_)
        refine wp_region_lit ?_
        refine sqv hf (r_eq rfl rfl) rfl rfl rfl ?_; clear hf fa; intro fa hf
        refine sqv hf (r_assign rfl) rfl rfl rfl ?_; clear hf fa; intro fa hf
        apply wpList_nil
        (try simp only [Exit.then, Exit.inBlock, ↓reduceIte, Nat.reduceEqDiff])
        refine hK16 _ _ ?_
        refine wp_cond_split (t := (decide (((infP op).2.1) = (0 : Int)))) (hf.ev rfl) (fun hqt39_1 => ?_) (fun hqt39_1 => ?_)
        · have hqt39_1b := hqt39_1
          try simp only [decide_eq_true_eq, Bool.and_eq_true, Bool.or_eq_true, Bool.not_eq_true', decide_eq_false_iff_not, ne_eq, Bool.not_eq_true] at hqt39_1
          refine wp_skip ?_
          (try simp only [Exit.then, Exit.inBlock, ↓reduceIte, Nat.reduceEqDiff])
          refine hK15 _ _ ?_
          refine wp_cond_true ((hf.ev rfl).trans (congrArg Value.bool (show (decide (((infP op).2.1) = (0 : Int))) = true from hqt39_1b))) ?_
          refine wp_seq_k (fun K17 hK17 => ?_)
          refine wp_region_lit ?_
          refine sqv hf (r_fa rfl Tryd.underlying25 (f := 1) (q := 1) rfl (by kernel_rfl) rfl) rfl rfl rfl ?_; clear hf fa; intro fa hf
          refine sqv hf (r_load (v := (.int .u64 A)) rfl Tryd.underlying22 rfl (cell_blk hk1 rfl)) rfl rfl rfl ?_; clear hf fa; intro fa hf
          refine sqv hf (r_eq rfl rfl) rfl rfl rfl ?_; clear hf fa; intro fa hf
          refine sqdt hf (d_callB (vs := [(.bool (decide (A = (0 : Int))))]) rfl Tryd.func43 (by kernel_rfl) (by kernel_rfl) (unl_any (decide (A = (0 : Int))) _)) rfl rfl rfl ?_; clear hf fa; rintro fa _ w5 ⟨rfl, he5⟩ hf
          replace hk1 := blk_ext hk1 he5
          replace hb := hb.trans (Below.mono he5 hb.size)
          refine sqv hf (r_assign rfl) rfl rfl rfl ?_; clear hf fa; intro fa hf
          apply wpList_nil
          (try simp only [Exit.then, Exit.inBlock, ↓reduceIte, Nat.reduceEqDiff])
          refine hK17 _ _ ?_
          refine wp_ret ?_
          (try simp only [Exit.then, Exit.inBlock])
          refine ret1 hf rfl rfl ?_
          refine ⟨congrArg (fun n => Ending.returned (.int .i64 n)) ?_, hb⟩; unfold rightP; unfold unlP; simp only [Bool.and_eq_true, decide_eq_true_eq]; (repeat' split) <;> first | rfl | omega
        · have hqt39_1b := hqt39_1
          replace hqt39_1 := Bool.eq_false_iff.1 hqt39_1
          try simp only [ne_eq, decide_eq_true_eq, Bool.and_eq_true, Bool.or_eq_true, Bool.not_eq_true', decide_eq_false_iff_not] at hqt39_1
          refine wp_region_lit ?_
          refine sqv hf (r_eq rfl rfl) rfl rfl rfl ?_; clear hf fa; intro fa hf
          refine sqv hf (r_assign rfl) rfl rfl rfl ?_; clear hf fa; intro fa hf
          apply wpList_nil
          (try simp only [Exit.then, Exit.inBlock, ↓reduceIte, Nat.reduceEqDiff])
          refine hK15 _ _ ?_
          refine wp_cond_split (t := (decide (((infP op).2.1) = (9 : Int)))) (hf.ev rfl) (fun hqt39_3 => ?_) (fun hqt39_3 => ?_)
          · have hqt39_3b := hqt39_3
            try simp only [decide_eq_true_eq, Bool.and_eq_true, Bool.or_eq_true, Bool.not_eq_true', decide_eq_false_iff_not, ne_eq, Bool.not_eq_true] at hqt39_3
            refine wp_seq_k (fun K18 hK18 => ?_)
            refine wp_region_lit ?_
            refine sqv hf (r_fa rfl Tryd.underlying25 (f := 1) (q := 1) rfl (by kernel_rfl) rfl) rfl rfl rfl ?_; clear hf fa; intro fa hf
            refine sqv hf (r_load (v := (.int .u64 A)) rfl Tryd.underlying22 rfl (cell_blk hk1 rfl)) rfl rfl rfl ?_; clear hf fa; intro fa hf
            refine sqv hf (r_eq rfl rfl) rfl rfl rfl ?_; clear hf fa; intro fa hf
            refine sqdt hf (d_callB (vs := [(.bool (decide (A = (0 : Int))))]) rfl Tryd.func43 (by kernel_rfl) (by kernel_rfl) (unl_any (decide (A = (0 : Int))) _)) rfl rfl rfl ?_; clear hf fa; rintro fa _ w6 ⟨rfl, he6⟩ hf
            replace hk1 := blk_ext hk1 he6
            replace hb := hb.trans (Below.mono he6 hb.size)
            refine sqv hf (r_assign rfl) rfl rfl rfl ?_; clear hf fa; intro fa hf
            apply wpList_nil
            (try simp only [Exit.then, Exit.inBlock, ↓reduceIte, Nat.reduceEqDiff])
            refine hK18 _ _ ?_
            refine wp_ret ?_
            (try simp only [Exit.then, Exit.inBlock])
            refine ret1 hf rfl rfl ?_
            refine ⟨congrArg (fun n => Ending.returned (.int .i64 n)) ?_, hb⟩; unfold rightP; unfold unlP; simp only [Bool.and_eq_true, decide_eq_true_eq]; (repeat' split) <;> first | rfl | omega
          · have hqt39_3b := hqt39_3
            replace hqt39_3 := Bool.eq_false_iff.1 hqt39_3
            try simp only [ne_eq, decide_eq_true_eq, Bool.and_eq_true, Bool.or_eq_true, Bool.not_eq_true', decide_eq_false_iff_not] at hqt39_3
            refine wp_seq_k (fun K19 hK19 => ?_)
            refine wp_region_lit ?_
            refine sqv hf (r_eq rfl rfl) rfl rfl rfl ?_; clear hf fa; intro fa hf
            refine sqv hf (r_assign rfl) rfl rfl rfl ?_; clear hf fa; intro fa hf
            apply wpList_nil
            (try simp only [Exit.then, Exit.inBlock, ↓reduceIte, Nat.reduceEqDiff])
            refine hK19 _ _ ?_
            refine wp_cond_split (t := (decide (((infP op).2.1) = (1 : Int)))) (hf.ev rfl) (fun hqt46_1 => ?_) (fun hqt46_1 => ?_)
            · have hqt46_1b := hqt46_1
              try simp only [decide_eq_true_eq, Bool.and_eq_true, Bool.or_eq_true, Bool.not_eq_true', decide_eq_false_iff_not, ne_eq, Bool.not_eq_true] at hqt46_1
              refine wp_seq_k (fun K20 hK20 => ?_)
              refine wp_region_lit ?_
              refine sqv hf (r_fa rfl Tryd.underlying25 (f := 1) (q := 1) rfl (by kernel_rfl) rfl) rfl rfl rfl ?_; clear hf fa; intro fa hf
              refine sqv hf (r_load (v := (.int .u64 A)) rfl Tryd.underlying22 rfl (cell_blk hk1 rfl)) rfl rfl rfl ?_; clear hf fa; intro fa hf
              refine sqdt hf (d_callB (vs := [(.int .u64 A)]) rfl Tryd.func44 (by kernel_rfl) (by kernel_rfl) (iblk_any A _ hA)) rfl rfl rfl ?_; clear hf fa; rintro fa _ w7 ⟨rfl, he7⟩ hf
              replace hk1 := blk_ext hk1 he7
              replace hb := hb.trans (Below.mono he7 hb.size)
              refine sqv hf (r_assign rfl) rfl rfl rfl ?_; clear hf fa; intro fa hf
              apply wpList_nil
              (try simp only [Exit.then, Exit.inBlock, ↓reduceIte, Nat.reduceEqDiff])
              refine hK20 _ _ ?_
              refine wp_ret ?_
              (try simp only [Exit.then, Exit.inBlock])
              refine ret1 hf rfl rfl ?_
              refine ⟨congrArg (fun n => Ending.returned (.int .i64 n)) ?_, hb⟩; unfold rightP; (repeat' split) <;> first | rfl | omega
            · have hqt46_1b := hqt46_1
              replace hqt46_1 := Bool.eq_false_iff.1 hqt46_1
              try simp only [ne_eq, decide_eq_true_eq, Bool.and_eq_true, Bool.or_eq_true, Bool.not_eq_true', decide_eq_false_iff_not] at hqt46_1
              refine wp_seq_k (fun K21 hK21 => ?_)
              refine wp_region_lit ?_
              refine sqv hf (r_eq rfl rfl) rfl rfl rfl ?_; clear hf fa; intro fa hf
              refine sqv hf (r_assign rfl) rfl rfl rfl ?_; clear hf fa; intro fa hf
              apply wpList_nil
              (try simp only [Exit.then, Exit.inBlock, ↓reduceIte, Nat.reduceEqDiff])
              refine hK21 _ _ ?_
              refine wp_cond_split (t := (decide (((infP op).2.1) = (11 : Int)))) (hf.ev rfl) (fun hqt51_1 => ?_) (fun hqt51_1 => ?_)
              · have hqt51_1b := hqt51_1
                try simp only [decide_eq_true_eq, Bool.and_eq_true, Bool.or_eq_true, Bool.not_eq_true', decide_eq_false_iff_not, ne_eq, Bool.not_eq_true] at hqt51_1
                refine wp_seq_k (fun K22 hK22 => ?_)
                refine wp_region_lit ?_
                refine sqv hf (r_assign rfl) rfl rfl rfl ?_; clear hf fa; intro fa hf
                apply wpList_nil
                (try simp only [Exit.then, Exit.inBlock, ↓reduceIte, Nat.reduceEqDiff])
                refine hK22 _ _ ?_
                refine wp_ret ?_
                (try simp only [Exit.then, Exit.inBlock])
                refine ret1 hf rfl rfl ?_
                refine ⟨congrArg (fun n => Ending.returned (.int .i64 n)) ?_, hb⟩; unfold rightP; (repeat' split) <;> first | rfl | omega
              · have hqt51_1b := hqt51_1
                replace hqt51_1 := Bool.eq_false_iff.1 hqt51_1
                try simp only [ne_eq, decide_eq_true_eq, Bool.and_eq_true, Bool.or_eq_true, Bool.not_eq_true', decide_eq_false_iff_not] at hqt51_1
                refine wp_skip ?_
                (try simp only [Exit.then, Exit.inBlock, ↓reduceIte, Nat.reduceEqDiff])
                refine hK13 _ _ ?_
                refine wp_seq_k (fun K23 hK23 => ?_)
                refine wp_region_lit ?_
                refine sqv hf (r_fa rfl Tryd.underlying25 (f := 1) (q := 1) rfl (by kernel_rfl) rfl) rfl rfl rfl ?_; clear hf fa; intro fa hf
                refine sqv hf (r_load (v := (.int .u64 A)) rfl Tryd.underlying22 rfl (cell_blk hk1 rfl)) rfl rfl rfl ?_; clear hf fa; intro fa hf
                refine sqv hf (r_lt rfl rfl) rfl rfl rfl ?_; clear hf fa; intro fa hf
                refine sqv hf (r_move rfl) rfl rfl rfl ?_; clear hf fa; intro fa hf
                refine sqgT (act := (decide (A < (4294967296 : Int)))) (ag := true) (c := (decide (A < (4294967296 : Int)))) (v := (.pointer (some ⟨b1, 2, none⟩))) hf rfl rfl rfl (fun hact => (r_fa rfl Tryd.underlying25 (f := 2) (q := 2) rfl (by kernel_rfl) rfl)) rfl rfl ?_; clear hf fa; intro fa hf
                refine sqgT (act := (decide (A < (4294967296 : Int)))) (ag := true) (c := (decide (A < (4294967296 : Int)))) (v := (.int .u64 B)) hf rfl rfl rfl (fun hact => (r_load (v := (.int .u64 B)) (gb_ev hact rfl) Tryd.underlying22 rfl (cell_blk hk1 rfl))) rfl rfl ?_; clear hf fa; intro fa hf
                refine sqgT (act := (decide (A < (4294967296 : Int)))) (ag := true) (c := (decide (A < (4294967296 : Int)))) (v := (.bool (decide (B < (4294967296 : Int))))) hf rfl rfl rfl (fun hact => (r_lt (gb_ev hact rfl) rfl)) rfl rfl ?_; clear hf fa; intro fa hf
                refine sqv hf (r_pickA (b := (decide (A < (4294967296 : Int)))) (e := (decide (B < (4294967296 : Int)))) rfl rfl rfl) rfl rfl rfl ?_; clear hf fa; intro fa hf
                refine sqdt hf (d_callB (vs := [(.bool ((decide (A < (4294967296 : Int))) && (decide (B < (4294967296 : Int)))))]) rfl Tryd.func43 (by kernel_rfl) (by kernel_rfl) (unl_any ((decide (A < (4294967296 : Int))) && (decide (B < (4294967296 : Int)))) _)) rfl rfl rfl ?_; clear hf fa; rintro fa _ w8 ⟨rfl, he8⟩ hf
                replace hk1 := blk_ext hk1 he8
                replace hb := hb.trans (Below.mono he8 hb.size)
                refine sqv hf (r_assign rfl) rfl rfl rfl ?_; clear hf fa; intro fa hf
                apply wpList_nil
                (try simp only [Exit.then, Exit.inBlock, ↓reduceIte, Nat.reduceEqDiff])
                refine hK23 _ _ ?_
                refine wp_ret ?_
                (try simp only [Exit.then, Exit.inBlock])
                refine ret1 hf rfl rfl ?_
                refine ⟨congrArg (fun n => Ending.returned (.int .i64 n)) ?_, hb⟩; unfold rightP; unfold unlP; simp only [Bool.and_eq_true, decide_eq_true_eq]; (repeat' split) <;> first | rfl | omega

theorem blk_val (A : Int) (h : A ≠ 64) : valP (if (256 : Int) < A then (256 : Int) else A) = blkP A := by
  by_cases h1 : (256 : Int) < A
  · rw [if_pos h1]; unfold blkP; rw [if_neg h, if_pos (by omega)]; rfl
  · rw [if_neg h1]
    unfold blkP valP
    rw [if_neg h]
    by_cases h2 : (255 : Int) < A
    · rw [if_pos h2, if_neg (by omega), if_neg (by omega)]
    · rw [if_neg h2]

theorem rp_chk {op : Nat} {A B : Int} {n : Nat} (h : chkP op ≠ 0) : rightP op A B n = chkP op := by unfold rightP; rw [if_pos h]
theorem rp_n1 {op : Nat} {A B : Int} {n : Nat} (h : chkP op = 0) (h1 : 0 < n ∧ (infP op).2.1 ≠ 3) : rightP op A B n = 1 := by unfold rightP; rw [if_neg (fun e => e h), if_pos h1]
theorem rp_n2 {op : Nat} {A B : Int} {n : Nat} (h : chkP op = 0) (h1 : ¬ (0 < n ∧ (infP op).2.1 ≠ 3)) (h2 : 10000 < n) : rightP op A B n = 29 := by unfold rightP; rw [if_neg (fun e => e h), if_neg h1, if_pos h2]
theorem rp_b {op : Nat} {A B : Int} {n : Nat} (h : chkP op = 0) (h1 : ¬ (0 < n ∧ (infP op).2.1 ≠ 3)) (h2 : ¬ 10000 < n) (h3 : B ≠ 0 ∧ (infP op).2.1 ≠ 8) : rightP op A B n = 1 := by unfold rightP; rw [if_neg (fun e => e h), if_neg h1, if_neg h2, if_pos h3]
theorem rp_c {op : Nat} {A B : Int} {n : Nat} (h : chkP op = 0) (h1 : ¬ (0 < n ∧ (infP op).2.1 ≠ 3)) (h2 : ¬ 10000 < n) (h3 : ¬ (B ≠ 0 ∧ (infP op).2.1 ≠ 8)) : rightP op A B n = if (infP op).2.1 = 0 ∨ (infP op).2.1 = 9 then (if A = 0 then 0 else 1) else if (infP op).2.1 = 1 then blkP A else if (infP op).2.1 = 11 then 0 else if A < 4294967296 ∧ B < 4294967296 then 0 else 1 := by unfold rightP; rw [if_neg (fun e => e h), if_neg h1, if_neg h2, if_neg h3]

set_option maxHeartbeats 1000000 in
set_option maxRecDepth 100000 in
theorem rright_any (op : Nat) (A B : Int) (L : List Int) (a : Option Addr) (c : Nat) (w : World) (hop : op < 256) (hA : 0 ≤ A ∧ A < 18446744073709551616) (hB : 0 ≤ B ∧ B < 18446744073709551616) (hc : L.length ≤ c) (hn : L.length ≤ 100000) : Calls Tryd.prog 10 #[(.agg #[(.int .u8 ((op : Nat) : Int)), (.int .u64 A), (.int .u64 B), (.slice a L.length c)])] w fun e w' => e = .returned (.int .i64 (rightP op A B L.length)) ∧ Below w.heap.size w w' := by
  have him := of_imm hop
  have hck := chk_eq hop
  refine sx_enter (L := [(0, (.agg #[(.int .u8 ((op : Nat) : Int)), (.int .u64 A), (.int .u64 B), (.slice a L.length c)]))]) Tryd.func10 rfl rfl rfl rfl (fun fa hf => ?_)
  have hb : Below w.heap.size w w := Below.refl _ _
  refine wp_seq_k (fun K1 hK1 => ?_)
  refine wp_region_lit ?_
  refine sqdt hf (d_box (cs := #[(.int .u8 ((op : Nat) : Int)), (.int .u64 A), (.int .u64 B), (.slice a L.length c)]) rfl rfl) rfl rfl rfl ?_; clear hf fa; rintro fa _ w1 ⟨b1, rfl, hle1, hk1, he1⟩ hf
  have hBb1 : w.heap.size ≤ b1 := Nat.le_trans hb.size hle1
  replace hb := hb.trans (Below.mono he1 hb.size)
  refine sqv hf (r_assign rfl) rfl rfl rfl ?_; clear hf fa; intro fa hf
  apply wpList_nil
  (try simp only [Exit.then, Exit.inBlock, ↓reduceIte, Nat.reduceEqDiff])
  refine hK1 _ _ ?_
  refine wp_seq_k (fun K2 hK2 => ?_)
  refine wp_seq_k (fun K3 hK3 => ?_)
  refine wp_region_lit ?_
  refine sqv hf (r_fa rfl Tryd.underlying25 (f := 0) (q := 0) rfl (by kernel_rfl) rfl) rfl rfl rfl ?_; clear hf fa; intro fa hf
  refine sqv hf (r_load (v := (.int .u8 ((op : Nat) : Int))) rfl Tryd.underlying5 rfl (cell_blk hk1 rfl)) rfl rfl rfl ?_; clear hf fa; intro fa hf
  refine sqv hf (r_conv (C := ((op : Nat) : Int)) rfl Tryd.underlying5 Tryd.underlying3 (by rw [IntKind.wrap_i64]; omega)) rfl rfl rfl ?_; clear hf fa; intro fa hf
  refine sqdt hf (d_callB (vs := [(.int .i64 ((op : Nat) : Int))]) rfl Tryd.func29 (by kernel_rfl) (by kernel_rfl) (rchk_any op _ hop)) rfl rfl rfl ?_; clear hf fa; rintro fa _ w2 ⟨rfl, he2⟩ hf
  replace hk1 := blk_ext hk1 he2
  replace hb := hb.trans (Below.mono he2 hb.size)
  refine sqv hf (r_assign rfl) rfl rfl rfl ?_; clear hf fa; intro fa hf
  apply wpList_nil
  (try simp only [Exit.then, Exit.inBlock, ↓reduceIte, Nat.reduceEqDiff])
  refine hK3 _ _ ?_
  refine wp_seq_k (fun K4 hK4 => ?_)
  refine wp_region_lit ?_
  refine sqv hf (r_move rfl) rfl rfl rfl ?_; clear hf fa; intro fa hf
  refine sqv hf (r_ne rfl rfl) rfl rfl rfl ?_; clear hf fa; intro fa hf
  apply wpList_nil
  (try simp only [Exit.then, Exit.inBlock, ↓reduceIte, Nat.reduceEqDiff])
  refine hK4 _ _ ?_
  refine wp_cond_split (t := (decide (((rchkP op)) ≠ (0 : Int)))) (hf.ev rfl) (fun hqt12_1 => ?_) (fun hqt12_1 => ?_)
  · have hqt12_1b := hqt12_1
    try simp only [decide_eq_true_eq, Bool.and_eq_true, Bool.or_eq_true, Bool.not_eq_true', decide_eq_false_iff_not, ne_eq, Bool.not_eq_true] at hqt12_1
    refine wp_seq_k (fun K5 hK5 => ?_)
    refine wp_region_lit ?_
    refine sqv hf (r_move rfl) rfl rfl rfl ?_; clear hf fa; intro fa hf
    refine sqv hf (r_assign rfl) rfl rfl rfl ?_; clear hf fa; intro fa hf
    apply wpList_nil
    (try simp only [Exit.then, Exit.inBlock, ↓reduceIte, Nat.reduceEqDiff])
    refine hK5 _ _ ?_
    refine wp_ret ?_
    (try simp only [Exit.then, Exit.inBlock])
    refine ret1 hf rfl rfl ?_
    refine ⟨congrArg (fun n => Ending.returned (.int .i64 n)) ?_, hb⟩; rw [rp_chk (by have h := hqt12_1; omega)]; exact hck
  · have hqt12_1b := hqt12_1
    replace hqt12_1 := Bool.eq_false_iff.1 hqt12_1
    try simp only [ne_eq, decide_eq_true_eq, Bool.and_eq_true, Bool.or_eq_true, Bool.not_eq_true', decide_eq_false_iff_not] at hqt12_1
    refine wp_skip ?_
    (try simp only [Exit.then, Exit.inBlock, ↓reduceIte, Nat.reduceEqDiff])
    refine hK2 _ _ ?_
    refine wp_seq_k (fun K6 hK6 => ?_)
    refine wp_region_lit ?_
    refine sqv hf (r_fa rfl Tryd.underlying25 (f := 0) (q := 0) rfl (by kernel_rfl) rfl) rfl rfl rfl ?_; clear hf fa; intro fa hf
    refine sqv hf (r_load (v := (.int .u8 ((op : Nat) : Int))) rfl Tryd.underlying5 rfl (cell_blk hk1 rfl)) rfl rfl rfl ?_; clear hf fa; intro fa hf
    refine sqv hf (r_conv (C := ((op : Nat) : Int)) rfl Tryd.underlying5 Tryd.underlying3 (by rw [IntKind.wrap_i64]; omega)) rfl rfl rfl ?_; clear hf fa; intro fa hf
    refine sqdt hf (d_callB (vs := [(.int .i64 ((op : Nat) : Int))]) rfl Tryd.func22 (by kernel_rfl) (by kernel_rfl) (of_any op _ hop)) rfl rfl rfl ?_; clear hf fa; rintro fa _ w3 ⟨rfl, he3⟩ hf
    replace hk1 := blk_ext hk1 he3
    replace hb := hb.trans (Below.mono he3 hb.size)
    refine sqv hf (r_move rfl) rfl rfl rfl ?_; clear hf fa; intro fa hf
    refine sqv hf (r_extract rfl (i := 0) rfl) rfl rfl rfl ?_; clear hf fa; intro fa hf
    refine sqv hf (r_extract rfl (i := 1) rfl) rfl rfl rfl ?_; clear hf fa; intro fa hf
    refine sqdt hf (d_alloc (z := (.agg #[(.int .i64 (0 : Int)), (.string ⟨#[]⟩), (.int .i64 (0 : Int)), (.string ⟨#[]⟩), (.string ⟨#[]⟩), (.bool false)])) (cs := #[(.int .i64 (0 : Int)), (.string ⟨#[]⟩), (.int .i64 (0 : Int)), (.string ⟨#[]⟩), (.string ⟨#[]⟩), (.bool false)]) (by kernel_rfl) rfl) rfl rfl rfl ?_; clear hf fa; rintro fa _ w4 ⟨b2, rfl, hle2, hk2, he4⟩ hf
    have hBb2 : w.heap.size ≤ b2 := Nat.le_trans hb.size hle2
    have : b1 < b2 := Nat.lt_of_lt_of_le (blk_lt hk1) hle2
    replace hk1 := blk_ext hk1 he4
    replace hb := hb.trans (Below.mono he4 hb.size)
    refine sqn hf (d_storeK (T := 57) (v := (.agg #[(.int .i64 ((ofP op).1.1)), (.string (ofP op).1.2.1), (.int .i64 ((ofP op).1.2.2.1)), (.string (ofP op).1.2.2.2.1), (.string (ofP op).1.2.2.2.2.1), (.bool (ofP op).1.2.2.2.2.2.1)])) (cs := #[(.int .i64 (0 : Int)), (.string ⟨#[]⟩), (.int .i64 (0 : Int)), (.string ⟨#[]⟩), (.string ⟨#[]⟩), (.bool false)]) (cs' := #[(.int .i64 ((ofP op).1.1)), (.string (ofP op).1.2.1), (.int .i64 ((ofP op).1.2.2.1)), (.string (ofP op).1.2.2.2.1), (.string (ofP op).1.2.2.2.2.1), (.bool (ofP op).1.2.2.2.2.2.1)]) rfl rfl (by kernel_rfl) (by kernel_rfl) hk2 (by kernel_rfl) (by kernel_rfl)) rfl rfl ?_; clear hf fa; rintro fa _ w5 ⟨hk3, hg1⟩ hf
    replace hk1 := blk_grown hk1 hg1 (by omega)
    replace hb := hb.trans (grown_below hg1 hb.size hBb2)
    refine sqv hf (r_assign rfl) rfl rfl rfl ?_; clear hf fa; intro fa hf
    apply wpList_nil
    (try simp only [Exit.then, Exit.inBlock, ↓reduceIte, Nat.reduceEqDiff])
    refine hK6 _ _ ?_
    refine wp_seq_k (fun K7 hK7 => ?_)
    refine wp_seq_k (fun K8 hK8 => ?_)
    refine wp_region_lit ?_
    refine sqv hf (r_fa rfl Tryd.underlying25 (f := 3) (q := 3) rfl (by kernel_rfl) rfl) rfl rfl rfl ?_; clear hf fa; intro fa hf
    refine sqv hf (r_load (v := (.slice a L.length c)) rfl Tryd.underlying23 rfl (cell_blk hk1 rfl)) rfl rfl rfl ?_; clear hf fa; intro fa hf
    refine sqv hf (r_lensl rfl Tryd.underlying23) rfl rfl rfl ?_; clear hf fa; intro fa hf
    refine sqv hf (r_gt rfl rfl) rfl rfl rfl ?_; clear hf fa; intro fa hf
    refine sqv hf (r_move rfl) rfl rfl rfl ?_; clear hf fa; intro fa hf
    refine sqgT (act := (decide ((0 : Int) < ((L.length : Nat) : Int)))) (ag := true) (c := (decide ((0 : Int) < ((L.length : Nat) : Int)))) (v := (.pointer (some ⟨b2, 2, none⟩))) hf rfl rfl rfl (fun hact => (r_fa rfl Tryd.underlying57 (f := 2) (q := 2) rfl (by kernel_rfl) rfl)) rfl rfl ?_; clear hf fa; intro fa hf
    refine sqgT (act := (decide ((0 : Int) < ((L.length : Nat) : Int)))) (ag := true) (c := (decide ((0 : Int) < ((L.length : Nat) : Int)))) (v := (.int .i64 ((ofP op).1.2.2.1))) hf rfl rfl rfl (fun hact => (r_load (v := (.int .i64 ((ofP op).1.2.2.1))) (gb_ev hact rfl) Tryd.underlying3 rfl (cell_blk hk3 rfl))) rfl rfl ?_; clear hf fa; intro fa hf
    refine sqgT (act := (decide ((0 : Int) < ((L.length : Nat) : Int)))) (ag := true) (c := (decide ((0 : Int) < ((L.length : Nat) : Int)))) (v := (.bool (decide (((ofP op).1.2.2.1) ≠ (3 : Int))))) hf rfl rfl rfl (fun hact => (r_ne (gb_ev hact rfl) rfl)) rfl rfl ?_; clear hf fa; intro fa hf
    refine sqv hf (r_pickA (b := (decide ((0 : Int) < ((L.length : Nat) : Int)))) (e := (decide (((ofP op).1.2.2.1) ≠ (3 : Int)))) rfl rfl rfl) rfl rfl rfl ?_; clear hf fa; intro fa hf
    apply wpList_nil
    (try simp only [Exit.then, Exit.inBlock, ↓reduceIte, Nat.reduceEqDiff])
    refine hK8 _ _ ?_
    refine wp_cond_split (t := ((decide ((0 : Int) < ((L.length : Nat) : Int))) && (decide (((ofP op).1.2.2.1) ≠ (3 : Int))))) (hf.ev rfl) (fun hqt29_1 => ?_) (fun hqt29_1 => ?_)
    · have hqt29_1b := hqt29_1
      try simp only [decide_eq_true_eq, Bool.and_eq_true, Bool.or_eq_true, Bool.not_eq_true', decide_eq_false_iff_not, ne_eq, Bool.not_eq_true] at hqt29_1
      refine wp_seq_k (fun K9 hK9 => ?_)
      refine wp_region_lit ?_
      refine sqv hf (r_assign rfl) rfl rfl rfl ?_; clear hf fa; intro fa hf
      apply wpList_nil
      (try simp only [Exit.then, Exit.inBlock, ↓reduceIte, Nat.reduceEqDiff])
      refine hK9 _ _ ?_
      refine wp_ret ?_
      (try simp only [Exit.then, Exit.inBlock])
      refine ret1 hf rfl rfl ?_
      refine ⟨congrArg (fun n => Ending.returned (.int .i64 n)) ?_, hb⟩; rw [rp_n1 (by have h := hqt12_1; omega) (by have h := hqt29_1; omega)]
    · have hqt29_1b := hqt29_1
      replace hqt29_1 := Bool.eq_false_iff.1 hqt29_1
      try simp only [ne_eq, decide_eq_true_eq, Bool.and_eq_true, Bool.or_eq_true, Bool.not_eq_true', decide_eq_false_iff_not] at hqt29_1
      refine wp_skip ?_
      (try simp only [Exit.then, Exit.inBlock, ↓reduceIte, Nat.reduceEqDiff])
      refine hK7 _ _ ?_
      refine wp_seq_k (fun K10 hK10 => ?_)
      refine wp_seq_k (fun K11 hK11 => ?_)
      refine wp_region_lit ?_
      refine sqv hf (r_fa rfl Tryd.underlying25 (f := 3) (q := 3) rfl (by kernel_rfl) rfl) rfl rfl rfl ?_; clear hf fa; intro fa hf
      refine sqv hf (r_load (v := (.slice a L.length c)) rfl Tryd.underlying23 rfl (cell_blk hk1 rfl)) rfl rfl rfl ?_; clear hf fa; intro fa hf
      refine sqv hf (r_lensl rfl Tryd.underlying23) rfl rfl rfl ?_; clear hf fa; intro fa hf
      refine sqv hf (r_gt rfl rfl) rfl rfl rfl ?_; clear hf fa; intro fa hf
      apply wpList_nil
      (try simp only [Exit.then, Exit.inBlock, ↓reduceIte, Nat.reduceEqDiff])
      refine hK11 _ _ ?_
      refine wp_cond_split (t := (decide ((10000 : Int) < ((L.length : Nat) : Int)))) (hf.ev rfl) (fun hqt33_1 => ?_) (fun hqt33_1 => ?_)
      · have hqt33_1b := hqt33_1
        try simp only [decide_eq_true_eq, Bool.and_eq_true, Bool.or_eq_true, Bool.not_eq_true', decide_eq_false_iff_not, ne_eq, Bool.not_eq_true] at hqt33_1
        refine wp_seq_k (fun K12 hK12 => ?_)
        refine wp_region_lit ?_
        refine sqv hf (r_assign rfl) rfl rfl rfl ?_; clear hf fa; intro fa hf
        apply wpList_nil
        (try simp only [Exit.then, Exit.inBlock, ↓reduceIte, Nat.reduceEqDiff])
        refine hK12 _ _ ?_
        refine wp_ret ?_
        (try simp only [Exit.then, Exit.inBlock])
        refine ret1 hf rfl rfl ?_
        refine ⟨congrArg (fun n => Ending.returned (.int .i64 n)) ?_, hb⟩; rw [rp_n2 (by have h := hqt12_1; omega) (by have h := hqt29_1; omega) (by have h := hqt33_1; omega)]
      · have hqt33_1b := hqt33_1
        replace hqt33_1 := Bool.eq_false_iff.1 hqt33_1
        try simp only [ne_eq, decide_eq_true_eq, Bool.and_eq_true, Bool.or_eq_true, Bool.not_eq_true', decide_eq_false_iff_not] at hqt33_1
        refine wp_skip ?_
        (try simp only [Exit.then, Exit.inBlock, ↓reduceIte, Nat.reduceEqDiff])
        refine hK10 _ _ ?_
        refine wp_seq_k (fun K13 hK13 => ?_)
        refine wp_seq_k (fun K14 hK14 => ?_)
        refine wp_region_lit ?_
        refine sqv hf (r_fa rfl Tryd.underlying25 (f := 2) (q := 2) rfl (by kernel_rfl) rfl) rfl rfl rfl ?_; clear hf fa; intro fa hf
        refine sqv hf (r_load (v := (.int .u64 B)) rfl Tryd.underlying22 rfl (cell_blk hk1 rfl)) rfl rfl rfl ?_; clear hf fa; intro fa hf
        refine sqv hf (r_ne rfl rfl) rfl rfl rfl ?_; clear hf fa; intro fa hf
        refine sqv hf (r_move rfl) rfl rfl rfl ?_; clear hf fa; intro fa hf
        refine sqgT (act := (decide (B ≠ (0 : Int)))) (ag := true) (c := (decide (B ≠ (0 : Int)))) (v := (.pointer (some ⟨b2, 2, none⟩))) hf rfl rfl rfl (fun hact => (r_fa rfl Tryd.underlying57 (f := 2) (q := 2) rfl (by kernel_rfl) rfl)) rfl rfl ?_; clear hf fa; intro fa hf
        refine sqgT (act := (decide (B ≠ (0 : Int)))) (ag := true) (c := (decide (B ≠ (0 : Int)))) (v := (.int .i64 ((ofP op).1.2.2.1))) hf rfl rfl rfl (fun hact => (r_load (v := (.int .i64 ((ofP op).1.2.2.1))) (gb_ev hact rfl) Tryd.underlying3 rfl (cell_blk hk3 rfl))) rfl rfl ?_; clear hf fa; intro fa hf
        refine sqgT (act := (decide (B ≠ (0 : Int)))) (ag := true) (c := (decide (B ≠ (0 : Int)))) (v := (.bool (decide (((ofP op).1.2.2.1) ≠ (8 : Int))))) hf rfl rfl rfl (fun hact => (r_ne (gb_ev hact rfl) rfl)) rfl rfl ?_; clear hf fa; intro fa hf
        refine sqv hf (r_pickA (b := (decide (B ≠ (0 : Int)))) (e := (decide (((ofP op).1.2.2.1) ≠ (8 : Int)))) rfl rfl rfl) rfl rfl rfl ?_; clear hf fa; intro fa hf
        apply wpList_nil
        (try simp only [Exit.then, Exit.inBlock, ↓reduceIte, Nat.reduceEqDiff])
        refine hK14 _ _ ?_
        refine wp_cond_split (t := ((decide (B ≠ (0 : Int))) && (decide (((ofP op).1.2.2.1) ≠ (8 : Int))))) (hf.ev rfl) (fun hqt41_1 => ?_) (fun hqt41_1 => ?_)
        · have hqt41_1b := hqt41_1
          try simp only [decide_eq_true_eq, Bool.and_eq_true, Bool.or_eq_true, Bool.not_eq_true', decide_eq_false_iff_not, ne_eq, Bool.not_eq_true] at hqt41_1
          refine wp_seq_k (fun K15 hK15 => ?_)
          refine wp_region_lit ?_
          refine sqv hf (r_assign rfl) rfl rfl rfl ?_; clear hf fa; intro fa hf
          apply wpList_nil
          (try simp only [Exit.then, Exit.inBlock, ↓reduceIte, Nat.reduceEqDiff])
          refine hK15 _ _ ?_
          refine wp_ret ?_
          (try simp only [Exit.then, Exit.inBlock])
          refine ret1 hf rfl rfl ?_
          refine ⟨congrArg (fun n => Ending.returned (.int .i64 n)) ?_, hb⟩; rw [rp_b (by have h := hqt12_1; omega) (by have h := hqt29_1; omega) (by have h := hqt33_1; omega) (by have h := hqt41_1; omega)]
        · have hqt41_1b := hqt41_1
          replace hqt41_1 := Bool.eq_false_iff.1 hqt41_1
          try simp only [ne_eq, decide_eq_true_eq, Bool.and_eq_true, Bool.or_eq_true, Bool.not_eq_true', decide_eq_false_iff_not] at hqt41_1
          refine wp_skip ?_
          (try simp only [Exit.then, Exit.inBlock, ↓reduceIte, Nat.reduceEqDiff])
          refine hK13 _ _ ?_
          refine wp_seq_k (fun K16 hK16 => ?_)
          refine wp_region_lit ?_
          refine sqv hf (r_fa rfl Tryd.underlying25 (f := 1) (q := 1) rfl (by kernel_rfl) rfl) rfl rfl rfl ?_; clear hf fa; intro fa hf
          refine sqv hf (r_load (v := (.int .u64 A)) rfl Tryd.underlying22 rfl (cell_blk hk1 rfl)) rfl rfl rfl ?_; clear hf fa; intro fa hf
          refine sqv hf (r_lt rfl rfl) rfl rfl rfl ?_; clear hf fa; intro fa hf
          refine sqv hf (r_move rfl) rfl rfl rfl ?_; clear hf fa; intro fa hf
          refine sqgT (act := (decide (A < (4294967296 : Int)))) (ag := true) (c := (decide (A < (4294967296 : Int)))) (v := (.pointer (some ⟨b1, 2, none⟩))) hf rfl rfl rfl (fun hact => (r_fa rfl Tryd.underlying25 (f := 2) (q := 2) rfl (by kernel_rfl) rfl)) rfl rfl ?_; clear hf fa; intro fa hf
          refine sqgT (act := (decide (A < (4294967296 : Int)))) (ag := true) (c := (decide (A < (4294967296 : Int)))) (v := (.int .u64 B)) hf rfl rfl rfl (fun hact => (r_load (v := (.int .u64 B)) (gb_ev hact rfl) Tryd.underlying22 rfl (cell_blk hk1 rfl))) rfl rfl ?_; clear hf fa; intro fa hf
          refine sqgT (act := (decide (A < (4294967296 : Int)))) (ag := true) (c := (decide (A < (4294967296 : Int)))) (v := (.bool (decide (B < (4294967296 : Int))))) hf rfl rfl rfl (fun hact => (r_lt (gb_ev hact rfl) rfl)) rfl rfl ?_; clear hf fa; intro fa hf
          refine sqv hf (r_pickA (b := (decide (A < (4294967296 : Int)))) (e := (decide (B < (4294967296 : Int)))) rfl rfl rfl) rfl rfl rfl ?_; clear hf fa; intro fa hf
          refine sqv hf (r_assign rfl) rfl rfl rfl ?_; clear hf fa; intro fa hf
          apply wpList_nil
          (try simp only [Exit.then, Exit.inBlock, ↓reduceIte, Nat.reduceEqDiff])
          refine hK16 _ _ ?_
          refine wp_seq_k (fun K17 hK17 => ?_)
          refine wp_seq_k (fun K18 hK18 => ?_)
          refine wp_region_lit ?_
          refine sqv hf (r_fa rfl Tryd.underlying57 (f := 2) (q := 2) rfl (by kernel_rfl) rfl) rfl rfl rfl ?_; clear hf fa; intro fa hf
          refine sqv hf (r_load (v := (.int .i64 ((ofP op).1.2.2.1))) rfl Tryd.underlying3 rfl (cell_blk hk3 rfl)) rfl rfl rfl ?_; clear hf fa; intro fa hf
          apply wpList_nil
          (try simp only [Exit.then, Exit.inBlock, ↓reduceIte, Nat.reduceEqDiff])
          refine hK18 _ _ ?_
          refine wp_block ?_
          refine wp_seq_k (fun K19 hK19 => ?_)
          refine wp_seq_k (fun K20 hK20 => ?_)
          refine wp_region_lit ?_
          refine sqv hf (r_eq rfl rfl) rfl rfl rfl ?_; clear hf fa; intro fa hf
          refine sqv hf (r_assign rfl) rfl rfl rfl ?_; clear hf fa; intro fa hf
          apply wpList_nil
          (try simp only [Exit.then, Exit.inBlock, ↓reduceIte, Nat.reduceEqDiff])
          refine hK20 _ _ ?_
          refine wp_cond_split (t := (decide (((ofP op).1.2.2.1) = (0 : Int)))) (hf.ev rfl) (fun hqt52_1 => ?_) (fun hqt52_1 => ?_)
          · have hqt52_1b := hqt52_1
            try simp only [decide_eq_true_eq, Bool.and_eq_true, Bool.or_eq_true, Bool.not_eq_true', decide_eq_false_iff_not, ne_eq, Bool.not_eq_true] at hqt52_1
            refine wp_skip ?_
            (try simp only [Exit.then, Exit.inBlock, ↓reduceIte, Nat.reduceEqDiff])
            refine hK19 _ _ ?_
            refine wp_cond_true ((hf.ev rfl).trans (congrArg Value.bool (show (decide (((ofP op).1.2.2.1) = (0 : Int))) = true from hqt52_1b))) ?_
            refine wp_region_lit ?_
            refine sqv hf (r_fa rfl Tryd.underlying25 (f := 1) (q := 1) rfl (by kernel_rfl) rfl) rfl rfl rfl ?_; clear hf fa; intro fa hf
            refine sqv hf (r_load (v := (.int .u64 A)) rfl Tryd.underlying22 rfl (cell_blk hk1 rfl)) rfl rfl rfl ?_; clear hf fa; intro fa hf
            refine sqv hf (r_eq rfl rfl) rfl rfl rfl ?_; clear hf fa; intro fa hf
            refine sqv hf (r_assign rfl) rfl rfl rfl ?_; clear hf fa; intro fa hf
            apply wpList_nil
            (try simp only [Exit.then, Exit.inBlock, ↓reduceIte, Nat.reduceEqDiff])
            refine hK17 _ _ ?_
            refine wp_seq_k (fun K21 hK21 => ?_)
            refine wp_seq_k (fun K22 hK22 => ?_)
            refine wp_region_lit ?_
            refine sqv hf (r_move rfl) rfl rfl rfl ?_; clear hf fa; intro fa hf
            refine sqv hf (r_not rfl) rfl rfl rfl ?_; clear hf fa; intro fa hf
            apply wpList_nil
            (try simp only [Exit.then, Exit.inBlock, ↓reduceIte, Nat.reduceEqDiff])
            refine hK22 _ _ ?_
            refine wp_cond_split (t := (!(decide (A = (0 : Int))))) (hf.ev rfl) (fun hqt71_1 => ?_) (fun hqt71_1 => ?_)
            · have hqt71_1b := hqt71_1
              try simp only [decide_eq_true_eq, Bool.and_eq_true, Bool.or_eq_true, Bool.not_eq_true', decide_eq_false_iff_not, ne_eq, Bool.not_eq_true] at hqt71_1
              refine wp_seq_k (fun K23 hK23 => ?_)
              refine wp_region_lit ?_
              refine sqv hf (r_assign rfl) rfl rfl rfl ?_; clear hf fa; intro fa hf
              apply wpList_nil
              (try simp only [Exit.then, Exit.inBlock, ↓reduceIte, Nat.reduceEqDiff])
              refine hK23 _ _ ?_
              refine wp_ret ?_
              (try simp only [Exit.then, Exit.inBlock])
              refine ret1 hf rfl rfl ?_
              refine ⟨congrArg (fun n => Ending.returned (.int .i64 n)) ?_, hb⟩; rw [rp_c (by have h := hqt12_1; omega) (by have h := hqt29_1; omega) (by have h := hqt33_1; omega) (by have h := hqt41_1; omega)]; rw [if_pos (by have h0 := hqt52_1; omega), if_neg (by have h := hqt71_1; omega)]
            · have hqt71_1b := hqt71_1
              replace hqt71_1 := Bool.eq_false_iff.1 hqt71_1
              try simp only [ne_eq, decide_eq_true_eq, Bool.and_eq_true, Bool.or_eq_true, Bool.not_eq_true', decide_eq_false_iff_not] at hqt71_1
              refine wp_skip ?_
              (try simp only [Exit.then, Exit.inBlock, ↓reduceIte, Nat.reduceEqDiff])
              refine hK21 _ _ ?_
              refine wp_seq_k (fun K24 hK24 => ?_)
              refine wp_region_lit ?_
              refine sqv hf (r_assign rfl) rfl rfl rfl ?_; clear hf fa; intro fa hf
              apply wpList_nil
              (try simp only [Exit.then, Exit.inBlock, ↓reduceIte, Nat.reduceEqDiff])
              refine hK24 _ _ ?_
              refine wp_ret ?_
              (try simp only [Exit.then, Exit.inBlock])
              refine ret1 hf rfl rfl ?_
              refine ⟨congrArg (fun n => Ending.returned (.int .i64 n)) ?_, hb⟩; rw [rp_c (by have h := hqt12_1; omega) (by have h := hqt29_1; omega) (by have h := hqt33_1; omega) (by have h := hqt41_1; omega)]; rw [if_pos (by have h0 := hqt52_1; omega), if_pos (by have h := hqt71_1; omega)]
          · have hqt52_1b := hqt52_1
            replace hqt52_1 := Bool.eq_false_iff.1 hqt52_1
            try simp only [ne_eq, decide_eq_true_eq, Bool.and_eq_true, Bool.or_eq_true, Bool.not_eq_true', decide_eq_false_iff_not] at hqt52_1
            refine wp_region_lit ?_
            refine sqv hf (r_eq rfl rfl) rfl rfl rfl ?_; clear hf fa; intro fa hf
            refine sqv hf (r_assign rfl) rfl rfl rfl ?_; clear hf fa; intro fa hf
            apply wpList_nil
            (try simp only [Exit.then, Exit.inBlock, ↓reduceIte, Nat.reduceEqDiff])
            refine hK19 _ _ ?_
            refine wp_cond_split (t := (decide (((ofP op).1.2.2.1) = (9 : Int)))) (hf.ev rfl) (fun hqt52_3 => ?_) (fun hqt52_3 => ?_)
            · have hqt52_3b := hqt52_3
              try simp only [decide_eq_true_eq, Bool.and_eq_true, Bool.or_eq_true, Bool.not_eq_true', decide_eq_false_iff_not, ne_eq, Bool.not_eq_true] at hqt52_3
              refine wp_region_lit ?_
              refine sqv hf (r_fa rfl Tryd.underlying25 (f := 1) (q := 1) rfl (by kernel_rfl) rfl) rfl rfl rfl ?_; clear hf fa; intro fa hf
              refine sqv hf (r_load (v := (.int .u64 A)) rfl Tryd.underlying22 rfl (cell_blk hk1 rfl)) rfl rfl rfl ?_; clear hf fa; intro fa hf
              refine sqv hf (r_eq rfl rfl) rfl rfl rfl ?_; clear hf fa; intro fa hf
              refine sqv hf (r_assign rfl) rfl rfl rfl ?_; clear hf fa; intro fa hf
              apply wpList_nil
              (try simp only [Exit.then, Exit.inBlock, ↓reduceIte, Nat.reduceEqDiff])
              refine hK17 _ _ ?_
              refine wp_seq_k (fun K25 hK25 => ?_)
              refine wp_seq_k (fun K26 hK26 => ?_)
              refine wp_region_lit ?_
              refine sqv hf (r_move rfl) rfl rfl rfl ?_; clear hf fa; intro fa hf
              refine sqv hf (r_not rfl) rfl rfl rfl ?_; clear hf fa; intro fa hf
              apply wpList_nil
              (try simp only [Exit.then, Exit.inBlock, ↓reduceIte, Nat.reduceEqDiff])
              refine hK26 _ _ ?_
              refine wp_cond_split (t := (!(decide (A = (0 : Int))))) (hf.ev rfl) (fun hqt71_2 => ?_) (fun hqt71_2 => ?_)
              · have hqt71_2b := hqt71_2
                try simp only [decide_eq_true_eq, Bool.and_eq_true, Bool.or_eq_true, Bool.not_eq_true', decide_eq_false_iff_not, ne_eq, Bool.not_eq_true] at hqt71_2
                refine wp_seq_k (fun K27 hK27 => ?_)
                refine wp_region_lit ?_
                refine sqv hf (r_assign rfl) rfl rfl rfl ?_; clear hf fa; intro fa hf
                apply wpList_nil
                (try simp only [Exit.then, Exit.inBlock, ↓reduceIte, Nat.reduceEqDiff])
                refine hK27 _ _ ?_
                refine wp_ret ?_
                (try simp only [Exit.then, Exit.inBlock])
                refine ret1 hf rfl rfl ?_
                refine ⟨congrArg (fun n => Ending.returned (.int .i64 n)) ?_, hb⟩; rw [rp_c (by have h := hqt12_1; omega) (by have h := hqt29_1; omega) (by have h := hqt33_1; omega) (by have h := hqt41_1; omega)]; rw [if_pos (by have h0 := hqt52_1; have h1 := hqt52_3; omega), if_neg (by have h := hqt71_2; omega)]
              · have hqt71_2b := hqt71_2
                replace hqt71_2 := Bool.eq_false_iff.1 hqt71_2
                try simp only [ne_eq, decide_eq_true_eq, Bool.and_eq_true, Bool.or_eq_true, Bool.not_eq_true', decide_eq_false_iff_not] at hqt71_2
                refine wp_skip ?_
                (try simp only [Exit.then, Exit.inBlock, ↓reduceIte, Nat.reduceEqDiff])
                refine hK25 _ _ ?_
                refine wp_seq_k (fun K28 hK28 => ?_)
                refine wp_region_lit ?_
                refine sqv hf (r_assign rfl) rfl rfl rfl ?_; clear hf fa; intro fa hf
                apply wpList_nil
                (try simp only [Exit.then, Exit.inBlock, ↓reduceIte, Nat.reduceEqDiff])
                refine hK28 _ _ ?_
                refine wp_ret ?_
                (try simp only [Exit.then, Exit.inBlock])
                refine ret1 hf rfl rfl ?_
                refine ⟨congrArg (fun n => Ending.returned (.int .i64 n)) ?_, hb⟩; rw [rp_c (by have h := hqt12_1; omega) (by have h := hqt29_1; omega) (by have h := hqt33_1; omega) (by have h := hqt41_1; omega)]; rw [if_pos (by have h0 := hqt52_1; have h1 := hqt52_3; omega), if_pos (by have h := hqt71_2; omega)]
            · have hqt52_3b := hqt52_3
              replace hqt52_3 := Bool.eq_false_iff.1 hqt52_3
              try simp only [ne_eq, decide_eq_true_eq, Bool.and_eq_true, Bool.or_eq_true, Bool.not_eq_true', decide_eq_false_iff_not] at hqt52_3
              refine wp_seq_k (fun K29 hK29 => ?_)
              refine wp_region_lit ?_
              refine sqv hf (r_eq rfl rfl) rfl rfl rfl ?_; clear hf fa; intro fa hf
              refine sqv hf (r_assign rfl) rfl rfl rfl ?_; clear hf fa; intro fa hf
              apply wpList_nil
              (try simp only [Exit.then, Exit.inBlock, ↓reduceIte, Nat.reduceEqDiff])
              refine hK29 _ _ ?_
              refine wp_cond_split (t := (decide (((ofP op).1.2.2.1) = (1 : Int)))) (hf.ev rfl) (fun hqt58_1 => ?_) (fun hqt58_1 => ?_)
              · have hqt58_1b := hqt58_1
                try simp only [decide_eq_true_eq, Bool.and_eq_true, Bool.or_eq_true, Bool.not_eq_true', decide_eq_false_iff_not, ne_eq, Bool.not_eq_true] at hqt58_1
                refine wp_seq_k (fun K30 hK30 => ?_)
                refine wp_seq_k (fun K31 hK31 => ?_)
                refine wp_region_lit ?_
                refine sqv hf (r_fa rfl Tryd.underlying25 (f := 1) (q := 1) rfl (by kernel_rfl) rfl) rfl rfl rfl ?_; clear hf fa; intro fa hf
                refine sqv hf (r_load (v := (.int .u64 A)) rfl Tryd.underlying22 rfl (cell_blk hk1 rfl)) rfl rfl rfl ?_; clear hf fa; intro fa hf
                refine sqv hf (r_eq rfl rfl) rfl rfl rfl ?_; clear hf fa; intro fa hf
                apply wpList_nil
                (try simp only [Exit.then, Exit.inBlock, ↓reduceIte, Nat.reduceEqDiff])
                refine hK31 _ _ ?_
                refine wp_cond_split (t := (decide (A = (64 : Int)))) (hf.ev rfl) (fun hqt62_1 => ?_) (fun hqt62_1 => ?_)
                · have hqt62_1b := hqt62_1
                  try simp only [decide_eq_true_eq, Bool.and_eq_true, Bool.or_eq_true, Bool.not_eq_true', decide_eq_false_iff_not, ne_eq, Bool.not_eq_true] at hqt62_1
                  refine wp_seq_k (fun K32 hK32 => ?_)
                  refine wp_region_lit ?_
                  refine sqv hf (r_assign rfl) rfl rfl rfl ?_; clear hf fa; intro fa hf
                  apply wpList_nil
                  (try simp only [Exit.then, Exit.inBlock, ↓reduceIte, Nat.reduceEqDiff])
                  refine hK32 _ _ ?_
                  refine wp_ret ?_
                  (try simp only [Exit.then, Exit.inBlock])
                  refine ret1 hf rfl rfl ?_
                  refine ⟨congrArg (fun n => Ending.returned (.int .i64 n)) ?_, hb⟩; rw [rp_c (by have h := hqt12_1; omega) (by have h := hqt29_1; omega) (by have h := hqt33_1; omega) (by have h := hqt41_1; omega)]; rw [if_neg (by have h0 := hqt52_1; have h1 := hqt52_3; have h2 := hqt58_1; omega), if_pos (by have h0 := hqt52_1; have h1 := hqt52_3; have h2 := hqt58_1; omega)]; unfold blkP; rw [if_pos (by have h := hqt62_1; omega)]
                · have hqt62_1b := hqt62_1
                  replace hqt62_1 := Bool.eq_false_iff.1 hqt62_1
                  try simp only [ne_eq, decide_eq_true_eq, Bool.and_eq_true, Bool.or_eq_true, Bool.not_eq_true', decide_eq_false_iff_not] at hqt62_1
                  refine wp_skip ?_
                  (try simp only [Exit.then, Exit.inBlock, ↓reduceIte, Nat.reduceEqDiff])
                  refine hK30 _ _ ?_
                  refine wp_seq_k (fun K33 hK33 => ?_)
                  refine wp_region_lit ?_
                  refine sqv hf (r_fa rfl Tryd.underlying25 (f := 1) (q := 1) rfl (by kernel_rfl) rfl) rfl rfl rfl ?_; clear hf fa; intro fa hf
                  refine sqv hf (r_load (v := (.int .u64 A)) rfl Tryd.underlying22 rfl (cell_blk hk1 rfl)) rfl rfl rfl ?_; clear hf fa; intro fa hf
                  refine sqv hf (r_min rfl rfl) rfl rfl rfl ?_; clear hf fa; intro fa hf
                  refine sqv hf (r_conv (C := (if (256 : Int) < A then (256 : Int) else A)) rfl Tryd.underlying22 Tryd.underlying3 (by rw [IntKind.wrap_i64]; omega)) rfl rfl rfl ?_; clear hf fa; intro fa hf
                  refine sqdt hf (d_callB (vs := [(.int .i64 (if (256 : Int) < A then (256 : Int) else A))]) rfl Tryd.func30 (by kernel_rfl) (by kernel_rfl) (rval_any (if (256 : Int) < A then (256 : Int) else A) _)) rfl rfl rfl ?_; clear hf fa; rintro fa _ w6 ⟨rfl, he5⟩ hf
                  replace hk1 := blk_ext hk1 he5
                  replace hk3 := blk_ext hk3 he5
                  replace hb := hb.trans (Below.mono he5 hb.size)
                  refine sqv hf (r_assign rfl) rfl rfl rfl ?_; clear hf fa; intro fa hf
                  apply wpList_nil
                  (try simp only [Exit.then, Exit.inBlock, ↓reduceIte, Nat.reduceEqDiff])
                  refine hK33 _ _ ?_
                  refine wp_ret ?_
                  (try simp only [Exit.then, Exit.inBlock])
                  refine ret1 hf rfl rfl ?_
                  refine ⟨congrArg (fun n => Ending.returned (.int .i64 n)) ?_, hb⟩; rw [blk_val A (by have h := hqt62_1; omega)]; rw [rp_c (by have h := hqt12_1; omega) (by have h := hqt29_1; omega) (by have h := hqt33_1; omega) (by have h := hqt41_1; omega)]; rw [if_neg (by have h0 := hqt52_1; have h1 := hqt52_3; have h2 := hqt58_1; omega), if_pos (by have h0 := hqt52_1; have h1 := hqt52_3; have h2 := hqt58_1; omega)]
              · have hqt58_1b := hqt58_1
                replace hqt58_1 := Bool.eq_false_iff.1 hqt58_1
                try simp only [ne_eq, decide_eq_true_eq, Bool.and_eq_true, Bool.or_eq_true, Bool.not_eq_true', decide_eq_false_iff_not] at hqt58_1
                refine wp_seq_k (fun K34 hK34 => ?_)
                refine wp_region_lit ?_
                refine sqv hf (r_eq rfl rfl) rfl rfl rfl ?_; clear hf fa; intro fa hf
                refine sqv hf (r_assign rfl) rfl rfl rfl ?_; clear hf fa; intro fa hf
                apply wpList_nil
                (try simp only [Exit.then, Exit.inBlock, ↓reduceIte, Nat.reduceEqDiff])
                refine hK34 _ _ ?_
                refine wp_cond_split (t := (decide (((ofP op).1.2.2.1) = (11 : Int)))) (hf.ev rfl) (fun hqt68_1 => ?_) (fun hqt68_1 => ?_)
                · have hqt68_1b := hqt68_1
                  try simp only [decide_eq_true_eq, Bool.and_eq_true, Bool.or_eq_true, Bool.not_eq_true', decide_eq_false_iff_not, ne_eq, Bool.not_eq_true] at hqt68_1
                  refine wp_region_lit ?_
                  refine sqv hf (r_assign rfl) rfl rfl rfl ?_; clear hf fa; intro fa hf
                  apply wpList_nil
                  (try simp only [Exit.then, Exit.inBlock, ↓reduceIte, Nat.reduceEqDiff])
                  refine hK17 _ _ ?_
                  refine wp_seq_k (fun K35 hK35 => ?_)
                  refine wp_seq_k (fun K36 hK36 => ?_)
                  refine wp_region_lit ?_
                  refine sqv hf (r_move rfl) rfl rfl rfl ?_; clear hf fa; intro fa hf
                  refine sqv hf (Runs.veq (v' := (.bool false)) (r_not rfl) rfl) rfl rfl rfl ?_; clear hf fa; intro fa hf
                  apply wpList_nil
                  (try simp only [Exit.then, Exit.inBlock, ↓reduceIte, Nat.reduceEqDiff])
                  refine hK36 _ _ ?_
                  refine wp_cond_false (hf.ev rfl) ?_
                  refine wp_skip ?_
                  (try simp only [Exit.then, Exit.inBlock, ↓reduceIte, Nat.reduceEqDiff])
                  refine hK35 _ _ ?_
                  refine wp_seq_k (fun K37 hK37 => ?_)
                  refine wp_region_lit ?_
                  refine sqv hf (r_assign rfl) rfl rfl rfl ?_; clear hf fa; intro fa hf
                  apply wpList_nil
                  (try simp only [Exit.then, Exit.inBlock, ↓reduceIte, Nat.reduceEqDiff])
                  refine hK37 _ _ ?_
                  refine wp_ret ?_
                  (try simp only [Exit.then, Exit.inBlock])
                  refine ret1 hf rfl rfl ?_
                  refine ⟨congrArg (fun n => Ending.returned (.int .i64 n)) ?_, hb⟩; rw [rp_c (by have h := hqt12_1; omega) (by have h := hqt29_1; omega) (by have h := hqt33_1; omega) (by have h := hqt41_1; omega)]; rw [if_neg (by have h0 := hqt52_1; have h1 := hqt52_3; have h2 := hqt58_1; have h3 := hqt68_1; omega), if_neg (by have h0 := hqt52_1; have h1 := hqt52_3; have h2 := hqt58_1; have h3 := hqt68_1; omega), if_pos (by have h0 := hqt52_1; have h1 := hqt52_3; have h2 := hqt58_1; have h3 := hqt68_1; omega)]
                · have hqt68_1b := hqt68_1
                  replace hqt68_1 := Bool.eq_false_iff.1 hqt68_1
                  try simp only [ne_eq, decide_eq_true_eq, Bool.and_eq_true, Bool.or_eq_true, Bool.not_eq_true', decide_eq_false_iff_not] at hqt68_1
                  refine wp_skip ?_
                  (try simp only [Exit.then, Exit.inBlock, ↓reduceIte, Nat.reduceEqDiff])
                  refine hK17 _ _ ?_
                  refine wp_seq_k (fun K38 hK38 => ?_)
                  refine wp_seq_k (fun K39 hK39 => ?_)
                  refine wp_region_lit ?_
                  refine sqv hf (r_move rfl) rfl rfl rfl ?_; clear hf fa; intro fa hf
                  refine sqv hf (r_not rfl) rfl rfl rfl ?_; clear hf fa; intro fa hf
                  apply wpList_nil
                  (try simp only [Exit.then, Exit.inBlock, ↓reduceIte, Nat.reduceEqDiff])
                  refine hK39 _ _ ?_
                  refine wp_cond_split (t := (!((decide (A < (4294967296 : Int))) && (decide (B < (4294967296 : Int)))))) (hf.ev rfl) (fun hqt71_4 => ?_) (fun hqt71_4 => ?_)
                  · have hqt71_4b := hqt71_4
                    try simp only [decide_eq_true_eq, Bool.and_eq_true, Bool.or_eq_true, Bool.not_eq_true', decide_eq_false_iff_not, ne_eq, Bool.not_eq_true] at hqt71_4
                    refine wp_seq_k (fun K40 hK40 => ?_)
                    refine wp_region_lit ?_
                    refine sqv hf (r_assign rfl) rfl rfl rfl ?_; clear hf fa; intro fa hf
                    apply wpList_nil
                    (try simp only [Exit.then, Exit.inBlock, ↓reduceIte, Nat.reduceEqDiff])
                    refine hK40 _ _ ?_
                    refine wp_ret ?_
                    (try simp only [Exit.then, Exit.inBlock])
                    refine ret1 hf rfl rfl ?_
                    refine ⟨congrArg (fun n => Ending.returned (.int .i64 n)) ?_, hb⟩; rw [rp_c (by have h := hqt12_1; omega) (by have h := hqt29_1; omega) (by have h := hqt33_1; omega) (by have h := hqt41_1; omega)]; rw [if_neg (by have h0 := hqt52_1; have h1 := hqt52_3; have h2 := hqt58_1; have h3 := hqt68_1; omega), if_neg (by have h0 := hqt52_1; have h1 := hqt52_3; have h2 := hqt58_1; have h3 := hqt68_1; omega), if_neg (by have h0 := hqt52_1; have h1 := hqt52_3; have h2 := hqt58_1; have h3 := hqt68_1; omega), if_neg (by intro hh; have h := hqt71_4; simp [hh.1, hh.2] at h)]
                  · have hqt71_4b := hqt71_4
                    replace hqt71_4 := Bool.eq_false_iff.1 hqt71_4
                    try simp only [ne_eq, decide_eq_true_eq, Bool.and_eq_true, Bool.or_eq_true, Bool.not_eq_true', decide_eq_false_iff_not] at hqt71_4
                    refine wp_skip ?_
                    (try simp only [Exit.then, Exit.inBlock, ↓reduceIte, Nat.reduceEqDiff])
                    refine hK38 _ _ ?_
                    refine wp_seq_k (fun K41 hK41 => ?_)
                    refine wp_region_lit ?_
                    refine sqv hf (r_assign rfl) rfl rfl rfl ?_; clear hf fa; intro fa hf
                    apply wpList_nil
                    (try simp only [Exit.then, Exit.inBlock, ↓reduceIte, Nat.reduceEqDiff])
                    refine hK41 _ _ ?_
                    refine wp_ret ?_
                    (try simp only [Exit.then, Exit.inBlock])
                    refine ret1 hf rfl rfl ?_
                    refine ⟨congrArg (fun n => Ending.returned (.int .i64 n)) ?_, hb⟩; rw [rp_c (by have h := hqt12_1; omega) (by have h := hqt29_1; omega) (by have h := hqt33_1; omega) (by have h := hqt41_1; omega)]; rw [if_neg (by have h0 := hqt52_1; have h1 := hqt52_3; have h2 := hqt58_1; have h3 := hqt68_1; omega), if_neg (by have h0 := hqt52_1; have h1 := hqt52_3; have h2 := hqt58_1; have h3 := hqt68_1; omega), if_neg (by have h0 := hqt52_1; have h1 := hqt52_3; have h2 := hqt58_1; have h3 := hqt68_1; omega), if_pos (by have h := hqt71_4; simpa using h)]
end Go.Proofs.YtpalmpfkliepfaaDoor

namespace Go.Proofs.YtpalmpfkliepfaaDoor
open Go.RowKit Ut
set_option linter.unusedVariables false
set_option linter.unusedSimpArgs false
attribute [local irreducible] infP ofP chkP rchkP

def foldD {α : Type} (f : α → ByteArray) (s : ByteArray) (l : List α) : ByteArray := l.foldl (fun a y => a ++ ((⟨#[32]⟩ : ByteArray) ++ f y)) s
theorem take_at {α : Type} {l : List α} {k : Nat} {y : α} (h : l[k]? = some y) : l.take (k + 1) = l.take k ++ [y] := by rw [List.take_add_one, h]; rfl
theorem foldD_snoc {α : Type} {f : α → ByteArray} {s : ByteArray} {l : List α} {k : Nat} {y : α} (h : l[k]? = some y) : foldD f s (l.take k) ++ ((⟨#[32]⟩ : ByteArray) ++ f y) = foldD f s (l.take (k + 1)) := by
  rw [take_at h]; unfold foldD; rw [List.foldl_append]; rfl
theorem foldD_snoc2 {α : Type} {f : α → ByteArray} {s : ByteArray} {l : List α} {k : Nat} {y : α} (h : l[k]? = some y) : (foldD f s (l.take k) ++ (⟨#[32]⟩ : ByteArray)) ++ f y = foldD f s (l.take (k + 1)) := by
  rw [← foldD_snoc h, ByteArray.append_assoc]
theorem foldD_len {α : Type} {f : α → ByteArray} {B : Nat} (l : List α) : ∀ s : ByteArray, (∀ y ∈ l, (f y).size ≤ B) → (foldD f s l).size ≤ s.size + l.length * (B + 1) := by
  induction l with
  | nil => intro s _; simp [foldD]
  | cons a o ih =>
    intro s h
    have h1 := ih (s ++ ((⟨#[32]⟩ : ByteArray) ++ f a)) (fun y hy => h y (List.mem_cons_of_mem _ hy))
    have h2 := h a (List.mem_cons_self ..)
    have h3 : (s ++ ((⟨#[32]⟩ : ByteArray) ++ f a)).size = s.size + (1 + (f a).size) := by rw [ByteArray.size_append, ByteArray.size_append]; rfl
    unfold foldD at h1 ⊢
    rw [List.foldl_cons, List.length_cons, Nat.add_mul]
    omega

def sA (n : Int) : Int := if n < 9223372036854775808 then n else n - 18446744073709551616
def s32 (n : Int) : Int := if n % 4294967296 < 2147483648 then n % 4294967296 else n % 4294967296 - 4294967296
theorem wrap_sA {n : Int} (h : 0 ≤ n ∧ n < 18446744073709551616) : IntKind.wrap .i64 n = sA n := by unfold sA; rw [IntKind.wrap_i64]; split <;> omega
theorem inI_sA {n : Int} (h : 0 ≤ n ∧ n < 18446744073709551616) : inI (sA n) := by unfold sA inI; split <;> omega
theorem inI_s32 (n : Int) : inI (s32 n) := by unfold s32 inI; split <;> omega
theorem foldD_base {α : Type} {f : α → ByteArray} (s t : ByteArray) (l : List α) : foldD f (s ++ t) l = s ++ foldD f t l := by
  induction l generalizing t with
  | nil => rfl
  | cons y l ih =>
    show foldD f ((s ++ t) ++ ((⟨#[32]⟩ : ByteArray) ++ f y)) l = s ++ foldD f (t ++ ((⟨#[32]⟩ : ByteArray) ++ f y)) l
    rw [← ih, ByteArray.append_assoc]
theorem app_nil (s : ByteArray) : s ++ (⟨#[]⟩ : ByteArray) = s := by
  apply bl_inj; rw [bl_app]; exact List.append_nil _
def blkS (A : Int) : ByteArray := if A = 64 then ⟨#[]⟩ else (⟨#[32]⟩ : ByteArray) ++ tnameP (A % 256)
theorem blkS_len (A : Int) : (blkS A).size ≤ 8 := by
  have h := tname_le (A % 256)
  have e : (⟨#[32]⟩ : ByteArray).size = 1 := rfl
  unfold blkS
  split
  · decide
  · rw [ByteArray.size_append]; omega
def behindP (op : Nat) (A B : Int) (L : List Int) : ByteArray :=
  if (infP op).2.1 = 0 ∨ (infP op).2.1 = 9 then ⟨#[]⟩
  else if (infP op).2.1 = 1 then blkS A
  else if (infP op).2.1 = 3 then (foldD dS ⟨#[]⟩ L ++ (⟨#[32]⟩ : ByteArray)) ++ dS (sA A)
  else if (infP op).2.1 = 8 then (((⟨#[32, 97, 108, 105, 103, 110, 61]⟩ : ByteArray) ++ dS (sA A)) ++ (⟨#[32, 111, 102, 102, 115, 101, 116, 61]⟩ : ByteArray)) ++ dS (sA B)
  else if (infP op).2.1 = 10 then (⟨#[32]⟩ : ByteArray) ++ dS (s32 A)
  else (⟨#[32]⟩ : ByteArray) ++ dS (sA A)
def lineP (op : Nat) (A B : Int) (L : List Int) : ByteArray := if rightP op A B L.length = 0 then nmO op ++ behindP op A B L else ⟨#[]⟩

set_option maxHeartbeats 1000000 in
set_option maxRecDepth 100000 in
theorem nat46_any (n : Int) (w : World) (h : 0 ≤ n ∧ n < 18446744073709551616) : Calls Tryd.prog 49 #[(.int .u64 n)] w fun e w' => e = .returned (.string (dS (sA n))) ∧ Below w.heap.size w w' := by
  refine sx_enter (L := [(0, (.int .u64 n))]) Tryd.func49 rfl rfl rfl rfl (fun fa hf => ?_)
  have hb : Below w.heap.size w w := Below.refl _ _
  refine wp_seq_k (fun K1 hK1 => ?_)
  refine wp_region_lit ?_
  refine sqv hf (r_assign rfl) rfl rfl rfl ?_; clear hf fa; intro fa hf
  apply wpList_nil
  (try simp only [Exit.then, Exit.inBlock, ↓reduceIte, Nat.reduceEqDiff])
  refine hK1 _ _ ?_
  refine wp_seq_k (fun K2 hK2 => ?_)
  refine wp_region_lit ?_
  refine sqv hf (r_move rfl) rfl rfl rfl ?_; clear hf fa; intro fa hf
  refine sqv hf (r_conv (C := ((sA n))) rfl Tryd.underlying22 Tryd.underlying3 (wrap_sA h)) rfl rfl rfl ?_; clear hf fa; intro fa hf
  refine sqdt hf (d_callB (vs := [(.int .i64 ((sA n)))]) rfl Tryd.func50 (by kernel_rfl) (by kernel_rfl) (digits_any ((sA n)) _ (by first | exact inI_sA (by omega) | exact inI_s32 _))) rfl rfl rfl ?_; clear hf fa; rintro fa _ w1 ⟨rfl, he1⟩ hf
  replace hb := hb.trans (Below.mono he1 hb.size)
  refine sqv hf (r_assign rfl) rfl rfl rfl ?_; clear hf fa; intro fa hf
  apply wpList_nil
  (try simp only [Exit.then, Exit.inBlock, ↓reduceIte, Nat.reduceEqDiff])
  refine hK2 _ _ ?_
  refine wp_ret ?_
  (try simp only [Exit.then, Exit.inBlock])
  refine ret1 hf rfl rfl ?_
  exact ⟨rfl, hb⟩

set_option maxHeartbeats 1000000 in
set_option maxRecDepth 100000 in
theorem num46_any (n : Int) (w : World) (h : 0 ≤ n ∧ n < 18446744073709551616) : Calls Tryd.prog 24 #[(.int .u64 n)] w fun e w' => e = .returned (.string (dS (sA n))) ∧ Below w.heap.size w w' := by
  refine sx_enter (L := [(0, (.int .u64 n))]) Tryd.func24 rfl rfl rfl rfl (fun fa hf => ?_)
  have hb : Below w.heap.size w w := Below.refl _ _
  refine wp_seq_k (fun K1 hK1 => ?_)
  refine wp_region_lit ?_
  refine sqv hf (r_assign rfl) rfl rfl rfl ?_; clear hf fa; intro fa hf
  apply wpList_nil
  (try simp only [Exit.then, Exit.inBlock, ↓reduceIte, Nat.reduceEqDiff])
  refine hK1 _ _ ?_
  refine wp_seq_k (fun K2 hK2 => ?_)
  refine wp_region_lit ?_
  refine sqv hf (r_move rfl) rfl rfl rfl ?_; clear hf fa; intro fa hf
  refine sqv hf (r_conv (C := ((sA n))) rfl Tryd.underlying22 Tryd.underlying3 (wrap_sA h)) rfl rfl rfl ?_; clear hf fa; intro fa hf
  refine sqdt hf (d_callB (vs := [(.int .i64 ((sA n)))]) rfl Tryd.func25 (by kernel_rfl) (by kernel_rfl) (rdigits_any ((sA n)) _ (by first | exact inI_sA (by omega) | exact inI_s32 _))) rfl rfl rfl ?_; clear hf fa; rintro fa _ w1 ⟨rfl, he1⟩ hf
  replace hb := hb.trans (Below.mono he1 hb.size)
  refine sqv hf (r_assign rfl) rfl rfl rfl ?_; clear hf fa; intro fa hf
  apply wpList_nil
  (try simp only [Exit.then, Exit.inBlock, ↓reduceIte, Nat.reduceEqDiff])
  refine hK2 _ _ ?_
  refine wp_ret ?_
  (try simp only [Exit.then, Exit.inBlock])
  refine ret1 hf rfl rfl ?_
  exact ⟨rfl, hb⟩

theorem sA_lo {n : Int} (h : 0 ≤ n ∧ n < 4294967296) : sA n = n := by unfold sA; rw [if_pos (by omega)]
theorem nat46u (n : Int) (w : World) (h : 0 ≤ n ∧ n < 4294967296) : Calls Tryd.prog 49 #[.int .u64 n] w fun e w' => e = .returned (.string (dS n)) ∧ Below w.heap.size w w' := by
  have h2 := nat46_any n w (by omega)
  rw [sA_lo h] at h2
  exact h2
theorem num46u (n : Int) (w : World) (h : 0 ≤ n ∧ n < 4294967296) : Calls Tryd.prog 24 #[.int .u64 n] w fun e w' => e = .returned (.string (dS n)) ∧ Below w.heap.size w w' := by
  have h2 := num46_any n w (by omega)
  rw [sA_lo h] at h2
  exact h2

set_option maxHeartbeats 1000000 in
set_option maxRecDepth 100000 in
theorem tblk_any (A : Int) (w : World) (hA : 0 ≤ A ∧ A < 18446744073709551616) : Calls Tryd.prog 48 #[(.int .u64 A)] w fun e w' => e = .returned (.string (blkS A)) ∧ Below w.heap.size w w' := by
  have htl := tname_le (A % 256)
  refine sx_enter (L := [(0, (.int .u64 A))]) Tryd.func48 rfl rfl rfl rfl (fun fa hf => ?_)
  have hb : Below w.heap.size w w := Below.refl _ _
  refine wp_seq_k (fun K1 hK1 => ?_)
  refine wp_region_lit ?_
  refine sqv hf (r_assign rfl) rfl rfl rfl ?_; clear hf fa; intro fa hf
  apply wpList_nil
  (try simp only [Exit.then, Exit.inBlock, ↓reduceIte, Nat.reduceEqDiff])
  refine hK1 _ _ ?_
  refine wp_seq_k (fun K2 hK2 => ?_)
  refine wp_seq_k (fun K3 hK3 => ?_)
  refine wp_region_lit ?_
  refine sqv hf (r_move rfl) rfl rfl rfl ?_; clear hf fa; intro fa hf
  refine sqv hf (r_eq rfl rfl) rfl rfl rfl ?_; clear hf fa; intro fa hf
  apply wpList_nil
  (try simp only [Exit.then, Exit.inBlock, ↓reduceIte, Nat.reduceEqDiff])
  refine hK3 _ _ ?_
  refine wp_cond_split (t := (decide (A = (64 : Int)))) (hf.ev rfl) (fun hqt4_1 => ?_) (fun hqt4_1 => ?_)
  · have hqt4_1b := hqt4_1
    try simp only [decide_eq_true_eq, Bool.and_eq_true, Bool.or_eq_true, Bool.not_eq_true', decide_eq_false_iff_not, ne_eq, Bool.not_eq_true] at hqt4_1
    refine wp_seq_k (fun K4 hK4 => ?_)
    refine wp_region_lit ?_
    refine sqv hf (r_assign rfl) rfl rfl rfl ?_; clear hf fa; intro fa hf
    apply wpList_nil
    (try simp only [Exit.then, Exit.inBlock, ↓reduceIte, Nat.reduceEqDiff])
    refine hK4 _ _ ?_
    refine wp_ret ?_
    (try simp only [Exit.then, Exit.inBlock])
    refine ret1 hf rfl rfl ?_
    refine ⟨congrArg (fun s => Ending.returned (.string s)) ?_, hb⟩; unfold blkS; rw [if_pos hqt4_1]
  · have hqt4_1b := hqt4_1
    replace hqt4_1 := Bool.eq_false_iff.1 hqt4_1
    try simp only [ne_eq, decide_eq_true_eq, Bool.and_eq_true, Bool.or_eq_true, Bool.not_eq_true', decide_eq_false_iff_not] at hqt4_1
    refine wp_skip ?_
    (try simp only [Exit.then, Exit.inBlock, ↓reduceIte, Nat.reduceEqDiff])
    refine hK2 _ _ ?_
    refine wp_seq_k (fun K5 hK5 => ?_)
    refine wp_region_lit ?_
    refine sqv hf (r_move rfl) rfl rfl rfl ?_; clear hf fa; intro fa hf
    refine sqv hf (r_conv (C := ((A % 256))) rfl Tryd.underlying22 Tryd.underlying5 (by rw [IntKind.wrap_u8])) rfl rfl rfl ?_; clear hf fa; intro fa hf
    refine sqdt hf (d_callB (vs := [(.int .u8 ((A % 256)))]) rfl Tryd.func74 (by kernel_rfl) (by kernel_rfl) (tname_any ((A % 256)) _)) rfl rfl rfl ?_; clear hf fa; rintro fa _ w1 ⟨rfl, he1⟩ hf
    replace hb := hb.trans (Below.mono he1 hb.size)
    refine sqv hf (r_sadd rfl rfl (by have : ((⟨#[32]⟩) : ByteArray).size = 1 := rfl; omega)) rfl rfl rfl ?_; clear hf fa; intro fa hf
    refine sqv hf (r_assign rfl) rfl rfl rfl ?_; clear hf fa; intro fa hf
    apply wpList_nil
    (try simp only [Exit.then, Exit.inBlock, ↓reduceIte, Nat.reduceEqDiff])
    refine hK5 _ _ ?_
    refine wp_ret ?_
    (try simp only [Exit.then, Exit.inBlock])
    refine ret1 hf rfl rfl ?_
    refine ⟨congrArg (fun s => Ending.returned (.string s)) ?_, hb⟩; unfold blkS; rw [if_neg hqt4_1]

set_option maxHeartbeats 1000000 in
set_option maxRecDepth 100000 in
theorem behind_any (op : Nat) (A B : Int) (L : List Int) (a : Option Addr) (c : Nat) (w : World) (hl : RdS 1 (vInt .u32) w a L) (hL : ∀ y ∈ L, 0 ≤ y ∧ y < 4294967296) (hop : op < 256) (hA : 0 ≤ A ∧ A < 18446744073709551616) (hB : 0 ≤ B ∧ B < 18446744073709551616) (hc : L.length ≤ c) (hn : L.length ≤ 100000) : Calls Tryd.prog 21 #[(.agg #[(.int .u8 ((op : Nat) : Int)), (.int .u64 A), (.int .u64 B), (.slice a L.length c)])] w fun e w' => e = .returned (.string (behindP op A B L)) ∧ Below w.heap.size w w' := by
  have hd0 := dS_len (n := (sA A)) (inI_sA hA)
  have hd1 := dS_len (n := (sA B)) (inI_sA hB)
  have hd2 := dS_len (n := (s32 A)) (inI_s32 A)
  refine sx_enter (L := [(0, (.agg #[(.int .u8 ((op : Nat) : Int)), (.int .u64 A), (.int .u64 B), (.slice a L.length c)]))]) Tryd.func21 rfl rfl rfl rfl (fun fa hf => ?_)
  have hb : Below w.heap.size w w := Below.refl _ _
  refine wp_seq_k (fun K1 hK1 => ?_)
  refine wp_region_lit ?_
  refine sqdt hf (d_box (cs := #[(.int .u8 ((op : Nat) : Int)), (.int .u64 A), (.int .u64 B), (.slice a L.length c)]) rfl rfl) rfl rfl rfl ?_; clear hf fa; rintro fa _ w1 ⟨b1, rfl, hle1, hk1, he1⟩ hf
  have hBb1 : w.heap.size ≤ b1 := Nat.le_trans hb.size hle1
  replace hb := hb.trans (Below.mono he1 hb.size)
  refine sqv hf (r_assign rfl) rfl rfl rfl ?_; clear hf fa; intro fa hf
  apply wpList_nil
  (try simp only [Exit.then, Exit.inBlock, ↓reduceIte, Nat.reduceEqDiff])
  refine hK1 _ _ ?_
  refine wp_seq_k (fun K2 hK2 => ?_)
  refine wp_seq_k (fun K3 hK3 => ?_)
  refine wp_region_lit ?_
  refine sqv hf (r_fa rfl Tryd.underlying25 (f := 0) (q := 0) rfl (by kernel_rfl) rfl) rfl rfl rfl ?_; clear hf fa; intro fa hf
  refine sqv hf (r_load (v := (.int .u8 ((op : Nat) : Int))) rfl Tryd.underlying5 rfl (cell_blk hk1 rfl)) rfl rfl rfl ?_; clear hf fa; intro fa hf
  refine sqdt hf (d_callB (vs := [(.int .u8 ((op : Nat) : Int))]) rfl Tryd.func20 (by kernel_rfl) (by kernel_rfl) (inf_any op _ hop)) rfl rfl rfl ?_; clear hf fa; rintro fa _ w2 ⟨rfl, he2⟩ hf
  replace hk1 := blk_ext hk1 he2
  replace hb := hb.trans (Below.mono he2 hb.size)
  refine sqv hf (r_field (cs := #[(.string (infP op).1), (.int .i64 ((infP op).2.1)), (.string (infP op).2.2.1), (.string (infP op).2.2.2.1), (.bool (infP op).2.2.2.2.1)]) (v := (.int .i64 ((infP op).2.1))) rfl (fun _ => by kernel_rfl)) rfl rfl rfl ?_; clear hf fa; intro fa hf
  apply wpList_nil
  (try simp only [Exit.then, Exit.inBlock, ↓reduceIte, Nat.reduceEqDiff])
  refine hK3 _ _ ?_
  refine wp_block ?_
  refine wp_seq_k (fun K4 hK4 => ?_)
  refine wp_seq_k (fun K5 hK5 => ?_)
  refine wp_region_lit ?_
  refine sqv hf (r_eq rfl rfl) rfl rfl rfl ?_; clear hf fa; intro fa hf
  refine sqv hf (r_assign rfl) rfl rfl rfl ?_; clear hf fa; intro fa hf
  apply wpList_nil
  (try simp only [Exit.then, Exit.inBlock, ↓reduceIte, Nat.reduceEqDiff])
  refine hK5 _ _ ?_
  refine wp_cond_split (t := (decide (((infP op).2.1) = (0 : Int)))) (hf.ev rfl) (fun hqt10_1 => ?_) (fun hqt10_1 => ?_)
  · have hqt10_1b := hqt10_1
    try simp only [decide_eq_true_eq, Bool.and_eq_true, Bool.or_eq_true, Bool.not_eq_true', decide_eq_false_iff_not, ne_eq, Bool.not_eq_true] at hqt10_1
    refine wp_skip ?_
    (try simp only [Exit.then, Exit.inBlock, ↓reduceIte, Nat.reduceEqDiff])
    refine hK4 _ _ ?_
    refine wp_cond_true ((hf.ev rfl).trans (congrArg Value.bool (show (decide (((infP op).2.1) = (0 : Int))) = true from hqt10_1b))) ?_
    refine wp_seq_k (fun K6 hK6 => ?_)
    refine wp_region_lit ?_
    refine sqv hf (r_assign rfl) rfl rfl rfl ?_; clear hf fa; intro fa hf
    apply wpList_nil
    (try simp only [Exit.then, Exit.inBlock, ↓reduceIte, Nat.reduceEqDiff])
    refine hK6 _ _ ?_
    refine wp_ret ?_
    (try simp only [Exit.then, Exit.inBlock])
    refine ret1 hf rfl rfl ?_
    refine ⟨congrArg (fun s => Ending.returned (.string s)) ?_, hb⟩; unfold behindP; rw [if_pos (by have h0 := hqt10_1; omega)]
  · have hqt10_1b := hqt10_1
    replace hqt10_1 := Bool.eq_false_iff.1 hqt10_1
    try simp only [ne_eq, decide_eq_true_eq, Bool.and_eq_true, Bool.or_eq_true, Bool.not_eq_true', decide_eq_false_iff_not] at hqt10_1
    refine wp_region_lit ?_
    refine sqv hf (r_eq rfl rfl) rfl rfl rfl ?_; clear hf fa; intro fa hf
    refine sqv hf (r_assign rfl) rfl rfl rfl ?_; clear hf fa; intro fa hf
    apply wpList_nil
    (try simp only [Exit.then, Exit.inBlock, ↓reduceIte, Nat.reduceEqDiff])
    refine hK4 _ _ ?_
    refine wp_cond_split (t := (decide (((infP op).2.1) = (9 : Int)))) (hf.ev rfl) (fun hqt10_3 => ?_) (fun hqt10_3 => ?_)
    · have hqt10_3b := hqt10_3
      try simp only [decide_eq_true_eq, Bool.and_eq_true, Bool.or_eq_true, Bool.not_eq_true', decide_eq_false_iff_not, ne_eq, Bool.not_eq_true] at hqt10_3
      refine wp_seq_k (fun K7 hK7 => ?_)
      refine wp_region_lit ?_
      refine sqv hf (r_assign rfl) rfl rfl rfl ?_; clear hf fa; intro fa hf
      apply wpList_nil
      (try simp only [Exit.then, Exit.inBlock, ↓reduceIte, Nat.reduceEqDiff])
      refine hK7 _ _ ?_
      refine wp_ret ?_
      (try simp only [Exit.then, Exit.inBlock])
      refine ret1 hf rfl rfl ?_
      refine ⟨congrArg (fun s => Ending.returned (.string s)) ?_, hb⟩; unfold behindP; rw [if_pos (by have h0 := hqt10_1; have h1 := hqt10_3; omega)]
    · have hqt10_3b := hqt10_3
      replace hqt10_3 := Bool.eq_false_iff.1 hqt10_3
      try simp only [ne_eq, decide_eq_true_eq, Bool.and_eq_true, Bool.or_eq_true, Bool.not_eq_true', decide_eq_false_iff_not] at hqt10_3
      refine wp_seq_k (fun K8 hK8 => ?_)
      refine wp_region_lit ?_
      refine sqv hf (r_eq rfl rfl) rfl rfl rfl ?_; clear hf fa; intro fa hf
      refine sqv hf (r_assign rfl) rfl rfl rfl ?_; clear hf fa; intro fa hf
      apply wpList_nil
      (try simp only [Exit.then, Exit.inBlock, ↓reduceIte, Nat.reduceEqDiff])
      refine hK8 _ _ ?_
      refine wp_cond_split (t := (decide (((infP op).2.1) = (1 : Int)))) (hf.ev rfl) (fun hqt13_1 => ?_) (fun hqt13_1 => ?_)
      · have hqt13_1b := hqt13_1
        try simp only [decide_eq_true_eq, Bool.and_eq_true, Bool.or_eq_true, Bool.not_eq_true', decide_eq_false_iff_not, ne_eq, Bool.not_eq_true] at hqt13_1
        refine wp_seq_k (fun K9 hK9 => ?_)
        refine wp_region_lit ?_
        refine sqv hf (r_fa rfl Tryd.underlying25 (f := 1) (q := 1) rfl (by kernel_rfl) rfl) rfl rfl rfl ?_; clear hf fa; intro fa hf
        refine sqv hf (r_load (v := (.int .u64 A)) rfl Tryd.underlying22 rfl (cell_blk hk1 rfl)) rfl rfl rfl ?_; clear hf fa; intro fa hf
        refine sqdt hf (d_callB (vs := [(.int .u64 A)]) rfl Tryd.func48 (by kernel_rfl) (by kernel_rfl) (tblk_any A _ hA)) rfl rfl rfl ?_; clear hf fa; rintro fa _ w3 ⟨rfl, he3⟩ hf
        replace hk1 := blk_ext hk1 he3
        replace hb := hb.trans (Below.mono he3 hb.size)
        refine sqv hf (r_assign rfl) rfl rfl rfl ?_; clear hf fa; intro fa hf
        apply wpList_nil
        (try simp only [Exit.then, Exit.inBlock, ↓reduceIte, Nat.reduceEqDiff])
        refine hK9 _ _ ?_
        refine wp_ret ?_
        (try simp only [Exit.then, Exit.inBlock])
        refine ret1 hf rfl rfl ?_
        refine ⟨congrArg (fun s => Ending.returned (.string s)) ?_, hb⟩; unfold behindP; rw [if_neg (by have h0 := hqt10_1; have h1 := hqt10_3; have h2 := hqt13_1; omega), if_pos (by have h0 := hqt10_1; have h1 := hqt10_3; have h2 := hqt13_1; omega)]
      · have hqt13_1b := hqt13_1
        replace hqt13_1 := Bool.eq_false_iff.1 hqt13_1
        try simp only [ne_eq, decide_eq_true_eq, Bool.and_eq_true, Bool.or_eq_true, Bool.not_eq_true', decide_eq_false_iff_not] at hqt13_1
        refine wp_seq_k (fun K10 hK10 => ?_)
        refine wp_region_lit ?_
        refine sqv hf (r_eq rfl rfl) rfl rfl rfl ?_; clear hf fa; intro fa hf
        refine sqv hf (r_assign rfl) rfl rfl rfl ?_; clear hf fa; intro fa hf
        apply wpList_nil
        (try simp only [Exit.then, Exit.inBlock, ↓reduceIte, Nat.reduceEqDiff])
        refine hK10 _ _ ?_
        refine wp_cond_split (t := (decide (((infP op).2.1) = (3 : Int)))) (hf.ev rfl) (fun hqt18_1 => ?_) (fun hqt18_1 => ?_)
        · have hqt18_1b := hqt18_1
          try simp only [decide_eq_true_eq, Bool.and_eq_true, Bool.or_eq_true, Bool.not_eq_true', decide_eq_false_iff_not, ne_eq, Bool.not_eq_true] at hqt18_1
          refine wp_seq_k (fun K11 hK11 => ?_)
          refine wp_region_lit ?_
          refine sqv hf (r_assign rfl) rfl rfl rfl ?_; clear hf fa; intro fa hf
          apply wpList_nil
          (try simp only [Exit.then, Exit.inBlock, ↓reduceIte, Nat.reduceEqDiff])
          refine hK11 _ _ ?_
          refine wp_seq_k (fun K12 hK12 => ?_)
          refine wp_seq_k (fun K13 hK13 => ?_)
          refine wp_region_lit ?_
          refine sqv hf (r_fa rfl Tryd.underlying25 (f := 3) (q := 3) rfl (by kernel_rfl) rfl) rfl rfl rfl ?_; clear hf fa; intro fa hf
          refine sqv hf (r_load (v := (.slice a L.length c)) rfl Tryd.underlying23 rfl (cell_blk hk1 rfl)) rfl rfl rfl ?_; clear hf fa; intro fa hf
          refine sqv hf (r_lensl rfl Tryd.underlying23) rfl rfl rfl ?_; clear hf fa; intro fa hf
          refine sqv hf (r_move rfl) rfl rfl rfl ?_; clear hf fa; intro fa hf
          apply wpList_nil
          (try simp only [Exit.then, Exit.inBlock, ↓reduceIte, Nat.reduceEqDiff])
          refine hK13 _ _ ?_
          refine wp_block ?_
          refine wp_loop_k (fun mq fa wr => ∃ (k : Nat), mq = L.length - k ∧ Fr 71 fa [(1, (.pointer (some ⟨b1, 0, none⟩))), (3, (.string (foldD dS (⟨#[]⟩ : ByteArray) (L.take k)))), (21, (.slice a L.length c)), (22, (.int .i64 ((L.length : Nat) : Int))), (23, (.int .i64 ((k : Nat) : Int)))] ∧ Below w.heap.size w wr ∧ wr.heap[b1]? = some (.cells #[(.int .u8 ((op : Nat) : Int)), (.int .u64 A), (.int .u64 B), (.slice a L.length c)] 25 (0, 0)) ∧ (k ≤ L.length)) ?_ ?_
          · skip
            exact ⟨_, 0, rfl, hf.sub ⟨rfl, (some_str (by first | rfl | assumption | simp)), rfl, rfl, (some_int (by first | rfl | omega)), trivial⟩, hb, hk1, by omega⟩
          · skip
            clear hf fa; intro mq1 fa w4 hI KL1 hKL1
            clear hb
            clear hk1
            obtain ⟨k, hmq1, hf, hb, hkb1, hk⟩ := hI
            have hfn := foldD_len (f := dS) (B := 20) (L.take k) (⟨#[]⟩ : ByteArray) (fun y hy => dS_len (inI_u32 (by have := hL y (List.mem_of_mem_take hy); omega))); rw [List.length_take] at hfn
            have hfm : min k L.length ≤ 100000 := by omega
            have hfq : (foldD dS (⟨#[]⟩ : ByteArray) (L.take k)).size ≤ 3000000 := by have hz : (⟨#[]⟩ : ByteArray).size = 0 := rfl; omega
            refine wp_seq_k (fun K14 hK14 => ?_)
            refine wp_region_lit ?_
            refine sqv hf (r_lt rfl rfl) rfl rfl rfl ?_; clear hf fa; intro fa hf
            apply wpList_nil
            (try simp only [Exit.then, Exit.inBlock, ↓reduceIte, Nat.reduceEqDiff])
            refine hK14 _ _ ?_
            refine wp_seq_k (fun K15 hK15 => ?_)
            refine wp_cond_split (t := (decide (((k : Nat) : Int) < ((L.length : Nat) : Int)))) (hf.ev rfl) (fun hqt24_1 => ?_) (fun hqt24_1 => ?_)
            · have hqt24_1b := hqt24_1
              try simp only [decide_eq_true_eq, Bool.and_eq_true, Bool.or_eq_true, Bool.not_eq_true', decide_eq_false_iff_not, ne_eq, Bool.not_eq_true] at hqt24_1
              refine wp_skip ?_
              (try simp only [Exit.then, Exit.inBlock, ↓reduceIte, Nat.reduceEqDiff])
              refine hK15 _ _ ?_
              refine wp_seq_k (fun K16 hK16 => ?_)
              refine wp_block ?_
              refine wp_seq_k (fun K17 hK17 => ?_)
              obtain ⟨y, hy⟩ : ∃ y, L[k]? = some y := ⟨_, List.getElem?_eq_getElem (by omega)⟩
              have hyr := hL y (List.mem_of_getElem? hy)
              have hyl := dS_len (n := y) (inI_u32 (by omega))
              have hsy : sA y = y := by unfold sA; rw [if_pos (by omega)]
              refine wp_region_lit ?_
              have hy1 : (L)[k]? = some y := hy
              obtain ⟨ab1, aoff1, hat1, hlb1, hel1⟩ := RdS.at hl hy1
              refine sqv hf (r_ixa (sz := 1) (j := k) (evAt rfl hat1) rfl Tryd.underlying23 (by kernel_rfl) rfl (by omega) rfl) rfl rfl rfl ?_; clear hf fa; intro fa hf
              refine sqv hf (r_load (v := (.int .u32 y)) rfl Tryd.underlying62 rfl (cellsAt_cell (cellsAt_below hel1 hb hlb1) (i := 0) rfl rfl)) rfl rfl rfl ?_; clear hf fa; intro fa hf
              refine sqv hf (r_assign rfl) rfl rfl rfl ?_; clear hf fa; intro fa hf
              apply wpList_nil
              (try simp only [Exit.then, Exit.inBlock, ↓reduceIte, Nat.reduceEqDiff])
              refine hK17 _ _ ?_
              have hst3 := foldD_snoc (f := dS) (s := (⟨#[]⟩ : ByteArray)) hy
              refine wp_region_lit ?_
              refine sqv hf (r_move rfl) rfl rfl rfl ?_; clear hf fa; intro fa hf
              refine sqv hf (r_move rfl) rfl rfl rfl ?_; clear hf fa; intro fa hf
              refine sqv hf (r_conv (C := y) rfl Tryd.underlying62 Tryd.underlying22 (by rw [IntKind.wrap_u64]; omega)) rfl rfl rfl ?_; clear hf fa; intro fa hf
              refine sqdt hf (d_callB (vs := [(.int .u64 y)]) rfl Tryd.func49 (by kernel_rfl) (by kernel_rfl) (nat46u y _ hyr)) rfl rfl rfl ?_; clear hf fa; rintro fa _ w5 ⟨rfl, he4⟩ hf
              replace hkb1 := blk_ext hkb1 he4
              replace hb := hb.trans (Below.mono he4 hb.size)
              refine sqv hf (r_sadd rfl rfl (by have : ((⟨#[32]⟩) : ByteArray).size = 1 := rfl; omega)) rfl rfl rfl ?_; clear hf fa; intro fa hf
              refine sqv hf (r_sadd rfl rfl (by have : ((⟨#[32]⟩) : ByteArray).size = 1 := rfl; have := sz_app (⟨#[32]⟩ : ByteArray) (dS y); omega)) rfl rfl rfl ?_; clear hf fa; intro fa hf
              refine sqv hf (r_assign rfl) rfl rfl rfl ?_; clear hf fa; intro fa hf
              apply wpList_nil
              (try simp only [Exit.then, Exit.inBlock, ↓reduceIte, Nat.reduceEqDiff])
              refine hK16 _ _ ?_
              skip
              refine wp_region_lit ?_
              refine sqv hf (r_add (C := (((k : Nat) : Int) + (1 : Int))) rfl rfl (by rw [IntKind.wrap_i64]; omega)) rfl rfl rfl ?_; clear hf fa; intro fa hf
              refine sqv hf (r_move rfl) rfl rfl rfl ?_; clear hf fa; intro fa hf
              apply wpList_nil
              (try simp only [Exit.then, Exit.inBlock, ↓reduceIte, Nat.reduceEqDiff])
              refine hKL1 _ _ _ (by omega) ⟨(k + 1), rfl, hf.sub ⟨rfl, (some_str (by first | rfl | assumption | simp)), rfl, rfl, (some_int (by first | rfl | omega)), trivial⟩, hb, hkb1, by omega⟩
            · have hqt24_1b := hqt24_1
              replace hqt24_1 := Bool.eq_false_iff.1 hqt24_1
              try simp only [ne_eq, decide_eq_true_eq, Bool.and_eq_true, Bool.or_eq_true, Bool.not_eq_true', decide_eq_false_iff_not] at hqt24_1
              refine wp_exit ?_
              (try simp only [Exit.then, Exit.inBlock, ↓reduceIte, Nat.reduceEqDiff])
              refine hK12 _ _ ?_
              refine wp_seq_k (fun K18 hK18 => ?_)
              refine wp_region_lit ?_
              refine sqv hf (r_move rfl) rfl rfl rfl ?_; clear hf fa; intro fa hf
              refine sqv hf (r_sadd rfl rfl (by have : ((⟨#[32]⟩) : ByteArray).size = 1 := rfl; omega)) rfl rfl rfl ?_; clear hf fa; intro fa hf
              refine sqv hf (r_fa rfl Tryd.underlying25 (f := 1) (q := 1) rfl (by kernel_rfl) rfl) rfl rfl rfl ?_; clear hf fa; intro fa hf
              refine sqv hf (r_load (v := (.int .u64 A)) rfl Tryd.underlying22 rfl (cell_blk hkb1 rfl)) rfl rfl rfl ?_; clear hf fa; intro fa hf
              refine sqdt hf (d_callB (vs := [(.int .u64 A)]) rfl Tryd.func49 (by kernel_rfl) (by kernel_rfl) (nat46_any A _ (by omega))) rfl rfl rfl ?_; clear hf fa; rintro fa _ w6 ⟨rfl, he5⟩ hf
              replace hkb1 := blk_ext hkb1 he5
              replace hb := hb.trans (Below.mono he5 hb.size)
              refine sqv hf (r_sadd rfl rfl (by have : ((⟨#[32]⟩) : ByteArray).size = 1 := rfl; have := sz_app (foldD dS (⟨#[]⟩ : ByteArray) (L.take k)) (⟨#[32]⟩ : ByteArray); omega)) rfl rfl rfl ?_; clear hf fa; intro fa hf
              refine sqv hf (r_assign rfl) rfl rfl rfl ?_; clear hf fa; intro fa hf
              apply wpList_nil
              (try simp only [Exit.then, Exit.inBlock, ↓reduceIte, Nat.reduceEqDiff])
              refine hK18 _ _ ?_
              refine wp_ret ?_
              (try simp only [Exit.then, Exit.inBlock])
              refine ret1 hf rfl rfl ?_
              refine ⟨congrArg (fun s => Ending.returned (.string s)) ?_, hb⟩; unfold behindP; rw [if_neg (by have h0 := hqt10_1; have h1 := hqt10_3; have h2 := hqt13_1; have h3 := hqt18_1; omega), if_neg (by have h0 := hqt10_1; have h1 := hqt10_3; have h2 := hqt13_1; have h3 := hqt18_1; omega), if_pos (by have h0 := hqt10_1; have h1 := hqt10_3; have h2 := hqt13_1; have h3 := hqt18_1; omega)]; rw [List.take_of_length_le (by omega)]
        · have hqt18_1b := hqt18_1
          replace hqt18_1 := Bool.eq_false_iff.1 hqt18_1
          try simp only [ne_eq, decide_eq_true_eq, Bool.and_eq_true, Bool.or_eq_true, Bool.not_eq_true', decide_eq_false_iff_not] at hqt18_1
          refine wp_seq_k (fun K19 hK19 => ?_)
          refine wp_region_lit ?_
          refine sqv hf (r_eq rfl rfl) rfl rfl rfl ?_; clear hf fa; intro fa hf
          refine sqv hf (r_assign rfl) rfl rfl rfl ?_; clear hf fa; intro fa hf
          apply wpList_nil
          (try simp only [Exit.then, Exit.inBlock, ↓reduceIte, Nat.reduceEqDiff])
          refine hK19 _ _ ?_
          refine wp_cond_split (t := (decide (((infP op).2.1) = (8 : Int)))) (hf.ev rfl) (fun hqt40_1 => ?_) (fun hqt40_1 => ?_)
          · have hqt40_1b := hqt40_1
            try simp only [decide_eq_true_eq, Bool.and_eq_true, Bool.or_eq_true, Bool.not_eq_true', decide_eq_false_iff_not, ne_eq, Bool.not_eq_true] at hqt40_1
            refine wp_seq_k (fun K20 hK20 => ?_)
            refine wp_region_un (fun wq => Below w2.heap.size w2 wq) (fun w w' => Below w.heap.size w w')
              (fun V => [(fun x _ => x = (.pointer (some ⟨b1, 1, none⟩))), (fun x _ => x = (.int .u64 A)), (fun x _ => x = (.string (dS (sA A)))), (fun x _ => x = (.string ((⟨#[32, 97, 108, 105, 103, 110, 61]⟩ : ByteArray) ++ (dS (sA A))))), (fun x _ => x = (.string (((⟨#[32, 97, 108, 105, 103, 110, 61]⟩ : ByteArray) ++ (dS (sA A))) ++ (⟨#[32, 111, 102, 102, 115, 101, 116, 61]⟩ : ByteArray)))), (fun x _ => x = (.pointer (some ⟨b1, 2, none⟩))), (fun x _ => x = (.int .u64 B)), (fun x _ => x = (.string (dS (sA B)))), (fun x _ => x = (.string ((((⟨#[32, 97, 108, 105, 103, 110, 61]⟩ : ByteArray) ++ (dS (sA A))) ++ (⟨#[32, 111, 102, 102, 115, 101, 116, 61]⟩ : ByteArray)) ++ (dS (sA B))))), (fun x _ => x = (.string ((((⟨#[32, 97, 108, 105, 103, 110, 61]⟩ : ByteArray) ++ (dS (sA A))) ++ (⟨#[32, 111, 102, 102, 115, 101, 116, 61]⟩ : ByteArray)) ++ (dS (sA B)))))])
              []
              [[], [0], [1], [2], [3], [], [5], [2, 6], [4, 7], [0, 1, 2, 3, 4, 5, 6, 7, 8]]
              hf (by kernel_rfl) (by kernel_rfl) (fun _ => rfl) ((Below.refl _ _).drew) (fun a b h1 h2 => h1.trans (h2.mono h1.size)) (fun _ _ h => h.size) (fun V => ⟨kept_eq, kept_eq, kept_eq, kept_eq, kept_eq, kept_eq, kept_eq, kept_eq, kept_eq, kept_eq, trivial⟩) (fun _ _ _ _ _ => rfl) ?_ ?_
            · skip
              intro V
              refine ⟨fun wu0 hC hd => ?_, ?_⟩
              · clear hd
                replace hb := hb.trans (hC.mono hb.size)
                replace hk1 := blk_ext hk1 hC
                exact Runs.does (r_fa rfl Tryd.underlying25 (f := 1) (q := 1) rfl (by kernel_rfl) rfl) ⟨Below.refl _ _, rfl, nofr rfl⟩
              refine ⟨fun wu1 hC hd => ?_, ?_⟩
              · obtain ⟨h0, _⟩ := hd
                skip
                replace h0 : V 0 = (.pointer (some ⟨b1, 1, none⟩)) := h0
                replace hb := hb.trans (hC.mono hb.size)
                replace hk1 := blk_ext hk1 hC
                exact Runs.does (r_load (v := (.int .u64 A)) (congrArg some h0) Tryd.underlying22 rfl (cell_blk hk1 rfl)) ⟨Below.refl _ _, rfl, nofr rfl⟩
              refine ⟨fun wu2 hC hd => ?_, ?_⟩
              · obtain ⟨h1, _⟩ := hd
                skip
                replace h1 : V 1 = (.int .u64 A) := h1
                replace hb := hb.trans (hC.mono hb.size)
                replace hk1 := blk_ext hk1 hC
                refine Does.mono (d_callB (vs := [(.int .u64 A)]) (show [some (V 1)] = [some (.int .u64 A)] from by rw [h1]) Tryd.func49 (by kernel_rfl) (by kernel_rfl) (nat46_any A _ (by omega))) (fun _ _ h => ⟨h.2, h.1, nofr rfl⟩)
              refine ⟨fun wu3 hC hd => ?_, ?_⟩
              · obtain ⟨h2, _⟩ := hd
                skip
                replace h2 : V 2 = (.string (dS (sA A))) := h2
                replace hb := hb.trans (hC.mono hb.size)
                replace hk1 := blk_ext hk1 hC
                exact Runs.does (r_sadd rfl (congrArg some h2) (by have : ((⟨#[32, 97, 108, 105, 103, 110, 61]⟩) : ByteArray).size = 7 := rfl; omega)) ⟨Below.refl _ _, rfl, nofr rfl⟩
              refine ⟨fun wu4 hC hd => ?_, ?_⟩
              · obtain ⟨h3, _⟩ := hd
                skip
                replace h3 : V 3 = (.string ((⟨#[32, 97, 108, 105, 103, 110, 61]⟩ : ByteArray) ++ (dS (sA A)))) := h3
                replace hb := hb.trans (hC.mono hb.size)
                replace hk1 := blk_ext hk1 hC
                exact Runs.does (r_sadd (congrArg some h3) rfl (by have : ((⟨#[32, 97, 108, 105, 103, 110, 61]⟩) : ByteArray).size = 7 := rfl; have := sz_app (⟨#[32, 97, 108, 105, 103, 110, 61]⟩ : ByteArray) (dS (sA A)); have : ((⟨#[32, 111, 102, 102, 115, 101, 116, 61]⟩) : ByteArray).size = 8 := rfl; omega)) ⟨Below.refl _ _, rfl, nofr rfl⟩
              refine ⟨fun wu5 hC hd => ?_, ?_⟩
              · clear hd
                replace hb := hb.trans (hC.mono hb.size)
                replace hk1 := blk_ext hk1 hC
                exact Runs.does (r_fa rfl Tryd.underlying25 (f := 2) (q := 2) rfl (by kernel_rfl) rfl) ⟨Below.refl _ _, rfl, nofr rfl⟩
              refine ⟨fun wu6 hC hd => ?_, ?_⟩
              · obtain ⟨h5, _⟩ := hd
                skip
                replace h5 : V 5 = (.pointer (some ⟨b1, 2, none⟩)) := h5
                replace hb := hb.trans (hC.mono hb.size)
                replace hk1 := blk_ext hk1 hC
                exact Runs.does (r_load (v := (.int .u64 B)) (congrArg some h5) Tryd.underlying22 rfl (cell_blk hk1 rfl)) ⟨Below.refl _ _, rfl, nofr rfl⟩
              refine ⟨fun wu7 hC hd => ?_, ?_⟩
              · obtain ⟨h2, h6, _⟩ := hd
                skip
                skip
                replace h2 : V 2 = (.string (dS (sA A))) := h2
                replace h6 : V 6 = (.int .u64 B) := h6
                replace hb := hb.trans (hC.mono hb.size)
                replace hk1 := blk_ext hk1 hC
                refine Does.mono (d_callB (vs := [(.int .u64 B)]) (show [some (V 6)] = [some (.int .u64 B)] from by rw [h6]) Tryd.func49 (by kernel_rfl) (by kernel_rfl) (nat46_any B _ (by omega))) (fun _ _ h => ⟨h.2, h.1, nofr rfl⟩)
              refine ⟨fun wu8 hC hd => ?_, ?_⟩
              · obtain ⟨h4, h7, _⟩ := hd
                skip
                skip
                replace h4 : V 4 = (.string (((⟨#[32, 97, 108, 105, 103, 110, 61]⟩ : ByteArray) ++ (dS (sA A))) ++ (⟨#[32, 111, 102, 102, 115, 101, 116, 61]⟩ : ByteArray))) := h4
                replace h7 : V 7 = (.string (dS (sA B))) := h7
                replace hb := hb.trans (hC.mono hb.size)
                replace hk1 := blk_ext hk1 hC
                exact Runs.does (r_sadd (congrArg some h4) (congrArg some h7) (by have : ((⟨#[32, 97, 108, 105, 103, 110, 61]⟩) : ByteArray).size = 7 := rfl; have := sz_app (⟨#[32, 97, 108, 105, 103, 110, 61]⟩ : ByteArray) (dS (sA A)); have : ((⟨#[32, 111, 102, 102, 115, 101, 116, 61]⟩) : ByteArray).size = 8 := rfl; have := sz_app ((⟨#[32, 97, 108, 105, 103, 110, 61]⟩ : ByteArray) ++ (dS (sA A))) (⟨#[32, 111, 102, 102, 115, 101, 116, 61]⟩ : ByteArray); omega)) ⟨Below.refl _ _, rfl, nofr rfl⟩
              refine ⟨fun wu9 hC hd => ?_, ?_⟩
              · obtain ⟨h0, h1, h2, h3, h4, h5, h6, h7, h8, _⟩ := hd
                skip
                skip
                skip
                skip
                skip
                skip
                skip
                skip
                skip
                replace h0 : V 0 = (.pointer (some ⟨b1, 1, none⟩)) := h0
                replace h1 : V 1 = (.int .u64 A) := h1
                replace h2 : V 2 = (.string (dS (sA A))) := h2
                replace h3 : V 3 = (.string ((⟨#[32, 97, 108, 105, 103, 110, 61]⟩ : ByteArray) ++ (dS (sA A)))) := h3
                replace h4 : V 4 = (.string (((⟨#[32, 97, 108, 105, 103, 110, 61]⟩ : ByteArray) ++ (dS (sA A))) ++ (⟨#[32, 111, 102, 102, 115, 101, 116, 61]⟩ : ByteArray))) := h4
                replace h5 : V 5 = (.pointer (some ⟨b1, 2, none⟩)) := h5
                replace h6 : V 6 = (.int .u64 B) := h6
                replace h7 : V 7 = (.string (dS (sA B))) := h7
                replace h8 : V 8 = (.string ((((⟨#[32, 97, 108, 105, 103, 110, 61]⟩ : ByteArray) ++ (dS (sA A))) ++ (⟨#[32, 111, 102, 102, 115, 101, 116, 61]⟩ : ByteArray)) ++ (dS (sA B)))) := h8
                replace hb := hb.trans (hC.mono hb.size)
                replace hk1 := blk_ext hk1 hC
                exact Runs.does (r_assign (congrArg some h8)) ⟨Below.refl _ _, rfl, nofr rfl⟩
              trivial
            · skip
              clear hf fa; intro V w7 fa he6 hp hnb hf
              have hv0 : V 0 = (.pointer (some ⟨b1, 1, none⟩)) := postsHold_at hp 0 rfl
              have hv1 : V 1 = (.int .u64 A) := postsHold_at hp 1 rfl
              have hv2 : V 2 = (.string (dS (sA A))) := postsHold_at hp 2 rfl
              have hv3 : V 3 = (.string ((⟨#[32, 97, 108, 105, 103, 110, 61]⟩ : ByteArray) ++ (dS (sA A)))) := postsHold_at hp 3 rfl
              have hv4 : V 4 = (.string (((⟨#[32, 97, 108, 105, 103, 110, 61]⟩ : ByteArray) ++ (dS (sA A))) ++ (⟨#[32, 111, 102, 102, 115, 101, 116, 61]⟩ : ByteArray))) := postsHold_at hp 4 rfl
              have hv5 : V 5 = (.pointer (some ⟨b1, 2, none⟩)) := postsHold_at hp 5 rfl
              have hv6 : V 6 = (.int .u64 B) := postsHold_at hp 6 rfl
              have hv7 : V 7 = (.string (dS (sA B))) := postsHold_at hp 7 rfl
              have hv8 : V 8 = (.string ((((⟨#[32, 97, 108, 105, 103, 110, 61]⟩ : ByteArray) ++ (dS (sA A))) ++ (⟨#[32, 111, 102, 102, 115, 101, 116, 61]⟩ : ByteArray)) ++ (dS (sA B)))) := postsHold_at hp 8 rfl
              have hv9 : V 9 = (.string ((((⟨#[32, 97, 108, 105, 103, 110, 61]⟩ : ByteArray) ++ (dS (sA A))) ++ (⟨#[32, 111, 102, 102, 115, 101, 116, 61]⟩ : ByteArray)) ++ (dS (sA B)))) := postsHold_at hp 9 rfl
              simp only [List.take_succ_cons, List.take_zero, insAll, ins, hv0, hv1, hv2, hv3, hv4, hv5, hv6, hv7, hv8, hv9] at hf
              clear hp hnb hv0 hv1 hv2 hv3 hv4 hv5 hv6 hv7 hv8 hv9
              replace hk1 := blk_ext hk1 he6
              replace hb := hb.trans (Below.mono he6 hb.size)
              (try simp only [Exit.then, Exit.inBlock, ↓reduceIte, Nat.reduceEqDiff])
              refine hK20 _ _ ?_
              refine wp_ret ?_
              (try simp only [Exit.then, Exit.inBlock])
              refine ret1 hf rfl rfl ?_
              refine ⟨congrArg (fun s => Ending.returned (.string s)) ?_, hb⟩; unfold behindP; rw [if_neg (by have h0 := hqt10_1; have h1 := hqt10_3; have h2 := hqt13_1; have h3 := hqt18_1; have h4 := hqt40_1; omega), if_neg (by have h0 := hqt10_1; have h1 := hqt10_3; have h2 := hqt13_1; have h3 := hqt18_1; have h4 := hqt40_1; omega), if_neg (by have h0 := hqt10_1; have h1 := hqt10_3; have h2 := hqt13_1; have h3 := hqt18_1; have h4 := hqt40_1; omega), if_pos (by have h0 := hqt10_1; have h1 := hqt10_3; have h2 := hqt13_1; have h3 := hqt18_1; have h4 := hqt40_1; omega)]
          · have hqt40_1b := hqt40_1
            replace hqt40_1 := Bool.eq_false_iff.1 hqt40_1
            try simp only [ne_eq, decide_eq_true_eq, Bool.and_eq_true, Bool.or_eq_true, Bool.not_eq_true', decide_eq_false_iff_not] at hqt40_1
            refine wp_seq_k (fun K21 hK21 => ?_)
            refine wp_region_lit ?_
            refine sqv hf (r_eq rfl rfl) rfl rfl rfl ?_; clear hf fa; intro fa hf
            refine sqv hf (r_assign rfl) rfl rfl rfl ?_; clear hf fa; intro fa hf
            apply wpList_nil
            (try simp only [Exit.then, Exit.inBlock, ↓reduceIte, Nat.reduceEqDiff])
            refine hK21 _ _ ?_
            refine wp_cond_split (t := (decide (((infP op).2.1) = (10 : Int)))) (hf.ev rfl) (fun hqt51_1 => ?_) (fun hqt51_1 => ?_)
            · have hqt51_1b := hqt51_1
              try simp only [decide_eq_true_eq, Bool.and_eq_true, Bool.or_eq_true, Bool.not_eq_true', decide_eq_false_iff_not, ne_eq, Bool.not_eq_true] at hqt51_1
              refine wp_seq_k (fun K22 hK22 => ?_)
              refine wp_region_lit ?_
              refine sqv hf (r_fa rfl Tryd.underlying25 (f := 1) (q := 1) rfl (by kernel_rfl) rfl) rfl rfl rfl ?_; clear hf fa; intro fa hf
              refine sqv hf (r_load (v := (.int .u64 A)) rfl Tryd.underlying22 rfl (cell_blk hk1 rfl)) rfl rfl rfl ?_; clear hf fa; intro fa hf
              refine sqv hf (r_conv (C := ((A % 4294967296))) rfl Tryd.underlying22 Tryd.underlying62 (by rw [IntKind.wrap_u32])) rfl rfl rfl ?_; clear hf fa; intro fa hf
              refine sqv hf (r_conv (C := ((s32 A))) rfl Tryd.underlying62 Tryd.underlying21 (by unfold s32; rw [IntKind.wrap_i32]; split <;> omega)) rfl rfl rfl ?_; clear hf fa; intro fa hf
              refine sqv hf (r_conv (C := ((s32 A))) rfl Tryd.underlying21 Tryd.underlying3 (by have := inI_s32 A; unfold inI at this; rw [IntKind.wrap_i64]; omega)) rfl rfl rfl ?_; clear hf fa; intro fa hf
              refine sqdt hf (d_callB (vs := [(.int .i64 ((s32 A)))]) rfl Tryd.func50 (by kernel_rfl) (by kernel_rfl) (digits_any ((s32 A)) _ (by first | exact inI_sA (by omega) | exact inI_s32 _))) rfl rfl rfl ?_; clear hf fa; rintro fa _ w8 ⟨rfl, he7⟩ hf
              replace hk1 := blk_ext hk1 he7
              replace hb := hb.trans (Below.mono he7 hb.size)
              refine sqv hf (r_sadd rfl rfl (by have : ((⟨#[32]⟩) : ByteArray).size = 1 := rfl; omega)) rfl rfl rfl ?_; clear hf fa; intro fa hf
              refine sqv hf (r_assign rfl) rfl rfl rfl ?_; clear hf fa; intro fa hf
              apply wpList_nil
              (try simp only [Exit.then, Exit.inBlock, ↓reduceIte, Nat.reduceEqDiff])
              refine hK22 _ _ ?_
              refine wp_ret ?_
              (try simp only [Exit.then, Exit.inBlock])
              refine ret1 hf rfl rfl ?_
              refine ⟨congrArg (fun s => Ending.returned (.string s)) ?_, hb⟩; unfold behindP; rw [if_neg (by have h0 := hqt10_1; have h1 := hqt10_3; have h2 := hqt13_1; have h3 := hqt18_1; have h4 := hqt40_1; have h5 := hqt51_1; omega), if_neg (by have h0 := hqt10_1; have h1 := hqt10_3; have h2 := hqt13_1; have h3 := hqt18_1; have h4 := hqt40_1; have h5 := hqt51_1; omega), if_neg (by have h0 := hqt10_1; have h1 := hqt10_3; have h2 := hqt13_1; have h3 := hqt18_1; have h4 := hqt40_1; have h5 := hqt51_1; omega), if_neg (by have h0 := hqt10_1; have h1 := hqt10_3; have h2 := hqt13_1; have h3 := hqt18_1; have h4 := hqt40_1; have h5 := hqt51_1; omega), if_pos (by have h0 := hqt10_1; have h1 := hqt10_3; have h2 := hqt13_1; have h3 := hqt18_1; have h4 := hqt40_1; have h5 := hqt51_1; omega)]
            · have hqt51_1b := hqt51_1
              replace hqt51_1 := Bool.eq_false_iff.1 hqt51_1
              try simp only [ne_eq, decide_eq_true_eq, Bool.and_eq_true, Bool.or_eq_true, Bool.not_eq_true', decide_eq_false_iff_not] at hqt51_1
              refine wp_seq_k (fun K23 hK23 => ?_)
              refine wp_region_lit ?_
              refine sqv hf (r_eq rfl rfl) rfl rfl rfl ?_; clear hf fa; intro fa hf
              refine sqv hf (r_assign rfl) rfl rfl rfl ?_; clear hf fa; intro fa hf
              apply wpList_nil
              (try simp only [Exit.then, Exit.inBlock, ↓reduceIte, Nat.reduceEqDiff])
              refine hK23 _ _ ?_
              refine wp_cond_split (t := (decide (((infP op).2.1) = (11 : Int)))) (hf.ev rfl) (fun hqt60_1 => ?_) (fun hqt60_1 => ?_)
              · have hqt60_1b := hqt60_1
                try simp only [decide_eq_true_eq, Bool.and_eq_true, Bool.or_eq_true, Bool.not_eq_true', decide_eq_false_iff_not, ne_eq, Bool.not_eq_true] at hqt60_1
                refine wp_seq_k (fun K24 hK24 => ?_)
                refine wp_region_lit ?_
                refine sqv hf (r_fa rfl Tryd.underlying25 (f := 1) (q := 1) rfl (by kernel_rfl) rfl) rfl rfl rfl ?_; clear hf fa; intro fa hf
                refine sqv hf (r_load (v := (.int .u64 A)) rfl Tryd.underlying22 rfl (cell_blk hk1 rfl)) rfl rfl rfl ?_; clear hf fa; intro fa hf
                refine sqv hf (r_conv (C := ((sA A))) rfl Tryd.underlying22 Tryd.underlying3 (wrap_sA hA)) rfl rfl rfl ?_; clear hf fa; intro fa hf
                refine sqdt hf (d_callB (vs := [(.int .i64 ((sA A)))]) rfl Tryd.func50 (by kernel_rfl) (by kernel_rfl) (digits_any ((sA A)) _ (by first | exact inI_sA (by omega) | exact inI_s32 _))) rfl rfl rfl ?_; clear hf fa; rintro fa _ w9 ⟨rfl, he8⟩ hf
                replace hk1 := blk_ext hk1 he8
                replace hb := hb.trans (Below.mono he8 hb.size)
                refine sqv hf (r_sadd rfl rfl (by have : ((⟨#[32]⟩) : ByteArray).size = 1 := rfl; omega)) rfl rfl rfl ?_; clear hf fa; intro fa hf
                refine sqv hf (r_assign rfl) rfl rfl rfl ?_; clear hf fa; intro fa hf
                apply wpList_nil
                (try simp only [Exit.then, Exit.inBlock, ↓reduceIte, Nat.reduceEqDiff])
                refine hK24 _ _ ?_
                refine wp_ret ?_
                (try simp only [Exit.then, Exit.inBlock])
                refine ret1 hf rfl rfl ?_
                refine ⟨congrArg (fun s => Ending.returned (.string s)) ?_, hb⟩; unfold behindP; rw [if_neg (by have h0 := hqt10_1; have h1 := hqt10_3; have h2 := hqt13_1; have h3 := hqt18_1; have h4 := hqt40_1; have h5 := hqt51_1; have h6 := hqt60_1; omega), if_neg (by have h0 := hqt10_1; have h1 := hqt10_3; have h2 := hqt13_1; have h3 := hqt18_1; have h4 := hqt40_1; have h5 := hqt51_1; have h6 := hqt60_1; omega), if_neg (by have h0 := hqt10_1; have h1 := hqt10_3; have h2 := hqt13_1; have h3 := hqt18_1; have h4 := hqt40_1; have h5 := hqt51_1; have h6 := hqt60_1; omega), if_neg (by have h0 := hqt10_1; have h1 := hqt10_3; have h2 := hqt13_1; have h3 := hqt18_1; have h4 := hqt40_1; have h5 := hqt51_1; have h6 := hqt60_1; omega), if_neg (by have h0 := hqt10_1; have h1 := hqt10_3; have h2 := hqt13_1; have h3 := hqt18_1; have h4 := hqt40_1; have h5 := hqt51_1; have h6 := hqt60_1; omega)]
              · have hqt60_1b := hqt60_1
                replace hqt60_1 := Bool.eq_false_iff.1 hqt60_1
                try simp only [ne_eq, decide_eq_true_eq, Bool.and_eq_true, Bool.or_eq_true, Bool.not_eq_true', decide_eq_false_iff_not] at hqt60_1
                refine wp_skip ?_
                (try simp only [Exit.then, Exit.inBlock, ↓reduceIte, Nat.reduceEqDiff])
                refine hK2 _ _ ?_
                refine wp_seq_k (fun K25 hK25 => ?_)
                refine wp_region_lit ?_
                refine sqv hf (r_fa rfl Tryd.underlying25 (f := 1) (q := 1) rfl (by kernel_rfl) rfl) rfl rfl rfl ?_; clear hf fa; intro fa hf
                refine sqv hf (r_load (v := (.int .u64 A)) rfl Tryd.underlying22 rfl (cell_blk hk1 rfl)) rfl rfl rfl ?_; clear hf fa; intro fa hf
                refine sqdt hf (d_callB (vs := [(.int .u64 A)]) rfl Tryd.func49 (by kernel_rfl) (by kernel_rfl) (nat46_any A _ (by omega))) rfl rfl rfl ?_; clear hf fa; rintro fa _ w10 ⟨rfl, he9⟩ hf
                replace hk1 := blk_ext hk1 he9
                replace hb := hb.trans (Below.mono he9 hb.size)
                refine sqv hf (r_sadd rfl rfl (by have : ((⟨#[32]⟩) : ByteArray).size = 1 := rfl; omega)) rfl rfl rfl ?_; clear hf fa; intro fa hf
                refine sqv hf (r_assign rfl) rfl rfl rfl ?_; clear hf fa; intro fa hf
                apply wpList_nil
                (try simp only [Exit.then, Exit.inBlock, ↓reduceIte, Nat.reduceEqDiff])
                refine hK25 _ _ ?_
                refine wp_ret ?_
                (try simp only [Exit.then, Exit.inBlock])
                refine ret1 hf rfl rfl ?_
                refine ⟨congrArg (fun s => Ending.returned (.string s)) ?_, hb⟩; unfold behindP; rw [if_neg (by have h0 := hqt10_1; have h1 := hqt10_3; have h2 := hqt13_1; have h3 := hqt18_1; have h4 := hqt40_1; have h5 := hqt51_1; have h6 := hqt60_1; omega), if_neg (by have h0 := hqt10_1; have h1 := hqt10_3; have h2 := hqt13_1; have h3 := hqt18_1; have h4 := hqt40_1; have h5 := hqt51_1; have h6 := hqt60_1; omega), if_neg (by have h0 := hqt10_1; have h1 := hqt10_3; have h2 := hqt13_1; have h3 := hqt18_1; have h4 := hqt40_1; have h5 := hqt51_1; have h6 := hqt60_1; omega), if_neg (by have h0 := hqt10_1; have h1 := hqt10_3; have h2 := hqt13_1; have h3 := hqt18_1; have h4 := hqt40_1; have h5 := hqt51_1; have h6 := hqt60_1; omega), if_neg (by have h0 := hqt10_1; have h1 := hqt10_3; have h2 := hqt13_1; have h3 := hqt18_1; have h4 := hqt40_1; have h5 := hqt51_1; have h6 := hqt60_1; omega)]

theorem behind_len (op : Nat) (A B : Int) (L : List Int) (hA : 0 ≤ A ∧ A < 18446744073709551616) (hB : 0 ≤ B ∧ B < 18446744073709551616) (hn : L.length ≤ 100000) (hL : ∀ y ∈ L, 0 ≤ y ∧ y < 4294967296) : (behindP op A B L).size ≤ 2200000 := by
  have h1 := dS_len (inI_sA hA)
  have h2 := dS_len (inI_sA hB)
  have h3 := dS_len (inI_s32 A)
  have h4 := blkS_len A
  have h5 := foldD_len (f := dS) (B := 20) L (⟨#[]⟩ : ByteArray) (fun y hy => dS_len (inI_u32 (by have := hL y hy; omega)))
  have e0 : (⟨#[]⟩ : ByteArray).size = 0 := rfl
  have e1 : (⟨#[32]⟩ : ByteArray).size = 1 := rfl
  have e7 : (⟨#[32, 97, 108, 105, 103, 110, 61]⟩ : ByteArray).size = 7 := rfl
  have e8 : (⟨#[32, 111, 102, 102, 115, 101, 116, 61]⟩ : ByteArray).size = 8 := rfl
  unfold behindP
  split
  · omega
  split
  · omega
  split
  · simp only [ByteArray.size_append]; omega
  split
  · simp only [ByteArray.size_append]; omega
  split
  · simp only [ByteArray.size_append]; omega
  · simp only [ByteArray.size_append]; omega
theorem right_out {op : Nat} {A B : Int} {n : Nat} (h : rightP op A B n = 0) : chkP op = 0 ∧ (n = 0 ∨ (infP op).2.1 = 3) ∧ n ≤ 10000 ∧ (B = 0 ∨ (infP op).2.1 = 8) ∧ ((infP op).2.1 = 0 ∨ (infP op).2.1 = 9 → A = 0) ∧ ((infP op).2.1 = 1 → A = 64 ∨ A = 127 ∨ A = 126) ∧ (¬ ((infP op).2.1 = 0 ∨ (infP op).2.1 = 9) → (infP op).2.1 ≠ 1 → (infP op).2.1 ≠ 11 → A < 4294967296 ∧ B < 4294967296) := by
  generalize him : (infP op).2.1 = im at *
  generalize hck : chkP op = ck at *
  unfold rightP at h
  rw [him, hck] at h
  split at h
  · omega
  split at h
  · omega
  split at h
  · omega
  split at h
  · omega
  refine ⟨by omega, by omega, by omega, by omega, fun e => ?_, fun e => ?_, fun e1 e2 e3 => ?_⟩
  · rw [if_pos e] at h
    split at h
    · assumption
    · omega
  · rw [if_neg (by omega), if_pos e] at h
    unfold blkP at h
    split at h
    · omega
    split at h
    · omega
    split at h
    · omega
    split at h <;> omega
  · rw [if_neg e1, if_neg e2, if_neg e3] at h
    split at h
    · assumption
    · omega

set_option maxHeartbeats 1000000 in
set_option maxRecDepth 100000 in
theorem line_any (op : Nat) (A B : Int) (L : List Int) (a : Option Addr) (c : Nat) (w : World) (hl : RdS 1 (vInt .u32) w a L) (hL : ∀ y ∈ L, 0 ≤ y ∧ y < 4294967296) (hop : op < 256) (hA : 0 ≤ A ∧ A < 18446744073709551616) (hB : 0 ≤ B ∧ B < 18446744073709551616) (hc : L.length ≤ c) (hn : L.length ≤ 100000) : Calls Tryd.prog 7 #[(.agg #[(.int .u8 ((op : Nat) : Int)), (.int .u64 A), (.int .u64 B), (.slice a L.length c)])] w fun e w' => e = .returned (.string (lineP op A B L)) ∧ Below w.heap.size w w' := by
  have hnm : (infP op).1.size ≤ 24 := nmO_len hop
  have hbl := behind_len op A B L hA hB hn hL
  have him := of_imm hop
  have hon := of_name hop
  have hnl := nmO_len hop
  have hd0 := dS_len (n := (sA A)) (inI_sA hA)
  have hd1 := dS_len (n := (sA B)) (inI_sA hB)
  have hd2 := dS_len (n := (s32 A)) (inI_s32 A)
  refine sx_enter (L := [(0, (.agg #[(.int .u8 ((op : Nat) : Int)), (.int .u64 A), (.int .u64 B), (.slice a L.length c)]))]) Tryd.func7 rfl rfl rfl rfl (fun fa hf => ?_)
  have hb : Below w.heap.size w w := Below.refl _ _
  refine wp_seq_k (fun K1 hK1 => ?_)
  refine wp_region_lit ?_
  refine sqdt hf (d_box (cs := #[(.int .u8 ((op : Nat) : Int)), (.int .u64 A), (.int .u64 B), (.slice a L.length c)]) rfl rfl) rfl rfl rfl ?_; clear hf fa; rintro fa _ w1 ⟨b1, rfl, hle1, hk1, he1⟩ hf
  have hBb1 : w.heap.size ≤ b1 := Nat.le_trans hb.size hle1
  replace hb := hb.trans (Below.mono he1 hb.size)
  refine sqv hf (r_assign rfl) rfl rfl rfl ?_; clear hf fa; intro fa hf
  apply wpList_nil
  (try simp only [Exit.then, Exit.inBlock, ↓reduceIte, Nat.reduceEqDiff])
  refine hK1 _ _ ?_
  refine wp_seq_k (fun K2 hK2 => ?_)
  refine wp_seq_k (fun K3 hK3 => ?_)
  refine wp_region_lit ?_
  refine sqv hf (r_loadA (cs := [(.int .u8 ((op : Nat) : Int)), (.int .u64 A), (.int .u64 B), (.slice a L.length c)]) rfl Tryd.underlying25 rfl (by kernel_rfl) (cellsAt_blk hk1)) rfl rfl rfl ?_; clear hf fa; intro fa hf
  refine sqdt hf (d_callB (vs := [(.agg #[(.int .u8 ((op : Nat) : Int)), (.int .u64 A), (.int .u64 B), (.slice a L.length c)])]) rfl Tryd.func19 (by kernel_rfl) (by kernel_rfl) (iright_any op A B L a c _ hop hA hB hc hn)) rfl rfl rfl ?_; clear hf fa; rintro fa _ w2 ⟨rfl, he2⟩ hf
  replace hk1 := blk_ext hk1 he2
  replace hb := hb.trans (Below.mono he2 hb.size)
  refine sqv hf (r_ne rfl rfl) rfl rfl rfl ?_; clear hf fa; intro fa hf
  apply wpList_nil
  (try simp only [Exit.then, Exit.inBlock, ↓reduceIte, Nat.reduceEqDiff])
  refine hK3 _ _ ?_
  refine wp_cond_split (t := (decide (((rightP op A B L.length)) ≠ (0 : Int)))) (hf.ev rfl) (fun hqt5_1 => ?_) (fun hqt5_1 => ?_)
  · have hqt5_1b := hqt5_1
    try simp only [decide_eq_true_eq, Bool.and_eq_true, Bool.or_eq_true, Bool.not_eq_true', decide_eq_false_iff_not, ne_eq, Bool.not_eq_true] at hqt5_1
    refine wp_seq_k (fun K4 hK4 => ?_)
    refine wp_region_lit ?_
    refine sqv hf (r_assign rfl) rfl rfl rfl ?_; clear hf fa; intro fa hf
    apply wpList_nil
    (try simp only [Exit.then, Exit.inBlock, ↓reduceIte, Nat.reduceEqDiff])
    refine hK4 _ _ ?_
    refine wp_ret ?_
    (try simp only [Exit.then, Exit.inBlock])
    refine ret1 hf rfl rfl ?_
    refine ⟨congrArg (fun s => Ending.returned (.string s)) ?_, hb⟩; unfold lineP; rw [if_neg hqt5_1]
  · have hqt5_1b := hqt5_1
    replace hqt5_1 := Bool.eq_false_iff.1 hqt5_1
    try simp only [ne_eq, decide_eq_true_eq, Bool.and_eq_true, Bool.or_eq_true, Bool.not_eq_true', decide_eq_false_iff_not] at hqt5_1
    refine wp_skip ?_
    (try simp only [Exit.then, Exit.inBlock, ↓reduceIte, Nat.reduceEqDiff])
    refine hK2 _ _ ?_
    refine wp_seq_k (fun K5 hK5 => ?_)
    refine wp_region_un (fun wq => Below w2.heap.size w2 wq) (fun w w' => Below w.heap.size w w')
      (fun V => [(fun x _ => x = (.pointer (some ⟨b1, 0, none⟩))), (fun x _ => x = (.int .u8 ((op : Nat) : Int))), (fun x _ => x = (.agg #[(.string (infP op).1), (.int .i64 ((infP op).2.1)), (.string (infP op).2.2.1), (.string (infP op).2.2.2.1), (.bool (infP op).2.2.2.2.1)])), (fun x _ => x = (.string (infP op).1)), (fun x _ => x = (.agg #[(.int .u8 ((op : Nat) : Int)), (.int .u64 A), (.int .u64 B), (.slice a L.length c)])), (fun x _ => x = (.string (behindP op A B L))), (fun x _ => x = (.string ((infP op).1 ++ (behindP op A B L)))), (fun x _ => x = (.string ((infP op).1 ++ (behindP op A B L))))])
      []
      [[], [0], [1], [2], [], [2, 4], [3, 5], [0, 1, 2, 3, 4, 5, 6]]
      hf (by kernel_rfl) (by kernel_rfl) (fun _ => rfl) ((Below.refl _ _).drew) (fun a b h1 h2 => h1.trans (h2.mono h1.size)) (fun _ _ h => h.size) (fun V => ⟨kept_eq, kept_eq, kept_eq, kept_eq, kept_eq, kept_eq, kept_eq, kept_eq, trivial⟩) (fun _ _ _ _ _ => rfl) ?_ ?_
    · skip
      intro V
      refine ⟨fun wu0 hC hd => ?_, ?_⟩
      · clear hd
        replace hb := hb.trans (hC.mono hb.size)
        replace hk1 := blk_ext hk1 hC
        exact Runs.does (r_fa rfl Tryd.underlying25 (f := 0) (q := 0) rfl (by kernel_rfl) rfl) ⟨Below.refl _ _, rfl, nofr rfl⟩
      refine ⟨fun wu1 hC hd => ?_, ?_⟩
      · obtain ⟨h0, _⟩ := hd
        skip
        replace h0 : V 0 = (.pointer (some ⟨b1, 0, none⟩)) := h0
        replace hb := hb.trans (hC.mono hb.size)
        replace hk1 := blk_ext hk1 hC
        exact Runs.does (r_load (v := (.int .u8 ((op : Nat) : Int))) (congrArg some h0) Tryd.underlying5 rfl (cell_blk hk1 rfl)) ⟨Below.refl _ _, rfl, nofr rfl⟩
      refine ⟨fun wu2 hC hd => ?_, ?_⟩
      · obtain ⟨h1, _⟩ := hd
        skip
        replace h1 : V 1 = (.int .u8 ((op : Nat) : Int)) := h1
        replace hb := hb.trans (hC.mono hb.size)
        replace hk1 := blk_ext hk1 hC
        refine Does.mono (d_callB (vs := [(.int .u8 ((op : Nat) : Int))]) (show [some (V 1)] = [some (.int .u8 ((op : Nat) : Int))] from by rw [h1]) Tryd.func20 (by kernel_rfl) (by kernel_rfl) (inf_any op _ hop)) (fun _ _ h => ⟨h.2, h.1, nofr rfl⟩)
      refine ⟨fun wu3 hC hd => ?_, ?_⟩
      · obtain ⟨h2, _⟩ := hd
        skip
        replace h2 : V 2 = (.agg #[(.string (infP op).1), (.int .i64 ((infP op).2.1)), (.string (infP op).2.2.1), (.string (infP op).2.2.2.1), (.bool (infP op).2.2.2.2.1)]) := h2
        replace hb := hb.trans (hC.mono hb.size)
        replace hk1 := blk_ext hk1 hC
        exact Runs.does (r_field (cs := #[(.string (infP op).1), (.int .i64 ((infP op).2.1)), (.string (infP op).2.2.1), (.string (infP op).2.2.2.1), (.bool (infP op).2.2.2.2.1)]) (v := (.string (infP op).1)) (congrArg some h2) (fun _ => by kernel_rfl)) ⟨Below.refl _ _, rfl, nofr rfl⟩
      refine ⟨fun wu4 hC hd => ?_, ?_⟩
      · clear hd
        replace hb := hb.trans (hC.mono hb.size)
        replace hk1 := blk_ext hk1 hC
        exact Runs.does (r_loadA (cs := [(.int .u8 ((op : Nat) : Int)), (.int .u64 A), (.int .u64 B), (.slice a L.length c)]) rfl Tryd.underlying25 rfl (by kernel_rfl) (cellsAt_blk hk1)) ⟨Below.refl _ _, rfl, nofr rfl⟩
      refine ⟨fun wu5 hC hd => ?_, ?_⟩
      · obtain ⟨h2, h4, _⟩ := hd
        skip
        skip
        replace h2 : V 2 = (.agg #[(.string (infP op).1), (.int .i64 ((infP op).2.1)), (.string (infP op).2.2.1), (.string (infP op).2.2.2.1), (.bool (infP op).2.2.2.2.1)]) := h2
        replace h4 : V 4 = (.agg #[(.int .u8 ((op : Nat) : Int)), (.int .u64 A), (.int .u64 B), (.slice a L.length c)]) := h4
        replace hb := hb.trans (hC.mono hb.size)
        replace hk1 := blk_ext hk1 hC
        refine Does.mono (d_callB (vs := [(.agg #[(.int .u8 ((op : Nat) : Int)), (.int .u64 A), (.int .u64 B), (.slice a L.length c)])]) (show [some (V 4)] = [some (.agg #[(.int .u8 ((op : Nat) : Int)), (.int .u64 A), (.int .u64 B), (.slice a L.length c)])] from by rw [h4]) Tryd.func21 (by kernel_rfl) (by kernel_rfl) (behind_any op A B L a c _ (RdS.ext hl hb) hL hop hA hB hc hn)) (fun _ _ h => ⟨h.2, h.1, nofr rfl⟩)
      refine ⟨fun wu6 hC hd => ?_, ?_⟩
      · obtain ⟨h3, h5, _⟩ := hd
        skip
        skip
        replace h3 : V 3 = (.string (infP op).1) := h3
        replace h5 : V 5 = (.string (behindP op A B L)) := h5
        replace hb := hb.trans (hC.mono hb.size)
        replace hk1 := blk_ext hk1 hC
        exact Runs.does (r_sadd (congrArg some h3) (congrArg some h5) (by omega)) ⟨Below.refl _ _, rfl, nofr rfl⟩
      refine ⟨fun wu7 hC hd => ?_, ?_⟩
      · obtain ⟨h0, h1, h2, h3, h4, h5, h6, _⟩ := hd
        skip
        skip
        skip
        skip
        skip
        skip
        skip
        replace h0 : V 0 = (.pointer (some ⟨b1, 0, none⟩)) := h0
        replace h1 : V 1 = (.int .u8 ((op : Nat) : Int)) := h1
        replace h2 : V 2 = (.agg #[(.string (infP op).1), (.int .i64 ((infP op).2.1)), (.string (infP op).2.2.1), (.string (infP op).2.2.2.1), (.bool (infP op).2.2.2.2.1)]) := h2
        replace h3 : V 3 = (.string (infP op).1) := h3
        replace h4 : V 4 = (.agg #[(.int .u8 ((op : Nat) : Int)), (.int .u64 A), (.int .u64 B), (.slice a L.length c)]) := h4
        replace h5 : V 5 = (.string (behindP op A B L)) := h5
        replace h6 : V 6 = (.string ((infP op).1 ++ (behindP op A B L))) := h6
        replace hb := hb.trans (hC.mono hb.size)
        replace hk1 := blk_ext hk1 hC
        exact Runs.does (r_assign (congrArg some h6)) ⟨Below.refl _ _, rfl, nofr rfl⟩
      trivial
    · skip
      clear hf fa; intro V w3 fa he3 hp hnb hf
      have hv0 : V 0 = (.pointer (some ⟨b1, 0, none⟩)) := postsHold_at hp 0 rfl
      have hv1 : V 1 = (.int .u8 ((op : Nat) : Int)) := postsHold_at hp 1 rfl
      have hv2 : V 2 = (.agg #[(.string (infP op).1), (.int .i64 ((infP op).2.1)), (.string (infP op).2.2.1), (.string (infP op).2.2.2.1), (.bool (infP op).2.2.2.2.1)]) := postsHold_at hp 2 rfl
      have hv3 : V 3 = (.string (infP op).1) := postsHold_at hp 3 rfl
      have hv4 : V 4 = (.agg #[(.int .u8 ((op : Nat) : Int)), (.int .u64 A), (.int .u64 B), (.slice a L.length c)]) := postsHold_at hp 4 rfl
      have hv5 : V 5 = (.string (behindP op A B L)) := postsHold_at hp 5 rfl
      have hv6 : V 6 = (.string ((infP op).1 ++ (behindP op A B L))) := postsHold_at hp 6 rfl
      have hv7 : V 7 = (.string ((infP op).1 ++ (behindP op A B L))) := postsHold_at hp 7 rfl
      simp only [List.take_succ_cons, List.take_zero, insAll, ins, hv0, hv1, hv2, hv3, hv4, hv5, hv6, hv7] at hf
      clear hp hnb hv0 hv1 hv2 hv3 hv4 hv5 hv6 hv7
      replace hk1 := blk_ext hk1 he3
      replace hb := hb.trans (Below.mono he3 hb.size)
      (try simp only [Exit.then, Exit.inBlock, ↓reduceIte, Nat.reduceEqDiff])
      refine hK5 _ _ ?_
      refine wp_ret ?_
      (try simp only [Exit.then, Exit.inBlock])
      refine ret1 hf rfl rfl ?_
      refine ⟨congrArg (fun s => Ending.returned (.string s)) ?_, hb⟩; unfold lineP; rw [if_pos (by have h := hqt5_1; omega)]; rfl

set_option maxHeartbeats 1000000 in
set_option maxRecDepth 100000 in
theorem rline_any (op : Nat) (A B : Int) (L : List Int) (a : Option Addr) (c : Nat) (w : World) (hl : RdS 1 (vInt .u32) w a L) (hL : ∀ y ∈ L, 0 ≤ y ∧ y < 4294967296) (hop : op < 256) (hA : 0 ≤ A ∧ A < 18446744073709551616) (hB : 0 ≤ B ∧ B < 18446744073709551616) (hc : L.length ≤ c) (hn : L.length ≤ 100000) : Calls Tryd.prog 8 #[(.agg #[(.int .u8 ((op : Nat) : Int)), (.int .u64 A), (.int .u64 B), (.slice a L.length c)])] w fun e w' => e = .returned (.string (lineP op A B L)) ∧ Below w.heap.size w w' := by
  have hnm : (infP op).1.size ≤ 24 := nmO_len hop
  have hbl := behind_len op A B L hA hB hn hL
  have him := of_imm hop
  have hon := of_name hop
  have hnl := nmO_len hop
  have hd0 := dS_len (n := (sA A)) (inI_sA hA)
  have hd1 := dS_len (n := (sA B)) (inI_sA hB)
  have hd2 := dS_len (n := (s32 A)) (inI_s32 A)
  have hon2 : (ofP op).1.2.1.size ≤ 24 := by rw [hon]; exact hnl
  refine sx_enter (L := [(0, (.agg #[(.int .u8 ((op : Nat) : Int)), (.int .u64 A), (.int .u64 B), (.slice a L.length c)]))]) Tryd.func8 rfl rfl rfl rfl (fun fa hf => ?_)
  have hb : Below w.heap.size w w := Below.refl _ _
  refine wp_seq_k (fun K1 hK1 => ?_)
  refine wp_region_lit ?_
  refine sqdt hf (d_box (cs := #[(.int .u8 ((op : Nat) : Int)), (.int .u64 A), (.int .u64 B), (.slice a L.length c)]) rfl rfl) rfl rfl rfl ?_; clear hf fa; rintro fa _ w1 ⟨b1, rfl, hle1, hk1, he1⟩ hf
  have hBb1 : w.heap.size ≤ b1 := Nat.le_trans hb.size hle1
  replace hb := hb.trans (Below.mono he1 hb.size)
  refine sqv hf (r_assign rfl) rfl rfl rfl ?_; clear hf fa; intro fa hf
  apply wpList_nil
  (try simp only [Exit.then, Exit.inBlock, ↓reduceIte, Nat.reduceEqDiff])
  refine hK1 _ _ ?_
  refine wp_seq_k (fun K2 hK2 => ?_)
  refine wp_seq_k (fun K3 hK3 => ?_)
  refine wp_region_lit ?_
  refine sqv hf (r_loadA (cs := [(.int .u8 ((op : Nat) : Int)), (.int .u64 A), (.int .u64 B), (.slice a L.length c)]) rfl Tryd.underlying25 rfl (by kernel_rfl) (cellsAt_blk hk1)) rfl rfl rfl ?_; clear hf fa; intro fa hf
  refine sqdt hf (d_callB (vs := [(.agg #[(.int .u8 ((op : Nat) : Int)), (.int .u64 A), (.int .u64 B), (.slice a L.length c)])]) rfl Tryd.func10 (by kernel_rfl) (by kernel_rfl) (rright_any op A B L a c _ hop hA hB hc hn)) rfl rfl rfl ?_; clear hf fa; rintro fa _ w2 ⟨rfl, he2⟩ hf
  replace hk1 := blk_ext hk1 he2
  replace hb := hb.trans (Below.mono he2 hb.size)
  refine sqv hf (r_ne rfl rfl) rfl rfl rfl ?_; clear hf fa; intro fa hf
  apply wpList_nil
  (try simp only [Exit.then, Exit.inBlock, ↓reduceIte, Nat.reduceEqDiff])
  refine hK3 _ _ ?_
  refine wp_cond_split (t := (decide (((rightP op A B L.length)) ≠ (0 : Int)))) (hf.ev rfl) (fun hqt9_1 => ?_) (fun hqt9_1 => ?_)
  · have hqt9_1b := hqt9_1
    try simp only [decide_eq_true_eq, Bool.and_eq_true, Bool.or_eq_true, Bool.not_eq_true', decide_eq_false_iff_not, ne_eq, Bool.not_eq_true] at hqt9_1
    refine wp_seq_k (fun K4 hK4 => ?_)
    refine wp_region_lit ?_
    refine sqv hf (r_assign rfl) rfl rfl rfl ?_; clear hf fa; intro fa hf
    apply wpList_nil
    (try simp only [Exit.then, Exit.inBlock, ↓reduceIte, Nat.reduceEqDiff])
    refine hK4 _ _ ?_
    refine wp_ret ?_
    (try simp only [Exit.then, Exit.inBlock])
    refine ret1 hf rfl rfl ?_
    refine ⟨congrArg (fun s => Ending.returned (.string s)) ?_, hb⟩; unfold lineP; rw [if_neg hqt9_1]
  · have hqt9_1b := hqt9_1
    replace hqt9_1 := Bool.eq_false_iff.1 hqt9_1
    try simp only [ne_eq, decide_eq_true_eq, Bool.and_eq_true, Bool.or_eq_true, Bool.not_eq_true', decide_eq_false_iff_not] at hqt9_1
    refine wp_skip ?_
    (try simp only [Exit.then, Exit.inBlock, ↓reduceIte, Nat.reduceEqDiff])
    refine hK2 _ _ ?_
    refine wp_seq_k (fun K5 hK5 => ?_)
    refine wp_region_lit ?_
    refine sqv hf (r_fa rfl Tryd.underlying25 (f := 0) (q := 0) rfl (by kernel_rfl) rfl) rfl rfl rfl ?_; clear hf fa; intro fa hf
    refine sqv hf (r_load (v := (.int .u8 ((op : Nat) : Int))) rfl Tryd.underlying5 rfl (cell_blk hk1 rfl)) rfl rfl rfl ?_; clear hf fa; intro fa hf
    refine sqv hf (r_conv (C := ((op : Nat) : Int)) rfl Tryd.underlying5 Tryd.underlying3 (by rw [IntKind.wrap_i64]; omega)) rfl rfl rfl ?_; clear hf fa; intro fa hf
    refine sqdt hf (d_callB (vs := [(.int .i64 ((op : Nat) : Int))]) rfl Tryd.func22 (by kernel_rfl) (by kernel_rfl) (of_any op _ hop)) rfl rfl rfl ?_; clear hf fa; rintro fa _ w3 ⟨rfl, he3⟩ hf
    replace hk1 := blk_ext hk1 he3
    replace hb := hb.trans (Below.mono he3 hb.size)
    refine sqv hf (r_move rfl) rfl rfl rfl ?_; clear hf fa; intro fa hf
    refine sqv hf (r_extract rfl (i := 0) rfl) rfl rfl rfl ?_; clear hf fa; intro fa hf
    refine sqv hf (r_extract rfl (i := 1) rfl) rfl rfl rfl ?_; clear hf fa; intro fa hf
    refine sqdt hf (d_alloc (z := (.agg #[(.int .i64 (0 : Int)), (.string ⟨#[]⟩), (.int .i64 (0 : Int)), (.string ⟨#[]⟩), (.string ⟨#[]⟩), (.bool false)])) (cs := #[(.int .i64 (0 : Int)), (.string ⟨#[]⟩), (.int .i64 (0 : Int)), (.string ⟨#[]⟩), (.string ⟨#[]⟩), (.bool false)]) (by kernel_rfl) rfl) rfl rfl rfl ?_; clear hf fa; rintro fa _ w4 ⟨b2, rfl, hle2, hk2, he4⟩ hf
    have hBb2 : w.heap.size ≤ b2 := Nat.le_trans hb.size hle2
    have : b1 < b2 := Nat.lt_of_lt_of_le (blk_lt hk1) hle2
    replace hk1 := blk_ext hk1 he4
    replace hb := hb.trans (Below.mono he4 hb.size)
    refine sqn hf (d_storeK (T := 57) (v := (.agg #[(.int .i64 ((ofP op).1.1)), (.string (ofP op).1.2.1), (.int .i64 ((ofP op).1.2.2.1)), (.string (ofP op).1.2.2.2.1), (.string (ofP op).1.2.2.2.2.1), (.bool (ofP op).1.2.2.2.2.2.1)])) (cs := #[(.int .i64 (0 : Int)), (.string ⟨#[]⟩), (.int .i64 (0 : Int)), (.string ⟨#[]⟩), (.string ⟨#[]⟩), (.bool false)]) (cs' := #[(.int .i64 ((ofP op).1.1)), (.string (ofP op).1.2.1), (.int .i64 ((ofP op).1.2.2.1)), (.string (ofP op).1.2.2.2.1), (.string (ofP op).1.2.2.2.2.1), (.bool (ofP op).1.2.2.2.2.2.1)]) rfl rfl (by kernel_rfl) (by kernel_rfl) hk2 (by kernel_rfl) (by kernel_rfl)) rfl rfl ?_; clear hf fa; rintro fa _ w5 ⟨hk3, hg1⟩ hf
    replace hk1 := blk_grown hk1 hg1 (by omega)
    replace hb := hb.trans (grown_below hg1 hb.size hBb2)
    refine sqv hf (r_assign rfl) rfl rfl rfl ?_; clear hf fa; intro fa hf
    apply wpList_nil
    (try simp only [Exit.then, Exit.inBlock, ↓reduceIte, Nat.reduceEqDiff])
    refine hK5 _ _ ?_
    refine wp_seq_k (fun K6 hK6 => ?_)
    refine wp_region_lit ?_
    refine sqv hf (r_fa rfl Tryd.underlying57 (f := 1) (q := 1) rfl (by kernel_rfl) rfl) rfl rfl rfl ?_; clear hf fa; intro fa hf
    refine sqv hf (r_load (v := (.string (ofP op).1.2.1)) rfl Tryd.underlying9 rfl (cell_blk hk3 rfl)) rfl rfl rfl ?_; clear hf fa; intro fa hf
    refine sqv hf (r_assign rfl) rfl rfl rfl ?_; clear hf fa; intro fa hf
    apply wpList_nil
    (try simp only [Exit.then, Exit.inBlock, ↓reduceIte, Nat.reduceEqDiff])
    refine hK6 _ _ ?_
    refine wp_seq_k (fun K7 hK7 => ?_)
    refine wp_seq_k (fun K8 hK8 => ?_)
    refine wp_region_lit ?_
    refine sqv hf (r_fa rfl Tryd.underlying57 (f := 2) (q := 2) rfl (by kernel_rfl) rfl) rfl rfl rfl ?_; clear hf fa; intro fa hf
    refine sqv hf (r_load (v := (.int .i64 ((ofP op).1.2.2.1))) rfl Tryd.underlying3 rfl (cell_blk hk3 rfl)) rfl rfl rfl ?_; clear hf fa; intro fa hf
    apply wpList_nil
    (try simp only [Exit.then, Exit.inBlock, ↓reduceIte, Nat.reduceEqDiff])
    refine hK8 _ _ ?_
    refine wp_block ?_
    refine wp_seq_k (fun K9 hK9 => ?_)
    refine wp_seq_k (fun K10 hK10 => ?_)
    refine wp_region_lit ?_
    refine sqv hf (r_eq rfl rfl) rfl rfl rfl ?_; clear hf fa; intro fa hf
    refine sqv hf (r_assign rfl) rfl rfl rfl ?_; clear hf fa; intro fa hf
    apply wpList_nil
    (try simp only [Exit.then, Exit.inBlock, ↓reduceIte, Nat.reduceEqDiff])
    refine hK10 _ _ ?_
    refine wp_cond_split (t := (decide (((ofP op).1.2.2.1) = (0 : Int)))) (hf.ev rfl) (fun hqt21_1 => ?_) (fun hqt21_1 => ?_)
    · have hqt21_1b := hqt21_1
      try simp only [decide_eq_true_eq, Bool.and_eq_true, Bool.or_eq_true, Bool.not_eq_true', decide_eq_false_iff_not, ne_eq, Bool.not_eq_true] at hqt21_1
      refine wp_skip ?_
      (try simp only [Exit.then, Exit.inBlock, ↓reduceIte, Nat.reduceEqDiff])
      refine hK9 _ _ ?_
      refine wp_cond_true ((hf.ev rfl).trans (congrArg Value.bool (show (decide (((ofP op).1.2.2.1) = (0 : Int))) = true from hqt21_1b))) ?_
      refine wp_seq_k (fun K11 hK11 => ?_)
      refine wp_region_lit ?_
      refine sqv hf (r_move rfl) rfl rfl rfl ?_; clear hf fa; intro fa hf
      refine sqv hf (r_assign rfl) rfl rfl rfl ?_; clear hf fa; intro fa hf
      apply wpList_nil
      (try simp only [Exit.then, Exit.inBlock, ↓reduceIte, Nat.reduceEqDiff])
      refine hK11 _ _ ?_
      refine wp_ret ?_
      (try simp only [Exit.then, Exit.inBlock])
      refine ret1 hf rfl rfl ?_
      refine ⟨congrArg (fun s => Ending.returned (.string s)) ?_, hb⟩; unfold lineP; rw [if_pos (by have h := hqt9_1; omega)]; unfold behindP; rw [if_pos (by have h0 := hqt21_1; omega), hon]; exact (app_nil _).symm
    · have hqt21_1b := hqt21_1
      replace hqt21_1 := Bool.eq_false_iff.1 hqt21_1
      try simp only [ne_eq, decide_eq_true_eq, Bool.and_eq_true, Bool.or_eq_true, Bool.not_eq_true', decide_eq_false_iff_not] at hqt21_1
      refine wp_region_lit ?_
      refine sqv hf (r_eq rfl rfl) rfl rfl rfl ?_; clear hf fa; intro fa hf
      refine sqv hf (r_assign rfl) rfl rfl rfl ?_; clear hf fa; intro fa hf
      apply wpList_nil
      (try simp only [Exit.then, Exit.inBlock, ↓reduceIte, Nat.reduceEqDiff])
      refine hK9 _ _ ?_
      refine wp_cond_split (t := (decide (((ofP op).1.2.2.1) = (9 : Int)))) (hf.ev rfl) (fun hqt21_3 => ?_) (fun hqt21_3 => ?_)
      · have hqt21_3b := hqt21_3
        try simp only [decide_eq_true_eq, Bool.and_eq_true, Bool.or_eq_true, Bool.not_eq_true', decide_eq_false_iff_not, ne_eq, Bool.not_eq_true] at hqt21_3
        refine wp_seq_k (fun K12 hK12 => ?_)
        refine wp_region_lit ?_
        refine sqv hf (r_move rfl) rfl rfl rfl ?_; clear hf fa; intro fa hf
        refine sqv hf (r_assign rfl) rfl rfl rfl ?_; clear hf fa; intro fa hf
        apply wpList_nil
        (try simp only [Exit.then, Exit.inBlock, ↓reduceIte, Nat.reduceEqDiff])
        refine hK12 _ _ ?_
        refine wp_ret ?_
        (try simp only [Exit.then, Exit.inBlock])
        refine ret1 hf rfl rfl ?_
        refine ⟨congrArg (fun s => Ending.returned (.string s)) ?_, hb⟩; unfold lineP; rw [if_pos (by have h := hqt9_1; omega)]; unfold behindP; rw [if_pos (by have h0 := hqt21_1; have h1 := hqt21_3; omega), hon]; exact (app_nil _).symm
      · have hqt21_3b := hqt21_3
        replace hqt21_3 := Bool.eq_false_iff.1 hqt21_3
        try simp only [ne_eq, decide_eq_true_eq, Bool.and_eq_true, Bool.or_eq_true, Bool.not_eq_true', decide_eq_false_iff_not] at hqt21_3
        refine wp_seq_k (fun K13 hK13 => ?_)
        refine wp_region_lit ?_
        refine sqv hf (r_eq rfl rfl) rfl rfl rfl ?_; clear hf fa; intro fa hf
        refine sqv hf (r_assign rfl) rfl rfl rfl ?_; clear hf fa; intro fa hf
        apply wpList_nil
        (try simp only [Exit.then, Exit.inBlock, ↓reduceIte, Nat.reduceEqDiff])
        refine hK13 _ _ ?_
        refine wp_cond_split (t := (decide (((ofP op).1.2.2.1) = (1 : Int)))) (hf.ev rfl) (fun hqt25_1 => ?_) (fun hqt25_1 => ?_)
        · have hqt25_1b := hqt25_1
          try simp only [decide_eq_true_eq, Bool.and_eq_true, Bool.or_eq_true, Bool.not_eq_true', decide_eq_false_iff_not, ne_eq, Bool.not_eq_true] at hqt25_1
          refine wp_seq_k (fun K14 hK14 => ?_)
          refine wp_seq_k (fun K15 hK15 => ?_)
          refine wp_region_lit ?_
          refine sqv hf (r_fa rfl Tryd.underlying25 (f := 1) (q := 1) rfl (by kernel_rfl) rfl) rfl rfl rfl ?_; clear hf fa; intro fa hf
          refine sqv hf (r_load (v := (.int .u64 A)) rfl Tryd.underlying22 rfl (cell_blk hk1 rfl)) rfl rfl rfl ?_; clear hf fa; intro fa hf
          refine sqv hf (r_eq rfl rfl) rfl rfl rfl ?_; clear hf fa; intro fa hf
          apply wpList_nil
          (try simp only [Exit.then, Exit.inBlock, ↓reduceIte, Nat.reduceEqDiff])
          refine hK15 _ _ ?_
          refine wp_cond_split (t := (decide (A = (64 : Int)))) (hf.ev rfl) (fun hqt29_1 => ?_) (fun hqt29_1 => ?_)
          · have hqt29_1b := hqt29_1
            try simp only [decide_eq_true_eq, Bool.and_eq_true, Bool.or_eq_true, Bool.not_eq_true', decide_eq_false_iff_not, ne_eq, Bool.not_eq_true] at hqt29_1
            refine wp_seq_k (fun K16 hK16 => ?_)
            refine wp_region_lit ?_
            refine sqv hf (r_move rfl) rfl rfl rfl ?_; clear hf fa; intro fa hf
            refine sqv hf (r_assign rfl) rfl rfl rfl ?_; clear hf fa; intro fa hf
            apply wpList_nil
            (try simp only [Exit.then, Exit.inBlock, ↓reduceIte, Nat.reduceEqDiff])
            refine hK16 _ _ ?_
            refine wp_ret ?_
            (try simp only [Exit.then, Exit.inBlock])
            refine ret1 hf rfl rfl ?_
            refine ⟨congrArg (fun s => Ending.returned (.string s)) ?_, hb⟩; unfold lineP; rw [if_pos (by have h := hqt9_1; omega)]; unfold behindP; rw [if_neg (by have h0 := hqt21_1; have h1 := hqt21_3; have h2 := hqt25_1; omega), if_pos (by have h0 := hqt21_1; have h1 := hqt21_3; have h2 := hqt25_1; omega), hon]; unfold blkS; rw [if_pos hqt29_1]; exact (app_nil _).symm
          · have hqt29_1b := hqt29_1
            replace hqt29_1 := Bool.eq_false_iff.1 hqt29_1
            try simp only [ne_eq, decide_eq_true_eq, Bool.and_eq_true, Bool.or_eq_true, Bool.not_eq_true', decide_eq_false_iff_not] at hqt29_1
            refine wp_skip ?_
            (try simp only [Exit.then, Exit.inBlock, ↓reduceIte, Nat.reduceEqDiff])
            refine hK14 _ _ ?_
            refine wp_seq_k (fun K17 hK17 => ?_)
            have hro := right_out (op := op) (A := A) (B := B) (n := L.length) (by have h := hqt9_1; omega)
            have hA3 := hro.2.2.2.2.2.1 (by have h := hqt25_1; omega)
            have hA4 : 64 ≤ A ∧ A ≤ 127 := by omega
            have hA5 : A % 256 = A := by omega
            have htl := tname_le A
            refine wp_region_lit ?_
            refine sqv hf (r_move rfl) rfl rfl rfl ?_; clear hf fa; intro fa hf
            refine sqv hf (r_sadd rfl rfl (by have : ((⟨#[32]⟩) : ByteArray).size = 1 := rfl; omega)) rfl rfl rfl ?_; clear hf fa; intro fa hf
            refine sqv hf (r_fa rfl Tryd.underlying25 (f := 1) (q := 1) rfl (by kernel_rfl) rfl) rfl rfl rfl ?_; clear hf fa; intro fa hf
            refine sqv hf (r_load (v := (.int .u64 A)) rfl Tryd.underlying22 rfl (cell_blk hk1 rfl)) rfl rfl rfl ?_; clear hf fa; intro fa hf
            refine sqv hf (r_conv (C := A) rfl Tryd.underlying22 Tryd.underlying3 (by rw [IntKind.wrap_i64]; omega)) rfl rfl rfl ?_; clear hf fa; intro fa hf
            refine sqdt hf (d_callB (vs := [(.int .i64 A)]) rfl Tryd.func23 (by kernel_rfl) (by kernel_rfl) (rname_any A _ (by omega))) rfl rfl rfl ?_; clear hf fa; rintro fa _ w6 ⟨rfl, he5⟩ hf
            replace hk1 := blk_ext hk1 he5
            replace hk3 := blk_ext hk3 he5
            replace hb := hb.trans (Below.mono he5 hb.size)
            refine sqv hf (r_sadd rfl rfl (by have : ((⟨#[32]⟩) : ByteArray).size = 1 := rfl; have := sz_app (ofP op).1.2.1 (⟨#[32]⟩ : ByteArray); omega)) rfl rfl rfl ?_; clear hf fa; intro fa hf
            refine sqv hf (r_assign rfl) rfl rfl rfl ?_; clear hf fa; intro fa hf
            apply wpList_nil
            (try simp only [Exit.then, Exit.inBlock, ↓reduceIte, Nat.reduceEqDiff])
            refine hK17 _ _ ?_
            refine wp_ret ?_
            (try simp only [Exit.then, Exit.inBlock])
            refine ret1 hf rfl rfl ?_
            refine ⟨congrArg (fun s => Ending.returned (.string s)) ?_, hb⟩; unfold lineP; rw [if_pos (by have h := hqt9_1; omega)]; unfold behindP; rw [if_neg (by have h0 := hqt21_1; have h1 := hqt21_3; have h2 := hqt25_1; omega), if_pos (by have h0 := hqt21_1; have h1 := hqt21_3; have h2 := hqt25_1; omega), hon]; unfold blkS; rw [if_neg hqt29_1, hA5, ByteArray.append_assoc]
        · have hqt25_1b := hqt25_1
          replace hqt25_1 := Bool.eq_false_iff.1 hqt25_1
          try simp only [ne_eq, decide_eq_true_eq, Bool.and_eq_true, Bool.or_eq_true, Bool.not_eq_true', decide_eq_false_iff_not] at hqt25_1
          refine wp_seq_k (fun K18 hK18 => ?_)
          refine wp_region_lit ?_
          refine sqv hf (r_eq rfl rfl) rfl rfl rfl ?_; clear hf fa; intro fa hf
          refine sqv hf (r_assign rfl) rfl rfl rfl ?_; clear hf fa; intro fa hf
          apply wpList_nil
          (try simp only [Exit.then, Exit.inBlock, ↓reduceIte, Nat.reduceEqDiff])
          refine hK18 _ _ ?_
          refine wp_cond_split (t := (decide (((ofP op).1.2.2.1) = (3 : Int)))) (hf.ev rfl) (fun hqt38_1 => ?_) (fun hqt38_1 => ?_)
          · have hqt38_1b := hqt38_1
            try simp only [decide_eq_true_eq, Bool.and_eq_true, Bool.or_eq_true, Bool.not_eq_true', decide_eq_false_iff_not, ne_eq, Bool.not_eq_true] at hqt38_1
            refine wp_seq_k (fun K19 hK19 => ?_)
            refine wp_seq_k (fun K20 hK20 => ?_)
            refine wp_region_lit ?_
            refine sqv hf (r_assign rfl) rfl rfl rfl ?_; clear hf fa; intro fa hf
            apply wpList_nil
            (try simp only [Exit.then, Exit.inBlock, ↓reduceIte, Nat.reduceEqDiff])
            refine hK20 _ _ ?_
            refine wp_block ?_
            refine wp_loop_k (fun mq fa wr => ∃ (k : Nat), mq = L.length - k ∧ Fr 93 fa [(1, (.pointer (some ⟨b1, 0, none⟩))), (5, (.string (foldD dS (ofP op).1.2.1 (L.take k)))), (6, (.int .i64 ((k : Nat) : Int)))] ∧ Below w.heap.size w wr ∧ wr.heap[b1]? = some (.cells #[(.int .u8 ((op : Nat) : Int)), (.int .u64 A), (.int .u64 B), (.slice a L.length c)] 25 (0, 0)) ∧ (k ≤ L.length)) ?_ ?_
            · skip
              exact ⟨_, 0, rfl, hf.sub ⟨rfl, (some_str (by first | rfl | assumption | simp)), (some_int (by first | rfl | omega)), trivial⟩, hb, hk1, by omega⟩
            · skip
              clear hf fa; intro mq1 fa w7 hI KL1 hKL1
              clear hb
              clear hk1
              clear hk3
              obtain ⟨k, hmq1, hf, hb, hkb1, hk⟩ := hI
              have hfn := foldD_len (f := dS) (B := 20) (L.take k) ((ofP op).1.2.1) (fun y hy => dS_len (inI_u32 (by have := hL y (List.mem_of_mem_take hy); omega))); rw [List.length_take] at hfn
              have hfm : min k L.length ≤ 100000 := by omega
              have hfq : (foldD dS ((ofP op).1.2.1) (L.take k)).size ≤ 3000000 := by have hz : (ofP op).1.2.1.size ≤ 24 := hon2; omega
              refine wp_seq_k (fun K21 hK21 => ?_)
              refine wp_seq_k (fun K22 hK22 => ?_)
              refine wp_region_lit ?_
              refine sqv hf (r_move rfl) rfl rfl rfl ?_; clear hf fa; intro fa hf
              refine sqv hf (r_fa rfl Tryd.underlying25 (f := 3) (q := 3) rfl (by kernel_rfl) rfl) rfl rfl rfl ?_; clear hf fa; intro fa hf
              refine sqv hf (r_load (v := (.slice a L.length c)) rfl Tryd.underlying23 rfl (cell_blk hkb1 rfl)) rfl rfl rfl ?_; clear hf fa; intro fa hf
              refine sqv hf (r_lensl rfl Tryd.underlying23) rfl rfl rfl ?_; clear hf fa; intro fa hf
              refine sqv hf (r_lt rfl rfl) rfl rfl rfl ?_; clear hf fa; intro fa hf
              apply wpList_nil
              (try simp only [Exit.then, Exit.inBlock, ↓reduceIte, Nat.reduceEqDiff])
              refine hK22 _ _ ?_
              refine wp_cond_split (t := (decide (((k : Nat) : Int) < ((L.length : Nat) : Int)))) (hf.ev rfl) (fun hqt44_1 => ?_) (fun hqt44_1 => ?_)
              · have hqt44_1b := hqt44_1
                try simp only [decide_eq_true_eq, Bool.and_eq_true, Bool.or_eq_true, Bool.not_eq_true', decide_eq_false_iff_not, ne_eq, Bool.not_eq_true] at hqt44_1
                refine wp_skip ?_
                (try simp only [Exit.then, Exit.inBlock, ↓reduceIte, Nat.reduceEqDiff])
                refine hK21 _ _ ?_
                refine wp_seq_k (fun K23 hK23 => ?_)
                refine wp_block ?_
                obtain ⟨y, hy⟩ : ∃ y, L[k]? = some y := ⟨_, List.getElem?_eq_getElem (by omega)⟩
                have hyr := hL y (List.mem_of_getElem? hy)
                have hyl := dS_len (n := y) (inI_u32 (by omega))
                have hsy : sA y = y := by unfold sA; rw [if_pos (by omega)]
                have hst5 := foldD_snoc2 (f := dS) (s := ((ofP op).1.2.1)) hy
                refine wp_region_lit ?_
                refine sqv hf (r_move rfl) rfl rfl rfl ?_; clear hf fa; intro fa hf
                refine sqv hf (r_sadd rfl rfl (by have : ((⟨#[32]⟩) : ByteArray).size = 1 := rfl; omega)) rfl rfl rfl ?_; clear hf fa; intro fa hf
                refine sqv hf (r_fa rfl Tryd.underlying25 (f := 3) (q := 3) rfl (by kernel_rfl) rfl) rfl rfl rfl ?_; clear hf fa; intro fa hf
                refine sqv hf (r_load (v := (.slice a L.length c)) rfl Tryd.underlying23 rfl (cell_blk hkb1 rfl)) rfl rfl rfl ?_; clear hf fa; intro fa hf
                refine sqv hf (r_move rfl) rfl rfl rfl ?_; clear hf fa; intro fa hf
                have hy1 : (L)[k]? = some y := hy
                obtain ⟨ab1, aoff1, hat1, hlb1, hel1⟩ := RdS.at hl hy1
                refine sqv hf (r_ixa (sz := 1) (j := k) (evAt rfl hat1) rfl Tryd.underlying23 (by kernel_rfl) rfl (by omega) rfl) rfl rfl rfl ?_; clear hf fa; intro fa hf
                refine sqv hf (r_load (v := (.int .u32 y)) rfl Tryd.underlying62 rfl (cellsAt_cell (cellsAt_below hel1 hb hlb1) (i := 0) rfl rfl)) rfl rfl rfl ?_; clear hf fa; intro fa hf
                refine sqv hf (r_conv (C := y) rfl Tryd.underlying62 Tryd.underlying22 (by rw [IntKind.wrap_u64]; omega)) rfl rfl rfl ?_; clear hf fa; intro fa hf
                refine sqdt hf (d_callB (vs := [(.int .u64 y)]) rfl Tryd.func24 (by kernel_rfl) (by kernel_rfl) (num46u y _ hyr)) rfl rfl rfl ?_; clear hf fa; rintro fa _ w8 ⟨rfl, he6⟩ hf
                replace hkb1 := blk_ext hkb1 he6
                replace hb := hb.trans (Below.mono he6 hb.size)
                refine sqv hf (r_sadd rfl rfl (by have : ((⟨#[32]⟩) : ByteArray).size = 1 := rfl; have := sz_app (foldD dS (ofP op).1.2.1 (L.take k)) (⟨#[32]⟩ : ByteArray); omega)) rfl rfl rfl ?_; clear hf fa; intro fa hf
                refine sqv hf (r_assign rfl) rfl rfl rfl ?_; clear hf fa; intro fa hf
                apply wpList_nil
                (try simp only [Exit.then, Exit.inBlock, ↓reduceIte, Nat.reduceEqDiff])
                refine hK23 _ _ ?_
                refine wp_region_lit ?_
                refine sqv hf (r_move rfl) rfl rfl rfl ?_; clear hf fa; intro fa hf
                refine sqv hf (r_add (C := (((k : Nat) : Int) + (1 : Int))) rfl rfl (by rw [IntKind.wrap_i64]; omega)) rfl rfl rfl ?_; clear hf fa; intro fa hf
                refine sqv hf (r_assign rfl) rfl rfl rfl ?_; clear hf fa; intro fa hf
                apply wpList_nil
                (try simp only [Exit.then, Exit.inBlock, ↓reduceIte, Nat.reduceEqDiff])
                refine hKL1 _ _ _ (by omega) ⟨(k + 1), rfl, hf.sub ⟨rfl, (some_str (by first | rfl | assumption | simp)), (some_int (by first | rfl | omega)), trivial⟩, hb, hkb1, by omega⟩
              · have hqt44_1b := hqt44_1
                replace hqt44_1 := Bool.eq_false_iff.1 hqt44_1
                try simp only [ne_eq, decide_eq_true_eq, Bool.and_eq_true, Bool.or_eq_true, Bool.not_eq_true', decide_eq_false_iff_not] at hqt44_1
                refine wp_exit ?_
                (try simp only [Exit.then, Exit.inBlock, ↓reduceIte, Nat.reduceEqDiff])
                refine hK19 _ _ ?_
                refine wp_seq_k (fun K24 hK24 => ?_)
                refine wp_region_lit ?_
                refine sqv hf (r_move rfl) rfl rfl rfl ?_; clear hf fa; intro fa hf
                refine sqv hf (r_sadd rfl rfl (by have : ((⟨#[32]⟩) : ByteArray).size = 1 := rfl; omega)) rfl rfl rfl ?_; clear hf fa; intro fa hf
                refine sqv hf (r_fa rfl Tryd.underlying25 (f := 1) (q := 1) rfl (by kernel_rfl) rfl) rfl rfl rfl ?_; clear hf fa; intro fa hf
                refine sqv hf (r_load (v := (.int .u64 A)) rfl Tryd.underlying22 rfl (cell_blk hkb1 rfl)) rfl rfl rfl ?_; clear hf fa; intro fa hf
                refine sqdt hf (d_callB (vs := [(.int .u64 A)]) rfl Tryd.func24 (by kernel_rfl) (by kernel_rfl) (num46_any A _ (by omega))) rfl rfl rfl ?_; clear hf fa; rintro fa _ w9 ⟨rfl, he7⟩ hf
                replace hkb1 := blk_ext hkb1 he7
                replace hb := hb.trans (Below.mono he7 hb.size)
                refine sqv hf (r_sadd rfl rfl (by have : ((⟨#[32]⟩) : ByteArray).size = 1 := rfl; have := sz_app (foldD dS (ofP op).1.2.1 (L.take k)) (⟨#[32]⟩ : ByteArray); omega)) rfl rfl rfl ?_; clear hf fa; intro fa hf
                refine sqv hf (r_assign rfl) rfl rfl rfl ?_; clear hf fa; intro fa hf
                apply wpList_nil
                (try simp only [Exit.then, Exit.inBlock, ↓reduceIte, Nat.reduceEqDiff])
                refine hK24 _ _ ?_
                refine wp_ret ?_
                (try simp only [Exit.then, Exit.inBlock])
                refine ret1 hf rfl rfl ?_
                refine ⟨congrArg (fun s => Ending.returned (.string s)) ?_, hb⟩; unfold lineP; rw [if_pos (by have h := hqt9_1; omega)]; unfold behindP; rw [if_neg (by have h0 := hqt21_1; have h1 := hqt21_3; have h2 := hqt25_1; have h3 := hqt38_1; omega), if_neg (by have h0 := hqt21_1; have h1 := hqt21_3; have h2 := hqt25_1; have h3 := hqt38_1; omega), if_pos (by have h0 := hqt21_1; have h1 := hqt21_3; have h2 := hqt25_1; have h3 := hqt38_1; omega), hon]; rw [List.take_of_length_le (by omega)]; rw [show foldD dS (nmO op) L = nmO op ++ foldD dS (⟨#[]⟩ : ByteArray) L by rw [← foldD_base, app_nil]]; simp only [ByteArray.append_assoc]
          · have hqt38_1b := hqt38_1
            replace hqt38_1 := Bool.eq_false_iff.1 hqt38_1
            try simp only [ne_eq, decide_eq_true_eq, Bool.and_eq_true, Bool.or_eq_true, Bool.not_eq_true', decide_eq_false_iff_not] at hqt38_1
            refine wp_seq_k (fun K25 hK25 => ?_)
            refine wp_region_lit ?_
            refine sqv hf (r_eq rfl rfl) rfl rfl rfl ?_; clear hf fa; intro fa hf
            refine sqv hf (r_assign rfl) rfl rfl rfl ?_; clear hf fa; intro fa hf
            apply wpList_nil
            (try simp only [Exit.then, Exit.inBlock, ↓reduceIte, Nat.reduceEqDiff])
            refine hK25 _ _ ?_
            refine wp_cond_split (t := (decide (((ofP op).1.2.2.1) = (8 : Int)))) (hf.ev rfl) (fun hqt63_1 => ?_) (fun hqt63_1 => ?_)
            · have hqt63_1b := hqt63_1
              try simp only [decide_eq_true_eq, Bool.and_eq_true, Bool.or_eq_true, Bool.not_eq_true', decide_eq_false_iff_not, ne_eq, Bool.not_eq_true] at hqt63_1
              refine wp_seq_k (fun K26 hK26 => ?_)
              refine wp_region_un (fun wq => Below w5.heap.size w5 wq) (fun w w' => Below w.heap.size w w')
                (fun V => [(fun x _ => x = (.string (ofP op).1.2.1)), (fun x _ => x = (.string ((ofP op).1.2.1 ++ (⟨#[32, 97, 108, 105, 103, 110, 61]⟩ : ByteArray)))), (fun x _ => x = (.pointer (some ⟨b1, 1, none⟩))), (fun x _ => x = (.int .u64 A)), (fun x _ => x = (.string (dS (sA A)))), (fun x _ => x = (.string (((ofP op).1.2.1 ++ (⟨#[32, 97, 108, 105, 103, 110, 61]⟩ : ByteArray)) ++ (dS (sA A))))), (fun x _ => x = (.string ((((ofP op).1.2.1 ++ (⟨#[32, 97, 108, 105, 103, 110, 61]⟩ : ByteArray)) ++ (dS (sA A))) ++ (⟨#[32, 111, 102, 102, 115, 101, 116, 61]⟩ : ByteArray)))), (fun x _ => x = (.pointer (some ⟨b1, 2, none⟩))), (fun x _ => x = (.int .u64 B)), (fun x _ => x = (.string (dS (sA B)))), (fun x _ => x = (.string (((((ofP op).1.2.1 ++ (⟨#[32, 97, 108, 105, 103, 110, 61]⟩ : ByteArray)) ++ (dS (sA A))) ++ (⟨#[32, 111, 102, 102, 115, 101, 116, 61]⟩ : ByteArray)) ++ (dS (sA B))))), (fun x _ => x = (.string (((((ofP op).1.2.1 ++ (⟨#[32, 97, 108, 105, 103, 110, 61]⟩ : ByteArray)) ++ (dS (sA A))) ++ (⟨#[32, 111, 102, 102, 115, 101, 116, 61]⟩ : ByteArray)) ++ (dS (sA B)))))])
                []
                [[], [0], [], [2], [3], [1, 4], [5], [], [7], [4, 8], [6, 9], [0, 1, 2, 3, 4, 5, 6, 7, 8, 9, 10]]
                hf (by kernel_rfl) (by kernel_rfl) (fun _ => rfl) ((Below.refl _ _).drew) (fun a b h1 h2 => h1.trans (h2.mono h1.size)) (fun _ _ h => h.size) (fun V => ⟨kept_eq, kept_eq, kept_eq, kept_eq, kept_eq, kept_eq, kept_eq, kept_eq, kept_eq, kept_eq, kept_eq, kept_eq, trivial⟩) (fun _ _ _ _ _ => rfl) ?_ ?_
              · skip
                intro V
                refine ⟨fun wu0 hC hd => ?_, ?_⟩
                · clear hd
                  replace hb := hb.trans (hC.mono hb.size)
                  replace hk1 := blk_ext hk1 hC
                  replace hk3 := blk_ext hk3 hC
                  exact Runs.does (r_move rfl) ⟨Below.refl _ _, rfl, nofr rfl⟩
                refine ⟨fun wu1 hC hd => ?_, ?_⟩
                · obtain ⟨h0, _⟩ := hd
                  skip
                  replace h0 : V 0 = (.string (ofP op).1.2.1) := h0
                  replace hb := hb.trans (hC.mono hb.size)
                  replace hk1 := blk_ext hk1 hC
                  replace hk3 := blk_ext hk3 hC
                  exact Runs.does (r_sadd (congrArg some h0) rfl (by have : ((⟨#[32, 97, 108, 105, 103, 110, 61]⟩) : ByteArray).size = 7 := rfl; omega)) ⟨Below.refl _ _, rfl, nofr rfl⟩
                refine ⟨fun wu2 hC hd => ?_, ?_⟩
                · clear hd
                  replace hb := hb.trans (hC.mono hb.size)
                  replace hk1 := blk_ext hk1 hC
                  replace hk3 := blk_ext hk3 hC
                  exact Runs.does (r_fa rfl Tryd.underlying25 (f := 1) (q := 1) rfl (by kernel_rfl) rfl) ⟨Below.refl _ _, rfl, nofr rfl⟩
                refine ⟨fun wu3 hC hd => ?_, ?_⟩
                · obtain ⟨h2, _⟩ := hd
                  skip
                  replace h2 : V 2 = (.pointer (some ⟨b1, 1, none⟩)) := h2
                  replace hb := hb.trans (hC.mono hb.size)
                  replace hk1 := blk_ext hk1 hC
                  replace hk3 := blk_ext hk3 hC
                  exact Runs.does (r_load (v := (.int .u64 A)) (congrArg some h2) Tryd.underlying22 rfl (cell_blk hk1 rfl)) ⟨Below.refl _ _, rfl, nofr rfl⟩
                refine ⟨fun wu4 hC hd => ?_, ?_⟩
                · obtain ⟨h3, _⟩ := hd
                  skip
                  replace h3 : V 3 = (.int .u64 A) := h3
                  replace hb := hb.trans (hC.mono hb.size)
                  replace hk1 := blk_ext hk1 hC
                  replace hk3 := blk_ext hk3 hC
                  refine Does.mono (d_callB (vs := [(.int .u64 A)]) (show [some (V 3)] = [some (.int .u64 A)] from by rw [h3]) Tryd.func24 (by kernel_rfl) (by kernel_rfl) (num46_any A _ (by omega))) (fun _ _ h => ⟨h.2, h.1, nofr rfl⟩)
                refine ⟨fun wu5 hC hd => ?_, ?_⟩
                · obtain ⟨h1, h4, _⟩ := hd
                  skip
                  skip
                  replace h1 : V 1 = (.string ((ofP op).1.2.1 ++ (⟨#[32, 97, 108, 105, 103, 110, 61]⟩ : ByteArray))) := h1
                  replace h4 : V 4 = (.string (dS (sA A))) := h4
                  replace hb := hb.trans (hC.mono hb.size)
                  replace hk1 := blk_ext hk1 hC
                  replace hk3 := blk_ext hk3 hC
                  exact Runs.does (r_sadd (congrArg some h1) (congrArg some h4) (by have : ((⟨#[32, 97, 108, 105, 103, 110, 61]⟩) : ByteArray).size = 7 := rfl; have := sz_app (ofP op).1.2.1 (⟨#[32, 97, 108, 105, 103, 110, 61]⟩ : ByteArray); omega)) ⟨Below.refl _ _, rfl, nofr rfl⟩
                refine ⟨fun wu6 hC hd => ?_, ?_⟩
                · obtain ⟨h5, _⟩ := hd
                  skip
                  replace h5 : V 5 = (.string (((ofP op).1.2.1 ++ (⟨#[32, 97, 108, 105, 103, 110, 61]⟩ : ByteArray)) ++ (dS (sA A)))) := h5
                  replace hb := hb.trans (hC.mono hb.size)
                  replace hk1 := blk_ext hk1 hC
                  replace hk3 := blk_ext hk3 hC
                  exact Runs.does (r_sadd (congrArg some h5) rfl (by have : ((⟨#[32, 97, 108, 105, 103, 110, 61]⟩) : ByteArray).size = 7 := rfl; have := sz_app (ofP op).1.2.1 (⟨#[32, 97, 108, 105, 103, 110, 61]⟩ : ByteArray); have := sz_app ((ofP op).1.2.1 ++ (⟨#[32, 97, 108, 105, 103, 110, 61]⟩ : ByteArray)) (dS (sA A)); have : ((⟨#[32, 111, 102, 102, 115, 101, 116, 61]⟩) : ByteArray).size = 8 := rfl; omega)) ⟨Below.refl _ _, rfl, nofr rfl⟩
                refine ⟨fun wu7 hC hd => ?_, ?_⟩
                · clear hd
                  replace hb := hb.trans (hC.mono hb.size)
                  replace hk1 := blk_ext hk1 hC
                  replace hk3 := blk_ext hk3 hC
                  exact Runs.does (r_fa rfl Tryd.underlying25 (f := 2) (q := 2) rfl (by kernel_rfl) rfl) ⟨Below.refl _ _, rfl, nofr rfl⟩
                refine ⟨fun wu8 hC hd => ?_, ?_⟩
                · obtain ⟨h7, _⟩ := hd
                  skip
                  replace h7 : V 7 = (.pointer (some ⟨b1, 2, none⟩)) := h7
                  replace hb := hb.trans (hC.mono hb.size)
                  replace hk1 := blk_ext hk1 hC
                  replace hk3 := blk_ext hk3 hC
                  exact Runs.does (r_load (v := (.int .u64 B)) (congrArg some h7) Tryd.underlying22 rfl (cell_blk hk1 rfl)) ⟨Below.refl _ _, rfl, nofr rfl⟩
                refine ⟨fun wu9 hC hd => ?_, ?_⟩
                · obtain ⟨h4, h8, _⟩ := hd
                  skip
                  skip
                  replace h4 : V 4 = (.string (dS (sA A))) := h4
                  replace h8 : V 8 = (.int .u64 B) := h8
                  replace hb := hb.trans (hC.mono hb.size)
                  replace hk1 := blk_ext hk1 hC
                  replace hk3 := blk_ext hk3 hC
                  refine Does.mono (d_callB (vs := [(.int .u64 B)]) (show [some (V 8)] = [some (.int .u64 B)] from by rw [h8]) Tryd.func24 (by kernel_rfl) (by kernel_rfl) (num46_any B _ (by omega))) (fun _ _ h => ⟨h.2, h.1, nofr rfl⟩)
                refine ⟨fun wu10 hC hd => ?_, ?_⟩
                · obtain ⟨h6, h9, _⟩ := hd
                  skip
                  skip
                  replace h6 : V 6 = (.string ((((ofP op).1.2.1 ++ (⟨#[32, 97, 108, 105, 103, 110, 61]⟩ : ByteArray)) ++ (dS (sA A))) ++ (⟨#[32, 111, 102, 102, 115, 101, 116, 61]⟩ : ByteArray))) := h6
                  replace h9 : V 9 = (.string (dS (sA B))) := h9
                  replace hb := hb.trans (hC.mono hb.size)
                  replace hk1 := blk_ext hk1 hC
                  replace hk3 := blk_ext hk3 hC
                  exact Runs.does (r_sadd (congrArg some h6) (congrArg some h9) (by have : ((⟨#[32, 97, 108, 105, 103, 110, 61]⟩) : ByteArray).size = 7 := rfl; have := sz_app (ofP op).1.2.1 (⟨#[32, 97, 108, 105, 103, 110, 61]⟩ : ByteArray); have := sz_app ((ofP op).1.2.1 ++ (⟨#[32, 97, 108, 105, 103, 110, 61]⟩ : ByteArray)) (dS (sA A)); have : ((⟨#[32, 111, 102, 102, 115, 101, 116, 61]⟩) : ByteArray).size = 8 := rfl; have := sz_app (((ofP op).1.2.1 ++ (⟨#[32, 97, 108, 105, 103, 110, 61]⟩ : ByteArray)) ++ (dS (sA A))) (⟨#[32, 111, 102, 102, 115, 101, 116, 61]⟩ : ByteArray); omega)) ⟨Below.refl _ _, rfl, nofr rfl⟩
                refine ⟨fun wu11 hC hd => ?_, ?_⟩
                · obtain ⟨h0, h1, h2, h3, h4, h5, h6, h7, h8, h9, h10, _⟩ := hd
                  skip
                  skip
                  skip
                  skip
                  skip
                  skip
                  skip
                  skip
                  skip
                  skip
                  skip
                  replace h0 : V 0 = (.string (ofP op).1.2.1) := h0
                  replace h1 : V 1 = (.string ((ofP op).1.2.1 ++ (⟨#[32, 97, 108, 105, 103, 110, 61]⟩ : ByteArray))) := h1
                  replace h2 : V 2 = (.pointer (some ⟨b1, 1, none⟩)) := h2
                  replace h3 : V 3 = (.int .u64 A) := h3
                  replace h4 : V 4 = (.string (dS (sA A))) := h4
                  replace h5 : V 5 = (.string (((ofP op).1.2.1 ++ (⟨#[32, 97, 108, 105, 103, 110, 61]⟩ : ByteArray)) ++ (dS (sA A)))) := h5
                  replace h6 : V 6 = (.string ((((ofP op).1.2.1 ++ (⟨#[32, 97, 108, 105, 103, 110, 61]⟩ : ByteArray)) ++ (dS (sA A))) ++ (⟨#[32, 111, 102, 102, 115, 101, 116, 61]⟩ : ByteArray))) := h6
                  replace h7 : V 7 = (.pointer (some ⟨b1, 2, none⟩)) := h7
                  replace h8 : V 8 = (.int .u64 B) := h8
                  replace h9 : V 9 = (.string (dS (sA B))) := h9
                  replace h10 : V 10 = (.string (((((ofP op).1.2.1 ++ (⟨#[32, 97, 108, 105, 103, 110, 61]⟩ : ByteArray)) ++ (dS (sA A))) ++ (⟨#[32, 111, 102, 102, 115, 101, 116, 61]⟩ : ByteArray)) ++ (dS (sA B)))) := h10
                  replace hb := hb.trans (hC.mono hb.size)
                  replace hk1 := blk_ext hk1 hC
                  replace hk3 := blk_ext hk3 hC
                  exact Runs.does (r_assign (congrArg some h10)) ⟨Below.refl _ _, rfl, nofr rfl⟩
                trivial
              · skip
                clear hf fa; intro V w10 fa he8 hp hnb hf
                have hv0 : V 0 = (.string (ofP op).1.2.1) := postsHold_at hp 0 rfl
                have hv1 : V 1 = (.string ((ofP op).1.2.1 ++ (⟨#[32, 97, 108, 105, 103, 110, 61]⟩ : ByteArray))) := postsHold_at hp 1 rfl
                have hv2 : V 2 = (.pointer (some ⟨b1, 1, none⟩)) := postsHold_at hp 2 rfl
                have hv3 : V 3 = (.int .u64 A) := postsHold_at hp 3 rfl
                have hv4 : V 4 = (.string (dS (sA A))) := postsHold_at hp 4 rfl
                have hv5 : V 5 = (.string (((ofP op).1.2.1 ++ (⟨#[32, 97, 108, 105, 103, 110, 61]⟩ : ByteArray)) ++ (dS (sA A)))) := postsHold_at hp 5 rfl
                have hv6 : V 6 = (.string ((((ofP op).1.2.1 ++ (⟨#[32, 97, 108, 105, 103, 110, 61]⟩ : ByteArray)) ++ (dS (sA A))) ++ (⟨#[32, 111, 102, 102, 115, 101, 116, 61]⟩ : ByteArray))) := postsHold_at hp 6 rfl
                have hv7 : V 7 = (.pointer (some ⟨b1, 2, none⟩)) := postsHold_at hp 7 rfl
                have hv8 : V 8 = (.int .u64 B) := postsHold_at hp 8 rfl
                have hv9 : V 9 = (.string (dS (sA B))) := postsHold_at hp 9 rfl
                have hv10 : V 10 = (.string (((((ofP op).1.2.1 ++ (⟨#[32, 97, 108, 105, 103, 110, 61]⟩ : ByteArray)) ++ (dS (sA A))) ++ (⟨#[32, 111, 102, 102, 115, 101, 116, 61]⟩ : ByteArray)) ++ (dS (sA B)))) := postsHold_at hp 10 rfl
                have hv11 : V 11 = (.string (((((ofP op).1.2.1 ++ (⟨#[32, 97, 108, 105, 103, 110, 61]⟩ : ByteArray)) ++ (dS (sA A))) ++ (⟨#[32, 111, 102, 102, 115, 101, 116, 61]⟩ : ByteArray)) ++ (dS (sA B)))) := postsHold_at hp 11 rfl
                simp only [List.take_succ_cons, List.take_zero, insAll, ins, hv0, hv1, hv2, hv3, hv4, hv5, hv6, hv7, hv8, hv9, hv10, hv11] at hf
                clear hp hnb hv0 hv1 hv2 hv3 hv4 hv5 hv6 hv7 hv8 hv9 hv10 hv11
                replace hk1 := blk_ext hk1 he8
                replace hk3 := blk_ext hk3 he8
                replace hb := hb.trans (Below.mono he8 hb.size)
                (try simp only [Exit.then, Exit.inBlock, ↓reduceIte, Nat.reduceEqDiff])
                refine hK26 _ _ ?_
                refine wp_ret ?_
                (try simp only [Exit.then, Exit.inBlock])
                refine ret1 hf rfl rfl ?_
                refine ⟨congrArg (fun s => Ending.returned (.string s)) ?_, hb⟩; unfold lineP; rw [if_pos (by have h := hqt9_1; omega)]; unfold behindP; rw [if_neg (by have h0 := hqt21_1; have h1 := hqt21_3; have h2 := hqt25_1; have h3 := hqt38_1; have h4 := hqt63_1; omega), if_neg (by have h0 := hqt21_1; have h1 := hqt21_3; have h2 := hqt25_1; have h3 := hqt38_1; have h4 := hqt63_1; omega), if_neg (by have h0 := hqt21_1; have h1 := hqt21_3; have h2 := hqt25_1; have h3 := hqt38_1; have h4 := hqt63_1; omega), if_pos (by have h0 := hqt21_1; have h1 := hqt21_3; have h2 := hqt25_1; have h3 := hqt38_1; have h4 := hqt63_1; omega), hon]; simp only [ByteArray.append_assoc]
            · have hqt63_1b := hqt63_1
              replace hqt63_1 := Bool.eq_false_iff.1 hqt63_1
              try simp only [ne_eq, decide_eq_true_eq, Bool.and_eq_true, Bool.or_eq_true, Bool.not_eq_true', decide_eq_false_iff_not] at hqt63_1
              refine wp_seq_k (fun K27 hK27 => ?_)
              refine wp_region_lit ?_
              refine sqv hf (r_eq rfl rfl) rfl rfl rfl ?_; clear hf fa; intro fa hf
              refine sqv hf (r_assign rfl) rfl rfl rfl ?_; clear hf fa; intro fa hf
              apply wpList_nil
              (try simp only [Exit.then, Exit.inBlock, ↓reduceIte, Nat.reduceEqDiff])
              refine hK27 _ _ ?_
              refine wp_cond_split (t := (decide (((ofP op).1.2.2.1) = (10 : Int)))) (hf.ev rfl) (fun hqt76_1 => ?_) (fun hqt76_1 => ?_)
              · have hqt76_1b := hqt76_1
                try simp only [decide_eq_true_eq, Bool.and_eq_true, Bool.or_eq_true, Bool.not_eq_true', decide_eq_false_iff_not, ne_eq, Bool.not_eq_true] at hqt76_1
                refine wp_seq_k (fun K28 hK28 => ?_)
                refine wp_region_lit ?_
                refine sqv hf (r_move rfl) rfl rfl rfl ?_; clear hf fa; intro fa hf
                refine sqv hf (r_sadd rfl rfl (by have : ((⟨#[32]⟩) : ByteArray).size = 1 := rfl; omega)) rfl rfl rfl ?_; clear hf fa; intro fa hf
                refine sqv hf (r_fa rfl Tryd.underlying25 (f := 1) (q := 1) rfl (by kernel_rfl) rfl) rfl rfl rfl ?_; clear hf fa; intro fa hf
                refine sqv hf (r_load (v := (.int .u64 A)) rfl Tryd.underlying22 rfl (cell_blk hk1 rfl)) rfl rfl rfl ?_; clear hf fa; intro fa hf
                refine sqv hf (r_conv (C := ((A % 4294967296))) rfl Tryd.underlying22 Tryd.underlying62 (by rw [IntKind.wrap_u32])) rfl rfl rfl ?_; clear hf fa; intro fa hf
                refine sqv hf (r_conv (C := ((s32 A))) rfl Tryd.underlying62 Tryd.underlying21 (by unfold s32; rw [IntKind.wrap_i32]; split <;> omega)) rfl rfl rfl ?_; clear hf fa; intro fa hf
                refine sqv hf (r_conv (C := ((s32 A))) rfl Tryd.underlying21 Tryd.underlying3 (by have := inI_s32 A; unfold inI at this; rw [IntKind.wrap_i64]; omega)) rfl rfl rfl ?_; clear hf fa; intro fa hf
                refine sqdt hf (d_callB (vs := [(.int .i64 ((s32 A)))]) rfl Tryd.func25 (by kernel_rfl) (by kernel_rfl) (rdigits_any ((s32 A)) _ (by first | exact inI_sA (by omega) | exact inI_s32 _))) rfl rfl rfl ?_; clear hf fa; rintro fa _ w11 ⟨rfl, he9⟩ hf
                replace hk1 := blk_ext hk1 he9
                replace hk3 := blk_ext hk3 he9
                replace hb := hb.trans (Below.mono he9 hb.size)
                refine sqv hf (r_sadd rfl rfl (by have : ((⟨#[32]⟩) : ByteArray).size = 1 := rfl; have := sz_app (ofP op).1.2.1 (⟨#[32]⟩ : ByteArray); omega)) rfl rfl rfl ?_; clear hf fa; intro fa hf
                refine sqv hf (r_assign rfl) rfl rfl rfl ?_; clear hf fa; intro fa hf
                apply wpList_nil
                (try simp only [Exit.then, Exit.inBlock, ↓reduceIte, Nat.reduceEqDiff])
                refine hK28 _ _ ?_
                refine wp_ret ?_
                (try simp only [Exit.then, Exit.inBlock])
                refine ret1 hf rfl rfl ?_
                refine ⟨congrArg (fun s => Ending.returned (.string s)) ?_, hb⟩; unfold lineP; rw [if_pos (by have h := hqt9_1; omega)]; unfold behindP; rw [if_neg (by have h0 := hqt21_1; have h1 := hqt21_3; have h2 := hqt25_1; have h3 := hqt38_1; have h4 := hqt63_1; have h5 := hqt76_1; omega), if_neg (by have h0 := hqt21_1; have h1 := hqt21_3; have h2 := hqt25_1; have h3 := hqt38_1; have h4 := hqt63_1; have h5 := hqt76_1; omega), if_neg (by have h0 := hqt21_1; have h1 := hqt21_3; have h2 := hqt25_1; have h3 := hqt38_1; have h4 := hqt63_1; have h5 := hqt76_1; omega), if_neg (by have h0 := hqt21_1; have h1 := hqt21_3; have h2 := hqt25_1; have h3 := hqt38_1; have h4 := hqt63_1; have h5 := hqt76_1; omega), if_pos (by have h0 := hqt21_1; have h1 := hqt21_3; have h2 := hqt25_1; have h3 := hqt38_1; have h4 := hqt63_1; have h5 := hqt76_1; omega), hon]; simp only [ByteArray.append_assoc]
              · have hqt76_1b := hqt76_1
                replace hqt76_1 := Bool.eq_false_iff.1 hqt76_1
                try simp only [ne_eq, decide_eq_true_eq, Bool.and_eq_true, Bool.or_eq_true, Bool.not_eq_true', decide_eq_false_iff_not] at hqt76_1
                refine wp_skip ?_
                (try simp only [Exit.then, Exit.inBlock, ↓reduceIte, Nat.reduceEqDiff])
                refine hK7 _ _ ?_
                refine wp_seq_k (fun K29 hK29 => ?_)
                refine wp_region_lit ?_
                refine sqv hf (r_move rfl) rfl rfl rfl ?_; clear hf fa; intro fa hf
                refine sqv hf (r_sadd rfl rfl (by have : ((⟨#[32]⟩) : ByteArray).size = 1 := rfl; omega)) rfl rfl rfl ?_; clear hf fa; intro fa hf
                refine sqv hf (r_fa rfl Tryd.underlying25 (f := 1) (q := 1) rfl (by kernel_rfl) rfl) rfl rfl rfl ?_; clear hf fa; intro fa hf
                refine sqv hf (r_load (v := (.int .u64 A)) rfl Tryd.underlying22 rfl (cell_blk hk1 rfl)) rfl rfl rfl ?_; clear hf fa; intro fa hf
                refine sqdt hf (d_callB (vs := [(.int .u64 A)]) rfl Tryd.func24 (by kernel_rfl) (by kernel_rfl) (num46_any A _ (by omega))) rfl rfl rfl ?_; clear hf fa; rintro fa _ w12 ⟨rfl, he10⟩ hf
                replace hk1 := blk_ext hk1 he10
                replace hk3 := blk_ext hk3 he10
                replace hb := hb.trans (Below.mono he10 hb.size)
                refine sqv hf (r_sadd rfl rfl (by have : ((⟨#[32]⟩) : ByteArray).size = 1 := rfl; have := sz_app (ofP op).1.2.1 (⟨#[32]⟩ : ByteArray); omega)) rfl rfl rfl ?_; clear hf fa; intro fa hf
                refine sqv hf (r_assign rfl) rfl rfl rfl ?_; clear hf fa; intro fa hf
                apply wpList_nil
                (try simp only [Exit.then, Exit.inBlock, ↓reduceIte, Nat.reduceEqDiff])
                refine hK29 _ _ ?_
                refine wp_ret ?_
                (try simp only [Exit.then, Exit.inBlock])
                refine ret1 hf rfl rfl ?_
                refine ⟨congrArg (fun s => Ending.returned (.string s)) ?_, hb⟩; unfold lineP; rw [if_pos (by have h := hqt9_1; omega)]; unfold behindP; rw [if_neg (by have h0 := hqt21_1; have h1 := hqt21_3; have h2 := hqt25_1; have h3 := hqt38_1; have h4 := hqt63_1; have h5 := hqt76_1; omega), if_neg (by have h0 := hqt21_1; have h1 := hqt21_3; have h2 := hqt25_1; have h3 := hqt38_1; have h4 := hqt63_1; have h5 := hqt76_1; omega), if_neg (by have h0 := hqt21_1; have h1 := hqt21_3; have h2 := hqt25_1; have h3 := hqt38_1; have h4 := hqt63_1; have h5 := hqt76_1; omega), if_neg (by have h0 := hqt21_1; have h1 := hqt21_3; have h2 := hqt25_1; have h3 := hqt38_1; have h4 := hqt63_1; have h5 := hqt76_1; omega), if_neg (by have h0 := hqt21_1; have h1 := hqt21_3; have h2 := hqt25_1; have h3 := hqt38_1; have h4 := hqt63_1; have h5 := hqt76_1; omega), hon]; simp only [ByteArray.append_assoc]
end Go.Proofs.YtpalmpfkliepfaaDoor

namespace Go.Proofs.YtpalmpfkliepfaaDoor
open Go.RowKit Ut
set_option linter.unusedVariables false
set_option linter.unusedSimpArgs false
attribute [local irreducible] infP ofP chkP rchkP

theorem idx_split : ∀ (l : List Nat), l.idxOf 32 < l.length → l = l.take (l.idxOf 32) ++ 32 :: l.drop (l.idxOf 32 + 1) ∧ ∀ c ∈ l.take (l.idxOf 32), c ≠ 32
  | [], h => by cases h
  | c :: l, h => by
    rw [List.idxOf_cons] at h ⊢
    by_cases hc : c = 32
    · subst hc
      simp
    · have h1 : (c == 32) = false := by simp [hc]
      rw [h1] at h ⊢
      simp only [cond_false, Bool.false_eq_true, if_false, List.length_cons] at h ⊢
      have ih := idx_split l (by omega)
      refine ⟨?_, fun d hd => ?_⟩
      · rw [List.take_succ_cons, List.drop_succ_cons, List.cons_append, ← ih.1]
      · rw [List.take_succ_cons] at hd
        rcases List.mem_cons.1 hd with rfl | hd
        · exact hc
        · exact ih.2 d hd
def splitA (cur : List Nat) : List Nat → List (List Nat)
  | [] => [cur]
  | c :: l => if c = 32 then cur :: splitA [] l else splitA (cur ++ [c]) l
def splitL (l : List Nat) : List (List Nat) := splitA [] l
def wordsS (s : ByteArray) : List ByteArray := (splitL (bl s)).map strN
theorem splitA_no (p : List Nat) (h : ∀ c ∈ p, c ≠ 32) : ∀ cur, splitA cur p = [cur ++ p] := by
  induction p with
  | nil => intro cur; rw [List.append_nil]; rfl
  | cons c p ih =>
    intro cur
    rw [splitA, if_neg (h c (List.mem_cons_self ..)), ih (fun d hd => h d (List.mem_cons_of_mem _ hd)), List.append_assoc]; rfl
theorem splitA_hit (p r : List Nat) (h : ∀ c ∈ p, c ≠ 32) : ∀ cur, splitA cur (p ++ 32 :: r) = (cur ++ p) :: splitA [] r := by
  induction p with
  | nil => intro cur; rw [List.append_nil, List.nil_append, splitA, if_pos rfl]
  | cons c p ih =>
    intro cur
    rw [List.cons_append, splitA, if_neg (h c (List.mem_cons_self ..)), ih (fun d hd => h d (List.mem_cons_of_mem _ hd)), List.append_assoc]; rfl
theorem splitA_len (l : List Nat) : ∀ cur, (splitA cur l).length ≤ l.length + 1 ∧ 1 ≤ (splitA cur l).length ∧ ∀ p ∈ splitA cur l, p.length ≤ cur.length + l.length := by
  induction l with
  | nil => intro cur; exact ⟨Nat.le_refl _, Nat.le_refl _, fun p hp => by rw [splitA, List.mem_singleton] at hp; subst hp; exact Nat.le_refl _⟩
  | cons c l ih =>
    intro cur
    rw [splitA]
    split
    · have h1 := ih []
      simp only [List.length_cons, List.length_nil] at h1 ⊢
      exact ⟨by omega, by omega, fun p hp => by rcases List.mem_cons.1 hp with rfl | hp; omega; have := h1.2.2 p hp; omega⟩
    · have h1 := ih (cur ++ [c])
      simp only [List.length_cons, List.length_append, List.length_nil] at h1 ⊢
      exact ⟨by omega, by omega, fun p hp => by have := h1.2.2 p hp; omega⟩
theorem words_len (s : ByteArray) : (wordsS s).length ≤ s.size + 1 ∧ 1 ≤ (wordsS s).length ∧ ∀ y ∈ wordsS s, y.size ≤ s.size := by
  have h := splitA_len (bl s) []
  rw [bl_length] at h
  unfold wordsS splitL
  rw [List.length_map]
  refine ⟨h.1, h.2.1, fun y hy => ?_⟩
  obtain ⟨p, hp, rfl⟩ := List.mem_map.1 hy
  rw [strN_size]
  have := h.2.2 p hp
  simpa using this
theorem idx32 (s : ByteArray) : Lib.indexB s ⟨#[32]⟩ = if (bl s).idxOf 32 < s.size then (((bl s).idxOf 32 : Nat) : Int) else -1 := by
  have h1 : Lib.indexB s ⟨#[32]⟩ = Lib.indexByte s.data.toList 32 := Lib.index_one s.data.toList 32
  rw [h1, indexByte_eq]
  rfl
theorem splitB_bl : ∀ (k : Nat) (s : ByteArray), Lib.countB s ⟨#[32]⟩ = k → (Lib.splitB ⟨#[32]⟩ 0 k s).map bl = splitL (bl s) := by
  intro k
  induction k with
  | zero =>
    intro s hk
    rcases Lib.indexB_cases s ⟨#[32]⟩ with hix | ⟨i, hix, hr⟩
    · rw [Lib.splitB_miss _ _ _ _ hix]
      have h2 := idx32 s
      rw [hix] at h2
      have hno : ¬ (bl s).idxOf 32 < s.size := fun e => by rw [if_pos e] at h2; omega
      have hmem : (32 : Nat) ∉ bl s := fun e => hno (by rw [← bl_length]; exact List.idxOf_lt_length_iff.2 e)
      unfold splitL
      rw [splitA_no _ (fun c hc e => hmem (by rw [← e]; exact hc))]
      rfl
    · have := Lib.countB_hit s ⟨#[32]⟩ i (by decide) hix; omega
  | succ k ih =>
    intro s hk
    rcases Lib.indexB_cases s ⟨#[32]⟩ with hix | ⟨i, hix, hr⟩
    · rw [Lib.countB_miss _ _ hix] at hk; omega
    · have h3 := Lib.countB_hit s ⟨#[32]⟩ i (by decide) hix
      have h2 := idx32 s
      rw [hix] at h2
      have hlt : (bl s).idxOf 32 < s.size := by
        rcases Nat.lt_or_ge ((bl s).idxOf 32) s.size with h | h
        · exact h
        · rw [if_neg (by omega)] at h2; omega
      rw [if_pos hlt] at h2
      have hi : (bl s).idxOf 32 = i := by omega
      rw [Lib.splitB_hit _ _ _ _ _ hix, List.map_cons, ih _ (by omega), bl_mid, bl_drop]
      have hsz : (⟨#[32]⟩ : ByteArray).size = 1 := rfl
      rw [hsz]
      have hli : (bl s).idxOf 32 < (bl s).length := by rw [bl_length]; exact hlt
      obtain ⟨hsplit, hno⟩ := idx_split (bl s) hli
      rw [hi] at hsplit hno
      show List.take (i + 0 - 0) (List.drop 0 (bl s)) :: _ = _
      conv => rhs; unfold splitL; rw [hsplit, splitA_hit _ _ hno]
      rw [List.drop_zero, List.nil_append]
      rfl

theorem wordsS_eq (s : ByteArray) : Lib.splitB ⟨#[32]⟩ 0 (Lib.countB s ⟨#[32]⟩) s = wordsS s := by
  unfold wordsS
  rw [← splitB_bl _ s rfl, List.map_map]
  conv => lhs; rw [← List.map_id (Lib.splitB ⟨#[32]⟩ 0 (Lib.countB s ⟨#[32]⟩) s)]
  apply List.map_congr_left
  intro x _
  exact (strN_bl x).symm
set_option maxRecDepth 100000 in
theorem gensplit_any (s : ByteArray) (w : World) (hs : s.size ≤ 100000) : Calls Tryd.prog 53 #[.string s, .string ⟨#[32]⟩, .int .i64 0, .int .i64 (-1)] w fun e w' => ∃ v, e = .returned v ∧ Row 1 vStr 9 w.heap.size w' v (wordsS s) ∧ Below w.heap.size w w' := by
  have hcl := Lib.countB_le ⟨#[32]⟩ (by decide) s.size s (Nat.le_refl _)
  have h := Any.strings_genSplit_core sh_lays221 (by kernel_rfl) s ⟨#[32]⟩ 0 (-1) (Lib.countB s ⟨#[32]⟩ + 1) w (by omega) (by decide) (by decide)
    (fun x c _ => (sh_strings_Index_one x 32 _).mono fun e w' h => ⟨by rw [h.1, ← Lib.index_one], h.2⟩)
    ((sh_strings_Count_one s 32 w).mono fun e w' h => ⟨by rw [h.1]; unfold Lib.countByte; rw [← Lib.count_one], h.2⟩)
    (by decide) (by decide) (by rw [if_pos (by decide)]; omega)
  refine h.mono ?_
  rintro e w' ⟨rfl, rfl⟩
  rw [Nat.add_sub_cancel, wordsS_eq]
  have hlen : (wordsS s).length = Lib.countB s ⟨#[32]⟩ + 1 := by rw [← wordsS_eq]; exact Lib.splitB_all _ (by decide) _ _ _ rfl
  rw [← hlen, Lib.cellsOf_full]
  refine ⟨_, rfl, ?_, (Below.refl _ _).alloc (Nat.le_refl _) _⟩
  exact Row.of_new (k := 1) (V := vStr) (l := wordsS s) (base := w.heap.size) (heap_alloc_last _ _) (Nat.le_refl _) (by
    rw [List.toList_toArray]
    induction wordsS s with
    | nil => rfl
    | cons x l ih => rw [List.map_cons, List.flatMap_cons, ih]; rfl) (by rw [Nat.mul_one, List.size_toArray, List.length_map]) (by have := (words_len s).1; unfold maxLen; omega)

set_option maxHeartbeats 1000000 in
set_option maxRecDepth 100000 in
theorem split_any (s : ByteArray) (w : World) (hs : s.size ≤ 100000) : Calls Tryd.prog 26 #[(.string s), (.string ⟨#[32]⟩)] w fun e w' => ∃ v, e = .returned v ∧ Row 1 vStr 9 w.heap.size w' v (wordsS s) ∧ Below w.heap.size w w' := by
  refine sx_enter (L := [(0, (.string s)), (1, (.string ⟨#[32]⟩))]) Tryd.func26 rfl rfl rfl rfl (fun fa hf => ?_)
  have hb : Below w.heap.size w w := Below.refl _ _
  refine wp_seq_k (fun K1 hK1 => ?_)
  refine wp_region_lit ?_
  refine sqv hf (r_assign rfl) rfl rfl rfl ?_; clear hf fa; intro fa hf
  apply wpList_nil
  (try simp only [Exit.then, Exit.inBlock, ↓reduceIte, Nat.reduceEqDiff])
  refine hK1 _ _ ?_
  refine wp_seq_k (fun K2 hK2 => ?_)
  refine wp_region_lit ?_
  refine sqv hf (r_move rfl) rfl rfl rfl ?_; clear hf fa; intro fa hf
  refine sqv hf (r_move rfl) rfl rfl rfl ?_; clear hf fa; intro fa hf
  refine sqdt hf (d_callX (vs := [(.string s), (.string ⟨#[32]⟩), (.int .i64 (0 : Int)), (.int .i64 (-1 : Int))]) rfl Tryd.func53 (by kernel_rfl) (by kernel_rfl) (gensplit_any s _ hs)) rfl rfl rfl ?_; clear hf fa; rintro fa v w1 ⟨hr1, he1⟩ hf; obtain ⟨ra1, rc1, rfl, hcrc1, hmrc1⟩ := Row.slice hr1
  replace hr1 := Row.rebase hr1 hb.size
  replace hb := hb.trans (Below.mono he1 hb.size)
  refine sqv hf (r_assign rfl) rfl rfl rfl ?_; clear hf fa; intro fa hf
  apply wpList_nil
  (try simp only [Exit.then, Exit.inBlock, ↓reduceIte, Nat.reduceEqDiff])
  refine hK2 _ _ ?_
  refine wp_ret ?_
  (try simp only [Exit.then, Exit.inBlock])
  refine ret1 hf rfl rfl ?_
  exact ⟨_, rfl, hr1, hb⟩

set_option maxHeartbeats 1000000 in
set_option maxRecDepth 100000 in
theorem find_any (nm : ByteArray) (w : World) : Calls Tryd.prog 27 #[(.string nm)] w fun e w' => e = .returned (.tuple #[.int .u8 (findP nm).1, .bool (findP nm).2]) ∧ Below w.heap.size w w' := by
  refine sx_enter (L := [(0, (.string nm))]) Tryd.func27 rfl rfl rfl rfl (fun fa hf => ?_)
  have hb : Below w.heap.size w w := Below.refl _ _
  refine wp_seq_k (fun K1 hK1 => ?_)
  refine wp_region_lit ?_
  refine sqv hf (r_assign rfl) rfl rfl rfl ?_; clear hf fa; intro fa hf
  refine sqv hf (r_assign rfl) rfl rfl rfl ?_; clear hf fa; intro fa hf
  apply wpList_nil
  (try simp only [Exit.then, Exit.inBlock, ↓reduceIte, Nat.reduceEqDiff])
  refine hK1 _ _ ?_
  refine wp_seq_k (fun K2 hK2 => ?_)
  refine wp_seq_k (fun K3 hK3 => ?_)
  refine wp_region_lit ?_
  refine sqv hf (r_assign rfl) rfl rfl rfl ?_; clear hf fa; intro fa hf
  apply wpList_nil
  (try simp only [Exit.then, Exit.inBlock, ↓reduceIte, Nat.reduceEqDiff])
  refine hK3 _ _ ?_
  refine wp_block ?_
  refine wp_loop_k (fun mq fa wr => ∃ (k : Nat), mq = 256 - k ∧ Fr 21 fa [(0, (.string nm)), (4, (.int .i64 ((k : Nat) : Int)))] ∧ Below w.heap.size w wr ∧ (k ≤ 256) ∧ (nm ≠ ⟨#[]⟩ → findP nm = findR nm (256 - k) k)) ?_ ?_
  · skip
    exact ⟨_, 0, rfl, hf.sub ⟨rfl, (some_int (by first | rfl | omega)), trivial⟩, hb, by omega, (fun h0 => by unfold findP; rw [if_neg h0])⟩
  · skip
    clear hf fa; intro mq1 fa w1 hI KL1 hKL1
    clear hb
    obtain ⟨k, hmq1, hf, hb, hk, Hs⟩ := hI
    refine wp_seq_k (fun K4 hK4 => ?_)
    refine wp_seq_k (fun K5 hK5 => ?_)
    refine wp_region_lit ?_
    refine sqv hf (r_move rfl) rfl rfl rfl ?_; clear hf fa; intro fa hf
    refine sqv hf (r_lt rfl rfl) rfl rfl rfl ?_; clear hf fa; intro fa hf
    refine sqv hf (r_move rfl) rfl rfl rfl ?_; clear hf fa; intro fa hf
    refine sqgT (act := (decide (((k : Nat) : Int) < (256 : Int)))) (ag := true) (c := (decide (((k : Nat) : Int) < (256 : Int)))) (v := (.string nm)) hf rfl rfl rfl (fun hact => (r_move rfl)) rfl rfl ?_; clear hf fa; intro fa hf
    refine sqgT (act := (decide (((k : Nat) : Int) < (256 : Int)))) (ag := true) (c := (decide (((k : Nat) : Int) < (256 : Int)))) (v := (.bool (decide (nm ≠ ⟨#[]⟩)))) hf rfl rfl rfl (fun hact => (r_sne (gb_ev hact rfl) rfl)) rfl rfl ?_; clear hf fa; intro fa hf
    refine sqv hf (r_pickA (b := (decide (((k : Nat) : Int) < (256 : Int)))) (e := (decide (nm ≠ ⟨#[]⟩))) rfl rfl rfl) rfl rfl rfl ?_; clear hf fa; intro fa hf
    apply wpList_nil
    (try simp only [Exit.then, Exit.inBlock, ↓reduceIte, Nat.reduceEqDiff])
    refine hK5 _ _ ?_
    refine wp_cond_split (t := ((decide (((k : Nat) : Int) < (256 : Int))) && (decide (nm ≠ ⟨#[]⟩)))) (hf.ev rfl) (fun hqt10_1 => ?_) (fun hqt10_1 => ?_)
    · have hqt10_1b := hqt10_1
      try simp only [decide_eq_true_eq, Bool.and_eq_true, Bool.or_eq_true, Bool.not_eq_true', decide_eq_false_iff_not, ne_eq, Bool.not_eq_true] at hqt10_1
      refine wp_skip ?_
      (try simp only [Exit.then, Exit.inBlock, ↓reduceIte, Nat.reduceEqDiff])
      refine hK4 _ _ ?_
      refine wp_seq_k (fun K6 hK6 => ?_)
      refine wp_block ?_
      refine wp_seq_k (fun K7 hK7 => ?_)
      refine wp_region_lit ?_
      refine sqv hf (r_move rfl) rfl rfl rfl ?_; clear hf fa; intro fa hf
      refine sqv hf (r_conv (C := ((k : Nat) : Int)) rfl Tryd.underlying3 Tryd.underlying5 (by rw [IntKind.wrap_u8]; omega)) rfl rfl rfl ?_; clear hf fa; intro fa hf
      refine sqdt hf (d_callB (vs := [(.int .u8 ((k : Nat) : Int))]) rfl Tryd.func20 (by kernel_rfl) (by kernel_rfl) (inf_any k _ (by omega))) rfl rfl rfl ?_; clear hf fa; rintro fa _ w2 ⟨rfl, he1⟩ hf
      replace hb := hb.trans (Below.mono he1 hb.size)
      refine sqv hf (r_field (cs := #[(.string (infP k).1), (.int .i64 ((infP k).2.1)), (.string (infP k).2.2.1), (.string (infP k).2.2.2.1), (.bool (infP k).2.2.2.2.1)]) (v := (.string (infP k).1)) rfl (fun _ => by kernel_rfl)) rfl rfl rfl ?_; clear hf fa; intro fa hf
      refine sqv hf (r_move rfl) rfl rfl rfl ?_; clear hf fa; intro fa hf
      refine sqv hf (r_seq rfl rfl) rfl rfl rfl ?_; clear hf fa; intro fa hf
      apply wpList_nil
      (try simp only [Exit.then, Exit.inBlock, ↓reduceIte, Nat.reduceEqDiff])
      refine hK7 _ _ ?_
      refine wp_cond_split (t := (decide ((infP k).1 = nm))) (hf.ev rfl) (fun hqt18_1 => ?_) (fun hqt18_1 => ?_)
      · have hqt18_1b := hqt18_1
        try simp only [decide_eq_true_eq, Bool.and_eq_true, Bool.or_eq_true, Bool.not_eq_true', decide_eq_false_iff_not, ne_eq, Bool.not_eq_true] at hqt18_1
        refine wp_seq_k (fun K8 hK8 => ?_)
        refine wp_region_lit ?_
        refine sqv hf (r_move rfl) rfl rfl rfl ?_; clear hf fa; intro fa hf
        refine sqv hf (r_conv (C := ((k : Nat) : Int)) rfl Tryd.underlying3 Tryd.underlying5 (by rw [IntKind.wrap_u8]; omega)) rfl rfl rfl ?_; clear hf fa; intro fa hf
        refine sqv hf (r_assign rfl) rfl rfl rfl ?_; clear hf fa; intro fa hf
        refine sqv hf (r_assign rfl) rfl rfl rfl ?_; clear hf fa; intro fa hf
        apply wpList_nil
        (try simp only [Exit.then, Exit.inBlock, ↓reduceIte, Nat.reduceEqDiff])
        refine hK8 _ _ ?_
        refine wp_ret ?_
        (try simp only [Exit.then, Exit.inBlock])
        refine ret2 hf rfl rfl rfl ?_
        refine ⟨congrArg (fun n : Int × Bool => Ending.returned (.tuple #[.int .u8 n.1, .bool n.2])) (show (((k : Nat) : Int), true) = findP nm from ?_), hb⟩; rw [Hs (by have h := hqt10_1; exact h.2), show 256 - k = (256 - (k + 1)) + 1 by omega, findR, if_pos (by have h := hqt18_1; exact h)]
      · have hqt18_1b := hqt18_1
        replace hqt18_1 := Bool.eq_false_iff.1 hqt18_1
        try simp only [ne_eq, decide_eq_true_eq, Bool.and_eq_true, Bool.or_eq_true, Bool.not_eq_true', decide_eq_false_iff_not] at hqt18_1
        refine wp_skip ?_
        (try simp only [Exit.then, Exit.inBlock, ↓reduceIte, Nat.reduceEqDiff])
        refine hK6 _ _ ?_
        refine wp_region_lit ?_
        refine sqv hf (r_move rfl) rfl rfl rfl ?_; clear hf fa; intro fa hf
        refine sqv hf (r_add (C := (((k : Nat) : Int) + (1 : Int))) rfl rfl (by rw [IntKind.wrap_i64]; omega)) rfl rfl rfl ?_; clear hf fa; intro fa hf
        refine sqv hf (r_assign rfl) rfl rfl rfl ?_; clear hf fa; intro fa hf
        apply wpList_nil
        (try simp only [Exit.then, Exit.inBlock, ↓reduceIte, Nat.reduceEqDiff])
        refine hKL1 _ _ _ (by omega) ⟨(k + 1), rfl, hf.sub ⟨rfl, (some_int (by first | rfl | omega)), trivial⟩, hb, by omega, (fun h0 => by rw [Hs h0, show 256 - k = (256 - (k + 1)) + 1 by omega, findR, if_neg (by have h := hqt18_1; exact h)])⟩
    · have hqt10_1b := hqt10_1
      replace hqt10_1 := Bool.eq_false_iff.1 hqt10_1
      try simp only [ne_eq, decide_eq_true_eq, Bool.and_eq_true, Bool.or_eq_true, Bool.not_eq_true', decide_eq_false_iff_not] at hqt10_1
      refine wp_exit ?_
      (try simp only [Exit.then, Exit.inBlock, ↓reduceIte, Nat.reduceEqDiff])
      refine hK2 _ _ ?_
      refine wp_seq_k (fun K9 hK9 => ?_)
      refine wp_region_lit ?_
      refine sqv hf (r_assign rfl) rfl rfl rfl ?_; clear hf fa; intro fa hf
      refine sqv hf (r_assign rfl) rfl rfl rfl ?_; clear hf fa; intro fa hf
      apply wpList_nil
      (try simp only [Exit.then, Exit.inBlock, ↓reduceIte, Nat.reduceEqDiff])
      refine hK9 _ _ ?_
      refine wp_ret ?_
      (try simp only [Exit.then, Exit.inBlock])
      refine ret2 hf rfl rfl rfl ?_
      refine ⟨congrArg (fun n : Int × Bool => Ending.returned (.tuple #[.int .u8 n.1, .bool n.2])) (show ((0 : Int), false) = findP nm from ?_), hb⟩; by_cases h0 : nm = ⟨#[]⟩
      · unfold findP; rw [if_pos h0]
      · rw [Hs h0, show 256 - k = 0 by rcases Nat.lt_or_ge k 256 with h1 | h1; exact absurd (And.intro (by omega) h0) hqt10_1; omega]; rfl
end Go.Proofs.YtpalmpfkliepfaaDoor
