/- What is proved here: types of functions: which may be, and their bytes, by the program and by the document. -/
import Derived.Test.YtcmdajkkdognfaaMtN
import Derived.Test.YtcmdajkkdognfaaLuF
namespace Go.Proofs.Ytcmdajkkdognfaa
open Go.RowKit
set_option linter.unusedVariables false
set_option linter.unusedSimpArgs false
def tvalP (b : Int) : Int :=
  bif (decide (b = (127 : Int))) then (0 : Int)
  else bif (decide (b = (126 : Int))) then (0 : Int)
  else bif (decide (b = (125 : Int))) then (8 : Int)
  else bif (decide (b = (124 : Int))) then (8 : Int)
  else (7 : Int)

set_option maxHeartbeats 1000000 in
set_option maxRecDepth 100000 in
theorem tval_any (b : Int) (w : World)  : Calls Try.prog 46 #[(.int .u8 b)] w fun e w' => e = .returned (.int .i64 ((tvalP b))) ∧ w = w' := by
  refine sx_enter (L := [(0, (.int .u8 b))]) Try.func46 rfl rfl rfl rfl (fun fa hf => ?_)
  have hb : Below w.heap.size w w := Below.refl _ _
  refine wp_seq_k (fun K1 hK1 => ?_)
  refine wp_region_lit ?_
  refine sqv hf (r_assign rfl) rfl rfl rfl ?_; clear hf fa; intro fa hf
  apply wpList_nil
  (try simp only [Exit.then, Exit.inBlock, ↓reduceIte, Nat.reduceEqDiff])
  refine hK1 _ _ ?_
  refine wp_seq_k (fun K2 hK2 => ?_)
  refine wp_seq_k (fun K3 hK3 => ?_)
  refine wp_region_lit ?_
  refine sqv hf (r_move rfl) rfl rfl rfl ?_; clear hf fa; intro fa hf
  apply wpList_nil
  (try simp only [Exit.then, Exit.inBlock, ↓reduceIte, Nat.reduceEqDiff])
  refine hK3 _ _ ?_
  refine wp_block ?_
  refine wp_seq_k (fun K4 hK4 => ?_)
  refine wp_seq_k (fun K5 hK5 => ?_)
  refine wp_region_lit ?_
  refine sqv hf (r_eq rfl rfl) rfl rfl rfl ?_; clear hf fa; intro fa hf
  refine sqv hf (r_assign rfl) rfl rfl rfl ?_; clear hf fa; intro fa hf
  apply wpList_nil
  (try simp only [Exit.then, Exit.inBlock, ↓reduceIte, Nat.reduceEqDiff])
  refine hK5 _ _ ?_
  refine wp_cond_split (t := (decide (b = (127 : Int)))) (hf.ev rfl) (fun hqt4_1 => ?_) (fun hqt4_1 => ?_)
  · have hqt4_1b := hqt4_1
    try simp only [decide_eq_true_eq, Bool.and_eq_true, Bool.or_eq_true, Bool.not_eq_true', decide_eq_false_iff_not, ne_eq, Bool.not_eq_true] at hqt4_1
    refine wp_skip ?_
    (try simp only [Exit.then, Exit.inBlock, ↓reduceIte, Nat.reduceEqDiff])
    refine hK4 _ _ ?_
    refine wp_cond_true ((hf.ev rfl).trans (congrArg Value.bool (show (decide (b = (127 : Int))) = true from hqt4_1b))) ?_
    refine wp_seq_k (fun K6 hK6 => ?_)
    refine wp_region_lit ?_
    refine sqv hf (r_assign rfl) rfl rfl rfl ?_; clear hf fa; intro fa hf
    apply wpList_nil
    (try simp only [Exit.then, Exit.inBlock, ↓reduceIte, Nat.reduceEqDiff])
    refine hK6 _ _ ?_
    refine wp_ret ?_
    (try simp only [Exit.then, Exit.inBlock])
    refine ret1 hf rfl rfl ?_
    refine ⟨?_, rfl⟩; unfold tvalP; rw [hqt4_1b]; (try rfl)
  · have hqt4_1b := hqt4_1
    replace hqt4_1 := Bool.eq_false_iff.1 hqt4_1
    try simp only [ne_eq, decide_eq_true_eq, Bool.and_eq_true, Bool.or_eq_true, Bool.not_eq_true', decide_eq_false_iff_not] at hqt4_1
    refine wp_region_lit ?_
    refine sqv hf (r_eq rfl rfl) rfl rfl rfl ?_; clear hf fa; intro fa hf
    refine sqv hf (r_assign rfl) rfl rfl rfl ?_; clear hf fa; intro fa hf
    apply wpList_nil
    (try simp only [Exit.then, Exit.inBlock, ↓reduceIte, Nat.reduceEqDiff])
    refine hK4 _ _ ?_
    refine wp_cond_split (t := (decide (b = (126 : Int)))) (hf.ev rfl) (fun hqt4_3 => ?_) (fun hqt4_3 => ?_)
    · have hqt4_3b := hqt4_3
      try simp only [decide_eq_true_eq, Bool.and_eq_true, Bool.or_eq_true, Bool.not_eq_true', decide_eq_false_iff_not, ne_eq, Bool.not_eq_true] at hqt4_3
      refine wp_seq_k (fun K7 hK7 => ?_)
      refine wp_region_lit ?_
      refine sqv hf (r_assign rfl) rfl rfl rfl ?_; clear hf fa; intro fa hf
      apply wpList_nil
      (try simp only [Exit.then, Exit.inBlock, ↓reduceIte, Nat.reduceEqDiff])
      refine hK7 _ _ ?_
      refine wp_ret ?_
      (try simp only [Exit.then, Exit.inBlock])
      refine ret1 hf rfl rfl ?_
      refine ⟨?_, rfl⟩; unfold tvalP; rw [hqt4_1b, hqt4_3b]; (try rfl)
    · have hqt4_3b := hqt4_3
      replace hqt4_3 := Bool.eq_false_iff.1 hqt4_3
      try simp only [ne_eq, decide_eq_true_eq, Bool.and_eq_true, Bool.or_eq_true, Bool.not_eq_true', decide_eq_false_iff_not] at hqt4_3
      refine wp_seq_k (fun K8 hK8 => ?_)
      refine wp_seq_k (fun K9 hK9 => ?_)
      refine wp_region_lit ?_
      refine sqv hf (r_eq rfl rfl) rfl rfl rfl ?_; clear hf fa; intro fa hf
      refine sqv hf (r_assign rfl) rfl rfl rfl ?_; clear hf fa; intro fa hf
      apply wpList_nil
      (try simp only [Exit.then, Exit.inBlock, ↓reduceIte, Nat.reduceEqDiff])
      refine hK9 _ _ ?_
      refine wp_cond_split (t := (decide (b = (125 : Int)))) (hf.ev rfl) (fun hqt7_1 => ?_) (fun hqt7_1 => ?_)
      · have hqt7_1b := hqt7_1
        try simp only [decide_eq_true_eq, Bool.and_eq_true, Bool.or_eq_true, Bool.not_eq_true', decide_eq_false_iff_not, ne_eq, Bool.not_eq_true] at hqt7_1
        refine wp_skip ?_
        (try simp only [Exit.then, Exit.inBlock, ↓reduceIte, Nat.reduceEqDiff])
        refine hK8 _ _ ?_
        refine wp_cond_true ((hf.ev rfl).trans (congrArg Value.bool (show (decide (b = (125 : Int))) = true from hqt7_1b))) ?_
        refine wp_seq_k (fun K10 hK10 => ?_)
        refine wp_region_lit ?_
        refine sqv hf (r_assign rfl) rfl rfl rfl ?_; clear hf fa; intro fa hf
        apply wpList_nil
        (try simp only [Exit.then, Exit.inBlock, ↓reduceIte, Nat.reduceEqDiff])
        refine hK10 _ _ ?_
        refine wp_ret ?_
        (try simp only [Exit.then, Exit.inBlock])
        refine ret1 hf rfl rfl ?_
        refine ⟨?_, rfl⟩; unfold tvalP; rw [hqt4_1b, hqt4_3b, hqt7_1b]; (try rfl)
      · have hqt7_1b := hqt7_1
        replace hqt7_1 := Bool.eq_false_iff.1 hqt7_1
        try simp only [ne_eq, decide_eq_true_eq, Bool.and_eq_true, Bool.or_eq_true, Bool.not_eq_true', decide_eq_false_iff_not] at hqt7_1
        refine wp_region_lit ?_
        refine sqv hf (r_eq rfl rfl) rfl rfl rfl ?_; clear hf fa; intro fa hf
        refine sqv hf (r_assign rfl) rfl rfl rfl ?_; clear hf fa; intro fa hf
        apply wpList_nil
        (try simp only [Exit.then, Exit.inBlock, ↓reduceIte, Nat.reduceEqDiff])
        refine hK8 _ _ ?_
        refine wp_cond_split (t := (decide (b = (124 : Int)))) (hf.ev rfl) (fun hqt7_3 => ?_) (fun hqt7_3 => ?_)
        · have hqt7_3b := hqt7_3
          try simp only [decide_eq_true_eq, Bool.and_eq_true, Bool.or_eq_true, Bool.not_eq_true', decide_eq_false_iff_not, ne_eq, Bool.not_eq_true] at hqt7_3
          refine wp_seq_k (fun K11 hK11 => ?_)
          refine wp_region_lit ?_
          refine sqv hf (r_assign rfl) rfl rfl rfl ?_; clear hf fa; intro fa hf
          apply wpList_nil
          (try simp only [Exit.then, Exit.inBlock, ↓reduceIte, Nat.reduceEqDiff])
          refine hK11 _ _ ?_
          refine wp_ret ?_
          (try simp only [Exit.then, Exit.inBlock])
          refine ret1 hf rfl rfl ?_
          refine ⟨?_, rfl⟩; unfold tvalP; rw [hqt4_1b, hqt4_3b, hqt7_1b, hqt7_3b]; (try rfl)
        · have hqt7_3b := hqt7_3
          replace hqt7_3 := Bool.eq_false_iff.1 hqt7_3
          try simp only [ne_eq, decide_eq_true_eq, Bool.and_eq_true, Bool.or_eq_true, Bool.not_eq_true', decide_eq_false_iff_not] at hqt7_3
          refine wp_skip ?_
          (try simp only [Exit.then, Exit.inBlock, ↓reduceIte, Nat.reduceEqDiff])
          refine hK2 _ _ ?_
          refine wp_seq_k (fun K12 hK12 => ?_)
          refine wp_region_lit ?_
          refine sqv hf (r_assign rfl) rfl rfl rfl ?_; clear hf fa; intro fa hf
          apply wpList_nil
          (try simp only [Exit.then, Exit.inBlock, ↓reduceIte, Nat.reduceEqDiff])
          refine hK12 _ _ ?_
          refine wp_ret ?_
          (try simp only [Exit.then, Exit.inBlock])
          refine ret1 hf rfl rfl ?_
          refine ⟨?_, rfl⟩; unfold tvalP; rw [hqt4_1b, hqt4_3b, hqt7_1b, hqt7_3b]; (try rfl)

def rvalP (b : Int) : Int :=
  bif ((decide (b = (127 : Int))) || (decide (b = (126 : Int)))) then (0 : Int)
  else bif ((decide (b = (125 : Int))) || (decide (b = (124 : Int)))) then (8 : Int)
  else (7 : Int)

set_option maxHeartbeats 1000000 in
set_option maxRecDepth 100000 in
theorem rval_any (b : Int) (w : World)  : Calls Try.prog 35 #[(.int .i64 b)] w fun e w' => e = .returned (.int .i64 ((rvalP b))) ∧ w = w' := by
  refine sx_enter (L := [(0, (.int .i64 b))]) Try.func35 rfl rfl rfl rfl (fun fa hf => ?_)
  have hb : Below w.heap.size w w := Below.refl _ _
  refine wp_seq_k (fun K1 hK1 => ?_)
  refine wp_region_lit ?_
  refine sqv hf (r_assign rfl) rfl rfl rfl ?_; clear hf fa; intro fa hf
  apply wpList_nil
  (try simp only [Exit.then, Exit.inBlock, ↓reduceIte, Nat.reduceEqDiff])
  refine hK1 _ _ ?_
  refine wp_seq_k (fun K2 hK2 => ?_)
  refine wp_seq_k (fun K3 hK3 => ?_)
  refine wp_region_lit ?_
  refine sqv hf (r_move rfl) rfl rfl rfl ?_; clear hf fa; intro fa hf
  refine sqv hf (r_eq rfl rfl) rfl rfl rfl ?_; clear hf fa; intro fa hf
  refine sqv hf (r_move rfl) rfl rfl rfl ?_; clear hf fa; intro fa hf
  refine sqgF (act := (!(decide (b = (127 : Int))))) (ag := true) (c := (decide (b = (127 : Int)))) (v := (.int .i64 b)) hf rfl rfl rfl (fun hact => (r_move rfl)) rfl rfl ?_; clear hf fa; intro fa hf
  refine sqgF (act := (!(decide (b = (127 : Int))))) (ag := true) (c := (decide (b = (127 : Int)))) (v := (.bool (decide (b = (126 : Int))))) hf rfl rfl rfl (fun hact => (r_eq (gb_ev hact rfl) rfl)) rfl rfl ?_; clear hf fa; intro fa hf
  refine sqv hf (r_pickO (b := (decide (b = (127 : Int)))) (e := (decide (b = (126 : Int)))) rfl rfl rfl) rfl rfl rfl ?_; clear hf fa; intro fa hf
  apply wpList_nil
  (try simp only [Exit.then, Exit.inBlock, ↓reduceIte, Nat.reduceEqDiff])
  refine hK3 _ _ ?_
  refine wp_cond_split (t := ((decide (b = (127 : Int))) || (decide (b = (126 : Int))))) (hf.ev rfl) (fun hqt8_1 => ?_) (fun hqt8_1 => ?_)
  · have hqt8_1b := hqt8_1
    try simp only [decide_eq_true_eq, Bool.and_eq_true, Bool.or_eq_true, Bool.not_eq_true', decide_eq_false_iff_not, ne_eq, Bool.not_eq_true] at hqt8_1
    refine wp_seq_k (fun K4 hK4 => ?_)
    refine wp_region_lit ?_
    refine sqv hf (r_assign rfl) rfl rfl rfl ?_; clear hf fa; intro fa hf
    apply wpList_nil
    (try simp only [Exit.then, Exit.inBlock, ↓reduceIte, Nat.reduceEqDiff])
    refine hK4 _ _ ?_
    refine wp_ret ?_
    (try simp only [Exit.then, Exit.inBlock])
    refine ret1 hf rfl rfl ?_
    refine ⟨?_, rfl⟩; unfold rvalP; rw [hqt8_1b]; (try rfl)
  · have hqt8_1b := hqt8_1
    replace hqt8_1 := Bool.eq_false_iff.1 hqt8_1
    try simp only [ne_eq, decide_eq_true_eq, Bool.and_eq_true, Bool.or_eq_true, Bool.not_eq_true', decide_eq_false_iff_not] at hqt8_1
    refine wp_skip ?_
    (try simp only [Exit.then, Exit.inBlock, ↓reduceIte, Nat.reduceEqDiff])
    refine hK2 _ _ ?_
    refine wp_seq_k (fun K5 hK5 => ?_)
    refine wp_seq_k (fun K6 hK6 => ?_)
    refine wp_region_lit ?_
    refine sqv hf (r_move rfl) rfl rfl rfl ?_; clear hf fa; intro fa hf
    refine sqv hf (r_eq rfl rfl) rfl rfl rfl ?_; clear hf fa; intro fa hf
    refine sqv hf (r_move rfl) rfl rfl rfl ?_; clear hf fa; intro fa hf
    refine sqgF (act := (!(decide (b = (125 : Int))))) (ag := true) (c := (decide (b = (125 : Int)))) (v := (.int .i64 b)) hf rfl rfl rfl (fun hact => (r_move rfl)) rfl rfl ?_; clear hf fa; intro fa hf
    refine sqgF (act := (!(decide (b = (125 : Int))))) (ag := true) (c := (decide (b = (125 : Int)))) (v := (.bool (decide (b = (124 : Int))))) hf rfl rfl rfl (fun hact => (r_eq (gb_ev hact rfl) rfl)) rfl rfl ?_; clear hf fa; intro fa hf
    refine sqv hf (r_pickO (b := (decide (b = (125 : Int)))) (e := (decide (b = (124 : Int)))) rfl rfl rfl) rfl rfl rfl ?_; clear hf fa; intro fa hf
    apply wpList_nil
    (try simp only [Exit.then, Exit.inBlock, ↓reduceIte, Nat.reduceEqDiff])
    refine hK6 _ _ ?_
    refine wp_cond_split (t := ((decide (b = (125 : Int))) || (decide (b = (124 : Int))))) (hf.ev rfl) (fun hqt14_1 => ?_) (fun hqt14_1 => ?_)
    · have hqt14_1b := hqt14_1
      try simp only [decide_eq_true_eq, Bool.and_eq_true, Bool.or_eq_true, Bool.not_eq_true', decide_eq_false_iff_not, ne_eq, Bool.not_eq_true] at hqt14_1
      refine wp_seq_k (fun K7 hK7 => ?_)
      refine wp_region_lit ?_
      refine sqv hf (r_assign rfl) rfl rfl rfl ?_; clear hf fa; intro fa hf
      apply wpList_nil
      (try simp only [Exit.then, Exit.inBlock, ↓reduceIte, Nat.reduceEqDiff])
      refine hK7 _ _ ?_
      refine wp_ret ?_
      (try simp only [Exit.then, Exit.inBlock])
      refine ret1 hf rfl rfl ?_
      refine ⟨?_, rfl⟩; unfold rvalP; rw [hqt8_1b, hqt14_1b]; (try rfl)
    · have hqt14_1b := hqt14_1
      replace hqt14_1 := Bool.eq_false_iff.1 hqt14_1
      try simp only [ne_eq, decide_eq_true_eq, Bool.and_eq_true, Bool.or_eq_true, Bool.not_eq_true', decide_eq_false_iff_not] at hqt14_1
      refine wp_skip ?_
      (try simp only [Exit.then, Exit.inBlock, ↓reduceIte, Nat.reduceEqDiff])
      refine hK5 _ _ ?_
      refine wp_seq_k (fun K8 hK8 => ?_)
      refine wp_region_lit ?_
      refine sqv hf (r_assign rfl) rfl rfl rfl ?_; clear hf fa; intro fa hf
      apply wpList_nil
      (try simp only [Exit.then, Exit.inBlock, ↓reduceIte, Nat.reduceEqDiff])
      refine hK8 _ _ ?_
      refine wp_ret ?_
      (try simp only [Exit.then, Exit.inBlock])
      refine ret1 hf rfl rfl ?_
      refine ⟨?_, rfl⟩; unfold rvalP; rw [hqt8_1b, hqt14_1b]; (try rfl)

def tnameP (b : Int) : ByteArray :=
  bif (decide (b = (127 : Int))) then ⟨#[105, 51, 50]⟩
  else bif (decide (b = (126 : Int))) then ⟨#[105, 54, 52]⟩
  else bif (decide (b = (125 : Int))) then ⟨#[102, 51, 50]⟩
  else bif (decide (b = (124 : Int))) then ⟨#[102, 54, 52]⟩
  else bif (decide (b = (112 : Int))) then ⟨#[102, 117, 110, 99, 114, 101, 102]⟩
  else ⟨#[63]⟩

set_option maxHeartbeats 1000000 in
set_option maxRecDepth 100000 in
theorem tname_any (b : Int) (w : World)  : Calls Try.prog 51 #[(.int .u8 b)] w fun e w' => e = .returned (.string (tnameP b)) ∧ w = w' := by
  refine sx_enter (L := [(0, (.int .u8 b))]) Try.func51 rfl rfl rfl rfl (fun fa hf => ?_)
  have hb : Below w.heap.size w w := Below.refl _ _
  refine wp_seq_k (fun K1 hK1 => ?_)
  refine wp_region_lit ?_
  refine sqv hf (r_assign rfl) rfl rfl rfl ?_; clear hf fa; intro fa hf
  apply wpList_nil
  (try simp only [Exit.then, Exit.inBlock, ↓reduceIte, Nat.reduceEqDiff])
  refine hK1 _ _ ?_
  refine wp_seq_k (fun K2 hK2 => ?_)
  refine wp_seq_k (fun K3 hK3 => ?_)
  refine wp_region_lit ?_
  refine sqv hf (r_move rfl) rfl rfl rfl ?_; clear hf fa; intro fa hf
  apply wpList_nil
  (try simp only [Exit.then, Exit.inBlock, ↓reduceIte, Nat.reduceEqDiff])
  refine hK3 _ _ ?_
  refine wp_block ?_
  refine wp_seq_k (fun K4 hK4 => ?_)
  refine wp_region_lit ?_
  refine sqv hf (r_eq rfl rfl) rfl rfl rfl ?_; clear hf fa; intro fa hf
  refine sqv hf (r_assign rfl) rfl rfl rfl ?_; clear hf fa; intro fa hf
  apply wpList_nil
  (try simp only [Exit.then, Exit.inBlock, ↓reduceIte, Nat.reduceEqDiff])
  refine hK4 _ _ ?_
  refine wp_cond_split (t := (decide (b = (127 : Int)))) (hf.ev rfl) (fun hqt4_1 => ?_) (fun hqt4_1 => ?_)
  · have hqt4_1b := hqt4_1
    try simp only [decide_eq_true_eq, Bool.and_eq_true, Bool.or_eq_true, Bool.not_eq_true', decide_eq_false_iff_not, ne_eq, Bool.not_eq_true] at hqt4_1
    refine wp_seq_k (fun K5 hK5 => ?_)
    refine wp_region_lit ?_
    refine sqv hf (r_assign rfl) rfl rfl rfl ?_; clear hf fa; intro fa hf
    apply wpList_nil
    (try simp only [Exit.then, Exit.inBlock, ↓reduceIte, Nat.reduceEqDiff])
    refine hK5 _ _ ?_
    refine wp_ret ?_
    (try simp only [Exit.then, Exit.inBlock])
    refine ret1 hf rfl rfl ?_
    refine ⟨?_, rfl⟩; unfold tnameP; rw [hqt4_1b]; (try rfl)
  · have hqt4_1b := hqt4_1
    replace hqt4_1 := Bool.eq_false_iff.1 hqt4_1
    try simp only [ne_eq, decide_eq_true_eq, Bool.and_eq_true, Bool.or_eq_true, Bool.not_eq_true', decide_eq_false_iff_not] at hqt4_1
    refine wp_seq_k (fun K6 hK6 => ?_)
    refine wp_region_lit ?_
    refine sqv hf (r_eq rfl rfl) rfl rfl rfl ?_; clear hf fa; intro fa hf
    refine sqv hf (r_assign rfl) rfl rfl rfl ?_; clear hf fa; intro fa hf
    apply wpList_nil
    (try simp only [Exit.then, Exit.inBlock, ↓reduceIte, Nat.reduceEqDiff])
    refine hK6 _ _ ?_
    refine wp_cond_split (t := (decide (b = (126 : Int)))) (hf.ev rfl) (fun hqt6_1 => ?_) (fun hqt6_1 => ?_)
    · have hqt6_1b := hqt6_1
      try simp only [decide_eq_true_eq, Bool.and_eq_true, Bool.or_eq_true, Bool.not_eq_true', decide_eq_false_iff_not, ne_eq, Bool.not_eq_true] at hqt6_1
      refine wp_seq_k (fun K7 hK7 => ?_)
      refine wp_region_lit ?_
      refine sqv hf (r_assign rfl) rfl rfl rfl ?_; clear hf fa; intro fa hf
      apply wpList_nil
      (try simp only [Exit.then, Exit.inBlock, ↓reduceIte, Nat.reduceEqDiff])
      refine hK7 _ _ ?_
      refine wp_ret ?_
      (try simp only [Exit.then, Exit.inBlock])
      refine ret1 hf rfl rfl ?_
      refine ⟨?_, rfl⟩; unfold tnameP; rw [hqt4_1b, hqt6_1b]; (try rfl)
    · have hqt6_1b := hqt6_1
      replace hqt6_1 := Bool.eq_false_iff.1 hqt6_1
      try simp only [ne_eq, decide_eq_true_eq, Bool.and_eq_true, Bool.or_eq_true, Bool.not_eq_true', decide_eq_false_iff_not] at hqt6_1
      refine wp_seq_k (fun K8 hK8 => ?_)
      refine wp_region_lit ?_
      refine sqv hf (r_eq rfl rfl) rfl rfl rfl ?_; clear hf fa; intro fa hf
      refine sqv hf (r_assign rfl) rfl rfl rfl ?_; clear hf fa; intro fa hf
      apply wpList_nil
      (try simp only [Exit.then, Exit.inBlock, ↓reduceIte, Nat.reduceEqDiff])
      refine hK8 _ _ ?_
      refine wp_cond_split (t := (decide (b = (125 : Int)))) (hf.ev rfl) (fun hqt8_1 => ?_) (fun hqt8_1 => ?_)
      · have hqt8_1b := hqt8_1
        try simp only [decide_eq_true_eq, Bool.and_eq_true, Bool.or_eq_true, Bool.not_eq_true', decide_eq_false_iff_not, ne_eq, Bool.not_eq_true] at hqt8_1
        refine wp_seq_k (fun K9 hK9 => ?_)
        refine wp_region_lit ?_
        refine sqv hf (r_assign rfl) rfl rfl rfl ?_; clear hf fa; intro fa hf
        apply wpList_nil
        (try simp only [Exit.then, Exit.inBlock, ↓reduceIte, Nat.reduceEqDiff])
        refine hK9 _ _ ?_
        refine wp_ret ?_
        (try simp only [Exit.then, Exit.inBlock])
        refine ret1 hf rfl rfl ?_
        refine ⟨?_, rfl⟩; unfold tnameP; rw [hqt4_1b, hqt6_1b, hqt8_1b]; (try rfl)
      · have hqt8_1b := hqt8_1
        replace hqt8_1 := Bool.eq_false_iff.1 hqt8_1
        try simp only [ne_eq, decide_eq_true_eq, Bool.and_eq_true, Bool.or_eq_true, Bool.not_eq_true', decide_eq_false_iff_not] at hqt8_1
        refine wp_seq_k (fun K10 hK10 => ?_)
        refine wp_region_lit ?_
        refine sqv hf (r_eq rfl rfl) rfl rfl rfl ?_; clear hf fa; intro fa hf
        refine sqv hf (r_assign rfl) rfl rfl rfl ?_; clear hf fa; intro fa hf
        apply wpList_nil
        (try simp only [Exit.then, Exit.inBlock, ↓reduceIte, Nat.reduceEqDiff])
        refine hK10 _ _ ?_
        refine wp_cond_split (t := (decide (b = (124 : Int)))) (hf.ev rfl) (fun hqt10_1 => ?_) (fun hqt10_1 => ?_)
        · have hqt10_1b := hqt10_1
          try simp only [decide_eq_true_eq, Bool.and_eq_true, Bool.or_eq_true, Bool.not_eq_true', decide_eq_false_iff_not, ne_eq, Bool.not_eq_true] at hqt10_1
          refine wp_seq_k (fun K11 hK11 => ?_)
          refine wp_region_lit ?_
          refine sqv hf (r_assign rfl) rfl rfl rfl ?_; clear hf fa; intro fa hf
          apply wpList_nil
          (try simp only [Exit.then, Exit.inBlock, ↓reduceIte, Nat.reduceEqDiff])
          refine hK11 _ _ ?_
          refine wp_ret ?_
          (try simp only [Exit.then, Exit.inBlock])
          refine ret1 hf rfl rfl ?_
          refine ⟨?_, rfl⟩; unfold tnameP; rw [hqt4_1b, hqt6_1b, hqt8_1b, hqt10_1b]; (try rfl)
        · have hqt10_1b := hqt10_1
          replace hqt10_1 := Bool.eq_false_iff.1 hqt10_1
          try simp only [ne_eq, decide_eq_true_eq, Bool.and_eq_true, Bool.or_eq_true, Bool.not_eq_true', decide_eq_false_iff_not] at hqt10_1
          refine wp_seq_k (fun K12 hK12 => ?_)
          refine wp_region_lit ?_
          refine sqv hf (r_eq rfl rfl) rfl rfl rfl ?_; clear hf fa; intro fa hf
          refine sqv hf (r_assign rfl) rfl rfl rfl ?_; clear hf fa; intro fa hf
          apply wpList_nil
          (try simp only [Exit.then, Exit.inBlock, ↓reduceIte, Nat.reduceEqDiff])
          refine hK12 _ _ ?_
          refine wp_cond_split (t := (decide (b = (112 : Int)))) (hf.ev rfl) (fun hqt12_1 => ?_) (fun hqt12_1 => ?_)
          · have hqt12_1b := hqt12_1
            try simp only [decide_eq_true_eq, Bool.and_eq_true, Bool.or_eq_true, Bool.not_eq_true', decide_eq_false_iff_not, ne_eq, Bool.not_eq_true] at hqt12_1
            refine wp_seq_k (fun K13 hK13 => ?_)
            refine wp_region_lit ?_
            refine sqv hf (r_assign rfl) rfl rfl rfl ?_; clear hf fa; intro fa hf
            apply wpList_nil
            (try simp only [Exit.then, Exit.inBlock, ↓reduceIte, Nat.reduceEqDiff])
            refine hK13 _ _ ?_
            refine wp_ret ?_
            (try simp only [Exit.then, Exit.inBlock])
            refine ret1 hf rfl rfl ?_
            refine ⟨?_, rfl⟩; unfold tnameP; rw [hqt4_1b, hqt6_1b, hqt8_1b, hqt10_1b, hqt12_1b]; (try rfl)
          · have hqt12_1b := hqt12_1
            replace hqt12_1 := Bool.eq_false_iff.1 hqt12_1
            try simp only [ne_eq, decide_eq_true_eq, Bool.and_eq_true, Bool.or_eq_true, Bool.not_eq_true', decide_eq_false_iff_not] at hqt12_1
            refine wp_skip ?_
            (try simp only [Exit.then, Exit.inBlock, ↓reduceIte, Nat.reduceEqDiff])
            refine hK2 _ _ ?_
            refine wp_seq_k (fun K14 hK14 => ?_)
            refine wp_region_lit ?_
            refine sqv hf (r_assign rfl) rfl rfl rfl ?_; clear hf fa; intro fa hf
            apply wpList_nil
            (try simp only [Exit.then, Exit.inBlock, ↓reduceIte, Nat.reduceEqDiff])
            refine hK14 _ _ ?_
            refine wp_ret ?_
            (try simp only [Exit.then, Exit.inBlock])
            refine ret1 hf rfl rfl ?_
            refine ⟨?_, rfl⟩; unfold tnameP; rw [hqt4_1b, hqt6_1b, hqt8_1b, hqt10_1b, hqt12_1b]; (try rfl)

theorem rval_eq (b : Int) : rvalP b = tvalP b := by
  unfold rvalP tvalP
  by_cases h1 : b = 127
  · simp [h1]
  · by_cases h2 : b = 126
    · simp [h2]
    · by_cases h3 : b = 125
      · simp [h3]
      · by_cases h4 : b = 124
        · simp [h4]
        · simp [h1, h2, h3, h4]
theorem rval2_any (b : Int) (w : World) : Calls Try.prog 35 #[.int .i64 b] w fun e w' => e = .returned (.int .i64 (tvalP b)) ∧ w = w' := by
  have h := rval_any b w
  rw [rval_eq] at h
  exact h
def valsR : List Int → Int
  | [] => 0
  | x :: l => if tvalP x ≠ 0 then tvalP x else valsR l
def valsP (s : ByteArray) : Int := valsR (nums s)
theorem valsR_app (a b : List Int) : valsR (a ++ b) = if valsR a ≠ 0 then valsR a else valsR b := by
  induction a with
  | nil => simp [valsR]
  | cons x a ih =>
    rw [List.cons_append, valsR, valsR]
    by_cases h : tvalP x ≠ 0
    · rw [if_pos h, if_pos h, if_pos h]
    · rw [if_neg h, if_neg h, ih]
theorem drop_at {α : Type} {l : List α} {k : Nat} {y : α} (h : l[k]? = some y) : l.drop k = y :: l.drop (k + 1) := by
  obtain ⟨hk, rfl⟩ := List.getElem?_eq_some_iff.1 h
  exact List.drop_eq_getElem_cons hk

set_option maxHeartbeats 1000000 in
set_option maxRecDepth 100000 in
theorem values_any (s : ByteArray) (w : World) (hs : s.size ≤ 2000) : Calls Try.prog 44 #[(.string s)] w fun e w' => e = .returned (.int .i64 (valsP s)) ∧ Below w.heap.size w w' := by
  refine sx_enter (L := [(0, (.string s))]) Try.func44 rfl rfl rfl rfl (fun fa hf => ?_)
  have hb : Below w.heap.size w w := Below.refl _ _
  refine wp_seq_k (fun K1 hK1 => ?_)
  refine wp_region_lit ?_
  refine sqv hf (r_assign rfl) rfl rfl rfl ?_; clear hf fa; intro fa hf
  apply wpList_nil
  (try simp only [Exit.then, Exit.inBlock, ↓reduceIte, Nat.reduceEqDiff])
  refine hK1 _ _ ?_
  refine wp_seq_k (fun K2 hK2 => ?_)
  refine wp_seq_k (fun K3 hK3 => ?_)
  refine wp_region_lit ?_
  refine sqv hf (r_move rfl) rfl rfl rfl ?_; clear hf fa; intro fa hf
  refine sqv hf (r_lens rfl Try.underlying9) rfl rfl rfl ?_; clear hf fa; intro fa hf
  refine sqv hf (r_move rfl) rfl rfl rfl ?_; clear hf fa; intro fa hf
  apply wpList_nil
  (try simp only [Exit.then, Exit.inBlock, ↓reduceIte, Nat.reduceEqDiff])
  refine hK3 _ _ ?_
  refine wp_block ?_
  refine wp_loop_k (fun mq fa wr => ∃ (k : Nat), mq = s.size - k ∧ Fr 18 fa [(0, (.string s)), (6, (.int .i64 ((s.size : Nat) : Int))), (7, (.int .i64 ((k : Nat) : Int)))] ∧ Below w.heap.size w wr ∧ (k ≤ s.size) ∧ (valsP s = valsR ((nums s).drop k))) ?_ ?_
  · skip
    exact ⟨_, 0, rfl, hf.sub ⟨rfl, rfl, (some_int (by first | rfl | omega)), trivial⟩, hb, by omega, rfl⟩
  · skip
    clear hf fa; intro mq1 fa w1 hI KL1 hKL1
    clear hb
    obtain ⟨k, hmq1, hf, hb, hk, Hs⟩ := hI
    have hsb := sbt_lt s k
    refine wp_seq_k (fun K4 hK4 => ?_)
    refine wp_region_lit ?_
    refine sqv hf (r_lt rfl rfl) rfl rfl rfl ?_; clear hf fa; intro fa hf
    apply wpList_nil
    (try simp only [Exit.then, Exit.inBlock, ↓reduceIte, Nat.reduceEqDiff])
    refine hK4 _ _ ?_
    refine wp_seq_k (fun K5 hK5 => ?_)
    refine wp_cond_split (t := (decide (((k : Nat) : Int) < ((s.size : Nat) : Int)))) (hf.ev rfl) (fun hqt8_1 => ?_) (fun hqt8_1 => ?_)
    · have hqt8_1b := hqt8_1
      try simp only [decide_eq_true_eq, Bool.and_eq_true, Bool.or_eq_true, Bool.not_eq_true', decide_eq_false_iff_not, ne_eq, Bool.not_eq_true] at hqt8_1
      refine wp_skip ?_
      (try simp only [Exit.then, Exit.inBlock, ↓reduceIte, Nat.reduceEqDiff])
      refine hK5 _ _ ?_
      refine wp_seq_k (fun K6 hK6 => ?_)
      refine wp_block ?_
      refine wp_seq_k (fun K7 hK7 => ?_)
      refine wp_region_lit ?_
      refine sqv hf (r_move rfl) rfl rfl rfl ?_; clear hf fa; intro fa hf
      refine sqv hf (r_assign rfl) rfl rfl rfl ?_; clear hf fa; intro fa hf
      apply wpList_nil
      (try simp only [Exit.then, Exit.inBlock, ↓reduceIte, Nat.reduceEqDiff])
      refine hK7 _ _ ?_
      refine wp_seq_k (fun K8 hK8 => ?_)
      refine wp_region_lit ?_
      refine sqv hf (r_move rfl) rfl rfl rfl ?_; clear hf fa; intro fa hf
      refine sqv hf (r_move rfl) rfl rfl rfl ?_; clear hf fa; intro fa hf
      refine sqv hf (r_sindexD (j := k) rfl rfl Try.underlying9 rfl (by omega)) rfl rfl rfl ?_; clear hf fa; intro fa hf
      refine sqdt hf (d_callS (vs := [(.int .u8 ((sbt s k : Nat) : Int))]) rfl Try.func46 (by kernel_rfl) (by kernel_rfl) (tval_any ((sbt s k : Nat) : Int) _)) rfl rfl rfl ?_; clear hf fa; rintro fa _ _ ⟨rfl, rfl⟩ hf
      refine sqv hf (r_assign rfl) rfl rfl rfl ?_; clear hf fa; intro fa hf
      apply wpList_nil
      (try simp only [Exit.then, Exit.inBlock, ↓reduceIte, Nat.reduceEqDiff])
      refine hK8 _ _ ?_
      refine wp_seq_k (fun K9 hK9 => ?_)
      refine wp_region_lit ?_
      refine sqv hf (r_move rfl) rfl rfl rfl ?_; clear hf fa; intro fa hf
      refine sqv hf (r_ne rfl rfl) rfl rfl rfl ?_; clear hf fa; intro fa hf
      apply wpList_nil
      (try simp only [Exit.then, Exit.inBlock, ↓reduceIte, Nat.reduceEqDiff])
      refine hK9 _ _ ?_
      refine wp_cond_split (t := (decide (((tvalP ((sbt s k : Nat) : Int))) ≠ (0 : Int)))) (hf.ev rfl) (fun hqt15_1 => ?_) (fun hqt15_1 => ?_)
      · have hqt15_1b := hqt15_1
        try simp only [decide_eq_true_eq, Bool.and_eq_true, Bool.or_eq_true, Bool.not_eq_true', decide_eq_false_iff_not, ne_eq, Bool.not_eq_true] at hqt15_1
        refine wp_seq_k (fun K10 hK10 => ?_)
        refine wp_region_lit ?_
        refine sqv hf (r_move rfl) rfl rfl rfl ?_; clear hf fa; intro fa hf
        refine sqv hf (r_assign rfl) rfl rfl rfl ?_; clear hf fa; intro fa hf
        apply wpList_nil
        (try simp only [Exit.then, Exit.inBlock, ↓reduceIte, Nat.reduceEqDiff])
        refine hK10 _ _ ?_
        refine wp_ret ?_
        (try simp only [Exit.then, Exit.inBlock])
        refine ret1 hf rfl rfl ?_
        refine ⟨congrArg (fun n => Ending.returned (.int .i64 n)) ?_, hb⟩; rw [Hs, drop_at (nums_get (by omega)), valsR, if_pos hqt15_1]
      · have hqt15_1b := hqt15_1
        replace hqt15_1 := Bool.eq_false_iff.1 hqt15_1
        try simp only [ne_eq, decide_eq_true_eq, Bool.and_eq_true, Bool.or_eq_true, Bool.not_eq_true', decide_eq_false_iff_not] at hqt15_1
        refine wp_skip ?_
        (try simp only [Exit.then, Exit.inBlock, ↓reduceIte, Nat.reduceEqDiff])
        refine hK6 _ _ ?_
        refine wp_region_lit ?_
        refine sqv hf (r_add (C := (((k : Nat) : Int) + (1 : Int))) rfl rfl (by rw [IntKind.wrap_i64]; omega)) rfl rfl rfl ?_; clear hf fa; intro fa hf
        refine sqv hf (r_move rfl) rfl rfl rfl ?_; clear hf fa; intro fa hf
        apply wpList_nil
        (try simp only [Exit.then, Exit.inBlock, ↓reduceIte, Nat.reduceEqDiff])
        refine hKL1 _ _ _ (by omega) ⟨(k + 1), rfl, hf.sub ⟨rfl, rfl, (some_int (by first | rfl | omega)), trivial⟩, hb, by omega, (by have h := Hs; rw [drop_at (nums_get (by omega)), valsR, if_neg hqt15_1] at h; exact h)⟩
    · have hqt8_1b := hqt8_1
      replace hqt8_1 := Bool.eq_false_iff.1 hqt8_1
      try simp only [ne_eq, decide_eq_true_eq, Bool.and_eq_true, Bool.or_eq_true, Bool.not_eq_true', decide_eq_false_iff_not] at hqt8_1
      refine wp_exit ?_
      (try simp only [Exit.then, Exit.inBlock, ↓reduceIte, Nat.reduceEqDiff])
      refine hK2 _ _ ?_
      refine wp_seq_k (fun K11 hK11 => ?_)
      refine wp_region_lit ?_
      refine sqv hf (r_assign rfl) rfl rfl rfl ?_; clear hf fa; intro fa hf
      apply wpList_nil
      (try simp only [Exit.then, Exit.inBlock, ↓reduceIte, Nat.reduceEqDiff])
      refine hK11 _ _ ?_
      refine wp_ret ?_
      (try simp only [Exit.then, Exit.inBlock])
      refine ret1 hf rfl rfl ?_
      refine ⟨congrArg (fun n => Ending.returned (.int .i64 n)) ?_, hb⟩; rw [Hs, List.drop_eq_nil_of_le (by rw [nums_len]; omega), valsR]

set_option maxHeartbeats 1000000 in
set_option maxRecDepth 100000 in
theorem rvalues_any (s : ByteArray) (w : World) (hs : s.size ≤ 2000) : Calls Try.prog 45 #[(.string s)] w fun e w' => e = .returned (.int .i64 (valsP s)) ∧ Below w.heap.size w w' := by
  refine sx_enter (L := [(0, (.string s))]) Try.func45 rfl rfl rfl rfl (fun fa hf => ?_)
  have hb : Below w.heap.size w w := Below.refl _ _
  refine wp_seq_k (fun K1 hK1 => ?_)
  refine wp_region_lit ?_
  refine sqv hf (r_assign rfl) rfl rfl rfl ?_; clear hf fa; intro fa hf
  apply wpList_nil
  (try simp only [Exit.then, Exit.inBlock, ↓reduceIte, Nat.reduceEqDiff])
  refine hK1 _ _ ?_
  refine wp_seq_k (fun K2 hK2 => ?_)
  refine wp_seq_k (fun K3 hK3 => ?_)
  refine wp_region_lit ?_
  refine sqv hf (r_assign rfl) rfl rfl rfl ?_; clear hf fa; intro fa hf
  apply wpList_nil
  (try simp only [Exit.then, Exit.inBlock, ↓reduceIte, Nat.reduceEqDiff])
  refine hK3 _ _ ?_
  refine wp_block ?_
  refine wp_loop_k (fun mq fa wr => ∃ (k : Nat), mq = s.size - k ∧ Fr 19 fa [(0, (.string s)), (3, (.int .i64 ((k : Nat) : Int)))] ∧ Below w.heap.size w wr ∧ (k ≤ s.size) ∧ (valsP s = valsR ((nums s).drop k))) ?_ ?_
  · skip
    exact ⟨_, 0, rfl, hf.sub ⟨rfl, (some_int (by first | rfl | omega)), trivial⟩, hb, by omega, rfl⟩
  · skip
    clear hf fa; intro mq1 fa w1 hI KL1 hKL1
    clear hb
    obtain ⟨k, hmq1, hf, hb, hk, Hs⟩ := hI
    have hsb := sbt_lt s k
    refine wp_seq_k (fun K4 hK4 => ?_)
    refine wp_seq_k (fun K5 hK5 => ?_)
    refine wp_region_lit ?_
    refine sqv hf (r_move rfl) rfl rfl rfl ?_; clear hf fa; intro fa hf
    refine sqv hf (r_move rfl) rfl rfl rfl ?_; clear hf fa; intro fa hf
    refine sqv hf (r_lens rfl Try.underlying9) rfl rfl rfl ?_; clear hf fa; intro fa hf
    refine sqv hf (r_lt rfl rfl) rfl rfl rfl ?_; clear hf fa; intro fa hf
    apply wpList_nil
    (try simp only [Exit.then, Exit.inBlock, ↓reduceIte, Nat.reduceEqDiff])
    refine hK5 _ _ ?_
    refine wp_cond_split (t := (decide (((k : Nat) : Int) < ((s.size : Nat) : Int)))) (hf.ev rfl) (fun hqt8_1 => ?_) (fun hqt8_1 => ?_)
    · have hqt8_1b := hqt8_1
      try simp only [decide_eq_true_eq, Bool.and_eq_true, Bool.or_eq_true, Bool.not_eq_true', decide_eq_false_iff_not, ne_eq, Bool.not_eq_true] at hqt8_1
      refine wp_skip ?_
      (try simp only [Exit.then, Exit.inBlock, ↓reduceIte, Nat.reduceEqDiff])
      refine hK4 _ _ ?_
      refine wp_seq_k (fun K6 hK6 => ?_)
      refine wp_block ?_
      refine wp_seq_k (fun K7 hK7 => ?_)
      refine wp_region_lit ?_
      refine sqv hf (r_move rfl) rfl rfl rfl ?_; clear hf fa; intro fa hf
      refine sqv hf (r_move rfl) rfl rfl rfl ?_; clear hf fa; intro fa hf
      refine sqv hf (r_sindexD (j := k) rfl rfl Try.underlying9 rfl (by omega)) rfl rfl rfl ?_; clear hf fa; intro fa hf
      refine sqv hf (r_conv (C := ((sbt s k : Nat) : Int)) rfl Try.underlying5 Try.underlying3 (by rw [IntKind.wrap_i64]; omega)) rfl rfl rfl ?_; clear hf fa; intro fa hf
      refine sqdt hf (d_callS (vs := [(.int .i64 ((sbt s k : Nat) : Int))]) rfl Try.func35 (by kernel_rfl) (by kernel_rfl) (rval2_any ((sbt s k : Nat) : Int) _)) rfl rfl rfl ?_; clear hf fa; rintro fa _ _ ⟨rfl, rfl⟩ hf
      refine sqv hf (r_assign rfl) rfl rfl rfl ?_; clear hf fa; intro fa hf
      apply wpList_nil
      (try simp only [Exit.then, Exit.inBlock, ↓reduceIte, Nat.reduceEqDiff])
      refine hK7 _ _ ?_
      refine wp_seq_k (fun K8 hK8 => ?_)
      refine wp_region_lit ?_
      refine sqv hf (r_move rfl) rfl rfl rfl ?_; clear hf fa; intro fa hf
      refine sqv hf (r_ne rfl rfl) rfl rfl rfl ?_; clear hf fa; intro fa hf
      apply wpList_nil
      (try simp only [Exit.then, Exit.inBlock, ↓reduceIte, Nat.reduceEqDiff])
      refine hK8 _ _ ?_
      refine wp_cond_split (t := (decide (((tvalP ((sbt s k : Nat) : Int))) ≠ (0 : Int)))) (hf.ev rfl) (fun hqt17_1 => ?_) (fun hqt17_1 => ?_)
      · have hqt17_1b := hqt17_1
        try simp only [decide_eq_true_eq, Bool.and_eq_true, Bool.or_eq_true, Bool.not_eq_true', decide_eq_false_iff_not, ne_eq, Bool.not_eq_true] at hqt17_1
        refine wp_seq_k (fun K9 hK9 => ?_)
        refine wp_region_lit ?_
        refine sqv hf (r_move rfl) rfl rfl rfl ?_; clear hf fa; intro fa hf
        refine sqv hf (r_assign rfl) rfl rfl rfl ?_; clear hf fa; intro fa hf
        apply wpList_nil
        (try simp only [Exit.then, Exit.inBlock, ↓reduceIte, Nat.reduceEqDiff])
        refine hK9 _ _ ?_
        refine wp_ret ?_
        (try simp only [Exit.then, Exit.inBlock])
        refine ret1 hf rfl rfl ?_
        refine ⟨congrArg (fun n => Ending.returned (.int .i64 n)) ?_, hb⟩; rw [Hs, drop_at (nums_get (by omega)), valsR, if_pos hqt17_1]
      · have hqt17_1b := hqt17_1
        replace hqt17_1 := Bool.eq_false_iff.1 hqt17_1
        try simp only [ne_eq, decide_eq_true_eq, Bool.and_eq_true, Bool.or_eq_true, Bool.not_eq_true', decide_eq_false_iff_not] at hqt17_1
        refine wp_skip ?_
        (try simp only [Exit.then, Exit.inBlock, ↓reduceIte, Nat.reduceEqDiff])
        refine hK6 _ _ ?_
        refine wp_region_lit ?_
        refine sqv hf (r_move rfl) rfl rfl rfl ?_; clear hf fa; intro fa hf
        refine sqv hf (r_add (C := (((k : Nat) : Int) + (1 : Int))) rfl rfl (by rw [IntKind.wrap_i64]; omega)) rfl rfl rfl ?_; clear hf fa; intro fa hf
        refine sqv hf (r_assign rfl) rfl rfl rfl ?_; clear hf fa; intro fa hf
        apply wpList_nil
        (try simp only [Exit.then, Exit.inBlock, ↓reduceIte, Nat.reduceEqDiff])
        refine hKL1 _ _ _ (by omega) ⟨(k + 1), rfl, hf.sub ⟨rfl, (some_int (by first | rfl | omega)), trivial⟩, hb, by omega, (by have h := Hs; rw [drop_at (nums_get (by omega)), valsR, if_neg hqt17_1] at h; exact h)⟩
    · have hqt8_1b := hqt8_1
      replace hqt8_1 := Bool.eq_false_iff.1 hqt8_1
      try simp only [ne_eq, decide_eq_true_eq, Bool.and_eq_true, Bool.or_eq_true, Bool.not_eq_true', decide_eq_false_iff_not] at hqt8_1
      refine wp_exit ?_
      (try simp only [Exit.then, Exit.inBlock, ↓reduceIte, Nat.reduceEqDiff])
      refine hK2 _ _ ?_
      refine wp_seq_k (fun K10 hK10 => ?_)
      refine wp_region_lit ?_
      refine sqv hf (r_assign rfl) rfl rfl rfl ?_; clear hf fa; intro fa hf
      apply wpList_nil
      (try simp only [Exit.then, Exit.inBlock, ↓reduceIte, Nat.reduceEqDiff])
      refine hK10 _ _ ?_
      refine wp_ret ?_
      (try simp only [Exit.then, Exit.inBlock])
      refine ret1 hf rfl rfl ?_
      refine ⟨congrArg (fun n => Ending.returned (.int .i64 n)) ?_, hb⟩; rw [Hs, List.drop_eq_nil_of_le (by rw [nums_len]; omega), valsR]

def tfuncP (t : MFt) : Int :=
  bif ((decide ((1000 : Int) < ((t.1.size : Nat) : Int))) || (decide ((1 : Int) < ((t.2.1.size : Nat) : Int)))) then (29 : Int)
  else bif (decide (((valsP t.1)) ≠ (0 : Int))) then (valsP t.1)
  else (valsP t.2.1)

set_option maxHeartbeats 1000000 in
set_option maxRecDepth 100000 in
theorem tfunc_any (t : MFt) (w : World) (h1 : t.1.size ≤ 1100) (h2 : t.2.1.size ≤ 300) : Calls Try.prog 42 #[(.agg #[(.string t.1), (.string t.2.1)])] w fun e w' => e = .returned (.int .i64 ((tfuncP t))) ∧ Below w.heap.size w w' := by
  refine sx_enter (L := [(0, (.agg #[(.string t.1), (.string t.2.1)]))]) Try.func42 rfl rfl rfl rfl (fun fa hf => ?_)
  have hb : Below w.heap.size w w := Below.refl _ _
  refine wp_seq_k (fun K1 hK1 => ?_)
  refine wp_region_lit ?_
  refine sqdt hf (d_box (cs := #[(.string t.1), (.string t.2.1)]) rfl rfl) rfl rfl rfl ?_; clear hf fa; rintro fa _ w1 ⟨b1, rfl, hle1, hk1, he1⟩ hf
  have hBb1 : w.heap.size ≤ b1 := Nat.le_trans hb.size hle1
  replace hb := hb.trans (Below.mono he1 hb.size)
  refine sqv hf (r_assign rfl) rfl rfl rfl ?_; clear hf fa; intro fa hf
  apply wpList_nil
  (try simp only [Exit.then, Exit.inBlock, ↓reduceIte, Nat.reduceEqDiff])
  refine hK1 _ _ ?_
  refine wp_seq_k (fun K2 hK2 => ?_)
  refine wp_seq_k (fun K3 hK3 => ?_)
  refine wp_region_lit ?_
  refine sqv hf (r_fa rfl Try.underlying67 (f := 0) (q := 0) rfl (by kernel_rfl) rfl) rfl rfl rfl ?_; clear hf fa; intro fa hf
  refine sqv hf (r_load (v := (.string t.1)) rfl Try.underlying9 rfl (cell_blk hk1 rfl)) rfl rfl rfl ?_; clear hf fa; intro fa hf
  refine sqv hf (r_lens rfl Try.underlying9) rfl rfl rfl ?_; clear hf fa; intro fa hf
  refine sqv hf (r_gt rfl rfl) rfl rfl rfl ?_; clear hf fa; intro fa hf
  refine sqv hf (r_move rfl) rfl rfl rfl ?_; clear hf fa; intro fa hf
  refine sqgF (act := (!(decide ((1000 : Int) < ((t.1.size : Nat) : Int))))) (ag := true) (c := (decide ((1000 : Int) < ((t.1.size : Nat) : Int)))) (v := (.pointer (some ⟨b1, 1, none⟩))) hf rfl rfl rfl (fun hact => (r_fa rfl Try.underlying67 (f := 1) (q := 1) rfl (by kernel_rfl) rfl)) rfl rfl ?_; clear hf fa; intro fa hf
  refine sqgF (act := (!(decide ((1000 : Int) < ((t.1.size : Nat) : Int))))) (ag := true) (c := (decide ((1000 : Int) < ((t.1.size : Nat) : Int)))) (v := (.string t.2.1)) hf rfl rfl rfl (fun hact => (r_load (v := (.string t.2.1)) (gb_ev hact rfl) Try.underlying9 rfl (cell_blk hk1 rfl))) rfl rfl ?_; clear hf fa; intro fa hf
  refine sqgF (act := (!(decide ((1000 : Int) < ((t.1.size : Nat) : Int))))) (ag := true) (c := (decide ((1000 : Int) < ((t.1.size : Nat) : Int)))) (v := (.int .i64 ((t.2.1.size : Nat) : Int))) hf rfl rfl rfl (fun hact => (r_lens (gb_ev hact rfl) Try.underlying9)) rfl rfl ?_; clear hf fa; intro fa hf
  refine sqgF (act := (!(decide ((1000 : Int) < ((t.1.size : Nat) : Int))))) (ag := true) (c := (decide ((1000 : Int) < ((t.1.size : Nat) : Int)))) (v := (.bool (decide ((1 : Int) < ((t.2.1.size : Nat) : Int))))) hf rfl rfl rfl (fun hact => (r_gt (gb_ev hact rfl) rfl)) rfl rfl ?_; clear hf fa; intro fa hf
  refine sqv hf (r_pickO (b := (decide ((1000 : Int) < ((t.1.size : Nat) : Int)))) (e := (decide ((1 : Int) < ((t.2.1.size : Nat) : Int)))) rfl rfl rfl) rfl rfl rfl ?_; clear hf fa; intro fa hf
  apply wpList_nil
  (try simp only [Exit.then, Exit.inBlock, ↓reduceIte, Nat.reduceEqDiff])
  refine hK3 _ _ ?_
  refine wp_cond_split (t := ((decide ((1000 : Int) < ((t.1.size : Nat) : Int))) || (decide ((1 : Int) < ((t.2.1.size : Nat) : Int))))) (hf.ev rfl) (fun hqt13_1 => ?_) (fun hqt13_1 => ?_)
  · have hqt13_1b := hqt13_1
    try simp only [decide_eq_true_eq, Bool.and_eq_true, Bool.or_eq_true, Bool.not_eq_true', decide_eq_false_iff_not, ne_eq, Bool.not_eq_true] at hqt13_1
    refine wp_seq_k (fun K4 hK4 => ?_)
    refine wp_region_lit ?_
    refine sqv hf (r_assign rfl) rfl rfl rfl ?_; clear hf fa; intro fa hf
    apply wpList_nil
    (try simp only [Exit.then, Exit.inBlock, ↓reduceIte, Nat.reduceEqDiff])
    refine hK4 _ _ ?_
    refine wp_ret ?_
    (try simp only [Exit.then, Exit.inBlock])
    refine ret1 hf rfl rfl ?_
    refine ⟨?_, hb⟩; unfold tfuncP; rw [hqt13_1b]; (try rfl)
  · have hqt13_1b := hqt13_1
    replace hqt13_1 := Bool.eq_false_iff.1 hqt13_1
    try simp only [ne_eq, decide_eq_true_eq, Bool.and_eq_true, Bool.or_eq_true, Bool.not_eq_true', decide_eq_false_iff_not] at hqt13_1
    refine wp_skip ?_
    (try simp only [Exit.then, Exit.inBlock, ↓reduceIte, Nat.reduceEqDiff])
    refine hK2 _ _ ?_
    refine wp_seq_k (fun K5 hK5 => ?_)
    refine wp_seq_k (fun K6 hK6 => ?_)
    refine wp_region_lit ?_
    refine sqv hf (r_fa rfl Try.underlying67 (f := 0) (q := 0) rfl (by kernel_rfl) rfl) rfl rfl rfl ?_; clear hf fa; intro fa hf
    refine sqv hf (r_load (v := (.string t.1)) rfl Try.underlying9 rfl (cell_blk hk1 rfl)) rfl rfl rfl ?_; clear hf fa; intro fa hf
    refine sqdt hf (d_callB (vs := [(.string t.1)]) rfl Try.func44 (by kernel_rfl) (by kernel_rfl) (values_any t.1 _ (by omega))) rfl rfl rfl ?_; clear hf fa; rintro fa _ w2 ⟨rfl, he2⟩ hf
    replace hk1 := blk_ext hk1 he2
    replace hb := hb.trans (Below.mono he2 hb.size)
    refine sqv hf (r_assign rfl) rfl rfl rfl ?_; clear hf fa; intro fa hf
    apply wpList_nil
    (try simp only [Exit.then, Exit.inBlock, ↓reduceIte, Nat.reduceEqDiff])
    refine hK6 _ _ ?_
    refine wp_seq_k (fun K7 hK7 => ?_)
    refine wp_region_lit ?_
    refine sqv hf (r_move rfl) rfl rfl rfl ?_; clear hf fa; intro fa hf
    refine sqv hf (r_ne rfl rfl) rfl rfl rfl ?_; clear hf fa; intro fa hf
    apply wpList_nil
    (try simp only [Exit.then, Exit.inBlock, ↓reduceIte, Nat.reduceEqDiff])
    refine hK7 _ _ ?_
    refine wp_cond_split (t := (decide (((valsP t.1)) ≠ (0 : Int)))) (hf.ev rfl) (fun hqt18_1 => ?_) (fun hqt18_1 => ?_)
    · have hqt18_1b := hqt18_1
      try simp only [decide_eq_true_eq, Bool.and_eq_true, Bool.or_eq_true, Bool.not_eq_true', decide_eq_false_iff_not, ne_eq, Bool.not_eq_true] at hqt18_1
      refine wp_seq_k (fun K8 hK8 => ?_)
      refine wp_region_lit ?_
      refine sqv hf (r_move rfl) rfl rfl rfl ?_; clear hf fa; intro fa hf
      refine sqv hf (r_assign rfl) rfl rfl rfl ?_; clear hf fa; intro fa hf
      apply wpList_nil
      (try simp only [Exit.then, Exit.inBlock, ↓reduceIte, Nat.reduceEqDiff])
      refine hK8 _ _ ?_
      refine wp_ret ?_
      (try simp only [Exit.then, Exit.inBlock])
      refine ret1 hf rfl rfl ?_
      refine ⟨?_, hb⟩; unfold tfuncP; rw [hqt13_1b, hqt18_1b]; (try rfl)
    · have hqt18_1b := hqt18_1
      replace hqt18_1 := Bool.eq_false_iff.1 hqt18_1
      try simp only [ne_eq, decide_eq_true_eq, Bool.and_eq_true, Bool.or_eq_true, Bool.not_eq_true', decide_eq_false_iff_not] at hqt18_1
      refine wp_skip ?_
      (try simp only [Exit.then, Exit.inBlock, ↓reduceIte, Nat.reduceEqDiff])
      refine hK5 _ _ ?_
      refine wp_seq_k (fun K9 hK9 => ?_)
      refine wp_region_lit ?_
      refine sqv hf (r_fa rfl Try.underlying67 (f := 1) (q := 1) rfl (by kernel_rfl) rfl) rfl rfl rfl ?_; clear hf fa; intro fa hf
      refine sqv hf (r_load (v := (.string t.2.1)) rfl Try.underlying9 rfl (cell_blk hk1 rfl)) rfl rfl rfl ?_; clear hf fa; intro fa hf
      refine sqdt hf (d_callB (vs := [(.string t.2.1)]) rfl Try.func44 (by kernel_rfl) (by kernel_rfl) (values_any t.2.1 _ (by omega))) rfl rfl rfl ?_; clear hf fa; rintro fa _ w3 ⟨rfl, he3⟩ hf
      replace hk1 := blk_ext hk1 he3
      replace hb := hb.trans (Below.mono he3 hb.size)
      refine sqv hf (r_assign rfl) rfl rfl rfl ?_; clear hf fa; intro fa hf
      apply wpList_nil
      (try simp only [Exit.then, Exit.inBlock, ↓reduceIte, Nat.reduceEqDiff])
      refine hK9 _ _ ?_
      refine wp_ret ?_
      (try simp only [Exit.then, Exit.inBlock])
      refine ret1 hf rfl rfl ?_
      refine ⟨?_, hb⟩; unfold tfuncP; rw [hqt13_1b, hqt18_1b]; (try rfl)

def rfuncP (t : MFt) : Int :=
  bif ((decide ((1000 : Int) < ((t.1.size : Nat) : Int))) || (decide ((1 : Int) < ((t.2.1.size : Nat) : Int)))) then (29 : Int)
  else (valsP (t.1 ++ t.2.1))

set_option maxHeartbeats 1000000 in
set_option maxRecDepth 100000 in
theorem rfunc_any (t : MFt) (w : World) (h1 : t.1.size ≤ 1100) (h2 : t.2.1.size ≤ 300) : Calls Try.prog 43 #[(.agg #[(.string t.1), (.string t.2.1)])] w fun e w' => e = .returned (.int .i64 ((rfuncP t))) ∧ Below w.heap.size w w' := by
  refine sx_enter (L := [(0, (.agg #[(.string t.1), (.string t.2.1)]))]) Try.func43 rfl rfl rfl rfl (fun fa hf => ?_)
  have hb : Below w.heap.size w w := Below.refl _ _
  refine wp_seq_k (fun K1 hK1 => ?_)
  refine wp_region_lit ?_
  refine sqdt hf (d_box (cs := #[(.string t.1), (.string t.2.1)]) rfl rfl) rfl rfl rfl ?_; clear hf fa; rintro fa _ w1 ⟨b1, rfl, hle1, hk1, he1⟩ hf
  have hBb1 : w.heap.size ≤ b1 := Nat.le_trans hb.size hle1
  replace hb := hb.trans (Below.mono he1 hb.size)
  refine sqv hf (r_assign rfl) rfl rfl rfl ?_; clear hf fa; intro fa hf
  apply wpList_nil
  (try simp only [Exit.then, Exit.inBlock, ↓reduceIte, Nat.reduceEqDiff])
  refine hK1 _ _ ?_
  refine wp_seq_k (fun K2 hK2 => ?_)
  refine wp_seq_k (fun K3 hK3 => ?_)
  refine wp_region_lit ?_
  refine sqv hf (r_fa rfl Try.underlying67 (f := 0) (q := 0) rfl (by kernel_rfl) rfl) rfl rfl rfl ?_; clear hf fa; intro fa hf
  refine sqv hf (r_load (v := (.string t.1)) rfl Try.underlying9 rfl (cell_blk hk1 rfl)) rfl rfl rfl ?_; clear hf fa; intro fa hf
  refine sqv hf (r_lens rfl Try.underlying9) rfl rfl rfl ?_; clear hf fa; intro fa hf
  refine sqv hf (r_gt rfl rfl) rfl rfl rfl ?_; clear hf fa; intro fa hf
  refine sqv hf (r_move rfl) rfl rfl rfl ?_; clear hf fa; intro fa hf
  refine sqgF (act := (!(decide ((1000 : Int) < ((t.1.size : Nat) : Int))))) (ag := true) (c := (decide ((1000 : Int) < ((t.1.size : Nat) : Int)))) (v := (.pointer (some ⟨b1, 1, none⟩))) hf rfl rfl rfl (fun hact => (r_fa rfl Try.underlying67 (f := 1) (q := 1) rfl (by kernel_rfl) rfl)) rfl rfl ?_; clear hf fa; intro fa hf
  refine sqgF (act := (!(decide ((1000 : Int) < ((t.1.size : Nat) : Int))))) (ag := true) (c := (decide ((1000 : Int) < ((t.1.size : Nat) : Int)))) (v := (.string t.2.1)) hf rfl rfl rfl (fun hact => (r_load (v := (.string t.2.1)) (gb_ev hact rfl) Try.underlying9 rfl (cell_blk hk1 rfl))) rfl rfl ?_; clear hf fa; intro fa hf
  refine sqgF (act := (!(decide ((1000 : Int) < ((t.1.size : Nat) : Int))))) (ag := true) (c := (decide ((1000 : Int) < ((t.1.size : Nat) : Int)))) (v := (.int .i64 ((t.2.1.size : Nat) : Int))) hf rfl rfl rfl (fun hact => (r_lens (gb_ev hact rfl) Try.underlying9)) rfl rfl ?_; clear hf fa; intro fa hf
  refine sqgF (act := (!(decide ((1000 : Int) < ((t.1.size : Nat) : Int))))) (ag := true) (c := (decide ((1000 : Int) < ((t.1.size : Nat) : Int)))) (v := (.bool (decide ((1 : Int) < ((t.2.1.size : Nat) : Int))))) hf rfl rfl rfl (fun hact => (r_gt (gb_ev hact rfl) rfl)) rfl rfl ?_; clear hf fa; intro fa hf
  refine sqv hf (r_pickO (b := (decide ((1000 : Int) < ((t.1.size : Nat) : Int)))) (e := (decide ((1 : Int) < ((t.2.1.size : Nat) : Int)))) rfl rfl rfl) rfl rfl rfl ?_; clear hf fa; intro fa hf
  apply wpList_nil
  (try simp only [Exit.then, Exit.inBlock, ↓reduceIte, Nat.reduceEqDiff])
  refine hK3 _ _ ?_
  refine wp_cond_split (t := ((decide ((1000 : Int) < ((t.1.size : Nat) : Int))) || (decide ((1 : Int) < ((t.2.1.size : Nat) : Int))))) (hf.ev rfl) (fun hqt12_1 => ?_) (fun hqt12_1 => ?_)
  · have hqt12_1b := hqt12_1
    try simp only [decide_eq_true_eq, Bool.and_eq_true, Bool.or_eq_true, Bool.not_eq_true', decide_eq_false_iff_not, ne_eq, Bool.not_eq_true] at hqt12_1
    refine wp_seq_k (fun K4 hK4 => ?_)
    refine wp_region_lit ?_
    refine sqv hf (r_assign rfl) rfl rfl rfl ?_; clear hf fa; intro fa hf
    apply wpList_nil
    (try simp only [Exit.then, Exit.inBlock, ↓reduceIte, Nat.reduceEqDiff])
    refine hK4 _ _ ?_
    refine wp_ret ?_
    (try simp only [Exit.then, Exit.inBlock])
    refine ret1 hf rfl rfl ?_
    refine ⟨?_, hb⟩; unfold rfuncP; rw [hqt12_1b]; (try rfl)
  · have hqt12_1b := hqt12_1
    replace hqt12_1 := Bool.eq_false_iff.1 hqt12_1
    try simp only [ne_eq, decide_eq_true_eq, Bool.and_eq_true, Bool.or_eq_true, Bool.not_eq_true', decide_eq_false_iff_not] at hqt12_1
    refine wp_skip ?_
    (try simp only [Exit.then, Exit.inBlock, ↓reduceIte, Nat.reduceEqDiff])
    refine hK2 _ _ ?_
    refine wp_seq_k (fun K5 hK5 => ?_)
    refine wp_region_lit ?_
    refine sqv hf (r_fa rfl Try.underlying67 (f := 0) (q := 0) rfl (by kernel_rfl) rfl) rfl rfl rfl ?_; clear hf fa; intro fa hf
    refine sqv hf (r_load (v := (.string t.1)) rfl Try.underlying9 rfl (cell_blk hk1 rfl)) rfl rfl rfl ?_; clear hf fa; intro fa hf
    refine sqv hf (r_fa rfl Try.underlying67 (f := 1) (q := 1) rfl (by kernel_rfl) rfl) rfl rfl rfl ?_; clear hf fa; intro fa hf
    refine sqv hf (r_load (v := (.string t.2.1)) rfl Try.underlying9 rfl (cell_blk hk1 rfl)) rfl rfl rfl ?_; clear hf fa; intro fa hf
    refine sqv hf (r_sadd rfl rfl (by omega)) rfl rfl rfl ?_; clear hf fa; intro fa hf
    refine sqdt hf (d_callB (vs := [(.string (t.1 ++ t.2.1))]) rfl Try.func45 (by kernel_rfl) (by kernel_rfl) (rvalues_any (t.1 ++ t.2.1) _ (by have := sz_app t.1 t.2.1; omega))) rfl rfl rfl ?_; clear hf fa; rintro fa _ w2 ⟨rfl, he2⟩ hf
    replace hk1 := blk_ext hk1 he2
    replace hb := hb.trans (Below.mono he2 hb.size)
    refine sqv hf (r_assign rfl) rfl rfl rfl ?_; clear hf fa; intro fa hf
    apply wpList_nil
    (try simp only [Exit.then, Exit.inBlock, ↓reduceIte, Nat.reduceEqDiff])
    refine hK5 _ _ ?_
    refine wp_ret ?_
    (try simp only [Exit.then, Exit.inBlock])
    refine ret1 hf rfl rfl ?_
    refine ⟨?_, hb⟩; unfold rfuncP; rw [hqt12_1b]; (try rfl)

theorem func_eq (t : MFt) : rfuncP t = tfuncP t := by
  unfold rfuncP tfuncP valsP
  rw [nums_app, valsR_app]
  by_cases h : valsR (nums t.1) = 0
  · simp [h]
  · simp [h]

def encF (t : MFt) : List Int := [(96 : Int)] ++ uL t.1.size ++ nums t.1 ++ uL t.2.1.size ++ nums t.2.1
def cntS (n : Nat) : ByteArray := strOfNums (uL n)
theorem cntS_le {n : Nat} (h : n < 2 ^ 64) : (cntS n).size ≤ 10 := by unfold cntS; rw [strOfNums_size]; exact (uL_len n h).2
theorem encF_str (t : MFt) : strOfNums (encF t) = (((((⟨#[96]⟩ : ByteArray) ++ cntS t.1.size) ++ t.1) ++ cntS t.2.1.size) ++ t.2.1) := by
  unfold encF cntS
  rw [strOfNums_app, strOfNums_app, strOfNums_app, strOfNums_app, strOfNums_nums, strOfNums_nums]; rfl

set_option maxHeartbeats 1000000 in
set_option maxRecDepth 100000 in
theorem encf_any (t : MFt) (w : World) (h1 : t.1.size ≤ 1100) (h2 : t.2.1.size ≤ 300) : Calls Try.prog 47 #[(.agg #[(.string t.1), (.string t.2.1)])] w fun e w' => ∃ v, e = .returned v ∧ Row 1 (vInt .u8) 5 w.heap.size w' v (encF t) ∧ Below w.heap.size w w' := by
  have hu1 := uL_len t.1.size (by omega); have hu2 := uL_len t.2.1.size (by omega)
  refine sx_enter (L := [(0, (.agg #[(.string t.1), (.string t.2.1)]))]) Try.func47 rfl rfl rfl rfl (fun fa hf => ?_)
  have hb : Below w.heap.size w w := Below.refl _ _
  refine wp_seq_k (fun K1 hK1 => ?_)
  refine wp_region_lit ?_
  refine sqdt hf (d_box (cs := #[(.string t.1), (.string t.2.1)]) rfl rfl) rfl rfl rfl ?_; clear hf fa; rintro fa _ w1 ⟨b1, rfl, hle1, hk1, he1⟩ hf
  have hBb1 : w.heap.size ≤ b1 := Nat.le_trans hb.size hle1
  replace hb := hb.trans (Below.mono he1 hb.size)
  refine sqv hf (r_assign rfl) rfl rfl rfl ?_; clear hf fa; intro fa hf
  apply wpList_nil
  (try simp only [Exit.then, Exit.inBlock, ↓reduceIte, Nat.reduceEqDiff])
  refine hK1 _ _ ?_
  refine wp_seq_k (fun K2 hK2 => ?_)
  refine wp_region_lit ?_
  refine sqdt hf (d_bslice (z := (.int .u8 (0 : Int))) (sz := 1) (vs := [(0, (.int .u8 (96 : Int)))]) (cs := #[(.int .u8 (96 : Int))]) rfl Try.underlying47 (by kernel_rfl) rfl (by kernel_rfl)) rfl rfl rfl ?_; clear hf fa; rintro fa _ w2 ⟨b2, rfl, hle2, hk2, he2⟩ hf
  have hBb2 : w.heap.size ≤ b2 := Nat.le_trans hb.size hle2
  have : b1 < b2 := Nat.lt_of_lt_of_le (blk_lt hk1) hle2
  replace hk1 := blk_ext hk1 he2
  replace hb := hb.trans (Below.mono he2 hb.size)
  refine sqv hf (r_fa rfl Try.underlying67 (f := 0) (q := 0) rfl (by kernel_rfl) rfl) rfl rfl rfl ?_; clear hf fa; intro fa hf
  refine sqv hf (r_load (v := (.string t.1)) rfl Try.underlying9 rfl (cell_blk hk1 rfl)) rfl rfl rfl ?_; clear hf fa; intro fa hf
  refine sqv hf (r_lens rfl Try.underlying9) rfl rfl rfl ?_; clear hf fa; intro fa hf
  refine sqv hf (r_conv (C := ((t.1.size : Nat) : Int)) rfl Try.underlying3 Try.underlying55 (by rw [IntKind.wrap_u64]; omega)) rfl rfl rfl ?_; clear hf fa; intro fa hf
  refine sqdt hf (d_callX (vs := [(.int .u64 ((t.1.size : Nat) : Int))]) rfl Try.func110 (by kernel_rfl) (by kernel_rfl) (uint_row t.1.size (by omega) _)) rfl rfl rfl ?_; clear hf fa; rintro fa v w3 ⟨hr1, he3⟩ hf; obtain ⟨ra1, rc1, rfl, hcrc1, hmrc1⟩ := Row.slice hr1
  replace hr1 := Row.rebase hr1 hb.size
  replace hk1 := blk_ext hk1 he3
  replace hk2 := blk_ext hk2 he3
  replace hb := hb.trans (Below.mono he3 hb.size)
  have hul357 := uL_len t.1.size (by omega)
  have hr2 := Row.of_new (k := 1) (V := (vInt .u8)) (l := [(96 : Int)]) (base := w.heap.size) hk2 hBb2 rfl rfl (by decide)
  refine sqdt hf (d_append (V := (vInt .u8)) (k := 1) (e := 5) (bytes := 1) (z := (.int .u8 (0 : Int))) (news := (uL t.1.size)) (base := w.heap.size) (by intros; rfl) (by intro x u hu; simp only [vInt, List.mem_singleton] at hu; subst hu; rfl) rfl rfl Try.underlying47 (by kernel_rfl) rfl rfl rfl hr2 (Row.rd (by intros; rfl) hr1) rfl (fun h => Row.nocap hr1 h) (by first | omega | (simp only [List.length_cons, List.length_nil, List.length_append, nums_len]; omega)) (by have := hb.size; omega)) rfl rfl rfl ?_; clear hf fa; rintro fa v w4 ⟨hr3, hg1⟩ hf; obtain ⟨ra2, rc2, rfl, hcrc2, hmrc2⟩ := Row.slice hr3
  replace hk1 := blk_row' hk1 hg1 (Row.ne_type hr2 hk1 rfl)
  replace hb := hb.trans (row_below hr2 hg1 hb.size (by have := hb.size; omega))
  refine sqv hf (r_assign rfl) rfl rfl rfl ?_; clear hf fa; intro fa hf
  apply wpList_nil
  (try simp only [Exit.then, Exit.inBlock, ↓reduceIte, Nat.reduceEqDiff])
  refine hK2 _ _ ?_
  refine wp_seq_k (fun K3 hK3 => ?_)
  refine wp_region_lit ?_
  refine sqv hf (r_move rfl) rfl rfl rfl ?_; clear hf fa; intro fa hf
  refine sqv hf (r_fa rfl Try.underlying67 (f := 0) (q := 0) rfl (by kernel_rfl) rfl) rfl rfl rfl ?_; clear hf fa; intro fa hf
  refine sqv hf (r_load (v := (.string t.1)) rfl Try.underlying9 rfl (cell_blk hk1 rfl)) rfl rfl rfl ?_; clear hf fa; intro fa hf
  refine sqdt hf (d_appendS (base := w.heap.size) (l := ([(96 : Int)] ++ (uL t.1.size))) rfl rfl Try.underlying47 Try.underlying9 (by kernel_rfl) hr3 (by first | omega | (simp only [List.length_cons, List.length_nil, List.length_append, nums_len]; omega)) (by have := hb.size; omega)) rfl rfl rfl ?_; clear hf fa; rintro fa v w5 ⟨hr4, hg2⟩ hf; obtain ⟨ra3, rc3, rfl, hcrc3, hmrc3⟩ := Row.slice hr4
  replace hk1 := blk_row' hk1 hg2 (Row.ne_type hr3 hk1 rfl)
  replace hb := hb.trans (row_below hr3 hg2 hb.size (by have := hb.size; omega))
  refine sqv hf (r_assign rfl) rfl rfl rfl ?_; clear hf fa; intro fa hf
  apply wpList_nil
  (try simp only [Exit.then, Exit.inBlock, ↓reduceIte, Nat.reduceEqDiff])
  refine hK3 _ _ ?_
  refine wp_seq_k (fun K4 hK4 => ?_)
  refine wp_region_lit ?_
  refine sqv hf (r_move rfl) rfl rfl rfl ?_; clear hf fa; intro fa hf
  refine sqv hf (r_fa rfl Try.underlying67 (f := 1) (q := 1) rfl (by kernel_rfl) rfl) rfl rfl rfl ?_; clear hf fa; intro fa hf
  refine sqv hf (r_load (v := (.string t.2.1)) rfl Try.underlying9 rfl (cell_blk hk1 rfl)) rfl rfl rfl ?_; clear hf fa; intro fa hf
  refine sqv hf (r_lens rfl Try.underlying9) rfl rfl rfl ?_; clear hf fa; intro fa hf
  refine sqv hf (r_conv (C := ((t.2.1.size : Nat) : Int)) rfl Try.underlying3 Try.underlying55 (by rw [IntKind.wrap_u64]; omega)) rfl rfl rfl ?_; clear hf fa; intro fa hf
  refine sqdt hf (d_callX (vs := [(.int .u64 ((t.2.1.size : Nat) : Int))]) rfl Try.func110 (by kernel_rfl) (by kernel_rfl) (uint_row t.2.1.size (by omega) _)) rfl rfl rfl ?_; clear hf fa; rintro fa v w6 ⟨hr5, he4⟩ hf; obtain ⟨ra4, rc4, rfl, hcrc4, hmrc4⟩ := Row.slice hr5
  replace hr5 := Row.rebase hr5 hb.size
  replace hk1 := blk_ext hk1 he4
  replace hr4 := Row.ext hr4 he4
  replace hb := hb.trans (Below.mono he4 hb.size)
  have hul37903 := uL_len t.2.1.size (by omega)
  refine sqdt hf (d_append (V := (vInt .u8)) (k := 1) (e := 5) (bytes := 1) (z := (.int .u8 (0 : Int))) (news := (uL t.2.1.size)) (base := w.heap.size) (by intros; rfl) (by intro x u hu; simp only [vInt, List.mem_singleton] at hu; subst hu; rfl) rfl rfl Try.underlying47 (by kernel_rfl) rfl rfl rfl hr4 (Row.rd (by intros; rfl) hr5) rfl (fun h => Row.nocap hr5 h) (by first | omega | (simp only [List.length_cons, List.length_nil, List.length_append, nums_len]; omega)) (by have := hb.size; omega)) rfl rfl rfl ?_; clear hf fa; rintro fa v w7 ⟨hr6, hg3⟩ hf; obtain ⟨ra5, rc5, rfl, hcrc5, hmrc5⟩ := Row.slice hr6
  replace hk1 := blk_row' hk1 hg3 (Row.ne_type hr4 hk1 rfl)
  replace hb := hb.trans (row_below hr4 hg3 hb.size (by have := hb.size; omega))
  refine sqv hf (r_assign rfl) rfl rfl rfl ?_; clear hf fa; intro fa hf
  apply wpList_nil
  (try simp only [Exit.then, Exit.inBlock, ↓reduceIte, Nat.reduceEqDiff])
  refine hK4 _ _ ?_
  refine wp_seq_k (fun K5 hK5 => ?_)
  refine wp_region_lit ?_
  refine sqv hf (r_move rfl) rfl rfl rfl ?_; clear hf fa; intro fa hf
  refine sqv hf (r_fa rfl Try.underlying67 (f := 1) (q := 1) rfl (by kernel_rfl) rfl) rfl rfl rfl ?_; clear hf fa; intro fa hf
  refine sqv hf (r_load (v := (.string t.2.1)) rfl Try.underlying9 rfl (cell_blk hk1 rfl)) rfl rfl rfl ?_; clear hf fa; intro fa hf
  refine sqdt hf (d_appendS (base := w.heap.size) (l := ((([(96 : Int)] ++ (uL t.1.size)) ++ (nums t.1)) ++ (uL t.2.1.size))) rfl rfl Try.underlying47 Try.underlying9 (by kernel_rfl) hr6 (by first | omega | (simp only [List.length_cons, List.length_nil, List.length_append, nums_len]; omega)) (by have := hb.size; omega)) rfl rfl rfl ?_; clear hf fa; rintro fa v w8 ⟨hr7, hg4⟩ hf; obtain ⟨ra6, rc6, rfl, hcrc6, hmrc6⟩ := Row.slice hr7
  replace hk1 := blk_row' hk1 hg4 (Row.ne_type hr6 hk1 rfl)
  replace hb := hb.trans (row_below hr6 hg4 hb.size (by have := hb.size; omega))
  refine sqv hf (r_assign rfl) rfl rfl rfl ?_; clear hf fa; intro fa hf
  apply wpList_nil
  (try simp only [Exit.then, Exit.inBlock, ↓reduceIte, Nat.reduceEqDiff])
  refine hK5 _ _ ?_
  refine wp_ret ?_
  (try simp only [Exit.then, Exit.inBlock])
  refine ret1 hf rfl rfl ?_
  exact ⟨_, rfl, hr7, hb⟩

set_option maxHeartbeats 1000000 in
set_option maxRecDepth 100000 in
theorem count_any (n : Nat) (w : World) (h : n < 4611686018427387904) : Calls Try.prog 111 #[(.int .i64 ((n : Nat) : Int))] w fun e w' => e = .returned (.string (cntS n)) ∧ Below w.heap.size w w' := by
  refine sx_enter (L := [(0, (.int .i64 ((n : Nat) : Int)))]) Try.func111 rfl rfl rfl rfl (fun fa hf => ?_)
  have hb : Below w.heap.size w w := Below.refl _ _
  refine wp_seq_k (fun K1 hK1 => ?_)
  refine wp_region_lit ?_
  refine sqv hf (r_assign rfl) rfl rfl rfl ?_; clear hf fa; intro fa hf
  apply wpList_nil
  (try simp only [Exit.then, Exit.inBlock, ↓reduceIte, Nat.reduceEqDiff])
  refine hK1 _ _ ?_
  refine wp_seq_k (fun K2 hK2 => ?_)
  refine wp_region_lit ?_
  refine sqv hf (r_move rfl) rfl rfl rfl ?_; clear hf fa; intro fa hf
  refine sqv hf (r_conv (C := ((n : Nat) : Int)) rfl Try.underlying3 Try.underlying55 (by rw [IntKind.wrap_u64]; omega)) rfl rfl rfl ?_; clear hf fa; intro fa hf
  refine sqdt hf (d_callX (vs := [(.int .u64 ((n : Nat) : Int))]) rfl Try.func148 (by kernel_rfl) (by kernel_rfl) (refUint_row n (by omega) _)) rfl rfl rfl ?_; clear hf fa; rintro fa v w1 ⟨hr1, he1⟩ hf; obtain ⟨ra1, rc1, rfl, hcrc1, hmrc1⟩ := Row.slice hr1
  replace hr1 := Row.rebase hr1 hb.size
  replace hb := hb.trans (Below.mono he1 hb.size)
  have hul67438 := uL_len n (by omega)
  refine sqv hf (r_rowstr rfl Try.underlying47 Try.underlying5 Try.underlying9 hr1) rfl rfl rfl ?_; clear hf fa; intro fa hf
  refine sqv hf (r_assign rfl) rfl rfl rfl ?_; clear hf fa; intro fa hf
  apply wpList_nil
  (try simp only [Exit.then, Exit.inBlock, ↓reduceIte, Nat.reduceEqDiff])
  refine hK2 _ _ ?_
  refine wp_ret ?_
  (try simp only [Exit.then, Exit.inBlock])
  refine ret1 hf rfl rfl ?_
  exact ⟨rfl, hb⟩

set_option maxHeartbeats 1000000 in
set_option maxRecDepth 100000 in
theorem rencf_any (t : MFt) (w : World) (h1 : t.1.size ≤ 1100) (h2 : t.2.1.size ≤ 300) : Calls Try.prog 48 #[(.agg #[(.string t.1), (.string t.2.1)])] w fun e w' => e = .returned (.string (strOfNums (encF t))) ∧ Below w.heap.size w w' := by
  refine sx_enter (L := [(0, (.agg #[(.string t.1), (.string t.2.1)]))]) Try.func48 rfl rfl rfl rfl (fun fa hf => ?_)
  have hb : Below w.heap.size w w := Below.refl _ _
  refine wp_seq_k (fun K1 hK1 => ?_)
  refine wp_region_lit ?_
  refine sqdt hf (d_box (cs := #[(.string t.1), (.string t.2.1)]) rfl rfl) rfl rfl rfl ?_; clear hf fa; rintro fa _ w1 ⟨b1, rfl, hle1, hk1, he1⟩ hf
  have hBb1 : w.heap.size ≤ b1 := Nat.le_trans hb.size hle1
  replace hb := hb.trans (Below.mono he1 hb.size)
  refine sqv hf (r_assign rfl) rfl rfl rfl ?_; clear hf fa; intro fa hf
  apply wpList_nil
  (try simp only [Exit.then, Exit.inBlock, ↓reduceIte, Nat.reduceEqDiff])
  refine hK1 _ _ ?_
  refine wp_seq_k (fun K2 hK2 => ?_)
  refine wp_region_un (fun wq => Below w1.heap.size w1 wq) (fun w w' => Below w.heap.size w w')
    (fun V => [(fun x _ => x = (.pointer (some ⟨b1, 0, none⟩))), (fun x _ => x = (.string t.1)), (fun x _ => x = (.int .i64 ((t.1.size : Nat) : Int))), (fun x _ => x = (.string (cntS t.1.size))), (fun x _ => x = (.string (⟨#[96]⟩ ++ (cntS t.1.size)))), (fun x _ => x = (.pointer (some ⟨b1, 0, none⟩))), (fun x _ => x = (.string t.1)), (fun x _ => x = (.string ((⟨#[96]⟩ ++ (cntS t.1.size)) ++ t.1))), (fun x _ => x = (.pointer (some ⟨b1, 1, none⟩))), (fun x _ => x = (.string t.2.1)), (fun x _ => x = (.int .i64 ((t.2.1.size : Nat) : Int))), (fun x _ => x = (.string (cntS t.2.1.size))), (fun x _ => x = (.string (((⟨#[96]⟩ ++ (cntS t.1.size)) ++ t.1) ++ (cntS t.2.1.size)))), (fun x _ => x = (.pointer (some ⟨b1, 1, none⟩))), (fun x _ => x = (.string t.2.1)), (fun x _ => x = (.string ((((⟨#[96]⟩ ++ (cntS t.1.size)) ++ t.1) ++ (cntS t.2.1.size)) ++ t.2.1))), (fun x _ => x = (.string ((((⟨#[96]⟩ ++ (cntS t.1.size)) ++ t.1) ++ (cntS t.2.1.size)) ++ t.2.1)))])
    []
    [[], [0], [1], [2], [3], [], [5], [4, 6], [], [8], [9], [3, 10], [7, 11], [], [13], [12, 14], [0, 1, 2, 3, 4, 5, 6, 7, 8, 9, 10, 11, 12, 13, 14, 15]]
    hf (by kernel_rfl) (by kernel_rfl) (fun _ => rfl) ((Below.refl _ _).drew) (fun a b h1 h2 => h1.trans (h2.mono h1.size)) (fun _ _ h => h.size) (fun V => ⟨kept_eq, kept_eq, kept_eq, kept_eq, kept_eq, kept_eq, kept_eq, kept_eq, kept_eq, kept_eq, kept_eq, kept_eq, kept_eq, kept_eq, kept_eq, kept_eq, kept_eq, trivial⟩) (fun _ _ _ _ _ => rfl) ?_ ?_
  · skip
    intro V
    refine ⟨fun wu0 hC hd => ?_, ?_⟩
    · clear hd
      replace hb := hb.trans (hC.mono hb.size)
      replace hk1 := blk_ext hk1 hC
      exact Runs.does (r_fa rfl Try.underlying67 (f := 0) (q := 0) rfl (by kernel_rfl) rfl) ⟨Below.refl _ _, rfl, nofr rfl⟩
    refine ⟨fun wu1 hC hd => ?_, ?_⟩
    · obtain ⟨h0, _⟩ := hd
      skip
      replace h0 : V 0 = (.pointer (some ⟨b1, 0, none⟩)) := h0
      replace hb := hb.trans (hC.mono hb.size)
      replace hk1 := blk_ext hk1 hC
      exact Runs.does (r_load (v := (.string t.1)) (congrArg some h0) Try.underlying9 rfl (cell_blk hk1 rfl)) ⟨Below.refl _ _, rfl, nofr rfl⟩
    refine ⟨fun wu2 hC hd => ?_, ?_⟩
    · obtain ⟨h1, _⟩ := hd
      skip
      replace h1 : V 1 = (.string t.1) := h1
      replace hb := hb.trans (hC.mono hb.size)
      replace hk1 := blk_ext hk1 hC
      exact Runs.does (r_lens (congrArg some h1) Try.underlying9) ⟨Below.refl _ _, rfl, nofr rfl⟩
    refine ⟨fun wu3 hC hd => ?_, ?_⟩
    · obtain ⟨h2, _⟩ := hd
      skip
      replace h2 : V 2 = (.int .i64 ((t.1.size : Nat) : Int)) := h2
      replace hb := hb.trans (hC.mono hb.size)
      replace hk1 := blk_ext hk1 hC
      refine Does.mono (d_callB (vs := [(.int .i64 ((t.1.size : Nat) : Int))]) (show [some (V 2)] = [some (.int .i64 ((t.1.size : Nat) : Int))] from by rw [h2]) Try.func111 (by kernel_rfl) (by kernel_rfl) (count_any t.1.size _ (by omega))) (fun _ _ h => ⟨h.2, h.1, nofr rfl⟩)
    refine ⟨fun wu4 hC hd => ?_, ?_⟩
    · obtain ⟨h3, _⟩ := hd
      skip
      replace h3 : V 3 = (.string (cntS t.1.size)) := h3
      replace hb := hb.trans (hC.mono hb.size)
      replace hk1 := blk_ext hk1 hC
      exact Runs.does (r_sadd rfl (congrArg some h3) (by have : ((⟨#[96]⟩) : ByteArray).size = 1 := rfl; have := cntS_le (n := t.1.size) (by omega); omega)) ⟨Below.refl _ _, rfl, nofr rfl⟩
    refine ⟨fun wu5 hC hd => ?_, ?_⟩
    · clear hd
      replace hb := hb.trans (hC.mono hb.size)
      replace hk1 := blk_ext hk1 hC
      exact Runs.does (r_fa rfl Try.underlying67 (f := 0) (q := 0) rfl (by kernel_rfl) rfl) ⟨Below.refl _ _, rfl, nofr rfl⟩
    refine ⟨fun wu6 hC hd => ?_, ?_⟩
    · obtain ⟨h5, _⟩ := hd
      skip
      replace h5 : V 5 = (.pointer (some ⟨b1, 0, none⟩)) := h5
      replace hb := hb.trans (hC.mono hb.size)
      replace hk1 := blk_ext hk1 hC
      exact Runs.does (r_load (v := (.string t.1)) (congrArg some h5) Try.underlying9 rfl (cell_blk hk1 rfl)) ⟨Below.refl _ _, rfl, nofr rfl⟩
    refine ⟨fun wu7 hC hd => ?_, ?_⟩
    · obtain ⟨h4, h6, _⟩ := hd
      skip
      skip
      replace h4 : V 4 = (.string (⟨#[96]⟩ ++ (cntS t.1.size))) := h4
      replace h6 : V 6 = (.string t.1) := h6
      replace hb := hb.trans (hC.mono hb.size)
      replace hk1 := blk_ext hk1 hC
      exact Runs.does (r_sadd (congrArg some h4) (congrArg some h6) (by have : ((⟨#[96]⟩) : ByteArray).size = 1 := rfl; have := cntS_le (n := t.1.size) (by omega); have := sz_app ⟨#[96]⟩ (cntS t.1.size); omega)) ⟨Below.refl _ _, rfl, nofr rfl⟩
    refine ⟨fun wu8 hC hd => ?_, ?_⟩
    · clear hd
      replace hb := hb.trans (hC.mono hb.size)
      replace hk1 := blk_ext hk1 hC
      exact Runs.does (r_fa rfl Try.underlying67 (f := 1) (q := 1) rfl (by kernel_rfl) rfl) ⟨Below.refl _ _, rfl, nofr rfl⟩
    refine ⟨fun wu9 hC hd => ?_, ?_⟩
    · obtain ⟨h8, _⟩ := hd
      skip
      replace h8 : V 8 = (.pointer (some ⟨b1, 1, none⟩)) := h8
      replace hb := hb.trans (hC.mono hb.size)
      replace hk1 := blk_ext hk1 hC
      exact Runs.does (r_load (v := (.string t.2.1)) (congrArg some h8) Try.underlying9 rfl (cell_blk hk1 rfl)) ⟨Below.refl _ _, rfl, nofr rfl⟩
    refine ⟨fun wu10 hC hd => ?_, ?_⟩
    · obtain ⟨h9, _⟩ := hd
      skip
      replace h9 : V 9 = (.string t.2.1) := h9
      replace hb := hb.trans (hC.mono hb.size)
      replace hk1 := blk_ext hk1 hC
      exact Runs.does (r_lens (congrArg some h9) Try.underlying9) ⟨Below.refl _ _, rfl, nofr rfl⟩
    refine ⟨fun wu11 hC hd => ?_, ?_⟩
    · obtain ⟨h3, h10, _⟩ := hd
      skip
      skip
      replace h3 : V 3 = (.string (cntS t.1.size)) := h3
      replace h10 : V 10 = (.int .i64 ((t.2.1.size : Nat) : Int)) := h10
      replace hb := hb.trans (hC.mono hb.size)
      replace hk1 := blk_ext hk1 hC
      refine Does.mono (d_callB (vs := [(.int .i64 ((t.2.1.size : Nat) : Int))]) (show [some (V 10)] = [some (.int .i64 ((t.2.1.size : Nat) : Int))] from by rw [h10]) Try.func111 (by kernel_rfl) (by kernel_rfl) (count_any t.2.1.size _ (by omega))) (fun _ _ h => ⟨h.2, h.1, nofr rfl⟩)
    refine ⟨fun wu12 hC hd => ?_, ?_⟩
    · obtain ⟨h7, h11, _⟩ := hd
      skip
      skip
      replace h7 : V 7 = (.string ((⟨#[96]⟩ ++ (cntS t.1.size)) ++ t.1)) := h7
      replace h11 : V 11 = (.string (cntS t.2.1.size)) := h11
      replace hb := hb.trans (hC.mono hb.size)
      replace hk1 := blk_ext hk1 hC
      exact Runs.does (r_sadd (congrArg some h7) (congrArg some h11) (by have : ((⟨#[96]⟩) : ByteArray).size = 1 := rfl; have := cntS_le (n := t.1.size) (by omega); have := sz_app ⟨#[96]⟩ (cntS t.1.size); have := sz_app (⟨#[96]⟩ ++ (cntS t.1.size)) t.1; have := cntS_le (n := t.2.1.size) (by omega); omega)) ⟨Below.refl _ _, rfl, nofr rfl⟩
    refine ⟨fun wu13 hC hd => ?_, ?_⟩
    · clear hd
      replace hb := hb.trans (hC.mono hb.size)
      replace hk1 := blk_ext hk1 hC
      exact Runs.does (r_fa rfl Try.underlying67 (f := 1) (q := 1) rfl (by kernel_rfl) rfl) ⟨Below.refl _ _, rfl, nofr rfl⟩
    refine ⟨fun wu14 hC hd => ?_, ?_⟩
    · obtain ⟨h13, _⟩ := hd
      skip
      replace h13 : V 13 = (.pointer (some ⟨b1, 1, none⟩)) := h13
      replace hb := hb.trans (hC.mono hb.size)
      replace hk1 := blk_ext hk1 hC
      exact Runs.does (r_load (v := (.string t.2.1)) (congrArg some h13) Try.underlying9 rfl (cell_blk hk1 rfl)) ⟨Below.refl _ _, rfl, nofr rfl⟩
    refine ⟨fun wu15 hC hd => ?_, ?_⟩
    · obtain ⟨h12, h14, _⟩ := hd
      skip
      skip
      replace h12 : V 12 = (.string (((⟨#[96]⟩ ++ (cntS t.1.size)) ++ t.1) ++ (cntS t.2.1.size))) := h12
      replace h14 : V 14 = (.string t.2.1) := h14
      replace hb := hb.trans (hC.mono hb.size)
      replace hk1 := blk_ext hk1 hC
      exact Runs.does (r_sadd (congrArg some h12) (congrArg some h14) (by have : ((⟨#[96]⟩) : ByteArray).size = 1 := rfl; have := cntS_le (n := t.1.size) (by omega); have := sz_app ⟨#[96]⟩ (cntS t.1.size); have := sz_app (⟨#[96]⟩ ++ (cntS t.1.size)) t.1; have := cntS_le (n := t.2.1.size) (by omega); have := sz_app ((⟨#[96]⟩ ++ (cntS t.1.size)) ++ t.1) (cntS t.2.1.size); omega)) ⟨Below.refl _ _, rfl, nofr rfl⟩
    refine ⟨fun wu16 hC hd => ?_, ?_⟩
    · obtain ⟨h0, h1, h2, h3, h4, h5, h6, h7, h8, h9, h10, h11, h12, h13, h14, h15, _⟩ := hd
      skip
      skip
      skip
      skip
      skip
      skip
      skip
      skip
      skip
      skip
      skip
      skip
      skip
      skip
      skip
      skip
      replace h0 : V 0 = (.pointer (some ⟨b1, 0, none⟩)) := h0
      replace h1 : V 1 = (.string t.1) := h1
      replace h2 : V 2 = (.int .i64 ((t.1.size : Nat) : Int)) := h2
      replace h3 : V 3 = (.string (cntS t.1.size)) := h3
      replace h4 : V 4 = (.string (⟨#[96]⟩ ++ (cntS t.1.size))) := h4
      replace h5 : V 5 = (.pointer (some ⟨b1, 0, none⟩)) := h5
      replace h6 : V 6 = (.string t.1) := h6
      replace h7 : V 7 = (.string ((⟨#[96]⟩ ++ (cntS t.1.size)) ++ t.1)) := h7
      replace h8 : V 8 = (.pointer (some ⟨b1, 1, none⟩)) := h8
      replace h9 : V 9 = (.string t.2.1) := h9
      replace h10 : V 10 = (.int .i64 ((t.2.1.size : Nat) : Int)) := h10
      replace h11 : V 11 = (.string (cntS t.2.1.size)) := h11
      replace h12 : V 12 = (.string (((⟨#[96]⟩ ++ (cntS t.1.size)) ++ t.1) ++ (cntS t.2.1.size))) := h12
      replace h13 : V 13 = (.pointer (some ⟨b1, 1, none⟩)) := h13
      replace h14 : V 14 = (.string t.2.1) := h14
      replace h15 : V 15 = (.string ((((⟨#[96]⟩ ++ (cntS t.1.size)) ++ t.1) ++ (cntS t.2.1.size)) ++ t.2.1)) := h15
      replace hb := hb.trans (hC.mono hb.size)
      replace hk1 := blk_ext hk1 hC
      exact Runs.does (r_assign (congrArg some h15)) ⟨Below.refl _ _, rfl, nofr rfl⟩
    trivial
  · skip
    clear hf fa; intro V w2 fa he2 hp hnb hf
    have hv0 : V 0 = (.pointer (some ⟨b1, 0, none⟩)) := postsHold_at hp 0 rfl
    have hv1 : V 1 = (.string t.1) := postsHold_at hp 1 rfl
    have hv2 : V 2 = (.int .i64 ((t.1.size : Nat) : Int)) := postsHold_at hp 2 rfl
    have hv3 : V 3 = (.string (cntS t.1.size)) := postsHold_at hp 3 rfl
    have hv4 : V 4 = (.string (⟨#[96]⟩ ++ (cntS t.1.size))) := postsHold_at hp 4 rfl
    have hv5 : V 5 = (.pointer (some ⟨b1, 0, none⟩)) := postsHold_at hp 5 rfl
    have hv6 : V 6 = (.string t.1) := postsHold_at hp 6 rfl
    have hv7 : V 7 = (.string ((⟨#[96]⟩ ++ (cntS t.1.size)) ++ t.1)) := postsHold_at hp 7 rfl
    have hv8 : V 8 = (.pointer (some ⟨b1, 1, none⟩)) := postsHold_at hp 8 rfl
    have hv9 : V 9 = (.string t.2.1) := postsHold_at hp 9 rfl
    have hv10 : V 10 = (.int .i64 ((t.2.1.size : Nat) : Int)) := postsHold_at hp 10 rfl
    have hv11 : V 11 = (.string (cntS t.2.1.size)) := postsHold_at hp 11 rfl
    have hv12 : V 12 = (.string (((⟨#[96]⟩ ++ (cntS t.1.size)) ++ t.1) ++ (cntS t.2.1.size))) := postsHold_at hp 12 rfl
    have hv13 : V 13 = (.pointer (some ⟨b1, 1, none⟩)) := postsHold_at hp 13 rfl
    have hv14 : V 14 = (.string t.2.1) := postsHold_at hp 14 rfl
    have hv15 : V 15 = (.string ((((⟨#[96]⟩ ++ (cntS t.1.size)) ++ t.1) ++ (cntS t.2.1.size)) ++ t.2.1)) := postsHold_at hp 15 rfl
    have hv16 : V 16 = (.string ((((⟨#[96]⟩ ++ (cntS t.1.size)) ++ t.1) ++ (cntS t.2.1.size)) ++ t.2.1)) := postsHold_at hp 16 rfl
    simp only [List.take_succ_cons, List.take_zero, insAll, ins, hv0, hv1, hv2, hv3, hv4, hv5, hv6, hv7, hv8, hv9, hv10, hv11, hv12, hv13, hv14, hv15, hv16] at hf
    clear hp hnb hv0 hv1 hv2 hv3 hv4 hv5 hv6 hv7 hv8 hv9 hv10 hv11 hv12 hv13 hv14 hv15 hv16
    replace hk1 := blk_ext hk1 he2
    replace hb := hb.trans (Below.mono he2 hb.size)
    (try simp only [Exit.then, Exit.inBlock, ↓reduceIte, Nat.reduceEqDiff])
    refine hK2 _ _ ?_
    refine wp_ret ?_
    (try simp only [Exit.then, Exit.inBlock])
    refine ret1 hf rfl rfl ?_
    rw [encF_str]; exact ⟨rfl, hb⟩
end Go.Proofs.Ytcmdajkkdognfaa
