/- What is proved here: Digits and Number, by the document. What is proved here: rules for maps of the call's own whose keys are strings and whose elements are bools (sets). What is proved here: rules for functions that write one block of the old memory (a scanner), and for calls of them. What is proved here: rules for functions that write several blocks of the old memory, for function values, for parts of slices, for bytes of strings. -/
import Derived.Test.YtpalmpfkliepfaaDoorTextBodiesMgAA
import Derived.Maps.Own
import Derived.Maps.Views
import Derived.StringKeys
import Derived.Lib.ConvBytes
import Derived.Laws.Pointers
namespace Go.Proofs.YtpalmpfkliepfaaDoor
open Go.RowKit Ut
set_option linter.unusedVariables false
set_option linter.unusedSimpArgs false
theorem dS_zero : dS 0 = ⟨#[48]⟩ := by unfold dS digB; rw [if_neg (by omega), show (0 : Int).natAbs = 0 from rfl, natB_lt (by decide)]; rfl
def natZ (n : Nat) : List Nat := if n = 0 then [] else natB n
theorem natZ_step {n : Nat} (h : n ≠ 0) : natZ n = natZ (n / 10) ++ [48 + n % 10] := by
  unfold natZ
  rw [if_neg h]
  by_cases h2 : n < 10
  · rw [if_pos (by omega), natB_lt h2, show n % 10 = n by omega]; rfl
  · rw [if_neg (by omega), natB_ge h2]
theorem tmod10 (m : Int) : (m < 0 → Int.tmod m 10 = -((m.natAbs % 10 : Nat) : Int)) ∧ (0 ≤ m → Int.tmod m 10 = ((m.natAbs % 10 : Nat) : Int)) := by
  constructor
  · intro h
    obtain ⟨a, rfl⟩ : ∃ a : Nat, m = -(a : Int) := ⟨m.natAbs, by omega⟩
    rw [Int.neg_tmod, Int.natAbs_neg, Int.natAbs_natCast]; rfl
  · intro h
    obtain ⟨a, rfl⟩ : ∃ a : Nat, m = (a : Int) := ⟨m.natAbs, by omega⟩
    rw [Int.natAbs_natCast]; rfl
theorem tdiv10 (m : Int) : (m < 0 → Int.tdiv m 10 = -((m.natAbs / 10 : Nat) : Int)) ∧ (0 ≤ m → Int.tdiv m 10 = ((m.natAbs / 10 : Nat) : Int)) := by
  constructor
  · intro h
    obtain ⟨a, rfl⟩ : ∃ a : Nat, m = -(a : Int) := ⟨m.natAbs, by omega⟩
    rw [Int.neg_tdiv, Int.natAbs_neg, Int.natAbs_natCast]; rfl
  · intro h
    obtain ⟨a, rfl⟩ : ∃ a : Nat, m = (a : Int) := ⟨m.natAbs, by omega⟩
    rw [Int.natAbs_natCast]; rfl
theorem bl_cons1 (x : Nat) (hx : x < 256) (o : ByteArray) : bl (strOfNums [((x : Nat) : Int)] ++ o) = x :: bl o := by
  rw [bl_app]
  show bl (strN [x]) ++ _ = _
  rw [bl_strN _ (by intro y hy; simp only [List.mem_singleton] at hy; omega)]; rfl
set_option maxHeartbeats 1000000 in
set_option maxRecDepth 100000 in
theorem rdigits_any (n : Int) (w : World) (h : inI n) : Calls Tryd.prog 25 #[(.int .i64 n)] w fun e w' => e = .returned (.string (dS n)) ∧ Below w.heap.size w w' := by
  unfold inI at h
  refine sx_enter (L := [(0, (.int .i64 n))]) Tryd.func25 rfl rfl rfl rfl (fun fa hf => ?_)
  have hb : Below w.heap.size w w := Below.refl _ _
  refine wp_seq_k (fun K1 hK1 => ?_)
  refine wp_region_lit ?_
  refine sqv hf (r_assign rfl) rfl rfl rfl ?_; clear hf fa; intro fa hf
  apply wpList_nil
  (try simp only [Exit.then, Exit.inBlock, ↓reduceIte, Nat.reduceEqDiff])
  refine hK1 _ _ ?_
  refine wp_seq_k (fun K2 hK2 => ?_)
  refine wp_region_lit ?_
  refine sqv hf (r_move rfl) rfl rfl rfl ?_; clear hf fa; intro fa hf
  refine sqv hf (r_lt rfl rfl) rfl rfl rfl ?_; clear hf fa; intro fa hf
  refine sqv hf (r_assign rfl) rfl rfl rfl ?_; clear hf fa; intro fa hf
  refine sqv hf (r_assign rfl) rfl rfl rfl ?_; clear hf fa; intro fa hf
  apply wpList_nil
  (try simp only [Exit.then, Exit.inBlock, ↓reduceIte, Nat.reduceEqDiff])
  refine hK2 _ _ ?_
  refine wp_seq_k (fun K3 hK3 => ?_)
  refine wp_seq_k (fun K4 hK4 => ?_)
  refine wp_region_lit ?_
  refine sqv hf (r_move rfl) rfl rfl rfl ?_; clear hf fa; intro fa hf
  refine sqv hf (r_eq rfl rfl) rfl rfl rfl ?_; clear hf fa; intro fa hf
  apply wpList_nil
  (try simp only [Exit.then, Exit.inBlock, ↓reduceIte, Nat.reduceEqDiff])
  refine hK4 _ _ ?_
  refine wp_cond_split (t := (decide (n = (0 : Int)))) (hf.ev rfl) (fun hqt9_1 => ?_) (fun hqt9_1 => ?_)
  · have hqt9_1b := hqt9_1
    try simp only [decide_eq_true_eq, Bool.and_eq_true, Bool.or_eq_true, Bool.not_eq_true', decide_eq_false_iff_not, ne_eq, Bool.not_eq_true] at hqt9_1
    refine wp_seq_k (fun K5 hK5 => ?_)
    refine wp_region_lit ?_
    refine sqv hf (r_assign rfl) rfl rfl rfl ?_; clear hf fa; intro fa hf
    apply wpList_nil
    (try simp only [Exit.then, Exit.inBlock, ↓reduceIte, Nat.reduceEqDiff])
    refine hK5 _ _ ?_
    refine wp_ret ?_
    (try simp only [Exit.then, Exit.inBlock])
    refine ret1 hf rfl rfl ?_
    refine ⟨?_, hb⟩; rw [show n = 0 from by omega, dS_zero]
  · have hqt9_1b := hqt9_1
    replace hqt9_1 := Bool.eq_false_iff.1 hqt9_1
    try simp only [ne_eq, decide_eq_true_eq, Bool.and_eq_true, Bool.or_eq_true, Bool.not_eq_true', decide_eq_false_iff_not] at hqt9_1
    refine wp_skip ?_
    (try simp only [Exit.then, Exit.inBlock, ↓reduceIte, Nat.reduceEqDiff])
    refine hK3 _ _ ?_
    refine wp_seq_k (fun K6 hK6 => ?_)
    refine wp_block ?_
    refine wp_loop_k (fun mq fa wr => ∃ (m : Int) (o : ByteArray), mq = m.natAbs ∧ Fr 31 fa [(0, (.int .i64 m)), (3, (.string o)), (4, (.bool (decide ((n) < (0 : Int)))))] ∧ Below w.heap.size w wr ∧ ((n < 0 → m ≤ 0) ∧ (0 < n → 0 ≤ m)) ∧ (m.natAbs ≤ n.natAbs) ∧ (natB n.natAbs = natZ m.natAbs ++ bl o)) ?_ ?_
    · skip
      exact ⟨_, n, (⟨#[]⟩ : ByteArray), rfl, hf.sub ⟨rfl, (some_str (by first | rfl | assumption | simp)), rfl, trivial⟩, hb, by omega, by omega, (by unfold natZ; rw [if_neg (by omega)]; exact (List.append_nil _).symm)⟩
    · skip
      clear hf fa; intro mq1 fa w1 hI KL1 hKL1
      clear hb
      obtain ⟨m, o, hmq1, hf, hb, hms, hma, Hs⟩ := hI
      have hol : o.size ≤ 19 := by have h1 := natB_len 19 n.natAbs (by decide) (by omega); have h2 := congrArg List.length Hs; rw [List.length_append, bl_length] at h2; omega
      obtain ⟨d, hd⟩ : ∃ d, Int.tmod m 10 = d := ⟨_, rfl⟩
      have hd1 := tmod10 m; rw [hd] at hd1
      have hd2 := tdiv10 m
      refine wp_seq_k (fun K7 hK7 => ?_)
      refine wp_seq_k (fun K8 hK8 => ?_)
      refine wp_region_lit ?_
      refine sqv hf (r_move rfl) rfl rfl rfl ?_; clear hf fa; intro fa hf
      refine sqv hf (r_ne rfl rfl) rfl rfl rfl ?_; clear hf fa; intro fa hf
      apply wpList_nil
      (try simp only [Exit.then, Exit.inBlock, ↓reduceIte, Nat.reduceEqDiff])
      refine hK8 _ _ ?_
      refine wp_cond_split (t := (decide (m ≠ (0 : Int)))) (hf.ev rfl) (fun hqt11_1 => ?_) (fun hqt11_1 => ?_)
      · have hqt11_1b := hqt11_1
        try simp only [decide_eq_true_eq, Bool.and_eq_true, Bool.or_eq_true, Bool.not_eq_true', decide_eq_false_iff_not, ne_eq, Bool.not_eq_true] at hqt11_1
        refine wp_skip ?_
        (try simp only [Exit.then, Exit.inBlock, ↓reduceIte, Nat.reduceEqDiff])
        refine hK7 _ _ ?_
        refine wp_block ?_
        refine wp_seq_k (fun K9 hK9 => ?_)
        refine wp_region_lit ?_
        refine sqv hf (r_move rfl) rfl rfl rfl ?_; clear hf fa; intro fa hf
        refine sqv hf (r_rem (C := d) rfl rfl (by omega) hd) rfl rfl rfl ?_; clear hf fa; intro fa hf
        refine sqv hf (r_assign rfl) rfl rfl rfl ?_; clear hf fa; intro fa hf
        apply wpList_nil
        (try simp only [Exit.then, Exit.inBlock, ↓reduceIte, Nat.reduceEqDiff])
        refine hK9 _ _ ?_
        refine wp_seq_k (fun K10 hK10 => ?_)
        refine wp_seq_k (fun K11 hK11 => ?_)
        refine wp_region_lit ?_
        refine sqv hf (r_move rfl) rfl rfl rfl ?_; clear hf fa; intro fa hf
        refine sqv hf (r_lt rfl rfl) rfl rfl rfl ?_; clear hf fa; intro fa hf
        apply wpList_nil
        (try simp only [Exit.then, Exit.inBlock, ↓reduceIte, Nat.reduceEqDiff])
        refine hK11 _ _ ?_
        refine wp_cond_split (t := (decide (d < (0 : Int)))) (hf.ev rfl) (fun hqt15_1 => ?_) (fun hqt15_1 => ?_)
        · have hqt15_1b := hqt15_1
          try simp only [decide_eq_true_eq, Bool.and_eq_true, Bool.or_eq_true, Bool.not_eq_true', decide_eq_false_iff_not, ne_eq, Bool.not_eq_true] at hqt15_1
          refine wp_region_lit ?_
          refine sqv hf (r_move rfl) rfl rfl rfl ?_; clear hf fa; intro fa hf
          refine sqv hf (r_neg (C := (((m.natAbs % 10) : Nat) : Int)) rfl (by rw [IntKind.wrap_i64]; omega)) rfl rfl rfl ?_; clear hf fa; intro fa hf
          refine sqv hf (r_assign rfl) rfl rfl rfl ?_; clear hf fa; intro fa hf
          apply wpList_nil
          (try simp only [Exit.then, Exit.inBlock, ↓reduceIte, Nat.reduceEqDiff])
          refine hK10 _ _ ?_
          refine wp_seq_k (fun K12 hK12 => ?_)
          refine wp_region_lit ?_
          refine sqv hf (r_move rfl) rfl rfl rfl ?_; clear hf fa; intro fa hf
          refine sqv hf (r_add (C := (((48 + m.natAbs % 10) : Nat) : Int)) rfl rfl (by rw [IntKind.wrap_i64]; omega)) rfl rfl rfl ?_; clear hf fa; intro fa hf
          refine sqv hf (r_conv (C := (((48 + m.natAbs % 10) : Nat) : Int)) rfl Tryd.underlying3 Tryd.underlying5 (by rw [IntKind.wrap_u8]; omega)) rfl rfl rfl ?_; clear hf fa; intro fa hf
          refine sqdt hf (d_bslice (z := (.int .u8 (0 : Int))) (sz := 1) (vs := [(0, (.int .u8 (((48 + m.natAbs % 10) : Nat) : Int)))]) (cs := #[(.int .u8 (((48 + m.natAbs % 10) : Nat) : Int))]) rfl Tryd.underlying87 (by kernel_rfl) rfl (by kernel_rfl)) rfl rfl rfl ?_; clear hf fa; rintro fa _ w2 ⟨b1, rfl, hle1, hk1, he1⟩ hf
          have hBb1 : w.heap.size ≤ b1 := Nat.le_trans hb.size hle1
          replace hb := hb.trans (Below.mono he1 hb.size)
          refine sqv hf (r_rowstr rfl Tryd.underlying87 Tryd.underlying5 Tryd.underlying9 (Row.of_new (k := 1) (V := vInt .u8) (l := [(((48 + m.natAbs % 10) : Nat) : Int)]) hk1 (Nat.le_refl _) rfl rfl (Nat.le_of_ble_eq_true rfl))) rfl rfl rfl ?_; clear hf fa; intro fa hf
          refine sqv hf (r_move rfl) rfl rfl rfl ?_; clear hf fa; intro fa hf
          refine sqv hf (r_sadd rfl rfl (by have := strOfNums_size [(((48 + m.natAbs % 10) : Nat) : Int)]; (try simp only [List.length_cons, List.length_nil, List.length_append] at this); omega)) rfl rfl rfl ?_; clear hf fa; intro fa hf
          refine sqv hf (r_assign rfl) rfl rfl rfl ?_; clear hf fa; intro fa hf
          apply wpList_nil
          (try simp only [Exit.then, Exit.inBlock, ↓reduceIte, Nat.reduceEqDiff])
          refine hK12 _ _ ?_
          refine wp_region_lit ?_
          refine sqv hf (r_move rfl) rfl rfl rfl ?_; clear hf fa; intro fa hf
          refine sqv hf (r_quo (C := ((if m < 0 then -((m.natAbs / 10 : Nat) : Int) else ((m.natAbs / 10 : Nat) : Int)))) rfl rfl (by omega) (by rw [IntKind.wrap_i64]; split <;> omega)) rfl rfl rfl ?_; clear hf fa; intro fa hf
          refine sqv hf (r_assign rfl) rfl rfl rfl ?_; clear hf fa; intro fa hf
          apply wpList_nil
          (try simp only [Exit.then, Exit.inBlock, ↓reduceIte, Nat.reduceEqDiff])
          refine hKL1 _ _ _ (by split <;> omega) ⟨(if m < 0 then -((m.natAbs / 10 : Nat) : Int) else ((m.natAbs / 10 : Nat) : Int)), ((strOfNums [(((48 + m.natAbs % 10) : Nat) : Int)]) ++ o), rfl, hf.sub ⟨(some_int (by first | rfl | omega)), rfl, rfl, trivial⟩, hb, by split <;> omega, by split <;> omega, (by rw [Hs, natZ_step (by omega), show (if m < 0 then -((m.natAbs / 10 : Nat) : Int) else ((m.natAbs / 10 : Nat) : Int)).natAbs = m.natAbs / 10 by split <;> omega, bl_cons1 _ (by omega)]; simp)⟩
        · have hqt15_1b := hqt15_1
          replace hqt15_1 := Bool.eq_false_iff.1 hqt15_1
          try simp only [ne_eq, decide_eq_true_eq, Bool.and_eq_true, Bool.or_eq_true, Bool.not_eq_true', decide_eq_false_iff_not] at hqt15_1
          refine wp_skip ?_
          (try simp only [Exit.then, Exit.inBlock, ↓reduceIte, Nat.reduceEqDiff])
          refine hK10 _ _ ?_
          refine wp_seq_k (fun K13 hK13 => ?_)
          refine wp_region_lit ?_
          refine sqv hf (r_move rfl) rfl rfl rfl ?_; clear hf fa; intro fa hf
          refine sqv hf (r_add (C := (((48 + m.natAbs % 10) : Nat) : Int)) rfl rfl (by rw [IntKind.wrap_i64]; omega)) rfl rfl rfl ?_; clear hf fa; intro fa hf
          refine sqv hf (r_conv (C := (((48 + m.natAbs % 10) : Nat) : Int)) rfl Tryd.underlying3 Tryd.underlying5 (by rw [IntKind.wrap_u8]; omega)) rfl rfl rfl ?_; clear hf fa; intro fa hf
          refine sqdt hf (d_bslice (z := (.int .u8 (0 : Int))) (sz := 1) (vs := [(0, (.int .u8 (((48 + m.natAbs % 10) : Nat) : Int)))]) (cs := #[(.int .u8 (((48 + m.natAbs % 10) : Nat) : Int))]) rfl Tryd.underlying87 (by kernel_rfl) rfl (by kernel_rfl)) rfl rfl rfl ?_; clear hf fa; rintro fa _ w3 ⟨b2, rfl, hle2, hk2, he2⟩ hf
          have hBb2 : w.heap.size ≤ b2 := Nat.le_trans hb.size hle2
          replace hb := hb.trans (Below.mono he2 hb.size)
          refine sqv hf (r_rowstr rfl Tryd.underlying87 Tryd.underlying5 Tryd.underlying9 (Row.of_new (k := 1) (V := vInt .u8) (l := [(((48 + m.natAbs % 10) : Nat) : Int)]) hk2 (Nat.le_refl _) rfl rfl (Nat.le_of_ble_eq_true rfl))) rfl rfl rfl ?_; clear hf fa; intro fa hf
          refine sqv hf (r_move rfl) rfl rfl rfl ?_; clear hf fa; intro fa hf
          refine sqv hf (r_sadd rfl rfl (by have := strOfNums_size [(((48 + m.natAbs % 10) : Nat) : Int)]; (try simp only [List.length_cons, List.length_nil, List.length_append] at this); omega)) rfl rfl rfl ?_; clear hf fa; intro fa hf
          refine sqv hf (r_assign rfl) rfl rfl rfl ?_; clear hf fa; intro fa hf
          apply wpList_nil
          (try simp only [Exit.then, Exit.inBlock, ↓reduceIte, Nat.reduceEqDiff])
          refine hK13 _ _ ?_
          refine wp_region_lit ?_
          refine sqv hf (r_move rfl) rfl rfl rfl ?_; clear hf fa; intro fa hf
          refine sqv hf (r_quo (C := ((if m < 0 then -((m.natAbs / 10 : Nat) : Int) else ((m.natAbs / 10 : Nat) : Int)))) rfl rfl (by omega) (by rw [IntKind.wrap_i64]; split <;> omega)) rfl rfl rfl ?_; clear hf fa; intro fa hf
          refine sqv hf (r_assign rfl) rfl rfl rfl ?_; clear hf fa; intro fa hf
          apply wpList_nil
          (try simp only [Exit.then, Exit.inBlock, ↓reduceIte, Nat.reduceEqDiff])
          refine hKL1 _ _ _ (by split <;> omega) ⟨(if m < 0 then -((m.natAbs / 10 : Nat) : Int) else ((m.natAbs / 10 : Nat) : Int)), ((strOfNums [(((48 + m.natAbs % 10) : Nat) : Int)]) ++ o), rfl, hf.sub ⟨(some_int (by first | rfl | omega)), rfl, rfl, trivial⟩, hb, by split <;> omega, by split <;> omega, (by rw [Hs, natZ_step (by omega), show (if m < 0 then -((m.natAbs / 10 : Nat) : Int) else ((m.natAbs / 10 : Nat) : Int)).natAbs = m.natAbs / 10 by split <;> omega, bl_cons1 _ (by omega)]; simp)⟩
      · have hqt11_1b := hqt11_1
        replace hqt11_1 := Bool.eq_false_iff.1 hqt11_1
        try simp only [ne_eq, decide_eq_true_eq, Bool.and_eq_true, Bool.or_eq_true, Bool.not_eq_true', decide_eq_false_iff_not] at hqt11_1
        refine wp_exit ?_
        (try simp only [Exit.then, Exit.inBlock, ↓reduceIte, Nat.reduceEqDiff])
        refine hK6 _ _ ?_
        refine wp_seq_k (fun K14 hK14 => ?_)
        refine wp_seq_k (fun K15 hK15 => ?_)
        refine wp_region_lit ?_
        refine sqv hf (r_move rfl) rfl rfl rfl ?_; clear hf fa; intro fa hf
        apply wpList_nil
        (try simp only [Exit.then, Exit.inBlock, ↓reduceIte, Nat.reduceEqDiff])
        refine hK15 _ _ ?_
        refine wp_cond_split (t := (decide ((n) < (0 : Int)))) (hf.ev rfl) (fun hqt27_1 => ?_) (fun hqt27_1 => ?_)
        · have hqt27_1b := hqt27_1
          try simp only [decide_eq_true_eq, Bool.and_eq_true, Bool.or_eq_true, Bool.not_eq_true', decide_eq_false_iff_not, ne_eq, Bool.not_eq_true] at hqt27_1
          refine wp_seq_k (fun K16 hK16 => ?_)
          refine wp_region_lit ?_
          refine sqv hf (r_move rfl) rfl rfl rfl ?_; clear hf fa; intro fa hf
          refine sqv hf (r_sadd rfl rfl (by have : ((⟨#[45]⟩) : ByteArray).size = 1 := rfl; omega)) rfl rfl rfl ?_; clear hf fa; intro fa hf
          refine sqv hf (r_assign rfl) rfl rfl rfl ?_; clear hf fa; intro fa hf
          apply wpList_nil
          (try simp only [Exit.then, Exit.inBlock, ↓reduceIte, Nat.reduceEqDiff])
          refine hK16 _ _ ?_
          refine wp_ret ?_
          (try simp only [Exit.then, Exit.inBlock])
          refine ret1 hf rfl rfl ?_
          have hfin : natB n.natAbs = bl o := by rw [Hs, show m.natAbs = 0 by omega]; rfl
          refine ⟨?_, hb⟩; congr 2; rw [← dS_neg (by omega)]; congr 1; unfold nS; rw [hfin, strN_bl]
        · have hqt27_1b := hqt27_1
          replace hqt27_1 := Bool.eq_false_iff.1 hqt27_1
          try simp only [ne_eq, decide_eq_true_eq, Bool.and_eq_true, Bool.or_eq_true, Bool.not_eq_true', decide_eq_false_iff_not] at hqt27_1
          refine wp_skip ?_
          (try simp only [Exit.then, Exit.inBlock, ↓reduceIte, Nat.reduceEqDiff])
          refine hK14 _ _ ?_
          refine wp_seq_k (fun K17 hK17 => ?_)
          refine wp_region_lit ?_
          refine sqv hf (r_move rfl) rfl rfl rfl ?_; clear hf fa; intro fa hf
          refine sqv hf (r_assign rfl) rfl rfl rfl ?_; clear hf fa; intro fa hf
          apply wpList_nil
          (try simp only [Exit.then, Exit.inBlock, ↓reduceIte, Nat.reduceEqDiff])
          refine hK17 _ _ ?_
          refine wp_ret ?_
          (try simp only [Exit.then, Exit.inBlock])
          refine ret1 hf rfl rfl ?_
          have hfin : natB n.natAbs = bl o := by rw [Hs, show m.natAbs = 0 by omega]; rfl
          refine ⟨?_, hb⟩; congr 2; rw [← dS_pos (by omega)]; unfold nS; rw [hfin, strN_bl]

end Go.Proofs.YtpalmpfkliepfaaDoor

namespace Go.Proofs.YtpalmpfkliepfaaDoor
open Go.RowKit
set_option linter.unusedVariables false
set_option linter.unusedSimpArgs false

/-- The operations that are done. -/
abbrev LS (listed : Array Bool) : Nat → Prop := fun k => listed[k]? = some true
def ad (i : Nat) (S : Nat → Prop) : Nat → Prop := fun k => k = i ∨ S k

/-- What stands of the operations in S. -/
structure UvS (all : (Nat → Prop) → List (Value → World → Prop)) (A : List Nat) (dl : List (List Nat)) (V : Nat → Value) (S : Nat → Prop) (w : World) : Prop where
  post : ∀ j, S j → ((all S).getD j (fun _ _ => True)) (V j) w
  down : ∀ j, S j → ∀ k, k ∈ dl.getD j [] → S k
  lt : ∀ i, A.contains i = true → S i → ∃ b, blkOf (V i) = some b ∧ b < w.heap.size
  ne : ∀ i j, A.contains i = true → A.contains j = true → i ≠ j → S i → S j → blkOf (V i) ≠ blkOf (V j)

def uvGoals (P : Program) (ops : Array Oper) (C : (Nat → Prop) → World → Prop) (all : (Nat → Prop) → List (Value → World → Prop)) (A : List Nat) (dl0 : List (List Nat)) (V : Nat → Value) :
    List Oper → List (List Nat) → Nat → Act → Prop
  | o :: os, d :: ds, i, a =>
    (∀ (S : Nat → Prop) w, C S w → UvS all A dl0 V S w → (∀ k, k ∈ d → S k) → ¬ S i → ∀ K : Act → World → Prop, (∀ v w', C (ad i S) w' → (∀ j, S j → ((all (ad i S)).getD j (fun _ _ => True)) (V j) w') → w.heap.size ≤ w'.heap.size → ((all (ad i S)).getD i (fun _ _ => True)) v w' → fr A i w v w' → K (a.put o.dst v) w') →
      if Region.wanted o (yielded ops a.tmps) = true then o.wp P a w K (fun _ _ _ => False) else K (a.put o.dst undef) w) ∧
    uvGoals P ops C all A dl0 V os ds (i + 1) (a.put o.dst (V i))
  | _, _, _, _ => True

structure UvInv (ops : Array Oper) (C : (Nat → Prop) → World → Prop) (posts : (Nat → Value) → (Nat → Prop) → List (Value → World → Prop)) (A : List Nat) (a0 : Act) (V : Nat → Value) (listed : Array Bool) (a : Act) (w : World) : Prop where
  size : listed.size = ops.size
  tmps : a.tmps.size = a0.tmps.size
  defers : a.defers = a0.defers
  c : C (LS listed) w
  got : ∀ (j : Nat) (o : Oper), ops[j]? = some o → listed[j]? = some true → ∀ t, o.dst = some t → a.tmps[t]? = some (V j)
  post : ∀ (j : Nat) (o : Oper), ops[j]? = some o → listed[j]? = some true → ((posts V (LS listed)).getD j (fun _ _ => True)) (V j) w
  same : ∀ t, (∀ (j : Nat) (o : Oper), ops[j]? = some o → listed[j]? = some true → o.dst ≠ some t) → a.tmps[t]? = a0.tmps[t]?
  down : ∀ (j : Nat) (o : Oper), ops[j]? = some o → listed[j]? = some true → ∀ k, pre o k = true → listed[k]? = some true
  frA : ∀ i, A.contains i = true → listed[i]? = some true → ∃ b, blkOf (V i) = some b ∧ b < w.heap.size
  neA : ∀ i j, A.contains i = true → A.contains j = true → i ≠ j → listed[i]? = some true → listed[j]? = some true → blkOf (V i) ≠ blkOf (V j)

section
variable {P : Program} {ops : Array Oper} {C : (Nat → Prop) → World → Prop} {posts : (Nat → Value) → (Nat → Prop) → List (Value → World → Prop)} {A : List Nat} {dl : List (List Nat)} {N T : Nat} {a0 : Act}

/-- As the elder law's. -/
theorem UvInv.old {V : Nat → Value} {listed : Array Bool} {a : Act} {w : World} (hI : UvInv ops C posts A a0 V listed a w) : UgInv ops (fun _ => True) (fun _ => []) A a0 V listed a w :=
  ⟨hI.size, hI.tmps, hI.defers, trivial, hI.got, fun _ _ _ _ => by simp, hI.same, hI.down, hI.frA, hI.neA⟩

theorem uvGoals_at {V : Nat → Value} {dl0 : List (List Nat)} : ∀ (os : List Oper) (ds : List (List Nat)) (k : Nat) (a : Act), uvGoals P ops C (posts V) A dl0 V os ds k a →
    ∀ (m : Nat) (o : Oper) (d : List Nat), os[m]? = some o → ds[m]? = some d →
    ∀ (S : Nat → Prop) w, C S w → UvS (posts V) A dl0 V S w → (∀ k, k ∈ d → S k) → ¬ S (k + m) → ∀ K : Act → World → Prop, (∀ v w', C (ad (k + m) S) w' → (∀ j, S j → ((posts V (ad (k + m) S)).getD j (fun _ _ => True)) (V j) w') → w.heap.size ≤ w'.heap.size → ((posts V (ad (k + m) S)).getD (k + m) (fun _ _ => True)) v w' → fr A (k + m) w v w' → K ((putAll (os.take m) V k a).put o.dst v) w') →
      if Region.wanted o (yielded ops (putAll (os.take m) V k a).tmps) = true then o.wp P (putAll (os.take m) V k a) w K (fun _ _ _ => False) else K ((putAll (os.take m) V k a).put o.dst undef) w
  | [], _, _, _, _, m, o, d, h, _ => by simp at h
  | _ :: _, [], _, _, _, m, o, d, _, h => by simp at h
  | o1 :: os, d1 :: ds, k, a, hg, 0, o, d, h1, h3 => by
    simp at h1 h3; subst h1 h3
    exact hg.1
  | o1 :: os, d1 :: ds, k, a, hg, m + 1, o, d, h1, h3 => by
    rw [show k + (m + 1) = k + 1 + m from by omega]
    exact uvGoals_at os ds (k + 1) _ hg.2 m o d (by simpa using h1) (by simpa using h3)

theorem uv_walk_tail {Q : Exit → Act → World → Prop} (hN : a0.tmps.size = N) (hok : ∀ i o, ops[i]? = some o → RgOk ops dl N i o) (hdl : dl.length = ops.size) (hpl : ∀ V S, (posts V S).length = T) (hT : T < ops.size)
    (hs : Region.sinkB .any ops T = true) (hc : Region.chainB .any ops T = true) (hseq : Region.seqB .any ops (ops.size - T) T ((Array.range ops.size).map (fun i => decide (i < T))) = true)
    (hPc : ∀ V S i v j, i ∉ dl.getD j [] → (posts (fun k => if k = i then v else V k) S).getD j (fun _ _ => True) = (posts V S).getD j (fun _ _ => True)) (hgoals : ∀ V, uvGoals P ops C (posts V) A dl V (ops.toList.take T) dl 0 a0)
    (hQ : ∀ V S w, (∀ j, j < (posts V S).length → S j) → C S w → postsHold V w (posts V S) 0 → (∀ i j, i < (posts V S).length → j < (posts V S).length → A.contains i = true → A.contains j = true → i ≠ j → blkOf (V i) ≠ blkOf (V j)) → wpList P ops Q (ops.toList.drop T) (putAll (ops.toList.take T) V 0 a0) w) :
    ∀ (fuel : Nat) (listed : Array Bool) (a : Act) (w : World) (V : Nat → Value), (List.range T).countP (fun i => listed[i]? != some true) = fuel → HeadInv .any ops T listed → UvInv ops C posts A a0 V listed a w → wpAny P .any ops Q (fuel + (ops.size - T)) listed a w := by
  -- what stands when the head is listed
  have fin : ∀ (listed : Array Bool) (a : Act) (w : World) (V : Nat → Value), HeadInv .any ops T listed → UvInv ops C posts A a0 V listed a w → (∀ i, i < T → listed[i]? = some true) → wpAny P .any ops Q (0 + (ops.size - T)) listed a w := by
    intro listed a w V inv hI hall
    have hnone : ∀ j, T ≤ j → listed[j]? ≠ some true := by
      intro j hj h
      by_cases hjs : j < ops.size
      · have h1 := inv.tail j hj hjs
        rw [Array.getD_eq_getD_getElem?, h] at h1
        cases h1
      · have hsz := inv.size
        rw [Array.getElem?_eq_none (by omega)] at h
        cases h
    have hmem : ∀ m o, (ops.toList.take T)[m]? = some o → m < T ∧ ops[m]? = some o := by
      intro m o hm
      rw [List.getElem?_take] at hm
      split at hm
      · exact ⟨by assumption, by simpa using hm⟩
      · cases hm
    have ha : a = putAll (ops.toList.take T) V 0 a0 := by
      have h1 : a.tmps = (putAll (ops.toList.take T) V 0 a0).tmps := by
        apply Array.ext_getElem?
        intro t
        by_cases hex : ∃ (j : Nat) (oj : Oper), ops[j]? = some oj ∧ oj.dst = some t ∧ j < T
        · obtain ⟨j, oj, hj, hjd, hjT⟩ := hex
          rw [hI.got j oj hj (hall j hjT) t hjd]
          rw [putAll_get_some V _ 0 a0 j oj (by rw [List.getElem?_take, if_pos hjT]; simpa using hj) hjd (by rw [hN]; exact (hok _ _ hj).dst t hjd)
            (fun m' o' hm' hne hd' => (hok _ _ hj).one m' o' (hmem m' o' hm').2 hne t hd' hjd)]
          simp
        · rw [hI.same t (fun j' o' hj' hl' hd' => hex ⟨j', o', hj', hd', by
            rcases Nat.lt_or_ge j' T with h | h
            · exact h
            · exact absurd hl' (hnone j' h)⟩), putAll_get_none V _ 0 a0 (fun m o' hm hd' => hex ⟨m, o', (hmem m o' hm).2, hd', (hmem m o' hm).1⟩)]
      have h2 : a.defers = (putAll (ops.toList.take T) V 0 a0).defers := hI.defers.trans (putAll_defers V _ _ _).symm
      cases a; simp only at h1 h2; subst h1 h2; rfl
    have hq := hQ V (LS listed) w (fun j hj => hall j (by have := hpl V (LS listed); omega)) hI.c (postsHold_of (posts V (LS listed)) 0 (fun j p hj => by
      have hlt : j < T := by rw [← hpl V (LS listed)]; exact (List.getElem?_eq_some_iff.1 hj).1
      have := hI.post j ops[j] (Array.getElem?_eq_getElem (by omega)) (hall j hlt)
      rw [Nat.zero_add]
      simpa [List.getD_eq_getElem?_getD, hj] using this)) (fun i j hi hj h1 h2 hne => hI.neA i j h1 h2 hne (hall i (by have := hpl V (LS listed); omega)) (hall j (by have := hpl V (LS listed); omega)))
    rw [ha]
    have hdl2 : (ops.toList.drop T).length = ops.size - T := by simp
    have hall2 := headInv_all inv hall (by omega)
    have := wpAny_of_seq (md := .any) (Q' := Q) (ops.toList.drop T) T listed _ w (fun j => by simp [List.getElem?_drop]) (by rw [hdl2, hall2]; exact hseq) hq
    rw [hdl2] at this
    rw [Nat.zero_add]
    exact this
  intro fuel
  induction fuel with
  | zero =>
    intro listed a w V hc0 inv hI
    refine fin listed a w V inv hI (fun i hi => ?_)
    rw [List.countP_eq_zero] at hc0
    simpa using hc0 i (by simpa using hi)
  | succ fuel ih =>
    intro listed a w V hc0 inv hI
    obtain ⟨i0, hi0, hun0⟩ : ∃ i0, i0 < T ∧ listed.getD i0 true = false := by
      have hpos : 0 < (List.range T).countP (fun i => listed[i]? != some true) := by omega
      rw [List.countP_pos_iff] at hpos
      obtain ⟨i0, h1, h2⟩ := hpos
      have h1 : i0 < T := by simpa using h1
      refine ⟨i0, h1, ?_⟩
      rw [Array.getD_eq_getD_getElem?]
      rw [Array.getElem?_eq_getElem (by rw [hI.size]; omega)] at h2 ⊢
      simpa using h2
    have hready := tail_waits hs hc hT inv _ i0 rfl hi0 hun0
    rw [show fuel + 1 + (ops.size - T) = (fuel + (ops.size - T)) + 1 by omega]
    refine ⟨fun hr => ?_, fun i hi => ?_⟩
    · exfalso
      have done : ∀ i, i < ops.size → listed[i]? = some true := by
        intro i
        induction i using Nat.strongRecOn with
        | ind i ih =>
          intro hi
          by_cases h : listed[i]? = some true
          · exact h
          exfalso
          have hmem : i ∈ Region.ready .any ops listed := by
            unfold Region.ready
            rw [List.mem_filter]
            refine ⟨by simpa using hi, ?_⟩
            have hl : listed.getD i true = false := by
              rw [Array.getD_eq_getD_getElem?]
              rw [Array.getElem?_eq_getElem (by rw [hI.size]; omega)] at h ⊢
              simpa using h
            rw [hl, Array.getElem?_eq_getElem hi]
            simp only [Bool.not_false, Bool.true_and, Option.map_some, Option.getD_some]
            rw [Array.all_eq_true']
            intro e he
            by_cases hb : Region.binds .any e = true
            · have hp := pre_spec he hb
              have hlt := (hok _ _ (Array.getElem?_eq_getElem hi)).lt e.on hp
              rw [Array.getD_eq_getD_getElem?, ih e.on hlt (by omega)]
              simp
            · simp [hb]
          rw [hr] at hmem
          exact absurd hmem (by simp)
      have h1 := inv.tail T (Nat.le_refl _) hT
      rw [Array.getD_eq_getD_getElem?, done T hT] at h1
      cases h1
    have hiT : i < T := by
      rcases Nat.lt_or_ge i T with h | h
      · exact h
      · exact absurd hi (hready i h)
    have inv' := inv.set hi hiT
    unfold Region.ready at hi
    rw [List.mem_filter] at hi
    obtain ⟨hir, hi2⟩ := hi
    have hir : i < ops.size := by simpa using hir
    rw [Bool.and_eq_true] at hi2
    obtain ⟨hnl, haft⟩ := hi2
    have hnl' : listed[i]? = some false := by
      rw [Array.getD_eq_getD_getElem?, Array.getElem?_eq_getElem (by rw [hI.size]; exact hir)] at hnl
      rw [Array.getElem?_eq_getElem (by rw [hI.size]; exact hir)]
      simpa using hnl
    have ho : ops[i]? = some ops[i] := Array.getElem?_eq_getElem hir
    have hpre : ∀ k, pre ops[i] k = true → listed[k]? = some true := by
      intro k hk
      obtain ⟨e, he, rfl, hb⟩ := pre_mem hk
      rw [ho, Option.map_some, Option.getD_some, Array.all_eq_true'] at haft
      have := haft e he
      simp only [hb, Bool.not_true, Bool.false_or, Array.getD_eq_getD_getElem?] at this
      have hlt := (hok _ _ ho).lt e.on hk
      rw [Array.getElem?_eq_getElem (by rw [hI.size]; omega)] at this ⊢
      simpa using this
    have hilt : i < listed.size := by rw [hI.size]; exact hir
    -- the step
    have hd : dl[i]? = some (dl.getD i []) := by
      have : i < dl.length := by omega
      simp [this]
    have hin : ∀ j, LS listed j → j < ops.size := fun j hj => by have h := (Array.getElem?_eq_some_iff.1 hj).1; rw [hI.size] at h; exact h
    have hLS : LS (listed.setIfInBounds i true) = ad i (LS listed) := funext fun k => propext (Array.get?_setTrue hilt)
    have hlook := hI.old.looks hN hok ho (by rw [hnl']; simp) hpre
    have hgo := uvGoals_at (ops.toList.take T) dl 0 a0 (hgoals V) i ops[i] _ (by rw [List.getElem?_take, if_pos hiT]; simp) hd (LS listed) w hI.c
      ⟨fun j hj => hI.post j _ (Array.getElem?_eq_getElem (hin j hj)) hj, fun j hj k hk => hI.down j _ (Array.getElem?_eq_getElem (hin j hj)) hj k ((hok j _ (Array.getElem?_eq_getElem (hin j hj))).dl k hk), fun i ha hs => hI.frA i ha hs, fun i j h1 h2 h3 h4 h5 => hI.neA i j h1 h2 h3 h4 h5⟩
      (fun j hj => hpre j ((hok _ _ ho).dl j hj)) (by rw [Nat.zero_add]; intro h; rw [LS, hnl'] at h; cases h)
    rw [Nat.zero_add] at hgo
    rw [List.take_take, Nat.min_eq_left (Nat.le_of_lt hiT)] at hgo
    -- the invariant behind it
    have hnext : ∀ v w', (C (ad i (LS listed)) w' ∧ (∀ j, LS listed j → ((posts V (ad i (LS listed))).getD j (fun _ _ => True)) (V j) w') ∧ w.heap.size ≤ w'.heap.size ∧ fr A i w v w') → ((posts V (ad i (LS listed))).getD i (fun _ _ => True)) v w' → wpAny P .any ops Q (fuel + (ops.size - T)) (listed.setIfInBounds i true) (a.put ops[i].dst v) w' := by
      rintro v w' ⟨hc', hkeep, hsz, hfr⟩ hpv
      refine ih _ _ _ (fun k => if k = i then v else V k) ?_ inv' ?_
      · have hlt : (List.range T).countP (fun k => (listed.setIfInBounds i true)[k]? != some true) + 1 = (List.range T).countP (fun k => listed[k]? != some true) := by
          rw [List.countP_eq_length_filter, List.countP_eq_length_filter]
          have hsub : (List.range T).filter (fun k => (listed.setIfInBounds i true)[k]? != some true) = ((List.range T).filter (fun k => listed[k]? != some true)).erase i := by
            rw [(List.Nodup.sublist List.filter_sublist List.nodup_range).erase_eq_filter, List.filter_filter]
            apply List.filter_congr
            intro k hk
            by_cases e : k = i
            · subst e; simp [hilt]
            · rw [Array.getElem?_setIfInBounds_ne (Ne.symm e)]; simp [e]
          rw [hsub, List.length_erase_of_mem (by rw [List.mem_filter]; exact ⟨by simpa using hiT, by rw [hnl']; rfl⟩)]
          have : 0 < ((List.range T).filter (fun k => listed[k]? != some true)).length :=
            List.length_pos_of_mem (a := i) (by rw [List.mem_filter]; exact ⟨by simpa using hiT, by rw [hnl']; rfl⟩)
          omega
        omega
      · refine ⟨by simp [hI.size], by rw [put_size, hI.tmps], by rw [put_defers, hI.defers], (by rw [hLS]; exact hc'), ?_, ?_, ?_, ?_, ?_, ?_⟩
        · intro j o hj hl t ht
          rcases (Array.get?_setTrue hilt).1 hl with rfl | hl2
          · rw [ho] at hj; cases hj
            simp only [if_true]
            rw [ht]; exact put_get (by rw [hI.tmps, hN]; exact (hok _ _ ho).dst t ht)
          · have hji : j ≠ i := fun e => by rw [e, hnl'] at hl2; cases hl2
            rw [if_neg hji, put_get_ne ((hok _ _ ho).one j o hj hji t ht)]
            exact hI.got j o hj hl2 t ht
        · intro j o hj hl
          rcases (Array.get?_setTrue hilt).1 hl with rfl | hl2
          · rw [hLS, hPc V _ _ v _ (fun hm => by
              have h1 := hpre _ ((hok _ _ ho).dl _ hm)
              rw [hnl'] at h1; cases h1)]
            simp only [if_true]; exact hpv
          · have hji : j ≠ i := fun e => by rw [e, hnl'] at hl2; cases hl2
            rw [hLS, hPc V _ _ v _ (fun hm => by
              have h1 := hI.down j o hj hl2 _ ((hok _ _ hj).dl _ hm)
              rw [hnl'] at h1; cases h1)]
            simp only [if_neg hji]
            exact hkeep j hl2
        · intro t ht
          rw [put_get_ne (ht i _ ho ((Array.get?_setTrue hilt).2 (.inl rfl)))]
          exact hI.same t (fun j o hj hl => ht j o hj ((Array.get?_setTrue hilt).2 (.inr hl)))
        · intro j o hj hl k hk
          rw [Array.get?_setTrue hilt]
          rcases (Array.get?_setTrue hilt).1 hl with rfl | hl2
          · rw [ho] at hj; cases hj
            exact .inr (hpre k hk)
          · exact .inr (hI.down j o hj hl2 k hk)
        · intro j hj hl
          rcases (Array.get?_setTrue hilt).1 hl with rfl | hl2
          · simp only [if_true]
            obtain ⟨b, h1, _, h3⟩ := hfr hj
            exact ⟨b, h1, h3⟩
          · have hji : j ≠ i := fun e => by rw [e, hnl'] at hl2; cases hl2
            simp only [if_neg hji]
            obtain ⟨b, h1, h2⟩ := hI.frA j hj hl2
            exact ⟨b, h1, Nat.lt_of_lt_of_le h2 hsz⟩
        · intro j j2 hj hj2 hne hl hl2
          rcases (Array.get?_setTrue hilt).1 hl with rfl | hl3
          · rcases (Array.get?_setTrue hilt).1 hl2 with rfl | hl4
            · exact absurd rfl hne
            · simp only [if_true, if_neg (Ne.symm hne)]
              obtain ⟨b, h1, h2, _⟩ := hfr hj
              obtain ⟨b2, h3, h4⟩ := hI.frA j2 hj2 hl4
              rw [h1, h3]; intro e; cases e; omega
          · have hji : j ≠ i := fun e => by rw [e, hnl'] at hl3; cases hl3
            rcases (Array.get?_setTrue hilt).1 hl2 with rfl | hl4
            · simp only [if_true, if_neg hji]
              obtain ⟨b, h1, h2, _⟩ := hfr hj2
              obtain ⟨b2, h3, h4⟩ := hI.frA j hj hl3
              rw [h1, h3]; intro e; cases e; omega
            · have hji2 : j2 ≠ i := fun e => by rw [e, hnl'] at hl4; cases hl4
              simp only [if_neg hji, if_neg hji2]
              exact hI.neA j j2 hj hj2 hne hl3 hl4
    unfold wpOp
    rw [ho]
    show if Region.wanted ops[i] (yielded ops a.tmps) = true then _ else _
    have hsel := (hok _ _ ho).sel
    have hEx : execOp a.eval ops[i] = execOp (putAll (ops.toList.take i) V 0 a0).eval ops[i] :=
      execOp_congr ops[i] hsel (fun x hx => eval_congr_get (fun t ht => hlook t (by
        subst ht
        exact List.mem_append_left _ (List.mem_filterMap.2 ⟨.tmp t, by simpa using hx, rfl⟩))))
    rw [yielded_congr hlook]
    split
    · rename_i hw
      left
      have hgo := hgo (fun b w' => ∃ v, b = (putAll (ops.toList.take i) V 0 a0).put ops[i].dst v ∧ (C (ad i (LS listed)) w' ∧ (∀ j, LS listed j → ((posts V (ad i (LS listed))).getD j (fun _ _ => True)) (V j) w') ∧ w.heap.size ≤ w'.heap.size ∧ fr A i w v w') ∧ ((posts V (ad i (LS listed))).getD i (fun _ _ => True)) v w') (fun v w' h0 h1 h2 h3 h4 => ⟨v, rfl, ⟨h0, h1, h2, h4⟩, h3⟩)
      rw [if_pos hw] at hgo
      exact wp_carry (R := fun v w' => (C (ad i (LS listed)) w' ∧ (∀ j, LS listed j → ((posts V (ad i (LS listed))).getD j (fun _ _ => True)) (V j) w') ∧ w.heap.size ≤ w'.heap.size ∧ fr A i w v w') ∧ ((posts V (ad i (LS listed))).getD i (fun _ _ => True)) v w') hEx (by rw [hI.tmps, putAll_size]) hgo (fun v w' ⟨h1, h2⟩ => hnext v w' h1 h2)
    · rename_i hw
      have hgo := hgo (fun b w' => ∃ v, b = (putAll (ops.toList.take i) V 0 a0).put ops[i].dst v ∧ (C (ad i (LS listed)) w' ∧ (∀ j, LS listed j → ((posts V (ad i (LS listed))).getD j (fun _ _ => True)) (V j) w') ∧ w.heap.size ≤ w'.heap.size ∧ fr A i w v w') ∧ ((posts V (ad i (LS listed))).getD i (fun _ _ => True)) v w')
        (fun v w' h0 h1 h2 h3 h4 => ⟨v, rfl, ⟨h0, h1, h2, h4⟩, h3⟩)
      rw [if_neg hw] at hgo
      obtain ⟨v, h1, h2, h3⟩ := hgo
      have e : a.put ops[i].dst undef = a.put ops[i].dst v := by
        cases hd : ops[i].dst with
        | none => rfl
        | some d =>
          rw [hd] at h1
          have hlt : d < (putAll (ops.toList.take i) V 0 a0).tmps.size := by rw [putAll_size, hN]; exact (hok _ _ ho).dst d hd
          have := congrArg (fun x : Act => x.tmps[d]?) h1
          simp only [put_get hlt] at this
          rw [Option.some.inj this]
      rw [e]
      exact hnext v w h2 h3

theorem wp_region_uv_tail {id : Nat} {Q : Exit → Act → World → Prop} {w0 : World} (T : Nat) (C : (Nat → Prop) → World → Prop) (posts : (Nat → Value) → (Nat → Prop) → List (Value → World → Prop)) (A : List Nat) (dl : List (List Nat)) (N : Nat)
    (hm : P.follows .mixedOrders = true) (hN : a0.tmps.size = N)
    (hchk : (rgCheck ops dl N && decide (T < ops.size) && Region.sinkB .any ops T && Region.chainB .any ops T && Region.seqB .any ops (ops.size - T) T ((Array.range ops.size).map (fun i => decide (i < T)))) = true) (hpl : ∀ V S, (posts V S).length = T)
    (hC0 : ∀ S : Nat → Prop, (∀ k, ¬ S k) → C S w0.drew) (hPc : ∀ V S i v j, i ∉ dl.getD j [] → (posts (fun k => if k = i then v else V k) S).getD j (fun _ _ => True) = (posts V S).getD j (fun _ _ => True)) (hgoals : ∀ V, uvGoals P ops C (posts V) A dl V (ops.toList.take T) dl 0 a0)
    (hQ : ∀ V S w, (∀ j, j < (posts V S).length → S j) → C S w → postsHold V w (posts V S) 0 → (∀ i j, i < (posts V S).length → j < (posts V S).length → A.contains i = true → A.contains j = true → i ≠ j → blkOf (V i) ≠ blkOf (V j)) → wpList P ops Q (ops.toList.drop T) (putAll (ops.toList.take T) V 0 a0) w) : (Code.region id ops true).wp P Q a0 w0 := by
  simp only [Bool.and_eq_true, decide_eq_true_eq] at hchk
  obtain ⟨⟨⟨⟨h1, hT⟩, h2⟩, h3⟩, h4⟩ := hchk
  obtain ⟨hdl, hok⟩ := rgOk_of_check h1
  have inv0 : HeadInv .any ops T (Array.replicate ops.size false) :=
    ⟨by simp, fun j oj _ hl => (by rw [getD_replicate_false] at hl; cases hl), fun t _ ht => getD_in (by simpa using ht) (getD_replicate_false _ _)⟩
  have hcnt : (List.range T).countP (fun i => (Array.replicate ops.size false)[i]? != some true) = T := by
    have : (List.range T).countP (fun i => (Array.replicate ops.size false)[i]? != some true) = (List.range T).length := by
      rw [List.countP_eq_length]
      intro i hi
      simp [Array.getElem?_replicate]
    rw [this]; simp
  have := uv_walk_tail (Q := Q) hN hok hdl hpl hT h2 h3 h4 hPc hgoals hQ T _ a0 _ (fun _ => undef) hcnt inv0 ⟨by simp, rfl, rfl, hC0 _ (fun k hk => by simp [LS, Array.getElem?_replicate] at hk), ?_, ?_, fun _ _ => rfl, ?_, ?_, ?_⟩
  · refine wp_region_any hm ?_
    rw [show T + (ops.size - T) = ops.size by omega] at this
    exact this
  · intro j o hj hl
    simp [Array.getElem?_replicate] at hl
  · intro j o hj hl
    simp [Array.getElem?_replicate] at hl
  · intro j o hj hl
    simp [Array.getElem?_replicate] at hl
  · intro j hj hl
    simp [Array.getElem?_replicate] at hl
  · intro j j2 hj hj2 hne hl
    simp [Array.getElem?_replicate] at hl


def uvnGoals (P : Program) (ops : Array Oper) (C : (Nat → Prop) → World → Prop) (all : (Nat → Prop) → List (Value → World → Prop)) (A : List Nat) (dl0 : List (List Nat)) (V : Nat → Value) : List Oper → List (List Nat) → Nat → List (Nat × Value) → Prop
  | o :: os, d :: ds, i, L =>
    (∀ (S : Nat → Prop) w, C S w → UvS all A dl0 V S w → (∀ k, k ∈ d → S k) → ¬ S i → unOp P ops L o w (fun v w' => (C (ad i S) w' ∧ (∀ j, S j → ((all (ad i S)).getD j (fun _ _ => True)) (V j) w') ∧ w.heap.size ≤ w'.heap.size) ∧ ((all (ad i S)).getD i (fun _ _ => True)) v w' ∧ fr A i w v w')) ∧
    uvnGoals P ops C all A dl0 V os ds (i + 1) (ins o.dst (V i) L)
  | _, _, _, _ => True

theorem uvn_rg {V : Nat → Value} {dl0 : List (List Nat)} : ∀ (os : List Oper) (ds : List (List Nat)) (i : Nat) (L : List (Nat × Value)) (a : Act), Fr N a L → (∀ o ∈ os, dstOk N o.dst = true) → uvnGoals P ops C (posts V) A dl0 V os ds i L → uvGoals P ops C (posts V) A dl0 V os ds i a
  | [], _, _, _, _, _, _, _ => trivial
  | _ :: _, [], _, _, _, _, _, _ => trivial
  | o :: os, d :: ds, i, L, a, hf, hd, h => by
    refine ⟨fun S w hC hS hdp hi K hK => ?_, uvn_rg os ds (i + 1) _ _ (hf.ins (V i) (hd o (by simp))) (fun o' ho => hd o' (by simp [ho])) h.2⟩
    have h1 := h.1 S w hC hS hdp hi
    unfold unOp at h1
    cases hg : o.guard with
    | none =>
      rw [hg] at h1
      have hw : Region.wanted o (yielded ops a.tmps) = true := by simp [Region.wanted, hg]
      rw [if_pos hw]
      exact h1 a K _ (fun x v e => hf.ev e) (fun v w' hr => hK v w' hr.1.1 hr.1.2.1 hr.1.2.2 hr.2.1 hr.2.2)
    | some gw =>
      obtain ⟨g, want⟩ := gw
      rw [hg] at h1
      obtain ⟨ag, c, hy, ht, hfl⟩ := h1
      rw [wanted_of hf hg hy]
      cases hact : (ag && (c == want)) with
      | true => rw [if_pos rfl]; exact ht hact a K _ (fun x v e => hf.ev e) (fun v w' hr => hK v w' hr.1.1 hr.1.2.1 hr.1.2.2 hr.2.1 hr.2.2)
      | false => rw [if_neg (by simp)]; exact hK _ _ (hfl hact).1.1 (hfl hact).1.2.1 (hfl hact).1.2.2 (hfl hact).2.1 (hfl hact).2.2

theorem wp_region_vnT {L0 : List (Nat × Value)} {id : Nat} {Q : Exit → Act → World → Prop} {w0 : World} (T : Nat) (C : (Nat → Prop) → World → Prop) (posts : (Nat → Value) → (Nat → Prop) → List (Value → World → Prop)) (A : List Nat) (dl : List (List Nat)) (hf : Fr N a0 L0)
    (hm : P.follows .mixedOrders = true)
    (hchk : (rgCheck ops dl N && decide (T < ops.size) && Region.sinkB .any ops T && Region.chainB .any ops T && Region.seqB .any ops (ops.size - T) T ((Array.range ops.size).map (fun i => decide (i < T)))) = true) (hdst : ops.toList.all (fun o => dstOk N o.dst) = true) (hpl : ∀ V S, (posts V S).length = T)
    (hC0 : ∀ S : Nat → Prop, (∀ k, ¬ S k) → C S w0.drew) (hPc : ∀ V S i v j, i ∉ dl.getD j [] → (posts (fun k => if k = i then v else V k) S).getD j (fun _ _ => True) = (posts V S).getD j (fun _ _ => True)) (hgoals : ∀ V, uvnGoals P ops C (posts V) A dl V (ops.toList.take T) dl 0 L0)
    (hQ : ∀ V S w a, (∀ j, j < (posts V S).length → S j) → C S w → postsHold V w (posts V S) 0 → (∀ i j, i < (posts V S).length → j < (posts V S).length → A.contains i = true → A.contains j = true → i ≠ j → blkOf (V i) ≠ blkOf (V j)) → Fr N a (insAll (ops.toList.take T) V 0 L0) → wpList P ops Q (ops.toList.drop T) a w) : (Code.region id ops true).wp P Q a0 w0 := by
  rw [List.all_eq_true] at hdst
  exact wp_region_uv_tail T C posts A dl N hm hf.size hchk hpl hC0 hPc (fun V => uvn_rg _ _ _ _ _ hf (fun o ho => hdst o (List.mem_of_mem_take ho)) (hgoals V)) (fun V S w hj hc hp hn => hQ V S w _ hj hc hp hn (un_fr _ _ _ _ hf (fun o ho => hdst o (List.mem_of_mem_take ho))))

/-- An operation that writes nothing that was there. -/
theorem uv_plain {all : (Nat → Prop) → List (Value → World → Prop)} {dl0 : List (List Nat)} {V : Nat → Value} {S : Nat → Prop} {w : World} {L : List (Nat × Value)} {o : Oper} {i : Nat} (hK : ∀ j v w', ((all S).getD j (fun _ _ => True)) v w → Below w.heap.size w w' → ((all (ad i S)).getD j (fun _ _ => True)) v w') (hCB : ∀ w', C S w → Below w.heap.size w w' → C (ad i S) w') (hC : C S w) (hS : UvS all A dl0 V S w)
    (h : unOp P ops L o w (fun v w' => Below w.heap.size w w' ∧ ((all (ad i S)).getD i (fun _ _ => True)) v w' ∧ fr A i w v w')) : unOp P ops L o w (fun v w' => (C (ad i S) w' ∧ (∀ j, S j → ((all (ad i S)).getD j (fun _ _ => True)) (V j) w') ∧ w.heap.size ≤ w'.heap.size) ∧ ((all (ad i S)).getD i (fun _ _ => True)) v w' ∧ fr A i w v w') := by
  have key : ∀ v w', (Below w.heap.size w w' ∧ ((all (ad i S)).getD i (fun _ _ => True)) v w' ∧ fr A i w v w') → ((C (ad i S) w' ∧ (∀ j, S j → ((all (ad i S)).getD j (fun _ _ => True)) (V j) w') ∧ w.heap.size ≤ w'.heap.size) ∧ ((all (ad i S)).getD i (fun _ _ => True)) v w' ∧ fr A i w v w') :=
    fun v w' h => ⟨⟨hCB w' hC h.1, fun j hj => hK j _ w' (hS.post j hj) h.1, h.1.size⟩, h.2⟩
  unfold unOp at h ⊢
  cases hg : o.guard with
  | none => rw [hg] at h; exact Does.mono h key
  | some gw =>
    rw [hg] at h
    obtain ⟨ag, c, hy, ht, hfl⟩ := h
    exact ⟨ag, c, hy, fun ha => Does.mono (ht ha) key, fun ha => key _ _ (hfl ha)⟩
end

/-- A slice's literal without elements. -/
theorem d_bslice0 {P : Program} {L : List (Nat × Value)} {w : World} {d : Option Tmp} {ty : TypeId} {ps : String} {af : Array Edge} {gu : Option (Nat × Bool)} {t e : TypeId} {sz : Nat} (ht : P.underlying t = some (.slice e)) (hi : (P.info? e).map (fun i => i.size) = some sz) :
    Does P L ⟨d, .buildSlice t 0 #[], ty, ps, af, gu⟩ w (fun v w' => ∃ b, v = .slice (some ⟨b, 0, none⟩) 0 0 ∧ Fresh w #[] e b w') := by
  obtain ⟨ie, hie⟩ : ∃ ie, P.info? e = some ie := by
    cases hh : P.info? e with
    | none => rw [hh] at hi; cases hi
    | some ie => exact ⟨ie, rfl⟩
  refine Runs.does (v := .slice (some ⟨w.heap.size, 0, none⟩) 0 0) (w' := w.alloc (.cells #[] e)) (fun ρ hρ => ?_) ⟨_, rfl, fresh_alloc _ _ _⟩
  simp [execOp, Instr.buildSlice, run_underlying ht, sizeOf, typeInfo, hie, newRow, Instr.fill]
  rw [show (Array.range 0) = #[] from by simp]; simp
end Go.Proofs.YtpalmpfkliepfaaDoor

namespace Go.Proofs.YtpalmpfkliepfaaDoor
open Go.RowKit
set_option linter.unusedVariables false
set_option linter.unusedSimpArgs false

def inS (L : List ByteArray) (s : ByteArray) : Bool := L.any fun x => decide (x = s)
/-- Block b of w is a map that holds true at the strings of L, and nothing else. -/
def SetM (P : Program) (k e : TypeId) (w : World) (b : Nat) (L : List ByteArray) : Prop :=
  ∃ D n, w.ownsMap (H := Unit) P k (plainElem P e) b n D ∧ n ≤ L.length ∧ Maps.IsMap D ∧ ∀ s : ByteArray, s.size ≤ maxLen → D.atKey (.string s.data.toList) (.lit (.bool false)) = .lit (.bool (inS L s))
section
variable {P : Program} {L : List (Nat × Value)} {w : World} {d : Option Tmp} {ty : TypeId} {ps : String} {af : Array Edge} {gu : Option (Nat × Bool)} {t k e : TypeId} {b : Nat} {S : List ByteArray}
theorem SetM.ext {w' : World} (h : SetM P k e w b S) (hb : Below w.heap.size w w') : SetM P k e w' b S := by
  obtain ⟨D, n, h1, h2, h3⟩ := h
  exact ⟨D, n, h1.kept (below_grown (r := none) hb) (by simp), h2, h3⟩
theorem SetM.grown {w' : World} {c : Nat} (h : SetM P k e w b S) (hg : w.grownBy w' (some c)) (hne : b ≠ c) : SetM P k e w' b S := by
  obtain ⟨D, n, h1, h2, h3⟩ := h
  exact ⟨D, n, h1.kept hg (fun e => hne (Option.some.inj e)), h2, h3⟩
theorem SetM.lt (h : SetM P k e w b S) : b < w.heap.size := by
  obtain ⟨D, n, h1, h2, h3⟩ := h
  exact h1.lt
end
end Go.Proofs.YtpalmpfkliepfaaDoor

namespace Go.Proofs.YtpalmpfkliepfaaDoor
open Go.RowKit
set_option linter.unusedVariables false
set_option linter.unusedSimpArgs false

/-- Below B nothing but block b is another. -/
structure KB (b B : Nat) (w w' : World) : Prop where
  os : w'.os = w.os
  tape : w'.tape = w.tape
  output : w'.output = w.output
  size : w.heap.size ≤ w'.heap.size
  block : ∀ k, k < B → k ≠ b → w'.heap[k]? = w.heap[k]?
section
variable {b B : Nat} {w w1 w2 : World}
theorem KB.refl (b B : Nat) (w : World) : KB b B w w := ⟨rfl, rfl, rfl, Nat.le_refl _, fun _ _ _ => rfl⟩
theorem KB.trans (h : KB b B w w1) (h2 : Below B w1 w2) : KB b B w w2 := ⟨h2.os.trans h.os, h2.tape.trans h.tape, h2.output.trans h.output, Nat.le_trans h.size h2.size, fun k hk hne => (h2.block k hk).trans (h.block k hk hne)⟩
theorem KB.wrote (h : KB b B w w1) (hg : w1.grownBy w2 (some b)) (hB : B ≤ w1.heap.size) : KB b B w w2 :=
  ⟨hg.os.trans h.os, hg.tape.trans h.tape, hg.output.trans h.output, Nat.le_trans h.size hg.size, fun k hk hne => (hg.block k (Nat.lt_of_lt_of_le hk hB) (fun e => hne (Option.some.inj e))).trans (h.block k hk hne)⟩
theorem KB.grown (h : KB b w.heap.size w w1) : w.grownBy w1 (some b) := ⟨h.os, h.tape, h.output, h.size, fun k hk hne => h.block k hk (fun e => hne (by rw [e]))⟩
end
section
variable {P : Program} {L : List (Nat × Value)} {w : World} {d : Option Tmp} {ty : TypeId} {ps : String} {af : Array Edge} {gu : Option (Nat × Bool)}
theorem r_nilCheck {x : Operand} {p : Addr} (hx : evO L x = some (.pointer (some p))) : Runs P L ⟨d, .nilCheck x, ty, ps, af, gu⟩ w (.pointer (some p)) w := by
  intro ρ hρ
  simp [execOp, hρ _ _ hx]
theorem d_callW {f : FuncId} {xs : Array Operand} {tys : Array TypeId} {vs : List Value} {fn : Func} {v : Value} {b T : Nat} {cs : Array Value} (hv : xs.toList.map (evO L) = vs.map some) (hf : P.funcs[f]? = some fn) (hb : fn.body.isNone = false) (hn : (fn.name == "runtime.NumGoroutine") = false)
    (hc : Calls P f vs.toArray w (fun e w' => e = .returned v ∧ Wrote w b cs T w')) : Does P L ⟨d, .call { callee := .value (.func f), args := xs, argTypes := tys }, ty, ps, af, gu⟩ w (fun u w' => u = v ∧ Wrote w b cs T w') :=
  d_callX hv hf hb hn (hc.mono (fun e w' h => ⟨v, h.1, rfl, h.2⟩))
end
end Go.Proofs.YtpalmpfkliepfaaDoor

namespace Go.Proofs.YtpalmpfkliepfaaDoor
open Go.RowKit
set_option linter.unusedVariables false
set_option linter.unusedSimpArgs false

/-- Below B nothing but the blocks of a list are others. -/
structure KS (S : List Nat) (B : Nat) (w w' : World) : Prop where
  os : w'.os = w.os
  tape : w'.tape = w.tape
  output : w'.output = w.output
  size : w.heap.size ≤ w'.heap.size
  block : ∀ k, k < B → k ∉ S → w'.heap[k]? = w.heap[k]?
section
variable {S S2 : List Nat} {b B : Nat} {w w1 w2 w' : World}
theorem KS.refl (S : List Nat) (B : Nat) (w : World) : KS S B w w := ⟨rfl, rfl, rfl, Nat.le_refl _, fun _ _ _ => rfl⟩
theorem KS.many (h : KS S B w w1) (h2 : KS S2 w1.heap.size w1 w2) (hs : ∀ b ∈ S2, b ∈ S ∨ B ≤ b) (hB : B ≤ w1.heap.size) : KS S B w w2 :=
  ⟨h2.os.trans h.os, h2.tape.trans h.tape, h2.output.trans h.output, Nat.le_trans h.size h2.size, fun k hk hne => (h2.block k (Nat.lt_of_lt_of_le hk hB) (fun hm => (hs k hm).elim hne (fun h => by omega))).trans (h.block k hk hne)⟩
theorem KS.trans (h : KS S B w w1) (h2 : Below B w1 w2) : KS S B w w2 := ⟨h2.os.trans h.os, h2.tape.trans h.tape, h2.output.trans h.output, Nat.le_trans h.size h2.size, fun k hk hne => (h2.block k hk).trans (h.block k hk hne)⟩
theorem KS.wrote (h : KS S B w w1) (hg : w1.grownBy w2 (some b)) (hB : B ≤ w1.heap.size) (hm : b ∈ S ∨ B ≤ b) : KS S B w w2 :=
  ⟨hg.os.trans h.os, hg.tape.trans h.tape, hg.output.trans h.output, Nat.le_trans h.size hg.size, fun k hk hne => (hg.block k (Nat.lt_of_lt_of_le hk hB) (fun e => by cases e; exact hm.elim hne (fun h => by omega))).trans (h.block k hk hne)⟩
theorem KS.below (h : KS [] B w w') : Below B w w' := ⟨h.os, h.tape, h.output, h.size, fun k hk => h.block k hk (by simp)⟩
theorem KS.sub (h : KS S B w w') (hs : ∀ b ∈ S, b ∈ S2) : KS S2 B w w' := ⟨h.os, h.tape, h.output, h.size, fun k hk hne => h.block k hk (fun hm => hne (hs k hm))⟩
end
theorem Row.base_le {α : Type} {k e base n c : Nat} {V : α → List Value} {w : World} {a : Option Addr} {l : List α} (h : Row k V e base w (.slice a n c) l) (h0 : 0 < l.length) : base ≤ w.heap.size := by
  obtain ⟨g, _, h1, h2⟩ := h.some h0
  omega
/-- Nothing but block b and a row's own block is another. -/
structure GO (w : World) (b : Nat) (v : Value) (w' : World) : Prop where
  os : w'.os = w.os
  tape : w'.tape = w.tape
  output : w'.output = w.output
  size : w.heap.size ≤ w'.heap.size
  block : ∀ k, k < w.heap.size → k ≠ b → some k ≠ v.ownBlock → w'.heap[k]? = w.heap[k]?
section
variable {w w1 w2 : World} {b : Nat} {v : Value}
theorem GO.refl (w : World) (b : Nat) (v : Value) : GO w b v w := ⟨rfl, rfl, rfl, Nat.le_refl _, fun _ _ _ _ => rfl⟩
theorem GO.below (h : GO w b v w1) (h2 : Below w1.heap.size w1 w2) : GO w b v w2 := ⟨h2.os.trans h.os, h2.tape.trans h.tape, h2.output.trans h.output, Nat.le_trans h.size h2.size, fun k hk h3 h4 => (h2.block k (Nat.lt_of_lt_of_le hk h.size)).trans (h.block k hk h3 h4)⟩
theorem GO.call (h : GO w b v w1) (hg : w1.grownBy w2 (some b)) : GO w b v w2 := ⟨hg.os.trans h.os, hg.tape.trans h.tape, hg.output.trans h.output, Nat.le_trans h.size hg.size, fun k hk h3 h4 => (hg.block k (Nat.lt_of_lt_of_le hk h.size) (fun e => h3 (Option.some.inj e))).trans (h.block k hk h3 h4)⟩
theorem GO.app (h : GO w b v w1) (hg : w1.grownBy w2 v.ownBlock) : GO w b v w2 := ⟨hg.os.trans h.os, hg.tape.trans h.tape, hg.output.trans h.output, Nat.le_trans h.size hg.size, fun k hk h3 h4 => (hg.block k (Nat.lt_of_lt_of_le hk h.size) h4).trans (h.block k hk h3 h4)⟩
theorem blk_go {k : Nat} {o : Obj} (hk : w.heap[k]? = some o) (h : GO w b v w1) (h1 : k ≠ b) (h2 : v.ownBlock ≠ some k) : w1.heap[k]? = some o := (h.block k (Array.getElem?_eq_some_iff.1 hk).1 h1 (fun e => h2 e.symm)).trans hk
theorem Row.go {α : Type} {k e base : Nat} {V : α → List Value} {u : Value} {l : List α} (hr : Row k V e base w u l) (h : GO w b v w1) (h1 : u.ownBlock ≠ Option.some b) (h2 : ∀ q, u.ownBlock = Option.some q → v.ownBlock ≠ Option.some q) : Row k V e base w1 u l := by
  refine ⟨hr.1, ?_⟩
  rcases hr.2 with hz | ⟨g, cap, cur, rfl, hb, hgg, rest⟩
  · exact .inl hz
  · exact .inr ⟨g, cap, cur, rfl, hb, blk_go hgg h (fun e => h1 (by rw [← e]; rfl)) (h2 g rfl), rest⟩
theorem KS.go {S : List Nat} {B : Nat} {w0 : World} (h : KS S B w0 w) (h2 : GO w b v w1) (hB : B ≤ w.heap.size) (hm : b ∈ S ∨ B ≤ b) (hv : ∀ q, v.ownBlock = some q → B ≤ q) : KS S B w0 w1 :=
  ⟨h2.os.trans h.os, h2.tape.trans h.tape, h2.output.trans h.output, Nat.le_trans h.size h2.size, fun k hk hne => (h2.block k (Nat.lt_of_lt_of_le hk hB) (fun e => by subst e; exact hm.elim hne (fun h => by omega)) (fun e => by have := hv k e.symm; omega)).trans (h.block k hk hne)⟩
theorem keptApp {α : Type} {k e base n : Nat} {V : α → List Value} {l : List α} : ∀ (x : Value) (w w' : World), (∃ a c, x = .slice a n c ∧ Row k V e base w x l) → Below w.heap.size w w' → (∃ a c, x = .slice a n c ∧ Row k V e base w' x l) := by
  rintro x w w' ⟨a, c, h1, h2⟩ hb
  exact ⟨a, c, h1, h2.ext hb⟩
end
section
variable {P : Program} {L : List (Nat × Value)} {w : World} {d : Option Tmp} {ty : TypeId} {ps : String} {af : Array Edge} {gu : Option (Nat × Bool)}
/-- The bytes of a string, of a block. -/
def StrC (cs : Array Value) (s : ByteArray) : Prop := ∀ j, j < s.size → cs[j]? = some (.int .u8 ((sbt s j : Nat) : Int))
theorem StrC.rd {b e : Nat} {cs : Array Value} {fr : Nat × Nat} {s : ByteArray} (hb : w.heap[b]? = some (.cells cs e fr)) (h : StrC cs s) : RdS 1 (vInt .u8) w (some ⟨b, 0, none⟩) (nums s) := by
  intro j x hx
  have hj : j < s.size := by rw [← nums_len]; exact (List.getElem?_eq_some_iff.1 hx).1
  refine ⟨b, 0, rfl, blk_lt hb, fun i u hu => ?_⟩
  rw [nums_get hj] at hx
  cases hx
  cases i with
  | zero => cases hu; exact cell_blk hb (by rw [Nat.zero_add, Nat.mul_one]; exact h j hj)
  | succ i => cases hu
end
/-- Where a part of a slice lies. -/
def slAt (a : Option Addr) (c l k : Nat) : Option Addr := if c = l then a else a.map (·.add (l * k))
theorem slAt_rd {α : Type} {k e base n c l : Nat} {V : α → List Value} {w : World} {a : Option Addr} {L X : List α} (hk : ∀ x, (V x).length = k) (h : Row k V e base w (.slice a n c) L) (hX : (L.drop l).take X.length = X) (hl : l + X.length ≤ L.length) : RdS k V w (slAt a c l k) X := by
  rcases Nat.eq_zero_or_pos X.length with h0 | h0
  · rw [List.length_eq_zero_iff.1 h0]; exact RdS.nil
  · obtain ⟨b, rfl, _, _⟩ := h.some (by omega)
    have hc := h.caps
    have he : slAt (some ⟨b, 0, none⟩) c l k = some ⟨b, 0 + l * k, none⟩ := by
      unfold slAt
      rw [if_neg (by omega)]
      simp [Addr.add]
      intro h; exact h.symm
    rw [he, ← hX]
    exact ((Row.rd hk h).drop l).take _
section
variable {P : Program} {L : List (Nat × Value)} {w : World} {d : Option Tmp} {ty : TypeId} {ps : String} {af : Array Edge} {gu : Option (Nat × Bool)}
theorem r_slfrom {t e : TypeId} {x lo : Operand} {k : IntKind} {A : Int} {a : Option Addr} {n c l sz : Nat} (hx : evO L x = some (.slice a n c)) (hlo : evO L lo = some (.int k A)) (ht : P.underlying t = some (.slice e)) (hs : (P.info? e).map (fun i => i.size) = some sz) (hA : A = l) (h1 : l ≤ n) :
    Runs P L ⟨d, .slice t x (some lo) none none, ty, ps, af, gu⟩ w (.slice (slAt a c l sz) (n - l) (c - l)) w := by
  intro ρ hρ
  obtain ⟨ii, hii, hsz⟩ : ∃ ii, P.info? e = some ii ∧ ii.size = sz := by
    cases hq : P.info? e with
    | none => rw [hq] at hs; cases hs
    | some ii => exact ⟨ii, rfl, by rw [hq] at hs; simpa using hs⟩
  have he : P.elem t = e := by simp [Program.elem, ht]
  subst hA hsz
  have h1' := run_sliceAt_slice (P := P) w t (.slice a n c) (some (.int k (l : Int))) none none (by rw [he]; exact ht)
  have h2' := run_slice_l (P := P) w t a n c (by rw [he]; exact ht) k l (by omega) (by omega)
  simp only [execOp, hρ x _ hx, Option.map_none, Option.map_some, hρ lo _ hlo]
  simp only [Sem.run_bind, h1', h2', he, sizeOf, typeInfo]
  simp [hii, sliced, slAt]
end
section
variable {P : Program} {fn : Func} {R : Ending → World → Prop} {a : Act} {N : Nat} {L : List (Nat × Value)} {w : World}
end
end Go.Proofs.YtpalmpfkliepfaaDoor
