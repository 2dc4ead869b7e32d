/- What is proved here: Digits and Number, by the document. What is proved here: types of values: which may be, and their names, by the program and by the document. What is proved here: strings.Join (laid by the kit's shelf). What is proved here: names of types and texts, by the program and by the document. What is proved here: rules for maps of the call's own whose keys are strings and whose elements are bools (sets). What is proved here: rules for functions that write one block of the old memory (a scanner), and for calls of them. What is proved here: rules for functions that write several blocks of the old memory, for function values, for parts of slices, for bytes of strings. What is proved here: the example of chapter 46; a number without a sign. What is proved here: a module in lines: kinds, limits, what is taken. -/
import Derived.Test.YtpalmpfkliepfaaTextOutlinesMgAA
import Derived.Shelf.Strings.OnBuilder
import Derived.Maps.Own
import Derived.Maps.Views
import Derived.StringKeys
import Derived.Lib.ConvBytes
import Derived.Laws.Pointers
namespace Go.Proofs.Ytpalmpfkliepfaa
open Go.RowKit Ut
set_option linter.unusedVariables false
set_option linter.unusedSimpArgs false
theorem dS_zero : dS 0 = ⟨#[48]⟩ := by unfold dS digB; rw [if_neg (by omega), show (0 : Int).natAbs = 0 from rfl, natB_lt (by decide)]; rfl
def natZ (n : Nat) : List Nat := if n = 0 then [] else natB n
theorem natZ_step {n : Nat} (h : n ≠ 0) : natZ n = natZ (n / 10) ++ [48 + n % 10] := by
  unfold natZ
  rw [if_neg h]
  by_cases h2 : n < 10
  · rw [if_pos (by omega), natB_lt h2, show n % 10 = n by omega]; rfl
  · rw [if_neg (by omega), natB_ge h2]
theorem tmod10 (m : Int) : (m < 0 → Int.tmod m 10 = -((m.natAbs % 10 : Nat) : Int)) ∧ (0 ≤ m → Int.tmod m 10 = ((m.natAbs % 10 : Nat) : Int)) := by
  constructor
  · intro h
    obtain ⟨a, rfl⟩ : ∃ a : Nat, m = -(a : Int) := ⟨m.natAbs, by omega⟩
    rw [Int.neg_tmod, Int.natAbs_neg, Int.natAbs_natCast]; rfl
  · intro h
    obtain ⟨a, rfl⟩ : ∃ a : Nat, m = (a : Int) := ⟨m.natAbs, by omega⟩
    rw [Int.natAbs_natCast]; rfl
theorem tdiv10 (m : Int) : (m < 0 → Int.tdiv m 10 = -((m.natAbs / 10 : Nat) : Int)) ∧ (0 ≤ m → Int.tdiv m 10 = ((m.natAbs / 10 : Nat) : Int)) := by
  constructor
  · intro h
    obtain ⟨a, rfl⟩ : ∃ a : Nat, m = -(a : Int) := ⟨m.natAbs, by omega⟩
    rw [Int.neg_tdiv, Int.natAbs_neg, Int.natAbs_natCast]; rfl
  · intro h
    obtain ⟨a, rfl⟩ : ∃ a : Nat, m = (a : Int) := ⟨m.natAbs, by omega⟩
    rw [Int.natAbs_natCast]; rfl
theorem bl_cons1 (x : Nat) (hx : x < 256) (o : ByteArray) : bl (strOfNums [((x : Nat) : Int)] ++ o) = x :: bl o := by
  rw [bl_app]
  show bl (strN [x]) ++ _ = _
  rw [bl_strN _ (by intro y hy; simp only [List.mem_singleton] at hy; omega)]; rfl
set_option maxHeartbeats 1000000 in
set_option maxRecDepth 100000 in
theorem rdigits_any (n : Int) (w : World) (h : inI n) : Calls Try.prog 33 #[(.int .i64 n)] w fun e w' => e = .returned (.string (dS n)) ∧ Below w.heap.size w w' := by
  unfold inI at h
  refine sx_enter (L := [(0, (.int .i64 n))]) Try.func33 rfl rfl rfl rfl (fun fa hf => ?_)
  have hb : Below w.heap.size w w := Below.refl _ _
  refine wp_seq_k (fun K1 hK1 => ?_)
  refine wp_region_lit ?_
  refine sqv hf (r_assign rfl) rfl rfl rfl ?_; clear hf fa; intro fa hf
  apply wpList_nil
  (try simp only [Exit.then, Exit.inBlock, ↓reduceIte, Nat.reduceEqDiff])
  refine hK1 _ _ ?_
  refine wp_seq_k (fun K2 hK2 => ?_)
  refine wp_region_lit ?_
  refine sqv hf (r_move rfl) rfl rfl rfl ?_; clear hf fa; intro fa hf
  refine sqv hf (r_lt rfl rfl) rfl rfl rfl ?_; clear hf fa; intro fa hf
  refine sqv hf (r_assign rfl) rfl rfl rfl ?_; clear hf fa; intro fa hf
  refine sqv hf (r_assign rfl) rfl rfl rfl ?_; clear hf fa; intro fa hf
  apply wpList_nil
  (try simp only [Exit.then, Exit.inBlock, ↓reduceIte, Nat.reduceEqDiff])
  refine hK2 _ _ ?_
  refine wp_seq_k (fun K3 hK3 => ?_)
  refine wp_seq_k (fun K4 hK4 => ?_)
  refine wp_region_lit ?_
  refine sqv hf (r_move rfl) rfl rfl rfl ?_; clear hf fa; intro fa hf
  refine sqv hf (r_eq rfl rfl) rfl rfl rfl ?_; clear hf fa; intro fa hf
  apply wpList_nil
  (try simp only [Exit.then, Exit.inBlock, ↓reduceIte, Nat.reduceEqDiff])
  refine hK4 _ _ ?_
  refine wp_cond_split (t := (decide (n = (0 : Int)))) (hf.ev rfl) (fun hqt9_1 => ?_) (fun hqt9_1 => ?_)
  · have hqt9_1b := hqt9_1
    try simp only [decide_eq_true_eq, Bool.and_eq_true, Bool.or_eq_true, Bool.not_eq_true', decide_eq_false_iff_not, ne_eq, Bool.not_eq_true] at hqt9_1
    refine wp_seq_k (fun K5 hK5 => ?_)
    refine wp_region_lit ?_
    refine sqv hf (r_assign rfl) rfl rfl rfl ?_; clear hf fa; intro fa hf
    apply wpList_nil
    (try simp only [Exit.then, Exit.inBlock, ↓reduceIte, Nat.reduceEqDiff])
    refine hK5 _ _ ?_
    refine wp_ret ?_
    (try simp only [Exit.then, Exit.inBlock])
    refine ret1 hf rfl rfl ?_
    refine ⟨?_, hb⟩; rw [show n = 0 from by omega, dS_zero]
  · have hqt9_1b := hqt9_1
    replace hqt9_1 := Bool.eq_false_iff.1 hqt9_1
    try simp only [ne_eq, decide_eq_true_eq, Bool.and_eq_true, Bool.or_eq_true, Bool.not_eq_true', decide_eq_false_iff_not] at hqt9_1
    refine wp_skip ?_
    (try simp only [Exit.then, Exit.inBlock, ↓reduceIte, Nat.reduceEqDiff])
    refine hK3 _ _ ?_
    refine wp_seq_k (fun K6 hK6 => ?_)
    refine wp_block ?_
    refine wp_loop_k (fun mq fa wr => ∃ (m : Int) (o : ByteArray), mq = m.natAbs ∧ Fr 31 fa [(0, (.int .i64 m)), (3, (.string o)), (4, (.bool (decide ((n) < (0 : Int)))))] ∧ Below w.heap.size w wr ∧ ((n < 0 → m ≤ 0) ∧ (0 < n → 0 ≤ m)) ∧ (m.natAbs ≤ n.natAbs) ∧ (natB n.natAbs = natZ m.natAbs ++ bl o)) ?_ ?_
    · skip
      exact ⟨_, n, (⟨#[]⟩ : ByteArray), rfl, hf.sub ⟨rfl, (some_str (by first | rfl | assumption | simp)), rfl, trivial⟩, hb, by omega, by omega, (by unfold natZ; rw [if_neg (by omega)]; exact (List.append_nil _).symm)⟩
    · skip
      clear hf fa; intro mq1 fa w1 hI KL1 hKL1
      clear hb
      obtain ⟨m, o, hmq1, hf, hb, hms, hma, Hs⟩ := hI
      have hol : o.size ≤ 19 := by have h1 := natB_len 19 n.natAbs (by decide) (by omega); have h2 := congrArg List.length Hs; rw [List.length_append, bl_length] at h2; omega
      obtain ⟨d, hd⟩ : ∃ d, Int.tmod m 10 = d := ⟨_, rfl⟩
      have hd1 := tmod10 m; rw [hd] at hd1
      have hd2 := tdiv10 m
      refine wp_seq_k (fun K7 hK7 => ?_)
      refine wp_seq_k (fun K8 hK8 => ?_)
      refine wp_region_lit ?_
      refine sqv hf (r_move rfl) rfl rfl rfl ?_; clear hf fa; intro fa hf
      refine sqv hf (r_ne rfl rfl) rfl rfl rfl ?_; clear hf fa; intro fa hf
      apply wpList_nil
      (try simp only [Exit.then, Exit.inBlock, ↓reduceIte, Nat.reduceEqDiff])
      refine hK8 _ _ ?_
      refine wp_cond_split (t := (decide (m ≠ (0 : Int)))) (hf.ev rfl) (fun hqt11_1 => ?_) (fun hqt11_1 => ?_)
      · have hqt11_1b := hqt11_1
        try simp only [decide_eq_true_eq, Bool.and_eq_true, Bool.or_eq_true, Bool.not_eq_true', decide_eq_false_iff_not, ne_eq, Bool.not_eq_true] at hqt11_1
        refine wp_skip ?_
        (try simp only [Exit.then, Exit.inBlock, ↓reduceIte, Nat.reduceEqDiff])
        refine hK7 _ _ ?_
        refine wp_block ?_
        refine wp_seq_k (fun K9 hK9 => ?_)
        refine wp_region_lit ?_
        refine sqv hf (r_move rfl) rfl rfl rfl ?_; clear hf fa; intro fa hf
        refine sqv hf (r_rem (C := d) rfl rfl (by omega) hd) rfl rfl rfl ?_; clear hf fa; intro fa hf
        refine sqv hf (r_assign rfl) rfl rfl rfl ?_; clear hf fa; intro fa hf
        apply wpList_nil
        (try simp only [Exit.then, Exit.inBlock, ↓reduceIte, Nat.reduceEqDiff])
        refine hK9 _ _ ?_
        refine wp_seq_k (fun K10 hK10 => ?_)
        refine wp_seq_k (fun K11 hK11 => ?_)
        refine wp_region_lit ?_
        refine sqv hf (r_move rfl) rfl rfl rfl ?_; clear hf fa; intro fa hf
        refine sqv hf (r_lt rfl rfl) rfl rfl rfl ?_; clear hf fa; intro fa hf
        apply wpList_nil
        (try simp only [Exit.then, Exit.inBlock, ↓reduceIte, Nat.reduceEqDiff])
        refine hK11 _ _ ?_
        refine wp_cond_split (t := (decide (d < (0 : Int)))) (hf.ev rfl) (fun hqt15_1 => ?_) (fun hqt15_1 => ?_)
        · have hqt15_1b := hqt15_1
          try simp only [decide_eq_true_eq, Bool.and_eq_true, Bool.or_eq_true, Bool.not_eq_true', decide_eq_false_iff_not, ne_eq, Bool.not_eq_true] at hqt15_1
          refine wp_region_lit ?_
          refine sqv hf (r_move rfl) rfl rfl rfl ?_; clear hf fa; intro fa hf
          refine sqv hf (r_neg (C := (((m.natAbs % 10) : Nat) : Int)) rfl (by rw [IntKind.wrap_i64]; omega)) rfl rfl rfl ?_; clear hf fa; intro fa hf
          refine sqv hf (r_assign rfl) rfl rfl rfl ?_; clear hf fa; intro fa hf
          apply wpList_nil
          (try simp only [Exit.then, Exit.inBlock, ↓reduceIte, Nat.reduceEqDiff])
          refine hK10 _ _ ?_
          refine wp_seq_k (fun K12 hK12 => ?_)
          refine wp_region_lit ?_
          refine sqv hf (r_move rfl) rfl rfl rfl ?_; clear hf fa; intro fa hf
          refine sqv hf (r_add (C := (((48 + m.natAbs % 10) : Nat) : Int)) rfl rfl (by rw [IntKind.wrap_i64]; omega)) rfl rfl rfl ?_; clear hf fa; intro fa hf
          refine sqv hf (r_conv (C := (((48 + m.natAbs % 10) : Nat) : Int)) rfl Try.underlying3 Try.underlying5 (by rw [IntKind.wrap_u8]; omega)) rfl rfl rfl ?_; clear hf fa; intro fa hf
          refine sqdt hf (d_bslice (z := (.int .u8 (0 : Int))) (sz := 1) (vs := [(0, (.int .u8 (((48 + m.natAbs % 10) : Nat) : Int)))]) (cs := #[(.int .u8 (((48 + m.natAbs % 10) : Nat) : Int))]) rfl Try.underlying43 (by kernel_rfl) rfl (by kernel_rfl)) rfl rfl rfl ?_; clear hf fa; rintro fa _ w2 ⟨b1, rfl, hle1, hk1, he1⟩ hf
          have hBb1 : w.heap.size ≤ b1 := Nat.le_trans hb.size hle1
          replace hb := hb.trans (Below.mono he1 hb.size)
          refine sqv hf (r_rowstr rfl Try.underlying43 Try.underlying5 Try.underlying9 (Row.of_new (k := 1) (V := vInt .u8) (l := [(((48 + m.natAbs % 10) : Nat) : Int)]) hk1 (Nat.le_refl _) rfl rfl (Nat.le_of_ble_eq_true rfl))) rfl rfl rfl ?_; clear hf fa; intro fa hf
          refine sqv hf (r_move rfl) rfl rfl rfl ?_; clear hf fa; intro fa hf
          refine sqv hf (r_sadd rfl rfl (by have := strOfNums_size [(((48 + m.natAbs % 10) : Nat) : Int)]; (try simp only [List.length_cons, List.length_nil, List.length_append] at this); omega)) rfl rfl rfl ?_; clear hf fa; intro fa hf
          refine sqv hf (r_assign rfl) rfl rfl rfl ?_; clear hf fa; intro fa hf
          apply wpList_nil
          (try simp only [Exit.then, Exit.inBlock, ↓reduceIte, Nat.reduceEqDiff])
          refine hK12 _ _ ?_
          refine wp_region_lit ?_
          refine sqv hf (r_move rfl) rfl rfl rfl ?_; clear hf fa; intro fa hf
          refine sqv hf (r_quo (C := ((if m < 0 then -((m.natAbs / 10 : Nat) : Int) else ((m.natAbs / 10 : Nat) : Int)))) rfl rfl (by omega) (by rw [IntKind.wrap_i64]; split <;> omega)) rfl rfl rfl ?_; clear hf fa; intro fa hf
          refine sqv hf (r_assign rfl) rfl rfl rfl ?_; clear hf fa; intro fa hf
          apply wpList_nil
          (try simp only [Exit.then, Exit.inBlock, ↓reduceIte, Nat.reduceEqDiff])
          refine hKL1 _ _ _ (by split <;> omega) ⟨(if m < 0 then -((m.natAbs / 10 : Nat) : Int) else ((m.natAbs / 10 : Nat) : Int)), ((strOfNums [(((48 + m.natAbs % 10) : Nat) : Int)]) ++ o), rfl, hf.sub ⟨(some_int (by first | rfl | omega)), rfl, rfl, trivial⟩, hb, by split <;> omega, by split <;> omega, (by rw [Hs, natZ_step (by omega), show (if m < 0 then -((m.natAbs / 10 : Nat) : Int) else ((m.natAbs / 10 : Nat) : Int)).natAbs = m.natAbs / 10 by split <;> omega, bl_cons1 _ (by omega)]; simp)⟩
        · have hqt15_1b := hqt15_1
          replace hqt15_1 := Bool.eq_false_iff.1 hqt15_1
          try simp only [ne_eq, decide_eq_true_eq, Bool.and_eq_true, Bool.or_eq_true, Bool.not_eq_true', decide_eq_false_iff_not] at hqt15_1
          refine wp_skip ?_
          (try simp only [Exit.then, Exit.inBlock, ↓reduceIte, Nat.reduceEqDiff])
          refine hK10 _ _ ?_
          refine wp_seq_k (fun K13 hK13 => ?_)
          refine wp_region_lit ?_
          refine sqv hf (r_move rfl) rfl rfl rfl ?_; clear hf fa; intro fa hf
          refine sqv hf (r_add (C := (((48 + m.natAbs % 10) : Nat) : Int)) rfl rfl (by rw [IntKind.wrap_i64]; omega)) rfl rfl rfl ?_; clear hf fa; intro fa hf
          refine sqv hf (r_conv (C := (((48 + m.natAbs % 10) : Nat) : Int)) rfl Try.underlying3 Try.underlying5 (by rw [IntKind.wrap_u8]; omega)) rfl rfl rfl ?_; clear hf fa; intro fa hf
          refine sqdt hf (d_bslice (z := (.int .u8 (0 : Int))) (sz := 1) (vs := [(0, (.int .u8 (((48 + m.natAbs % 10) : Nat) : Int)))]) (cs := #[(.int .u8 (((48 + m.natAbs % 10) : Nat) : Int))]) rfl Try.underlying43 (by kernel_rfl) rfl (by kernel_rfl)) rfl rfl rfl ?_; clear hf fa; rintro fa _ w3 ⟨b2, rfl, hle2, hk2, he2⟩ hf
          have hBb2 : w.heap.size ≤ b2 := Nat.le_trans hb.size hle2
          replace hb := hb.trans (Below.mono he2 hb.size)
          refine sqv hf (r_rowstr rfl Try.underlying43 Try.underlying5 Try.underlying9 (Row.of_new (k := 1) (V := vInt .u8) (l := [(((48 + m.natAbs % 10) : Nat) : Int)]) hk2 (Nat.le_refl _) rfl rfl (Nat.le_of_ble_eq_true rfl))) rfl rfl rfl ?_; clear hf fa; intro fa hf
          refine sqv hf (r_move rfl) rfl rfl rfl ?_; clear hf fa; intro fa hf
          refine sqv hf (r_sadd rfl rfl (by have := strOfNums_size [(((48 + m.natAbs % 10) : Nat) : Int)]; (try simp only [List.length_cons, List.length_nil, List.length_append] at this); omega)) rfl rfl rfl ?_; clear hf fa; intro fa hf
          refine sqv hf (r_assign rfl) rfl rfl rfl ?_; clear hf fa; intro fa hf
          apply wpList_nil
          (try simp only [Exit.then, Exit.inBlock, ↓reduceIte, Nat.reduceEqDiff])
          refine hK13 _ _ ?_
          refine wp_region_lit ?_
          refine sqv hf (r_move rfl) rfl rfl rfl ?_; clear hf fa; intro fa hf
          refine sqv hf (r_quo (C := ((if m < 0 then -((m.natAbs / 10 : Nat) : Int) else ((m.natAbs / 10 : Nat) : Int)))) rfl rfl (by omega) (by rw [IntKind.wrap_i64]; split <;> omega)) rfl rfl rfl ?_; clear hf fa; intro fa hf
          refine sqv hf (r_assign rfl) rfl rfl rfl ?_; clear hf fa; intro fa hf
          apply wpList_nil
          (try simp only [Exit.then, Exit.inBlock, ↓reduceIte, Nat.reduceEqDiff])
          refine hKL1 _ _ _ (by split <;> omega) ⟨(if m < 0 then -((m.natAbs / 10 : Nat) : Int) else ((m.natAbs / 10 : Nat) : Int)), ((strOfNums [(((48 + m.natAbs % 10) : Nat) : Int)]) ++ o), rfl, hf.sub ⟨(some_int (by first | rfl | omega)), rfl, rfl, trivial⟩, hb, by split <;> omega, by split <;> omega, (by rw [Hs, natZ_step (by omega), show (if m < 0 then -((m.natAbs / 10 : Nat) : Int) else ((m.natAbs / 10 : Nat) : Int)).natAbs = m.natAbs / 10 by split <;> omega, bl_cons1 _ (by omega)]; simp)⟩
      · have hqt11_1b := hqt11_1
        replace hqt11_1 := Bool.eq_false_iff.1 hqt11_1
        try simp only [ne_eq, decide_eq_true_eq, Bool.and_eq_true, Bool.or_eq_true, Bool.not_eq_true', decide_eq_false_iff_not] at hqt11_1
        refine wp_exit ?_
        (try simp only [Exit.then, Exit.inBlock, ↓reduceIte, Nat.reduceEqDiff])
        refine hK6 _ _ ?_
        refine wp_seq_k (fun K14 hK14 => ?_)
        refine wp_seq_k (fun K15 hK15 => ?_)
        refine wp_region_lit ?_
        refine sqv hf (r_move rfl) rfl rfl rfl ?_; clear hf fa; intro fa hf
        apply wpList_nil
        (try simp only [Exit.then, Exit.inBlock, ↓reduceIte, Nat.reduceEqDiff])
        refine hK15 _ _ ?_
        refine wp_cond_split (t := (decide ((n) < (0 : Int)))) (hf.ev rfl) (fun hqt27_1 => ?_) (fun hqt27_1 => ?_)
        · have hqt27_1b := hqt27_1
          try simp only [decide_eq_true_eq, Bool.and_eq_true, Bool.or_eq_true, Bool.not_eq_true', decide_eq_false_iff_not, ne_eq, Bool.not_eq_true] at hqt27_1
          refine wp_seq_k (fun K16 hK16 => ?_)
          refine wp_region_lit ?_
          refine sqv hf (r_move rfl) rfl rfl rfl ?_; clear hf fa; intro fa hf
          refine sqv hf (r_sadd rfl rfl (by have : ((⟨#[45]⟩) : ByteArray).size = 1 := rfl; omega)) rfl rfl rfl ?_; clear hf fa; intro fa hf
          refine sqv hf (r_assign rfl) rfl rfl rfl ?_; clear hf fa; intro fa hf
          apply wpList_nil
          (try simp only [Exit.then, Exit.inBlock, ↓reduceIte, Nat.reduceEqDiff])
          refine hK16 _ _ ?_
          refine wp_ret ?_
          (try simp only [Exit.then, Exit.inBlock])
          refine ret1 hf rfl rfl ?_
          have hfin : natB n.natAbs = bl o := by rw [Hs, show m.natAbs = 0 by omega]; rfl
          refine ⟨?_, hb⟩; congr 2; rw [← dS_neg (by omega)]; congr 1; unfold nS; rw [hfin, strN_bl]
        · have hqt27_1b := hqt27_1
          replace hqt27_1 := Bool.eq_false_iff.1 hqt27_1
          try simp only [ne_eq, decide_eq_true_eq, Bool.and_eq_true, Bool.or_eq_true, Bool.not_eq_true', decide_eq_false_iff_not] at hqt27_1
          refine wp_skip ?_
          (try simp only [Exit.then, Exit.inBlock, ↓reduceIte, Nat.reduceEqDiff])
          refine hK14 _ _ ?_
          refine wp_seq_k (fun K17 hK17 => ?_)
          refine wp_region_lit ?_
          refine sqv hf (r_move rfl) rfl rfl rfl ?_; clear hf fa; intro fa hf
          refine sqv hf (r_assign rfl) rfl rfl rfl ?_; clear hf fa; intro fa hf
          apply wpList_nil
          (try simp only [Exit.then, Exit.inBlock, ↓reduceIte, Nat.reduceEqDiff])
          refine hK17 _ _ ?_
          refine wp_ret ?_
          (try simp only [Exit.then, Exit.inBlock])
          refine ret1 hf rfl rfl ?_
          have hfin : natB n.natAbs = bl o := by rw [Hs, show m.natAbs = 0 by omega]; rfl
          refine ⟨?_, hb⟩; congr 2; rw [← dS_pos (by omega)]; unfold nS; rw [hfin, strN_bl]

end Go.Proofs.Ytpalmpfkliepfaa

namespace Go.Proofs.Ytpalmpfkliepfaa
open Go.RowKit
set_option linter.unusedVariables false
set_option linter.unusedSimpArgs false
def tnameP (b : Int) : ByteArray :=
  bif (decide (b = (127 : Int))) then ⟨#[105, 51, 50]⟩
  else bif (decide (b = (126 : Int))) then ⟨#[105, 54, 52]⟩
  else bif (decide (b = (125 : Int))) then ⟨#[102, 51, 50]⟩
  else bif (decide (b = (124 : Int))) then ⟨#[102, 54, 52]⟩
  else bif (decide (b = (112 : Int))) then ⟨#[102, 117, 110, 99, 114, 101, 102]⟩
  else ⟨#[63]⟩

set_option maxHeartbeats 1000000 in
set_option maxRecDepth 100000 in
theorem tname_any (b : Int) (w : World)  : Calls Try.prog 70 #[(.int .u8 b)] w fun e w' => e = .returned (.string (tnameP b)) ∧ w = w' := by
  refine sx_enter (L := [(0, (.int .u8 b))]) Try.func70 rfl rfl rfl rfl (fun fa hf => ?_)
  have hb : Below w.heap.size w w := Below.refl _ _
  refine wp_seq_k (fun K1 hK1 => ?_)
  refine wp_region_lit ?_
  refine sqv hf (r_assign rfl) rfl rfl rfl ?_; clear hf fa; intro fa hf
  apply wpList_nil
  (try simp only [Exit.then, Exit.inBlock, ↓reduceIte, Nat.reduceEqDiff])
  refine hK1 _ _ ?_
  refine wp_seq_k (fun K2 hK2 => ?_)
  refine wp_seq_k (fun K3 hK3 => ?_)
  refine wp_region_lit ?_
  refine sqv hf (r_move rfl) rfl rfl rfl ?_; clear hf fa; intro fa hf
  apply wpList_nil
  (try simp only [Exit.then, Exit.inBlock, ↓reduceIte, Nat.reduceEqDiff])
  refine hK3 _ _ ?_
  refine wp_block ?_
  refine wp_seq_k (fun K4 hK4 => ?_)
  refine wp_region_lit ?_
  refine sqv hf (r_eq rfl rfl) rfl rfl rfl ?_; clear hf fa; intro fa hf
  refine sqv hf (r_assign rfl) rfl rfl rfl ?_; clear hf fa; intro fa hf
  apply wpList_nil
  (try simp only [Exit.then, Exit.inBlock, ↓reduceIte, Nat.reduceEqDiff])
  refine hK4 _ _ ?_
  refine wp_cond_split (t := (decide (b = (127 : Int)))) (hf.ev rfl) (fun hqt4_1 => ?_) (fun hqt4_1 => ?_)
  · have hqt4_1b := hqt4_1
    try simp only [decide_eq_true_eq, Bool.and_eq_true, Bool.or_eq_true, Bool.not_eq_true', decide_eq_false_iff_not, ne_eq, Bool.not_eq_true] at hqt4_1
    refine wp_seq_k (fun K5 hK5 => ?_)
    refine wp_region_lit ?_
    refine sqv hf (r_assign rfl) rfl rfl rfl ?_; clear hf fa; intro fa hf
    apply wpList_nil
    (try simp only [Exit.then, Exit.inBlock, ↓reduceIte, Nat.reduceEqDiff])
    refine hK5 _ _ ?_
    refine wp_ret ?_
    (try simp only [Exit.then, Exit.inBlock])
    refine ret1 hf rfl rfl ?_
    refine ⟨?_, rfl⟩; unfold tnameP; rw [hqt4_1b]; (try rfl)
  · have hqt4_1b := hqt4_1
    replace hqt4_1 := Bool.eq_false_iff.1 hqt4_1
    try simp only [ne_eq, decide_eq_true_eq, Bool.and_eq_true, Bool.or_eq_true, Bool.not_eq_true', decide_eq_false_iff_not] at hqt4_1
    refine wp_seq_k (fun K6 hK6 => ?_)
    refine wp_region_lit ?_
    refine sqv hf (r_eq rfl rfl) rfl rfl rfl ?_; clear hf fa; intro fa hf
    refine sqv hf (r_assign rfl) rfl rfl rfl ?_; clear hf fa; intro fa hf
    apply wpList_nil
    (try simp only [Exit.then, Exit.inBlock, ↓reduceIte, Nat.reduceEqDiff])
    refine hK6 _ _ ?_
    refine wp_cond_split (t := (decide (b = (126 : Int)))) (hf.ev rfl) (fun hqt6_1 => ?_) (fun hqt6_1 => ?_)
    · have hqt6_1b := hqt6_1
      try simp only [decide_eq_true_eq, Bool.and_eq_true, Bool.or_eq_true, Bool.not_eq_true', decide_eq_false_iff_not, ne_eq, Bool.not_eq_true] at hqt6_1
      refine wp_seq_k (fun K7 hK7 => ?_)
      refine wp_region_lit ?_
      refine sqv hf (r_assign rfl) rfl rfl rfl ?_; clear hf fa; intro fa hf
      apply wpList_nil
      (try simp only [Exit.then, Exit.inBlock, ↓reduceIte, Nat.reduceEqDiff])
      refine hK7 _ _ ?_
      refine wp_ret ?_
      (try simp only [Exit.then, Exit.inBlock])
      refine ret1 hf rfl rfl ?_
      refine ⟨?_, rfl⟩; unfold tnameP; rw [hqt4_1b, hqt6_1b]; (try rfl)
    · have hqt6_1b := hqt6_1
      replace hqt6_1 := Bool.eq_false_iff.1 hqt6_1
      try simp only [ne_eq, decide_eq_true_eq, Bool.and_eq_true, Bool.or_eq_true, Bool.not_eq_true', decide_eq_false_iff_not] at hqt6_1
      refine wp_seq_k (fun K8 hK8 => ?_)
      refine wp_region_lit ?_
      refine sqv hf (r_eq rfl rfl) rfl rfl rfl ?_; clear hf fa; intro fa hf
      refine sqv hf (r_assign rfl) rfl rfl rfl ?_; clear hf fa; intro fa hf
      apply wpList_nil
      (try simp only [Exit.then, Exit.inBlock, ↓reduceIte, Nat.reduceEqDiff])
      refine hK8 _ _ ?_
      refine wp_cond_split (t := (decide (b = (125 : Int)))) (hf.ev rfl) (fun hqt8_1 => ?_) (fun hqt8_1 => ?_)
      · have hqt8_1b := hqt8_1
        try simp only [decide_eq_true_eq, Bool.and_eq_true, Bool.or_eq_true, Bool.not_eq_true', decide_eq_false_iff_not, ne_eq, Bool.not_eq_true] at hqt8_1
        refine wp_seq_k (fun K9 hK9 => ?_)
        refine wp_region_lit ?_
        refine sqv hf (r_assign rfl) rfl rfl rfl ?_; clear hf fa; intro fa hf
        apply wpList_nil
        (try simp only [Exit.then, Exit.inBlock, ↓reduceIte, Nat.reduceEqDiff])
        refine hK9 _ _ ?_
        refine wp_ret ?_
        (try simp only [Exit.then, Exit.inBlock])
        refine ret1 hf rfl rfl ?_
        refine ⟨?_, rfl⟩; unfold tnameP; rw [hqt4_1b, hqt6_1b, hqt8_1b]; (try rfl)
      · have hqt8_1b := hqt8_1
        replace hqt8_1 := Bool.eq_false_iff.1 hqt8_1
        try simp only [ne_eq, decide_eq_true_eq, Bool.and_eq_true, Bool.or_eq_true, Bool.not_eq_true', decide_eq_false_iff_not] at hqt8_1
        refine wp_seq_k (fun K10 hK10 => ?_)
        refine wp_region_lit ?_
        refine sqv hf (r_eq rfl rfl) rfl rfl rfl ?_; clear hf fa; intro fa hf
        refine sqv hf (r_assign rfl) rfl rfl rfl ?_; clear hf fa; intro fa hf
        apply wpList_nil
        (try simp only [Exit.then, Exit.inBlock, ↓reduceIte, Nat.reduceEqDiff])
        refine hK10 _ _ ?_
        refine wp_cond_split (t := (decide (b = (124 : Int)))) (hf.ev rfl) (fun hqt10_1 => ?_) (fun hqt10_1 => ?_)
        · have hqt10_1b := hqt10_1
          try simp only [decide_eq_true_eq, Bool.and_eq_true, Bool.or_eq_true, Bool.not_eq_true', decide_eq_false_iff_not, ne_eq, Bool.not_eq_true] at hqt10_1
          refine wp_seq_k (fun K11 hK11 => ?_)
          refine wp_region_lit ?_
          refine sqv hf (r_assign rfl) rfl rfl rfl ?_; clear hf fa; intro fa hf
          apply wpList_nil
          (try simp only [Exit.then, Exit.inBlock, ↓reduceIte, Nat.reduceEqDiff])
          refine hK11 _ _ ?_
          refine wp_ret ?_
          (try simp only [Exit.then, Exit.inBlock])
          refine ret1 hf rfl rfl ?_
          refine ⟨?_, rfl⟩; unfold tnameP; rw [hqt4_1b, hqt6_1b, hqt8_1b, hqt10_1b]; (try rfl)
        · have hqt10_1b := hqt10_1
          replace hqt10_1 := Bool.eq_false_iff.1 hqt10_1
          try simp only [ne_eq, decide_eq_true_eq, Bool.and_eq_true, Bool.or_eq_true, Bool.not_eq_true', decide_eq_false_iff_not] at hqt10_1
          refine wp_seq_k (fun K12 hK12 => ?_)
          refine wp_region_lit ?_
          refine sqv hf (r_eq rfl rfl) rfl rfl rfl ?_; clear hf fa; intro fa hf
          refine sqv hf (r_assign rfl) rfl rfl rfl ?_; clear hf fa; intro fa hf
          apply wpList_nil
          (try simp only [Exit.then, Exit.inBlock, ↓reduceIte, Nat.reduceEqDiff])
          refine hK12 _ _ ?_
          refine wp_cond_split (t := (decide (b = (112 : Int)))) (hf.ev rfl) (fun hqt12_1 => ?_) (fun hqt12_1 => ?_)
          · have hqt12_1b := hqt12_1
            try simp only [decide_eq_true_eq, Bool.and_eq_true, Bool.or_eq_true, Bool.not_eq_true', decide_eq_false_iff_not, ne_eq, Bool.not_eq_true] at hqt12_1
            refine wp_seq_k (fun K13 hK13 => ?_)
            refine wp_region_lit ?_
            refine sqv hf (r_assign rfl) rfl rfl rfl ?_; clear hf fa; intro fa hf
            apply wpList_nil
            (try simp only [Exit.then, Exit.inBlock, ↓reduceIte, Nat.reduceEqDiff])
            refine hK13 _ _ ?_
            refine wp_ret ?_
            (try simp only [Exit.then, Exit.inBlock])
            refine ret1 hf rfl rfl ?_
            refine ⟨?_, rfl⟩; unfold tnameP; rw [hqt4_1b, hqt6_1b, hqt8_1b, hqt10_1b, hqt12_1b]; (try rfl)
          · have hqt12_1b := hqt12_1
            replace hqt12_1 := Bool.eq_false_iff.1 hqt12_1
            try simp only [ne_eq, decide_eq_true_eq, Bool.and_eq_true, Bool.or_eq_true, Bool.not_eq_true', decide_eq_false_iff_not] at hqt12_1
            refine wp_skip ?_
            (try simp only [Exit.then, Exit.inBlock, ↓reduceIte, Nat.reduceEqDiff])
            refine hK2 _ _ ?_
            refine wp_seq_k (fun K14 hK14 => ?_)
            refine wp_region_lit ?_
            refine sqv hf (r_assign rfl) rfl rfl rfl ?_; clear hf fa; intro fa hf
            apply wpList_nil
            (try simp only [Exit.then, Exit.inBlock, ↓reduceIte, Nat.reduceEqDiff])
            refine hK14 _ _ ?_
            refine wp_ret ?_
            (try simp only [Exit.then, Exit.inBlock])
            refine ret1 hf rfl rfl ?_
            refine ⟨?_, rfl⟩; unfold tnameP; rw [hqt4_1b, hqt6_1b, hqt8_1b, hqt10_1b, hqt12_1b]; (try rfl)

theorem drop_at {α : Type} {l : List α} {k : Nat} {y : α} (h : l[k]? = some y) : l.drop k = y :: l.drop (k + 1) := by
  obtain ⟨hk, rfl⟩ := List.getElem?_eq_some_iff.1 h
  exact List.drop_eq_getElem_cons hk
end Go.Proofs.Ytpalmpfkliepfaa

namespace Go.Proofs.Ytpalmpfkliepfaa
open Go.Shelf Go.RowKit
def sh_lays156_ren : Go.Shelf.Ren := ⟨fun | 156 => 98 | 165 => 106 | 166 => 107 | 169 => 69 | 240 => 89 | 241 => 113 | 276 => 104 | 277 => 116 | n => n, fun | 31 => 32 | 9 => 9 | 3 => 3 | 4 => 4 | 0 => 0 | 20 => 20 | 72 => 127 | 76 => 160 | 70 => 125 | 37 => 43 | 75 => 129 | 127 => 145 | 164 => 152 | 5 => 5 | 80 => 47 | n => n, fun | n => n⟩
theorem sh_lays156 : Go.Proofs.Lays.n156 Try.prog sh_lays156_ren := {
  mixed := by kernel_rfl
  f156 := Try.func98.trans (congrArg some (by kernel_rfl))
  f165 := Try.func106.trans (congrArg some (by kernel_rfl))
  f166 := Try.func107.trans (congrArg some (by kernel_rfl))
  f169 := Try.func69.trans (congrArg some (by kernel_rfl))
  f240 := Try.func89.trans (congrArg some (by kernel_rfl))
  f241 := Try.func113.trans (congrArg some (by kernel_rfl))
  f276 := Try.func104.trans (congrArg some (by kernel_rfl))
  f277 := Try.func116.trans (congrArg some (by kernel_rfl))
  t0 := Try.underlying0
  a0 := Try.isAgg0
  z0 := Try.sizeOf0
  v0 := Try.zeroValue0
  t3 := Try.underlying3
  a3 := Try.isAgg3
  z3 := Try.sizeOf3
  v3 := Try.zeroValue3
  t4 := Try.underlying4
  a4 := Try.isAgg4
  z4 := Try.sizeOf4
  v4 := Try.zeroValue4
  t9 := Try.underlying9
  a9 := Try.isAgg9
  z9 := Try.sizeOf9
  v9 := Try.zeroValue9
  t20 := Try.underlying20
  a20 := Try.isAgg20
  z20 := Try.sizeOf20
  v20 := Try.zeroValue20
  t31 := Try.underlying32
  a31 := Try.isAgg32
  z31 := Try.sizeOf32
  v31 := Try.zeroValue32
  t37 := Try.underlying43
  a37 := Try.isAgg43
  z37 := Try.sizeOf43
  v37 := Try.zeroValue43
  t70 := Try.underlying125
  a70 := Try.isAgg125
  z70 := Try.sizeOf125
  v70 := Try.zeroValue125
  t72 := Try.underlying127
  a72 := Try.isAgg127
  z72 := Try.sizeOf127
  v72 := Try.zeroValue127
  t75 := Try.underlying129
  a75 := Try.isAgg129
  z75 := Try.sizeOf129
  v75 := Try.zeroValue129
  t76 := Try.underlying160
  a76 := Try.isAgg160
  z76 := Try.sizeOf160
  v76 := Try.zeroValue160
  t127 := Try.underlying145
  a127 := Try.isAgg145
  z127 := Try.sizeOf145
  v127 := Try.zeroValue145
  t164 := Try.underlying152
  a164 := Try.isAgg152
  z164 := Try.sizeOf152
  v164 := Try.zeroValue152 }
theorem sh_Builder_Extra_156 : Builder.Extra Try.prog sh_lays156_ren := {
  sizeBuilder := by kernel_rfl
  liesBuilder := by kernel_rfl
  t5 := Try.underlying5
  a5 := Try.isAgg5
  z5 := Try.sizeOf5
  v5 := Try.zeroValue5
  infoByte := by kernel_rfl
  cellsByte := by kernel_rfl
  sizeByte := by kernel_rfl
  neB5 := by decide }
theorem sh_strings_Join_none (a : Option Addr) (c : Nat) (sep : ByteArray) (w : World) :
    Calls Try.prog 98 #[.slice a 0 c, .string sep] w fun e w' => e = .returned (.string ⟨#[]⟩) ∧ w' = w := Any.strings_Join_none sh_lays156 sh_Builder_Extra_156 a c sep w
theorem sh_strings_Join (bk o c : Nat) (xs : List ByteArray) (sep : ByteArray) (w : World) (hcells : ∀ (j : Nat) x, xs[j]? = some x → w.cell? ⟨bk, o + j, none⟩ = some (.string x)) (hbk : bk < w.heap.size) (hN : xs.length ≤ 140737488355328) (hcap : xs.length ≤ c) (hlen : (Lib.join (xs.map (·.data.toList)) sep.data.toList).length ≤ 140737488355328) :
    Calls Try.prog 98 #[.slice (some ⟨bk, o, none⟩) xs.length c, .string sep] w fun e w' => e = .returned (.string ⟨(Lib.join (xs.map (·.data.toList)) sep.data.toList).toArray⟩) ∧ Below w.heap.size w w' := Any.strings_Join sh_lays156 sh_Builder_Extra_156 bk o c xs sep w hcells hbk hN hcap hlen
end Go.Proofs.Ytpalmpfkliepfaa

namespace Go.Proofs.Ytpalmpfkliepfaa
open Go.RowKit
set_option linter.unusedVariables false
set_option linter.unusedSimpArgs false
def joinS (xs : List ByteArray) : ByteArray := ⟨(Lib.join (xs.map (·.data.toList)) [44]).toArray⟩
def namesL (l : List Int) : List ByteArray := l.map tnameP
@[simp] theorem namesL_nil : namesL [] = [] := rfl
theorem tname_le (b : Int) : (tnameP b).size ≤ 7 := by
  unfold tnameP
  generalize decide (b = 127) = a1
  generalize decide (b = 126) = a2
  generalize decide (b = 125) = a3
  generalize decide (b = 124) = a4
  generalize decide (b = 112) = a5
  cases a1 <;> cases a2 <;> cases a3 <;> cases a4 <;> cases a5 <;> decide
theorem lens_le {xs : List ByteArray} (h : ∀ x ∈ xs, x.size ≤ 7) : Lib.lens (xs.map (·.data.toList)) ≤ 7 * xs.length := by
  induction xs with
  | nil => simp [Lib.lens]
  | cons x xs ih =>
    have h1 := h x List.mem_cons_self
    have h2 := ih (fun y hy => h y (List.mem_cons_of_mem _ hy))
    have h3 : Lib.lens ((x :: xs).map (·.data.toList)) = x.data.toList.length + Lib.lens (xs.map (·.data.toList)) := by simp [Lib.lens]
    rw [h3, Array.length_toList]
    have h4 : x.data.size = x.size := rfl
    simp only [List.length_cons]
    omega
theorem join_le {xs : List ByteArray} (h : ∀ x ∈ xs, x.size ≤ 7) : (joinS xs).size ≤ 8 * xs.length ∧ (Lib.join (xs.map (·.data.toList)) [44]).length ≤ 8 * xs.length := by
  have key : (Lib.join (xs.map (·.data.toList)) [44]).length ≤ 8 * xs.length := by
    cases xs with
    | nil => simp [Lib.join_nil]
    | cons x xs =>
      have h2 := lens_le h
      rw [List.map_cons, Lib.join_length]
      rw [List.map_cons] at h2
      simp only [List.length_cons, List.length_nil, List.length_map] at h2 ⊢
      omega
  refine ⟨?_, key⟩
  have : (joinS xs).size = (Lib.join (xs.map (·.data.toList)) [44]).length := by unfold joinS; simp [ByteArray.size]
  omega
theorem joinS_snoc (xs : List ByteArray) (x : ByteArray) : joinS (xs ++ [x]) = (if xs = [] then joinS xs else joinS xs ++ (⟨#[44]⟩ : ByteArray)) ++ x := by
  apply ByteArray.ext
  cases xs with
  | nil => rw [if_pos rfl, ByteArray.data_append]; simp [joinS, Lib.join_nil, Lib.join_one]
  | cons y ys =>
    rw [if_neg (by simp), ByteArray.data_append, ByteArray.data_append]
    unfold joinS
    simp only [List.map_cons, List.cons_append, List.map_append, List.map_nil, Lib.join_cons]
    simp [Lib.joinTail]
theorem join_row {a : Option Addr} {n c base : Nat} {xs : List ByteArray} (w : World) (h : Row 1 vStr 9 base w (.slice a n c) xs) (hn : n = xs.length) (hl : xs.length ≤ 2000) (hx : ∀ x ∈ xs, x.size ≤ 7) :
    Calls Try.prog 98 #[.slice a n c, .string ⟨#[44]⟩] w fun e w' => e = .returned (.string (joinS xs)) ∧ Below w.heap.size w w' := by
  subst hn
  by_cases h0 : xs = []
  · subst h0
    refine (sh_strings_Join_none a c ⟨#[44]⟩ w).mono ?_
    rintro e w' ⟨h1, rfl⟩
    exact ⟨h1, Below.refl _ _⟩
  · have hp : 0 < xs.length := List.length_pos_iff.2 h0
    obtain ⟨b, rfl, hb1, hb2⟩ := Row.some h hp
    have hj := (join_le hx).2
    refine (sh_strings_Join b 0 c xs ⟨#[44]⟩ w ?_ hb2 (by omega) (by have := Row.caps h; omega) (by show (Lib.join (xs.map (·.data.toList)) [44]).length ≤ _; omega)).mono ?_
    · intro j x hj
      obtain ⟨b', off, ha, _, hc⟩ := RdS.at (Row.rd (by intros; rfl) h) hj
      cases ha
      have := hc 0 (.string x) rfl
      rwa [show 0 + j * 1 + 0 = 0 + j by omega] at this
    · rintro e w' ⟨h1, h2⟩
      exact ⟨h1, h2⟩

def rnameP (b : Int) : ByteArray :=
  bif ((decide ((124 : Int) ≤ b)) && (decide (b ≤ (127 : Int)))) then ([⟨#[105, 51, 50]⟩, ⟨#[105, 54, 52]⟩, ⟨#[102, 51, 50]⟩, ⟨#[102, 54, 52]⟩].getD (127 - (b).toNat) (⟨#[]⟩ : ByteArray))
  else bif (decide (b = (112 : Int))) then ⟨#[102, 117, 110, 99, 114, 101, 102]⟩
  else ⟨#[63]⟩

set_option maxHeartbeats 1000000 in
set_option maxRecDepth 100000 in
theorem rname_any (b : Int) (w : World) (hb0 : -1000 ≤ b ∧ b ≤ 1000) : Calls Try.prog 71 #[(.int .i64 b)] w fun e w' => e = .returned (.string (rnameP b)) ∧ Below w.heap.size w w' := by
  refine sx_enter (L := [(0, (.int .i64 b))]) Try.func71 rfl rfl rfl rfl (fun fa hf => ?_)
  have hb : Below w.heap.size w w := Below.refl _ _
  refine wp_seq_k (fun K1 hK1 => ?_)
  refine wp_region_lit ?_
  refine sqv hf (r_assign rfl) rfl rfl rfl ?_; clear hf fa; intro fa hf
  apply wpList_nil
  (try simp only [Exit.then, Exit.inBlock, ↓reduceIte, Nat.reduceEqDiff])
  refine hK1 _ _ ?_
  refine wp_seq_k (fun K2 hK2 => ?_)
  refine wp_region_lit ?_
  refine sqdt hf (d_bslice (z := (.string ⟨#[]⟩)) (sz := 1) (vs := [(0, (.string ⟨#[105, 51, 50]⟩)), (1, (.string ⟨#[105, 54, 52]⟩)), (2, (.string ⟨#[102, 51, 50]⟩)), (3, (.string ⟨#[102, 54, 52]⟩))]) (cs := #[(.string ⟨#[105, 51, 50]⟩), (.string ⟨#[105, 54, 52]⟩), (.string ⟨#[102, 51, 50]⟩), (.string ⟨#[102, 54, 52]⟩)]) rfl Try.underlying32 (by kernel_rfl) rfl (by kernel_rfl)) rfl rfl rfl ?_; clear hf fa; rintro fa _ w1 ⟨b1, rfl, hle1, hk1, he1⟩ hf
  have hBb1 : w.heap.size ≤ b1 := Nat.le_trans hb.size hle1
  replace hb := hb.trans (Below.mono he1 hb.size)
  refine sqv hf (r_assign rfl) rfl rfl rfl ?_; clear hf fa; intro fa hf
  apply wpList_nil
  (try simp only [Exit.then, Exit.inBlock, ↓reduceIte, Nat.reduceEqDiff])
  refine hK2 _ _ ?_
  refine wp_seq_k (fun K3 hK3 => ?_)
  refine wp_seq_k (fun K4 hK4 => ?_)
  refine wp_region_lit ?_
  refine sqv hf (r_move rfl) rfl rfl rfl ?_; clear hf fa; intro fa hf
  refine sqv hf (r_ge rfl rfl) rfl rfl rfl ?_; clear hf fa; intro fa hf
  refine sqv hf (r_move rfl) rfl rfl rfl ?_; clear hf fa; intro fa hf
  refine sqgT (act := (decide ((124 : Int) ≤ b))) (ag := true) (c := (decide ((124 : Int) ≤ b))) (v := (.int .i64 b)) hf rfl rfl rfl (fun hact => (r_move rfl)) rfl rfl ?_; clear hf fa; intro fa hf
  refine sqgT (act := (decide ((124 : Int) ≤ b))) (ag := true) (c := (decide ((124 : Int) ≤ b))) (v := (.bool (decide (b ≤ (127 : Int))))) hf rfl rfl rfl (fun hact => (r_le (gb_ev hact rfl) rfl)) rfl rfl ?_; clear hf fa; intro fa hf
  refine sqv hf (r_pickA (b := (decide ((124 : Int) ≤ b))) (e := (decide (b ≤ (127 : Int)))) rfl rfl rfl) rfl rfl rfl ?_; clear hf fa; intro fa hf
  apply wpList_nil
  (try simp only [Exit.then, Exit.inBlock, ↓reduceIte, Nat.reduceEqDiff])
  refine hK4 _ _ ?_
  refine wp_cond_split (t := ((decide ((124 : Int) ≤ b)) && (decide (b ≤ (127 : Int))))) (hf.ev rfl) (fun hqt10_1 => ?_) (fun hqt10_1 => ?_)
  · have hqt10_1b := hqt10_1
    try simp only [decide_eq_true_eq, Bool.and_eq_true, Bool.or_eq_true, Bool.not_eq_true', decide_eq_false_iff_not, ne_eq, Bool.not_eq_true] at hqt10_1
    refine wp_seq_k (fun K5 hK5 => ?_)
    have hr1 := Row.of_new (k := 1) (V := vStr) (l := [⟨#[105, 51, 50]⟩, ⟨#[105, 54, 52]⟩, ⟨#[102, 51, 50]⟩, ⟨#[102, 54, 52]⟩]) (base := w.heap.size) hk1 (by omega) rfl rfl (Nat.le_of_ble_eq_true rfl)
    skip
    refine wp_region_lit ?_
    refine sqv hf (r_move rfl) rfl rfl rfl ?_; clear hf fa; intro fa hf
    refine sqv hf (r_move rfl) rfl rfl rfl ?_; clear hf fa; intro fa hf
    refine sqv hf (r_sub (C := ((127 : Int) - b)) rfl rfl (by rw [IntKind.wrap_i64]; omega)) rfl rfl rfl ?_; clear hf fa; intro fa hf
    have hy1 := getD_at (l := [⟨#[105, 51, 50]⟩, ⟨#[105, 54, 52]⟩, ⟨#[102, 51, 50]⟩, ⟨#[102, 54, 52]⟩]) (j := (127 - (b).toNat)) (⟨#[]⟩ : ByteArray) (by first | omega | (simp only [Sl.list_length, List.length_set, List.length_take, List.length_append, List.length_replicate, List.length_cons, List.length_nil, List.length_map, nums_len]; omega))
    have hel1 := RdS.at (Row.rd (by intros; rfl) hr1) hy1
    obtain ⟨_, _, hab, hlr1, hel1⟩ := hel1
    cases hab
    refine sqv hf (r_ixa (sz := 1) (j := (127 - (b).toNat)) rfl rfl Try.underlying32 (by kernel_rfl) (by omega) (by omega) rfl) rfl rfl rfl ?_; clear hf fa; intro fa hf
    refine sqv hf (r_load (v := (.string ([⟨#[105, 51, 50]⟩, ⟨#[105, 54, 52]⟩, ⟨#[102, 51, 50]⟩, ⟨#[102, 54, 52]⟩].getD (127 - (b).toNat) (⟨#[]⟩ : ByteArray)))) rfl Try.underlying9 rfl (cellsAt_cell hel1 (i := 0) rfl rfl)) rfl rfl rfl ?_; clear hf fa; intro fa hf
    refine sqv hf (r_assign rfl) rfl rfl rfl ?_; clear hf fa; intro fa hf
    apply wpList_nil
    (try simp only [Exit.then, Exit.inBlock, ↓reduceIte, Nat.reduceEqDiff])
    refine hK5 _ _ ?_
    refine wp_ret ?_
    (try simp only [Exit.then, Exit.inBlock])
    refine ret1 hf rfl rfl ?_
    refine ⟨?_, hb⟩; unfold rnameP; rw [hqt10_1b]; (try rfl)
  · have hqt10_1b := hqt10_1
    replace hqt10_1 := Bool.eq_false_iff.1 hqt10_1
    try simp only [ne_eq, decide_eq_true_eq, Bool.and_eq_true, Bool.or_eq_true, Bool.not_eq_true', decide_eq_false_iff_not] at hqt10_1
    refine wp_skip ?_
    (try simp only [Exit.then, Exit.inBlock, ↓reduceIte, Nat.reduceEqDiff])
    refine hK3 _ _ ?_
    refine wp_seq_k (fun K6 hK6 => ?_)
    refine wp_seq_k (fun K7 hK7 => ?_)
    refine wp_region_lit ?_
    refine sqv hf (r_move rfl) rfl rfl rfl ?_; clear hf fa; intro fa hf
    refine sqv hf (r_eq rfl rfl) rfl rfl rfl ?_; clear hf fa; intro fa hf
    apply wpList_nil
    (try simp only [Exit.then, Exit.inBlock, ↓reduceIte, Nat.reduceEqDiff])
    refine hK7 _ _ ?_
    refine wp_cond_split (t := (decide (b = (112 : Int)))) (hf.ev rfl) (fun hqt17_1 => ?_) (fun hqt17_1 => ?_)
    · have hqt17_1b := hqt17_1
      try simp only [decide_eq_true_eq, Bool.and_eq_true, Bool.or_eq_true, Bool.not_eq_true', decide_eq_false_iff_not, ne_eq, Bool.not_eq_true] at hqt17_1
      refine wp_seq_k (fun K8 hK8 => ?_)
      refine wp_region_lit ?_
      refine sqv hf (r_assign rfl) rfl rfl rfl ?_; clear hf fa; intro fa hf
      apply wpList_nil
      (try simp only [Exit.then, Exit.inBlock, ↓reduceIte, Nat.reduceEqDiff])
      refine hK8 _ _ ?_
      refine wp_ret ?_
      (try simp only [Exit.then, Exit.inBlock])
      refine ret1 hf rfl rfl ?_
      refine ⟨?_, hb⟩; unfold rnameP; rw [hqt10_1b, hqt17_1b]; (try rfl)
    · have hqt17_1b := hqt17_1
      replace hqt17_1 := Bool.eq_false_iff.1 hqt17_1
      try simp only [ne_eq, decide_eq_true_eq, Bool.and_eq_true, Bool.or_eq_true, Bool.not_eq_true', decide_eq_false_iff_not] at hqt17_1
      refine wp_skip ?_
      (try simp only [Exit.then, Exit.inBlock, ↓reduceIte, Nat.reduceEqDiff])
      refine hK6 _ _ ?_
      refine wp_seq_k (fun K9 hK9 => ?_)
      refine wp_region_lit ?_
      refine sqv hf (r_assign rfl) rfl rfl rfl ?_; clear hf fa; intro fa hf
      apply wpList_nil
      (try simp only [Exit.then, Exit.inBlock, ↓reduceIte, Nat.reduceEqDiff])
      refine hK9 _ _ ?_
      refine wp_ret ?_
      (try simp only [Exit.then, Exit.inBlock])
      refine ret1 hf rfl rfl ?_
      refine ⟨?_, hb⟩; unfold rnameP; rw [hqt10_1b, hqt17_1b]; (try rfl)

theorem rname_eq (b : Int) : rnameP b = tnameP b := by
  unfold rnameP tnameP
  by_cases h1 : b = 127
  · subst h1; decide
  · by_cases h2 : b = 126
    · subst h2; decide
    · by_cases h3 : b = 125
      · subst h3; decide
      · by_cases h4 : b = 124
        · subst h4; decide
        · have h5 : (decide (124 ≤ b) && decide (b ≤ 127)) = false := by simp; omega
          rw [h5]; simp [h1, h2, h3, h4]
theorem rname2_any (b : Int) (w : World) (hb0 : -1000 ≤ b ∧ b ≤ 1000) : Calls Try.prog 71 #[.int .i64 b] w fun e w' => e = .returned (.string (tnameP b)) ∧ Below w.heap.size w w' := by
  have h := rname_any b w hb0
  rw [rname_eq] at h
  exact h
theorem namesL_snoc {l : List Int} {k : Nat} {y : Int} (h : l[k]? = some y) : namesL (l.take k) ++ [tnameP y] = namesL (l.take (k + 1)) := by
  unfold namesL
  rw [List.take_add_one, h, List.map_append]; rfl
theorem namesL_len (l : List Int) (k : Nat) : (namesL (l.take k)).length ≤ k ∧ (namesL (l.take k)).length ≤ l.length := by
  unfold namesL
  rw [List.length_map, List.length_take]; omega
theorem namesL_le (l : List Int) : ∀ x ∈ namesL l, x.size ≤ 7 := by
  intro x hx
  obtain ⟨y, _, rfl⟩ := List.mem_map.1 hx
  exact tname_le y
theorem rowToN {α : Type} {k e base n c : Nat} {V : α → List Value} {w : World} {a : Option Addr} {l l' : List α} (h : Row k V e base w (.slice a n c) l) (he : l = l') : Row k V e base w (.slice a l'.length c) l' := he ▸ h.relen
def listP (s : ByteArray) : ByteArray := joinS (namesL (nums s))
theorem listP_le (s : ByteArray) : (listP s).size ≤ 8 * s.size := by
  have h := (join_le (namesL_le (nums s))).1
  have h2 : (namesL (nums s)).length = s.size := by unfold namesL; rw [List.length_map, nums_len]
  unfold listP; omega
theorem take_all (s : ByteArray) {k : Nat} (h : s.size ≤ k) : (nums s).take k = nums s := List.take_of_length_le (by rw [nums_len]; exact h)

set_option maxHeartbeats 1000000 in
set_option maxRecDepth 100000 in
theorem list_any (s : ByteArray) (w : World) (hs : s.size ≤ 1200) : Calls Try.prog 76 #[(.string s)] w fun e w' => e = .returned (.string (listP s)) ∧ Below w.heap.size w w' := by
  refine sx_enter (L := [(0, (.string s))]) Try.func76 rfl rfl rfl rfl (fun fa hf => ?_)
  have hb : Below w.heap.size w w := Below.refl _ _
  refine wp_seq_k (fun K1 hK1 => ?_)
  refine wp_region_lit ?_
  refine sqv hf (r_assign rfl) rfl rfl rfl ?_; clear hf fa; intro fa hf
  apply wpList_nil
  (try simp only [Exit.then, Exit.inBlock, ↓reduceIte, Nat.reduceEqDiff])
  refine hK1 _ _ ?_
  refine wp_seq_k (fun K2 hK2 => ?_)
  refine wp_region_lit ?_
  refine sqv hf (r_assign rfl) rfl rfl rfl ?_; clear hf fa; intro fa hf
  apply wpList_nil
  (try simp only [Exit.then, Exit.inBlock, ↓reduceIte, Nat.reduceEqDiff])
  refine hK2 _ _ ?_
  refine wp_seq_k (fun K3 hK3 => ?_)
  refine wp_seq_k (fun K4 hK4 => ?_)
  refine wp_region_lit ?_
  refine sqv hf (r_move rfl) rfl rfl rfl ?_; clear hf fa; intro fa hf
  refine sqv hf (r_lens rfl Try.underlying9) rfl rfl rfl ?_; clear hf fa; intro fa hf
  refine sqv hf (r_move rfl) rfl rfl rfl ?_; clear hf fa; intro fa hf
  apply wpList_nil
  (try simp only [Exit.then, Exit.inBlock, ↓reduceIte, Nat.reduceEqDiff])
  refine hK4 _ _ ?_
  refine wp_block ?_
  refine wp_loop_k (fun mq fa wr => ∃ (k : Nat) (roa : Option Addr) (roc : Nat), mq = s.size - k ∧ Fr 20 fa [(0, (.string s)), (6, (.int .i64 ((s.size : Nat) : Int))), (7, (.int .i64 ((k : Nat) : Int))), (3, (.slice roa (((namesL ((nums s).take k))).length) roc))] ∧ Below w.heap.size w wr ∧ Row 1 vStr 9 (w.heap.size) wr (.slice roa (((namesL ((nums s).take k))).length) roc) (namesL ((nums s).take k)) ∧ (k ≤ s.size)) ?_ ?_
  · skip
    exact ⟨_, 0, none, 0, rfl, hf.sub ⟨rfl, rfl, (some_int (by first | rfl | omega)), (some_sl (by first | omega | rfl | (simp only [List.length_append, List.length_cons, List.length_nil]; omega) | (simp <;> omega)) rfl), trivial⟩, hb, Row.nil, by omega⟩
  · skip
    clear hf fa; intro mq1 fa w1 hI KL1 hKL1
    clear hb
    obtain ⟨k, roa, roc, hmq1, hf, hb, hro, hk⟩ := hI
    have hcro := Row.caps hro
    have hsb := sbt_lt s k; have hbl := namesL_len (nums s) k; have hnl := nums_len s
    refine wp_seq_k (fun K5 hK5 => ?_)
    refine wp_region_lit ?_
    refine sqv hf (r_lt rfl rfl) rfl rfl rfl ?_; clear hf fa; intro fa hf
    apply wpList_nil
    (try simp only [Exit.then, Exit.inBlock, ↓reduceIte, Nat.reduceEqDiff])
    refine hK5 _ _ ?_
    refine wp_seq_k (fun K6 hK6 => ?_)
    refine wp_cond_split (t := (decide (((k : Nat) : Int) < ((s.size : Nat) : Int)))) (hf.ev rfl) (fun hqt8_1 => ?_) (fun hqt8_1 => ?_)
    · have hqt8_1b := hqt8_1
      try simp only [decide_eq_true_eq, Bool.and_eq_true, Bool.or_eq_true, Bool.not_eq_true', decide_eq_false_iff_not, ne_eq, Bool.not_eq_true] at hqt8_1
      refine wp_skip ?_
      (try simp only [Exit.then, Exit.inBlock, ↓reduceIte, Nat.reduceEqDiff])
      refine hK6 _ _ ?_
      refine wp_seq_k (fun K7 hK7 => ?_)
      refine wp_block ?_
      refine wp_seq_k (fun K8 hK8 => ?_)
      refine wp_region_lit ?_
      refine sqv hf (r_move rfl) rfl rfl rfl ?_; clear hf fa; intro fa hf
      refine sqv hf (r_assign rfl) rfl rfl rfl ?_; clear hf fa; intro fa hf
      apply wpList_nil
      (try simp only [Exit.then, Exit.inBlock, ↓reduceIte, Nat.reduceEqDiff])
      refine hK8 _ _ ?_
      refine wp_region_lit ?_
      refine sqv hf (r_move rfl) rfl rfl rfl ?_; clear hf fa; intro fa hf
      refine sqv hf (r_move rfl) rfl rfl rfl ?_; clear hf fa; intro fa hf
      refine sqv hf (r_move rfl) rfl rfl rfl ?_; clear hf fa; intro fa hf
      refine sqv hf (r_sindexD (j := k) rfl rfl Try.underlying9 rfl (by omega)) rfl rfl rfl ?_; clear hf fa; intro fa hf
      refine sqdt hf (d_callS (vs := [(.int .u8 ((sbt s k : Nat) : Int))]) rfl Try.func70 (by kernel_rfl) (by kernel_rfl) (tname_any ((sbt s k : Nat) : Int) _)) rfl rfl rfl ?_; clear hf fa; rintro fa _ _ ⟨rfl, rfl⟩ hf
      refine sqdt hf (d_bslice (z := (.string ⟨#[]⟩)) (sz := 1) (vs := [(0, (.string (tnameP ((sbt s k : Nat) : Int))))]) (cs := #[(.string (tnameP ((sbt s k : Nat) : Int)))]) rfl Try.underlying32 (by kernel_rfl) rfl (by kernel_rfl)) rfl rfl rfl ?_; clear hf fa; rintro fa _ w2 ⟨b1, rfl, hle1, hk1, he1⟩ hf
      have hBb1 : w.heap.size ≤ b1 := Nat.le_trans hb.size hle1
      have hnr1 : (Value.slice roa ((((namesL ((nums s).take k))).length)) roc).ownBlock ≠ some b1 := fun hq => by have := (Row.lt hro _ hq).2; omega
      have hnl1 : ∀ q, (Value.slice roa ((((namesL ((nums s).take k))).length)) roc).ownBlock = some q → q < b1 := fun q hq => Nat.lt_of_lt_of_le (Row.lt hro q hq).2 hle1
      replace hro := Row.ext hro he1
      replace hb := hb.trans (Below.mono he1 hb.size)
      have hs1 := Row.rd (by intros; rfl) (Row.of_new (k := 1) (V := vStr) (l := [(tnameP ((sbt s k : Nat) : Int))]) hk1 (Nat.le_refl _) rfl rfl (Nat.le_of_ble_eq_true rfl))
      refine sqdt hf (d_append (V := vStr) (k := 1) (e := 9) (bytes := 16) (z := (.string ⟨#[]⟩)) (news := [(tnameP ((sbt s k : Nat) : Int))]) (base := w.heap.size) (by intros; rfl) (by intro x u hu; simp only [vStr, List.mem_singleton] at hu; subst hu; rfl) rfl rfl Try.underlying32 (by kernel_rfl) rfl rfl rfl hro hs1 rfl (fun h => by cases h) (by first | omega | (simp only [List.length_cons, List.length_nil, List.length_append, nums_len]; omega)) (by have := hb.size; omega)) rfl rfl rfl ?_; clear hf fa; rintro fa v w3 ⟨hr1, hg1⟩ hf; obtain ⟨ra1, rc1, rfl, hcrc1, hmrc1⟩ := Row.slice hr1
      replace hb := hb.trans (row_below hro hg1 hb.size (by have := hb.size; omega))
      refine sqv hf (r_assign rfl) rfl rfl rfl ?_; clear hf fa; intro fa hf
      apply wpList_nil
      (try simp only [Exit.then, Exit.inBlock, ↓reduceIte, Nat.reduceEqDiff])
      refine hK7 _ _ ?_
      refine wp_region_lit ?_
      refine sqv hf (r_add (C := (((k : Nat) : Int) + (1 : Int))) rfl rfl (by rw [IntKind.wrap_i64]; omega)) rfl rfl rfl ?_; clear hf fa; intro fa hf
      refine sqv hf (r_move rfl) rfl rfl rfl ?_; clear hf fa; intro fa hf
      apply wpList_nil
      (try simp only [Exit.then, Exit.inBlock, ↓reduceIte, Nat.reduceEqDiff])
      have hle := congrArg List.length (namesL_snoc (k := k) (nums_get (s := s) (j := k) (by omega))); simp only [List.length_append, List.length_cons, List.length_nil] at hle
      refine hKL1 _ _ _ (by omega) ⟨(k + 1), ra1, rc1, rfl, hf.sub ⟨rfl, rfl, (some_int (by first | rfl | omega)), (some_sl (by first | omega | rfl | (simp only [List.length_append, List.length_cons, List.length_nil]; omega) | (simp <;> omega)) rfl), trivial⟩, hb, (rowToN hr1 (namesL_snoc (nums_get (by omega)))), by omega⟩
    · have hqt8_1b := hqt8_1
      replace hqt8_1 := Bool.eq_false_iff.1 hqt8_1
      try simp only [ne_eq, decide_eq_true_eq, Bool.and_eq_true, Bool.or_eq_true, Bool.not_eq_true', decide_eq_false_iff_not] at hqt8_1
      refine wp_exit ?_
      (try simp only [Exit.then, Exit.inBlock, ↓reduceIte, Nat.reduceEqDiff])
      refine hK3 _ _ ?_
      refine wp_seq_k (fun K9 hK9 => ?_)
      refine wp_region_lit ?_
      refine sqv hf (r_move rfl) rfl rfl rfl ?_; clear hf fa; intro fa hf
      refine sqdt hf (d_callB (vs := [(.slice roa (((namesL ((nums s).take k))).length) roc), (.string ⟨#[44]⟩)]) rfl Try.func98 (by kernel_rfl) (by kernel_rfl) (join_row _ hro rfl (by omega) (namesL_le _))) rfl rfl rfl ?_; clear hf fa; rintro fa _ w4 ⟨rfl, he2⟩ hf
      replace hro := Row.ext hro he2
      replace hb := hb.trans (Below.mono he2 hb.size)
      refine sqv hf (r_assign rfl) rfl rfl rfl ?_; clear hf fa; intro fa hf
      apply wpList_nil
      (try simp only [Exit.then, Exit.inBlock, ↓reduceIte, Nat.reduceEqDiff])
      refine hK9 _ _ ?_
      refine wp_ret ?_
      (try simp only [Exit.then, Exit.inBlock])
      refine ret1 hf rfl rfl ?_
      refine ⟨?_, hb⟩; unfold listP; rw [take_all s (by omega)]

set_option maxHeartbeats 1000000 in
set_option maxRecDepth 100000 in
theorem names_any (s : ByteArray) (w : World) (hs : s.size ≤ 1200) : Calls Try.prog 79 #[(.string s)] w fun e w' => e = .returned (.string (listP s)) ∧ Below w.heap.size w w' := by
  refine sx_enter (L := [(0, (.string s))]) Try.func79 rfl rfl rfl rfl (fun fa hf => ?_)
  have hb : Below w.heap.size w w := Below.refl _ _
  refine wp_seq_k (fun K1 hK1 => ?_)
  refine wp_region_lit ?_
  refine sqv hf (r_assign rfl) rfl rfl rfl ?_; clear hf fa; intro fa hf
  apply wpList_nil
  (try simp only [Exit.then, Exit.inBlock, ↓reduceIte, Nat.reduceEqDiff])
  refine hK1 _ _ ?_
  refine wp_seq_k (fun K2 hK2 => ?_)
  refine wp_region_lit ?_
  refine sqv hf (r_assign rfl) rfl rfl rfl ?_; clear hf fa; intro fa hf
  apply wpList_nil
  (try simp only [Exit.then, Exit.inBlock, ↓reduceIte, Nat.reduceEqDiff])
  refine hK2 _ _ ?_
  refine wp_seq_k (fun K3 hK3 => ?_)
  refine wp_seq_k (fun K4 hK4 => ?_)
  refine wp_region_lit ?_
  refine sqv hf (r_assign rfl) rfl rfl rfl ?_; clear hf fa; intro fa hf
  apply wpList_nil
  (try simp only [Exit.then, Exit.inBlock, ↓reduceIte, Nat.reduceEqDiff])
  refine hK4 _ _ ?_
  refine wp_block ?_
  refine wp_loop_k (fun mq fa wr => ∃ (k : Nat) (o : ByteArray), mq = s.size - k ∧ Fr 23 fa [(0, (.string s)), (3, (.string o)), (4, (.int .i64 ((k : Nat) : Int)))] ∧ Below w.heap.size w wr ∧ (k ≤ s.size) ∧ (o = joinS (namesL ((nums s).take k)))) ?_ ?_
  · skip
    exact ⟨_, 0, (⟨#[]⟩ : ByteArray), rfl, hf.sub ⟨rfl, (some_str (by first | rfl | assumption | simp)), (some_int (by first | rfl | omega)), trivial⟩, hb, by omega, (by rw [List.take_zero]; rfl)⟩
  · skip
    clear hf fa; intro mq1 fa w1 hI KL1 hKL1
    clear hb
    obtain ⟨k, o, hmq1, hf, hb, hk, Ho⟩ := hI
    have hsb := sbt_lt s k; have hbl := namesL_len (nums s) k; have hnl := nums_len s; have hol0 := (join_le (namesL_le ((nums s).take k))).1; rw [← Ho] at hol0; have htl := tname_le ((sbt s k : Nat) : Int)
    refine wp_seq_k (fun K5 hK5 => ?_)
    refine wp_seq_k (fun K6 hK6 => ?_)
    refine wp_region_lit ?_
    refine sqv hf (r_move rfl) rfl rfl rfl ?_; clear hf fa; intro fa hf
    refine sqv hf (r_move rfl) rfl rfl rfl ?_; clear hf fa; intro fa hf
    refine sqv hf (r_lens rfl Try.underlying9) rfl rfl rfl ?_; clear hf fa; intro fa hf
    refine sqv hf (r_lt rfl rfl) rfl rfl rfl ?_; clear hf fa; intro fa hf
    apply wpList_nil
    (try simp only [Exit.then, Exit.inBlock, ↓reduceIte, Nat.reduceEqDiff])
    refine hK6 _ _ ?_
    refine wp_cond_split (t := (decide (((k : Nat) : Int) < ((s.size : Nat) : Int)))) (hf.ev rfl) (fun hqt8_1 => ?_) (fun hqt8_1 => ?_)
    · have hqt8_1b := hqt8_1
      try simp only [decide_eq_true_eq, Bool.and_eq_true, Bool.or_eq_true, Bool.not_eq_true', decide_eq_false_iff_not, ne_eq, Bool.not_eq_true] at hqt8_1
      refine wp_skip ?_
      (try simp only [Exit.then, Exit.inBlock, ↓reduceIte, Nat.reduceEqDiff])
      refine hK5 _ _ ?_
      refine wp_seq_k (fun K7 hK7 => ?_)
      refine wp_block ?_
      refine wp_seq_k (fun K8 hK8 => ?_)
      refine wp_seq_k (fun K9 hK9 => ?_)
      refine wp_region_lit ?_
      refine sqv hf (r_move rfl) rfl rfl rfl ?_; clear hf fa; intro fa hf
      refine sqv hf (r_gt rfl rfl) rfl rfl rfl ?_; clear hf fa; intro fa hf
      apply wpList_nil
      (try simp only [Exit.then, Exit.inBlock, ↓reduceIte, Nat.reduceEqDiff])
      refine hK9 _ _ ?_
      refine wp_cond_split (t := (decide ((0 : Int) < ((k : Nat) : Int)))) (hf.ev rfl) (fun hqt12_1 => ?_) (fun hqt12_1 => ?_)
      · have hqt12_1b := hqt12_1
        try simp only [decide_eq_true_eq, Bool.and_eq_true, Bool.or_eq_true, Bool.not_eq_true', decide_eq_false_iff_not, ne_eq, Bool.not_eq_true] at hqt12_1
        refine wp_region_lit ?_
        refine sqv hf (r_move rfl) rfl rfl rfl ?_; clear hf fa; intro fa hf
        refine sqv hf (r_sadd rfl rfl (by have : ((⟨#[44]⟩) : ByteArray).size = 1 := rfl; omega)) rfl rfl rfl ?_; clear hf fa; intro fa hf
        refine sqv hf (r_assign rfl) rfl rfl rfl ?_; clear hf fa; intro fa hf
        apply wpList_nil
        (try simp only [Exit.then, Exit.inBlock, ↓reduceIte, Nat.reduceEqDiff])
        refine hK8 _ _ ?_
        refine wp_region_lit ?_
        refine sqv hf (r_move rfl) rfl rfl rfl ?_; clear hf fa; intro fa hf
        refine sqv hf (r_move rfl) rfl rfl rfl ?_; clear hf fa; intro fa hf
        refine sqv hf (r_move rfl) rfl rfl rfl ?_; clear hf fa; intro fa hf
        refine sqv hf (r_sindexD (j := k) rfl rfl Try.underlying9 rfl (by omega)) rfl rfl rfl ?_; clear hf fa; intro fa hf
        refine sqv hf (r_conv (C := ((sbt s k : Nat) : Int)) rfl Try.underlying5 Try.underlying3 (by rw [IntKind.wrap_i64]; omega)) rfl rfl rfl ?_; clear hf fa; intro fa hf
        refine sqdt hf (d_callB (vs := [(.int .i64 ((sbt s k : Nat) : Int))]) rfl Try.func71 (by kernel_rfl) (by kernel_rfl) (rname2_any ((sbt s k : Nat) : Int) _ (by omega))) rfl rfl rfl ?_; clear hf fa; rintro fa _ w2 ⟨rfl, he1⟩ hf
        replace hb := hb.trans (Below.mono he1 hb.size)
        refine sqv hf (r_sadd rfl rfl (by have : ((⟨#[44]⟩) : ByteArray).size = 1 := rfl; have := sz_app o ⟨#[44]⟩; have := tname_le ((sbt s k : Nat) : Int); omega)) rfl rfl rfl ?_; clear hf fa; intro fa hf
        refine sqv hf (r_assign rfl) rfl rfl rfl ?_; clear hf fa; intro fa hf
        apply wpList_nil
        (try simp only [Exit.then, Exit.inBlock, ↓reduceIte, Nat.reduceEqDiff])
        refine hK7 _ _ ?_
        refine wp_region_lit ?_
        refine sqv hf (r_move rfl) rfl rfl rfl ?_; clear hf fa; intro fa hf
        refine sqv hf (r_add (C := (((k : Nat) : Int) + (1 : Int))) rfl rfl (by rw [IntKind.wrap_i64]; omega)) rfl rfl rfl ?_; clear hf fa; intro fa hf
        refine sqv hf (r_assign rfl) rfl rfl rfl ?_; clear hf fa; intro fa hf
        apply wpList_nil
        (try simp only [Exit.then, Exit.inBlock, ↓reduceIte, Nat.reduceEqDiff])
        have hsn := joinS_snoc (namesL ((nums s).take k)) (tnameP ((sbt s k : Nat) : Int)); rw [namesL_snoc (nums_get (by omega))] at hsn; have hol := (join_le (namesL_le ((nums s).take (k + 1)))).1; have hbl2 := namesL_len (nums s) (k + 1)
        refine hKL1 _ _ _ (by omega) ⟨(k + 1), ((o ++ ⟨#[44]⟩) ++ (tnameP ((sbt s k : Nat) : Int))), rfl, hf.sub ⟨rfl, rfl, (some_int (by first | rfl | omega)), trivial⟩, hb, by omega, (by rw [hsn, if_neg (by intro h; have h2 := congrArg List.length h; unfold namesL at h2; rw [List.length_map, List.length_take, nums_len] at h2; simp only [List.length_nil] at h2; have h3 := hqt12_1; omega), Ho])⟩
      · have hqt12_1b := hqt12_1
        replace hqt12_1 := Bool.eq_false_iff.1 hqt12_1
        try simp only [ne_eq, decide_eq_true_eq, Bool.and_eq_true, Bool.or_eq_true, Bool.not_eq_true', decide_eq_false_iff_not] at hqt12_1
        refine wp_skip ?_
        (try simp only [Exit.then, Exit.inBlock, ↓reduceIte, Nat.reduceEqDiff])
        refine hK8 _ _ ?_
        refine wp_region_lit ?_
        refine sqv hf (r_move rfl) rfl rfl rfl ?_; clear hf fa; intro fa hf
        refine sqv hf (r_move rfl) rfl rfl rfl ?_; clear hf fa; intro fa hf
        refine sqv hf (r_move rfl) rfl rfl rfl ?_; clear hf fa; intro fa hf
        refine sqv hf (r_sindexD (j := k) rfl rfl Try.underlying9 rfl (by omega)) rfl rfl rfl ?_; clear hf fa; intro fa hf
        refine sqv hf (r_conv (C := ((sbt s k : Nat) : Int)) rfl Try.underlying5 Try.underlying3 (by rw [IntKind.wrap_i64]; omega)) rfl rfl rfl ?_; clear hf fa; intro fa hf
        refine sqdt hf (d_callB (vs := [(.int .i64 ((sbt s k : Nat) : Int))]) rfl Try.func71 (by kernel_rfl) (by kernel_rfl) (rname2_any ((sbt s k : Nat) : Int) _ (by omega))) rfl rfl rfl ?_; clear hf fa; rintro fa _ w3 ⟨rfl, he2⟩ hf
        replace hb := hb.trans (Below.mono he2 hb.size)
        refine sqv hf (r_sadd rfl rfl (by have := tname_le ((sbt s k : Nat) : Int); omega)) rfl rfl rfl ?_; clear hf fa; intro fa hf
        refine sqv hf (r_assign rfl) rfl rfl rfl ?_; clear hf fa; intro fa hf
        apply wpList_nil
        (try simp only [Exit.then, Exit.inBlock, ↓reduceIte, Nat.reduceEqDiff])
        refine hK7 _ _ ?_
        refine wp_region_lit ?_
        refine sqv hf (r_move rfl) rfl rfl rfl ?_; clear hf fa; intro fa hf
        refine sqv hf (r_add (C := (((k : Nat) : Int) + (1 : Int))) rfl rfl (by rw [IntKind.wrap_i64]; omega)) rfl rfl rfl ?_; clear hf fa; intro fa hf
        refine sqv hf (r_assign rfl) rfl rfl rfl ?_; clear hf fa; intro fa hf
        apply wpList_nil
        (try simp only [Exit.then, Exit.inBlock, ↓reduceIte, Nat.reduceEqDiff])
        have hsn := joinS_snoc (namesL ((nums s).take k)) (tnameP ((sbt s k : Nat) : Int)); rw [namesL_snoc (nums_get (by omega))] at hsn; have hol := (join_le (namesL_le ((nums s).take (k + 1)))).1; have hbl2 := namesL_len (nums s) (k + 1)
        have hk0 : k = 0 := by have h3 := hqt12_1; omega
        refine hKL1 _ _ _ (by omega) ⟨(k + 1), (o ++ (tnameP ((sbt s k : Nat) : Int))), rfl, hf.sub ⟨rfl, rfl, (some_int (by first | rfl | omega)), trivial⟩, hb, by omega, (by rw [hsn, if_pos (by rw [hk0, List.take_zero]; rfl), Ho])⟩
    · have hqt8_1b := hqt8_1
      replace hqt8_1 := Bool.eq_false_iff.1 hqt8_1
      try simp only [ne_eq, decide_eq_true_eq, Bool.and_eq_true, Bool.or_eq_true, Bool.not_eq_true', decide_eq_false_iff_not] at hqt8_1
      refine wp_exit ?_
      (try simp only [Exit.then, Exit.inBlock, ↓reduceIte, Nat.reduceEqDiff])
      refine hK3 _ _ ?_
      refine wp_seq_k (fun K10 hK10 => ?_)
      refine wp_region_lit ?_
      refine sqv hf (r_move rfl) rfl rfl rfl ?_; clear hf fa; intro fa hf
      refine sqv hf (r_assign rfl) rfl rfl rfl ?_; clear hf fa; intro fa hf
      apply wpList_nil
      (try simp only [Exit.then, Exit.inBlock, ↓reduceIte, Nat.reduceEqDiff])
      refine hK10 _ _ ?_
      refine wp_ret ?_
      (try simp only [Exit.then, Exit.inBlock])
      refine ret1 hf rfl rfl ?_
      refine ⟨?_, hb⟩; unfold listP; rw [Ho, take_all s (by omega)]

def textP (t : MFt) : ByteArray := ((((⟨#[40]⟩ : ByteArray) ++ listP t.1) ++ (⟨#[41, 45, 62, 40]⟩ : ByteArray)) ++ listP t.2.1) ++ (⟨#[41]⟩ : ByteArray)

set_option maxHeartbeats 1000000 in
set_option maxRecDepth 100000 in
theorem text_any (t : MFt) (w : World) (h1 : t.1.size ≤ 1100) (h2 : t.2.1.size ≤ 300) : Calls Try.prog 42 #[(.agg #[(.string t.1), (.string t.2.1)])] w fun e w' => e = .returned (.string (textP t)) ∧ Below w.heap.size w w' := by
  refine sx_enter (L := [(0, (.agg #[(.string t.1), (.string t.2.1)]))]) Try.func42 rfl rfl rfl rfl (fun fa hf => ?_)
  have hb : Below w.heap.size w w := Below.refl _ _
  refine wp_seq_k (fun K1 hK1 => ?_)
  refine wp_region_lit ?_
  refine sqdt hf (d_box (cs := #[(.string t.1), (.string t.2.1)]) rfl rfl) rfl rfl rfl ?_; clear hf fa; rintro fa _ w1 ⟨b1, rfl, hle1, hk1, he1⟩ hf
  have hBb1 : w.heap.size ≤ b1 := Nat.le_trans hb.size hle1
  replace hb := hb.trans (Below.mono he1 hb.size)
  refine sqv hf (r_assign rfl) rfl rfl rfl ?_; clear hf fa; intro fa hf
  apply wpList_nil
  (try simp only [Exit.then, Exit.inBlock, ↓reduceIte, Nat.reduceEqDiff])
  refine hK1 _ _ ?_
  refine wp_seq_k (fun K2 hK2 => ?_)
  refine wp_region_un (fun wq => Below w1.heap.size w1 wq) (fun w w' => Below w.heap.size w w')
    (fun V => [(fun x _ => x = (.pointer (some ⟨b1, 0, none⟩))), (fun x _ => x = (.string t.1)), (fun x _ => x = (.string (listP t.1))), (fun x _ => x = (.string (⟨#[40]⟩ ++ (listP t.1)))), (fun x _ => x = (.string ((⟨#[40]⟩ ++ (listP t.1)) ++ ⟨#[41, 45, 62, 40]⟩))), (fun x _ => x = (.pointer (some ⟨b1, 1, none⟩))), (fun x _ => x = (.string t.2.1)), (fun x _ => x = (.string (listP t.2.1))), (fun x _ => x = (.string (((⟨#[40]⟩ ++ (listP t.1)) ++ ⟨#[41, 45, 62, 40]⟩) ++ (listP t.2.1)))), (fun x _ => x = (.string ((((⟨#[40]⟩ ++ (listP t.1)) ++ ⟨#[41, 45, 62, 40]⟩) ++ (listP t.2.1)) ++ ⟨#[41]⟩))), (fun x _ => x = (.string ((((⟨#[40]⟩ ++ (listP t.1)) ++ ⟨#[41, 45, 62, 40]⟩) ++ (listP t.2.1)) ++ ⟨#[41]⟩)))])
    []
    [[], [0], [1], [2], [3], [], [5], [2, 6], [4, 7], [8], [0, 1, 2, 3, 4, 5, 6, 7, 8, 9]]
    hf (by kernel_rfl) (by kernel_rfl) (fun _ => rfl) ((Below.refl _ _).drew) (fun a b h1 h2 => h1.trans (h2.mono h1.size)) (fun _ _ h => h.size) (fun V => ⟨kept_eq, kept_eq, kept_eq, kept_eq, kept_eq, kept_eq, kept_eq, kept_eq, kept_eq, kept_eq, kept_eq, trivial⟩) (fun _ _ _ _ _ => rfl) ?_ ?_
  · skip
    intro V
    refine ⟨fun wu0 hC hd => ?_, ?_⟩
    · clear hd
      replace hb := hb.trans (hC.mono hb.size)
      replace hk1 := blk_ext hk1 hC
      exact Runs.does (r_fa rfl Try.underlying95 (f := 0) (q := 0) rfl (by kernel_rfl) rfl) ⟨Below.refl _ _, rfl, nofr rfl⟩
    refine ⟨fun wu1 hC hd => ?_, ?_⟩
    · obtain ⟨h0, _⟩ := hd
      skip
      replace h0 : V 0 = (.pointer (some ⟨b1, 0, none⟩)) := h0
      replace hb := hb.trans (hC.mono hb.size)
      replace hk1 := blk_ext hk1 hC
      exact Runs.does (r_load (v := (.string t.1)) (congrArg some h0) Try.underlying9 rfl (cell_blk hk1 rfl)) ⟨Below.refl _ _, rfl, nofr rfl⟩
    refine ⟨fun wu2 hC hd => ?_, ?_⟩
    · obtain ⟨h1, _⟩ := hd
      skip
      replace h1 : V 1 = (.string t.1) := h1
      replace hb := hb.trans (hC.mono hb.size)
      replace hk1 := blk_ext hk1 hC
      refine Does.mono (d_callB (vs := [(.string t.1)]) (show [some (V 1)] = [some (.string t.1)] from by rw [h1]) Try.func76 (by kernel_rfl) (by kernel_rfl) (list_any t.1 _ (by omega))) (fun _ _ h => ⟨h.2, h.1, nofr rfl⟩)
    refine ⟨fun wu3 hC hd => ?_, ?_⟩
    · obtain ⟨h2, _⟩ := hd
      skip
      replace h2 : V 2 = (.string (listP t.1)) := h2
      replace hb := hb.trans (hC.mono hb.size)
      replace hk1 := blk_ext hk1 hC
      exact Runs.does (r_sadd rfl (congrArg some h2) (by have : ((⟨#[40]⟩) : ByteArray).size = 1 := rfl; have := listP_le t.1; omega)) ⟨Below.refl _ _, rfl, nofr rfl⟩
    refine ⟨fun wu4 hC hd => ?_, ?_⟩
    · obtain ⟨h3, _⟩ := hd
      skip
      replace h3 : V 3 = (.string (⟨#[40]⟩ ++ (listP t.1))) := h3
      replace hb := hb.trans (hC.mono hb.size)
      replace hk1 := blk_ext hk1 hC
      exact Runs.does (r_sadd (congrArg some h3) rfl (by have : ((⟨#[40]⟩) : ByteArray).size = 1 := rfl; have := listP_le t.1; have := sz_app ⟨#[40]⟩ (listP t.1); have : ((⟨#[41, 45, 62, 40]⟩) : ByteArray).size = 4 := rfl; omega)) ⟨Below.refl _ _, rfl, nofr rfl⟩
    refine ⟨fun wu5 hC hd => ?_, ?_⟩
    · clear hd
      replace hb := hb.trans (hC.mono hb.size)
      replace hk1 := blk_ext hk1 hC
      exact Runs.does (r_fa rfl Try.underlying95 (f := 1) (q := 1) rfl (by kernel_rfl) rfl) ⟨Below.refl _ _, rfl, nofr rfl⟩
    refine ⟨fun wu6 hC hd => ?_, ?_⟩
    · obtain ⟨h5, _⟩ := hd
      skip
      replace h5 : V 5 = (.pointer (some ⟨b1, 1, none⟩)) := h5
      replace hb := hb.trans (hC.mono hb.size)
      replace hk1 := blk_ext hk1 hC
      exact Runs.does (r_load (v := (.string t.2.1)) (congrArg some h5) Try.underlying9 rfl (cell_blk hk1 rfl)) ⟨Below.refl _ _, rfl, nofr rfl⟩
    refine ⟨fun wu7 hC hd => ?_, ?_⟩
    · obtain ⟨h2, h6, _⟩ := hd
      skip
      skip
      replace h2 : V 2 = (.string (listP t.1)) := h2
      replace h6 : V 6 = (.string t.2.1) := h6
      replace hb := hb.trans (hC.mono hb.size)
      replace hk1 := blk_ext hk1 hC
      refine Does.mono (d_callB (vs := [(.string t.2.1)]) (show [some (V 6)] = [some (.string t.2.1)] from by rw [h6]) Try.func76 (by kernel_rfl) (by kernel_rfl) (list_any t.2.1 _ (by omega))) (fun _ _ h => ⟨h.2, h.1, nofr rfl⟩)
    refine ⟨fun wu8 hC hd => ?_, ?_⟩
    · obtain ⟨h4, h7, _⟩ := hd
      skip
      skip
      replace h4 : V 4 = (.string ((⟨#[40]⟩ ++ (listP t.1)) ++ ⟨#[41, 45, 62, 40]⟩)) := h4
      replace h7 : V 7 = (.string (listP t.2.1)) := h7
      replace hb := hb.trans (hC.mono hb.size)
      replace hk1 := blk_ext hk1 hC
      exact Runs.does (r_sadd (congrArg some h4) (congrArg some h7) (by have : ((⟨#[40]⟩) : ByteArray).size = 1 := rfl; have := listP_le t.1; have := sz_app ⟨#[40]⟩ (listP t.1); have : ((⟨#[41, 45, 62, 40]⟩) : ByteArray).size = 4 := rfl; have := sz_app (⟨#[40]⟩ ++ (listP t.1)) ⟨#[41, 45, 62, 40]⟩; have := listP_le t.2.1; omega)) ⟨Below.refl _ _, rfl, nofr rfl⟩
    refine ⟨fun wu9 hC hd => ?_, ?_⟩
    · obtain ⟨h8, _⟩ := hd
      skip
      replace h8 : V 8 = (.string (((⟨#[40]⟩ ++ (listP t.1)) ++ ⟨#[41, 45, 62, 40]⟩) ++ (listP t.2.1))) := h8
      replace hb := hb.trans (hC.mono hb.size)
      replace hk1 := blk_ext hk1 hC
      exact Runs.does (r_sadd (congrArg some h8) rfl (by have : ((⟨#[40]⟩) : ByteArray).size = 1 := rfl; have := listP_le t.1; have := sz_app ⟨#[40]⟩ (listP t.1); have : ((⟨#[41, 45, 62, 40]⟩) : ByteArray).size = 4 := rfl; have := sz_app (⟨#[40]⟩ ++ (listP t.1)) ⟨#[41, 45, 62, 40]⟩; have := listP_le t.2.1; have := sz_app ((⟨#[40]⟩ ++ (listP t.1)) ++ ⟨#[41, 45, 62, 40]⟩) (listP t.2.1); have : ((⟨#[41]⟩) : ByteArray).size = 1 := rfl; omega)) ⟨Below.refl _ _, rfl, nofr rfl⟩
    refine ⟨fun wu10 hC hd => ?_, ?_⟩
    · obtain ⟨h0, h1, h2, h3, h4, h5, h6, h7, h8, h9, _⟩ := hd
      skip
      skip
      skip
      skip
      skip
      skip
      skip
      skip
      skip
      skip
      replace h0 : V 0 = (.pointer (some ⟨b1, 0, none⟩)) := h0
      replace h1 : V 1 = (.string t.1) := h1
      replace h2 : V 2 = (.string (listP t.1)) := h2
      replace h3 : V 3 = (.string (⟨#[40]⟩ ++ (listP t.1))) := h3
      replace h4 : V 4 = (.string ((⟨#[40]⟩ ++ (listP t.1)) ++ ⟨#[41, 45, 62, 40]⟩)) := h4
      replace h5 : V 5 = (.pointer (some ⟨b1, 1, none⟩)) := h5
      replace h6 : V 6 = (.string t.2.1) := h6
      replace h7 : V 7 = (.string (listP t.2.1)) := h7
      replace h8 : V 8 = (.string (((⟨#[40]⟩ ++ (listP t.1)) ++ ⟨#[41, 45, 62, 40]⟩) ++ (listP t.2.1))) := h8
      replace h9 : V 9 = (.string ((((⟨#[40]⟩ ++ (listP t.1)) ++ ⟨#[41, 45, 62, 40]⟩) ++ (listP t.2.1)) ++ ⟨#[41]⟩)) := h9
      replace hb := hb.trans (hC.mono hb.size)
      replace hk1 := blk_ext hk1 hC
      exact Runs.does (r_assign (congrArg some h9)) ⟨Below.refl _ _, rfl, nofr rfl⟩
    trivial
  · skip
    clear hf fa; intro V w2 fa he2 hp hnb hf
    have hv0 : V 0 = (.pointer (some ⟨b1, 0, none⟩)) := postsHold_at hp 0 rfl
    have hv1 : V 1 = (.string t.1) := postsHold_at hp 1 rfl
    have hv2 : V 2 = (.string (listP t.1)) := postsHold_at hp 2 rfl
    have hv3 : V 3 = (.string (⟨#[40]⟩ ++ (listP t.1))) := postsHold_at hp 3 rfl
    have hv4 : V 4 = (.string ((⟨#[40]⟩ ++ (listP t.1)) ++ ⟨#[41, 45, 62, 40]⟩)) := postsHold_at hp 4 rfl
    have hv5 : V 5 = (.pointer (some ⟨b1, 1, none⟩)) := postsHold_at hp 5 rfl
    have hv6 : V 6 = (.string t.2.1) := postsHold_at hp 6 rfl
    have hv7 : V 7 = (.string (listP t.2.1)) := postsHold_at hp 7 rfl
    have hv8 : V 8 = (.string (((⟨#[40]⟩ ++ (listP t.1)) ++ ⟨#[41, 45, 62, 40]⟩) ++ (listP t.2.1))) := postsHold_at hp 8 rfl
    have hv9 : V 9 = (.string ((((⟨#[40]⟩ ++ (listP t.1)) ++ ⟨#[41, 45, 62, 40]⟩) ++ (listP t.2.1)) ++ ⟨#[41]⟩)) := postsHold_at hp 9 rfl
    have hv10 : V 10 = (.string ((((⟨#[40]⟩ ++ (listP t.1)) ++ ⟨#[41, 45, 62, 40]⟩) ++ (listP t.2.1)) ++ ⟨#[41]⟩)) := postsHold_at hp 10 rfl
    simp only [List.take_succ_cons, List.take_zero, insAll, ins, hv0, hv1, hv2, hv3, hv4, hv5, hv6, hv7, hv8, hv9, hv10] at hf
    clear hp hnb hv0 hv1 hv2 hv3 hv4 hv5 hv6 hv7 hv8 hv9 hv10
    replace hk1 := blk_ext hk1 he2
    replace hb := hb.trans (Below.mono he2 hb.size)
    (try simp only [Exit.then, Exit.inBlock, ↓reduceIte, Nat.reduceEqDiff])
    refine hK2 _ _ ?_
    refine wp_ret ?_
    (try simp only [Exit.then, Exit.inBlock])
    refine ret1 hf rfl rfl ?_
    exact ⟨rfl, hb⟩

set_option maxHeartbeats 1000000 in
set_option maxRecDepth 100000 in
theorem rtext_any (t : MFt) (w : World) (h1 : t.1.size ≤ 1100) (h2 : t.2.1.size ≤ 300) : Calls Try.prog 47 #[(.agg #[(.string t.1), (.string t.2.1)])] w fun e w' => e = .returned (.string (textP t)) ∧ Below w.heap.size w w' := by
  refine sx_enter (L := [(0, (.agg #[(.string t.1), (.string t.2.1)]))]) Try.func47 rfl rfl rfl rfl (fun fa hf => ?_)
  have hb : Below w.heap.size w w := Below.refl _ _
  refine wp_seq_k (fun K1 hK1 => ?_)
  refine wp_region_lit ?_
  refine sqdt hf (d_box (cs := #[(.string t.1), (.string t.2.1)]) rfl rfl) rfl rfl rfl ?_; clear hf fa; rintro fa _ w1 ⟨b1, rfl, hle1, hk1, he1⟩ hf
  have hBb1 : w.heap.size ≤ b1 := Nat.le_trans hb.size hle1
  replace hb := hb.trans (Below.mono he1 hb.size)
  refine sqv hf (r_assign rfl) rfl rfl rfl ?_; clear hf fa; intro fa hf
  apply wpList_nil
  (try simp only [Exit.then, Exit.inBlock, ↓reduceIte, Nat.reduceEqDiff])
  refine hK1 _ _ ?_
  refine wp_seq_k (fun K2 hK2 => ?_)
  refine wp_region_un (fun wq => Below w1.heap.size w1 wq) (fun w w' => Below w.heap.size w w')
    (fun V => [(fun x _ => x = (.pointer (some ⟨b1, 0, none⟩))), (fun x _ => x = (.string t.1)), (fun x _ => x = (.string (listP t.1))), (fun x _ => x = (.string (⟨#[40]⟩ ++ (listP t.1)))), (fun x _ => x = (.string ((⟨#[40]⟩ ++ (listP t.1)) ++ ⟨#[41, 45, 62, 40]⟩))), (fun x _ => x = (.pointer (some ⟨b1, 1, none⟩))), (fun x _ => x = (.string t.2.1)), (fun x _ => x = (.string (listP t.2.1))), (fun x _ => x = (.string (((⟨#[40]⟩ ++ (listP t.1)) ++ ⟨#[41, 45, 62, 40]⟩) ++ (listP t.2.1)))), (fun x _ => x = (.string ((((⟨#[40]⟩ ++ (listP t.1)) ++ ⟨#[41, 45, 62, 40]⟩) ++ (listP t.2.1)) ++ ⟨#[41]⟩))), (fun x _ => x = (.string ((((⟨#[40]⟩ ++ (listP t.1)) ++ ⟨#[41, 45, 62, 40]⟩) ++ (listP t.2.1)) ++ ⟨#[41]⟩)))])
    []
    [[], [0], [1], [2], [3], [], [5], [2, 6], [4, 7], [8], [0, 1, 2, 3, 4, 5, 6, 7, 8, 9]]
    hf (by kernel_rfl) (by kernel_rfl) (fun _ => rfl) ((Below.refl _ _).drew) (fun a b h1 h2 => h1.trans (h2.mono h1.size)) (fun _ _ h => h.size) (fun V => ⟨kept_eq, kept_eq, kept_eq, kept_eq, kept_eq, kept_eq, kept_eq, kept_eq, kept_eq, kept_eq, kept_eq, trivial⟩) (fun _ _ _ _ _ => rfl) ?_ ?_
  · skip
    intro V
    refine ⟨fun wu0 hC hd => ?_, ?_⟩
    · clear hd
      replace hb := hb.trans (hC.mono hb.size)
      replace hk1 := blk_ext hk1 hC
      exact Runs.does (r_fa rfl Try.underlying95 (f := 0) (q := 0) rfl (by kernel_rfl) rfl) ⟨Below.refl _ _, rfl, nofr rfl⟩
    refine ⟨fun wu1 hC hd => ?_, ?_⟩
    · obtain ⟨h0, _⟩ := hd
      skip
      replace h0 : V 0 = (.pointer (some ⟨b1, 0, none⟩)) := h0
      replace hb := hb.trans (hC.mono hb.size)
      replace hk1 := blk_ext hk1 hC
      exact Runs.does (r_load (v := (.string t.1)) (congrArg some h0) Try.underlying9 rfl (cell_blk hk1 rfl)) ⟨Below.refl _ _, rfl, nofr rfl⟩
    refine ⟨fun wu2 hC hd => ?_, ?_⟩
    · obtain ⟨h1, _⟩ := hd
      skip
      replace h1 : V 1 = (.string t.1) := h1
      replace hb := hb.trans (hC.mono hb.size)
      replace hk1 := blk_ext hk1 hC
      refine Does.mono (d_callB (vs := [(.string t.1)]) (show [some (V 1)] = [some (.string t.1)] from by rw [h1]) Try.func79 (by kernel_rfl) (by kernel_rfl) (names_any t.1 _ (by omega))) (fun _ _ h => ⟨h.2, h.1, nofr rfl⟩)
    refine ⟨fun wu3 hC hd => ?_, ?_⟩
    · obtain ⟨h2, _⟩ := hd
      skip
      replace h2 : V 2 = (.string (listP t.1)) := h2
      replace hb := hb.trans (hC.mono hb.size)
      replace hk1 := blk_ext hk1 hC
      exact Runs.does (r_sadd rfl (congrArg some h2) (by have : ((⟨#[40]⟩) : ByteArray).size = 1 := rfl; have := listP_le t.1; omega)) ⟨Below.refl _ _, rfl, nofr rfl⟩
    refine ⟨fun wu4 hC hd => ?_, ?_⟩
    · obtain ⟨h3, _⟩ := hd
      skip
      replace h3 : V 3 = (.string (⟨#[40]⟩ ++ (listP t.1))) := h3
      replace hb := hb.trans (hC.mono hb.size)
      replace hk1 := blk_ext hk1 hC
      exact Runs.does (r_sadd (congrArg some h3) rfl (by have : ((⟨#[40]⟩) : ByteArray).size = 1 := rfl; have := listP_le t.1; have := sz_app ⟨#[40]⟩ (listP t.1); have : ((⟨#[41, 45, 62, 40]⟩) : ByteArray).size = 4 := rfl; omega)) ⟨Below.refl _ _, rfl, nofr rfl⟩
    refine ⟨fun wu5 hC hd => ?_, ?_⟩
    · clear hd
      replace hb := hb.trans (hC.mono hb.size)
      replace hk1 := blk_ext hk1 hC
      exact Runs.does (r_fa rfl Try.underlying95 (f := 1) (q := 1) rfl (by kernel_rfl) rfl) ⟨Below.refl _ _, rfl, nofr rfl⟩
    refine ⟨fun wu6 hC hd => ?_, ?_⟩
    · obtain ⟨h5, _⟩ := hd
      skip
      replace h5 : V 5 = (.pointer (some ⟨b1, 1, none⟩)) := h5
      replace hb := hb.trans (hC.mono hb.size)
      replace hk1 := blk_ext hk1 hC
      exact Runs.does (r_load (v := (.string t.2.1)) (congrArg some h5) Try.underlying9 rfl (cell_blk hk1 rfl)) ⟨Below.refl _ _, rfl, nofr rfl⟩
    refine ⟨fun wu7 hC hd => ?_, ?_⟩
    · obtain ⟨h2, h6, _⟩ := hd
      skip
      skip
      replace h2 : V 2 = (.string (listP t.1)) := h2
      replace h6 : V 6 = (.string t.2.1) := h6
      replace hb := hb.trans (hC.mono hb.size)
      replace hk1 := blk_ext hk1 hC
      refine Does.mono (d_callB (vs := [(.string t.2.1)]) (show [some (V 6)] = [some (.string t.2.1)] from by rw [h6]) Try.func79 (by kernel_rfl) (by kernel_rfl) (names_any t.2.1 _ (by omega))) (fun _ _ h => ⟨h.2, h.1, nofr rfl⟩)
    refine ⟨fun wu8 hC hd => ?_, ?_⟩
    · obtain ⟨h4, h7, _⟩ := hd
      skip
      skip
      replace h4 : V 4 = (.string ((⟨#[40]⟩ ++ (listP t.1)) ++ ⟨#[41, 45, 62, 40]⟩)) := h4
      replace h7 : V 7 = (.string (listP t.2.1)) := h7
      replace hb := hb.trans (hC.mono hb.size)
      replace hk1 := blk_ext hk1 hC
      exact Runs.does (r_sadd (congrArg some h4) (congrArg some h7) (by have : ((⟨#[40]⟩) : ByteArray).size = 1 := rfl; have := listP_le t.1; have := sz_app ⟨#[40]⟩ (listP t.1); have : ((⟨#[41, 45, 62, 40]⟩) : ByteArray).size = 4 := rfl; have := sz_app (⟨#[40]⟩ ++ (listP t.1)) ⟨#[41, 45, 62, 40]⟩; have := listP_le t.2.1; omega)) ⟨Below.refl _ _, rfl, nofr rfl⟩
    refine ⟨fun wu9 hC hd => ?_, ?_⟩
    · obtain ⟨h8, _⟩ := hd
      skip
      replace h8 : V 8 = (.string (((⟨#[40]⟩ ++ (listP t.1)) ++ ⟨#[41, 45, 62, 40]⟩) ++ (listP t.2.1))) := h8
      replace hb := hb.trans (hC.mono hb.size)
      replace hk1 := blk_ext hk1 hC
      exact Runs.does (r_sadd (congrArg some h8) rfl (by have : ((⟨#[40]⟩) : ByteArray).size = 1 := rfl; have := listP_le t.1; have := sz_app ⟨#[40]⟩ (listP t.1); have : ((⟨#[41, 45, 62, 40]⟩) : ByteArray).size = 4 := rfl; have := sz_app (⟨#[40]⟩ ++ (listP t.1)) ⟨#[41, 45, 62, 40]⟩; have := listP_le t.2.1; have := sz_app ((⟨#[40]⟩ ++ (listP t.1)) ++ ⟨#[41, 45, 62, 40]⟩) (listP t.2.1); have : ((⟨#[41]⟩) : ByteArray).size = 1 := rfl; omega)) ⟨Below.refl _ _, rfl, nofr rfl⟩
    refine ⟨fun wu10 hC hd => ?_, ?_⟩
    · obtain ⟨h0, h1, h2, h3, h4, h5, h6, h7, h8, h9, _⟩ := hd
      skip
      skip
      skip
      skip
      skip
      skip
      skip
      skip
      skip
      skip
      replace h0 : V 0 = (.pointer (some ⟨b1, 0, none⟩)) := h0
      replace h1 : V 1 = (.string t.1) := h1
      replace h2 : V 2 = (.string (listP t.1)) := h2
      replace h3 : V 3 = (.string (⟨#[40]⟩ ++ (listP t.1))) := h3
      replace h4 : V 4 = (.string ((⟨#[40]⟩ ++ (listP t.1)) ++ ⟨#[41, 45, 62, 40]⟩)) := h4
      replace h5 : V 5 = (.pointer (some ⟨b1, 1, none⟩)) := h5
      replace h6 : V 6 = (.string t.2.1) := h6
      replace h7 : V 7 = (.string (listP t.2.1)) := h7
      replace h8 : V 8 = (.string (((⟨#[40]⟩ ++ (listP t.1)) ++ ⟨#[41, 45, 62, 40]⟩) ++ (listP t.2.1))) := h8
      replace h9 : V 9 = (.string ((((⟨#[40]⟩ ++ (listP t.1)) ++ ⟨#[41, 45, 62, 40]⟩) ++ (listP t.2.1)) ++ ⟨#[41]⟩)) := h9
      replace hb := hb.trans (hC.mono hb.size)
      replace hk1 := blk_ext hk1 hC
      exact Runs.does (r_assign (congrArg some h9)) ⟨Below.refl _ _, rfl, nofr rfl⟩
    trivial
  · skip
    clear hf fa; intro V w2 fa he2 hp hnb hf
    have hv0 : V 0 = (.pointer (some ⟨b1, 0, none⟩)) := postsHold_at hp 0 rfl
    have hv1 : V 1 = (.string t.1) := postsHold_at hp 1 rfl
    have hv2 : V 2 = (.string (listP t.1)) := postsHold_at hp 2 rfl
    have hv3 : V 3 = (.string (⟨#[40]⟩ ++ (listP t.1))) := postsHold_at hp 3 rfl
    have hv4 : V 4 = (.string ((⟨#[40]⟩ ++ (listP t.1)) ++ ⟨#[41, 45, 62, 40]⟩)) := postsHold_at hp 4 rfl
    have hv5 : V 5 = (.pointer (some ⟨b1, 1, none⟩)) := postsHold_at hp 5 rfl
    have hv6 : V 6 = (.string t.2.1) := postsHold_at hp 6 rfl
    have hv7 : V 7 = (.string (listP t.2.1)) := postsHold_at hp 7 rfl
    have hv8 : V 8 = (.string (((⟨#[40]⟩ ++ (listP t.1)) ++ ⟨#[41, 45, 62, 40]⟩) ++ (listP t.2.1))) := postsHold_at hp 8 rfl
    have hv9 : V 9 = (.string ((((⟨#[40]⟩ ++ (listP t.1)) ++ ⟨#[41, 45, 62, 40]⟩) ++ (listP t.2.1)) ++ ⟨#[41]⟩)) := postsHold_at hp 9 rfl
    have hv10 : V 10 = (.string ((((⟨#[40]⟩ ++ (listP t.1)) ++ ⟨#[41, 45, 62, 40]⟩) ++ (listP t.2.1)) ++ ⟨#[41]⟩)) := postsHold_at hp 10 rfl
    simp only [List.take_succ_cons, List.take_zero, insAll, ins, hv0, hv1, hv2, hv3, hv4, hv5, hv6, hv7, hv8, hv9, hv10] at hf
    clear hp hnb hv0 hv1 hv2 hv3 hv4 hv5 hv6 hv7 hv8 hv9 hv10
    replace hk1 := blk_ext hk1 he2
    replace hb := hb.trans (Below.mono he2 hb.size)
    (try simp only [Exit.then, Exit.inBlock, ↓reduceIte, Nat.reduceEqDiff])
    refine hK2 _ _ ?_
    refine wp_ret ?_
    (try simp only [Exit.then, Exit.inBlock])
    refine ret1 hf rfl rfl ?_
    exact ⟨rfl, hb⟩

end Go.Proofs.Ytpalmpfkliepfaa

namespace Go.Proofs.Ytpalmpfkliepfaa
open Go.RowKit
set_option linter.unusedVariables false
set_option linter.unusedSimpArgs false

/-- The operations that are done. -/
abbrev LS (listed : Array Bool) : Nat → Prop := fun k => listed[k]? = some true
def ad (i : Nat) (S : Nat → Prop) : Nat → Prop := fun k => k = i ∨ S k

/-- What stands of the operations in S. -/
structure UvS (all : (Nat → Prop) → List (Value → World → Prop)) (A : List Nat) (dl : List (List Nat)) (V : Nat → Value) (S : Nat → Prop) (w : World) : Prop where
  post : ∀ j, S j → ((all S).getD j (fun _ _ => True)) (V j) w
  down : ∀ j, S j → ∀ k, k ∈ dl.getD j [] → S k
  lt : ∀ i, A.contains i = true → S i → ∃ b, blkOf (V i) = some b ∧ b < w.heap.size
  ne : ∀ i j, A.contains i = true → A.contains j = true → i ≠ j → S i → S j → blkOf (V i) ≠ blkOf (V j)

structure UvInv (ops : Array Oper) (C : (Nat → Prop) → World → Prop) (posts : (Nat → Value) → (Nat → Prop) → List (Value → World → Prop)) (A : List Nat) (a0 : Act) (V : Nat → Value) (listed : Array Bool) (a : Act) (w : World) : Prop where
  size : listed.size = ops.size
  tmps : a.tmps.size = a0.tmps.size
  defers : a.defers = a0.defers
  c : C (LS listed) w
  got : ∀ (j : Nat) (o : Oper), ops[j]? = some o → listed[j]? = some true → ∀ t, o.dst = some t → a.tmps[t]? = some (V j)
  post : ∀ (j : Nat) (o : Oper), ops[j]? = some o → listed[j]? = some true → ((posts V (LS listed)).getD j (fun _ _ => True)) (V j) w
  same : ∀ t, (∀ (j : Nat) (o : Oper), ops[j]? = some o → listed[j]? = some true → o.dst ≠ some t) → a.tmps[t]? = a0.tmps[t]?
  down : ∀ (j : Nat) (o : Oper), ops[j]? = some o → listed[j]? = some true → ∀ k, pre o k = true → listed[k]? = some true
  frA : ∀ i, A.contains i = true → listed[i]? = some true → ∃ b, blkOf (V i) = some b ∧ b < w.heap.size
  neA : ∀ i j, A.contains i = true → A.contains j = true → i ≠ j → listed[i]? = some true → listed[j]? = some true → blkOf (V i) ≠ blkOf (V j)

section
variable {P : Program} {ops : Array Oper} {C : (Nat → Prop) → World → Prop} {posts : (Nat → Value) → (Nat → Prop) → List (Value → World → Prop)} {A : List Nat} {dl : List (List Nat)} {N T : Nat} {a0 : Act}

/-- As the elder law's. -/
theorem UvInv.old {V : Nat → Value} {listed : Array Bool} {a : Act} {w : World} (hI : UvInv ops C posts A a0 V listed a w) : UgInv ops (fun _ => True) (fun _ => []) A a0 V listed a w :=
  ⟨hI.size, hI.tmps, hI.defers, trivial, hI.got, fun _ _ _ _ => by simp, hI.same, hI.down, hI.frA, hI.neA⟩

end

end Go.Proofs.Ytpalmpfkliepfaa

namespace Go.Proofs.Ytpalmpfkliepfaa
open Go.RowKit
set_option linter.unusedVariables false
set_option linter.unusedSimpArgs false

def inS (L : List ByteArray) (s : ByteArray) : Bool := L.any fun x => decide (x = s)
/-- Block b of w is a map that holds true at the strings of L, and nothing else. -/
def SetM (P : Program) (k e : TypeId) (w : World) (b : Nat) (L : List ByteArray) : Prop :=
  ∃ D n, w.ownsMap (H := Unit) P k (plainElem P e) b n D ∧ n ≤ L.length ∧ Maps.IsMap D ∧ ∀ s : ByteArray, s.size ≤ maxLen → D.atKey (.string s.data.toList) (.lit (.bool false)) = .lit (.bool (inS L s))
section
variable {P : Program} {L : List (Nat × Value)} {w : World} {d : Option Tmp} {ty : TypeId} {ps : String} {af : Array Edge} {gu : Option (Nat × Bool)} {t k e : TypeId} {b : Nat} {S : List ByteArray}
theorem SetM.ext {w' : World} (h : SetM P k e w b S) (hb : Below w.heap.size w w') : SetM P k e w' b S := by
  obtain ⟨D, n, h1, h2, h3⟩ := h
  exact ⟨D, n, h1.kept (below_grown (r := none) hb) (by simp), h2, h3⟩
theorem SetM.grown {w' : World} {c : Nat} (h : SetM P k e w b S) (hg : w.grownBy w' (some c)) (hne : b ≠ c) : SetM P k e w' b S := by
  obtain ⟨D, n, h1, h2, h3⟩ := h
  exact ⟨D, n, h1.kept hg (fun e => hne (Option.some.inj e)), h2, h3⟩
theorem SetM.lt (h : SetM P k e w b S) : b < w.heap.size := by
  obtain ⟨D, n, h1, h2, h3⟩ := h
  exact h1.lt
end
end Go.Proofs.Ytpalmpfkliepfaa

namespace Go.Proofs.Ytpalmpfkliepfaa
open Go.RowKit
set_option linter.unusedVariables false
set_option linter.unusedSimpArgs false

/-- Below B nothing but block b is another. -/
structure KB (b B : Nat) (w w' : World) : Prop where
  os : w'.os = w.os
  tape : w'.tape = w.tape
  output : w'.output = w.output
  size : w.heap.size ≤ w'.heap.size
  block : ∀ k, k < B → k ≠ b → w'.heap[k]? = w.heap[k]?
section
variable {b B : Nat} {w w1 w2 : World}
theorem KB.refl (b B : Nat) (w : World) : KB b B w w := ⟨rfl, rfl, rfl, Nat.le_refl _, fun _ _ _ => rfl⟩
theorem KB.trans (h : KB b B w w1) (h2 : Below B w1 w2) : KB b B w w2 := ⟨h2.os.trans h.os, h2.tape.trans h.tape, h2.output.trans h.output, Nat.le_trans h.size h2.size, fun k hk hne => (h2.block k hk).trans (h.block k hk hne)⟩
theorem KB.grown (h : KB b w.heap.size w w1) : w.grownBy w1 (some b) := ⟨h.os, h.tape, h.output, h.size, fun k hk hne => h.block k hk (fun e => hne (by rw [e]))⟩
end
section
variable {P : Program} {L : List (Nat × Value)} {w : World} {d : Option Tmp} {ty : TypeId} {ps : String} {af : Array Edge} {gu : Option (Nat × Bool)}
end
end Go.Proofs.Ytpalmpfkliepfaa

namespace Go.Proofs.Ytpalmpfkliepfaa
open Go.RowKit
set_option linter.unusedVariables false
set_option linter.unusedSimpArgs false

/-- Below B nothing but the blocks of a list are others. -/
structure KS (S : List Nat) (B : Nat) (w w' : World) : Prop where
  os : w'.os = w.os
  tape : w'.tape = w.tape
  output : w'.output = w.output
  size : w.heap.size ≤ w'.heap.size
  block : ∀ k, k < B → k ∉ S → w'.heap[k]? = w.heap[k]?
section
variable {S S2 : List Nat} {b B : Nat} {w w1 w2 w' : World}
theorem KS.refl (S : List Nat) (B : Nat) (w : World) : KS S B w w := ⟨rfl, rfl, rfl, Nat.le_refl _, fun _ _ _ => rfl⟩
theorem KS.trans (h : KS S B w w1) (h2 : Below B w1 w2) : KS S B w w2 := ⟨h2.os.trans h.os, h2.tape.trans h.tape, h2.output.trans h.output, Nat.le_trans h.size h2.size, fun k hk hne => (h2.block k hk).trans (h.block k hk hne)⟩
theorem KS.sub (h : KS S B w w') (hs : ∀ b ∈ S, b ∈ S2) : KS S2 B w w' := ⟨h.os, h.tape, h.output, h.size, fun k hk hne => h.block k hk (fun hm => hne (hs k hm))⟩
end
/-- Nothing but block b and a row's own block is another. -/
structure GO (w : World) (b : Nat) (v : Value) (w' : World) : Prop where
  os : w'.os = w.os
  tape : w'.tape = w.tape
  output : w'.output = w.output
  size : w.heap.size ≤ w'.heap.size
  block : ∀ k, k < w.heap.size → k ≠ b → some k ≠ v.ownBlock → w'.heap[k]? = w.heap[k]?
section
variable {w w1 w2 : World} {b : Nat} {v : Value}
theorem GO.refl (w : World) (b : Nat) (v : Value) : GO w b v w := ⟨rfl, rfl, rfl, Nat.le_refl _, fun _ _ _ _ => rfl⟩
theorem GO.call (h : GO w b v w1) (hg : w1.grownBy w2 (some b)) : GO w b v w2 := ⟨hg.os.trans h.os, hg.tape.trans h.tape, hg.output.trans h.output, Nat.le_trans h.size hg.size, fun k hk h3 h4 => (hg.block k (Nat.lt_of_lt_of_le hk h.size) (fun e => h3 (Option.some.inj e))).trans (h.block k hk h3 h4)⟩
end
section
variable {P : Program} {L : List (Nat × Value)} {w : World} {d : Option Tmp} {ty : TypeId} {ps : String} {af : Array Edge} {gu : Option (Nat × Bool)}
/-- The bytes of a string, of a block. -/
def StrC (cs : Array Value) (s : ByteArray) : Prop := ∀ j, j < s.size → cs[j]? = some (.int .u8 ((sbt s j : Nat) : Int))
theorem StrC.rd {b e : Nat} {cs : Array Value} {fr : Nat × Nat} {s : ByteArray} (hb : w.heap[b]? = some (.cells cs e fr)) (h : StrC cs s) : RdS 1 (vInt .u8) w (some ⟨b, 0, none⟩) (nums s) := by
  intro j x hx
  have hj : j < s.size := by rw [← nums_len]; exact (List.getElem?_eq_some_iff.1 hx).1
  refine ⟨b, 0, rfl, blk_lt hb, fun i u hu => ?_⟩
  rw [nums_get hj] at hx
  cases hx
  cases i with
  | zero => cases hu; exact cell_blk hb (by rw [Nat.zero_add, Nat.mul_one]; exact h j hj)
  | succ i => cases hu
end
section
variable {P : Program} {L : List (Nat × Value)} {w : World} {d : Option Tmp} {ty : TypeId} {ps : String} {af : Array Edge} {gu : Option (Nat × Bool)}
end
section
variable {P : Program} {fn : Func} {R : Ending → World → Prop} {a : Act} {N : Nat} {L : List (Nat × Value)} {w : World}
end
end Go.Proofs.Ytpalmpfkliepfaa

namespace Go.Proofs.Ytpalmpfkliepfaa
open Go.RowKit Ut
set_option linter.unusedVariables false
set_option linter.unusedSimpArgs false
theorem inI_u32 {n : Int} (h : 0 ≤ n ∧ n < 9223372036854775808) : inI n := by unfold inI; omega
theorem dS2 : dS 2 = ⟨#[50]⟩ := by unfold dS digB; rw [if_neg (by decide), show (2 : Int).natAbs = 2 from rfl, natB_lt (by decide)]; rfl
theorem dS8 : dS 8 = ⟨#[56]⟩ := by unfold dS digB; rw [if_neg (by decide), show (8 : Int).natAbs = 8 from rfl, natB_lt (by decide)]; rfl

set_option maxHeartbeats 1000000 in
set_option maxRecDepth 100000 in
theorem nat46_any (n : Int) (w : World) (h : 0 ≤ n ∧ n < 9223372036854775808) : Calls Try.prog 40 #[(.int .u64 n)] w fun e w' => e = .returned (.string (dS n)) ∧ Below w.heap.size w w' := by
  refine sx_enter (L := [(0, (.int .u64 n))]) Try.func40 rfl rfl rfl rfl (fun fa hf => ?_)
  have hb : Below w.heap.size w w := Below.refl _ _
  refine wp_seq_k (fun K1 hK1 => ?_)
  refine wp_region_lit ?_
  refine sqv hf (r_assign rfl) rfl rfl rfl ?_; clear hf fa; intro fa hf
  apply wpList_nil
  (try simp only [Exit.then, Exit.inBlock, ↓reduceIte, Nat.reduceEqDiff])
  refine hK1 _ _ ?_
  refine wp_seq_k (fun K2 hK2 => ?_)
  refine wp_region_lit ?_
  refine sqv hf (r_move rfl) rfl rfl rfl ?_; clear hf fa; intro fa hf
  refine sqv hf (r_conv (C := n) rfl Try.underlying63 Try.underlying3 (by rw [IntKind.wrap_i64]; omega)) rfl rfl rfl ?_; clear hf fa; intro fa hf
  refine sqdt hf (d_callB (vs := [(.int .i64 n)]) rfl Try.func31 (by kernel_rfl) (by kernel_rfl) (digits_any n _ (inI_u32 (by omega)))) rfl rfl rfl ?_; clear hf fa; rintro fa _ w1 ⟨rfl, he1⟩ hf
  replace hb := hb.trans (Below.mono he1 hb.size)
  refine sqv hf (r_assign rfl) rfl rfl rfl ?_; clear hf fa; intro fa hf
  apply wpList_nil
  (try simp only [Exit.then, Exit.inBlock, ↓reduceIte, Nat.reduceEqDiff])
  refine hK2 _ _ ?_
  refine wp_ret ?_
  (try simp only [Exit.then, Exit.inBlock])
  refine ret1 hf rfl rfl ?_
  exact ⟨rfl, hb⟩

set_option maxHeartbeats 1000000 in
set_option maxRecDepth 100000 in
theorem num46_any (n : Int) (w : World) (h : 0 ≤ n ∧ n < 9223372036854775808) : Calls Try.prog 45 #[(.int .u64 n)] w fun e w' => e = .returned (.string (dS n)) ∧ Below w.heap.size w w' := by
  refine sx_enter (L := [(0, (.int .u64 n))]) Try.func45 rfl rfl rfl rfl (fun fa hf => ?_)
  have hb : Below w.heap.size w w := Below.refl _ _
  refine wp_seq_k (fun K1 hK1 => ?_)
  refine wp_region_lit ?_
  refine sqv hf (r_assign rfl) rfl rfl rfl ?_; clear hf fa; intro fa hf
  apply wpList_nil
  (try simp only [Exit.then, Exit.inBlock, ↓reduceIte, Nat.reduceEqDiff])
  refine hK1 _ _ ?_
  refine wp_seq_k (fun K2 hK2 => ?_)
  refine wp_region_lit ?_
  refine sqv hf (r_move rfl) rfl rfl rfl ?_; clear hf fa; intro fa hf
  refine sqv hf (r_conv (C := n) rfl Try.underlying63 Try.underlying3 (by rw [IntKind.wrap_i64]; omega)) rfl rfl rfl ?_; clear hf fa; intro fa hf
  refine sqdt hf (d_callB (vs := [(.int .i64 n)]) rfl Try.func33 (by kernel_rfl) (by kernel_rfl) (rdigits_any n _ (inI_u32 (by omega)))) rfl rfl rfl ?_; clear hf fa; rintro fa _ w1 ⟨rfl, he1⟩ hf
  replace hb := hb.trans (Below.mono he1 hb.size)
  refine sqv hf (r_assign rfl) rfl rfl rfl ?_; clear hf fa; intro fa hf
  apply wpList_nil
  (try simp only [Exit.then, Exit.inBlock, ↓reduceIte, Nat.reduceEqDiff])
  refine hK2 _ _ ?_
  refine wp_ret ?_
  (try simp only [Exit.then, Exit.inBlock])
  refine ret1 hf rfl rfl ?_
  exact ⟨rfl, hb⟩

set_option maxHeartbeats 1000000 in
set_option maxRecDepth 100000 in
theorem memory_lit (w : World) : Calls Try.prog 95 #[(.int .u8 (40 : Int))] w fun e w' => e = .returned (.agg #[(.string ⟨#[105, 51, 50, 46, 108, 111, 97, 100]⟩), (.int .i64 (8 : Int)), (.string ⟨#[127]⟩), (.string ⟨#[127]⟩), (.bool false)]) ∧ Below w.heap.size w w' := by
  refine sx_enter (L := [(0, (.int .u8 (40 : Int)))]) Try.func95 rfl rfl rfl rfl (fun fa hf => ?_)
  have hb : Below w.heap.size w w := Below.refl _ _
  refine wp_seq_k (fun K1 hK1 => ?_)
  refine wp_region_lit ?_
  refine sqdt hf (d_alloc (z := (.agg #[(.string ⟨#[]⟩), (.int .i64 (0 : Int)), (.string ⟨#[]⟩), (.string ⟨#[]⟩), (.bool false)])) (cs := #[(.string ⟨#[]⟩), (.int .i64 (0 : Int)), (.string ⟨#[]⟩), (.string ⟨#[]⟩), (.bool false)]) (by kernel_rfl) rfl) rfl rfl rfl ?_; clear hf fa; rintro fa _ w1 ⟨b1, rfl, hle1, hk1, he1⟩ hf
  have hBb1 : w.heap.size ≤ b1 := Nat.le_trans hb.size hle1
  replace hb := hb.trans (Below.mono he1 hb.size)
  apply wpList_nil
  (try simp only [Exit.then, Exit.inBlock, ↓reduceIte, Nat.reduceEqDiff])
  refine hK1 _ _ ?_
  refine wp_seq_k (fun K2 hK2 => ?_)
  refine wp_region_lit ?_
  refine sqv hf (r_build (vs := [(0, (.string ⟨#[105, 51, 50, 46, 108, 111, 97, 100]⟩)), (1, (.string ⟨#[105, 54, 52, 46, 108, 111, 97, 100]⟩)), (2, (.string ⟨#[]⟩)), (3, (.string ⟨#[]⟩)), (4, (.string ⟨#[105, 51, 50, 46, 108, 111, 97, 100, 56, 95, 115]⟩)), (5, (.string ⟨#[105, 51, 50, 46, 108, 111, 97, 100, 56, 95, 117]⟩)), (6, (.string ⟨#[105, 51, 50, 46, 108, 111, 97, 100, 49, 54, 95, 115]⟩)), (7, (.string ⟨#[105, 51, 50, 46, 108, 111, 97, 100, 49, 54, 95, 117]⟩)), (8, (.string ⟨#[105, 54, 52, 46, 108, 111, 97, 100, 56, 95, 115]⟩)), (9, (.string ⟨#[105, 54, 52, 46, 108, 111, 97, 100, 56, 95, 117]⟩)), (10, (.string ⟨#[105, 54, 52, 46, 108, 111, 97, 100, 49, 54, 95, 115]⟩)), (11, (.string ⟨#[105, 54, 52, 46, 108, 111, 97, 100, 49, 54, 95, 117]⟩)), (12, (.string ⟨#[105, 54, 52, 46, 108, 111, 97, 100, 51, 50, 95, 115]⟩)), (13, (.string ⟨#[105, 54, 52, 46, 108, 111, 97, 100, 51, 50, 95, 117]⟩)), (14, (.string ⟨#[105, 51, 50, 46, 115, 116, 111, 114, 101]⟩)), (15, (.string ⟨#[105, 54, 52, 46, 115, 116, 111, 114, 101]⟩)), (16, (.string ⟨#[]⟩)), (17, (.string ⟨#[]⟩)), (18, (.string ⟨#[105, 51, 50, 46, 115, 116, 111, 114, 101, 56]⟩)), (19, (.string ⟨#[105, 51, 50, 46, 115, 116, 111, 114, 101, 49, 54]⟩)), (20, (.string ⟨#[105, 54, 52, 46, 115, 116, 111, 114, 101, 56]⟩)), (21, (.string ⟨#[105, 54, 52, 46, 115, 116, 111, 114, 101, 49, 54]⟩)), (22, (.string ⟨#[105, 54, 52, 46, 115, 116, 111, 114, 101, 51, 50]⟩))]) (cs := #[(.string ⟨#[105, 51, 50, 46, 108, 111, 97, 100]⟩), (.string ⟨#[105, 54, 52, 46, 108, 111, 97, 100]⟩), (.string ⟨#[]⟩), (.string ⟨#[]⟩), (.string ⟨#[105, 51, 50, 46, 108, 111, 97, 100, 56, 95, 115]⟩), (.string ⟨#[105, 51, 50, 46, 108, 111, 97, 100, 56, 95, 117]⟩), (.string ⟨#[105, 51, 50, 46, 108, 111, 97, 100, 49, 54, 95, 115]⟩), (.string ⟨#[105, 51, 50, 46, 108, 111, 97, 100, 49, 54, 95, 117]⟩), (.string ⟨#[105, 54, 52, 46, 108, 111, 97, 100, 56, 95, 115]⟩), (.string ⟨#[105, 54, 52, 46, 108, 111, 97, 100, 56, 95, 117]⟩), (.string ⟨#[105, 54, 52, 46, 108, 111, 97, 100, 49, 54, 95, 115]⟩), (.string ⟨#[105, 54, 52, 46, 108, 111, 97, 100, 49, 54, 95, 117]⟩), (.string ⟨#[105, 54, 52, 46, 108, 111, 97, 100, 51, 50, 95, 115]⟩), (.string ⟨#[105, 54, 52, 46, 108, 111, 97, 100, 51, 50, 95, 117]⟩), (.string ⟨#[105, 51, 50, 46, 115, 116, 111, 114, 101]⟩), (.string ⟨#[105, 54, 52, 46, 115, 116, 111, 114, 101]⟩), (.string ⟨#[]⟩), (.string ⟨#[]⟩), (.string ⟨#[105, 51, 50, 46, 115, 116, 111, 114, 101, 56]⟩), (.string ⟨#[105, 51, 50, 46, 115, 116, 111, 114, 101, 49, 54]⟩), (.string ⟨#[105, 54, 52, 46, 115, 116, 111, 114, 101, 56]⟩), (.string ⟨#[105, 54, 52, 46, 115, 116, 111, 114, 101, 49, 54]⟩), (.string ⟨#[105, 54, 52, 46, 115, 116, 111, 114, 101, 51, 50]⟩)]) rfl (fun _ => by kernel_rfl)) rfl rfl rfl ?_; clear hf fa; intro fa hf
  refine sqdt hf (d_alloc (z := (.agg #[(.string ⟨#[]⟩), (.string ⟨#[]⟩), (.string ⟨#[]⟩), (.string ⟨#[]⟩), (.string ⟨#[]⟩), (.string ⟨#[]⟩), (.string ⟨#[]⟩), (.string ⟨#[]⟩), (.string ⟨#[]⟩), (.string ⟨#[]⟩), (.string ⟨#[]⟩), (.string ⟨#[]⟩), (.string ⟨#[]⟩), (.string ⟨#[]⟩), (.string ⟨#[]⟩), (.string ⟨#[]⟩), (.string ⟨#[]⟩), (.string ⟨#[]⟩), (.string ⟨#[]⟩), (.string ⟨#[]⟩), (.string ⟨#[]⟩), (.string ⟨#[]⟩), (.string ⟨#[]⟩)])) (cs := #[(.string ⟨#[]⟩), (.string ⟨#[]⟩), (.string ⟨#[]⟩), (.string ⟨#[]⟩), (.string ⟨#[]⟩), (.string ⟨#[]⟩), (.string ⟨#[]⟩), (.string ⟨#[]⟩), (.string ⟨#[]⟩), (.string ⟨#[]⟩), (.string ⟨#[]⟩), (.string ⟨#[]⟩), (.string ⟨#[]⟩), (.string ⟨#[]⟩), (.string ⟨#[]⟩), (.string ⟨#[]⟩), (.string ⟨#[]⟩), (.string ⟨#[]⟩), (.string ⟨#[]⟩), (.string ⟨#[]⟩), (.string ⟨#[]⟩), (.string ⟨#[]⟩), (.string ⟨#[]⟩)]) (by kernel_rfl) rfl) rfl rfl rfl ?_; clear hf fa; rintro fa _ w2 ⟨b2, rfl, hle2, hk2, he2⟩ hf
  have hBb2 : w.heap.size ≤ b2 := Nat.le_trans hb.size hle2
  have : b1 < b2 := Nat.lt_of_lt_of_le (blk_lt hk1) hle2
  replace hk1 := blk_ext hk1 he2
  replace hb := hb.trans (Below.mono he2 hb.size)
  refine sqn hf (d_storeK (T := 155) (v := (.agg #[(.string ⟨#[105, 51, 50, 46, 108, 111, 97, 100]⟩), (.string ⟨#[105, 54, 52, 46, 108, 111, 97, 100]⟩), (.string ⟨#[]⟩), (.string ⟨#[]⟩), (.string ⟨#[105, 51, 50, 46, 108, 111, 97, 100, 56, 95, 115]⟩), (.string ⟨#[105, 51, 50, 46, 108, 111, 97, 100, 56, 95, 117]⟩), (.string ⟨#[105, 51, 50, 46, 108, 111, 97, 100, 49, 54, 95, 115]⟩), (.string ⟨#[105, 51, 50, 46, 108, 111, 97, 100, 49, 54, 95, 117]⟩), (.string ⟨#[105, 54, 52, 46, 108, 111, 97, 100, 56, 95, 115]⟩), (.string ⟨#[105, 54, 52, 46, 108, 111, 97, 100, 56, 95, 117]⟩), (.string ⟨#[105, 54, 52, 46, 108, 111, 97, 100, 49, 54, 95, 115]⟩), (.string ⟨#[105, 54, 52, 46, 108, 111, 97, 100, 49, 54, 95, 117]⟩), (.string ⟨#[105, 54, 52, 46, 108, 111, 97, 100, 51, 50, 95, 115]⟩), (.string ⟨#[105, 54, 52, 46, 108, 111, 97, 100, 51, 50, 95, 117]⟩), (.string ⟨#[105, 51, 50, 46, 115, 116, 111, 114, 101]⟩), (.string ⟨#[105, 54, 52, 46, 115, 116, 111, 114, 101]⟩), (.string ⟨#[]⟩), (.string ⟨#[]⟩), (.string ⟨#[105, 51, 50, 46, 115, 116, 111, 114, 101, 56]⟩), (.string ⟨#[105, 51, 50, 46, 115, 116, 111, 114, 101, 49, 54]⟩), (.string ⟨#[105, 54, 52, 46, 115, 116, 111, 114, 101, 56]⟩), (.string ⟨#[105, 54, 52, 46, 115, 116, 111, 114, 101, 49, 54]⟩), (.string ⟨#[105, 54, 52, 46, 115, 116, 111, 114, 101, 51, 50]⟩)])) (cs := #[(.string ⟨#[]⟩), (.string ⟨#[]⟩), (.string ⟨#[]⟩), (.string ⟨#[]⟩), (.string ⟨#[]⟩), (.string ⟨#[]⟩), (.string ⟨#[]⟩), (.string ⟨#[]⟩), (.string ⟨#[]⟩), (.string ⟨#[]⟩), (.string ⟨#[]⟩), (.string ⟨#[]⟩), (.string ⟨#[]⟩), (.string ⟨#[]⟩), (.string ⟨#[]⟩), (.string ⟨#[]⟩), (.string ⟨#[]⟩), (.string ⟨#[]⟩), (.string ⟨#[]⟩), (.string ⟨#[]⟩), (.string ⟨#[]⟩), (.string ⟨#[]⟩), (.string ⟨#[]⟩)]) (cs' := #[(.string ⟨#[105, 51, 50, 46, 108, 111, 97, 100]⟩), (.string ⟨#[105, 54, 52, 46, 108, 111, 97, 100]⟩), (.string ⟨#[]⟩), (.string ⟨#[]⟩), (.string ⟨#[105, 51, 50, 46, 108, 111, 97, 100, 56, 95, 115]⟩), (.string ⟨#[105, 51, 50, 46, 108, 111, 97, 100, 56, 95, 117]⟩), (.string ⟨#[105, 51, 50, 46, 108, 111, 97, 100, 49, 54, 95, 115]⟩), (.string ⟨#[105, 51, 50, 46, 108, 111, 97, 100, 49, 54, 95, 117]⟩), (.string ⟨#[105, 54, 52, 46, 108, 111, 97, 100, 56, 95, 115]⟩), (.string ⟨#[105, 54, 52, 46, 108, 111, 97, 100, 56, 95, 117]⟩), (.string ⟨#[105, 54, 52, 46, 108, 111, 97, 100, 49, 54, 95, 115]⟩), (.string ⟨#[105, 54, 52, 46, 108, 111, 97, 100, 49, 54, 95, 117]⟩), (.string ⟨#[105, 54, 52, 46, 108, 111, 97, 100, 51, 50, 95, 115]⟩), (.string ⟨#[105, 54, 52, 46, 108, 111, 97, 100, 51, 50, 95, 117]⟩), (.string ⟨#[105, 51, 50, 46, 115, 116, 111, 114, 101]⟩), (.string ⟨#[105, 54, 52, 46, 115, 116, 111, 114, 101]⟩), (.string ⟨#[]⟩), (.string ⟨#[]⟩), (.string ⟨#[105, 51, 50, 46, 115, 116, 111, 114, 101, 56]⟩), (.string ⟨#[105, 51, 50, 46, 115, 116, 111, 114, 101, 49, 54]⟩), (.string ⟨#[105, 54, 52, 46, 115, 116, 111, 114, 101, 56]⟩), (.string ⟨#[105, 54, 52, 46, 115, 116, 111, 114, 101, 49, 54]⟩), (.string ⟨#[105, 54, 52, 46, 115, 116, 111, 114, 101, 51, 50]⟩)]) rfl rfl (by kernel_rfl) (by kernel_rfl) hk2 (by kernel_rfl) (by kernel_rfl)) rfl rfl ?_; clear hf fa; rintro fa _ w3 ⟨hk3, hg1⟩ hf
  replace hk1 := blk_grown hk1 hg1 (by omega)
  replace hb := hb.trans (grown_below hg1 hb.size hBb2)
  apply wpList_nil
  (try simp only [Exit.then, Exit.inBlock, ↓reduceIte, Nat.reduceEqDiff])
  refine hK2 _ _ ?_
  refine wp_seq_k (fun K3 hK3 => ?_)
  refine wp_block ?_
  refine wp_seq_k (fun K4 hK4 => ?_)
  refine wp_region_lit ?_
  refine sqv hf (r_move rfl) rfl rfl rfl ?_; clear hf fa; intro fa hf
  refine sqv hf (Runs.veq (r_eq rfl rfl) (congrArg Value.bool (show _ = false from by decide))) rfl rfl rfl ?_; clear hf fa; intro fa hf
  refine sqv hf (r_assign rfl) rfl rfl rfl ?_; clear hf fa; intro fa hf
  apply wpList_nil
  (try simp only [Exit.then, Exit.inBlock, ↓reduceIte, Nat.reduceEqDiff])
  refine hK4 _ _ ?_
  refine wp_cond_false (hf.ev rfl) ?_
  refine wp_seq_k (fun K5 hK5 => ?_)
  refine wp_region_lit ?_
  refine sqv hf (r_move rfl) rfl rfl rfl ?_; clear hf fa; intro fa hf
  refine sqv hf (Runs.veq (r_eq rfl rfl) (congrArg Value.bool (show _ = false from by decide))) rfl rfl rfl ?_; clear hf fa; intro fa hf
  refine sqv hf (r_assign rfl) rfl rfl rfl ?_; clear hf fa; intro fa hf
  apply wpList_nil
  (try simp only [Exit.then, Exit.inBlock, ↓reduceIte, Nat.reduceEqDiff])
  refine hK5 _ _ ?_
  refine wp_cond_false (hf.ev rfl) ?_
  refine wp_seq_k (fun K6 hK6 => ?_)
  refine wp_region_lit ?_
  refine sqv hf (r_move rfl) rfl rfl rfl ?_; clear hf fa; intro fa hf
  refine sqv hf (Runs.veq (r_lt rfl rfl) (congrArg Value.bool (show _ = false from by decide))) rfl rfl rfl ?_; clear hf fa; intro fa hf
  refine sqv hf (r_move rfl) rfl rfl rfl ?_; clear hf fa; intro fa hf
  refine sqgd (act := true) (g := 2) (want := false) (ag := true) (c := false) hf (by rfl) (by rfl) rfl (fun _ =>  Runs.does (R := fun vq wq => vq = (.int .u8 (40 : Int)) ∧ w3 = wq) (r_move rfl) ⟨rfl, rfl⟩) (fun h => by cases h) rfl ?_; clear hf fa; rintro fa _ _ ⟨rfl, rfl⟩ hf
  change Fr _ _ ((19, (.int .u8 (40 : Int))) :: _) at hf
  refine sqgd (act := true) (g := 2) (want := false) (ag := true) (c := false) hf (by rfl) (by rfl) rfl (fun _ =>  Runs.does (R := fun vq wq => vq = (.bool false) ∧ w3 = wq) (Runs.veq (r_gt rfl rfl) (congrArg Value.bool (show _ = false from by decide))) ⟨rfl, rfl⟩) (fun h => by cases h) rfl ?_; clear hf fa; rintro fa _ _ ⟨rfl, rfl⟩ hf
  change Fr _ _ ((20, (.bool false)) :: _) at hf
  refine sqv hf (r_pick (b := false) rfl rfl rfl rfl) rfl rfl rfl ?_; clear hf fa; intro fa hf
  refine sqv hf (r_move rfl) rfl rfl rfl ?_; clear hf fa; intro fa hf
  refine sqgd (act := true) (g := 6) (want := false) (ag := true) (c := false) hf (by rfl) (by rfl) rfl (fun _ =>  Runs.does (R := fun vq wq => vq = (.int .u8 (40 : Int)) ∧ w3 = wq) (r_move rfl) ⟨rfl, rfl⟩) (fun h => by cases h) rfl ?_; clear hf fa; rintro fa _ _ ⟨rfl, rfl⟩ hf
  change Fr _ _ ((23, (.int .u8 (40 : Int))) :: _) at hf
  refine sqgd (act := true) (g := 6) (want := false) (ag := true) (c := false) hf (by rfl) (by rfl) rfl (fun _ =>  Runs.does (R := fun vq wq => vq = (.int .u8 (0 : Int)) ∧ w3 = wq) (r_sub (C := (0 : Int)) rfl rfl (by rw [IntKind.wrap_u8]; omega)) ⟨rfl, rfl⟩) (fun h => by cases h) rfl ?_; clear hf fa; rintro fa _ _ ⟨rfl, rfl⟩ hf
  change Fr _ _ ((24, (.int .u8 (0 : Int))) :: _) at hf
  refine sqgd (act := true) (g := 6) (want := false) (ag := true) (c := false) hf (by rfl) (by rfl) rfl (fun _ =>  Runs.does (R := fun vq wq => vq = (.pointer (some ⟨b2, 0, none⟩)) ∧ w3 = wq) (r_ixp (sz := 1) (j := 0) (nn := 23) (q := 0) rfl rfl Try.underlying155 (by kernel_rfl) rfl (by decide) rfl) ⟨rfl, rfl⟩) (fun h => by cases h) rfl ?_; clear hf fa; rintro fa _ _ ⟨rfl, rfl⟩ hf
  change Fr _ _ ((25, (.pointer (some ⟨b2, 0, none⟩))) :: _) at hf
  refine sqgd (act := true) (g := 6) (want := false) (ag := true) (c := false) hf (by rfl) (by rfl) rfl (fun _ =>  Runs.does (R := fun vq wq => vq = (.string ⟨#[105, 51, 50, 46, 108, 111, 97, 100]⟩) ∧ w3 = wq) (r_load (v := (.string ⟨#[105, 51, 50, 46, 108, 111, 97, 100]⟩)) rfl Try.underlying9 rfl (cell_blk hk3 rfl)) ⟨rfl, rfl⟩) (fun h => by cases h) rfl ?_; clear hf fa; rintro fa _ _ ⟨rfl, rfl⟩ hf
  change Fr _ _ ((26, (.string ⟨#[105, 51, 50, 46, 108, 111, 97, 100]⟩)) :: _) at hf
  refine sqgd (act := true) (g := 6) (want := false) (ag := true) (c := false) hf (by rfl) (by rfl) rfl (fun _ =>  Runs.does (R := fun vq wq => vq = (.bool false) ∧ w3 = wq) (Runs.veq (r_seq rfl rfl) (congrArg Value.bool (show _ = false from (by decide)))) ⟨rfl, rfl⟩) (fun h => by cases h) rfl ?_; clear hf fa; rintro fa _ _ ⟨rfl, rfl⟩ hf
  change Fr _ _ ((27, (.bool false)) :: _) at hf
  refine sqv hf (r_pick (b := false) rfl rfl rfl rfl) rfl rfl rfl ?_; clear hf fa; intro fa hf
  refine sqv hf (r_assign rfl) rfl rfl rfl ?_; clear hf fa; intro fa hf
  apply wpList_nil
  (try simp only [Exit.then, Exit.inBlock, ↓reduceIte, Nat.reduceEqDiff])
  refine hK6 _ _ ?_
  refine wp_cond_false (hf.ev rfl) ?_
  refine wp_skip ?_
  (try simp only [Exit.then, Exit.inBlock, ↓reduceIte, Nat.reduceEqDiff])
  refine hK3 _ _ ?_
  refine wp_seq_k (fun K7 hK7 => ?_)
  refine wp_region_lit ?_
  refine sqv hf (r_move rfl) rfl rfl rfl ?_; clear hf fa; intro fa hf
  refine sqv hf (r_sub (C := (0 : Int)) rfl rfl (by rw [IntKind.wrap_u8]; omega)) rfl rfl rfl ?_; clear hf fa; intro fa hf
  refine sqv hf (r_ixp (sz := 1) (j := 0) (nn := 23) (q := 0) rfl rfl Try.underlying155 (by kernel_rfl) rfl (by decide) rfl) rfl rfl rfl ?_; clear hf fa; intro fa hf
  refine sqv hf (r_load (v := (.string ⟨#[105, 51, 50, 46, 108, 111, 97, 100]⟩)) rfl Try.underlying9 rfl (cell_blk hk3 rfl)) rfl rfl rfl ?_; clear hf fa; intro fa hf
  refine sqv hf (r_build (vs := [(0, (.string ⟨#[105, 51, 50, 46, 108, 111, 97, 100]⟩)), (1, (.int .i64 (8 : Int))), (2, (.string ⟨#[127]⟩))]) (cs := #[(.string ⟨#[105, 51, 50, 46, 108, 111, 97, 100]⟩), (.int .i64 (8 : Int)), (.string ⟨#[127]⟩), (.string ⟨#[]⟩), (.bool false)]) rfl (fun _ => by kernel_rfl)) rfl rfl rfl ?_; clear hf fa; intro fa hf
  refine sqdt hf (d_alloc (z := (.agg #[(.string ⟨#[]⟩), (.int .i64 (0 : Int)), (.string ⟨#[]⟩), (.string ⟨#[]⟩), (.bool false)])) (cs := #[(.string ⟨#[]⟩), (.int .i64 (0 : Int)), (.string ⟨#[]⟩), (.string ⟨#[]⟩), (.bool false)]) (by kernel_rfl) rfl) rfl rfl rfl ?_; clear hf fa; rintro fa _ w4 ⟨b3, rfl, hle3, hk4, he3⟩ hf
  have hBb3 : w.heap.size ≤ b3 := Nat.le_trans hb.size hle3
  have : b1 < b3 := Nat.lt_of_lt_of_le (blk_lt hk1) hle3
  have : b2 < b3 := Nat.lt_of_lt_of_le (blk_lt hk3) hle3
  replace hk1 := blk_ext hk1 he3
  replace hk3 := blk_ext hk3 he3
  replace hb := hb.trans (Below.mono he3 hb.size)
  refine sqn hf (d_storeK (T := 134) (v := (.agg #[(.string ⟨#[105, 51, 50, 46, 108, 111, 97, 100]⟩), (.int .i64 (8 : Int)), (.string ⟨#[127]⟩), (.string ⟨#[]⟩), (.bool false)])) (cs := #[(.string ⟨#[]⟩), (.int .i64 (0 : Int)), (.string ⟨#[]⟩), (.string ⟨#[]⟩), (.bool false)]) (cs' := #[(.string ⟨#[105, 51, 50, 46, 108, 111, 97, 100]⟩), (.int .i64 (8 : Int)), (.string ⟨#[127]⟩), (.string ⟨#[]⟩), (.bool false)]) rfl rfl (by kernel_rfl) (by kernel_rfl) hk4 (by kernel_rfl) (by kernel_rfl)) rfl rfl ?_; clear hf fa; rintro fa _ w5 ⟨hk5, hg2⟩ hf
  replace hk1 := blk_grown hk1 hg2 (by omega)
  replace hk3 := blk_grown hk3 hg2 (by omega)
  replace hb := hb.trans (grown_below hg2 hb.size hBb3)
  apply wpList_nil
  (try simp only [Exit.then, Exit.inBlock, ↓reduceIte, Nat.reduceEqDiff])
  refine hK7 _ _ ?_
  refine wp_seq_k (fun K8 hK8 => ?_)
  refine wp_region_lit ?_
  refine sqv hf (r_assign rfl) rfl rfl rfl ?_; clear hf fa; intro fa hf
  apply wpList_nil
  (try simp only [Exit.then, Exit.inBlock, ↓reduceIte, Nat.reduceEqDiff])
  refine hK8 _ _ ?_
  refine wp_seq_k (fun K9 hK9 => ?_)
  refine wp_seq_k (fun K10 hK10 => ?_)
  refine wp_region_lit ?_
  refine sqv hf (r_fa rfl Try.underlying134 (f := 0) (q := 0) rfl (by kernel_rfl) rfl) rfl rfl rfl ?_; clear hf fa; intro fa hf
  refine sqv hf (r_load (v := (.string ⟨#[105, 51, 50, 46, 108, 111, 97, 100]⟩)) rfl Try.underlying9 rfl (cell_blk hk5 rfl)) rfl rfl rfl ?_; clear hf fa; intro fa hf
  refine sqv hf (r_sindexD (j := 1) rfl rfl Try.underlying9 rfl (by have : ((⟨#[105, 51, 50, 46, 108, 111, 97, 100]⟩) : ByteArray).size = 8 := rfl; omega)) rfl rfl rfl ?_; clear hf fa; intro fa hf
  refine sqv hf (Runs.veq (r_eq rfl rfl) (congrArg Value.bool (show _ = true from (by decide)))) rfl rfl rfl ?_; clear hf fa; intro fa hf
  apply wpList_nil
  (try simp only [Exit.then, Exit.inBlock, ↓reduceIte, Nat.reduceEqDiff])
  refine hK10 _ _ ?_
  refine wp_cond_true (hf.ev rfl) ?_
  refine wp_region_lit ?_
  refine sqv hf (r_assign rfl) rfl rfl rfl ?_; clear hf fa; intro fa hf
  apply wpList_nil
  (try simp only [Exit.then, Exit.inBlock, ↓reduceIte, Nat.reduceEqDiff])
  refine hK9 _ _ ?_
  refine wp_seq_k (fun K11 hK11 => ?_)
  refine wp_seq_k (fun K12 hK12 => ?_)
  refine wp_region_lit ?_
  refine sqv hf (r_move rfl) rfl rfl rfl ?_; clear hf fa; intro fa hf
  refine sqv hf (Runs.veq (r_lt rfl rfl) (congrArg Value.bool (show _ = true from by decide))) rfl rfl rfl ?_; clear hf fa; intro fa hf
  apply wpList_nil
  (try simp only [Exit.then, Exit.inBlock, ↓reduceIte, Nat.reduceEqDiff])
  refine hK12 _ _ ?_
  refine wp_cond_true (hf.ev rfl) ?_
  refine wp_region_lit ?_
  refine sqv hf (r_move rfl) rfl rfl rfl ?_; clear hf fa; intro fa hf
  refine sqv hf (r_fa rfl Try.underlying134 (f := 3) (q := 3) rfl (by kernel_rfl) rfl) rfl rfl rfl ?_; clear hf fa; intro fa hf
  refine sqn hf (d_storeK (T := 134) (v := (.string ⟨#[127]⟩)) (cs := #[(.string ⟨#[105, 51, 50, 46, 108, 111, 97, 100]⟩), (.int .i64 (8 : Int)), (.string ⟨#[127]⟩), (.string ⟨#[]⟩), (.bool false)]) (cs' := #[(.string ⟨#[105, 51, 50, 46, 108, 111, 97, 100]⟩), (.int .i64 (8 : Int)), (.string ⟨#[127]⟩), (.string ⟨#[127]⟩), (.bool false)]) rfl rfl (by kernel_rfl) (by kernel_rfl) hk5 (by kernel_rfl) (by kernel_rfl)) rfl rfl ?_; clear hf fa; rintro fa _ w6 ⟨hk6, hg3⟩ hf
  replace hk1 := blk_grown hk1 hg3 (by omega)
  replace hk3 := blk_grown hk3 hg3 (by omega)
  replace hb := hb.trans (grown_below hg3 hb.size hBb3)
  apply wpList_nil
  (try simp only [Exit.then, Exit.inBlock, ↓reduceIte, Nat.reduceEqDiff])
  refine hK11 _ _ ?_
  refine wp_seq_k (fun K13 hK13 => ?_)
  refine wp_region_lit ?_
  refine sqv hf (r_loadA (cs := [(.string ⟨#[105, 51, 50, 46, 108, 111, 97, 100]⟩), (.int .i64 (8 : Int)), (.string ⟨#[127]⟩), (.string ⟨#[127]⟩), (.bool false)]) rfl Try.underlying134 rfl (by kernel_rfl) (cellsAt_blk hk6)) rfl rfl rfl ?_; clear hf fa; intro fa hf
  refine sqn hf (d_storeK (T := 134) (v := (.agg #[(.string ⟨#[105, 51, 50, 46, 108, 111, 97, 100]⟩), (.int .i64 (8 : Int)), (.string ⟨#[127]⟩), (.string ⟨#[127]⟩), (.bool false)])) (cs := #[(.string ⟨#[]⟩), (.int .i64 (0 : Int)), (.string ⟨#[]⟩), (.string ⟨#[]⟩), (.bool false)]) (cs' := #[(.string ⟨#[105, 51, 50, 46, 108, 111, 97, 100]⟩), (.int .i64 (8 : Int)), (.string ⟨#[127]⟩), (.string ⟨#[127]⟩), (.bool false)]) rfl rfl (by kernel_rfl) (by kernel_rfl) hk1 (by kernel_rfl) (by kernel_rfl)) rfl rfl ?_; clear hf fa; rintro fa _ w7 ⟨hk7, hg4⟩ hf
  replace hk3 := blk_grown hk3 hg4 (by omega)
  replace hk6 := blk_grown hk6 hg4 (by omega)
  replace hb := hb.trans (grown_below hg4 hb.size hBb1)
  apply wpList_nil
  (try simp only [Exit.then, Exit.inBlock, ↓reduceIte, Nat.reduceEqDiff])
  refine hK13 _ _ ?_
  refine wp_ret ?_
  (try simp only [Exit.then, Exit.inBlock])
  refine retC hf rfl rfl hk7 Try.underlying134 rfl (by kernel_rfl) ?_
  exact ⟨rfl, hb⟩

set_option maxHeartbeats 1000000 in
set_option maxRecDepth 100000 in
theorem of_lit (w : World) : Calls Try.prog 73 #[(.int .u8 (40 : Int))] w fun e w' => e = .returned (.agg #[(.string ⟨#[105, 51, 50, 46, 108, 111, 97, 100]⟩), (.int .i64 (8 : Int)), (.string ⟨#[127]⟩), (.string ⟨#[127]⟩), (.bool false)]) ∧ Below w.heap.size w w' := by
  refine sx_enter (L := [(0, (.int .u8 (40 : Int)))]) Try.func73 rfl rfl rfl rfl (fun fa hf => ?_)
  have hb : Below w.heap.size w w := Below.refl _ _
  refine wp_seq_k (fun K1 hK1 => ?_)
  refine wp_region_lit ?_
  refine sqdt hf (d_alloc (z := (.agg #[(.string ⟨#[]⟩), (.int .i64 (0 : Int)), (.string ⟨#[]⟩), (.string ⟨#[]⟩), (.bool false)])) (cs := #[(.string ⟨#[]⟩), (.int .i64 (0 : Int)), (.string ⟨#[]⟩), (.string ⟨#[]⟩), (.bool false)]) (by kernel_rfl) rfl) rfl rfl rfl ?_; clear hf fa; rintro fa _ w1 ⟨b1, rfl, hle1, hk1, he1⟩ hf
  have hBb1 : w.heap.size ≤ b1 := Nat.le_trans hb.size hle1
  replace hb := hb.trans (Below.mono he1 hb.size)
  apply wpList_nil
  (try simp only [Exit.then, Exit.inBlock, ↓reduceIte, Nat.reduceEqDiff])
  refine hK1 _ _ ?_
  refine wp_seq_k (fun K2 hK2 => ?_)
  refine wp_block ?_
  refine wp_seq_k (fun K3 hK3 => ?_)
  refine wp_region_lit ?_
  refine sqv hf (r_move rfl) rfl rfl rfl ?_; clear hf fa; intro fa hf
  refine sqv hf (Runs.veq (r_lt rfl rfl) (congrArg Value.bool (show _ = false from by decide))) rfl rfl rfl ?_; clear hf fa; intro fa hf
  refine sqv hf (r_assign rfl) rfl rfl rfl ?_; clear hf fa; intro fa hf
  apply wpList_nil
  (try simp only [Exit.then, Exit.inBlock, ↓reduceIte, Nat.reduceEqDiff])
  refine hK3 _ _ ?_
  refine wp_cond_false (hf.ev rfl) ?_
  refine wp_seq_k (fun K4 hK4 => ?_)
  refine wp_region_lit ?_
  refine sqv hf (r_move rfl) rfl rfl rfl ?_; clear hf fa; intro fa hf
  refine sqv hf (Runs.veq (r_le rfl rfl) (congrArg Value.bool (show _ = true from by decide))) rfl rfl rfl ?_; clear hf fa; intro fa hf
  refine sqv hf (r_assign rfl) rfl rfl rfl ?_; clear hf fa; intro fa hf
  apply wpList_nil
  (try simp only [Exit.then, Exit.inBlock, ↓reduceIte, Nat.reduceEqDiff])
  refine hK4 _ _ ?_
  refine wp_cond_true (hf.ev rfl) ?_
  refine wp_seq_k (fun K5 hK5 => ?_)
  refine wp_region_lit ?_
  refine sqv hf (r_move rfl) rfl rfl rfl ?_; clear hf fa; intro fa hf
  refine sqdt hf (d_callB (vs := [(.int .u8 (40 : Int))]) rfl Try.func95 (by kernel_rfl) (by kernel_rfl) (memory_lit _)) rfl rfl rfl ?_; clear hf fa; rintro fa _ w2 ⟨rfl, he2⟩ hf
  replace hk1 := blk_ext hk1 he2
  replace hb := hb.trans (Below.mono he2 hb.size)
  refine sqn hf (d_storeK (T := 134) (v := (.agg #[(.string ⟨#[105, 51, 50, 46, 108, 111, 97, 100]⟩), (.int .i64 (8 : Int)), (.string ⟨#[127]⟩), (.string ⟨#[127]⟩), (.bool false)])) (cs := #[(.string ⟨#[]⟩), (.int .i64 (0 : Int)), (.string ⟨#[]⟩), (.string ⟨#[]⟩), (.bool false)]) (cs' := #[(.string ⟨#[105, 51, 50, 46, 108, 111, 97, 100]⟩), (.int .i64 (8 : Int)), (.string ⟨#[127]⟩), (.string ⟨#[127]⟩), (.bool false)]) rfl rfl (by kernel_rfl) (by kernel_rfl) hk1 (by kernel_rfl) (by kernel_rfl)) rfl rfl ?_; clear hf fa; rintro fa _ w3 ⟨hk2, hg1⟩ hf
  replace hb := hb.trans (grown_below hg1 hb.size hBb1)
  apply wpList_nil
  (try simp only [Exit.then, Exit.inBlock, ↓reduceIte, Nat.reduceEqDiff])
  refine hK5 _ _ ?_
  refine wp_ret ?_
  (try simp only [Exit.then, Exit.inBlock])
  refine retC hf rfl rfl hk2 Try.underlying134 rfl (by kernel_rfl) ?_
  exact ⟨rfl, hb⟩

set_option maxHeartbeats 1000000 in
set_option maxRecDepth 100000 in
theorem check_lit (w : World) : Calls Try.prog 90 #[(.int .u8 (40 : Int))] w fun e w' => e = .returned (.int .i64 0) ∧ Below w.heap.size w w' := by
  refine sx_enter (L := [(0, (.int .u8 (40 : Int)))]) Try.func90 rfl rfl rfl rfl (fun fa hf => ?_)
  have hb : Below w.heap.size w w := Below.refl _ _
  refine wp_seq_k (fun K1 hK1 => ?_)
  refine wp_region_lit ?_
  refine sqv hf (r_assign rfl) rfl rfl rfl ?_; clear hf fa; intro fa hf
  apply wpList_nil
  (try simp only [Exit.then, Exit.inBlock, ↓reduceIte, Nat.reduceEqDiff])
  refine hK1 _ _ ?_
  refine wp_seq_k (fun K2 hK2 => ?_)
  refine wp_block ?_
  refine wp_seq_k (fun K3 hK3 => ?_)
  refine wp_region_lit ?_
  refine sqv hf (r_move rfl) rfl rfl rfl ?_; clear hf fa; intro fa hf
  refine sqv hf (Runs.veq (r_eq rfl rfl) (congrArg Value.bool (show _ = false from by decide))) rfl rfl rfl ?_; clear hf fa; intro fa hf
  refine sqv hf (r_move rfl) rfl rfl rfl ?_; clear hf fa; intro fa hf
  refine sqgd (act := true) (g := 2) (want := false) (ag := true) (c := false) hf (by rfl) (by rfl) rfl (fun _ =>  Runs.does (R := fun vq wq => vq = (.int .u8 (40 : Int)) ∧ w = wq) (r_move rfl) ⟨rfl, rfl⟩) (fun h => by cases h) rfl ?_; clear hf fa; rintro fa _ _ ⟨rfl, rfl⟩ hf
  change Fr _ _ ((7, (.int .u8 (40 : Int))) :: _) at hf
  refine sqgd (act := true) (g := 2) (want := false) (ag := true) (c := false) hf (by rfl) (by rfl) rfl (fun _ =>  Runs.does (R := fun vq wq => vq = (.bool false) ∧ w = wq) (Runs.veq (r_eq rfl rfl) (congrArg Value.bool (show _ = false from by decide))) ⟨rfl, rfl⟩) (fun h => by cases h) rfl ?_; clear hf fa; rintro fa _ _ ⟨rfl, rfl⟩ hf
  change Fr _ _ ((8, (.bool false)) :: _) at hf
  refine sqv hf (r_pick (b := false) rfl rfl rfl rfl) rfl rfl rfl ?_; clear hf fa; intro fa hf
  refine sqv hf (r_move rfl) rfl rfl rfl ?_; clear hf fa; intro fa hf
  refine sqgd (act := true) (g := 6) (want := false) (ag := true) (c := false) hf (by rfl) (by rfl) rfl (fun _ =>  Runs.does (R := fun vq wq => vq = (.int .u8 (40 : Int)) ∧ w = wq) (r_move rfl) ⟨rfl, rfl⟩) (fun h => by cases h) rfl ?_; clear hf fa; rintro fa _ _ ⟨rfl, rfl⟩ hf
  change Fr _ _ ((11, (.int .u8 (40 : Int))) :: _) at hf
  refine sqgd (act := true) (g := 6) (want := false) (ag := true) (c := false) hf (by rfl) (by rfl) rfl (fun _ =>  Runs.does (R := fun vq wq => vq = (.bool false) ∧ w = wq) (Runs.veq (r_eq rfl rfl) (congrArg Value.bool (show _ = false from by decide))) ⟨rfl, rfl⟩) (fun h => by cases h) rfl ?_; clear hf fa; rintro fa _ _ ⟨rfl, rfl⟩ hf
  change Fr _ _ ((12, (.bool false)) :: _) at hf
  refine sqv hf (r_pick (b := false) rfl rfl rfl rfl) rfl rfl rfl ?_; clear hf fa; intro fa hf
  refine sqv hf (r_move rfl) rfl rfl rfl ?_; clear hf fa; intro fa hf
  refine sqgd (act := true) (g := 10) (want := false) (ag := true) (c := false) hf (by rfl) (by rfl) rfl (fun _ =>  Runs.does (R := fun vq wq => vq = (.int .u8 (40 : Int)) ∧ w = wq) (r_move rfl) ⟨rfl, rfl⟩) (fun h => by cases h) rfl ?_; clear hf fa; rintro fa _ _ ⟨rfl, rfl⟩ hf
  change Fr _ _ ((15, (.int .u8 (40 : Int))) :: _) at hf
  refine sqgd (act := true) (g := 10) (want := false) (ag := true) (c := false) hf (by rfl) (by rfl) rfl (fun _ =>  Runs.does (R := fun vq wq => vq = (.bool false) ∧ w = wq) (Runs.veq (r_eq rfl rfl) (congrArg Value.bool (show _ = false from by decide))) ⟨rfl, rfl⟩) (fun h => by cases h) rfl ?_; clear hf fa; rintro fa _ _ ⟨rfl, rfl⟩ hf
  change Fr _ _ ((16, (.bool false)) :: _) at hf
  refine sqv hf (r_pick (b := false) rfl rfl rfl rfl) rfl rfl rfl ?_; clear hf fa; intro fa hf
  refine sqv hf (r_move rfl) rfl rfl rfl ?_; clear hf fa; intro fa hf
  refine sqgd (act := true) (g := 14) (want := false) (ag := true) (c := false) hf (by rfl) (by rfl) rfl (fun _ =>  Runs.does (R := fun vq wq => vq = (.int .u8 (40 : Int)) ∧ w = wq) (r_move rfl) ⟨rfl, rfl⟩) (fun h => by cases h) rfl ?_; clear hf fa; rintro fa _ _ ⟨rfl, rfl⟩ hf
  change Fr _ _ ((19, (.int .u8 (40 : Int))) :: _) at hf
  refine sqgd (act := true) (g := 14) (want := false) (ag := true) (c := false) hf (by rfl) (by rfl) rfl (fun _ =>  Runs.does (R := fun vq wq => vq = (.bool false) ∧ w = wq) (Runs.veq (r_eq rfl rfl) (congrArg Value.bool (show _ = false from by decide))) ⟨rfl, rfl⟩) (fun h => by cases h) rfl ?_; clear hf fa; rintro fa _ _ ⟨rfl, rfl⟩ hf
  change Fr _ _ ((20, (.bool false)) :: _) at hf
  refine sqv hf (r_pick (b := false) rfl rfl rfl rfl) rfl rfl rfl ?_; clear hf fa; intro fa hf
  refine sqv hf (r_move rfl) rfl rfl rfl ?_; clear hf fa; intro fa hf
  refine sqgd (act := true) (g := 18) (want := false) (ag := true) (c := false) hf (by rfl) (by rfl) rfl (fun _ =>  Runs.does (R := fun vq wq => vq = (.int .u8 (40 : Int)) ∧ w = wq) (r_move rfl) ⟨rfl, rfl⟩) (fun h => by cases h) rfl ?_; clear hf fa; rintro fa _ _ ⟨rfl, rfl⟩ hf
  change Fr _ _ ((23, (.int .u8 (40 : Int))) :: _) at hf
  refine sqgd (act := true) (g := 18) (want := false) (ag := true) (c := false) hf (by rfl) (by rfl) rfl (fun _ =>  Runs.does (R := fun vq wq => vq = (.bool false) ∧ w = wq) (Runs.veq (r_eq rfl rfl) (congrArg Value.bool (show _ = false from by decide))) ⟨rfl, rfl⟩) (fun h => by cases h) rfl ?_; clear hf fa; rintro fa _ _ ⟨rfl, rfl⟩ hf
  change Fr _ _ ((24, (.bool false)) :: _) at hf
  refine sqv hf (r_pick (b := false) rfl rfl rfl rfl) rfl rfl rfl ?_; clear hf fa; intro fa hf
  refine sqv hf (r_assign rfl) rfl rfl rfl ?_; clear hf fa; intro fa hf
  apply wpList_nil
  (try simp only [Exit.then, Exit.inBlock, ↓reduceIte, Nat.reduceEqDiff])
  refine hK3 _ _ ?_
  refine wp_cond_false (hf.ev rfl) ?_
  refine wp_seq_k (fun K4 hK4 => ?_)
  refine wp_region_lit ?_
  refine sqv hf (r_move rfl) rfl rfl rfl ?_; clear hf fa; intro fa hf
  refine sqv hf (Runs.veq (r_ge rfl rfl) (congrArg Value.bool (show _ = false from by decide))) rfl rfl rfl ?_; clear hf fa; intro fa hf
  refine sqv hf (r_move rfl) rfl rfl rfl ?_; clear hf fa; intro fa hf
  refine sqgT (act := false) (ag := true) (c := false) (v := .bool false) hf rfl rfl rfl (fun hact => by cases hact) rfl rfl ?_; clear hf fa; intro fa hf
  refine sqgT (act := false) (ag := true) (c := false) (v := .bool false) hf rfl rfl rfl (fun hact => by cases hact) rfl rfl ?_; clear hf fa; intro fa hf
  refine sqv hf (r_pick (b := false) rfl rfl rfl rfl) rfl rfl rfl ?_; clear hf fa; intro fa hf
  refine sqv hf (r_move rfl) rfl rfl rfl ?_; clear hf fa; intro fa hf
  refine sqgd (act := true) (g := 6) (want := false) (ag := true) (c := false) hf (by rfl) (by rfl) rfl (fun _ =>  Runs.does (R := fun vq wq => vq = (.int .u8 (40 : Int)) ∧ w = wq) (r_move rfl) ⟨rfl, rfl⟩) (fun h => by cases h) rfl ?_; clear hf fa; rintro fa _ _ ⟨rfl, rfl⟩ hf
  change Fr _ _ ((34, (.int .u8 (40 : Int))) :: _) at hf
  refine sqgd (act := true) (g := 6) (want := false) (ag := true) (c := false) hf (by rfl) (by rfl) rfl (fun _ =>  Runs.does (R := fun vq wq => vq = (.bool false) ∧ w = wq) (Runs.veq (r_ge rfl rfl) (congrArg Value.bool (show _ = false from by decide))) ⟨rfl, rfl⟩) (fun h => by cases h) rfl ?_; clear hf fa; rintro fa _ _ ⟨rfl, rfl⟩ hf
  change Fr _ _ ((35, (.bool false)) :: _) at hf
  refine sqgd (act := true) (g := 6) (want := false) (ag := true) (c := false) hf (by rfl) (by rfl) rfl (fun _ =>  Runs.does (R := fun vq wq => vq = (.bool false) ∧ w = wq) (r_move rfl) ⟨rfl, rfl⟩) (fun h => by cases h) rfl ?_; clear hf fa; rintro fa _ _ ⟨rfl, rfl⟩ hf
  change Fr _ _ ((36, (.bool false)) :: _) at hf
  refine sqgT (act := false) (ag := true) (c := false) (v := .bool false) hf rfl rfl rfl (fun hact => by cases hact) rfl rfl ?_; clear hf fa; intro fa hf
  refine sqgT (act := false) (ag := true) (c := false) (v := .bool false) hf rfl rfl rfl (fun hact => by cases hact) rfl rfl ?_; clear hf fa; intro fa hf
  refine sqgd (act := true) (g := 6) (want := false) (ag := true) (c := false) hf (by rfl) (by rfl) rfl (fun _ =>  Runs.does (R := fun vq wq => vq = (.bool false) ∧ w = wq) (r_pick (b := false) rfl rfl rfl rfl) ⟨rfl, rfl⟩) (fun h => by cases h) rfl ?_; clear hf fa; rintro fa _ _ ⟨rfl, rfl⟩ hf
  change Fr _ _ ((39, (.bool false)) :: _) at hf
  refine sqv hf (r_pick (b := false) rfl rfl rfl rfl) rfl rfl rfl ?_; clear hf fa; intro fa hf
  refine sqv hf (r_move rfl) rfl rfl rfl ?_; clear hf fa; intro fa hf
  refine sqgd (act := true) (g := 14) (want := false) (ag := true) (c := false) hf (by rfl) (by rfl) rfl (fun _ =>  Runs.does (R := fun vq wq => vq = (.int .u8 (40 : Int)) ∧ w = wq) (r_move rfl) ⟨rfl, rfl⟩) (fun h => by cases h) rfl ?_; clear hf fa; rintro fa _ _ ⟨rfl, rfl⟩ hf
  change Fr _ _ ((42, (.int .u8 (40 : Int))) :: _) at hf
  refine sqgd (act := true) (g := 14) (want := false) (ag := true) (c := false) hf (by rfl) (by rfl) rfl (fun _ =>  Runs.does (R := fun vq wq => vq = (.bool false) ∧ w = wq) (Runs.veq (r_ge rfl rfl) (congrArg Value.bool (show _ = false from by decide))) ⟨rfl, rfl⟩) (fun h => by cases h) rfl ?_; clear hf fa; rintro fa _ _ ⟨rfl, rfl⟩ hf
  change Fr _ _ ((43, (.bool false)) :: _) at hf
  refine sqgd (act := true) (g := 14) (want := false) (ag := true) (c := false) hf (by rfl) (by rfl) rfl (fun _ =>  Runs.does (R := fun vq wq => vq = (.bool false) ∧ w = wq) (r_move rfl) ⟨rfl, rfl⟩) (fun h => by cases h) rfl ?_; clear hf fa; rintro fa _ _ ⟨rfl, rfl⟩ hf
  change Fr _ _ ((44, (.bool false)) :: _) at hf
  refine sqgT (act := false) (ag := true) (c := false) (v := .bool false) hf rfl rfl rfl (fun hact => by cases hact) rfl rfl ?_; clear hf fa; intro fa hf
  refine sqgT (act := false) (ag := true) (c := false) (v := .bool false) hf rfl rfl rfl (fun hact => by cases hact) rfl rfl ?_; clear hf fa; intro fa hf
  refine sqgd (act := true) (g := 14) (want := false) (ag := true) (c := false) hf (by rfl) (by rfl) rfl (fun _ =>  Runs.does (R := fun vq wq => vq = (.bool false) ∧ w = wq) (r_pick (b := false) rfl rfl rfl rfl) ⟨rfl, rfl⟩) (fun h => by cases h) rfl ?_; clear hf fa; rintro fa _ _ ⟨rfl, rfl⟩ hf
  change Fr _ _ ((47, (.bool false)) :: _) at hf
  refine sqv hf (r_pick (b := false) rfl rfl rfl rfl) rfl rfl rfl ?_; clear hf fa; intro fa hf
  refine sqv hf (r_move rfl) rfl rfl rfl ?_; clear hf fa; intro fa hf
  refine sqgd (act := true) (g := 22) (want := false) (ag := true) (c := false) hf (by rfl) (by rfl) rfl (fun _ =>  Runs.does (R := fun vq wq => vq = (.int .u8 (40 : Int)) ∧ w = wq) (r_move rfl) ⟨rfl, rfl⟩) (fun h => by cases h) rfl ?_; clear hf fa; rintro fa _ _ ⟨rfl, rfl⟩ hf
  change Fr _ _ ((50, (.int .u8 (40 : Int))) :: _) at hf
  refine sqgd (act := true) (g := 22) (want := false) (ag := true) (c := false) hf (by rfl) (by rfl) rfl (fun _ =>  Runs.does (R := fun vq wq => vq = (.bool false) ∧ w = wq) (Runs.veq (r_ge rfl rfl) (congrArg Value.bool (show _ = false from by decide))) ⟨rfl, rfl⟩) (fun h => by cases h) rfl ?_; clear hf fa; rintro fa _ _ ⟨rfl, rfl⟩ hf
  change Fr _ _ ((51, (.bool false)) :: _) at hf
  refine sqgd (act := true) (g := 22) (want := false) (ag := true) (c := false) hf (by rfl) (by rfl) rfl (fun _ =>  Runs.does (R := fun vq wq => vq = (.bool false) ∧ w = wq) (r_move rfl) ⟨rfl, rfl⟩) (fun h => by cases h) rfl ?_; clear hf fa; rintro fa _ _ ⟨rfl, rfl⟩ hf
  change Fr _ _ ((52, (.bool false)) :: _) at hf
  refine sqgT (act := false) (ag := true) (c := false) (v := .bool false) hf rfl rfl rfl (fun hact => by cases hact) rfl rfl ?_; clear hf fa; intro fa hf
  refine sqgT (act := false) (ag := true) (c := false) (v := .bool false) hf rfl rfl rfl (fun hact => by cases hact) rfl rfl ?_; clear hf fa; intro fa hf
  refine sqgd (act := true) (g := 22) (want := false) (ag := true) (c := false) hf (by rfl) (by rfl) rfl (fun _ =>  Runs.does (R := fun vq wq => vq = (.bool false) ∧ w = wq) (r_pick (b := false) rfl rfl rfl rfl) ⟨rfl, rfl⟩) (fun h => by cases h) rfl ?_; clear hf fa; rintro fa _ _ ⟨rfl, rfl⟩ hf
  change Fr _ _ ((55, (.bool false)) :: _) at hf
  refine sqv hf (r_pick (b := false) rfl rfl rfl rfl) rfl rfl rfl ?_; clear hf fa; intro fa hf
  refine sqv hf (r_assign rfl) rfl rfl rfl ?_; clear hf fa; intro fa hf
  apply wpList_nil
  (try simp only [Exit.then, Exit.inBlock, ↓reduceIte, Nat.reduceEqDiff])
  refine hK4 _ _ ?_
  refine wp_cond_false (hf.ev rfl) ?_
  refine wp_seq_k (fun K5 hK5 => ?_)
  refine wp_region_lit ?_
  refine sqv hf (r_move rfl) rfl rfl rfl ?_; clear hf fa; intro fa hf
  refine sqdt hf (d_callB (vs := [(.int .u8 (40 : Int))]) rfl Try.func73 (by kernel_rfl) (by kernel_rfl) (of_lit _)) rfl rfl rfl ?_; clear hf fa; rintro fa _ w1 ⟨rfl, he1⟩ hf
  replace hb := hb.trans (Below.mono he1 hb.size)
  refine sqv hf (r_field (cs := #[(.string ⟨#[105, 51, 50, 46, 108, 111, 97, 100]⟩), (.int .i64 (8 : Int)), (.string ⟨#[127]⟩), (.string ⟨#[127]⟩), (.bool false)]) (v := (.string ⟨#[105, 51, 50, 46, 108, 111, 97, 100]⟩)) rfl (fun _ => by kernel_rfl)) rfl rfl rfl ?_; clear hf fa; intro fa hf
  refine sqv hf (Runs.veq (r_seq rfl rfl) (congrArg Value.bool (show _ = false from (by decide)))) rfl rfl rfl ?_; clear hf fa; intro fa hf
  refine sqv hf (r_assign rfl) rfl rfl rfl ?_; clear hf fa; intro fa hf
  apply wpList_nil
  (try simp only [Exit.then, Exit.inBlock, ↓reduceIte, Nat.reduceEqDiff])
  refine hK5 _ _ ?_
  refine wp_cond_false (hf.ev rfl) ?_
  refine wp_skip ?_
  (try simp only [Exit.then, Exit.inBlock, ↓reduceIte, Nat.reduceEqDiff])
  refine hK2 _ _ ?_
  refine wp_seq_k (fun K6 hK6 => ?_)
  refine wp_region_lit ?_
  refine sqv hf (r_assign rfl) rfl rfl rfl ?_; clear hf fa; intro fa hf
  apply wpList_nil
  (try simp only [Exit.then, Exit.inBlock, ↓reduceIte, Nat.reduceEqDiff])
  refine hK6 _ _ ?_
  refine wp_ret ?_
  (try simp only [Exit.then, Exit.inBlock])
  refine ret1 hf rfl rfl ?_
  exact ⟨rfl, hb⟩

set_option maxHeartbeats 1000000 in
set_option maxRecDepth 100000 in
theorem unless_lit (w : World) : Calls Try.prog 92 #[(.bool true)] w fun e w' => e = .returned (.int .i64 0) ∧ Below w.heap.size w w' := by
  refine sx_enter (L := [(0, (.bool true))]) Try.func92 rfl rfl rfl rfl (fun fa hf => ?_)
  have hb : Below w.heap.size w w := Below.refl _ _
  refine wp_seq_k (fun K1 hK1 => ?_)
  refine wp_region_lit ?_
  refine sqv hf (r_assign rfl) rfl rfl rfl ?_; clear hf fa; intro fa hf
  apply wpList_nil
  (try simp only [Exit.then, Exit.inBlock, ↓reduceIte, Nat.reduceEqDiff])
  refine hK1 _ _ ?_
  refine wp_seq_k (fun K2 hK2 => ?_)
  refine wp_seq_k (fun K3 hK3 => ?_)
  refine wp_region_lit ?_
  refine sqv hf (r_move rfl) rfl rfl rfl ?_; clear hf fa; intro fa hf
  apply wpList_nil
  (try simp only [Exit.then, Exit.inBlock, ↓reduceIte, Nat.reduceEqDiff])
  refine hK3 _ _ ?_
  refine wp_cond_true (hf.ev rfl) ?_
  refine wp_seq_k (fun K4 hK4 => ?_)
  refine wp_region_lit ?_
  refine sqv hf (r_assign rfl) rfl rfl rfl ?_; clear hf fa; intro fa hf
  apply wpList_nil
  (try simp only [Exit.then, Exit.inBlock, ↓reduceIte, Nat.reduceEqDiff])
  refine hK4 _ _ ?_
  refine wp_ret ?_
  (try simp only [Exit.then, Exit.inBlock])
  refine ret1 hf rfl rfl ?_
  exact ⟨rfl, hb⟩

set_option maxHeartbeats 1000000 in
set_option maxRecDepth 100000 in
theorem iright_lit (w : World) : Calls Try.prog 72 #[(.agg #[(.int .u8 (40 : Int)), (.int .u64 (2 : Int)), (.int .u64 (8 : Int)), (.slice none 0 0)])] w fun e w' => e = .returned (.int .i64 0) ∧ Below w.heap.size w w' := by
  refine sx_enter (L := [(0, (.agg #[(.int .u8 (40 : Int)), (.int .u64 (2 : Int)), (.int .u64 (8 : Int)), (.slice none 0 0)]))]) Try.func72 rfl rfl rfl rfl (fun fa hf => ?_)
  have hb : Below w.heap.size w w := Below.refl _ _
  refine wp_seq_k (fun K1 hK1 => ?_)
  refine wp_region_lit ?_
  refine sqdt hf (d_box (cs := #[(.int .u8 (40 : Int)), (.int .u64 (2 : Int)), (.int .u64 (8 : Int)), (.slice none 0 0)]) rfl rfl) rfl rfl rfl ?_; clear hf fa; rintro fa _ w1 ⟨b1, rfl, hle1, hk1, he1⟩ hf
  have hBb1 : w.heap.size ≤ b1 := Nat.le_trans hb.size hle1
  replace hb := hb.trans (Below.mono he1 hb.size)
  refine sqv hf (r_assign rfl) rfl rfl rfl ?_; clear hf fa; intro fa hf
  apply wpList_nil
  (try simp only [Exit.then, Exit.inBlock, ↓reduceIte, Nat.reduceEqDiff])
  refine hK1 _ _ ?_
  refine wp_seq_k (fun K2 hK2 => ?_)
  refine wp_seq_k (fun K3 hK3 => ?_)
  refine wp_region_lit ?_
  refine sqv hf (r_fa rfl Try.underlying78 (f := 0) (q := 0) rfl (by kernel_rfl) rfl) rfl rfl rfl ?_; clear hf fa; intro fa hf
  refine sqv hf (r_load (v := (.int .u8 (40 : Int))) rfl Try.underlying5 rfl (cell_blk hk1 rfl)) rfl rfl rfl ?_; clear hf fa; intro fa hf
  refine sqdt hf (d_callB (vs := [(.int .u8 (40 : Int))]) rfl Try.func90 (by kernel_rfl) (by kernel_rfl) (check_lit _)) rfl rfl rfl ?_; clear hf fa; rintro fa _ w2 ⟨rfl, he2⟩ hf
  replace hk1 := blk_ext hk1 he2
  replace hb := hb.trans (Below.mono he2 hb.size)
  refine sqv hf (r_assign rfl) rfl rfl rfl ?_; clear hf fa; intro fa hf
  apply wpList_nil
  (try simp only [Exit.then, Exit.inBlock, ↓reduceIte, Nat.reduceEqDiff])
  refine hK3 _ _ ?_
  refine wp_seq_k (fun K4 hK4 => ?_)
  refine wp_region_lit ?_
  refine sqv hf (r_move rfl) rfl rfl rfl ?_; clear hf fa; intro fa hf
  refine sqv hf (Runs.veq (r_ne rfl rfl) (congrArg Value.bool (show _ = false from by decide))) rfl rfl rfl ?_; clear hf fa; intro fa hf
  apply wpList_nil
  (try simp only [Exit.then, Exit.inBlock, ↓reduceIte, Nat.reduceEqDiff])
  refine hK4 _ _ ?_
  refine wp_cond_false (hf.ev rfl) ?_
  refine wp_skip ?_
  (try simp only [Exit.then, Exit.inBlock, ↓reduceIte, Nat.reduceEqDiff])
  refine hK2 _ _ ?_
  refine wp_seq_k (fun K5 hK5 => ?_)
  refine wp_region_lit ?_
  refine sqv hf (r_fa rfl Try.underlying78 (f := 0) (q := 0) rfl (by kernel_rfl) rfl) rfl rfl rfl ?_; clear hf fa; intro fa hf
  refine sqv hf (r_load (v := (.int .u8 (40 : Int))) rfl Try.underlying5 rfl (cell_blk hk1 rfl)) rfl rfl rfl ?_; clear hf fa; intro fa hf
  refine sqdt hf (d_callB (vs := [(.int .u8 (40 : Int))]) rfl Try.func73 (by kernel_rfl) (by kernel_rfl) (of_lit _)) rfl rfl rfl ?_; clear hf fa; rintro fa _ w3 ⟨rfl, he3⟩ hf
  replace hk1 := blk_ext hk1 he3
  replace hb := hb.trans (Below.mono he3 hb.size)
  refine sqv hf (r_field (cs := #[(.string ⟨#[105, 51, 50, 46, 108, 111, 97, 100]⟩), (.int .i64 (8 : Int)), (.string ⟨#[127]⟩), (.string ⟨#[127]⟩), (.bool false)]) (v := (.int .i64 (8 : Int))) rfl (fun _ => by kernel_rfl)) rfl rfl rfl ?_; clear hf fa; intro fa hf
  refine sqv hf (r_assign rfl) rfl rfl rfl ?_; clear hf fa; intro fa hf
  apply wpList_nil
  (try simp only [Exit.then, Exit.inBlock, ↓reduceIte, Nat.reduceEqDiff])
  refine hK5 _ _ ?_
  refine wp_seq_k (fun K6 hK6 => ?_)
  refine wp_seq_k (fun K7 hK7 => ?_)
  refine wp_region_lit ?_
  refine sqv hf (r_fa rfl Try.underlying78 (f := 3) (q := 3) rfl (by kernel_rfl) rfl) rfl rfl rfl ?_; clear hf fa; intro fa hf
  refine sqv hf (r_load (v := (.slice none 0 0)) rfl Try.underlying24 rfl (cell_blk hk1 rfl)) rfl rfl rfl ?_; clear hf fa; intro fa hf
  refine sqv hf (r_lensl rfl Try.underlying24) rfl rfl rfl ?_; clear hf fa; intro fa hf
  refine sqv hf (Runs.veq (r_gt rfl rfl) (congrArg Value.bool (show _ = false from by decide))) rfl rfl rfl ?_; clear hf fa; intro fa hf
  refine sqv hf (r_move rfl) rfl rfl rfl ?_; clear hf fa; intro fa hf
  refine sqgT (act := false) (ag := true) (c := false) (v := .bool false) hf rfl rfl rfl (fun hact => by cases hact) rfl rfl ?_; clear hf fa; intro fa hf
  refine sqgT (act := false) (ag := true) (c := false) (v := .bool false) hf rfl rfl rfl (fun hact => by cases hact) rfl rfl ?_; clear hf fa; intro fa hf
  refine sqv hf (r_pick (b := false) rfl rfl rfl rfl) rfl rfl rfl ?_; clear hf fa; intro fa hf
  refine sqv hf (r_move rfl) rfl rfl rfl ?_; clear hf fa; intro fa hf
  refine sqgd (act := true) (g := 8) (want := false) (ag := true) (c := false) hf (by rfl) (by rfl) rfl (fun _ =>  Runs.does (R := fun vq wq => vq = (.pointer (some ⟨b1, 3, none⟩)) ∧ w3 = wq) (r_fa rfl Try.underlying78 (f := 3) (q := 3) rfl (by kernel_rfl) rfl) ⟨rfl, rfl⟩) (fun h => by cases h) rfl ?_; clear hf fa; rintro fa _ _ ⟨rfl, rfl⟩ hf
  change Fr _ _ ((24, (.pointer (some ⟨b1, 3, none⟩))) :: _) at hf
  refine sqgd (act := true) (g := 8) (want := false) (ag := true) (c := false) hf (by rfl) (by rfl) rfl (fun _ =>  Runs.does (R := fun vq wq => vq = (.slice none 0 0) ∧ w3 = wq) (r_load (v := (.slice none 0 0)) rfl Try.underlying24 rfl (cell_blk hk1 rfl)) ⟨rfl, rfl⟩) (fun h => by cases h) rfl ?_; clear hf fa; rintro fa _ _ ⟨rfl, rfl⟩ hf
  change Fr _ _ ((25, (.slice none 0 0)) :: _) at hf
  refine sqgd (act := true) (g := 8) (want := false) (ag := true) (c := false) hf (by rfl) (by rfl) rfl (fun _ =>  Runs.does (R := fun vq wq => vq = (.int .i64 (0 : Int)) ∧ w3 = wq) (r_lensl rfl Try.underlying24) ⟨rfl, rfl⟩) (fun h => by cases h) rfl ?_; clear hf fa; rintro fa _ _ ⟨rfl, rfl⟩ hf
  change Fr _ _ ((26, (.int .i64 (0 : Int))) :: _) at hf
  refine sqgd (act := true) (g := 8) (want := false) (ag := true) (c := false) hf (by rfl) (by rfl) rfl (fun _ =>  Runs.does (R := fun vq wq => vq = (.bool false) ∧ w3 = wq) (Runs.veq (r_gt rfl rfl) (congrArg Value.bool (show _ = false from by decide))) ⟨rfl, rfl⟩) (fun h => by cases h) rfl ?_; clear hf fa; rintro fa _ _ ⟨rfl, rfl⟩ hf
  change Fr _ _ ((27, (.bool false)) :: _) at hf
  refine sqv hf (r_pick (b := false) rfl rfl rfl rfl) rfl rfl rfl ?_; clear hf fa; intro fa hf
  apply wpList_nil
  (try simp only [Exit.then, Exit.inBlock, ↓reduceIte, Nat.reduceEqDiff])
  refine hK7 _ _ ?_
  refine wp_cond_false (hf.ev rfl) ?_
  refine wp_skip ?_
  (try simp only [Exit.then, Exit.inBlock, ↓reduceIte, Nat.reduceEqDiff])
  refine hK6 _ _ ?_
  refine wp_seq_k (fun K8 hK8 => ?_)
  refine wp_seq_k (fun K9 hK9 => ?_)
  refine wp_region_lit ?_
  refine sqv hf (r_fa rfl Try.underlying78 (f := 2) (q := 2) rfl (by kernel_rfl) rfl) rfl rfl rfl ?_; clear hf fa; intro fa hf
  refine sqv hf (r_load (v := (.int .u64 (8 : Int))) rfl Try.underlying63 rfl (cell_blk hk1 rfl)) rfl rfl rfl ?_; clear hf fa; intro fa hf
  refine sqv hf (Runs.veq (r_ne rfl rfl) (congrArg Value.bool (show _ = true from by decide))) rfl rfl rfl ?_; clear hf fa; intro fa hf
  refine sqv hf (r_move rfl) rfl rfl rfl ?_; clear hf fa; intro fa hf
  refine sqgd (act := true) (g := 3) (want := true) (ag := true) (c := true) hf (by rfl) (by rfl) rfl (fun _ =>  Runs.does (R := fun vq wq => vq = (.int .i64 (8 : Int)) ∧ w3 = wq) (r_move rfl) ⟨rfl, rfl⟩) (fun h => by cases h) rfl ?_; clear hf fa; rintro fa _ _ ⟨rfl, rfl⟩ hf
  change Fr _ _ ((35, (.int .i64 (8 : Int))) :: _) at hf
  refine sqgd (act := true) (g := 3) (want := true) (ag := true) (c := true) hf (by rfl) (by rfl) rfl (fun _ =>  Runs.does (R := fun vq wq => vq = (.bool false) ∧ w3 = wq) (Runs.veq (r_ne rfl rfl) (congrArg Value.bool (show _ = false from by decide))) ⟨rfl, rfl⟩) (fun h => by cases h) rfl ?_; clear hf fa; rintro fa _ _ ⟨rfl, rfl⟩ hf
  change Fr _ _ ((36, (.bool false)) :: _) at hf
  refine sqv hf (r_pick (b := true) rfl rfl rfl rfl) rfl rfl rfl ?_; clear hf fa; intro fa hf
  apply wpList_nil
  (try simp only [Exit.then, Exit.inBlock, ↓reduceIte, Nat.reduceEqDiff])
  refine hK9 _ _ ?_
  refine wp_cond_false (hf.ev rfl) ?_
  refine wp_skip ?_
  (try simp only [Exit.then, Exit.inBlock, ↓reduceIte, Nat.reduceEqDiff])
  refine hK8 _ _ ?_
  refine wp_seq_k (fun K10 hK10 => ?_)
  refine wp_seq_k (fun K11 hK11 => ?_)
  refine wp_region_lit ?_
  refine sqv hf (r_move rfl) rfl rfl rfl ?_; clear hf fa; intro fa hf
  apply wpList_nil
  (try simp only [Exit.then, Exit.inBlock, ↓reduceIte, Nat.reduceEqDiff])
  refine hK11 _ _ ?_
  refine wp_block ?_
  refine wp_seq_k (fun K12 hK12 => ?_)
  refine wp_seq_k (fun K13 hK13 => ?_)
  refine wp_region_lit ?_
  refine sqv hf (Runs.veq (r_eq rfl rfl) (congrArg Value.bool (show _ = false from by decide))) rfl rfl rfl ?_; clear hf fa; intro fa hf
  refine sqv hf (r_assign rfl) rfl rfl rfl ?_; clear hf fa; intro fa hf
  apply wpList_nil
  (try simp only [Exit.then, Exit.inBlock, ↓reduceIte, Nat.reduceEqDiff])
  refine hK13 _ _ ?_
  refine wp_cond_false (hf.ev rfl) ?_
  refine wp_region_lit ?_
  refine sqv hf (Runs.veq (r_eq rfl rfl) (congrArg Value.bool (show _ = false from by decide))) rfl rfl rfl ?_; clear hf fa; intro fa hf
  refine sqv hf (r_assign rfl) rfl rfl rfl ?_; clear hf fa; intro fa hf
  apply wpList_nil
  (try simp only [Exit.then, Exit.inBlock, ↓reduceIte, Nat.reduceEqDiff])
  refine hK12 _ _ ?_
  refine wp_cond_false (hf.ev rfl) ?_
  refine wp_seq_k (fun K14 hK14 => ?_)
  refine wp_region_lit ?_
  refine sqv hf (Runs.veq (r_eq rfl rfl) (congrArg Value.bool (show _ = false from by decide))) rfl rfl rfl ?_; clear hf fa; intro fa hf
  refine sqv hf (r_assign rfl) rfl rfl rfl ?_; clear hf fa; intro fa hf
  apply wpList_nil
  (try simp only [Exit.then, Exit.inBlock, ↓reduceIte, Nat.reduceEqDiff])
  refine hK14 _ _ ?_
  refine wp_cond_false (hf.ev rfl) ?_
  refine wp_seq_k (fun K15 hK15 => ?_)
  refine wp_region_lit ?_
  refine sqv hf (Runs.veq (r_eq rfl rfl) (congrArg Value.bool (show _ = false from by decide))) rfl rfl rfl ?_; clear hf fa; intro fa hf
  refine sqv hf (r_assign rfl) rfl rfl rfl ?_; clear hf fa; intro fa hf
  apply wpList_nil
  (try simp only [Exit.then, Exit.inBlock, ↓reduceIte, Nat.reduceEqDiff])
  refine hK15 _ _ ?_
  refine wp_cond_false (hf.ev rfl) ?_
  refine wp_skip ?_
  (try simp only [Exit.then, Exit.inBlock, ↓reduceIte, Nat.reduceEqDiff])
  refine hK10 _ _ ?_
  refine wp_seq_k (fun K16 hK16 => ?_)
  refine wp_region_lit ?_
  refine sqv hf (r_fa rfl Try.underlying78 (f := 1) (q := 1) rfl (by kernel_rfl) rfl) rfl rfl rfl ?_; clear hf fa; intro fa hf
  refine sqv hf (r_load (v := (.int .u64 (2 : Int))) rfl Try.underlying63 rfl (cell_blk hk1 rfl)) rfl rfl rfl ?_; clear hf fa; intro fa hf
  refine sqv hf (Runs.veq (r_lt rfl rfl) (congrArg Value.bool (show _ = true from by decide))) rfl rfl rfl ?_; clear hf fa; intro fa hf
  refine sqv hf (r_move rfl) rfl rfl rfl ?_; clear hf fa; intro fa hf
  refine sqgd (act := true) (g := 3) (want := true) (ag := true) (c := true) hf (by rfl) (by rfl) rfl (fun _ =>  Runs.does (R := fun vq wq => vq = (.pointer (some ⟨b1, 2, none⟩)) ∧ w3 = wq) (r_fa rfl Try.underlying78 (f := 2) (q := 2) rfl (by kernel_rfl) rfl) ⟨rfl, rfl⟩) (fun h => by cases h) rfl ?_; clear hf fa; rintro fa _ _ ⟨rfl, rfl⟩ hf
  change Fr _ _ ((57, (.pointer (some ⟨b1, 2, none⟩))) :: _) at hf
  refine sqgd (act := true) (g := 3) (want := true) (ag := true) (c := true) hf (by rfl) (by rfl) rfl (fun _ =>  Runs.does (R := fun vq wq => vq = (.int .u64 (8 : Int)) ∧ w3 = wq) (r_load (v := (.int .u64 (8 : Int))) rfl Try.underlying63 rfl (cell_blk hk1 rfl)) ⟨rfl, rfl⟩) (fun h => by cases h) rfl ?_; clear hf fa; rintro fa _ _ ⟨rfl, rfl⟩ hf
  change Fr _ _ ((58, (.int .u64 (8 : Int))) :: _) at hf
  refine sqgd (act := true) (g := 3) (want := true) (ag := true) (c := true) hf (by rfl) (by rfl) rfl (fun _ =>  Runs.does (R := fun vq wq => vq = (.bool true) ∧ w3 = wq) (Runs.veq (r_lt rfl rfl) (congrArg Value.bool (show _ = true from by decide))) ⟨rfl, rfl⟩) (fun h => by cases h) rfl ?_; clear hf fa; rintro fa _ _ ⟨rfl, rfl⟩ hf
  change Fr _ _ ((59, (.bool true)) :: _) at hf
  refine sqv hf (r_pick (b := true) rfl rfl rfl rfl) rfl rfl rfl ?_; clear hf fa; intro fa hf
  refine sqdt hf (d_callB (vs := [(.bool true)]) rfl Try.func92 (by kernel_rfl) (by kernel_rfl) (unless_lit _)) rfl rfl rfl ?_; clear hf fa; rintro fa _ w4 ⟨rfl, he4⟩ hf
  replace hk1 := blk_ext hk1 he4
  replace hb := hb.trans (Below.mono he4 hb.size)
  refine sqv hf (r_assign rfl) rfl rfl rfl ?_; clear hf fa; intro fa hf
  apply wpList_nil
  (try simp only [Exit.then, Exit.inBlock, ↓reduceIte, Nat.reduceEqDiff])
  refine hK16 _ _ ?_
  refine wp_ret ?_
  (try simp only [Exit.then, Exit.inBlock])
  refine ret1 hf rfl rfl ?_
  exact ⟨rfl, hb⟩

theorem natl2 (w : World) : Calls Try.prog 40 #[.int .u64 (2 : Int)] w fun e w' => e = .returned (.string ⟨#[50]⟩) ∧ Below w.heap.size w w' := by
  have h := nat46_any 2 w (by decide)
  rw [dS2] at h
  exact h

theorem natl8 (w : World) : Calls Try.prog 40 #[.int .u64 (8 : Int)] w fun e w' => e = .returned (.string ⟨#[56]⟩) ∧ Below w.heap.size w w' := by
  have h := nat46_any 8 w (by decide)
  rw [dS8] at h
  exact h

set_option maxHeartbeats 1000000 in
set_option maxRecDepth 100000 in
theorem behind_lit (w : World) : Calls Try.prog 74 #[(.agg #[(.int .u8 (40 : Int)), (.int .u64 (2 : Int)), (.int .u64 (8 : Int)), (.slice none 0 0)])] w fun e w' => e = .returned (.string ⟨#[32, 97, 108, 105, 103, 110, 61, 50, 32, 111, 102, 102, 115, 101, 116, 61, 56]⟩) ∧ Below w.heap.size w w' := by
  refine sx_enter (L := [(0, (.agg #[(.int .u8 (40 : Int)), (.int .u64 (2 : Int)), (.int .u64 (8 : Int)), (.slice none 0 0)]))]) Try.func74 rfl rfl rfl rfl (fun fa hf => ?_)
  have hb : Below w.heap.size w w := Below.refl _ _
  refine wp_seq_k (fun K1 hK1 => ?_)
  refine wp_region_lit ?_
  refine sqdt hf (d_box (cs := #[(.int .u8 (40 : Int)), (.int .u64 (2 : Int)), (.int .u64 (8 : Int)), (.slice none 0 0)]) rfl rfl) rfl rfl rfl ?_; clear hf fa; rintro fa _ w1 ⟨b1, rfl, hle1, hk1, he1⟩ hf
  have hBb1 : w.heap.size ≤ b1 := Nat.le_trans hb.size hle1
  replace hb := hb.trans (Below.mono he1 hb.size)
  refine sqv hf (r_assign rfl) rfl rfl rfl ?_; clear hf fa; intro fa hf
  apply wpList_nil
  (try simp only [Exit.then, Exit.inBlock, ↓reduceIte, Nat.reduceEqDiff])
  refine hK1 _ _ ?_
  refine wp_seq_k (fun K2 hK2 => ?_)
  refine wp_seq_k (fun K3 hK3 => ?_)
  refine wp_region_lit ?_
  refine sqv hf (r_fa rfl Try.underlying78 (f := 0) (q := 0) rfl (by kernel_rfl) rfl) rfl rfl rfl ?_; clear hf fa; intro fa hf
  refine sqv hf (r_load (v := (.int .u8 (40 : Int))) rfl Try.underlying5 rfl (cell_blk hk1 rfl)) rfl rfl rfl ?_; clear hf fa; intro fa hf
  refine sqdt hf (d_callB (vs := [(.int .u8 (40 : Int))]) rfl Try.func73 (by kernel_rfl) (by kernel_rfl) (of_lit _)) rfl rfl rfl ?_; clear hf fa; rintro fa _ w2 ⟨rfl, he2⟩ hf
  replace hk1 := blk_ext hk1 he2
  replace hb := hb.trans (Below.mono he2 hb.size)
  refine sqv hf (r_field (cs := #[(.string ⟨#[105, 51, 50, 46, 108, 111, 97, 100]⟩), (.int .i64 (8 : Int)), (.string ⟨#[127]⟩), (.string ⟨#[127]⟩), (.bool false)]) (v := (.int .i64 (8 : Int))) rfl (fun _ => by kernel_rfl)) rfl rfl rfl ?_; clear hf fa; intro fa hf
  apply wpList_nil
  (try simp only [Exit.then, Exit.inBlock, ↓reduceIte, Nat.reduceEqDiff])
  refine hK3 _ _ ?_
  refine wp_block ?_
  refine wp_seq_k (fun K4 hK4 => ?_)
  refine wp_seq_k (fun K5 hK5 => ?_)
  refine wp_region_lit ?_
  refine sqv hf (Runs.veq (r_eq rfl rfl) (congrArg Value.bool (show _ = false from by decide))) rfl rfl rfl ?_; clear hf fa; intro fa hf
  refine sqv hf (r_assign rfl) rfl rfl rfl ?_; clear hf fa; intro fa hf
  apply wpList_nil
  (try simp only [Exit.then, Exit.inBlock, ↓reduceIte, Nat.reduceEqDiff])
  refine hK5 _ _ ?_
  refine wp_cond_false (hf.ev rfl) ?_
  refine wp_region_lit ?_
  refine sqv hf (Runs.veq (r_eq rfl rfl) (congrArg Value.bool (show _ = false from by decide))) rfl rfl rfl ?_; clear hf fa; intro fa hf
  refine sqv hf (r_assign rfl) rfl rfl rfl ?_; clear hf fa; intro fa hf
  apply wpList_nil
  (try simp only [Exit.then, Exit.inBlock, ↓reduceIte, Nat.reduceEqDiff])
  refine hK4 _ _ ?_
  refine wp_cond_false (hf.ev rfl) ?_
  refine wp_seq_k (fun K6 hK6 => ?_)
  refine wp_region_lit ?_
  refine sqv hf (Runs.veq (r_eq rfl rfl) (congrArg Value.bool (show _ = false from by decide))) rfl rfl rfl ?_; clear hf fa; intro fa hf
  refine sqv hf (r_assign rfl) rfl rfl rfl ?_; clear hf fa; intro fa hf
  apply wpList_nil
  (try simp only [Exit.then, Exit.inBlock, ↓reduceIte, Nat.reduceEqDiff])
  refine hK6 _ _ ?_
  refine wp_cond_false (hf.ev rfl) ?_
  refine wp_seq_k (fun K7 hK7 => ?_)
  refine wp_region_lit ?_
  refine sqv hf (Runs.veq (r_eq rfl rfl) (congrArg Value.bool (show _ = false from by decide))) rfl rfl rfl ?_; clear hf fa; intro fa hf
  refine sqv hf (r_assign rfl) rfl rfl rfl ?_; clear hf fa; intro fa hf
  apply wpList_nil
  (try simp only [Exit.then, Exit.inBlock, ↓reduceIte, Nat.reduceEqDiff])
  refine hK7 _ _ ?_
  refine wp_cond_false (hf.ev rfl) ?_
  refine wp_seq_k (fun K8 hK8 => ?_)
  refine wp_region_lit ?_
  refine sqv hf (Runs.veq (r_eq rfl rfl) (congrArg Value.bool (show _ = true from by decide))) rfl rfl rfl ?_; clear hf fa; intro fa hf
  refine sqv hf (r_assign rfl) rfl rfl rfl ?_; clear hf fa; intro fa hf
  apply wpList_nil
  (try simp only [Exit.then, Exit.inBlock, ↓reduceIte, Nat.reduceEqDiff])
  refine hK8 _ _ ?_
  refine wp_cond_true (hf.ev rfl) ?_
  refine wp_seq_k (fun K9 hK9 => ?_)
  refine wp_region_un (fun wq => Below w2.heap.size w2 wq) (fun w w' => Below w.heap.size w w')
    (fun V => [(fun x _ => x = (.pointer (some ⟨b1, 1, none⟩))), (fun x _ => x = (.int .u64 (2 : Int))), (fun x _ => x = (.string ⟨#[50]⟩)), (fun x _ => x = (.string (⟨#[32, 97, 108, 105, 103, 110, 61]⟩ ++ ⟨#[50]⟩))), (fun x _ => x = (.string ((⟨#[32, 97, 108, 105, 103, 110, 61]⟩ ++ ⟨#[50]⟩) ++ ⟨#[32, 111, 102, 102, 115, 101, 116, 61]⟩))), (fun x _ => x = (.pointer (some ⟨b1, 2, none⟩))), (fun x _ => x = (.int .u64 (8 : Int))), (fun x _ => x = (.string ⟨#[56]⟩)), (fun x _ => x = (.string (((⟨#[32, 97, 108, 105, 103, 110, 61]⟩ ++ ⟨#[50]⟩) ++ ⟨#[32, 111, 102, 102, 115, 101, 116, 61]⟩) ++ ⟨#[56]⟩))), (fun x _ => x = (.string (((⟨#[32, 97, 108, 105, 103, 110, 61]⟩ ++ ⟨#[50]⟩) ++ ⟨#[32, 111, 102, 102, 115, 101, 116, 61]⟩) ++ ⟨#[56]⟩)))])
    []
    [[], [0], [1], [2], [3], [], [5], [2, 6], [4, 7], [0, 1, 2, 3, 4, 5, 6, 7, 8]]
    hf (by kernel_rfl) (by kernel_rfl) (fun _ => rfl) ((Below.refl _ _).drew) (fun a b h1 h2 => h1.trans (h2.mono h1.size)) (fun _ _ h => h.size) (fun V => ⟨kept_eq, kept_eq, kept_eq, kept_eq, kept_eq, kept_eq, kept_eq, kept_eq, kept_eq, kept_eq, trivial⟩) (fun _ _ _ _ _ => rfl) ?_ ?_
  · skip
    intro V
    refine ⟨fun wu0 hC hd => ?_, ?_⟩
    · clear hd
      replace hb := hb.trans (hC.mono hb.size)
      replace hk1 := blk_ext hk1 hC
      exact Runs.does (r_fa rfl Try.underlying78 (f := 1) (q := 1) rfl (by kernel_rfl) rfl) ⟨Below.refl _ _, rfl, nofr rfl⟩
    refine ⟨fun wu1 hC hd => ?_, ?_⟩
    · obtain ⟨h0, _⟩ := hd
      skip
      replace h0 : V 0 = (.pointer (some ⟨b1, 1, none⟩)) := h0
      replace hb := hb.trans (hC.mono hb.size)
      replace hk1 := blk_ext hk1 hC
      exact Runs.does (r_load (v := (.int .u64 (2 : Int))) (congrArg some h0) Try.underlying63 rfl (cell_blk hk1 rfl)) ⟨Below.refl _ _, rfl, nofr rfl⟩
    refine ⟨fun wu2 hC hd => ?_, ?_⟩
    · obtain ⟨h1, _⟩ := hd
      skip
      replace h1 : V 1 = (.int .u64 (2 : Int)) := h1
      replace hb := hb.trans (hC.mono hb.size)
      replace hk1 := blk_ext hk1 hC
      refine Does.mono (d_callB (vs := [(.int .u64 (2 : Int))]) (show [some (V 1)] = [some (.int .u64 (2 : Int))] from by rw [h1]) Try.func40 (by kernel_rfl) (by kernel_rfl) (natl2 _)) (fun _ _ h => ⟨h.2, h.1, nofr rfl⟩)
    refine ⟨fun wu3 hC hd => ?_, ?_⟩
    · obtain ⟨h2, _⟩ := hd
      skip
      replace h2 : V 2 = (.string ⟨#[50]⟩) := h2
      replace hb := hb.trans (hC.mono hb.size)
      replace hk1 := blk_ext hk1 hC
      exact Runs.does (r_sadd rfl (congrArg some h2) (by have : ((⟨#[32, 97, 108, 105, 103, 110, 61]⟩) : ByteArray).size = 7 := rfl; have : ((⟨#[50]⟩) : ByteArray).size = 1 := rfl; omega)) ⟨Below.refl _ _, rfl, nofr rfl⟩
    refine ⟨fun wu4 hC hd => ?_, ?_⟩
    · obtain ⟨h3, _⟩ := hd
      skip
      replace h3 : V 3 = (.string (⟨#[32, 97, 108, 105, 103, 110, 61]⟩ ++ ⟨#[50]⟩)) := h3
      replace hb := hb.trans (hC.mono hb.size)
      replace hk1 := blk_ext hk1 hC
      exact Runs.does (r_sadd (congrArg some h3) rfl (by have : ((⟨#[32, 97, 108, 105, 103, 110, 61]⟩) : ByteArray).size = 7 := rfl; have : ((⟨#[50]⟩) : ByteArray).size = 1 := rfl; have := sz_app ⟨#[32, 97, 108, 105, 103, 110, 61]⟩ ⟨#[50]⟩; have : ((⟨#[32, 111, 102, 102, 115, 101, 116, 61]⟩) : ByteArray).size = 8 := rfl; omega)) ⟨Below.refl _ _, rfl, nofr rfl⟩
    refine ⟨fun wu5 hC hd => ?_, ?_⟩
    · clear hd
      replace hb := hb.trans (hC.mono hb.size)
      replace hk1 := blk_ext hk1 hC
      exact Runs.does (r_fa rfl Try.underlying78 (f := 2) (q := 2) rfl (by kernel_rfl) rfl) ⟨Below.refl _ _, rfl, nofr rfl⟩
    refine ⟨fun wu6 hC hd => ?_, ?_⟩
    · obtain ⟨h5, _⟩ := hd
      skip
      replace h5 : V 5 = (.pointer (some ⟨b1, 2, none⟩)) := h5
      replace hb := hb.trans (hC.mono hb.size)
      replace hk1 := blk_ext hk1 hC
      exact Runs.does (r_load (v := (.int .u64 (8 : Int))) (congrArg some h5) Try.underlying63 rfl (cell_blk hk1 rfl)) ⟨Below.refl _ _, rfl, nofr rfl⟩
    refine ⟨fun wu7 hC hd => ?_, ?_⟩
    · obtain ⟨h2, h6, _⟩ := hd
      skip
      skip
      replace h2 : V 2 = (.string ⟨#[50]⟩) := h2
      replace h6 : V 6 = (.int .u64 (8 : Int)) := h6
      replace hb := hb.trans (hC.mono hb.size)
      replace hk1 := blk_ext hk1 hC
      refine Does.mono (d_callB (vs := [(.int .u64 (8 : Int))]) (show [some (V 6)] = [some (.int .u64 (8 : Int))] from by rw [h6]) Try.func40 (by kernel_rfl) (by kernel_rfl) (natl8 _)) (fun _ _ h => ⟨h.2, h.1, nofr rfl⟩)
    refine ⟨fun wu8 hC hd => ?_, ?_⟩
    · obtain ⟨h4, h7, _⟩ := hd
      skip
      skip
      replace h4 : V 4 = (.string ((⟨#[32, 97, 108, 105, 103, 110, 61]⟩ ++ ⟨#[50]⟩) ++ ⟨#[32, 111, 102, 102, 115, 101, 116, 61]⟩)) := h4
      replace h7 : V 7 = (.string ⟨#[56]⟩) := h7
      replace hb := hb.trans (hC.mono hb.size)
      replace hk1 := blk_ext hk1 hC
      exact Runs.does (r_sadd (congrArg some h4) (congrArg some h7) (by have : ((⟨#[32, 97, 108, 105, 103, 110, 61]⟩) : ByteArray).size = 7 := rfl; have : ((⟨#[50]⟩) : ByteArray).size = 1 := rfl; have := sz_app ⟨#[32, 97, 108, 105, 103, 110, 61]⟩ ⟨#[50]⟩; have : ((⟨#[32, 111, 102, 102, 115, 101, 116, 61]⟩) : ByteArray).size = 8 := rfl; have := sz_app (⟨#[32, 97, 108, 105, 103, 110, 61]⟩ ++ ⟨#[50]⟩) ⟨#[32, 111, 102, 102, 115, 101, 116, 61]⟩; have : ((⟨#[56]⟩) : ByteArray).size = 1 := rfl; omega)) ⟨Below.refl _ _, rfl, nofr rfl⟩
    refine ⟨fun wu9 hC hd => ?_, ?_⟩
    · obtain ⟨h0, h1, h2, h3, h4, h5, h6, h7, h8, _⟩ := hd
      skip
      skip
      skip
      skip
      skip
      skip
      skip
      skip
      skip
      replace h0 : V 0 = (.pointer (some ⟨b1, 1, none⟩)) := h0
      replace h1 : V 1 = (.int .u64 (2 : Int)) := h1
      replace h2 : V 2 = (.string ⟨#[50]⟩) := h2
      replace h3 : V 3 = (.string (⟨#[32, 97, 108, 105, 103, 110, 61]⟩ ++ ⟨#[50]⟩)) := h3
      replace h4 : V 4 = (.string ((⟨#[32, 97, 108, 105, 103, 110, 61]⟩ ++ ⟨#[50]⟩) ++ ⟨#[32, 111, 102, 102, 115, 101, 116, 61]⟩)) := h4
      replace h5 : V 5 = (.pointer (some ⟨b1, 2, none⟩)) := h5
      replace h6 : V 6 = (.int .u64 (8 : Int)) := h6
      replace h7 : V 7 = (.string ⟨#[56]⟩) := h7
      replace h8 : V 8 = (.string (((⟨#[32, 97, 108, 105, 103, 110, 61]⟩ ++ ⟨#[50]⟩) ++ ⟨#[32, 111, 102, 102, 115, 101, 116, 61]⟩) ++ ⟨#[56]⟩)) := h8
      replace hb := hb.trans (hC.mono hb.size)
      replace hk1 := blk_ext hk1 hC
      exact Runs.does (r_assign (congrArg some h8)) ⟨Below.refl _ _, rfl, nofr rfl⟩
    trivial
  · skip
    clear hf fa; intro V w3 fa he3 hp hnb hf
    have hv0 : V 0 = (.pointer (some ⟨b1, 1, none⟩)) := postsHold_at hp 0 rfl
    have hv1 : V 1 = (.int .u64 (2 : Int)) := postsHold_at hp 1 rfl
    have hv2 : V 2 = (.string ⟨#[50]⟩) := postsHold_at hp 2 rfl
    have hv3 : V 3 = (.string (⟨#[32, 97, 108, 105, 103, 110, 61]⟩ ++ ⟨#[50]⟩)) := postsHold_at hp 3 rfl
    have hv4 : V 4 = (.string ((⟨#[32, 97, 108, 105, 103, 110, 61]⟩ ++ ⟨#[50]⟩) ++ ⟨#[32, 111, 102, 102, 115, 101, 116, 61]⟩)) := postsHold_at hp 4 rfl
    have hv5 : V 5 = (.pointer (some ⟨b1, 2, none⟩)) := postsHold_at hp 5 rfl
    have hv6 : V 6 = (.int .u64 (8 : Int)) := postsHold_at hp 6 rfl
    have hv7 : V 7 = (.string ⟨#[56]⟩) := postsHold_at hp 7 rfl
    have hv8 : V 8 = (.string (((⟨#[32, 97, 108, 105, 103, 110, 61]⟩ ++ ⟨#[50]⟩) ++ ⟨#[32, 111, 102, 102, 115, 101, 116, 61]⟩) ++ ⟨#[56]⟩)) := postsHold_at hp 8 rfl
    have hv9 : V 9 = (.string (((⟨#[32, 97, 108, 105, 103, 110, 61]⟩ ++ ⟨#[50]⟩) ++ ⟨#[32, 111, 102, 102, 115, 101, 116, 61]⟩) ++ ⟨#[56]⟩)) := postsHold_at hp 9 rfl
    simp only [List.take_succ_cons, List.take_zero, insAll, ins, hv0, hv1, hv2, hv3, hv4, hv5, hv6, hv7, hv8, hv9] at hf
    clear hp hnb hv0 hv1 hv2 hv3 hv4 hv5 hv6 hv7 hv8 hv9
    replace hk1 := blk_ext hk1 he3
    replace hb := hb.trans (Below.mono he3 hb.size)
    (try simp only [Exit.then, Exit.inBlock, ↓reduceIte, Nat.reduceEqDiff])
    refine hK9 _ _ ?_
    refine wp_ret ?_
    (try simp only [Exit.then, Exit.inBlock])
    refine ret1 hf rfl rfl ?_
    exact ⟨congrArg (fun s => Ending.returned (.string s)) (by decide), hb⟩

set_option maxHeartbeats 1000000 in
set_option maxRecDepth 100000 in
theorem line_lit (w : World) : Calls Try.prog 37 #[(.agg #[(.int .u8 (40 : Int)), (.int .u64 (2 : Int)), (.int .u64 (8 : Int)), (.slice none 0 0)])] w fun e w' => e = .returned (.string ⟨#[105, 51, 50, 46, 108, 111, 97, 100, 32, 97, 108, 105, 103, 110, 61, 50, 32, 111, 102, 102, 115, 101, 116, 61, 56]⟩) ∧ Below w.heap.size w w' := by
  refine sx_enter (L := [(0, (.agg #[(.int .u8 (40 : Int)), (.int .u64 (2 : Int)), (.int .u64 (8 : Int)), (.slice none 0 0)]))]) Try.func37 rfl rfl rfl rfl (fun fa hf => ?_)
  have hb : Below w.heap.size w w := Below.refl _ _
  refine wp_seq_k (fun K1 hK1 => ?_)
  refine wp_region_lit ?_
  refine sqdt hf (d_box (cs := #[(.int .u8 (40 : Int)), (.int .u64 (2 : Int)), (.int .u64 (8 : Int)), (.slice none 0 0)]) rfl rfl) rfl rfl rfl ?_; clear hf fa; rintro fa _ w1 ⟨b1, rfl, hle1, hk1, he1⟩ hf
  have hBb1 : w.heap.size ≤ b1 := Nat.le_trans hb.size hle1
  replace hb := hb.trans (Below.mono he1 hb.size)
  refine sqv hf (r_assign rfl) rfl rfl rfl ?_; clear hf fa; intro fa hf
  apply wpList_nil
  (try simp only [Exit.then, Exit.inBlock, ↓reduceIte, Nat.reduceEqDiff])
  refine hK1 _ _ ?_
  refine wp_seq_k (fun K2 hK2 => ?_)
  refine wp_seq_k (fun K3 hK3 => ?_)
  refine wp_region_lit ?_
  refine sqv hf (r_loadA (cs := [(.int .u8 (40 : Int)), (.int .u64 (2 : Int)), (.int .u64 (8 : Int)), (.slice none 0 0)]) rfl Try.underlying78 rfl (by kernel_rfl) (cellsAt_blk hk1)) rfl rfl rfl ?_; clear hf fa; intro fa hf
  refine sqdt hf (d_callB (vs := [(.agg #[(.int .u8 (40 : Int)), (.int .u64 (2 : Int)), (.int .u64 (8 : Int)), (.slice none 0 0)])]) rfl Try.func72 (by kernel_rfl) (by kernel_rfl) (iright_lit _)) rfl rfl rfl ?_; clear hf fa; rintro fa _ w2 ⟨rfl, he2⟩ hf
  replace hk1 := blk_ext hk1 he2
  replace hb := hb.trans (Below.mono he2 hb.size)
  refine sqv hf (Runs.veq (r_ne rfl rfl) (congrArg Value.bool (show _ = false from by decide))) rfl rfl rfl ?_; clear hf fa; intro fa hf
  apply wpList_nil
  (try simp only [Exit.then, Exit.inBlock, ↓reduceIte, Nat.reduceEqDiff])
  refine hK3 _ _ ?_
  refine wp_cond_false (hf.ev rfl) ?_
  refine wp_skip ?_
  (try simp only [Exit.then, Exit.inBlock, ↓reduceIte, Nat.reduceEqDiff])
  refine hK2 _ _ ?_
  refine wp_seq_k (fun K4 hK4 => ?_)
  refine wp_region_un (fun wq => Below w2.heap.size w2 wq) (fun w w' => Below w.heap.size w w')
    (fun V => [(fun x _ => x = (.pointer (some ⟨b1, 0, none⟩))), (fun x _ => x = (.int .u8 (40 : Int))), (fun x _ => x = (.agg #[(.string ⟨#[105, 51, 50, 46, 108, 111, 97, 100]⟩), (.int .i64 (8 : Int)), (.string ⟨#[127]⟩), (.string ⟨#[127]⟩), (.bool false)])), (fun x _ => x = (.string ⟨#[105, 51, 50, 46, 108, 111, 97, 100]⟩)), (fun x _ => x = (.agg #[(.int .u8 (40 : Int)), (.int .u64 (2 : Int)), (.int .u64 (8 : Int)), (.slice none 0 0)])), (fun x _ => x = (.string ⟨#[32, 97, 108, 105, 103, 110, 61, 50, 32, 111, 102, 102, 115, 101, 116, 61, 56]⟩)), (fun x _ => x = (.string (⟨#[105, 51, 50, 46, 108, 111, 97, 100]⟩ ++ ⟨#[32, 97, 108, 105, 103, 110, 61, 50, 32, 111, 102, 102, 115, 101, 116, 61, 56]⟩))), (fun x _ => x = (.string (⟨#[105, 51, 50, 46, 108, 111, 97, 100]⟩ ++ ⟨#[32, 97, 108, 105, 103, 110, 61, 50, 32, 111, 102, 102, 115, 101, 116, 61, 56]⟩)))])
    []
    [[], [0], [1], [2], [], [2, 4], [3, 5], [0, 1, 2, 3, 4, 5, 6]]
    hf (by kernel_rfl) (by kernel_rfl) (fun _ => rfl) ((Below.refl _ _).drew) (fun a b h1 h2 => h1.trans (h2.mono h1.size)) (fun _ _ h => h.size) (fun V => ⟨kept_eq, kept_eq, kept_eq, kept_eq, kept_eq, kept_eq, kept_eq, kept_eq, trivial⟩) (fun _ _ _ _ _ => rfl) ?_ ?_
  · skip
    intro V
    refine ⟨fun wu0 hC hd => ?_, ?_⟩
    · clear hd
      replace hb := hb.trans (hC.mono hb.size)
      replace hk1 := blk_ext hk1 hC
      exact Runs.does (r_fa rfl Try.underlying78 (f := 0) (q := 0) rfl (by kernel_rfl) rfl) ⟨Below.refl _ _, rfl, nofr rfl⟩
    refine ⟨fun wu1 hC hd => ?_, ?_⟩
    · obtain ⟨h0, _⟩ := hd
      skip
      replace h0 : V 0 = (.pointer (some ⟨b1, 0, none⟩)) := h0
      replace hb := hb.trans (hC.mono hb.size)
      replace hk1 := blk_ext hk1 hC
      exact Runs.does (r_load (v := (.int .u8 (40 : Int))) (congrArg some h0) Try.underlying5 rfl (cell_blk hk1 rfl)) ⟨Below.refl _ _, rfl, nofr rfl⟩
    refine ⟨fun wu2 hC hd => ?_, ?_⟩
    · obtain ⟨h1, _⟩ := hd
      skip
      replace h1 : V 1 = (.int .u8 (40 : Int)) := h1
      replace hb := hb.trans (hC.mono hb.size)
      replace hk1 := blk_ext hk1 hC
      refine Does.mono (d_callB (vs := [(.int .u8 (40 : Int))]) (show [some (V 1)] = [some (.int .u8 (40 : Int))] from by rw [h1]) Try.func73 (by kernel_rfl) (by kernel_rfl) (of_lit _)) (fun _ _ h => ⟨h.2, h.1, nofr rfl⟩)
    refine ⟨fun wu3 hC hd => ?_, ?_⟩
    · obtain ⟨h2, _⟩ := hd
      skip
      replace h2 : V 2 = (.agg #[(.string ⟨#[105, 51, 50, 46, 108, 111, 97, 100]⟩), (.int .i64 (8 : Int)), (.string ⟨#[127]⟩), (.string ⟨#[127]⟩), (.bool false)]) := h2
      replace hb := hb.trans (hC.mono hb.size)
      replace hk1 := blk_ext hk1 hC
      exact Runs.does (r_field (cs := #[(.string ⟨#[105, 51, 50, 46, 108, 111, 97, 100]⟩), (.int .i64 (8 : Int)), (.string ⟨#[127]⟩), (.string ⟨#[127]⟩), (.bool false)]) (v := (.string ⟨#[105, 51, 50, 46, 108, 111, 97, 100]⟩)) (congrArg some h2) (fun _ => by kernel_rfl)) ⟨Below.refl _ _, rfl, nofr rfl⟩
    refine ⟨fun wu4 hC hd => ?_, ?_⟩
    · clear hd
      replace hb := hb.trans (hC.mono hb.size)
      replace hk1 := blk_ext hk1 hC
      exact Runs.does (r_loadA (cs := [(.int .u8 (40 : Int)), (.int .u64 (2 : Int)), (.int .u64 (8 : Int)), (.slice none 0 0)]) rfl Try.underlying78 rfl (by kernel_rfl) (cellsAt_blk hk1)) ⟨Below.refl _ _, rfl, nofr rfl⟩
    refine ⟨fun wu5 hC hd => ?_, ?_⟩
    · obtain ⟨h2, h4, _⟩ := hd
      skip
      skip
      replace h2 : V 2 = (.agg #[(.string ⟨#[105, 51, 50, 46, 108, 111, 97, 100]⟩), (.int .i64 (8 : Int)), (.string ⟨#[127]⟩), (.string ⟨#[127]⟩), (.bool false)]) := h2
      replace h4 : V 4 = (.agg #[(.int .u8 (40 : Int)), (.int .u64 (2 : Int)), (.int .u64 (8 : Int)), (.slice none 0 0)]) := h4
      replace hb := hb.trans (hC.mono hb.size)
      replace hk1 := blk_ext hk1 hC
      refine Does.mono (d_callB (vs := [(.agg #[(.int .u8 (40 : Int)), (.int .u64 (2 : Int)), (.int .u64 (8 : Int)), (.slice none 0 0)])]) (show [some (V 4)] = [some (.agg #[(.int .u8 (40 : Int)), (.int .u64 (2 : Int)), (.int .u64 (8 : Int)), (.slice none 0 0)])] from by rw [h4]) Try.func74 (by kernel_rfl) (by kernel_rfl) (behind_lit _)) (fun _ _ h => ⟨h.2, h.1, nofr rfl⟩)
    refine ⟨fun wu6 hC hd => ?_, ?_⟩
    · obtain ⟨h3, h5, _⟩ := hd
      skip
      skip
      replace h3 : V 3 = (.string ⟨#[105, 51, 50, 46, 108, 111, 97, 100]⟩) := h3
      replace h5 : V 5 = (.string ⟨#[32, 97, 108, 105, 103, 110, 61, 50, 32, 111, 102, 102, 115, 101, 116, 61, 56]⟩) := h5
      replace hb := hb.trans (hC.mono hb.size)
      replace hk1 := blk_ext hk1 hC
      exact Runs.does (r_sadd (congrArg some h3) (congrArg some h5) (by have : ((⟨#[105, 51, 50, 46, 108, 111, 97, 100]⟩) : ByteArray).size = 8 := rfl; have : ((⟨#[32, 97, 108, 105, 103, 110, 61, 50, 32, 111, 102, 102, 115, 101, 116, 61, 56]⟩) : ByteArray).size = 17 := rfl; omega)) ⟨Below.refl _ _, rfl, nofr rfl⟩
    refine ⟨fun wu7 hC hd => ?_, ?_⟩
    · obtain ⟨h0, h1, h2, h3, h4, h5, h6, _⟩ := hd
      skip
      skip
      skip
      skip
      skip
      skip
      skip
      replace h0 : V 0 = (.pointer (some ⟨b1, 0, none⟩)) := h0
      replace h1 : V 1 = (.int .u8 (40 : Int)) := h1
      replace h2 : V 2 = (.agg #[(.string ⟨#[105, 51, 50, 46, 108, 111, 97, 100]⟩), (.int .i64 (8 : Int)), (.string ⟨#[127]⟩), (.string ⟨#[127]⟩), (.bool false)]) := h2
      replace h3 : V 3 = (.string ⟨#[105, 51, 50, 46, 108, 111, 97, 100]⟩) := h3
      replace h4 : V 4 = (.agg #[(.int .u8 (40 : Int)), (.int .u64 (2 : Int)), (.int .u64 (8 : Int)), (.slice none 0 0)]) := h4
      replace h5 : V 5 = (.string ⟨#[32, 97, 108, 105, 103, 110, 61, 50, 32, 111, 102, 102, 115, 101, 116, 61, 56]⟩) := h5
      replace h6 : V 6 = (.string (⟨#[105, 51, 50, 46, 108, 111, 97, 100]⟩ ++ ⟨#[32, 97, 108, 105, 103, 110, 61, 50, 32, 111, 102, 102, 115, 101, 116, 61, 56]⟩)) := h6
      replace hb := hb.trans (hC.mono hb.size)
      replace hk1 := blk_ext hk1 hC
      exact Runs.does (r_assign (congrArg some h6)) ⟨Below.refl _ _, rfl, nofr rfl⟩
    trivial
  · skip
    clear hf fa; intro V w3 fa he3 hp hnb hf
    have hv0 : V 0 = (.pointer (some ⟨b1, 0, none⟩)) := postsHold_at hp 0 rfl
    have hv1 : V 1 = (.int .u8 (40 : Int)) := postsHold_at hp 1 rfl
    have hv2 : V 2 = (.agg #[(.string ⟨#[105, 51, 50, 46, 108, 111, 97, 100]⟩), (.int .i64 (8 : Int)), (.string ⟨#[127]⟩), (.string ⟨#[127]⟩), (.bool false)]) := postsHold_at hp 2 rfl
    have hv3 : V 3 = (.string ⟨#[105, 51, 50, 46, 108, 111, 97, 100]⟩) := postsHold_at hp 3 rfl
    have hv4 : V 4 = (.agg #[(.int .u8 (40 : Int)), (.int .u64 (2 : Int)), (.int .u64 (8 : Int)), (.slice none 0 0)]) := postsHold_at hp 4 rfl
    have hv5 : V 5 = (.string ⟨#[32, 97, 108, 105, 103, 110, 61, 50, 32, 111, 102, 102, 115, 101, 116, 61, 56]⟩) := postsHold_at hp 5 rfl
    have hv6 : V 6 = (.string (⟨#[105, 51, 50, 46, 108, 111, 97, 100]⟩ ++ ⟨#[32, 97, 108, 105, 103, 110, 61, 50, 32, 111, 102, 102, 115, 101, 116, 61, 56]⟩)) := postsHold_at hp 6 rfl
    have hv7 : V 7 = (.string (⟨#[105, 51, 50, 46, 108, 111, 97, 100]⟩ ++ ⟨#[32, 97, 108, 105, 103, 110, 61, 50, 32, 111, 102, 102, 115, 101, 116, 61, 56]⟩)) := postsHold_at hp 7 rfl
    simp only [List.take_succ_cons, List.take_zero, insAll, ins, hv0, hv1, hv2, hv3, hv4, hv5, hv6, hv7] at hf
    clear hp hnb hv0 hv1 hv2 hv3 hv4 hv5 hv6 hv7
    replace hk1 := blk_ext hk1 he3
    replace hb := hb.trans (Below.mono he3 hb.size)
    (try simp only [Exit.then, Exit.inBlock, ↓reduceIte, Nat.reduceEqDiff])
    refine hK4 _ _ ?_
    refine wp_ret ?_
    (try simp only [Exit.then, Exit.inBlock])
    refine ret1 hf rfl rfl ?_
    exact ⟨congrArg (fun s => Ending.returned (.string s)) (by decide), hb⟩

set_option maxHeartbeats 1000000 in
set_option maxRecDepth 100000 in
theorem awake46_any (w : World) : Calls Try.prog 7 #[] w fun e w' => e = .returned (.bool true) ∧ Below w.heap.size w w' := by
  refine sx_enter (L := []) Try.func7 rfl rfl rfl rfl (fun fa hf => ?_)
  have hb : Below w.heap.size w w := Below.refl _ _
  refine wp_seq_k (fun K1 hK1 => ?_)
  refine wp_region_lit ?_
  refine sqv hf (r_assign rfl) rfl rfl rfl ?_; clear hf fa; intro fa hf
  apply wpList_nil
  (try simp only [Exit.then, Exit.inBlock, ↓reduceIte, Nat.reduceEqDiff])
  refine hK1 _ _ ?_
  refine wp_seq_k (fun K2 hK2 => ?_)
  refine wp_region_lit ?_
  refine sqv hf (r_build (vs := [(0, (.int .u8 (40 : Int))), (1, (.int .u64 (2 : Int))), (2, (.int .u64 (8 : Int)))]) (cs := #[(.int .u8 (40 : Int)), (.int .u64 (2 : Int)), (.int .u64 (8 : Int)), (.slice none 0 0)]) rfl (fun _ => by kernel_rfl)) rfl rfl rfl ?_; clear hf fa; intro fa hf
  refine sqdt hf (d_callB (vs := [(.agg #[(.int .u8 (40 : Int)), (.int .u64 (2 : Int)), (.int .u64 (8 : Int)), (.slice none 0 0)])]) rfl Try.func37 (by kernel_rfl) (by kernel_rfl) (line_lit _)) rfl rfl rfl ?_; clear hf fa; rintro fa _ w1 ⟨rfl, he1⟩ hf
  replace hb := hb.trans (Below.mono he1 hb.size)
  refine sqv hf (Runs.veq (r_seq rfl rfl) (congrArg Value.bool (show _ = true from (by simp)))) rfl rfl rfl ?_; clear hf fa; intro fa hf
  refine sqv hf (r_assign rfl) rfl rfl rfl ?_; clear hf fa; intro fa hf
  apply wpList_nil
  (try simp only [Exit.then, Exit.inBlock, ↓reduceIte, Nat.reduceEqDiff])
  refine hK2 _ _ ?_
  refine wp_ret ?_
  (try simp only [Exit.then, Exit.inBlock])
  refine ret1 hf rfl rfl ?_
  exact ⟨rfl, hb⟩
end Go.Proofs.Ytpalmpfkliepfaa

namespace Go.Proofs.Ytpalmpfkliepfaa
open Go.RowKit Ut
set_option linter.unusedVariables false
set_option linter.unusedSimpArgs false
def kindS (k : Int) : ByteArray := if k = 0 then ⟨#[102, 117, 110, 99]⟩ else if k = 1 then ⟨#[116, 97, 98, 108, 101]⟩ else if k = 2 then ⟨#[109, 101, 109, 111, 114, 121]⟩ else if k = 3 then ⟨#[103, 108, 111, 98, 97, 108]⟩ else ⟨#[63]⟩
theorem kindS_row (k : Int) (h : 0 ≤ k ∧ k < 4) : ([(⟨#[102, 117, 110, 99]⟩ : ByteArray), (⟨#[116, 97, 98, 108, 101]⟩ : ByteArray), (⟨#[109, 101, 109, 111, 114, 121]⟩ : ByteArray), (⟨#[103, 108, 111, 98, 97, 108]⟩ : ByteArray)] : List ByteArray)[(k).toNat]? = some (kindS k) := by
  rcases (show k = 0 ∨ k = 1 ∨ k = 2 ∨ k = 3 by omega) with rfl | rfl | rfl | rfl <;> rfl
theorem kindS_no (k : Int) (h : 4 ≤ k) : kindS k = ⟨#[63]⟩ := by
  unfold kindS; rw [if_neg (by omega), if_neg (by omega), if_neg (by omega), if_neg (by omega)]
theorem kindS_len (k : Int) : (kindS k).size ≤ 6 := by
  unfold kindS
  split; decide
  split; decide
  split; decide
  split; decide
  decide

set_option maxHeartbeats 1000000 in
set_option maxRecDepth 100000 in
theorem kind_any (k : Int) (w : World) (hk : 0 ≤ k ∧ k < 256) : Calls Try.prog 43 #[(.int .u8 k)] w fun e w' => e = .returned (.string (kindS k)) ∧ Below w.heap.size w w' := by
  refine sx_enter (L := [(0, (.int .u8 k))]) Try.func43 rfl rfl rfl rfl (fun fa hf => ?_)
  have hb : Below w.heap.size w w := Below.refl _ _
  refine wp_seq_k (fun K1 hK1 => ?_)
  refine wp_region_lit ?_
  refine sqv hf (r_assign rfl) rfl rfl rfl ?_; clear hf fa; intro fa hf
  apply wpList_nil
  (try simp only [Exit.then, Exit.inBlock, ↓reduceIte, Nat.reduceEqDiff])
  refine hK1 _ _ ?_
  refine wp_seq_k (fun K2 hK2 => ?_)
  refine wp_region_lit ?_
  refine sqv hf (r_build (vs := [(0, (.string ⟨#[102, 117, 110, 99]⟩)), (1, (.string ⟨#[116, 97, 98, 108, 101]⟩)), (2, (.string ⟨#[109, 101, 109, 111, 114, 121]⟩)), (3, (.string ⟨#[103, 108, 111, 98, 97, 108]⟩))]) (cs := #[(.string ⟨#[102, 117, 110, 99]⟩), (.string ⟨#[116, 97, 98, 108, 101]⟩), (.string ⟨#[109, 101, 109, 111, 114, 121]⟩), (.string ⟨#[103, 108, 111, 98, 97, 108]⟩)]) rfl (fun _ => by kernel_rfl)) rfl rfl rfl ?_; clear hf fa; intro fa hf
  refine sqdt hf (d_alloc (z := (.agg #[(.string ⟨#[]⟩), (.string ⟨#[]⟩), (.string ⟨#[]⟩), (.string ⟨#[]⟩)])) (cs := #[(.string ⟨#[]⟩), (.string ⟨#[]⟩), (.string ⟨#[]⟩), (.string ⟨#[]⟩)]) (by kernel_rfl) rfl) rfl rfl rfl ?_; clear hf fa; rintro fa _ w1 ⟨b1, rfl, hle1, hk1, he1⟩ hf
  have hBb1 : w.heap.size ≤ b1 := Nat.le_trans hb.size hle1
  replace hb := hb.trans (Below.mono he1 hb.size)
  refine sqn hf (d_storeK (T := 137) (v := (.agg #[(.string ⟨#[102, 117, 110, 99]⟩), (.string ⟨#[116, 97, 98, 108, 101]⟩), (.string ⟨#[109, 101, 109, 111, 114, 121]⟩), (.string ⟨#[103, 108, 111, 98, 97, 108]⟩)])) (cs := #[(.string ⟨#[]⟩), (.string ⟨#[]⟩), (.string ⟨#[]⟩), (.string ⟨#[]⟩)]) (cs' := #[(.string ⟨#[102, 117, 110, 99]⟩), (.string ⟨#[116, 97, 98, 108, 101]⟩), (.string ⟨#[109, 101, 109, 111, 114, 121]⟩), (.string ⟨#[103, 108, 111, 98, 97, 108]⟩)]) rfl rfl (by kernel_rfl) (by kernel_rfl) hk1 (by kernel_rfl) (by kernel_rfl)) rfl rfl ?_; clear hf fa; rintro fa _ w2 ⟨hk2, hg1⟩ hf
  replace hb := hb.trans (grown_below hg1 hb.size hBb1)
  apply wpList_nil
  (try simp only [Exit.then, Exit.inBlock, ↓reduceIte, Nat.reduceEqDiff])
  refine hK2 _ _ ?_
  refine wp_seq_k (fun K3 hK3 => ?_)
  refine wp_seq_k (fun K4 hK4 => ?_)
  refine wp_region_lit ?_
  refine sqv hf (r_move rfl) rfl rfl rfl ?_; clear hf fa; intro fa hf
  refine sqv hf (r_conv (C := k) rfl Try.underlying5 Try.underlying3 (by rw [IntKind.wrap_i64]; omega)) rfl rfl rfl ?_; clear hf fa; intro fa hf
  refine sqv hf (r_lt rfl rfl) rfl rfl rfl ?_; clear hf fa; intro fa hf
  apply wpList_nil
  (try simp only [Exit.then, Exit.inBlock, ↓reduceIte, Nat.reduceEqDiff])
  refine hK4 _ _ ?_
  refine wp_cond_split (t := (decide (k < (4 : Int)))) (hf.ev rfl) (fun hqt7_1 => ?_) (fun hqt7_1 => ?_)
  · have hqt7_1b := hqt7_1
    try simp only [decide_eq_true_eq, Bool.and_eq_true, Bool.or_eq_true, Bool.not_eq_true', decide_eq_false_iff_not, ne_eq, Bool.not_eq_true] at hqt7_1
    refine wp_seq_k (fun K5 hK5 => ?_)
    have hkk : 0 ≤ k ∧ k < 4 := by have h := hqt7_1; omega
    have hr1 := Row.of_new (k := 1) (V := vStr) (l := [(⟨#[102, 117, 110, 99]⟩ : ByteArray), (⟨#[116, 97, 98, 108, 101]⟩ : ByteArray), (⟨#[109, 101, 109, 111, 114, 121]⟩ : ByteArray), (⟨#[103, 108, 111, 98, 97, 108]⟩ : ByteArray)]) (base := w.heap.size) hk2 (by omega) rfl rfl (Nat.le_of_ble_eq_true rfl)
    skip
    refine wp_region_lit ?_
    refine sqv hf (r_move rfl) rfl rfl rfl ?_; clear hf fa; intro fa hf
    have hy1 : ([(⟨#[102, 117, 110, 99]⟩ : ByteArray), (⟨#[116, 97, 98, 108, 101]⟩ : ByteArray), (⟨#[109, 101, 109, 111, 114, 121]⟩ : ByteArray), (⟨#[103, 108, 111, 98, 97, 108]⟩ : ByteArray)])[(k).toNat]? = some (kindS k) := (kindS_row k hkk)
    have hel1 := RdS.at (Row.rd (by intros; rfl) hr1) hy1
    obtain ⟨_, _, hab, hlr1, hel1⟩ := hel1
    cases hab
    refine sqv hf (r_ixp (sz := 1) (j := (k).toNat) (nn := 4) rfl rfl Try.underlying137 (by kernel_rfl) (by omega) (by omega) rfl) rfl rfl rfl ?_; clear hf fa; intro fa hf
    refine sqv hf (r_load (v := (.string (kindS k))) rfl Try.underlying9 rfl (cellsAt_cell hel1 (i := 0) rfl rfl)) rfl rfl rfl ?_; clear hf fa; intro fa hf
    refine sqv hf (r_assign rfl) rfl rfl rfl ?_; clear hf fa; intro fa hf
    apply wpList_nil
    (try simp only [Exit.then, Exit.inBlock, ↓reduceIte, Nat.reduceEqDiff])
    refine hK5 _ _ ?_
    refine wp_ret ?_
    (try simp only [Exit.then, Exit.inBlock])
    refine ret1 hf rfl rfl ?_
    exact ⟨congrArg (fun s => Ending.returned (.string s)) (by first | rfl | (rw [kindS_no k (by have h := hqt7_1; omega)])), hb⟩
  · have hqt7_1b := hqt7_1
    replace hqt7_1 := Bool.eq_false_iff.1 hqt7_1
    try simp only [ne_eq, decide_eq_true_eq, Bool.and_eq_true, Bool.or_eq_true, Bool.not_eq_true', decide_eq_false_iff_not] at hqt7_1
    refine wp_skip ?_
    (try simp only [Exit.then, Exit.inBlock, ↓reduceIte, Nat.reduceEqDiff])
    refine hK3 _ _ ?_
    refine wp_seq_k (fun K6 hK6 => ?_)
    refine wp_region_lit ?_
    refine sqv hf (r_assign rfl) rfl rfl rfl ?_; clear hf fa; intro fa hf
    apply wpList_nil
    (try simp only [Exit.then, Exit.inBlock, ↓reduceIte, Nat.reduceEqDiff])
    refine hK6 _ _ ?_
    refine wp_ret ?_
    (try simp only [Exit.then, Exit.inBlock])
    refine ret1 hf rfl rfl ?_
    exact ⟨congrArg (fun s => Ending.returned (.string s)) (by first | rfl | (rw [kindS_no k (by have h := hqt7_1; omega)])), hb⟩

set_option maxHeartbeats 1000000 in
set_option maxRecDepth 100000 in
theorem rkind_any (k : Int) (w : World) (hk : 0 ≤ k ∧ k < 256) : Calls Try.prog 48 #[(.int .i64 k)] w fun e w' => e = .returned (.string (kindS k)) ∧ Below w.heap.size w w' := by
  refine sx_enter (L := [(0, (.int .i64 k))]) Try.func48 rfl rfl rfl rfl (fun fa hf => ?_)
  have hb : Below w.heap.size w w := Below.refl _ _
  refine wp_seq_k (fun K1 hK1 => ?_)
  refine wp_region_lit ?_
  refine sqv hf (r_assign rfl) rfl rfl rfl ?_; clear hf fa; intro fa hf
  apply wpList_nil
  (try simp only [Exit.then, Exit.inBlock, ↓reduceIte, Nat.reduceEqDiff])
  refine hK1 _ _ ?_
  refine wp_seq_k (fun K2 hK2 => ?_)
  refine wp_region_lit ?_
  refine sqdt hf (d_bslice (z := (.string ⟨#[]⟩)) (sz := 1) (vs := [(0, (.string ⟨#[102, 117, 110, 99]⟩)), (1, (.string ⟨#[116, 97, 98, 108, 101]⟩)), (2, (.string ⟨#[109, 101, 109, 111, 114, 121]⟩)), (3, (.string ⟨#[103, 108, 111, 98, 97, 108]⟩))]) (cs := #[(.string ⟨#[102, 117, 110, 99]⟩), (.string ⟨#[116, 97, 98, 108, 101]⟩), (.string ⟨#[109, 101, 109, 111, 114, 121]⟩), (.string ⟨#[103, 108, 111, 98, 97, 108]⟩)]) rfl Try.underlying32 (by kernel_rfl) rfl (by kernel_rfl)) rfl rfl rfl ?_; clear hf fa; rintro fa _ w1 ⟨b1, rfl, hle1, hk1, he1⟩ hf
  have hBb1 : w.heap.size ≤ b1 := Nat.le_trans hb.size hle1
  replace hb := hb.trans (Below.mono he1 hb.size)
  refine sqv hf (r_assign rfl) rfl rfl rfl ?_; clear hf fa; intro fa hf
  apply wpList_nil
  (try simp only [Exit.then, Exit.inBlock, ↓reduceIte, Nat.reduceEqDiff])
  refine hK2 _ _ ?_
  refine wp_seq_k (fun K3 hK3 => ?_)
  refine wp_seq_k (fun K4 hK4 => ?_)
  refine wp_region_lit ?_
  refine sqv hf (r_move rfl) rfl rfl rfl ?_; clear hf fa; intro fa hf
  refine sqv hf (r_lt rfl rfl) rfl rfl rfl ?_; clear hf fa; intro fa hf
  refine sqv hf (r_move rfl) rfl rfl rfl ?_; clear hf fa; intro fa hf
  refine sqgF (act := (!(decide (k < (0 : Int))))) (ag := true) (c := (decide (k < (0 : Int)))) (v := (.int .i64 k)) hf rfl rfl rfl (fun hact => (r_move rfl)) rfl rfl ?_; clear hf fa; intro fa hf
  refine sqgF (act := (!(decide (k < (0 : Int))))) (ag := true) (c := (decide (k < (0 : Int)))) (v := (.bool (decide ((3 : Int) < k)))) hf rfl rfl rfl (fun hact => (r_gt (gb_ev hact rfl) rfl)) rfl rfl ?_; clear hf fa; intro fa hf
  refine sqv hf (r_pickO (b := (decide (k < (0 : Int)))) (e := (decide ((3 : Int) < k))) rfl rfl rfl) rfl rfl rfl ?_; clear hf fa; intro fa hf
  apply wpList_nil
  (try simp only [Exit.then, Exit.inBlock, ↓reduceIte, Nat.reduceEqDiff])
  refine hK4 _ _ ?_
  refine wp_cond_split (t := ((decide (k < (0 : Int))) || (decide ((3 : Int) < k)))) (hf.ev rfl) (fun hqt10_1 => ?_) (fun hqt10_1 => ?_)
  · have hqt10_1b := hqt10_1
    try simp only [decide_eq_true_eq, Bool.and_eq_true, Bool.or_eq_true, Bool.not_eq_true', decide_eq_false_iff_not, ne_eq, Bool.not_eq_true] at hqt10_1
    refine wp_seq_k (fun K5 hK5 => ?_)
    refine wp_region_lit ?_
    refine sqv hf (r_assign rfl) rfl rfl rfl ?_; clear hf fa; intro fa hf
    apply wpList_nil
    (try simp only [Exit.then, Exit.inBlock, ↓reduceIte, Nat.reduceEqDiff])
    refine hK5 _ _ ?_
    refine wp_ret ?_
    (try simp only [Exit.then, Exit.inBlock])
    refine ret1 hf rfl rfl ?_
    exact ⟨congrArg (fun s => Ending.returned (.string s)) (by first | rfl | (rw [kindS_no k (by have h := hqt10_1; omega)])), hb⟩
  · have hqt10_1b := hqt10_1
    replace hqt10_1 := Bool.eq_false_iff.1 hqt10_1
    try simp only [ne_eq, decide_eq_true_eq, Bool.and_eq_true, Bool.or_eq_true, Bool.not_eq_true', decide_eq_false_iff_not] at hqt10_1
    refine wp_skip ?_
    (try simp only [Exit.then, Exit.inBlock, ↓reduceIte, Nat.reduceEqDiff])
    refine hK3 _ _ ?_
    refine wp_seq_k (fun K6 hK6 => ?_)
    have hkk : 0 ≤ k ∧ k < 4 := by have h := hqt10_1; omega
    have hr1 := Row.of_new (k := 1) (V := vStr) (l := [(⟨#[102, 117, 110, 99]⟩ : ByteArray), (⟨#[116, 97, 98, 108, 101]⟩ : ByteArray), (⟨#[109, 101, 109, 111, 114, 121]⟩ : ByteArray), (⟨#[103, 108, 111, 98, 97, 108]⟩ : ByteArray)]) (base := w.heap.size) hk1 (by omega) rfl rfl (Nat.le_of_ble_eq_true rfl)
    skip
    refine wp_region_lit ?_
    refine sqv hf (r_move rfl) rfl rfl rfl ?_; clear hf fa; intro fa hf
    refine sqv hf (r_move rfl) rfl rfl rfl ?_; clear hf fa; intro fa hf
    have hy1 : ([(⟨#[102, 117, 110, 99]⟩ : ByteArray), (⟨#[116, 97, 98, 108, 101]⟩ : ByteArray), (⟨#[109, 101, 109, 111, 114, 121]⟩ : ByteArray), (⟨#[103, 108, 111, 98, 97, 108]⟩ : ByteArray)])[(k).toNat]? = some (kindS k) := (kindS_row k hkk)
    have hel1 := RdS.at (Row.rd (by intros; rfl) hr1) hy1
    obtain ⟨_, _, hab, hlr1, hel1⟩ := hel1
    cases hab
    refine sqv hf (r_ixa (sz := 1) (j := (k).toNat) rfl rfl Try.underlying32 (by kernel_rfl) (by omega) (by omega) rfl) rfl rfl rfl ?_; clear hf fa; intro fa hf
    refine sqv hf (r_load (v := (.string (kindS k))) rfl Try.underlying9 rfl (cellsAt_cell hel1 (i := 0) rfl rfl)) rfl rfl rfl ?_; clear hf fa; intro fa hf
    refine sqv hf (r_assign rfl) rfl rfl rfl ?_; clear hf fa; intro fa hf
    apply wpList_nil
    (try simp only [Exit.then, Exit.inBlock, ↓reduceIte, Nat.reduceEqDiff])
    refine hK6 _ _ ?_
    refine wp_ret ?_
    (try simp only [Exit.then, Exit.inBlock])
    refine ret1 hf rfl rfl ?_
    exact ⟨congrArg (fun s => Ending.returned (.string s)) (by first | rfl | (rw [kindS_no k (by have h := hqt10_1; omega)])), hb⟩

def limitsP (l : MLim) : ByteArray :=
  bif (!l.2.2.1) then ((dS l.1) ++ ⟨#[46, 46]⟩)
  else (((dS l.1) ++ ⟨#[46, 46]⟩) ++ (dS l.2.1))

set_option maxHeartbeats 1000000 in
set_option maxRecDepth 100000 in
theorem limits_any (l : MLim) (w : World) (h1 : 0 ≤ l.1 ∧ l.1 < 4294967296) (h2 : 0 ≤ l.2.1 ∧ l.2.1 < 4294967296) : Calls Try.prog 78 #[(.agg #[(.int .u32 l.1), (.int .u32 l.2.1), (.bool l.2.2.1)])] w fun e w' => e = .returned (.string (limitsP l)) ∧ Below w.heap.size w w' := by
  have hdl0 := dS_len (n := l.1) (inI_u32 (by omega))
  have hdl1 := dS_len (n := l.2.1) (inI_u32 (by omega))
  refine sx_enter (L := [(0, (.agg #[(.int .u32 l.1), (.int .u32 l.2.1), (.bool l.2.2.1)]))]) Try.func78 rfl rfl rfl rfl (fun fa hf => ?_)
  have hb : Below w.heap.size w w := Below.refl _ _
  refine wp_seq_k (fun K1 hK1 => ?_)
  refine wp_region_lit ?_
  refine sqdt hf (d_box (cs := #[(.int .u32 l.1), (.int .u32 l.2.1), (.bool l.2.2.1)]) rfl rfl) rfl rfl rfl ?_; clear hf fa; rintro fa _ w1 ⟨b1, rfl, hle1, hk1, he1⟩ hf
  have hBb1 : w.heap.size ≤ b1 := Nat.le_trans hb.size hle1
  replace hb := hb.trans (Below.mono he1 hb.size)
  refine sqv hf (r_assign rfl) rfl rfl rfl ?_; clear hf fa; intro fa hf
  apply wpList_nil
  (try simp only [Exit.then, Exit.inBlock, ↓reduceIte, Nat.reduceEqDiff])
  refine hK1 _ _ ?_
  refine wp_seq_k (fun K2 hK2 => ?_)
  refine wp_seq_k (fun K3 hK3 => ?_)
  refine wp_region_lit ?_
  refine sqv hf (r_fa rfl Try.underlying98 (f := 2) (q := 2) rfl (by kernel_rfl) rfl) rfl rfl rfl ?_; clear hf fa; intro fa hf
  refine sqv hf (r_load (v := (.bool l.2.2.1)) rfl Try.underlying4 rfl (cell_blk hk1 rfl)) rfl rfl rfl ?_; clear hf fa; intro fa hf
  refine sqv hf (r_not rfl) rfl rfl rfl ?_; clear hf fa; intro fa hf
  apply wpList_nil
  (try simp only [Exit.then, Exit.inBlock, ↓reduceIte, Nat.reduceEqDiff])
  refine hK3 _ _ ?_
  refine wp_cond_split (t := (!l.2.2.1)) (hf.ev rfl) (fun hqt5_1 => ?_) (fun hqt5_1 => ?_)
  · have hqt5_1b := hqt5_1
    try simp only [decide_eq_true_eq, Bool.and_eq_true, Bool.or_eq_true, Bool.not_eq_true', decide_eq_false_iff_not, ne_eq, Bool.not_eq_true] at hqt5_1
    refine wp_seq_k (fun K4 hK4 => ?_)
    refine wp_region_lit ?_
    refine sqv hf (r_fa rfl Try.underlying98 (f := 0) (q := 0) rfl (by kernel_rfl) rfl) rfl rfl rfl ?_; clear hf fa; intro fa hf
    refine sqv hf (r_load (v := (.int .u32 l.1)) rfl Try.underlying31 rfl (cell_blk hk1 rfl)) rfl rfl rfl ?_; clear hf fa; intro fa hf
    refine sqv hf (r_conv (C := l.1) rfl Try.underlying31 Try.underlying63 (by rw [IntKind.wrap_u64]; omega)) rfl rfl rfl ?_; clear hf fa; intro fa hf
    refine sqdt hf (d_callB (vs := [(.int .u64 l.1)]) rfl Try.func40 (by kernel_rfl) (by kernel_rfl) (nat46_any l.1 _ (by omega))) rfl rfl rfl ?_; clear hf fa; rintro fa _ w2 ⟨rfl, he2⟩ hf
    replace hk1 := blk_ext hk1 he2
    replace hb := hb.trans (Below.mono he2 hb.size)
    refine sqv hf (r_sadd rfl rfl (by have : ((⟨#[46, 46]⟩) : ByteArray).size = 2 := rfl; omega)) rfl rfl rfl ?_; clear hf fa; intro fa hf
    refine sqv hf (r_assign rfl) rfl rfl rfl ?_; clear hf fa; intro fa hf
    apply wpList_nil
    (try simp only [Exit.then, Exit.inBlock, ↓reduceIte, Nat.reduceEqDiff])
    refine hK4 _ _ ?_
    refine wp_ret ?_
    (try simp only [Exit.then, Exit.inBlock])
    refine ret1 hf rfl rfl ?_
    refine ⟨?_, hb⟩; unfold limitsP; rw [hqt5_1b]; (try rfl)
  · have hqt5_1b := hqt5_1
    replace hqt5_1 := Bool.eq_false_iff.1 hqt5_1
    try simp only [ne_eq, decide_eq_true_eq, Bool.and_eq_true, Bool.or_eq_true, Bool.not_eq_true', decide_eq_false_iff_not] at hqt5_1
    refine wp_skip ?_
    (try simp only [Exit.then, Exit.inBlock, ↓reduceIte, Nat.reduceEqDiff])
    refine hK2 _ _ ?_
    refine wp_seq_k (fun K5 hK5 => ?_)
    refine wp_region_un (fun wq => Below w1.heap.size w1 wq) (fun w w' => Below w.heap.size w w')
      (fun V => [(fun x _ => x = (.pointer (some ⟨b1, 0, none⟩))), (fun x _ => x = (.int .u32 l.1)), (fun x _ => x = (.int .u64 l.1)), (fun x _ => x = (.string (dS l.1))), (fun x _ => x = (.string ((dS l.1) ++ ⟨#[46, 46]⟩))), (fun x _ => x = (.pointer (some ⟨b1, 1, none⟩))), (fun x _ => x = (.int .u32 l.2.1)), (fun x _ => x = (.int .u64 l.2.1)), (fun x _ => x = (.string (dS l.2.1))), (fun x _ => x = (.string (((dS l.1) ++ ⟨#[46, 46]⟩) ++ (dS l.2.1)))), (fun x _ => x = (.string (((dS l.1) ++ ⟨#[46, 46]⟩) ++ (dS l.2.1))))])
      []
      [[], [0], [1], [2], [3], [], [5], [6], [3, 7], [4, 8], [0, 1, 2, 3, 4, 5, 6, 7, 8, 9]]
      hf (by kernel_rfl) (by kernel_rfl) (fun _ => rfl) ((Below.refl _ _).drew) (fun a b h1 h2 => h1.trans (h2.mono h1.size)) (fun _ _ h => h.size) (fun V => ⟨kept_eq, kept_eq, kept_eq, kept_eq, kept_eq, kept_eq, kept_eq, kept_eq, kept_eq, kept_eq, kept_eq, trivial⟩) (fun _ _ _ _ _ => rfl) ?_ ?_
    · skip
      intro V
      refine ⟨fun wu0 hC hd => ?_, ?_⟩
      · clear hd
        replace hb := hb.trans (hC.mono hb.size)
        replace hk1 := blk_ext hk1 hC
        exact Runs.does (r_fa rfl Try.underlying98 (f := 0) (q := 0) rfl (by kernel_rfl) rfl) ⟨Below.refl _ _, rfl, nofr rfl⟩
      refine ⟨fun wu1 hC hd => ?_, ?_⟩
      · obtain ⟨h0, _⟩ := hd
        skip
        replace h0 : V 0 = (.pointer (some ⟨b1, 0, none⟩)) := h0
        replace hb := hb.trans (hC.mono hb.size)
        replace hk1 := blk_ext hk1 hC
        exact Runs.does (r_load (v := (.int .u32 l.1)) (congrArg some h0) Try.underlying31 rfl (cell_blk hk1 rfl)) ⟨Below.refl _ _, rfl, nofr rfl⟩
      refine ⟨fun wu2 hC hd => ?_, ?_⟩
      · obtain ⟨h1, _⟩ := hd
        skip
        replace h1 : V 1 = (.int .u32 l.1) := h1
        replace hb := hb.trans (hC.mono hb.size)
        replace hk1 := blk_ext hk1 hC
        exact Runs.does (r_conv (C := l.1) (congrArg some h1) Try.underlying31 Try.underlying63 (by rw [IntKind.wrap_u64]; omega)) ⟨Below.refl _ _, rfl, nofr rfl⟩
      refine ⟨fun wu3 hC hd => ?_, ?_⟩
      · obtain ⟨h2, _⟩ := hd
        skip
        replace h2 : V 2 = (.int .u64 l.1) := h2
        replace hb := hb.trans (hC.mono hb.size)
        replace hk1 := blk_ext hk1 hC
        refine Does.mono (d_callB (vs := [(.int .u64 l.1)]) (show [some (V 2)] = [some (.int .u64 l.1)] from by rw [h2]) Try.func40 (by kernel_rfl) (by kernel_rfl) (nat46_any l.1 _ (by omega))) (fun _ _ h => ⟨h.2, h.1, nofr rfl⟩)
      refine ⟨fun wu4 hC hd => ?_, ?_⟩
      · obtain ⟨h3, _⟩ := hd
        skip
        replace h3 : V 3 = (.string (dS l.1)) := h3
        replace hb := hb.trans (hC.mono hb.size)
        replace hk1 := blk_ext hk1 hC
        exact Runs.does (r_sadd (congrArg some h3) rfl (by have : ((⟨#[46, 46]⟩) : ByteArray).size = 2 := rfl; omega)) ⟨Below.refl _ _, rfl, nofr rfl⟩
      refine ⟨fun wu5 hC hd => ?_, ?_⟩
      · clear hd
        replace hb := hb.trans (hC.mono hb.size)
        replace hk1 := blk_ext hk1 hC
        exact Runs.does (r_fa rfl Try.underlying98 (f := 1) (q := 1) rfl (by kernel_rfl) rfl) ⟨Below.refl _ _, rfl, nofr rfl⟩
      refine ⟨fun wu6 hC hd => ?_, ?_⟩
      · obtain ⟨h5, _⟩ := hd
        skip
        replace h5 : V 5 = (.pointer (some ⟨b1, 1, none⟩)) := h5
        replace hb := hb.trans (hC.mono hb.size)
        replace hk1 := blk_ext hk1 hC
        exact Runs.does (r_load (v := (.int .u32 l.2.1)) (congrArg some h5) Try.underlying31 rfl (cell_blk hk1 rfl)) ⟨Below.refl _ _, rfl, nofr rfl⟩
      refine ⟨fun wu7 hC hd => ?_, ?_⟩
      · obtain ⟨h6, _⟩ := hd
        skip
        replace h6 : V 6 = (.int .u32 l.2.1) := h6
        replace hb := hb.trans (hC.mono hb.size)
        replace hk1 := blk_ext hk1 hC
        exact Runs.does (r_conv (C := l.2.1) (congrArg some h6) Try.underlying31 Try.underlying63 (by rw [IntKind.wrap_u64]; omega)) ⟨Below.refl _ _, rfl, nofr rfl⟩
      refine ⟨fun wu8 hC hd => ?_, ?_⟩
      · obtain ⟨h3, h7, _⟩ := hd
        skip
        skip
        replace h3 : V 3 = (.string (dS l.1)) := h3
        replace h7 : V 7 = (.int .u64 l.2.1) := h7
        replace hb := hb.trans (hC.mono hb.size)
        replace hk1 := blk_ext hk1 hC
        refine Does.mono (d_callB (vs := [(.int .u64 l.2.1)]) (show [some (V 7)] = [some (.int .u64 l.2.1)] from by rw [h7]) Try.func40 (by kernel_rfl) (by kernel_rfl) (nat46_any l.2.1 _ (by omega))) (fun _ _ h => ⟨h.2, h.1, nofr rfl⟩)
      refine ⟨fun wu9 hC hd => ?_, ?_⟩
      · obtain ⟨h4, h8, _⟩ := hd
        skip
        skip
        replace h4 : V 4 = (.string ((dS l.1) ++ ⟨#[46, 46]⟩)) := h4
        replace h8 : V 8 = (.string (dS l.2.1)) := h8
        replace hb := hb.trans (hC.mono hb.size)
        replace hk1 := blk_ext hk1 hC
        exact Runs.does (r_sadd (congrArg some h4) (congrArg some h8) (by have : ((⟨#[46, 46]⟩) : ByteArray).size = 2 := rfl; have := sz_app (dS l.1) ⟨#[46, 46]⟩; omega)) ⟨Below.refl _ _, rfl, nofr rfl⟩
      refine ⟨fun wu10 hC hd => ?_, ?_⟩
      · obtain ⟨h0, h1, h2, h3, h4, h5, h6, h7, h8, h9, _⟩ := hd
        skip
        skip
        skip
        skip
        skip
        skip
        skip
        skip
        skip
        skip
        replace h0 : V 0 = (.pointer (some ⟨b1, 0, none⟩)) := h0
        replace h1 : V 1 = (.int .u32 l.1) := h1
        replace h2 : V 2 = (.int .u64 l.1) := h2
        replace h3 : V 3 = (.string (dS l.1)) := h3
        replace h4 : V 4 = (.string ((dS l.1) ++ ⟨#[46, 46]⟩)) := h4
        replace h5 : V 5 = (.pointer (some ⟨b1, 1, none⟩)) := h5
        replace h6 : V 6 = (.int .u32 l.2.1) := h6
        replace h7 : V 7 = (.int .u64 l.2.1) := h7
        replace h8 : V 8 = (.string (dS l.2.1)) := h8
        replace h9 : V 9 = (.string (((dS l.1) ++ ⟨#[46, 46]⟩) ++ (dS l.2.1))) := h9
        replace hb := hb.trans (hC.mono hb.size)
        replace hk1 := blk_ext hk1 hC
        exact Runs.does (r_assign (congrArg some h9)) ⟨Below.refl _ _, rfl, nofr rfl⟩
      trivial
    · skip
      clear hf fa; intro V w3 fa he3 hp hnb hf
      have hv0 : V 0 = (.pointer (some ⟨b1, 0, none⟩)) := postsHold_at hp 0 rfl
      have hv1 : V 1 = (.int .u32 l.1) := postsHold_at hp 1 rfl
      have hv2 : V 2 = (.int .u64 l.1) := postsHold_at hp 2 rfl
      have hv3 : V 3 = (.string (dS l.1)) := postsHold_at hp 3 rfl
      have hv4 : V 4 = (.string ((dS l.1) ++ ⟨#[46, 46]⟩)) := postsHold_at hp 4 rfl
      have hv5 : V 5 = (.pointer (some ⟨b1, 1, none⟩)) := postsHold_at hp 5 rfl
      have hv6 : V 6 = (.int .u32 l.2.1) := postsHold_at hp 6 rfl
      have hv7 : V 7 = (.int .u64 l.2.1) := postsHold_at hp 7 rfl
      have hv8 : V 8 = (.string (dS l.2.1)) := postsHold_at hp 8 rfl
      have hv9 : V 9 = (.string (((dS l.1) ++ ⟨#[46, 46]⟩) ++ (dS l.2.1))) := postsHold_at hp 9 rfl
      have hv10 : V 10 = (.string (((dS l.1) ++ ⟨#[46, 46]⟩) ++ (dS l.2.1))) := postsHold_at hp 10 rfl
      simp only [List.take_succ_cons, List.take_zero, insAll, ins, hv0, hv1, hv2, hv3, hv4, hv5, hv6, hv7, hv8, hv9, hv10] at hf
      clear hp hnb hv0 hv1 hv2 hv3 hv4 hv5 hv6 hv7 hv8 hv9 hv10
      replace hk1 := blk_ext hk1 he3
      replace hb := hb.trans (Below.mono he3 hb.size)
      (try simp only [Exit.then, Exit.inBlock, ↓reduceIte, Nat.reduceEqDiff])
      refine hK5 _ _ ?_
      refine wp_ret ?_
      (try simp only [Exit.then, Exit.inBlock])
      refine ret1 hf rfl rfl ?_
      refine ⟨?_, hb⟩; unfold limitsP; rw [hqt5_1b]; (try rfl)

def globalP (t : MGt) : ByteArray :=
  bif t.2.1 then (⟨#[109, 117, 116, 32]⟩ ++ (tnameP t.1))
  else (tnameP t.1)

set_option maxHeartbeats 1000000 in
set_option maxRecDepth 100000 in
theorem global_any (t : MGt) (w : World)  : Calls Try.prog 77 #[(.agg #[(.int .u8 t.1), (.bool t.2.1)])] w fun e w' => e = .returned (.string (globalP t)) ∧ Below w.heap.size w w' := by
  have htl := tname_le t.1; have hrl : (rnameP t.1).size ≤ 7 := by rw [rname_eq]; exact htl
  refine sx_enter (L := [(0, (.agg #[(.int .u8 t.1), (.bool t.2.1)]))]) Try.func77 rfl rfl rfl rfl (fun fa hf => ?_)
  have hb : Below w.heap.size w w := Below.refl _ _
  refine wp_seq_k (fun K1 hK1 => ?_)
  refine wp_region_lit ?_
  refine sqdt hf (d_box (cs := #[(.int .u8 t.1), (.bool t.2.1)]) rfl rfl) rfl rfl rfl ?_; clear hf fa; rintro fa _ w1 ⟨b1, rfl, hle1, hk1, he1⟩ hf
  have hBb1 : w.heap.size ≤ b1 := Nat.le_trans hb.size hle1
  replace hb := hb.trans (Below.mono he1 hb.size)
  refine sqv hf (r_assign rfl) rfl rfl rfl ?_; clear hf fa; intro fa hf
  apply wpList_nil
  (try simp only [Exit.then, Exit.inBlock, ↓reduceIte, Nat.reduceEqDiff])
  refine hK1 _ _ ?_
  refine wp_seq_k (fun K2 hK2 => ?_)
  refine wp_seq_k (fun K3 hK3 => ?_)
  refine wp_region_lit ?_
  refine sqv hf (r_fa rfl Try.underlying89 (f := 1) (q := 1) rfl (by kernel_rfl) rfl) rfl rfl rfl ?_; clear hf fa; intro fa hf
  refine sqv hf (r_load (v := (.bool t.2.1)) rfl Try.underlying4 rfl (cell_blk hk1 rfl)) rfl rfl rfl ?_; clear hf fa; intro fa hf
  apply wpList_nil
  (try simp only [Exit.then, Exit.inBlock, ↓reduceIte, Nat.reduceEqDiff])
  refine hK3 _ _ ?_
  refine wp_cond_split (t := t.2.1) (hf.ev rfl) (fun hqt4_1 => ?_) (fun hqt4_1 => ?_)
  · have hqt4_1b := hqt4_1
    try simp only [decide_eq_true_eq, Bool.and_eq_true, Bool.or_eq_true, Bool.not_eq_true', decide_eq_false_iff_not, ne_eq, Bool.not_eq_true] at hqt4_1
    refine wp_seq_k (fun K4 hK4 => ?_)
    refine wp_region_lit ?_
    refine sqv hf (r_fa rfl Try.underlying89 (f := 0) (q := 0) rfl (by kernel_rfl) rfl) rfl rfl rfl ?_; clear hf fa; intro fa hf
    refine sqv hf (r_load (v := (.int .u8 t.1)) rfl Try.underlying5 rfl (cell_blk hk1 rfl)) rfl rfl rfl ?_; clear hf fa; intro fa hf
    refine sqdt hf (d_callS (vs := [(.int .u8 t.1)]) rfl Try.func70 (by kernel_rfl) (by kernel_rfl) (tname_any t.1 _)) rfl rfl rfl ?_; clear hf fa; rintro fa _ _ ⟨rfl, rfl⟩ hf
    refine sqv hf (r_sadd rfl rfl (by have : ((⟨#[109, 117, 116, 32]⟩) : ByteArray).size = 4 := rfl; omega)) rfl rfl rfl ?_; clear hf fa; intro fa hf
    refine sqv hf (r_assign rfl) rfl rfl rfl ?_; clear hf fa; intro fa hf
    apply wpList_nil
    (try simp only [Exit.then, Exit.inBlock, ↓reduceIte, Nat.reduceEqDiff])
    refine hK4 _ _ ?_
    refine wp_ret ?_
    (try simp only [Exit.then, Exit.inBlock])
    refine ret1 hf rfl rfl ?_
    refine ⟨?_, hb⟩; unfold globalP; rw [hqt4_1b]; (try rfl)
  · have hqt4_1b := hqt4_1
    replace hqt4_1 := Bool.eq_false_iff.1 hqt4_1
    try simp only [ne_eq, decide_eq_true_eq, Bool.and_eq_true, Bool.or_eq_true, Bool.not_eq_true', decide_eq_false_iff_not] at hqt4_1
    refine wp_skip ?_
    (try simp only [Exit.then, Exit.inBlock, ↓reduceIte, Nat.reduceEqDiff])
    refine hK2 _ _ ?_
    refine wp_seq_k (fun K5 hK5 => ?_)
    refine wp_region_lit ?_
    refine sqv hf (r_fa rfl Try.underlying89 (f := 0) (q := 0) rfl (by kernel_rfl) rfl) rfl rfl rfl ?_; clear hf fa; intro fa hf
    refine sqv hf (r_load (v := (.int .u8 t.1)) rfl Try.underlying5 rfl (cell_blk hk1 rfl)) rfl rfl rfl ?_; clear hf fa; intro fa hf
    refine sqdt hf (d_callS (vs := [(.int .u8 t.1)]) rfl Try.func70 (by kernel_rfl) (by kernel_rfl) (tname_any t.1 _)) rfl rfl rfl ?_; clear hf fa; rintro fa _ _ ⟨rfl, rfl⟩ hf
    refine sqv hf (r_assign rfl) rfl rfl rfl ?_; clear hf fa; intro fa hf
    apply wpList_nil
    (try simp only [Exit.then, Exit.inBlock, ↓reduceIte, Nat.reduceEqDiff])
    refine hK5 _ _ ?_
    refine wp_ret ?_
    (try simp only [Exit.then, Exit.inBlock])
    refine ret1 hf rfl rfl ?_
    refine ⟨?_, hb⟩; unfold globalP; rw [hqt4_1b]; (try rfl)

def takenP (z : MImp) : ByteArray :=
  bif (decide (z.2.2.1 = (0 : Int))) then (dS z.2.2.2.1)
  else bif (decide (z.2.2.1 = (3 : Int))) then (globalP z.2.2.2.2.2.1)
  else (limitsP z.2.2.2.2.1)

set_option maxHeartbeats 1000000 in
set_option maxRecDepth 100000 in
theorem taken_any (z : MImp) (w : World) (hk : 0 ≤ z.2.2.1 ∧ z.2.2.1 < 256) (ht : 0 ≤ z.2.2.2.1 ∧ z.2.2.2.1 < 4294967296) (h1 : 0 ≤ z.2.2.2.2.1.1 ∧ z.2.2.2.2.1.1 < 4294967296) (h2 : 0 ≤ z.2.2.2.2.1.2.1 ∧ z.2.2.2.2.1.2.1 < 4294967296) (h3 : 0 ≤ z.2.2.2.2.2.1.1 ∧ z.2.2.2.2.2.1.1 < 256) : Calls Try.prog 44 #[(.agg #[(.string z.1), (.string z.2.1), (.int .u8 z.2.2.1), (.int .u32 z.2.2.2.1), (.int .u32 z.2.2.2.2.1.1), (.int .u32 z.2.2.2.2.1.2.1), (.bool z.2.2.2.2.1.2.2.1), (.int .u8 z.2.2.2.2.2.1.1), (.bool z.2.2.2.2.2.1.2.1)])] w fun e w' => e = .returned (.string (takenP z)) ∧ Below w.heap.size w w' := by
  have hdl0 := dS_len (n := z.2.2.2.1) (inI_u32 (by omega))
  have hdl1 := dS_len (n := z.2.2.2.2.1.1) (inI_u32 (by omega))
  have hdl2 := dS_len (n := z.2.2.2.2.1.2.1) (inI_u32 (by omega))
  have htl := tname_le z.2.2.2.2.2.1.1; have hrl : (rnameP z.2.2.2.2.2.1.1).size ≤ 7 := by rw [rname_eq]; exact htl
  refine sx_enter (L := [(0, (.agg #[(.string z.1), (.string z.2.1), (.int .u8 z.2.2.1), (.int .u32 z.2.2.2.1), (.int .u32 z.2.2.2.2.1.1), (.int .u32 z.2.2.2.2.1.2.1), (.bool z.2.2.2.2.1.2.2.1), (.int .u8 z.2.2.2.2.2.1.1), (.bool z.2.2.2.2.2.1.2.1)]))]) Try.func44 rfl rfl rfl rfl (fun fa hf => ?_)
  have hb : Below w.heap.size w w := Below.refl _ _
  refine wp_seq_k (fun K1 hK1 => ?_)
  refine wp_region_lit ?_
  refine sqdt hf (d_box (cs := #[(.string z.1), (.string z.2.1), (.int .u8 z.2.2.1), (.int .u32 z.2.2.2.1), (.int .u32 z.2.2.2.2.1.1), (.int .u32 z.2.2.2.2.1.2.1), (.bool z.2.2.2.2.1.2.2.1), (.int .u8 z.2.2.2.2.2.1.1), (.bool z.2.2.2.2.2.1.2.1)]) rfl rfl) rfl rfl rfl ?_; clear hf fa; rintro fa _ w1 ⟨b1, rfl, hle1, hk1, he1⟩ hf
  have hBb1 : w.heap.size ≤ b1 := Nat.le_trans hb.size hle1
  replace hb := hb.trans (Below.mono he1 hb.size)
  refine sqv hf (r_assign rfl) rfl rfl rfl ?_; clear hf fa; intro fa hf
  apply wpList_nil
  (try simp only [Exit.then, Exit.inBlock, ↓reduceIte, Nat.reduceEqDiff])
  refine hK1 _ _ ?_
  refine wp_seq_k (fun K2 hK2 => ?_)
  refine wp_seq_k (fun K3 hK3 => ?_)
  refine wp_region_lit ?_
  refine sqv hf (r_fa rfl Try.underlying100 (f := 2) (q := 2) rfl (by kernel_rfl) rfl) rfl rfl rfl ?_; clear hf fa; intro fa hf
  refine sqv hf (r_load (v := (.int .u8 z.2.2.1)) rfl Try.underlying5 rfl (cell_blk hk1 rfl)) rfl rfl rfl ?_; clear hf fa; intro fa hf
  apply wpList_nil
  (try simp only [Exit.then, Exit.inBlock, ↓reduceIte, Nat.reduceEqDiff])
  refine hK3 _ _ ?_
  refine wp_block ?_
  refine wp_seq_k (fun K4 hK4 => ?_)
  refine wp_region_lit ?_
  refine sqv hf (r_eq rfl rfl) rfl rfl rfl ?_; clear hf fa; intro fa hf
  refine sqv hf (r_assign rfl) rfl rfl rfl ?_; clear hf fa; intro fa hf
  apply wpList_nil
  (try simp only [Exit.then, Exit.inBlock, ↓reduceIte, Nat.reduceEqDiff])
  refine hK4 _ _ ?_
  refine wp_cond_split (t := (decide (z.2.2.1 = (0 : Int)))) (hf.ev rfl) (fun hqt5_1 => ?_) (fun hqt5_1 => ?_)
  · have hqt5_1b := hqt5_1
    try simp only [decide_eq_true_eq, Bool.and_eq_true, Bool.or_eq_true, Bool.not_eq_true', decide_eq_false_iff_not, ne_eq, Bool.not_eq_true] at hqt5_1
    refine wp_seq_k (fun K5 hK5 => ?_)
    refine wp_region_lit ?_
    refine sqv hf (r_fa rfl Try.underlying100 (f := 3) (q := 3) rfl (by kernel_rfl) rfl) rfl rfl rfl ?_; clear hf fa; intro fa hf
    refine sqv hf (r_load (v := (.int .u32 z.2.2.2.1)) rfl Try.underlying31 rfl (cell_blk hk1 rfl)) rfl rfl rfl ?_; clear hf fa; intro fa hf
    refine sqv hf (r_conv (C := z.2.2.2.1) rfl Try.underlying31 Try.underlying63 (by rw [IntKind.wrap_u64]; omega)) rfl rfl rfl ?_; clear hf fa; intro fa hf
    refine sqdt hf (d_callB (vs := [(.int .u64 z.2.2.2.1)]) rfl Try.func40 (by kernel_rfl) (by kernel_rfl) (nat46_any z.2.2.2.1 _ (by omega))) rfl rfl rfl ?_; clear hf fa; rintro fa _ w2 ⟨rfl, he2⟩ hf
    replace hk1 := blk_ext hk1 he2
    replace hb := hb.trans (Below.mono he2 hb.size)
    refine sqv hf (r_assign rfl) rfl rfl rfl ?_; clear hf fa; intro fa hf
    apply wpList_nil
    (try simp only [Exit.then, Exit.inBlock, ↓reduceIte, Nat.reduceEqDiff])
    refine hK5 _ _ ?_
    refine wp_ret ?_
    (try simp only [Exit.then, Exit.inBlock])
    refine ret1 hf rfl rfl ?_
    refine ⟨?_, hb⟩; unfold takenP; rw [hqt5_1b]; (try rfl)
  · have hqt5_1b := hqt5_1
    replace hqt5_1 := Bool.eq_false_iff.1 hqt5_1
    try simp only [ne_eq, decide_eq_true_eq, Bool.and_eq_true, Bool.or_eq_true, Bool.not_eq_true', decide_eq_false_iff_not] at hqt5_1
    refine wp_seq_k (fun K6 hK6 => ?_)
    refine wp_region_lit ?_
    refine sqv hf (r_eq rfl rfl) rfl rfl rfl ?_; clear hf fa; intro fa hf
    refine sqv hf (r_assign rfl) rfl rfl rfl ?_; clear hf fa; intro fa hf
    apply wpList_nil
    (try simp only [Exit.then, Exit.inBlock, ↓reduceIte, Nat.reduceEqDiff])
    refine hK6 _ _ ?_
    refine wp_cond_split (t := (decide (z.2.2.1 = (3 : Int)))) (hf.ev rfl) (fun hqt11_1 => ?_) (fun hqt11_1 => ?_)
    · have hqt11_1b := hqt11_1
      try simp only [decide_eq_true_eq, Bool.and_eq_true, Bool.or_eq_true, Bool.not_eq_true', decide_eq_false_iff_not, ne_eq, Bool.not_eq_true] at hqt11_1
      refine wp_seq_k (fun K7 hK7 => ?_)
      refine wp_region_lit ?_
      refine sqv hf (r_fa rfl Try.underlying100 (f := 5) (q := 7) rfl (by kernel_rfl) rfl) rfl rfl rfl ?_; clear hf fa; intro fa hf
      refine sqv hf (r_loadA (cs := [(.int .u8 z.2.2.2.2.2.1.1), (.bool z.2.2.2.2.2.1.2.1)]) rfl Try.underlying89 rfl (by kernel_rfl) (cellsAt_part (d := 7) (n := 2) (cellsAt_blk hk1) rfl rfl)) rfl rfl rfl ?_; clear hf fa; intro fa hf
      refine sqdt hf (d_callB (vs := [(.agg #[(.int .u8 z.2.2.2.2.2.1.1), (.bool z.2.2.2.2.2.1.2.1)])]) rfl Try.func77 (by kernel_rfl) (by kernel_rfl) (global_any z.2.2.2.2.2.1 _)) rfl rfl rfl ?_; clear hf fa; rintro fa _ w3 ⟨rfl, he3⟩ hf
      replace hk1 := blk_ext hk1 he3
      replace hb := hb.trans (Below.mono he3 hb.size)
      refine sqv hf (r_assign rfl) rfl rfl rfl ?_; clear hf fa; intro fa hf
      apply wpList_nil
      (try simp only [Exit.then, Exit.inBlock, ↓reduceIte, Nat.reduceEqDiff])
      refine hK7 _ _ ?_
      refine wp_ret ?_
      (try simp only [Exit.then, Exit.inBlock])
      refine ret1 hf rfl rfl ?_
      refine ⟨?_, hb⟩; unfold takenP; rw [hqt5_1b, hqt11_1b]; (try rfl)
    · have hqt11_1b := hqt11_1
      replace hqt11_1 := Bool.eq_false_iff.1 hqt11_1
      try simp only [ne_eq, decide_eq_true_eq, Bool.and_eq_true, Bool.or_eq_true, Bool.not_eq_true', decide_eq_false_iff_not] at hqt11_1
      refine wp_skip ?_
      (try simp only [Exit.then, Exit.inBlock, ↓reduceIte, Nat.reduceEqDiff])
      refine hK2 _ _ ?_
      refine wp_seq_k (fun K8 hK8 => ?_)
      refine wp_region_lit ?_
      refine sqv hf (r_fa rfl Try.underlying100 (f := 4) (q := 4) rfl (by kernel_rfl) rfl) rfl rfl rfl ?_; clear hf fa; intro fa hf
      refine sqv hf (r_loadA (cs := [(.int .u32 z.2.2.2.2.1.1), (.int .u32 z.2.2.2.2.1.2.1), (.bool z.2.2.2.2.1.2.2.1)]) rfl Try.underlying98 rfl (by kernel_rfl) (cellsAt_part (d := 4) (n := 3) (cellsAt_blk hk1) rfl rfl)) rfl rfl rfl ?_; clear hf fa; intro fa hf
      refine sqdt hf (d_callB (vs := [(.agg #[(.int .u32 z.2.2.2.2.1.1), (.int .u32 z.2.2.2.2.1.2.1), (.bool z.2.2.2.2.1.2.2.1)])]) rfl Try.func78 (by kernel_rfl) (by kernel_rfl) (limits_any z.2.2.2.2.1 _ h1 h2)) rfl rfl rfl ?_; clear hf fa; rintro fa _ w4 ⟨rfl, he4⟩ hf
      replace hk1 := blk_ext hk1 he4
      replace hb := hb.trans (Below.mono he4 hb.size)
      refine sqv hf (r_assign rfl) rfl rfl rfl ?_; clear hf fa; intro fa hf
      apply wpList_nil
      (try simp only [Exit.then, Exit.inBlock, ↓reduceIte, Nat.reduceEqDiff])
      refine hK8 _ _ ?_
      refine wp_ret ?_
      (try simp only [Exit.then, Exit.inBlock])
      refine ret1 hf rfl rfl ?_
      refine ⟨?_, hb⟩; unfold takenP; rw [hqt5_1b, hqt11_1b]; (try rfl)

def rtakenP (z : MImp) : ByteArray :=
  bif (decide (z.2.2.1 = (0 : Int))) then (dS z.2.2.2.1)
  else bif ((decide (z.2.2.1 = (3 : Int))) && z.2.2.2.2.2.1.2.1) then (⟨#[109, 117, 116, 32]⟩ ++ (rnameP z.2.2.2.2.2.1.1))
  else bif (decide (z.2.2.1 = (3 : Int))) then (rnameP z.2.2.2.2.2.1.1)
  else bif z.2.2.2.2.1.2.2.1 then (((dS z.2.2.2.2.1.1) ++ ⟨#[46, 46]⟩) ++ (dS z.2.2.2.2.1.2.1))
  else ((dS z.2.2.2.2.1.1) ++ ⟨#[46, 46]⟩)

set_option maxHeartbeats 1000000 in
set_option maxRecDepth 100000 in
theorem rtaken_any (z : MImp) (w : World) (hk : 0 ≤ z.2.2.1 ∧ z.2.2.1 < 256) (ht : 0 ≤ z.2.2.2.1 ∧ z.2.2.2.1 < 4294967296) (h1 : 0 ≤ z.2.2.2.2.1.1 ∧ z.2.2.2.2.1.1 < 4294967296) (h2 : 0 ≤ z.2.2.2.2.1.2.1 ∧ z.2.2.2.2.1.2.1 < 4294967296) (h3 : 0 ≤ z.2.2.2.2.2.1.1 ∧ z.2.2.2.2.2.1.1 < 256) : Calls Try.prog 49 #[(.agg #[(.string z.1), (.string z.2.1), (.int .u8 z.2.2.1), (.int .u32 z.2.2.2.1), (.int .u32 z.2.2.2.2.1.1), (.int .u32 z.2.2.2.2.1.2.1), (.bool z.2.2.2.2.1.2.2.1), (.int .u8 z.2.2.2.2.2.1.1), (.bool z.2.2.2.2.2.1.2.1)])] w fun e w' => e = .returned (.string (rtakenP z)) ∧ Below w.heap.size w w' := by
  have hdl0 := dS_len (n := z.2.2.2.1) (inI_u32 (by omega))
  have hdl1 := dS_len (n := z.2.2.2.2.1.1) (inI_u32 (by omega))
  have hdl2 := dS_len (n := z.2.2.2.2.1.2.1) (inI_u32 (by omega))
  have htl := tname_le z.2.2.2.2.2.1.1; have hrl : (rnameP z.2.2.2.2.2.1.1).size ≤ 7 := by rw [rname_eq]; exact htl
  refine sx_enter (L := [(0, (.agg #[(.string z.1), (.string z.2.1), (.int .u8 z.2.2.1), (.int .u32 z.2.2.2.1), (.int .u32 z.2.2.2.2.1.1), (.int .u32 z.2.2.2.2.1.2.1), (.bool z.2.2.2.2.1.2.2.1), (.int .u8 z.2.2.2.2.2.1.1), (.bool z.2.2.2.2.2.1.2.1)]))]) Try.func49 rfl rfl rfl rfl (fun fa hf => ?_)
  have hb : Below w.heap.size w w := Below.refl _ _
  refine wp_seq_k (fun K1 hK1 => ?_)
  refine wp_region_lit ?_
  refine sqdt hf (d_box (cs := #[(.string z.1), (.string z.2.1), (.int .u8 z.2.2.1), (.int .u32 z.2.2.2.1), (.int .u32 z.2.2.2.2.1.1), (.int .u32 z.2.2.2.2.1.2.1), (.bool z.2.2.2.2.1.2.2.1), (.int .u8 z.2.2.2.2.2.1.1), (.bool z.2.2.2.2.2.1.2.1)]) rfl rfl) rfl rfl rfl ?_; clear hf fa; rintro fa _ w1 ⟨b1, rfl, hle1, hk1, he1⟩ hf
  have hBb1 : w.heap.size ≤ b1 := Nat.le_trans hb.size hle1
  replace hb := hb.trans (Below.mono he1 hb.size)
  refine sqv hf (r_assign rfl) rfl rfl rfl ?_; clear hf fa; intro fa hf
  apply wpList_nil
  (try simp only [Exit.then, Exit.inBlock, ↓reduceIte, Nat.reduceEqDiff])
  refine hK1 _ _ ?_
  refine wp_seq_k (fun K2 hK2 => ?_)
  refine wp_seq_k (fun K3 hK3 => ?_)
  refine wp_region_lit ?_
  refine sqv hf (r_fa rfl Try.underlying100 (f := 2) (q := 2) rfl (by kernel_rfl) rfl) rfl rfl rfl ?_; clear hf fa; intro fa hf
  refine sqv hf (r_load (v := (.int .u8 z.2.2.1)) rfl Try.underlying5 rfl (cell_blk hk1 rfl)) rfl rfl rfl ?_; clear hf fa; intro fa hf
  refine sqv hf (r_eq rfl rfl) rfl rfl rfl ?_; clear hf fa; intro fa hf
  apply wpList_nil
  (try simp only [Exit.then, Exit.inBlock, ↓reduceIte, Nat.reduceEqDiff])
  refine hK3 _ _ ?_
  refine wp_cond_split (t := (decide (z.2.2.1 = (0 : Int)))) (hf.ev rfl) (fun hqt5_1 => ?_) (fun hqt5_1 => ?_)
  · have hqt5_1b := hqt5_1
    try simp only [decide_eq_true_eq, Bool.and_eq_true, Bool.or_eq_true, Bool.not_eq_true', decide_eq_false_iff_not, ne_eq, Bool.not_eq_true] at hqt5_1
    refine wp_seq_k (fun K4 hK4 => ?_)
    refine wp_region_lit ?_
    refine sqv hf (r_fa rfl Try.underlying100 (f := 3) (q := 3) rfl (by kernel_rfl) rfl) rfl rfl rfl ?_; clear hf fa; intro fa hf
    refine sqv hf (r_load (v := (.int .u32 z.2.2.2.1)) rfl Try.underlying31 rfl (cell_blk hk1 rfl)) rfl rfl rfl ?_; clear hf fa; intro fa hf
    refine sqv hf (r_conv (C := z.2.2.2.1) rfl Try.underlying31 Try.underlying63 (by rw [IntKind.wrap_u64]; omega)) rfl rfl rfl ?_; clear hf fa; intro fa hf
    refine sqdt hf (d_callB (vs := [(.int .u64 z.2.2.2.1)]) rfl Try.func45 (by kernel_rfl) (by kernel_rfl) (num46_any z.2.2.2.1 _ (by omega))) rfl rfl rfl ?_; clear hf fa; rintro fa _ w2 ⟨rfl, he2⟩ hf
    replace hk1 := blk_ext hk1 he2
    replace hb := hb.trans (Below.mono he2 hb.size)
    refine sqv hf (r_assign rfl) rfl rfl rfl ?_; clear hf fa; intro fa hf
    apply wpList_nil
    (try simp only [Exit.then, Exit.inBlock, ↓reduceIte, Nat.reduceEqDiff])
    refine hK4 _ _ ?_
    refine wp_ret ?_
    (try simp only [Exit.then, Exit.inBlock])
    refine ret1 hf rfl rfl ?_
    refine ⟨?_, hb⟩; unfold rtakenP; rw [hqt5_1b]; (try rfl)
  · have hqt5_1b := hqt5_1
    replace hqt5_1 := Bool.eq_false_iff.1 hqt5_1
    try simp only [ne_eq, decide_eq_true_eq, Bool.and_eq_true, Bool.or_eq_true, Bool.not_eq_true', decide_eq_false_iff_not] at hqt5_1
    refine wp_skip ?_
    (try simp only [Exit.then, Exit.inBlock, ↓reduceIte, Nat.reduceEqDiff])
    refine hK2 _ _ ?_
    refine wp_seq_k (fun K5 hK5 => ?_)
    refine wp_seq_k (fun K6 hK6 => ?_)
    refine wp_region_lit ?_
    refine sqv hf (r_fa rfl Try.underlying100 (f := 2) (q := 2) rfl (by kernel_rfl) rfl) rfl rfl rfl ?_; clear hf fa; intro fa hf
    refine sqv hf (r_load (v := (.int .u8 z.2.2.1)) rfl Try.underlying5 rfl (cell_blk hk1 rfl)) rfl rfl rfl ?_; clear hf fa; intro fa hf
    refine sqv hf (r_eq rfl rfl) rfl rfl rfl ?_; clear hf fa; intro fa hf
    refine sqv hf (r_move rfl) rfl rfl rfl ?_; clear hf fa; intro fa hf
    refine sqgT (act := (decide (z.2.2.1 = (3 : Int)))) (ag := true) (c := (decide (z.2.2.1 = (3 : Int)))) (v := (.pointer (some ⟨b1, 7, none⟩))) hf rfl rfl rfl (fun hact => (r_fa rfl Try.underlying100 (f := 5) (q := 7) rfl (by kernel_rfl) rfl)) rfl rfl ?_; clear hf fa; intro fa hf
    refine sqgT (act := (decide (z.2.2.1 = (3 : Int)))) (ag := true) (c := (decide (z.2.2.1 = (3 : Int)))) (v := (.pointer (some ⟨b1, 8, none⟩))) hf rfl rfl rfl (fun hact => (r_fa (gb_ev hact rfl) Try.underlying89 (f := 1) (q := 8) rfl (by kernel_rfl) rfl)) rfl rfl ?_; clear hf fa; intro fa hf
    refine sqgT (act := (decide (z.2.2.1 = (3 : Int)))) (ag := true) (c := (decide (z.2.2.1 = (3 : Int)))) (v := (.bool z.2.2.2.2.2.1.2.1)) hf rfl rfl rfl (fun hact => (r_load (v := (.bool z.2.2.2.2.2.1.2.1)) (gb_ev hact rfl) Try.underlying4 rfl (cell_blk hk1 rfl))) rfl rfl ?_; clear hf fa; intro fa hf
    refine sqv hf (r_pickA (b := (decide (z.2.2.1 = (3 : Int)))) (e := z.2.2.2.2.2.1.2.1) rfl rfl rfl) rfl rfl rfl ?_; clear hf fa; intro fa hf
    apply wpList_nil
    (try simp only [Exit.then, Exit.inBlock, ↓reduceIte, Nat.reduceEqDiff])
    refine hK6 _ _ ?_
    refine wp_cond_split (t := ((decide (z.2.2.1 = (3 : Int))) && z.2.2.2.2.2.1.2.1)) (hf.ev rfl) (fun hqt17_1 => ?_) (fun hqt17_1 => ?_)
    · have hqt17_1b := hqt17_1
      try simp only [decide_eq_true_eq, Bool.and_eq_true, Bool.or_eq_true, Bool.not_eq_true', decide_eq_false_iff_not, ne_eq, Bool.not_eq_true] at hqt17_1
      refine wp_seq_k (fun K7 hK7 => ?_)
      refine wp_region_lit ?_
      refine sqv hf (r_fa rfl Try.underlying100 (f := 5) (q := 7) rfl (by kernel_rfl) rfl) rfl rfl rfl ?_; clear hf fa; intro fa hf
      refine sqv hf (r_fa rfl Try.underlying89 (f := 0) (q := 7) rfl (by kernel_rfl) rfl) rfl rfl rfl ?_; clear hf fa; intro fa hf
      refine sqv hf (r_load (v := (.int .u8 z.2.2.2.2.2.1.1)) rfl Try.underlying5 rfl (cell_blk hk1 rfl)) rfl rfl rfl ?_; clear hf fa; intro fa hf
      refine sqv hf (r_conv (C := z.2.2.2.2.2.1.1) rfl Try.underlying5 Try.underlying3 (by rw [IntKind.wrap_i64]; omega)) rfl rfl rfl ?_; clear hf fa; intro fa hf
      refine sqdt hf (d_callB (vs := [(.int .i64 z.2.2.2.2.2.1.1)]) rfl Try.func71 (by kernel_rfl) (by kernel_rfl) (rname_any z.2.2.2.2.2.1.1 _ (by omega))) rfl rfl rfl ?_; clear hf fa; rintro fa _ w3 ⟨rfl, he3⟩ hf
      replace hk1 := blk_ext hk1 he3
      replace hb := hb.trans (Below.mono he3 hb.size)
      refine sqv hf (r_sadd rfl rfl (by have : ((⟨#[109, 117, 116, 32]⟩) : ByteArray).size = 4 := rfl; omega)) rfl rfl rfl ?_; clear hf fa; intro fa hf
      refine sqv hf (r_assign rfl) rfl rfl rfl ?_; clear hf fa; intro fa hf
      apply wpList_nil
      (try simp only [Exit.then, Exit.inBlock, ↓reduceIte, Nat.reduceEqDiff])
      refine hK7 _ _ ?_
      refine wp_ret ?_
      (try simp only [Exit.then, Exit.inBlock])
      refine ret1 hf rfl rfl ?_
      refine ⟨?_, hb⟩; unfold rtakenP; rw [hqt5_1b, hqt17_1b]; (try rfl)
    · have hqt17_1b := hqt17_1
      replace hqt17_1 := Bool.eq_false_iff.1 hqt17_1
      try simp only [ne_eq, decide_eq_true_eq, Bool.and_eq_true, Bool.or_eq_true, Bool.not_eq_true', decide_eq_false_iff_not] at hqt17_1
      refine wp_skip ?_
      (try simp only [Exit.then, Exit.inBlock, ↓reduceIte, Nat.reduceEqDiff])
      refine hK5 _ _ ?_
      refine wp_seq_k (fun K8 hK8 => ?_)
      refine wp_seq_k (fun K9 hK9 => ?_)
      refine wp_region_lit ?_
      refine sqv hf (r_fa rfl Try.underlying100 (f := 2) (q := 2) rfl (by kernel_rfl) rfl) rfl rfl rfl ?_; clear hf fa; intro fa hf
      refine sqv hf (r_load (v := (.int .u8 z.2.2.1)) rfl Try.underlying5 rfl (cell_blk hk1 rfl)) rfl rfl rfl ?_; clear hf fa; intro fa hf
      refine sqv hf (r_eq rfl rfl) rfl rfl rfl ?_; clear hf fa; intro fa hf
      apply wpList_nil
      (try simp only [Exit.then, Exit.inBlock, ↓reduceIte, Nat.reduceEqDiff])
      refine hK9 _ _ ?_
      refine wp_cond_split (t := (decide (z.2.2.1 = (3 : Int)))) (hf.ev rfl) (fun hqt26_1 => ?_) (fun hqt26_1 => ?_)
      · have hqt26_1b := hqt26_1
        try simp only [decide_eq_true_eq, Bool.and_eq_true, Bool.or_eq_true, Bool.not_eq_true', decide_eq_false_iff_not, ne_eq, Bool.not_eq_true] at hqt26_1
        refine wp_seq_k (fun K10 hK10 => ?_)
        refine wp_region_lit ?_
        refine sqv hf (r_fa rfl Try.underlying100 (f := 5) (q := 7) rfl (by kernel_rfl) rfl) rfl rfl rfl ?_; clear hf fa; intro fa hf
        refine sqv hf (r_fa rfl Try.underlying89 (f := 0) (q := 7) rfl (by kernel_rfl) rfl) rfl rfl rfl ?_; clear hf fa; intro fa hf
        refine sqv hf (r_load (v := (.int .u8 z.2.2.2.2.2.1.1)) rfl Try.underlying5 rfl (cell_blk hk1 rfl)) rfl rfl rfl ?_; clear hf fa; intro fa hf
        refine sqv hf (r_conv (C := z.2.2.2.2.2.1.1) rfl Try.underlying5 Try.underlying3 (by rw [IntKind.wrap_i64]; omega)) rfl rfl rfl ?_; clear hf fa; intro fa hf
        refine sqdt hf (d_callB (vs := [(.int .i64 z.2.2.2.2.2.1.1)]) rfl Try.func71 (by kernel_rfl) (by kernel_rfl) (rname_any z.2.2.2.2.2.1.1 _ (by omega))) rfl rfl rfl ?_; clear hf fa; rintro fa _ w4 ⟨rfl, he4⟩ hf
        replace hk1 := blk_ext hk1 he4
        replace hb := hb.trans (Below.mono he4 hb.size)
        refine sqv hf (r_assign rfl) rfl rfl rfl ?_; clear hf fa; intro fa hf
        apply wpList_nil
        (try simp only [Exit.then, Exit.inBlock, ↓reduceIte, Nat.reduceEqDiff])
        refine hK10 _ _ ?_
        refine wp_ret ?_
        (try simp only [Exit.then, Exit.inBlock])
        refine ret1 hf rfl rfl ?_
        refine ⟨?_, hb⟩; unfold rtakenP; rw [hqt5_1b, hqt17_1b, hqt26_1b]; (try rfl)
      · have hqt26_1b := hqt26_1
        replace hqt26_1 := Bool.eq_false_iff.1 hqt26_1
        try simp only [ne_eq, decide_eq_true_eq, Bool.and_eq_true, Bool.or_eq_true, Bool.not_eq_true', decide_eq_false_iff_not] at hqt26_1
        refine wp_skip ?_
        (try simp only [Exit.then, Exit.inBlock, ↓reduceIte, Nat.reduceEqDiff])
        refine hK8 _ _ ?_
        refine wp_seq_k (fun K11 hK11 => ?_)
        refine wp_seq_k (fun K12 hK12 => ?_)
        refine wp_region_lit ?_
        refine sqv hf (r_fa rfl Try.underlying100 (f := 4) (q := 4) rfl (by kernel_rfl) rfl) rfl rfl rfl ?_; clear hf fa; intro fa hf
        refine sqv hf (r_fa rfl Try.underlying98 (f := 2) (q := 6) rfl (by kernel_rfl) rfl) rfl rfl rfl ?_; clear hf fa; intro fa hf
        refine sqv hf (r_load (v := (.bool z.2.2.2.2.1.2.2.1)) rfl Try.underlying4 rfl (cell_blk hk1 rfl)) rfl rfl rfl ?_; clear hf fa; intro fa hf
        apply wpList_nil
        (try simp only [Exit.then, Exit.inBlock, ↓reduceIte, Nat.reduceEqDiff])
        refine hK12 _ _ ?_
        refine wp_cond_split (t := z.2.2.2.2.1.2.2.1) (hf.ev rfl) (fun hqt34_1 => ?_) (fun hqt34_1 => ?_)
        · have hqt34_1b := hqt34_1
          try simp only [decide_eq_true_eq, Bool.and_eq_true, Bool.or_eq_true, Bool.not_eq_true', decide_eq_false_iff_not, ne_eq, Bool.not_eq_true] at hqt34_1
          refine wp_seq_k (fun K13 hK13 => ?_)
          refine wp_region_un (fun wq => Below w1.heap.size w1 wq) (fun w w' => Below w.heap.size w w')
            (fun V => [(fun x _ => x = (.pointer (some ⟨b1, 4, none⟩))), (fun x _ => x = (.pointer (some ⟨b1, 4, none⟩))), (fun x _ => x = (.int .u32 z.2.2.2.2.1.1)), (fun x _ => x = (.int .u64 z.2.2.2.2.1.1)), (fun x _ => x = (.string (dS z.2.2.2.2.1.1))), (fun x _ => x = (.string ((dS z.2.2.2.2.1.1) ++ ⟨#[46, 46]⟩))), (fun x _ => x = (.pointer (some ⟨b1, 4, none⟩))), (fun x _ => x = (.pointer (some ⟨b1, 5, none⟩))), (fun x _ => x = (.int .u32 z.2.2.2.2.1.2.1)), (fun x _ => x = (.int .u64 z.2.2.2.2.1.2.1)), (fun x _ => x = (.string (dS z.2.2.2.2.1.2.1))), (fun x _ => x = (.string (((dS z.2.2.2.2.1.1) ++ ⟨#[46, 46]⟩) ++ (dS z.2.2.2.2.1.2.1)))), (fun x _ => x = (.string (((dS z.2.2.2.2.1.1) ++ ⟨#[46, 46]⟩) ++ (dS z.2.2.2.2.1.2.1))))])
            []
            [[], [0], [1], [2], [3], [4], [], [6], [7], [8], [4, 9], [5, 10], [0, 1, 2, 3, 4, 5, 6, 7, 8, 9, 10, 11]]
            hf (by kernel_rfl) (by kernel_rfl) (fun _ => rfl) ((Below.refl _ _).drew) (fun a b h1 h2 => h1.trans (h2.mono h1.size)) (fun _ _ h => h.size) (fun V => ⟨kept_eq, kept_eq, kept_eq, kept_eq, kept_eq, kept_eq, kept_eq, kept_eq, kept_eq, kept_eq, kept_eq, kept_eq, kept_eq, trivial⟩) (fun _ _ _ _ _ => rfl) ?_ ?_
          · skip
            intro V
            refine ⟨fun wu0 hC hd => ?_, ?_⟩
            · clear hd
              replace hb := hb.trans (hC.mono hb.size)
              replace hk1 := blk_ext hk1 hC
              exact Runs.does (r_fa rfl Try.underlying100 (f := 4) (q := 4) rfl (by kernel_rfl) rfl) ⟨Below.refl _ _, rfl, nofr rfl⟩
            refine ⟨fun wu1 hC hd => ?_, ?_⟩
            · obtain ⟨h0, _⟩ := hd
              skip
              replace h0 : V 0 = (.pointer (some ⟨b1, 4, none⟩)) := h0
              replace hb := hb.trans (hC.mono hb.size)
              replace hk1 := blk_ext hk1 hC
              exact Runs.does (r_fa (congrArg some h0) Try.underlying98 (f := 0) (q := 4) rfl (by kernel_rfl) rfl) ⟨Below.refl _ _, rfl, nofr rfl⟩
            refine ⟨fun wu2 hC hd => ?_, ?_⟩
            · obtain ⟨h1, _⟩ := hd
              skip
              replace h1 : V 1 = (.pointer (some ⟨b1, 4, none⟩)) := h1
              replace hb := hb.trans (hC.mono hb.size)
              replace hk1 := blk_ext hk1 hC
              exact Runs.does (r_load (v := (.int .u32 z.2.2.2.2.1.1)) (congrArg some h1) Try.underlying31 rfl (cell_blk hk1 rfl)) ⟨Below.refl _ _, rfl, nofr rfl⟩
            refine ⟨fun wu3 hC hd => ?_, ?_⟩
            · obtain ⟨h2, _⟩ := hd
              skip
              replace h2 : V 2 = (.int .u32 z.2.2.2.2.1.1) := h2
              replace hb := hb.trans (hC.mono hb.size)
              replace hk1 := blk_ext hk1 hC
              exact Runs.does (r_conv (C := z.2.2.2.2.1.1) (congrArg some h2) Try.underlying31 Try.underlying63 (by rw [IntKind.wrap_u64]; omega)) ⟨Below.refl _ _, rfl, nofr rfl⟩
            refine ⟨fun wu4 hC hd => ?_, ?_⟩
            · obtain ⟨h3, _⟩ := hd
              skip
              replace h3 : V 3 = (.int .u64 z.2.2.2.2.1.1) := h3
              replace hb := hb.trans (hC.mono hb.size)
              replace hk1 := blk_ext hk1 hC
              refine Does.mono (d_callB (vs := [(.int .u64 z.2.2.2.2.1.1)]) (show [some (V 3)] = [some (.int .u64 z.2.2.2.2.1.1)] from by rw [h3]) Try.func45 (by kernel_rfl) (by kernel_rfl) (num46_any z.2.2.2.2.1.1 _ (by omega))) (fun _ _ h => ⟨h.2, h.1, nofr rfl⟩)
            refine ⟨fun wu5 hC hd => ?_, ?_⟩
            · obtain ⟨h4, _⟩ := hd
              skip
              replace h4 : V 4 = (.string (dS z.2.2.2.2.1.1)) := h4
              replace hb := hb.trans (hC.mono hb.size)
              replace hk1 := blk_ext hk1 hC
              exact Runs.does (r_sadd (congrArg some h4) rfl (by have : ((⟨#[46, 46]⟩) : ByteArray).size = 2 := rfl; omega)) ⟨Below.refl _ _, rfl, nofr rfl⟩
            refine ⟨fun wu6 hC hd => ?_, ?_⟩
            · clear hd
              replace hb := hb.trans (hC.mono hb.size)
              replace hk1 := blk_ext hk1 hC
              exact Runs.does (r_fa rfl Try.underlying100 (f := 4) (q := 4) rfl (by kernel_rfl) rfl) ⟨Below.refl _ _, rfl, nofr rfl⟩
            refine ⟨fun wu7 hC hd => ?_, ?_⟩
            · obtain ⟨h6, _⟩ := hd
              skip
              replace h6 : V 6 = (.pointer (some ⟨b1, 4, none⟩)) := h6
              replace hb := hb.trans (hC.mono hb.size)
              replace hk1 := blk_ext hk1 hC
              exact Runs.does (r_fa (congrArg some h6) Try.underlying98 (f := 1) (q := 5) rfl (by kernel_rfl) rfl) ⟨Below.refl _ _, rfl, nofr rfl⟩
            refine ⟨fun wu8 hC hd => ?_, ?_⟩
            · obtain ⟨h7, _⟩ := hd
              skip
              replace h7 : V 7 = (.pointer (some ⟨b1, 5, none⟩)) := h7
              replace hb := hb.trans (hC.mono hb.size)
              replace hk1 := blk_ext hk1 hC
              exact Runs.does (r_load (v := (.int .u32 z.2.2.2.2.1.2.1)) (congrArg some h7) Try.underlying31 rfl (cell_blk hk1 rfl)) ⟨Below.refl _ _, rfl, nofr rfl⟩
            refine ⟨fun wu9 hC hd => ?_, ?_⟩
            · obtain ⟨h8, _⟩ := hd
              skip
              replace h8 : V 8 = (.int .u32 z.2.2.2.2.1.2.1) := h8
              replace hb := hb.trans (hC.mono hb.size)
              replace hk1 := blk_ext hk1 hC
              exact Runs.does (r_conv (C := z.2.2.2.2.1.2.1) (congrArg some h8) Try.underlying31 Try.underlying63 (by rw [IntKind.wrap_u64]; omega)) ⟨Below.refl _ _, rfl, nofr rfl⟩
            refine ⟨fun wu10 hC hd => ?_, ?_⟩
            · obtain ⟨h4, h9, _⟩ := hd
              skip
              skip
              replace h4 : V 4 = (.string (dS z.2.2.2.2.1.1)) := h4
              replace h9 : V 9 = (.int .u64 z.2.2.2.2.1.2.1) := h9
              replace hb := hb.trans (hC.mono hb.size)
              replace hk1 := blk_ext hk1 hC
              refine Does.mono (d_callB (vs := [(.int .u64 z.2.2.2.2.1.2.1)]) (show [some (V 9)] = [some (.int .u64 z.2.2.2.2.1.2.1)] from by rw [h9]) Try.func45 (by kernel_rfl) (by kernel_rfl) (num46_any z.2.2.2.2.1.2.1 _ (by omega))) (fun _ _ h => ⟨h.2, h.1, nofr rfl⟩)
            refine ⟨fun wu11 hC hd => ?_, ?_⟩
            · obtain ⟨h5, h10, _⟩ := hd
              skip
              skip
              replace h5 : V 5 = (.string ((dS z.2.2.2.2.1.1) ++ ⟨#[46, 46]⟩)) := h5
              replace h10 : V 10 = (.string (dS z.2.2.2.2.1.2.1)) := h10
              replace hb := hb.trans (hC.mono hb.size)
              replace hk1 := blk_ext hk1 hC
              exact Runs.does (r_sadd (congrArg some h5) (congrArg some h10) (by have : ((⟨#[46, 46]⟩) : ByteArray).size = 2 := rfl; have := sz_app (dS z.2.2.2.2.1.1) ⟨#[46, 46]⟩; omega)) ⟨Below.refl _ _, rfl, nofr rfl⟩
            refine ⟨fun wu12 hC hd => ?_, ?_⟩
            · obtain ⟨h0, h1, h2, h3, h4, h5, h6, h7, h8, h9, h10, h11, _⟩ := hd
              skip
              skip
              skip
              skip
              skip
              skip
              skip
              skip
              skip
              skip
              skip
              skip
              replace h0 : V 0 = (.pointer (some ⟨b1, 4, none⟩)) := h0
              replace h1 : V 1 = (.pointer (some ⟨b1, 4, none⟩)) := h1
              replace h2 : V 2 = (.int .u32 z.2.2.2.2.1.1) := h2
              replace h3 : V 3 = (.int .u64 z.2.2.2.2.1.1) := h3
              replace h4 : V 4 = (.string (dS z.2.2.2.2.1.1)) := h4
              replace h5 : V 5 = (.string ((dS z.2.2.2.2.1.1) ++ ⟨#[46, 46]⟩)) := h5
              replace h6 : V 6 = (.pointer (some ⟨b1, 4, none⟩)) := h6
              replace h7 : V 7 = (.pointer (some ⟨b1, 5, none⟩)) := h7
              replace h8 : V 8 = (.int .u32 z.2.2.2.2.1.2.1) := h8
              replace h9 : V 9 = (.int .u64 z.2.2.2.2.1.2.1) := h9
              replace h10 : V 10 = (.string (dS z.2.2.2.2.1.2.1)) := h10
              replace h11 : V 11 = (.string (((dS z.2.2.2.2.1.1) ++ ⟨#[46, 46]⟩) ++ (dS z.2.2.2.2.1.2.1))) := h11
              replace hb := hb.trans (hC.mono hb.size)
              replace hk1 := blk_ext hk1 hC
              exact Runs.does (r_assign (congrArg some h11)) ⟨Below.refl _ _, rfl, nofr rfl⟩
            trivial
          · skip
            clear hf fa; intro V w5 fa he5 hp hnb hf
            have hv0 : V 0 = (.pointer (some ⟨b1, 4, none⟩)) := postsHold_at hp 0 rfl
            have hv1 : V 1 = (.pointer (some ⟨b1, 4, none⟩)) := postsHold_at hp 1 rfl
            have hv2 : V 2 = (.int .u32 z.2.2.2.2.1.1) := postsHold_at hp 2 rfl
            have hv3 : V 3 = (.int .u64 z.2.2.2.2.1.1) := postsHold_at hp 3 rfl
            have hv4 : V 4 = (.string (dS z.2.2.2.2.1.1)) := postsHold_at hp 4 rfl
            have hv5 : V 5 = (.string ((dS z.2.2.2.2.1.1) ++ ⟨#[46, 46]⟩)) := postsHold_at hp 5 rfl
            have hv6 : V 6 = (.pointer (some ⟨b1, 4, none⟩)) := postsHold_at hp 6 rfl
            have hv7 : V 7 = (.pointer (some ⟨b1, 5, none⟩)) := postsHold_at hp 7 rfl
            have hv8 : V 8 = (.int .u32 z.2.2.2.2.1.2.1) := postsHold_at hp 8 rfl
            have hv9 : V 9 = (.int .u64 z.2.2.2.2.1.2.1) := postsHold_at hp 9 rfl
            have hv10 : V 10 = (.string (dS z.2.2.2.2.1.2.1)) := postsHold_at hp 10 rfl
            have hv11 : V 11 = (.string (((dS z.2.2.2.2.1.1) ++ ⟨#[46, 46]⟩) ++ (dS z.2.2.2.2.1.2.1))) := postsHold_at hp 11 rfl
            have hv12 : V 12 = (.string (((dS z.2.2.2.2.1.1) ++ ⟨#[46, 46]⟩) ++ (dS z.2.2.2.2.1.2.1))) := postsHold_at hp 12 rfl
            simp only [List.take_succ_cons, List.take_zero, insAll, ins, hv0, hv1, hv2, hv3, hv4, hv5, hv6, hv7, hv8, hv9, hv10, hv11, hv12] at hf
            clear hp hnb hv0 hv1 hv2 hv3 hv4 hv5 hv6 hv7 hv8 hv9 hv10 hv11 hv12
            replace hk1 := blk_ext hk1 he5
            replace hb := hb.trans (Below.mono he5 hb.size)
            (try simp only [Exit.then, Exit.inBlock, ↓reduceIte, Nat.reduceEqDiff])
            refine hK13 _ _ ?_
            refine wp_ret ?_
            (try simp only [Exit.then, Exit.inBlock])
            refine ret1 hf rfl rfl ?_
            refine ⟨?_, hb⟩; unfold rtakenP; rw [hqt5_1b, hqt17_1b, hqt26_1b, hqt34_1b]; (try rfl)
        · have hqt34_1b := hqt34_1
          replace hqt34_1 := Bool.eq_false_iff.1 hqt34_1
          try simp only [ne_eq, decide_eq_true_eq, Bool.and_eq_true, Bool.or_eq_true, Bool.not_eq_true', decide_eq_false_iff_not] at hqt34_1
          refine wp_skip ?_
          (try simp only [Exit.then, Exit.inBlock, ↓reduceIte, Nat.reduceEqDiff])
          refine hK11 _ _ ?_
          refine wp_seq_k (fun K14 hK14 => ?_)
          refine wp_region_lit ?_
          refine sqv hf (r_fa rfl Try.underlying100 (f := 4) (q := 4) rfl (by kernel_rfl) rfl) rfl rfl rfl ?_; clear hf fa; intro fa hf
          refine sqv hf (r_fa rfl Try.underlying98 (f := 0) (q := 4) rfl (by kernel_rfl) rfl) rfl rfl rfl ?_; clear hf fa; intro fa hf
          refine sqv hf (r_load (v := (.int .u32 z.2.2.2.2.1.1)) rfl Try.underlying31 rfl (cell_blk hk1 rfl)) rfl rfl rfl ?_; clear hf fa; intro fa hf
          refine sqv hf (r_conv (C := z.2.2.2.2.1.1) rfl Try.underlying31 Try.underlying63 (by rw [IntKind.wrap_u64]; omega)) rfl rfl rfl ?_; clear hf fa; intro fa hf
          refine sqdt hf (d_callB (vs := [(.int .u64 z.2.2.2.2.1.1)]) rfl Try.func45 (by kernel_rfl) (by kernel_rfl) (num46_any z.2.2.2.2.1.1 _ (by omega))) rfl rfl rfl ?_; clear hf fa; rintro fa _ w6 ⟨rfl, he6⟩ hf
          replace hk1 := blk_ext hk1 he6
          replace hb := hb.trans (Below.mono he6 hb.size)
          refine sqv hf (r_sadd rfl rfl (by have : ((⟨#[46, 46]⟩) : ByteArray).size = 2 := rfl; omega)) rfl rfl rfl ?_; clear hf fa; intro fa hf
          refine sqv hf (r_assign rfl) rfl rfl rfl ?_; clear hf fa; intro fa hf
          apply wpList_nil
          (try simp only [Exit.then, Exit.inBlock, ↓reduceIte, Nat.reduceEqDiff])
          refine hK14 _ _ ?_
          refine wp_ret ?_
          (try simp only [Exit.then, Exit.inBlock])
          refine ret1 hf rfl rfl ?_
          refine ⟨?_, hb⟩; unfold rtakenP; rw [hqt5_1b, hqt17_1b, hqt26_1b, hqt34_1b]; (try rfl)

theorem rtaken_eq (z : MImp) : rtakenP z = takenP z := by
  unfold rtakenP takenP limitsP globalP
  simp only [rname_eq]
  by_cases h0 : z.2.2.1 = 0 <;> by_cases h3 : z.2.2.1 = 3 <;> cases z.2.2.2.2.2.1.2.1 <;> cases z.2.2.2.2.1.2.2.1 <;> simp_all
theorem taken_len (z : MImp) (hk : 0 ≤ z.2.2.1 ∧ z.2.2.1 < 256) (ht : 0 ≤ z.2.2.2.1 ∧ z.2.2.2.1 < 4294967296) (h1 : 0 ≤ z.2.2.2.2.1.1 ∧ z.2.2.2.2.1.1 < 4294967296) (h2 : 0 ≤ z.2.2.2.2.1.2.1 ∧ z.2.2.2.2.1.2.1 < 4294967296) (h3 : 0 ≤ z.2.2.2.2.2.1.1 ∧ z.2.2.2.2.2.1.1 < 256) : (takenP z).size ≤ 42 := by
  have hdl0 := dS_len (n := z.2.2.2.1) (inI_u32 (by omega))
  have hdl1 := dS_len (n := z.2.2.2.2.1.1) (inI_u32 (by omega))
  have hdl2 := dS_len (n := z.2.2.2.2.1.2.1) (inI_u32 (by omega))
  have htl := tname_le z.2.2.2.2.2.1.1; have hrl : (rnameP z.2.2.2.2.2.1.1).size ≤ 7 := by rw [rname_eq]; exact htl
  have e4 : (⟨#[109, 117, 116, 32]⟩ : ByteArray).size = 4 := rfl
  have e2 : (⟨#[46, 46]⟩ : ByteArray).size = 2 := rfl
  unfold takenP limitsP globalP
  by_cases h0 : z.2.2.1 = 0 <;> by_cases h3 : z.2.2.1 = 3 <;> cases z.2.2.2.2.2.1.2.1 <;> cases z.2.2.2.2.1.2.2.1 <;> simp [h0, h3, ByteArray.size_append] <;> omega
end Go.Proofs.Ytpalmpfkliepfaa
