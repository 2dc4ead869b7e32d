/- What is proved here: the reference's instructions. -/
import Derived.Test.YtmcmickgllffoaaCwDp
namespace Go.Proofs.Ytmcmickgllffoaa
open Go.RowKit
set_option linter.unusedVariables false
set_option linter.unusedSimpArgs false
abbrev MGr := (Int × ByteArray × Int × ByteArray × ByteArray × Bool × Unit)
def zMGr : MGr := ((0 : Int), (⟨#[]⟩ : ByteArray), (0 : Int), (⟨#[]⟩ : ByteArray), (⟨#[]⟩ : ByteArray), false, ())
def vMGr : MGr → List Value := (fun d => (vInt .i64) d.1 ++ (fun d => vStr d.1 ++ (fun d => (vInt .i64) d.1 ++ (fun d => vStr d.1 ++ (fun d => vStr d.1 ++ (fun d => vBool d.1 ++ (fun _ => []) d.2) d.2) d.2) d.2) d.2) d.2)
/-- The word of a number in a text, with the text's head ahead. -/
def wordF (s : ByteArray) : Nat → Int → Int → Nat → Nat → ByteArray × Bool
  | 0, _, _, _, _ => (⟨#[]⟩, false)
  | n + 1, fi, k, st, j => if j < s.size ∧ sbt s j ≠ 32 then wordF s n fi k st (j + 1)
      else if fi < 0 then wordF s n (j : Int) k (j + 1) (j + 1)
      else if k = 0 then (s.extract 0 fi.toNat ++ s.extract st j, true)
      else wordF s n fi (k - 1) (j + 1) (j + 1)
def wordP (s : ByteArray) (k : Int) : ByteArray × Bool := wordF s (s.size + 1) (-1) k 0 0
theorem wordF_step {s : ByteArray} {fi k : Int} {st j : Nat} (h : j ≤ s.size) : wordF s (s.size + 1 - j) fi k st j = if j < s.size ∧ sbt s j ≠ 32 then wordF s (s.size + 1 - (j + 1)) fi k st (j + 1)
      else if fi < 0 then wordF s (s.size + 1 - (j + 1)) (j : Int) k (j + 1) (j + 1)
      else if k = 0 then (s.extract 0 fi.toNat ++ s.extract st j, true)
      else wordF s (s.size + 1 - (j + 1)) fi (k - 1) (j + 1) (j + 1) := by
  obtain ⟨m, h1, h2⟩ : ∃ m, s.size + 1 - j = m + 1 ∧ s.size + 1 - (j + 1) = m := ⟨s.size - j, by omega, by omega⟩
  rw [h1, h2, wordF]

set_option maxHeartbeats 1000000 in
set_option maxRecDepth 100000 in
theorem word_any (s : ByteArray) (k : Int) (w : World) (hk : 0 ≤ k ∧ k < 9223372036854775808) (hs : s.size ≤ 1000) : Calls Try.prog 88 #[(.string s), (.int .i64 k)] w fun e w' => e = .returned (.tuple #[.string (wordP s k).1, .bool (wordP s k).2]) ∧ Below w.heap.size w w' := by
  refine sx_enter (L := [(0, (.string s)), (1, (.int .i64 k))]) Try.func88 rfl rfl rfl rfl (fun fa hf => ?_)
  have hb : Below w.heap.size w w := Below.refl _ _
  refine wp_seq_k (fun K1 hK1 => ?_)
  refine wp_region_lit ?_
  refine sqv hf (r_assign rfl) rfl rfl rfl ?_; clear hf fa; intro fa hf
  refine sqv hf (r_assign rfl) rfl rfl rfl ?_; clear hf fa; intro fa hf
  apply wpList_nil
  (try simp only [Exit.then, Exit.inBlock, ↓reduceIte, Nat.reduceEqDiff])
  refine hK1 _ _ ?_
  refine wp_seq_k (fun K2 hK2 => ?_)
  refine wp_region_lit ?_
  refine sqv hf (r_assign rfl) rfl rfl rfl ?_; clear hf fa; intro fa hf
  refine sqv hf (r_assign rfl) rfl rfl rfl ?_; clear hf fa; intro fa hf
  apply wpList_nil
  (try simp only [Exit.then, Exit.inBlock, ↓reduceIte, Nat.reduceEqDiff])
  refine hK2 _ _ ?_
  refine wp_seq_k (fun K3 hK3 => ?_)
  refine wp_seq_k (fun K4 hK4 => ?_)
  refine wp_region_lit ?_
  refine sqv hf (r_assign rfl) rfl rfl rfl ?_; clear hf fa; intro fa hf
  apply wpList_nil
  (try simp only [Exit.then, Exit.inBlock, ↓reduceIte, Nat.reduceEqDiff])
  refine hK4 _ _ ?_
  refine wp_block ?_
  refine wp_loop_k (fun mq fa wr => ∃ (kk : Int) (fi : Int) (so : Nat) (j : Nat), mq = s.size + 1 - j ∧ Fr 44 fa [(0, (.string s)), (1, (.int .i64 kk)), (6, (.int .i64 fi)), (7, (.int .i64 ((so : Nat) : Int))), (8, (.int .i64 ((j : Nat) : Int)))] ∧ Below w.heap.size w wr ∧ (j ≤ s.size + 1) ∧ (so ≤ j) ∧ (fi ≤ ((j : Nat) : Int) - 1) ∧ (-1 ≤ fi) ∧ (0 ≤ kk ∧ kk < 9223372036854775808) ∧ (wordF s (s.size + 1 - j) fi kk so j = wordP s k)) ?_ ?_
  · skip
    exact ⟨_, k, (-1), 0, 0, rfl, hf.sub ⟨rfl, rfl, (some_int (by first | rfl | omega)), (some_int (by first | rfl | omega)), (some_int (by first | rfl | omega)), trivial⟩, hb, by omega, by omega, by omega, by omega, hk, rfl⟩
  · skip
    clear hf fa; intro mq1 fa w1 hI KL1 hKL1
    clear hb
    obtain ⟨kk, fi, so, j, hmq1, hf, hb, hj, hso, hfi, hfi1, hkk, hF⟩ := hI
    refine wp_seq_k (fun K5 hK5 => ?_)
    refine wp_seq_k (fun K6 hK6 => ?_)
    refine wp_region_lit ?_
    refine sqv hf (r_move rfl) rfl rfl rfl ?_; clear hf fa; intro fa hf
    refine sqv hf (r_move rfl) rfl rfl rfl ?_; clear hf fa; intro fa hf
    refine sqv hf (r_lens rfl Try.underlying9) rfl rfl rfl ?_; clear hf fa; intro fa hf
    refine sqv hf (r_le rfl rfl) rfl rfl rfl ?_; clear hf fa; intro fa hf
    apply wpList_nil
    (try simp only [Exit.then, Exit.inBlock, ↓reduceIte, Nat.reduceEqDiff])
    refine hK6 _ _ ?_
    refine wp_cond_split (t := (decide (((j : Nat) : Int) ≤ ((s.size : Nat) : Int)))) (hf.ev rfl) (fun hqt12_1 => ?_) (fun hqt12_1 => ?_)
    · have hqt12_1b := hqt12_1
      try simp only [decide_eq_true_eq, Bool.and_eq_true, Bool.or_eq_true, Bool.not_eq_true', decide_eq_false_iff_not, ne_eq, Bool.not_eq_true] at hqt12_1
      refine wp_skip ?_
      (try simp only [Exit.then, Exit.inBlock, ↓reduceIte, Nat.reduceEqDiff])
      refine hK5 _ _ ?_
      refine wp_seq_k (fun K7 hK7 => ?_)
      refine wp_block ?_
      refine wp_seq_k (fun K8 hK8 => ?_)
      refine wp_seq_k (fun K9 hK9 => ?_)
      refine wp_region_lit ?_
      refine sqv hf (r_move rfl) rfl rfl rfl ?_; clear hf fa; intro fa hf
      refine sqv hf (r_move rfl) rfl rfl rfl ?_; clear hf fa; intro fa hf
      refine sqv hf (r_lens rfl Try.underlying9) rfl rfl rfl ?_; clear hf fa; intro fa hf
      refine sqv hf (r_lt rfl rfl) rfl rfl rfl ?_; clear hf fa; intro fa hf
      refine sqv hf (r_move rfl) rfl rfl rfl ?_; clear hf fa; intro fa hf
      refine sqgT (act := (decide (((j : Nat) : Int) < ((s.size : Nat) : Int)))) (ag := true) (c := (decide (((j : Nat) : Int) < ((s.size : Nat) : Int)))) (v := (.string s)) hf rfl rfl rfl (fun hact => (r_move rfl)) rfl rfl ?_; clear hf fa; intro fa hf
      refine sqgT (act := (decide (((j : Nat) : Int) < ((s.size : Nat) : Int)))) (ag := true) (c := (decide (((j : Nat) : Int) < ((s.size : Nat) : Int)))) (v := (.int .i64 ((j : Nat) : Int))) hf rfl rfl rfl (fun hact => (r_move rfl)) rfl rfl ?_; clear hf fa; intro fa hf
      refine sqgT (act := (decide (((j : Nat) : Int) < ((s.size : Nat) : Int)))) (ag := true) (c := (decide (((j : Nat) : Int) < ((s.size : Nat) : Int)))) (v := (.int .u8 ((sbt s j : Nat) : Int))) hf rfl rfl rfl (fun hact => (by have hact0 := hact; (try simp only [Bool.and_eq_true, Bool.not_eq_true', Bool.or_eq_false_iff, Bool.or_eq_true, Bool.and_eq_false_iff, ne_eq, decide_eq_true_eq, decide_eq_false_iff_not] at hact0); exact (r_sindexD (j := j) (gb_ev hact rfl) (gb_ev hact rfl) Try.underlying9 rfl (by omega)))) rfl rfl ?_; clear hf fa; intro fa hf
      refine sqgT (act := (decide (((j : Nat) : Int) < ((s.size : Nat) : Int)))) (ag := true) (c := (decide (((j : Nat) : Int) < ((s.size : Nat) : Int)))) (v := (.bool (decide (((sbt s j : Nat) : Int) ≠ (32 : Int))))) hf rfl rfl rfl (fun hact => (r_ne (gb_ev hact rfl) rfl)) rfl rfl ?_; clear hf fa; intro fa hf
      refine sqv hf (r_pickA (b := (decide (((j : Nat) : Int) < ((s.size : Nat) : Int)))) (e := (decide (((sbt s j : Nat) : Int) ≠ (32 : Int)))) rfl rfl rfl) rfl rfl rfl ?_; clear hf fa; intro fa hf
      apply wpList_nil
      (try simp only [Exit.then, Exit.inBlock, ↓reduceIte, Nat.reduceEqDiff])
      refine hK9 _ _ ?_
      refine wp_cond_split (t := ((decide (((j : Nat) : Int) < ((s.size : Nat) : Int))) && (decide (((sbt s j : Nat) : Int) ≠ (32 : Int))))) (hf.ev rfl) (fun hqt24_1 => ?_) (fun hqt24_1 => ?_)
      · have hqt24_1b := hqt24_1
        try simp only [decide_eq_true_eq, Bool.and_eq_true, Bool.or_eq_true, Bool.not_eq_true', decide_eq_false_iff_not, ne_eq, Bool.not_eq_true] at hqt24_1
        refine wp_exit ?_
        (try simp only [Exit.then, Exit.inBlock, ↓reduceIte, Nat.reduceEqDiff])
        refine hK7 _ _ ?_
        refine wp_region_lit ?_
        refine sqv hf (r_move rfl) rfl rfl rfl ?_; clear hf fa; intro fa hf
        refine sqv hf (r_add (C := (((j : Nat) : Int) + (1 : Int))) rfl rfl (by rw [IntKind.wrap_i64]; omega)) rfl rfl rfl ?_; clear hf fa; intro fa hf
        refine sqv hf (r_assign rfl) rfl rfl rfl ?_; clear hf fa; intro fa hf
        apply wpList_nil
        (try simp only [Exit.then, Exit.inBlock, ↓reduceIte, Nat.reduceEqDiff])
        refine hKL1 _ _ _ (by omega) ⟨kk, fi, so, (j + 1), rfl, hf.sub ⟨rfl, rfl, rfl, rfl, (some_int (by first | rfl | omega)), trivial⟩, hb, by omega, by omega, by omega, by omega, by omega, (by rw [← hF, wordF_step (j := j) (by omega), if_pos (by have h := hqt24_1; omega)])⟩
      · have hqt24_1b := hqt24_1
        replace hqt24_1 := Bool.eq_false_iff.1 hqt24_1
        try simp only [ne_eq, decide_eq_true_eq, Bool.and_eq_true, Bool.or_eq_true, Bool.not_eq_true', decide_eq_false_iff_not] at hqt24_1
        refine wp_skip ?_
        (try simp only [Exit.then, Exit.inBlock, ↓reduceIte, Nat.reduceEqDiff])
        refine hK8 _ _ ?_
        refine wp_seq_k (fun K10 hK10 => ?_)
        refine wp_block ?_
        refine wp_seq_k (fun K11 hK11 => ?_)
        refine wp_region_lit ?_
        refine sqv hf (r_move rfl) rfl rfl rfl ?_; clear hf fa; intro fa hf
        refine sqv hf (r_lt rfl rfl) rfl rfl rfl ?_; clear hf fa; intro fa hf
        refine sqv hf (r_assign rfl) rfl rfl rfl ?_; clear hf fa; intro fa hf
        apply wpList_nil
        (try simp only [Exit.then, Exit.inBlock, ↓reduceIte, Nat.reduceEqDiff])
        refine hK11 _ _ ?_
        refine wp_cond_split (t := (decide (fi < (0 : Int)))) (hf.ev rfl) (fun hqt27_1 => ?_) (fun hqt27_1 => ?_)
        · have hqt27_1b := hqt27_1
          try simp only [decide_eq_true_eq, Bool.and_eq_true, Bool.or_eq_true, Bool.not_eq_true', decide_eq_false_iff_not, ne_eq, Bool.not_eq_true] at hqt27_1
          refine wp_region_lit ?_
          refine sqv hf (r_move rfl) rfl rfl rfl ?_; clear hf fa; intro fa hf
          refine sqv hf (r_assign rfl) rfl rfl rfl ?_; clear hf fa; intro fa hf
          apply wpList_nil
          (try simp only [Exit.then, Exit.inBlock, ↓reduceIte, Nat.reduceEqDiff])
          refine hK10 _ _ ?_
          refine wp_region_lit ?_
          refine sqv hf (r_move rfl) rfl rfl rfl ?_; clear hf fa; intro fa hf
          refine sqv hf (r_add (C := (((j : Nat) : Int) + (1 : Int))) rfl rfl (by rw [IntKind.wrap_i64]; omega)) rfl rfl rfl ?_; clear hf fa; intro fa hf
          refine sqv hf (r_assign rfl) rfl rfl rfl ?_; clear hf fa; intro fa hf
          apply wpList_nil
          (try simp only [Exit.then, Exit.inBlock, ↓reduceIte, Nat.reduceEqDiff])
          refine hK7 _ _ ?_
          refine wp_region_lit ?_
          refine sqv hf (r_move rfl) rfl rfl rfl ?_; clear hf fa; intro fa hf
          refine sqv hf (r_add (C := (((j : Nat) : Int) + (1 : Int))) rfl rfl (by rw [IntKind.wrap_i64]; omega)) rfl rfl rfl ?_; clear hf fa; intro fa hf
          refine sqv hf (r_assign rfl) rfl rfl rfl ?_; clear hf fa; intro fa hf
          apply wpList_nil
          (try simp only [Exit.then, Exit.inBlock, ↓reduceIte, Nat.reduceEqDiff])
          refine hKL1 _ _ _ (by omega) ⟨kk, ((j : Nat) : Int), (j + 1), (j + 1), rfl, hf.sub ⟨rfl, rfl, (some_int (by first | rfl | omega)), (some_int (by first | rfl | omega)), (some_int (by first | rfl | omega)), trivial⟩, hb, by omega, by omega, by omega, by omega, by omega, (by rw [← hF, wordF_step (j := j) (by omega), if_neg (by have h := hqt24_1; omega), if_pos (by have h := hqt27_1; omega)])⟩
        · have hqt27_1b := hqt27_1
          replace hqt27_1 := Bool.eq_false_iff.1 hqt27_1
          try simp only [ne_eq, decide_eq_true_eq, Bool.and_eq_true, Bool.or_eq_true, Bool.not_eq_true', decide_eq_false_iff_not] at hqt27_1
          refine wp_seq_k (fun K12 hK12 => ?_)
          refine wp_region_lit ?_
          refine sqv hf (r_move rfl) rfl rfl rfl ?_; clear hf fa; intro fa hf
          refine sqv hf (r_eq rfl rfl) rfl rfl rfl ?_; clear hf fa; intro fa hf
          refine sqv hf (r_assign rfl) rfl rfl rfl ?_; clear hf fa; intro fa hf
          apply wpList_nil
          (try simp only [Exit.then, Exit.inBlock, ↓reduceIte, Nat.reduceEqDiff])
          refine hK12 _ _ ?_
          refine wp_cond_split (t := (decide (kk = (0 : Int)))) (hf.ev rfl) (fun hqt31_1 => ?_) (fun hqt31_1 => ?_)
          · have hqt31_1b := hqt31_1
            try simp only [decide_eq_true_eq, Bool.and_eq_true, Bool.or_eq_true, Bool.not_eq_true', decide_eq_false_iff_not, ne_eq, Bool.not_eq_true] at hqt31_1
            refine wp_seq_k (fun K13 hK13 => ?_)
            refine wp_region_un (fun wq => Below w1.heap.size w1 wq) (fun w w' => Below w.heap.size w w')
              (fun V => [(fun x _ => x = (.string s)), (fun x _ => x = (.int .i64 fi)), (fun x _ => x = (.string (s.extract 0 (fi).toNat))), (fun x _ => x = (.string s)), (fun x _ => x = (.int .i64 ((so : Nat) : Int))), (fun x _ => x = (.int .i64 ((j : Nat) : Int))), (fun x _ => x = (.string (s.extract so j))), (fun x _ => x = (.string ((s.extract 0 (fi).toNat) ++ (s.extract so j)))), (fun x _ => x = (.string ((s.extract 0 (fi).toNat) ++ (s.extract so j)))), (fun x _ => x = (.bool true))])
              []
              [[], [], [0, 1], [], [], [], [3, 4, 5], [2, 6], [0, 1, 2, 3, 4, 5, 6, 7], [0, 1, 2, 3, 4, 5, 6, 7, 8]]
              hf (by kernel_rfl) (by kernel_rfl) (fun _ => rfl) ((Below.refl _ _).drew) (fun a b h1 h2 => h1.trans (h2.mono h1.size)) (fun _ _ h => h.size) (fun V => ⟨kept_eq, kept_eq, kept_eq, kept_eq, kept_eq, kept_eq, kept_eq, kept_eq, kept_eq, kept_eq, trivial⟩) (fun _ _ _ _ _ => rfl) ?_ ?_
            · skip
              intro V
              refine ⟨fun wu0 hC hd => ?_, ?_⟩
              · clear hd
                replace hb := hb.trans (hC.mono hb.size)
                exact Runs.does (r_move rfl) ⟨Below.refl _ _, rfl, nofr rfl⟩
              refine ⟨fun wu1 hC hd => ?_, ?_⟩
              · clear hd
                replace hb := hb.trans (hC.mono hb.size)
                exact Runs.does (r_move rfl) ⟨Below.refl _ _, rfl, nofr rfl⟩
              refine ⟨fun wu2 hC hd => ?_, ?_⟩
              · obtain ⟨h0, h1, _⟩ := hd
                skip
                skip
                replace h0 : V 0 = (.string s) := h0
                replace h1 : V 1 = (.int .i64 fi) := h1
                replace hb := hb.trans (hC.mono hb.size)
                exact Runs.does (r_sslice (a := 0) (b := (fi).toNat) (k1 := .i64) (k2 := .i64) (A := 0) (B := fi) (congrArg some h0) Try.underlying9 (.inl ⟨rfl, rfl⟩) (.inr ⟨_, rfl, (congrArg some h1), (by omega)⟩) (by omega) (by omega)) ⟨Below.refl _ _, rfl, nofr rfl⟩
              refine ⟨fun wu3 hC hd => ?_, ?_⟩
              · clear hd
                replace hb := hb.trans (hC.mono hb.size)
                exact Runs.does (r_move rfl) ⟨Below.refl _ _, rfl, nofr rfl⟩
              refine ⟨fun wu4 hC hd => ?_, ?_⟩
              · clear hd
                replace hb := hb.trans (hC.mono hb.size)
                exact Runs.does (r_move rfl) ⟨Below.refl _ _, rfl, nofr rfl⟩
              refine ⟨fun wu5 hC hd => ?_, ?_⟩
              · clear hd
                replace hb := hb.trans (hC.mono hb.size)
                exact Runs.does (r_move rfl) ⟨Below.refl _ _, rfl, nofr rfl⟩
              refine ⟨fun wu6 hC hd => ?_, ?_⟩
              · obtain ⟨h3, h4, h5, _⟩ := hd
                skip
                skip
                skip
                replace h3 : V 3 = (.string s) := h3
                replace h4 : V 4 = (.int .i64 ((so : Nat) : Int)) := h4
                replace h5 : V 5 = (.int .i64 ((j : Nat) : Int)) := h5
                replace hb := hb.trans (hC.mono hb.size)
                exact Runs.does (r_sslice (a := so) (b := j) (k1 := .i64) (k2 := .i64) (A := ((so : Nat) : Int)) (B := ((j : Nat) : Int)) (congrArg some h3) Try.underlying9 (.inr ⟨_, rfl, (congrArg some h4), rfl⟩) (.inr ⟨_, rfl, (congrArg some h5), rfl⟩) (by omega) (by omega)) ⟨Below.refl _ _, rfl, nofr rfl⟩
              refine ⟨fun wu7 hC hd => ?_, ?_⟩
              · obtain ⟨h2, h6, _⟩ := hd
                skip
                skip
                replace h2 : V 2 = (.string (s.extract 0 (fi).toNat)) := h2
                replace h6 : V 6 = (.string (s.extract so j)) := h6
                replace hb := hb.trans (hC.mono hb.size)
                exact Runs.does (r_sadd (congrArg some h2) (congrArg some h6) (by have := sz_ext s 0 (fi).toNat (by omega) (by omega); have := sz_ext s so j (by omega) (by omega); omega)) ⟨Below.refl _ _, rfl, nofr rfl⟩
              refine ⟨fun wu8 hC hd => ?_, ?_⟩
              · obtain ⟨h0, h1, h2, h3, h4, h5, h6, h7, _⟩ := hd
                skip
                skip
                skip
                skip
                skip
                skip
                skip
                skip
                replace h0 : V 0 = (.string s) := h0
                replace h1 : V 1 = (.int .i64 fi) := h1
                replace h2 : V 2 = (.string (s.extract 0 (fi).toNat)) := h2
                replace h3 : V 3 = (.string s) := h3
                replace h4 : V 4 = (.int .i64 ((so : Nat) : Int)) := h4
                replace h5 : V 5 = (.int .i64 ((j : Nat) : Int)) := h5
                replace h6 : V 6 = (.string (s.extract so j)) := h6
                replace h7 : V 7 = (.string ((s.extract 0 (fi).toNat) ++ (s.extract so j))) := h7
                replace hb := hb.trans (hC.mono hb.size)
                exact Runs.does (r_assign (congrArg some h7)) ⟨Below.refl _ _, rfl, nofr rfl⟩
              refine ⟨fun wu9 hC hd => ?_, ?_⟩
              · obtain ⟨h0, h1, h2, h3, h4, h5, h6, h7, h8, _⟩ := hd
                skip
                skip
                skip
                skip
                skip
                skip
                skip
                skip
                skip
                replace h0 : V 0 = (.string s) := h0
                replace h1 : V 1 = (.int .i64 fi) := h1
                replace h2 : V 2 = (.string (s.extract 0 (fi).toNat)) := h2
                replace h3 : V 3 = (.string s) := h3
                replace h4 : V 4 = (.int .i64 ((so : Nat) : Int)) := h4
                replace h5 : V 5 = (.int .i64 ((j : Nat) : Int)) := h5
                replace h6 : V 6 = (.string (s.extract so j)) := h6
                replace h7 : V 7 = (.string ((s.extract 0 (fi).toNat) ++ (s.extract so j))) := h7
                replace h8 : V 8 = (.string ((s.extract 0 (fi).toNat) ++ (s.extract so j))) := h8
                replace hb := hb.trans (hC.mono hb.size)
                exact Runs.does (r_assign rfl) ⟨Below.refl _ _, rfl, nofr rfl⟩
              trivial
            · skip
              clear hf fa; intro V w2 fa he1 hp hnb hf
              have hv0 : V 0 = (.string s) := postsHold_at hp 0 rfl
              have hv1 : V 1 = (.int .i64 fi) := postsHold_at hp 1 rfl
              have hv2 : V 2 = (.string (s.extract 0 (fi).toNat)) := postsHold_at hp 2 rfl
              have hv3 : V 3 = (.string s) := postsHold_at hp 3 rfl
              have hv4 : V 4 = (.int .i64 ((so : Nat) : Int)) := postsHold_at hp 4 rfl
              have hv5 : V 5 = (.int .i64 ((j : Nat) : Int)) := postsHold_at hp 5 rfl
              have hv6 : V 6 = (.string (s.extract so j)) := postsHold_at hp 6 rfl
              have hv7 : V 7 = (.string ((s.extract 0 (fi).toNat) ++ (s.extract so j))) := postsHold_at hp 7 rfl
              have hv8 : V 8 = (.string ((s.extract 0 (fi).toNat) ++ (s.extract so j))) := postsHold_at hp 8 rfl
              have hv9 : V 9 = (.bool true) := postsHold_at hp 9 rfl
              simp only [List.take_succ_cons, List.take_zero, insAll, ins, hv0, hv1, hv2, hv3, hv4, hv5, hv6, hv7, hv8, hv9] at hf
              clear hp hnb hv0 hv1 hv2 hv3 hv4 hv5 hv6 hv7 hv8 hv9
              replace hb := hb.trans (Below.mono he1 hb.size)
              (try simp only [Exit.then, Exit.inBlock, ↓reduceIte, Nat.reduceEqDiff])
              refine hK13 _ _ ?_
              refine wp_ret ?_
              (try simp only [Exit.then, Exit.inBlock])
              refine ret2 hf rfl rfl rfl ?_
              have hD : wordP s k = (s.extract 0 fi.toNat ++ s.extract so j, true) := by rw [← hF, wordF_step (j := j) (by omega), if_neg (by have h := hqt24_1; omega), if_neg (by have h := hqt27_1; omega), if_pos (by have h := hqt31_1; omega)]
              rw [hD]; exact ⟨rfl, hb⟩
          · have hqt31_1b := hqt31_1
            replace hqt31_1 := Bool.eq_false_iff.1 hqt31_1
            try simp only [ne_eq, decide_eq_true_eq, Bool.and_eq_true, Bool.or_eq_true, Bool.not_eq_true', decide_eq_false_iff_not] at hqt31_1
            refine wp_region_lit ?_
            refine sqv hf (r_move rfl) rfl rfl rfl ?_; clear hf fa; intro fa hf
            refine sqv hf (r_sub (C := (kk - (1 : Int))) rfl rfl (by rw [IntKind.wrap_i64]; omega)) rfl rfl rfl ?_; clear hf fa; intro fa hf
            refine sqv hf (r_assign rfl) rfl rfl rfl ?_; clear hf fa; intro fa hf
            apply wpList_nil
            (try simp only [Exit.then, Exit.inBlock, ↓reduceIte, Nat.reduceEqDiff])
            refine hK10 _ _ ?_
            refine wp_region_lit ?_
            refine sqv hf (r_move rfl) rfl rfl rfl ?_; clear hf fa; intro fa hf
            refine sqv hf (r_add (C := (((j : Nat) : Int) + (1 : Int))) rfl rfl (by rw [IntKind.wrap_i64]; omega)) rfl rfl rfl ?_; clear hf fa; intro fa hf
            refine sqv hf (r_assign rfl) rfl rfl rfl ?_; clear hf fa; intro fa hf
            apply wpList_nil
            (try simp only [Exit.then, Exit.inBlock, ↓reduceIte, Nat.reduceEqDiff])
            refine hK7 _ _ ?_
            refine wp_region_lit ?_
            refine sqv hf (r_move rfl) rfl rfl rfl ?_; clear hf fa; intro fa hf
            refine sqv hf (r_add (C := (((j : Nat) : Int) + (1 : Int))) rfl rfl (by rw [IntKind.wrap_i64]; omega)) rfl rfl rfl ?_; clear hf fa; intro fa hf
            refine sqv hf (r_assign rfl) rfl rfl rfl ?_; clear hf fa; intro fa hf
            apply wpList_nil
            (try simp only [Exit.then, Exit.inBlock, ↓reduceIte, Nat.reduceEqDiff])
            refine hKL1 _ _ _ (by omega) ⟨(kk - (1 : Int)), fi, (j + 1), (j + 1), rfl, hf.sub ⟨rfl, rfl, rfl, (some_int (by first | rfl | omega)), (some_int (by first | rfl | omega)), trivial⟩, hb, by omega, by omega, by omega, by omega, by omega, (by rw [← hF, wordF_step (j := j) (by omega), if_neg (by have h := hqt24_1; omega), if_neg (by have h := hqt27_1; omega), if_neg (by have h := hqt31_1; omega)])⟩
    · have hqt12_1b := hqt12_1
      replace hqt12_1 := Bool.eq_false_iff.1 hqt12_1
      try simp only [ne_eq, decide_eq_true_eq, Bool.and_eq_true, Bool.or_eq_true, Bool.not_eq_true', decide_eq_false_iff_not] at hqt12_1
      refine wp_exit ?_
      (try simp only [Exit.then, Exit.inBlock, ↓reduceIte, Nat.reduceEqDiff])
      refine hK3 _ _ ?_
      refine wp_seq_k (fun K14 hK14 => ?_)
      refine wp_region_lit ?_
      refine sqv hf (r_assign rfl) rfl rfl rfl ?_; clear hf fa; intro fa hf
      refine sqv hf (r_assign rfl) rfl rfl rfl ?_; clear hf fa; intro fa hf
      apply wpList_nil
      (try simp only [Exit.then, Exit.inBlock, ↓reduceIte, Nat.reduceEqDiff])
      refine hK14 _ _ ?_
      refine wp_ret ?_
      (try simp only [Exit.then, Exit.inBlock])
      refine ret2 hf rfl rfl rfl ?_
      have hD : wordP s k = (⟨#[]⟩, false) := by rw [← hF, show s.size + 1 - j = 0 by have h := hqt12_1; omega]; rfl
      rw [hD]; exact ⟨rfl, hb⟩

def bigS0 : ByteArray := ⟨([105, 51, 50, 46, 32, 97, 100, 100, 32, 115, 117, 98, 32, 109, 117, 108, 32, 100, 105, 118, 95, 115, 32, 100, 105, 118, 95, 117, 32, 114, 101, 109, 95, 115, 32, 114, 101, 109].append [95, 117, 32, 97, 110, 100, 32, 111, 114, 32, 120, 111, 114, 32, 115, 104, 108, 32, 115, 104, 114, 95, 115, 32, 115, 104, 114, 95, 117, 32, 114, 111, 116, 108, 32, 114, 111, 116, 114]).toArray⟩
def bigS1 : ByteArray := ⟨([105, 54, 52, 46, 32, 97, 100, 100, 32, 115, 117, 98, 32, 109, 117, 108, 32, 100, 105, 118, 95, 115, 32, 100, 105, 118, 95, 117, 32, 114, 101, 109, 95, 115, 32, 114, 101, 109].append [95, 117, 32, 97, 110, 100, 32, 111, 114, 32, 120, 111, 114, 32, 115, 104, 108, 32, 115, 104, 114, 95, 115, 32, 115, 104, 114, 95, 117, 32, 114, 111, 116, 108, 32, 114, 111, 116, 114]).toArray⟩
def groupsL : List MGr := [((0 : Int), ⟨#[32, 117, 110, 114, 101, 97, 99, 104, 97, 98, 108, 101]⟩, (0 : Int), ⟨#[]⟩, ⟨#[]⟩, true, ()), ((1 : Int), ⟨#[32, 110, 111, 112]⟩, (0 : Int), ⟨#[]⟩, ⟨#[]⟩, false, ()), ((2 : Int), ⟨#[32, 98, 108, 111, 99, 107, 32, 108, 111, 111, 112, 32, 105, 102]⟩, (1 : Int), ⟨#[]⟩, ⟨#[]⟩, true, ()), ((5 : Int), ⟨#[32, 101, 108, 115, 101]⟩, (0 : Int), ⟨#[]⟩, ⟨#[]⟩, true, ()), ((11 : Int), ⟨#[32, 101, 110, 100]⟩, (0 : Int), ⟨#[]⟩, ⟨#[]⟩, true, ()), ((12 : Int), ⟨#[32, 98, 114, 32, 98, 114, 95, 105, 102]⟩, (2 : Int), ⟨#[]⟩, ⟨#[]⟩, true, ()), ((14 : Int), ⟨#[32, 98, 114, 95, 116, 97, 98, 108, 101]⟩, (3 : Int), ⟨#[]⟩, ⟨#[]⟩, true, ()), ((15 : Int), ⟨#[32, 114, 101, 116, 117, 114, 110]⟩, (0 : Int), ⟨#[]⟩, ⟨#[]⟩, true, ()), ((16 : Int), ⟨#[32, 99, 97, 108, 108]⟩, (4 : Int), ⟨#[]⟩, ⟨#[]⟩, true, ()), ((17 : Int), ⟨#[32, 99, 97, 108, 108, 95, 105, 110, 100, 105, 114, 101, 99, 116]⟩, (5 : Int), ⟨#[]⟩, ⟨#[]⟩, true, ()), ((26 : Int), ⟨#[32, 100, 114, 111, 112, 32, 115, 101, 108, 101, 99, 116]⟩, (0 : Int), ⟨#[]⟩, ⟨#[]⟩, true, ()), ((32 : Int), ⟨#[108, 111, 99, 97, 108, 46, 32, 103, 101, 116, 32, 115, 101, 116, 32, 116, 101, 101]⟩, (6 : Int), ⟨#[]⟩, ⟨#[]⟩, true, ()), ((35 : Int), ⟨#[103, 108, 111, 98, 97, 108, 46, 32, 103, 101, 116, 32, 115, 101, 116]⟩, (7 : Int), ⟨#[]⟩, ⟨#[]⟩, true, ()), ((40 : Int), ⟨#[105, 51, 50, 46, 32, 108, 111, 97, 100]⟩, (8 : Int), ⟨#[119]⟩, ⟨#[119]⟩, false, ()), ((41 : Int), ⟨#[105, 54, 52, 46, 32, 108, 111, 97, 100]⟩, (8 : Int), ⟨#[119]⟩, ⟨#[108]⟩, false, ()), ((44 : Int), ⟨#[105, 51, 50, 46, 32, 108, 111, 97, 100, 56, 95, 115, 32, 108, 111, 97, 100, 56, 95, 117, 32, 108, 111, 97, 100, 49, 54, 95, 115, 32, 108, 111, 97, 100, 49, 54, 95, 117]⟩, (8 : Int), ⟨#[119]⟩, ⟨#[119]⟩, false, ()), ((48 : Int), ⟨#[105, 54, 52, 46, 32, 108, 111, 97, 100, 56, 95, 115, 32, 108, 111, 97, 100, 56, 95, 117, 32, 108, 111, 97, 100, 49, 54, 95, 115, 32, 108, 111, 97, 100, 49, 54, 95, 117, 32, 108, 111, 97, 100, 51, 50, 95, 115, 32, 108, 111, 97, 100, 51, 50, 95, 117]⟩, (8 : Int), ⟨#[119]⟩, ⟨#[108]⟩, false, ()), ((54 : Int), ⟨#[105, 51, 50, 46, 32, 115, 116, 111, 114, 101]⟩, (8 : Int), ⟨#[119, 119]⟩, ⟨#[]⟩, false, ()), ((55 : Int), ⟨#[105, 54, 52, 46, 32, 115, 116, 111, 114, 101]⟩, (8 : Int), ⟨#[119, 108]⟩, ⟨#[]⟩, false, ()), ((58 : Int), ⟨#[105, 51, 50, 46, 32, 115, 116, 111, 114, 101, 56, 32, 115, 116, 111, 114, 101, 49, 54]⟩, (8 : Int), ⟨#[119, 119]⟩, ⟨#[]⟩, false, ()), ((60 : Int), ⟨#[105, 54, 52, 46, 32, 115, 116, 111, 114, 101, 56, 32, 115, 116, 111, 114, 101, 49, 54, 32, 115, 116, 111, 114, 101, 51, 50]⟩, (8 : Int), ⟨#[119, 108]⟩, ⟨#[]⟩, false, ()), ((63 : Int), ⟨#[109, 101, 109, 111, 114, 121, 46, 32, 115, 105, 122, 101]⟩, (9 : Int), ⟨#[]⟩, ⟨#[119]⟩, false, ()), ((64 : Int), ⟨#[109, 101, 109, 111, 114, 121, 46, 32, 103, 114, 111, 119]⟩, (9 : Int), ⟨#[119]⟩, ⟨#[119]⟩, false, ()), ((65 : Int), ⟨#[105, 51, 50, 46, 32, 99, 111, 110, 115, 116]⟩, (10 : Int), ⟨#[]⟩, ⟨#[119]⟩, false, ()), ((66 : Int), ⟨#[105, 54, 52, 46, 32, 99, 111, 110, 115, 116]⟩, (11 : Int), ⟨#[]⟩, ⟨#[108]⟩, false, ()), ((69 : Int), ⟨#[105, 51, 50, 46, 32, 101, 113, 122]⟩, (0 : Int), ⟨#[119]⟩, ⟨#[119]⟩, false, ()), ((70 : Int), ⟨#[105, 51, 50, 46, 32, 101, 113, 32, 110, 101, 32, 108, 116, 95, 115, 32, 108, 116, 95, 117, 32, 103, 116, 95, 115, 32, 103, 116, 95, 117, 32, 108, 101, 95, 115, 32, 108, 101, 95, 117, 32, 103, 101, 95, 115, 32, 103, 101, 95, 117]⟩, (0 : Int), ⟨#[119, 119]⟩, ⟨#[119]⟩, false, ()), ((80 : Int), ⟨#[105, 54, 52, 46, 32, 101, 113, 122]⟩, (0 : Int), ⟨#[108]⟩, ⟨#[119]⟩, false, ()), ((81 : Int), ⟨#[105, 54, 52, 46, 32, 101, 113, 32, 110, 101, 32, 108, 116, 95, 115, 32, 108, 116, 95, 117, 32, 103, 116, 95, 115, 32, 103, 116, 95, 117, 32, 108, 101, 95, 115, 32, 108, 101, 95, 117, 32, 103, 101, 95, 115, 32, 103, 101, 95, 117]⟩, (0 : Int), ⟨#[108, 108]⟩, ⟨#[119]⟩, false, ()), ((103 : Int), ⟨#[105, 51, 50, 46, 32, 99, 108, 122, 32, 99, 116, 122, 32, 112, 111, 112, 99, 110, 116]⟩, (0 : Int), ⟨#[119]⟩, ⟨#[119]⟩, false, ()), ((106 : Int), bigS0, (0 : Int), ⟨#[119, 119]⟩, ⟨#[119]⟩, false, ()), ((121 : Int), ⟨#[105, 54, 52, 46, 32, 99, 108, 122, 32, 99, 116, 122, 32, 112, 111, 112, 99, 110, 116]⟩, (0 : Int), ⟨#[108]⟩, ⟨#[108]⟩, false, ()), ((124 : Int), bigS1, (0 : Int), ⟨#[108, 108]⟩, ⟨#[108]⟩, false, ()), ((167 : Int), ⟨#[105, 51, 50, 46, 32, 119, 114, 97, 112, 95, 105, 54, 52]⟩, (0 : Int), ⟨#[108]⟩, ⟨#[119]⟩, false, ()), ((172 : Int), ⟨#[105, 54, 52, 46, 32, 101, 120, 116, 101, 110, 100, 95, 105, 51, 50, 95, 115, 32, 101, 120, 116, 101, 110, 100, 95, 105, 51, 50, 95, 117]⟩, (0 : Int), ⟨#[119]⟩, ⟨#[108]⟩, false, ())]
theorem groupsL_len : groupsL.length = 35 := rfl

set_option maxHeartbeats 1000000 in
set_option maxRecDepth 100000 in
theorem groups_any (w : World) : Calls Try.prog 87 #[] w fun e w' => ∃ v, e = .returned v ∧ Row 6 vMGr 146 w.heap.size w' v groupsL ∧ Below w.heap.size w w' := by
  refine sx_enter (L := []) Try.func87 rfl rfl rfl rfl (fun fa hf => ?_)
  have hb : Below w.heap.size w w := Below.refl _ _
  refine wp_seq_k (fun K1 hK1 => ?_)
  refine wp_region_lit ?_
  refine sqv hf (r_assign rfl) rfl rfl rfl ?_; clear hf fa; intro fa hf
  apply wpList_nil
  (try simp only [Exit.then, Exit.inBlock, ↓reduceIte, Nat.reduceEqDiff])
  refine hK1 _ _ ?_
  refine wp_seq_k (fun K2 hK2 => ?_)
  refine wp_region_lit ?_
  refine sqv hf (r_build (vs := [(0, (.int .i64 (0 : Int))), (1, (.string ⟨#[32, 117, 110, 114, 101, 97, 99, 104, 97, 98, 108, 101]⟩)), (5, (.bool true))]) (cs := #[(.int .i64 (0 : Int)), (.string ⟨#[32, 117, 110, 114, 101, 97, 99, 104, 97, 98, 108, 101]⟩), (.int .i64 (0 : Int)), (.string ⟨#[]⟩), (.string ⟨#[]⟩), (.bool true)]) rfl (fun _ => by kernel_rfl)) rfl rfl rfl ?_; clear hf fa; intro fa hf
  refine sqv hf (r_build (vs := [(0, (.int .i64 (1 : Int))), (1, (.string ⟨#[32, 110, 111, 112]⟩))]) (cs := #[(.int .i64 (1 : Int)), (.string ⟨#[32, 110, 111, 112]⟩), (.int .i64 (0 : Int)), (.string ⟨#[]⟩), (.string ⟨#[]⟩), (.bool false)]) rfl (fun _ => by kernel_rfl)) rfl rfl rfl ?_; clear hf fa; intro fa hf
  refine sqv hf (r_build (vs := [(0, (.int .i64 (2 : Int))), (1, (.string ⟨#[32, 98, 108, 111, 99, 107, 32, 108, 111, 111, 112, 32, 105, 102]⟩)), (2, (.int .i64 (1 : Int))), (5, (.bool true))]) (cs := #[(.int .i64 (2 : Int)), (.string ⟨#[32, 98, 108, 111, 99, 107, 32, 108, 111, 111, 112, 32, 105, 102]⟩), (.int .i64 (1 : Int)), (.string ⟨#[]⟩), (.string ⟨#[]⟩), (.bool true)]) rfl (fun _ => by kernel_rfl)) rfl rfl rfl ?_; clear hf fa; intro fa hf
  refine sqv hf (r_build (vs := [(0, (.int .i64 (5 : Int))), (1, (.string ⟨#[32, 101, 108, 115, 101]⟩)), (5, (.bool true))]) (cs := #[(.int .i64 (5 : Int)), (.string ⟨#[32, 101, 108, 115, 101]⟩), (.int .i64 (0 : Int)), (.string ⟨#[]⟩), (.string ⟨#[]⟩), (.bool true)]) rfl (fun _ => by kernel_rfl)) rfl rfl rfl ?_; clear hf fa; intro fa hf
  refine sqv hf (r_build (vs := [(0, (.int .i64 (11 : Int))), (1, (.string ⟨#[32, 101, 110, 100]⟩)), (5, (.bool true))]) (cs := #[(.int .i64 (11 : Int)), (.string ⟨#[32, 101, 110, 100]⟩), (.int .i64 (0 : Int)), (.string ⟨#[]⟩), (.string ⟨#[]⟩), (.bool true)]) rfl (fun _ => by kernel_rfl)) rfl rfl rfl ?_; clear hf fa; intro fa hf
  refine sqv hf (r_build (vs := [(0, (.int .i64 (12 : Int))), (1, (.string ⟨#[32, 98, 114, 32, 98, 114, 95, 105, 102]⟩)), (2, (.int .i64 (2 : Int))), (5, (.bool true))]) (cs := #[(.int .i64 (12 : Int)), (.string ⟨#[32, 98, 114, 32, 98, 114, 95, 105, 102]⟩), (.int .i64 (2 : Int)), (.string ⟨#[]⟩), (.string ⟨#[]⟩), (.bool true)]) rfl (fun _ => by kernel_rfl)) rfl rfl rfl ?_; clear hf fa; intro fa hf
  refine sqv hf (r_build (vs := [(0, (.int .i64 (14 : Int))), (1, (.string ⟨#[32, 98, 114, 95, 116, 97, 98, 108, 101]⟩)), (2, (.int .i64 (3 : Int))), (5, (.bool true))]) (cs := #[(.int .i64 (14 : Int)), (.string ⟨#[32, 98, 114, 95, 116, 97, 98, 108, 101]⟩), (.int .i64 (3 : Int)), (.string ⟨#[]⟩), (.string ⟨#[]⟩), (.bool true)]) rfl (fun _ => by kernel_rfl)) rfl rfl rfl ?_; clear hf fa; intro fa hf
  refine sqv hf (r_build (vs := [(0, (.int .i64 (15 : Int))), (1, (.string ⟨#[32, 114, 101, 116, 117, 114, 110]⟩)), (5, (.bool true))]) (cs := #[(.int .i64 (15 : Int)), (.string ⟨#[32, 114, 101, 116, 117, 114, 110]⟩), (.int .i64 (0 : Int)), (.string ⟨#[]⟩), (.string ⟨#[]⟩), (.bool true)]) rfl (fun _ => by kernel_rfl)) rfl rfl rfl ?_; clear hf fa; intro fa hf
  refine sqv hf (r_build (vs := [(0, (.int .i64 (16 : Int))), (1, (.string ⟨#[32, 99, 97, 108, 108]⟩)), (2, (.int .i64 (4 : Int))), (5, (.bool true))]) (cs := #[(.int .i64 (16 : Int)), (.string ⟨#[32, 99, 97, 108, 108]⟩), (.int .i64 (4 : Int)), (.string ⟨#[]⟩), (.string ⟨#[]⟩), (.bool true)]) rfl (fun _ => by kernel_rfl)) rfl rfl rfl ?_; clear hf fa; intro fa hf
  refine sqv hf (r_build (vs := [(0, (.int .i64 (17 : Int))), (1, (.string ⟨#[32, 99, 97, 108, 108, 95, 105, 110, 100, 105, 114, 101, 99, 116]⟩)), (2, (.int .i64 (5 : Int))), (5, (.bool true))]) (cs := #[(.int .i64 (17 : Int)), (.string ⟨#[32, 99, 97, 108, 108, 95, 105, 110, 100, 105, 114, 101, 99, 116]⟩), (.int .i64 (5 : Int)), (.string ⟨#[]⟩), (.string ⟨#[]⟩), (.bool true)]) rfl (fun _ => by kernel_rfl)) rfl rfl rfl ?_; clear hf fa; intro fa hf
  refine sqv hf (r_build (vs := [(0, (.int .i64 (26 : Int))), (1, (.string ⟨#[32, 100, 114, 111, 112, 32, 115, 101, 108, 101, 99, 116]⟩)), (5, (.bool true))]) (cs := #[(.int .i64 (26 : Int)), (.string ⟨#[32, 100, 114, 111, 112, 32, 115, 101, 108, 101, 99, 116]⟩), (.int .i64 (0 : Int)), (.string ⟨#[]⟩), (.string ⟨#[]⟩), (.bool true)]) rfl (fun _ => by kernel_rfl)) rfl rfl rfl ?_; clear hf fa; intro fa hf
  refine sqv hf (r_build (vs := [(0, (.int .i64 (32 : Int))), (1, (.string ⟨#[108, 111, 99, 97, 108, 46, 32, 103, 101, 116, 32, 115, 101, 116, 32, 116, 101, 101]⟩)), (2, (.int .i64 (6 : Int))), (5, (.bool true))]) (cs := #[(.int .i64 (32 : Int)), (.string ⟨#[108, 111, 99, 97, 108, 46, 32, 103, 101, 116, 32, 115, 101, 116, 32, 116, 101, 101]⟩), (.int .i64 (6 : Int)), (.string ⟨#[]⟩), (.string ⟨#[]⟩), (.bool true)]) rfl (fun _ => by kernel_rfl)) rfl rfl rfl ?_; clear hf fa; intro fa hf
  refine sqv hf (r_build (vs := [(0, (.int .i64 (35 : Int))), (1, (.string ⟨#[103, 108, 111, 98, 97, 108, 46, 32, 103, 101, 116, 32, 115, 101, 116]⟩)), (2, (.int .i64 (7 : Int))), (5, (.bool true))]) (cs := #[(.int .i64 (35 : Int)), (.string ⟨#[103, 108, 111, 98, 97, 108, 46, 32, 103, 101, 116, 32, 115, 101, 116]⟩), (.int .i64 (7 : Int)), (.string ⟨#[]⟩), (.string ⟨#[]⟩), (.bool true)]) rfl (fun _ => by kernel_rfl)) rfl rfl rfl ?_; clear hf fa; intro fa hf
  refine sqv hf (r_build (vs := [(0, (.int .i64 (40 : Int))), (1, (.string ⟨#[105, 51, 50, 46, 32, 108, 111, 97, 100]⟩)), (2, (.int .i64 (8 : Int))), (3, (.string ⟨#[119]⟩)), (4, (.string ⟨#[119]⟩))]) (cs := #[(.int .i64 (40 : Int)), (.string ⟨#[105, 51, 50, 46, 32, 108, 111, 97, 100]⟩), (.int .i64 (8 : Int)), (.string ⟨#[119]⟩), (.string ⟨#[119]⟩), (.bool false)]) rfl (fun _ => by kernel_rfl)) rfl rfl rfl ?_; clear hf fa; intro fa hf
  refine sqv hf (r_build (vs := [(0, (.int .i64 (41 : Int))), (1, (.string ⟨#[105, 54, 52, 46, 32, 108, 111, 97, 100]⟩)), (2, (.int .i64 (8 : Int))), (3, (.string ⟨#[119]⟩)), (4, (.string ⟨#[108]⟩))]) (cs := #[(.int .i64 (41 : Int)), (.string ⟨#[105, 54, 52, 46, 32, 108, 111, 97, 100]⟩), (.int .i64 (8 : Int)), (.string ⟨#[119]⟩), (.string ⟨#[108]⟩), (.bool false)]) rfl (fun _ => by kernel_rfl)) rfl rfl rfl ?_; clear hf fa; intro fa hf
  refine sqv hf (r_build (vs := [(0, (.int .i64 (44 : Int))), (1, (.string ⟨#[105, 51, 50, 46, 32, 108, 111, 97, 100, 56, 95, 115, 32, 108, 111, 97, 100, 56, 95, 117, 32, 108, 111, 97, 100, 49, 54, 95, 115, 32, 108, 111, 97, 100, 49, 54, 95, 117]⟩)), (2, (.int .i64 (8 : Int))), (3, (.string ⟨#[119]⟩)), (4, (.string ⟨#[119]⟩))]) (cs := #[(.int .i64 (44 : Int)), (.string ⟨#[105, 51, 50, 46, 32, 108, 111, 97, 100, 56, 95, 115, 32, 108, 111, 97, 100, 56, 95, 117, 32, 108, 111, 97, 100, 49, 54, 95, 115, 32, 108, 111, 97, 100, 49, 54, 95, 117]⟩), (.int .i64 (8 : Int)), (.string ⟨#[119]⟩), (.string ⟨#[119]⟩), (.bool false)]) rfl (fun _ => by kernel_rfl)) rfl rfl rfl ?_; clear hf fa; intro fa hf
  refine sqv hf (r_build (vs := [(0, (.int .i64 (48 : Int))), (1, (.string ⟨#[105, 54, 52, 46, 32, 108, 111, 97, 100, 56, 95, 115, 32, 108, 111, 97, 100, 56, 95, 117, 32, 108, 111, 97, 100, 49, 54, 95, 115, 32, 108, 111, 97, 100, 49, 54, 95, 117, 32, 108, 111, 97, 100, 51, 50, 95, 115, 32, 108, 111, 97, 100, 51, 50, 95, 117]⟩)), (2, (.int .i64 (8 : Int))), (3, (.string ⟨#[119]⟩)), (4, (.string ⟨#[108]⟩))]) (cs := #[(.int .i64 (48 : Int)), (.string ⟨#[105, 54, 52, 46, 32, 108, 111, 97, 100, 56, 95, 115, 32, 108, 111, 97, 100, 56, 95, 117, 32, 108, 111, 97, 100, 49, 54, 95, 115, 32, 108, 111, 97, 100, 49, 54, 95, 117, 32, 108, 111, 97, 100, 51, 50, 95, 115, 32, 108, 111, 97, 100, 51, 50, 95, 117]⟩), (.int .i64 (8 : Int)), (.string ⟨#[119]⟩), (.string ⟨#[108]⟩), (.bool false)]) rfl (fun _ => by kernel_rfl)) rfl rfl rfl ?_; clear hf fa; intro fa hf
  refine sqv hf (r_build (vs := [(0, (.int .i64 (54 : Int))), (1, (.string ⟨#[105, 51, 50, 46, 32, 115, 116, 111, 114, 101]⟩)), (2, (.int .i64 (8 : Int))), (3, (.string ⟨#[119, 119]⟩))]) (cs := #[(.int .i64 (54 : Int)), (.string ⟨#[105, 51, 50, 46, 32, 115, 116, 111, 114, 101]⟩), (.int .i64 (8 : Int)), (.string ⟨#[119, 119]⟩), (.string ⟨#[]⟩), (.bool false)]) rfl (fun _ => by kernel_rfl)) rfl rfl rfl ?_; clear hf fa; intro fa hf
  refine sqv hf (r_build (vs := [(0, (.int .i64 (55 : Int))), (1, (.string ⟨#[105, 54, 52, 46, 32, 115, 116, 111, 114, 101]⟩)), (2, (.int .i64 (8 : Int))), (3, (.string ⟨#[119, 108]⟩))]) (cs := #[(.int .i64 (55 : Int)), (.string ⟨#[105, 54, 52, 46, 32, 115, 116, 111, 114, 101]⟩), (.int .i64 (8 : Int)), (.string ⟨#[119, 108]⟩), (.string ⟨#[]⟩), (.bool false)]) rfl (fun _ => by kernel_rfl)) rfl rfl rfl ?_; clear hf fa; intro fa hf
  refine sqv hf (r_build (vs := [(0, (.int .i64 (58 : Int))), (1, (.string ⟨#[105, 51, 50, 46, 32, 115, 116, 111, 114, 101, 56, 32, 115, 116, 111, 114, 101, 49, 54]⟩)), (2, (.int .i64 (8 : Int))), (3, (.string ⟨#[119, 119]⟩))]) (cs := #[(.int .i64 (58 : Int)), (.string ⟨#[105, 51, 50, 46, 32, 115, 116, 111, 114, 101, 56, 32, 115, 116, 111, 114, 101, 49, 54]⟩), (.int .i64 (8 : Int)), (.string ⟨#[119, 119]⟩), (.string ⟨#[]⟩), (.bool false)]) rfl (fun _ => by kernel_rfl)) rfl rfl rfl ?_; clear hf fa; intro fa hf
  refine sqv hf (r_build (vs := [(0, (.int .i64 (60 : Int))), (1, (.string ⟨#[105, 54, 52, 46, 32, 115, 116, 111, 114, 101, 56, 32, 115, 116, 111, 114, 101, 49, 54, 32, 115, 116, 111, 114, 101, 51, 50]⟩)), (2, (.int .i64 (8 : Int))), (3, (.string ⟨#[119, 108]⟩))]) (cs := #[(.int .i64 (60 : Int)), (.string ⟨#[105, 54, 52, 46, 32, 115, 116, 111, 114, 101, 56, 32, 115, 116, 111, 114, 101, 49, 54, 32, 115, 116, 111, 114, 101, 51, 50]⟩), (.int .i64 (8 : Int)), (.string ⟨#[119, 108]⟩), (.string ⟨#[]⟩), (.bool false)]) rfl (fun _ => by kernel_rfl)) rfl rfl rfl ?_; clear hf fa; intro fa hf
  refine sqv hf (r_build (vs := [(0, (.int .i64 (63 : Int))), (1, (.string ⟨#[109, 101, 109, 111, 114, 121, 46, 32, 115, 105, 122, 101]⟩)), (2, (.int .i64 (9 : Int))), (4, (.string ⟨#[119]⟩))]) (cs := #[(.int .i64 (63 : Int)), (.string ⟨#[109, 101, 109, 111, 114, 121, 46, 32, 115, 105, 122, 101]⟩), (.int .i64 (9 : Int)), (.string ⟨#[]⟩), (.string ⟨#[119]⟩), (.bool false)]) rfl (fun _ => by kernel_rfl)) rfl rfl rfl ?_; clear hf fa; intro fa hf
  refine sqv hf (r_build (vs := [(0, (.int .i64 (64 : Int))), (1, (.string ⟨#[109, 101, 109, 111, 114, 121, 46, 32, 103, 114, 111, 119]⟩)), (2, (.int .i64 (9 : Int))), (3, (.string ⟨#[119]⟩)), (4, (.string ⟨#[119]⟩))]) (cs := #[(.int .i64 (64 : Int)), (.string ⟨#[109, 101, 109, 111, 114, 121, 46, 32, 103, 114, 111, 119]⟩), (.int .i64 (9 : Int)), (.string ⟨#[119]⟩), (.string ⟨#[119]⟩), (.bool false)]) rfl (fun _ => by kernel_rfl)) rfl rfl rfl ?_; clear hf fa; intro fa hf
  refine sqv hf (r_build (vs := [(0, (.int .i64 (65 : Int))), (1, (.string ⟨#[105, 51, 50, 46, 32, 99, 111, 110, 115, 116]⟩)), (2, (.int .i64 (10 : Int))), (4, (.string ⟨#[119]⟩))]) (cs := #[(.int .i64 (65 : Int)), (.string ⟨#[105, 51, 50, 46, 32, 99, 111, 110, 115, 116]⟩), (.int .i64 (10 : Int)), (.string ⟨#[]⟩), (.string ⟨#[119]⟩), (.bool false)]) rfl (fun _ => by kernel_rfl)) rfl rfl rfl ?_; clear hf fa; intro fa hf
  refine sqv hf (r_build (vs := [(0, (.int .i64 (66 : Int))), (1, (.string ⟨#[105, 54, 52, 46, 32, 99, 111, 110, 115, 116]⟩)), (2, (.int .i64 (11 : Int))), (4, (.string ⟨#[108]⟩))]) (cs := #[(.int .i64 (66 : Int)), (.string ⟨#[105, 54, 52, 46, 32, 99, 111, 110, 115, 116]⟩), (.int .i64 (11 : Int)), (.string ⟨#[]⟩), (.string ⟨#[108]⟩), (.bool false)]) rfl (fun _ => by kernel_rfl)) rfl rfl rfl ?_; clear hf fa; intro fa hf
  refine sqv hf (r_build (vs := [(0, (.int .i64 (69 : Int))), (1, (.string ⟨#[105, 51, 50, 46, 32, 101, 113, 122]⟩)), (3, (.string ⟨#[119]⟩)), (4, (.string ⟨#[119]⟩))]) (cs := #[(.int .i64 (69 : Int)), (.string ⟨#[105, 51, 50, 46, 32, 101, 113, 122]⟩), (.int .i64 (0 : Int)), (.string ⟨#[119]⟩), (.string ⟨#[119]⟩), (.bool false)]) rfl (fun _ => by kernel_rfl)) rfl rfl rfl ?_; clear hf fa; intro fa hf
  refine sqv hf (r_build (vs := [(0, (.int .i64 (70 : Int))), (1, (.string ⟨#[105, 51, 50, 46, 32, 101, 113, 32, 110, 101, 32, 108, 116, 95, 115, 32, 108, 116, 95, 117, 32, 103, 116, 95, 115, 32, 103, 116, 95, 117, 32, 108, 101, 95, 115, 32, 108, 101, 95, 117, 32, 103, 101, 95, 115, 32, 103, 101, 95, 117]⟩)), (3, (.string ⟨#[119, 119]⟩)), (4, (.string ⟨#[119]⟩))]) (cs := #[(.int .i64 (70 : Int)), (.string ⟨#[105, 51, 50, 46, 32, 101, 113, 32, 110, 101, 32, 108, 116, 95, 115, 32, 108, 116, 95, 117, 32, 103, 116, 95, 115, 32, 103, 116, 95, 117, 32, 108, 101, 95, 115, 32, 108, 101, 95, 117, 32, 103, 101, 95, 115, 32, 103, 101, 95, 117]⟩), (.int .i64 (0 : Int)), (.string ⟨#[119, 119]⟩), (.string ⟨#[119]⟩), (.bool false)]) rfl (fun _ => by kernel_rfl)) rfl rfl rfl ?_; clear hf fa; intro fa hf
  refine sqv hf (r_build (vs := [(0, (.int .i64 (80 : Int))), (1, (.string ⟨#[105, 54, 52, 46, 32, 101, 113, 122]⟩)), (3, (.string ⟨#[108]⟩)), (4, (.string ⟨#[119]⟩))]) (cs := #[(.int .i64 (80 : Int)), (.string ⟨#[105, 54, 52, 46, 32, 101, 113, 122]⟩), (.int .i64 (0 : Int)), (.string ⟨#[108]⟩), (.string ⟨#[119]⟩), (.bool false)]) rfl (fun _ => by kernel_rfl)) rfl rfl rfl ?_; clear hf fa; intro fa hf
  refine sqv hf (r_build (vs := [(0, (.int .i64 (81 : Int))), (1, (.string ⟨#[105, 54, 52, 46, 32, 101, 113, 32, 110, 101, 32, 108, 116, 95, 115, 32, 108, 116, 95, 117, 32, 103, 116, 95, 115, 32, 103, 116, 95, 117, 32, 108, 101, 95, 115, 32, 108, 101, 95, 117, 32, 103, 101, 95, 115, 32, 103, 101, 95, 117]⟩)), (3, (.string ⟨#[108, 108]⟩)), (4, (.string ⟨#[119]⟩))]) (cs := #[(.int .i64 (81 : Int)), (.string ⟨#[105, 54, 52, 46, 32, 101, 113, 32, 110, 101, 32, 108, 116, 95, 115, 32, 108, 116, 95, 117, 32, 103, 116, 95, 115, 32, 103, 116, 95, 117, 32, 108, 101, 95, 115, 32, 108, 101, 95, 117, 32, 103, 101, 95, 115, 32, 103, 101, 95, 117]⟩), (.int .i64 (0 : Int)), (.string ⟨#[108, 108]⟩), (.string ⟨#[119]⟩), (.bool false)]) rfl (fun _ => by kernel_rfl)) rfl rfl rfl ?_; clear hf fa; intro fa hf
  refine sqv hf (r_build (vs := [(0, (.int .i64 (103 : Int))), (1, (.string ⟨#[105, 51, 50, 46, 32, 99, 108, 122, 32, 99, 116, 122, 32, 112, 111, 112, 99, 110, 116]⟩)), (3, (.string ⟨#[119]⟩)), (4, (.string ⟨#[119]⟩))]) (cs := #[(.int .i64 (103 : Int)), (.string ⟨#[105, 51, 50, 46, 32, 99, 108, 122, 32, 99, 116, 122, 32, 112, 111, 112, 99, 110, 116]⟩), (.int .i64 (0 : Int)), (.string ⟨#[119]⟩), (.string ⟨#[119]⟩), (.bool false)]) rfl (fun _ => by kernel_rfl)) rfl rfl rfl ?_; clear hf fa; intro fa hf
  refine sqv hf (r_build (vs := [(0, (.int .i64 (106 : Int))), (1, (.string bigS0)), (3, (.string ⟨#[119, 119]⟩)), (4, (.string ⟨#[119]⟩))]) (cs := #[(.int .i64 (106 : Int)), (.string bigS0), (.int .i64 (0 : Int)), (.string ⟨#[119, 119]⟩), (.string ⟨#[119]⟩), (.bool false)]) rfl (fun _ => by kernel_rfl)) rfl rfl rfl ?_; clear hf fa; intro fa hf
  refine sqv hf (r_build (vs := [(0, (.int .i64 (121 : Int))), (1, (.string ⟨#[105, 54, 52, 46, 32, 99, 108, 122, 32, 99, 116, 122, 32, 112, 111, 112, 99, 110, 116]⟩)), (3, (.string ⟨#[108]⟩)), (4, (.string ⟨#[108]⟩))]) (cs := #[(.int .i64 (121 : Int)), (.string ⟨#[105, 54, 52, 46, 32, 99, 108, 122, 32, 99, 116, 122, 32, 112, 111, 112, 99, 110, 116]⟩), (.int .i64 (0 : Int)), (.string ⟨#[108]⟩), (.string ⟨#[108]⟩), (.bool false)]) rfl (fun _ => by kernel_rfl)) rfl rfl rfl ?_; clear hf fa; intro fa hf
  refine sqv hf (r_build (vs := [(0, (.int .i64 (124 : Int))), (1, (.string bigS1)), (3, (.string ⟨#[108, 108]⟩)), (4, (.string ⟨#[108]⟩))]) (cs := #[(.int .i64 (124 : Int)), (.string bigS1), (.int .i64 (0 : Int)), (.string ⟨#[108, 108]⟩), (.string ⟨#[108]⟩), (.bool false)]) rfl (fun _ => by kernel_rfl)) rfl rfl rfl ?_; clear hf fa; intro fa hf
  refine sqv hf (r_build (vs := [(0, (.int .i64 (167 : Int))), (1, (.string ⟨#[105, 51, 50, 46, 32, 119, 114, 97, 112, 95, 105, 54, 52]⟩)), (3, (.string ⟨#[108]⟩)), (4, (.string ⟨#[119]⟩))]) (cs := #[(.int .i64 (167 : Int)), (.string ⟨#[105, 51, 50, 46, 32, 119, 114, 97, 112, 95, 105, 54, 52]⟩), (.int .i64 (0 : Int)), (.string ⟨#[108]⟩), (.string ⟨#[119]⟩), (.bool false)]) rfl (fun _ => by kernel_rfl)) rfl rfl rfl ?_; clear hf fa; intro fa hf
  refine sqv hf (r_build (vs := [(0, (.int .i64 (172 : Int))), (1, (.string ⟨#[105, 54, 52, 46, 32, 101, 120, 116, 101, 110, 100, 95, 105, 51, 50, 95, 115, 32, 101, 120, 116, 101, 110, 100, 95, 105, 51, 50, 95, 117]⟩)), (3, (.string ⟨#[119]⟩)), (4, (.string ⟨#[108]⟩))]) (cs := #[(.int .i64 (172 : Int)), (.string ⟨#[105, 54, 52, 46, 32, 101, 120, 116, 101, 110, 100, 95, 105, 51, 50, 95, 115, 32, 101, 120, 116, 101, 110, 100, 95, 105, 51, 50, 95, 117]⟩), (.int .i64 (0 : Int)), (.string ⟨#[119]⟩), (.string ⟨#[108]⟩), (.bool false)]) rfl (fun _ => by kernel_rfl)) rfl rfl rfl ?_; clear hf fa; intro fa hf
  refine sqdt hf (d_bslice (z := (.agg #[(.int .i64 (0 : Int)), (.string ⟨#[]⟩), (.int .i64 (0 : Int)), (.string ⟨#[]⟩), (.string ⟨#[]⟩), (.bool false)])) (sz := 6) (vs := [(0, (.agg #[(.int .i64 (0 : Int)), (.string ⟨#[32, 117, 110, 114, 101, 97, 99, 104, 97, 98, 108, 101]⟩), (.int .i64 (0 : Int)), (.string ⟨#[]⟩), (.string ⟨#[]⟩), (.bool true)])), (1, (.agg #[(.int .i64 (1 : Int)), (.string ⟨#[32, 110, 111, 112]⟩), (.int .i64 (0 : Int)), (.string ⟨#[]⟩), (.string ⟨#[]⟩), (.bool false)])), (2, (.agg #[(.int .i64 (2 : Int)), (.string ⟨#[32, 98, 108, 111, 99, 107, 32, 108, 111, 111, 112, 32, 105, 102]⟩), (.int .i64 (1 : Int)), (.string ⟨#[]⟩), (.string ⟨#[]⟩), (.bool true)])), (3, (.agg #[(.int .i64 (5 : Int)), (.string ⟨#[32, 101, 108, 115, 101]⟩), (.int .i64 (0 : Int)), (.string ⟨#[]⟩), (.string ⟨#[]⟩), (.bool true)])), (4, (.agg #[(.int .i64 (11 : Int)), (.string ⟨#[32, 101, 110, 100]⟩), (.int .i64 (0 : Int)), (.string ⟨#[]⟩), (.string ⟨#[]⟩), (.bool true)])), (5, (.agg #[(.int .i64 (12 : Int)), (.string ⟨#[32, 98, 114, 32, 98, 114, 95, 105, 102]⟩), (.int .i64 (2 : Int)), (.string ⟨#[]⟩), (.string ⟨#[]⟩), (.bool true)])), (6, (.agg #[(.int .i64 (14 : Int)), (.string ⟨#[32, 98, 114, 95, 116, 97, 98, 108, 101]⟩), (.int .i64 (3 : Int)), (.string ⟨#[]⟩), (.string ⟨#[]⟩), (.bool true)])), (7, (.agg #[(.int .i64 (15 : Int)), (.string ⟨#[32, 114, 101, 116, 117, 114, 110]⟩), (.int .i64 (0 : Int)), (.string ⟨#[]⟩), (.string ⟨#[]⟩), (.bool true)])), (8, (.agg #[(.int .i64 (16 : Int)), (.string ⟨#[32, 99, 97, 108, 108]⟩), (.int .i64 (4 : Int)), (.string ⟨#[]⟩), (.string ⟨#[]⟩), (.bool true)])), (9, (.agg #[(.int .i64 (17 : Int)), (.string ⟨#[32, 99, 97, 108, 108, 95, 105, 110, 100, 105, 114, 101, 99, 116]⟩), (.int .i64 (5 : Int)), (.string ⟨#[]⟩), (.string ⟨#[]⟩), (.bool true)])), (10, (.agg #[(.int .i64 (26 : Int)), (.string ⟨#[32, 100, 114, 111, 112, 32, 115, 101, 108, 101, 99, 116]⟩), (.int .i64 (0 : Int)), (.string ⟨#[]⟩), (.string ⟨#[]⟩), (.bool true)])), (11, (.agg #[(.int .i64 (32 : Int)), (.string ⟨#[108, 111, 99, 97, 108, 46, 32, 103, 101, 116, 32, 115, 101, 116, 32, 116, 101, 101]⟩), (.int .i64 (6 : Int)), (.string ⟨#[]⟩), (.string ⟨#[]⟩), (.bool true)])), (12, (.agg #[(.int .i64 (35 : Int)), (.string ⟨#[103, 108, 111, 98, 97, 108, 46, 32, 103, 101, 116, 32, 115, 101, 116]⟩), (.int .i64 (7 : Int)), (.string ⟨#[]⟩), (.string ⟨#[]⟩), (.bool true)])), (13, (.agg #[(.int .i64 (40 : Int)), (.string ⟨#[105, 51, 50, 46, 32, 108, 111, 97, 100]⟩), (.int .i64 (8 : Int)), (.string ⟨#[119]⟩), (.string ⟨#[119]⟩), (.bool false)])), (14, (.agg #[(.int .i64 (41 : Int)), (.string ⟨#[105, 54, 52, 46, 32, 108, 111, 97, 100]⟩), (.int .i64 (8 : Int)), (.string ⟨#[119]⟩), (.string ⟨#[108]⟩), (.bool false)])), (15, (.agg #[(.int .i64 (44 : Int)), (.string ⟨#[105, 51, 50, 46, 32, 108, 111, 97, 100, 56, 95, 115, 32, 108, 111, 97, 100, 56, 95, 117, 32, 108, 111, 97, 100, 49, 54, 95, 115, 32, 108, 111, 97, 100, 49, 54, 95, 117]⟩), (.int .i64 (8 : Int)), (.string ⟨#[119]⟩), (.string ⟨#[119]⟩), (.bool false)])), (16, (.agg #[(.int .i64 (48 : Int)), (.string ⟨#[105, 54, 52, 46, 32, 108, 111, 97, 100, 56, 95, 115, 32, 108, 111, 97, 100, 56, 95, 117, 32, 108, 111, 97, 100, 49, 54, 95, 115, 32, 108, 111, 97, 100, 49, 54, 95, 117, 32, 108, 111, 97, 100, 51, 50, 95, 115, 32, 108, 111, 97, 100, 51, 50, 95, 117]⟩), (.int .i64 (8 : Int)), (.string ⟨#[119]⟩), (.string ⟨#[108]⟩), (.bool false)])), (17, (.agg #[(.int .i64 (54 : Int)), (.string ⟨#[105, 51, 50, 46, 32, 115, 116, 111, 114, 101]⟩), (.int .i64 (8 : Int)), (.string ⟨#[119, 119]⟩), (.string ⟨#[]⟩), (.bool false)])), (18, (.agg #[(.int .i64 (55 : Int)), (.string ⟨#[105, 54, 52, 46, 32, 115, 116, 111, 114, 101]⟩), (.int .i64 (8 : Int)), (.string ⟨#[119, 108]⟩), (.string ⟨#[]⟩), (.bool false)])), (19, (.agg #[(.int .i64 (58 : Int)), (.string ⟨#[105, 51, 50, 46, 32, 115, 116, 111, 114, 101, 56, 32, 115, 116, 111, 114, 101, 49, 54]⟩), (.int .i64 (8 : Int)), (.string ⟨#[119, 119]⟩), (.string ⟨#[]⟩), (.bool false)])), (20, (.agg #[(.int .i64 (60 : Int)), (.string ⟨#[105, 54, 52, 46, 32, 115, 116, 111, 114, 101, 56, 32, 115, 116, 111, 114, 101, 49, 54, 32, 115, 116, 111, 114, 101, 51, 50]⟩), (.int .i64 (8 : Int)), (.string ⟨#[119, 108]⟩), (.string ⟨#[]⟩), (.bool false)])), (21, (.agg #[(.int .i64 (63 : Int)), (.string ⟨#[109, 101, 109, 111, 114, 121, 46, 32, 115, 105, 122, 101]⟩), (.int .i64 (9 : Int)), (.string ⟨#[]⟩), (.string ⟨#[119]⟩), (.bool false)])), (22, (.agg #[(.int .i64 (64 : Int)), (.string ⟨#[109, 101, 109, 111, 114, 121, 46, 32, 103, 114, 111, 119]⟩), (.int .i64 (9 : Int)), (.string ⟨#[119]⟩), (.string ⟨#[119]⟩), (.bool false)])), (23, (.agg #[(.int .i64 (65 : Int)), (.string ⟨#[105, 51, 50, 46, 32, 99, 111, 110, 115, 116]⟩), (.int .i64 (10 : Int)), (.string ⟨#[]⟩), (.string ⟨#[119]⟩), (.bool false)])), (24, (.agg #[(.int .i64 (66 : Int)), (.string ⟨#[105, 54, 52, 46, 32, 99, 111, 110, 115, 116]⟩), (.int .i64 (11 : Int)), (.string ⟨#[]⟩), (.string ⟨#[108]⟩), (.bool false)])), (25, (.agg #[(.int .i64 (69 : Int)), (.string ⟨#[105, 51, 50, 46, 32, 101, 113, 122]⟩), (.int .i64 (0 : Int)), (.string ⟨#[119]⟩), (.string ⟨#[119]⟩), (.bool false)])), (26, (.agg #[(.int .i64 (70 : Int)), (.string ⟨#[105, 51, 50, 46, 32, 101, 113, 32, 110, 101, 32, 108, 116, 95, 115, 32, 108, 116, 95, 117, 32, 103, 116, 95, 115, 32, 103, 116, 95, 117, 32, 108, 101, 95, 115, 32, 108, 101, 95, 117, 32, 103, 101, 95, 115, 32, 103, 101, 95, 117]⟩), (.int .i64 (0 : Int)), (.string ⟨#[119, 119]⟩), (.string ⟨#[119]⟩), (.bool false)])), (27, (.agg #[(.int .i64 (80 : Int)), (.string ⟨#[105, 54, 52, 46, 32, 101, 113, 122]⟩), (.int .i64 (0 : Int)), (.string ⟨#[108]⟩), (.string ⟨#[119]⟩), (.bool false)])), (28, (.agg #[(.int .i64 (81 : Int)), (.string ⟨#[105, 54, 52, 46, 32, 101, 113, 32, 110, 101, 32, 108, 116, 95, 115, 32, 108, 116, 95, 117, 32, 103, 116, 95, 115, 32, 103, 116, 95, 117, 32, 108, 101, 95, 115, 32, 108, 101, 95, 117, 32, 103, 101, 95, 115, 32, 103, 101, 95, 117]⟩), (.int .i64 (0 : Int)), (.string ⟨#[108, 108]⟩), (.string ⟨#[119]⟩), (.bool false)])), (29, (.agg #[(.int .i64 (103 : Int)), (.string ⟨#[105, 51, 50, 46, 32, 99, 108, 122, 32, 99, 116, 122, 32, 112, 111, 112, 99, 110, 116]⟩), (.int .i64 (0 : Int)), (.string ⟨#[119]⟩), (.string ⟨#[119]⟩), (.bool false)])), (30, (.agg #[(.int .i64 (106 : Int)), (.string bigS0), (.int .i64 (0 : Int)), (.string ⟨#[119, 119]⟩), (.string ⟨#[119]⟩), (.bool false)])), (31, (.agg #[(.int .i64 (121 : Int)), (.string ⟨#[105, 54, 52, 46, 32, 99, 108, 122, 32, 99, 116, 122, 32, 112, 111, 112, 99, 110, 116]⟩), (.int .i64 (0 : Int)), (.string ⟨#[108]⟩), (.string ⟨#[108]⟩), (.bool false)])), (32, (.agg #[(.int .i64 (124 : Int)), (.string bigS1), (.int .i64 (0 : Int)), (.string ⟨#[108, 108]⟩), (.string ⟨#[108]⟩), (.bool false)])), (33, (.agg #[(.int .i64 (167 : Int)), (.string ⟨#[105, 51, 50, 46, 32, 119, 114, 97, 112, 95, 105, 54, 52]⟩), (.int .i64 (0 : Int)), (.string ⟨#[108]⟩), (.string ⟨#[119]⟩), (.bool false)])), (34, (.agg #[(.int .i64 (172 : Int)), (.string ⟨#[105, 54, 52, 46, 32, 101, 120, 116, 101, 110, 100, 95, 105, 51, 50, 95, 115, 32, 101, 120, 116, 101, 110, 100, 95, 105, 51, 50, 95, 117]⟩), (.int .i64 (0 : Int)), (.string ⟨#[119]⟩), (.string ⟨#[108]⟩), (.bool false)]))]) (cs := #[(.int .i64 (0 : Int)), (.string ⟨#[32, 117, 110, 114, 101, 97, 99, 104, 97, 98, 108, 101]⟩), (.int .i64 (0 : Int)), (.string ⟨#[]⟩), (.string ⟨#[]⟩), (.bool true), (.int .i64 (1 : Int)), (.string ⟨#[32, 110, 111, 112]⟩), (.int .i64 (0 : Int)), (.string ⟨#[]⟩), (.string ⟨#[]⟩), (.bool false), (.int .i64 (2 : Int)), (.string ⟨#[32, 98, 108, 111, 99, 107, 32, 108, 111, 111, 112, 32, 105, 102]⟩), (.int .i64 (1 : Int)), (.string ⟨#[]⟩), (.string ⟨#[]⟩), (.bool true), (.int .i64 (5 : Int)), (.string ⟨#[32, 101, 108, 115, 101]⟩), (.int .i64 (0 : Int)), (.string ⟨#[]⟩), (.string ⟨#[]⟩), (.bool true), (.int .i64 (11 : Int)), (.string ⟨#[32, 101, 110, 100]⟩), (.int .i64 (0 : Int)), (.string ⟨#[]⟩), (.string ⟨#[]⟩), (.bool true), (.int .i64 (12 : Int)), (.string ⟨#[32, 98, 114, 32, 98, 114, 95, 105, 102]⟩), (.int .i64 (2 : Int)), (.string ⟨#[]⟩), (.string ⟨#[]⟩), (.bool true), (.int .i64 (14 : Int)), (.string ⟨#[32, 98, 114, 95, 116, 97, 98, 108, 101]⟩), (.int .i64 (3 : Int)), (.string ⟨#[]⟩), (.string ⟨#[]⟩), (.bool true), (.int .i64 (15 : Int)), (.string ⟨#[32, 114, 101, 116, 117, 114, 110]⟩), (.int .i64 (0 : Int)), (.string ⟨#[]⟩), (.string ⟨#[]⟩), (.bool true), (.int .i64 (16 : Int)), (.string ⟨#[32, 99, 97, 108, 108]⟩), (.int .i64 (4 : Int)), (.string ⟨#[]⟩), (.string ⟨#[]⟩), (.bool true), (.int .i64 (17 : Int)), (.string ⟨#[32, 99, 97, 108, 108, 95, 105, 110, 100, 105, 114, 101, 99, 116]⟩), (.int .i64 (5 : Int)), (.string ⟨#[]⟩), (.string ⟨#[]⟩), (.bool true), (.int .i64 (26 : Int)), (.string ⟨#[32, 100, 114, 111, 112, 32, 115, 101, 108, 101, 99, 116]⟩), (.int .i64 (0 : Int)), (.string ⟨#[]⟩), (.string ⟨#[]⟩), (.bool true), (.int .i64 (32 : Int)), (.string ⟨#[108, 111, 99, 97, 108, 46, 32, 103, 101, 116, 32, 115, 101, 116, 32, 116, 101, 101]⟩), (.int .i64 (6 : Int)), (.string ⟨#[]⟩), (.string ⟨#[]⟩), (.bool true), (.int .i64 (35 : Int)), (.string ⟨#[103, 108, 111, 98, 97, 108, 46, 32, 103, 101, 116, 32, 115, 101, 116]⟩), (.int .i64 (7 : Int)), (.string ⟨#[]⟩), (.string ⟨#[]⟩), (.bool true), (.int .i64 (40 : Int)), (.string ⟨#[105, 51, 50, 46, 32, 108, 111, 97, 100]⟩), (.int .i64 (8 : Int)), (.string ⟨#[119]⟩), (.string ⟨#[119]⟩), (.bool false), (.int .i64 (41 : Int)), (.string ⟨#[105, 54, 52, 46, 32, 108, 111, 97, 100]⟩), (.int .i64 (8 : Int)), (.string ⟨#[119]⟩), (.string ⟨#[108]⟩), (.bool false), (.int .i64 (44 : Int)), (.string ⟨#[105, 51, 50, 46, 32, 108, 111, 97, 100, 56, 95, 115, 32, 108, 111, 97, 100, 56, 95, 117, 32, 108, 111, 97, 100, 49, 54, 95, 115, 32, 108, 111, 97, 100, 49, 54, 95, 117]⟩), (.int .i64 (8 : Int)), (.string ⟨#[119]⟩), (.string ⟨#[119]⟩), (.bool false), (.int .i64 (48 : Int)), (.string ⟨#[105, 54, 52, 46, 32, 108, 111, 97, 100, 56, 95, 115, 32, 108, 111, 97, 100, 56, 95, 117, 32, 108, 111, 97, 100, 49, 54, 95, 115, 32, 108, 111, 97, 100, 49, 54, 95, 117, 32, 108, 111, 97, 100, 51, 50, 95, 115, 32, 108, 111, 97, 100, 51, 50, 95, 117]⟩), (.int .i64 (8 : Int)), (.string ⟨#[119]⟩), (.string ⟨#[108]⟩), (.bool false), (.int .i64 (54 : Int)), (.string ⟨#[105, 51, 50, 46, 32, 115, 116, 111, 114, 101]⟩), (.int .i64 (8 : Int)), (.string ⟨#[119, 119]⟩), (.string ⟨#[]⟩), (.bool false), (.int .i64 (55 : Int)), (.string ⟨#[105, 54, 52, 46, 32, 115, 116, 111, 114, 101]⟩), (.int .i64 (8 : Int)), (.string ⟨#[119, 108]⟩), (.string ⟨#[]⟩), (.bool false), (.int .i64 (58 : Int)), (.string ⟨#[105, 51, 50, 46, 32, 115, 116, 111, 114, 101, 56, 32, 115, 116, 111, 114, 101, 49, 54]⟩), (.int .i64 (8 : Int)), (.string ⟨#[119, 119]⟩), (.string ⟨#[]⟩), (.bool false), (.int .i64 (60 : Int)), (.string ⟨#[105, 54, 52, 46, 32, 115, 116, 111, 114, 101, 56, 32, 115, 116, 111, 114, 101, 49, 54, 32, 115, 116, 111, 114, 101, 51, 50]⟩), (.int .i64 (8 : Int)), (.string ⟨#[119, 108]⟩), (.string ⟨#[]⟩), (.bool false), (.int .i64 (63 : Int)), (.string ⟨#[109, 101, 109, 111, 114, 121, 46, 32, 115, 105, 122, 101]⟩), (.int .i64 (9 : Int)), (.string ⟨#[]⟩), (.string ⟨#[119]⟩), (.bool false), (.int .i64 (64 : Int)), (.string ⟨#[109, 101, 109, 111, 114, 121, 46, 32, 103, 114, 111, 119]⟩), (.int .i64 (9 : Int)), (.string ⟨#[119]⟩), (.string ⟨#[119]⟩), (.bool false), (.int .i64 (65 : Int)), (.string ⟨#[105, 51, 50, 46, 32, 99, 111, 110, 115, 116]⟩), (.int .i64 (10 : Int)), (.string ⟨#[]⟩), (.string ⟨#[119]⟩), (.bool false), (.int .i64 (66 : Int)), (.string ⟨#[105, 54, 52, 46, 32, 99, 111, 110, 115, 116]⟩), (.int .i64 (11 : Int)), (.string ⟨#[]⟩), (.string ⟨#[108]⟩), (.bool false), (.int .i64 (69 : Int)), (.string ⟨#[105, 51, 50, 46, 32, 101, 113, 122]⟩), (.int .i64 (0 : Int)), (.string ⟨#[119]⟩), (.string ⟨#[119]⟩), (.bool false), (.int .i64 (70 : Int)), (.string ⟨#[105, 51, 50, 46, 32, 101, 113, 32, 110, 101, 32, 108, 116, 95, 115, 32, 108, 116, 95, 117, 32, 103, 116, 95, 115, 32, 103, 116, 95, 117, 32, 108, 101, 95, 115, 32, 108, 101, 95, 117, 32, 103, 101, 95, 115, 32, 103, 101, 95, 117]⟩), (.int .i64 (0 : Int)), (.string ⟨#[119, 119]⟩), (.string ⟨#[119]⟩), (.bool false), (.int .i64 (80 : Int)), (.string ⟨#[105, 54, 52, 46, 32, 101, 113, 122]⟩), (.int .i64 (0 : Int)), (.string ⟨#[108]⟩), (.string ⟨#[119]⟩), (.bool false), (.int .i64 (81 : Int)), (.string ⟨#[105, 54, 52, 46, 32, 101, 113, 32, 110, 101, 32, 108, 116, 95, 115, 32, 108, 116, 95, 117, 32, 103, 116, 95, 115, 32, 103, 116, 95, 117, 32, 108, 101, 95, 115, 32, 108, 101, 95, 117, 32, 103, 101, 95, 115, 32, 103, 101, 95, 117]⟩), (.int .i64 (0 : Int)), (.string ⟨#[108, 108]⟩), (.string ⟨#[119]⟩), (.bool false), (.int .i64 (103 : Int)), (.string ⟨#[105, 51, 50, 46, 32, 99, 108, 122, 32, 99, 116, 122, 32, 112, 111, 112, 99, 110, 116]⟩), (.int .i64 (0 : Int)), (.string ⟨#[119]⟩), (.string ⟨#[119]⟩), (.bool false), (.int .i64 (106 : Int)), (.string bigS0), (.int .i64 (0 : Int)), (.string ⟨#[119, 119]⟩), (.string ⟨#[119]⟩), (.bool false), (.int .i64 (121 : Int)), (.string ⟨#[105, 54, 52, 46, 32, 99, 108, 122, 32, 99, 116, 122, 32, 112, 111, 112, 99, 110, 116]⟩), (.int .i64 (0 : Int)), (.string ⟨#[108]⟩), (.string ⟨#[108]⟩), (.bool false), (.int .i64 (124 : Int)), (.string bigS1), (.int .i64 (0 : Int)), (.string ⟨#[108, 108]⟩), (.string ⟨#[108]⟩), (.bool false), (.int .i64 (167 : Int)), (.string ⟨#[105, 51, 50, 46, 32, 119, 114, 97, 112, 95, 105, 54, 52]⟩), (.int .i64 (0 : Int)), (.string ⟨#[108]⟩), (.string ⟨#[119]⟩), (.bool false), (.int .i64 (172 : Int)), (.string ⟨#[105, 54, 52, 46, 32, 101, 120, 116, 101, 110, 100, 95, 105, 51, 50, 95, 115, 32, 101, 120, 116, 101, 110, 100, 95, 105, 51, 50, 95, 117]⟩), (.int .i64 (0 : Int)), (.string ⟨#[119]⟩), (.string ⟨#[108]⟩), (.bool false)]) rfl Try.underlying167 (by kernel_rfl) rfl (by kernel_rfl)) rfl rfl rfl ?_; clear hf fa; rintro fa _ w1 ⟨b1, rfl, hle1, hk1, he1⟩ hf
  have hBb1 : w.heap.size ≤ b1 := Nat.le_trans hb.size hle1
  replace hb := hb.trans (Below.mono he1 hb.size)
  refine sqv hf (r_assign rfl) rfl rfl rfl ?_; clear hf fa; intro fa hf
  apply wpList_nil
  (try simp only [Exit.then, Exit.inBlock, ↓reduceIte, Nat.reduceEqDiff])
  refine hK2 _ _ ?_
  refine wp_ret ?_
  (try simp only [Exit.then, Exit.inBlock])
  refine ret1 hf rfl rfl ?_
  have hr1 := Row.of_new (k := 6) (V := vMGr) (l := [((0 : Int), ⟨#[32, 117, 110, 114, 101, 97, 99, 104, 97, 98, 108, 101]⟩, (0 : Int), ⟨#[]⟩, ⟨#[]⟩, true, ()), ((1 : Int), ⟨#[32, 110, 111, 112]⟩, (0 : Int), ⟨#[]⟩, ⟨#[]⟩, false, ()), ((2 : Int), ⟨#[32, 98, 108, 111, 99, 107, 32, 108, 111, 111, 112, 32, 105, 102]⟩, (1 : Int), ⟨#[]⟩, ⟨#[]⟩, true, ()), ((5 : Int), ⟨#[32, 101, 108, 115, 101]⟩, (0 : Int), ⟨#[]⟩, ⟨#[]⟩, true, ()), ((11 : Int), ⟨#[32, 101, 110, 100]⟩, (0 : Int), ⟨#[]⟩, ⟨#[]⟩, true, ()), ((12 : Int), ⟨#[32, 98, 114, 32, 98, 114, 95, 105, 102]⟩, (2 : Int), ⟨#[]⟩, ⟨#[]⟩, true, ()), ((14 : Int), ⟨#[32, 98, 114, 95, 116, 97, 98, 108, 101]⟩, (3 : Int), ⟨#[]⟩, ⟨#[]⟩, true, ()), ((15 : Int), ⟨#[32, 114, 101, 116, 117, 114, 110]⟩, (0 : Int), ⟨#[]⟩, ⟨#[]⟩, true, ()), ((16 : Int), ⟨#[32, 99, 97, 108, 108]⟩, (4 : Int), ⟨#[]⟩, ⟨#[]⟩, true, ()), ((17 : Int), ⟨#[32, 99, 97, 108, 108, 95, 105, 110, 100, 105, 114, 101, 99, 116]⟩, (5 : Int), ⟨#[]⟩, ⟨#[]⟩, true, ()), ((26 : Int), ⟨#[32, 100, 114, 111, 112, 32, 115, 101, 108, 101, 99, 116]⟩, (0 : Int), ⟨#[]⟩, ⟨#[]⟩, true, ()), ((32 : Int), ⟨#[108, 111, 99, 97, 108, 46, 32, 103, 101, 116, 32, 115, 101, 116, 32, 116, 101, 101]⟩, (6 : Int), ⟨#[]⟩, ⟨#[]⟩, true, ()), ((35 : Int), ⟨#[103, 108, 111, 98, 97, 108, 46, 32, 103, 101, 116, 32, 115, 101, 116]⟩, (7 : Int), ⟨#[]⟩, ⟨#[]⟩, true, ()), ((40 : Int), ⟨#[105, 51, 50, 46, 32, 108, 111, 97, 100]⟩, (8 : Int), ⟨#[119]⟩, ⟨#[119]⟩, false, ()), ((41 : Int), ⟨#[105, 54, 52, 46, 32, 108, 111, 97, 100]⟩, (8 : Int), ⟨#[119]⟩, ⟨#[108]⟩, false, ()), ((44 : Int), ⟨#[105, 51, 50, 46, 32, 108, 111, 97, 100, 56, 95, 115, 32, 108, 111, 97, 100, 56, 95, 117, 32, 108, 111, 97, 100, 49, 54, 95, 115, 32, 108, 111, 97, 100, 49, 54, 95, 117]⟩, (8 : Int), ⟨#[119]⟩, ⟨#[119]⟩, false, ()), ((48 : Int), ⟨#[105, 54, 52, 46, 32, 108, 111, 97, 100, 56, 95, 115, 32, 108, 111, 97, 100, 56, 95, 117, 32, 108, 111, 97, 100, 49, 54, 95, 115, 32, 108, 111, 97, 100, 49, 54, 95, 117, 32, 108, 111, 97, 100, 51, 50, 95, 115, 32, 108, 111, 97, 100, 51, 50, 95, 117]⟩, (8 : Int), ⟨#[119]⟩, ⟨#[108]⟩, false, ()), ((54 : Int), ⟨#[105, 51, 50, 46, 32, 115, 116, 111, 114, 101]⟩, (8 : Int), ⟨#[119, 119]⟩, ⟨#[]⟩, false, ()), ((55 : Int), ⟨#[105, 54, 52, 46, 32, 115, 116, 111, 114, 101]⟩, (8 : Int), ⟨#[119, 108]⟩, ⟨#[]⟩, false, ()), ((58 : Int), ⟨#[105, 51, 50, 46, 32, 115, 116, 111, 114, 101, 56, 32, 115, 116, 111, 114, 101, 49, 54]⟩, (8 : Int), ⟨#[119, 119]⟩, ⟨#[]⟩, false, ()), ((60 : Int), ⟨#[105, 54, 52, 46, 32, 115, 116, 111, 114, 101, 56, 32, 115, 116, 111, 114, 101, 49, 54, 32, 115, 116, 111, 114, 101, 51, 50]⟩, (8 : Int), ⟨#[119, 108]⟩, ⟨#[]⟩, false, ()), ((63 : Int), ⟨#[109, 101, 109, 111, 114, 121, 46, 32, 115, 105, 122, 101]⟩, (9 : Int), ⟨#[]⟩, ⟨#[119]⟩, false, ()), ((64 : Int), ⟨#[109, 101, 109, 111, 114, 121, 46, 32, 103, 114, 111, 119]⟩, (9 : Int), ⟨#[119]⟩, ⟨#[119]⟩, false, ()), ((65 : Int), ⟨#[105, 51, 50, 46, 32, 99, 111, 110, 115, 116]⟩, (10 : Int), ⟨#[]⟩, ⟨#[119]⟩, false, ()), ((66 : Int), ⟨#[105, 54, 52, 46, 32, 99, 111, 110, 115, 116]⟩, (11 : Int), ⟨#[]⟩, ⟨#[108]⟩, false, ()), ((69 : Int), ⟨#[105, 51, 50, 46, 32, 101, 113, 122]⟩, (0 : Int), ⟨#[119]⟩, ⟨#[119]⟩, false, ()), ((70 : Int), ⟨#[105, 51, 50, 46, 32, 101, 113, 32, 110, 101, 32, 108, 116, 95, 115, 32, 108, 116, 95, 117, 32, 103, 116, 95, 115, 32, 103, 116, 95, 117, 32, 108, 101, 95, 115, 32, 108, 101, 95, 117, 32, 103, 101, 95, 115, 32, 103, 101, 95, 117]⟩, (0 : Int), ⟨#[119, 119]⟩, ⟨#[119]⟩, false, ()), ((80 : Int), ⟨#[105, 54, 52, 46, 32, 101, 113, 122]⟩, (0 : Int), ⟨#[108]⟩, ⟨#[119]⟩, false, ()), ((81 : Int), ⟨#[105, 54, 52, 46, 32, 101, 113, 32, 110, 101, 32, 108, 116, 95, 115, 32, 108, 116, 95, 117, 32, 103, 116, 95, 115, 32, 103, 116, 95, 117, 32, 108, 101, 95, 115, 32, 108, 101, 95, 117, 32, 103, 101, 95, 115, 32, 103, 101, 95, 117]⟩, (0 : Int), ⟨#[108, 108]⟩, ⟨#[119]⟩, false, ()), ((103 : Int), ⟨#[105, 51, 50, 46, 32, 99, 108, 122, 32, 99, 116, 122, 32, 112, 111, 112, 99, 110, 116]⟩, (0 : Int), ⟨#[119]⟩, ⟨#[119]⟩, false, ()), ((106 : Int), bigS0, (0 : Int), ⟨#[119, 119]⟩, ⟨#[119]⟩, false, ()), ((121 : Int), ⟨#[105, 54, 52, 46, 32, 99, 108, 122, 32, 99, 116, 122, 32, 112, 111, 112, 99, 110, 116]⟩, (0 : Int), ⟨#[108]⟩, ⟨#[108]⟩, false, ()), ((124 : Int), bigS1, (0 : Int), ⟨#[108, 108]⟩, ⟨#[108]⟩, false, ()), ((167 : Int), ⟨#[105, 51, 50, 46, 32, 119, 114, 97, 112, 95, 105, 54, 52]⟩, (0 : Int), ⟨#[108]⟩, ⟨#[119]⟩, false, ()), ((172 : Int), ⟨#[105, 54, 52, 46, 32, 101, 120, 116, 101, 110, 100, 95, 105, 51, 50, 95, 115, 32, 101, 120, 116, 101, 110, 100, 95, 105, 51, 50, 95, 117]⟩, (0 : Int), ⟨#[119]⟩, ⟨#[108]⟩, false, ())]) (base := w.heap.size) hk1 (by omega) rfl rfl (Nat.le_of_ble_eq_true rfl)
  exact ⟨_, rfl, hr1, hb⟩

def gAt (j : Nat) : MGr := groupsL.getD j zMGr
theorem gAt_at {j : Nat} (h : j < 35) : groupsL[j]? = some (gAt j) := by
  unfold gAt
  exact getD_at (l := groupsL) (j := j) _ h
theorem gAt_ok {j : Nat} (h : j < 35) : 0 ≤ (gAt j).1 ∧ (gAt j).1 < 256 ∧ (gAt j).2.1.size ≤ 1000 := by
  have : ∀ j : Fin 35, 0 ≤ (gAt j.val).1 ∧ (gAt j.val).1 < 256 ∧ (gAt j.val).2.1.size ≤ 1000 := by decide +kernel
  exact this ⟨j, h⟩
def ofAux (op : Nat) : Nat → MGr × Bool
  | 0 => (zMGr, false)
  | i + 1 => if ((op : Nat) : Int) < (gAt i).1 then ofAux op i else if (wordP (gAt i).2.1 (((op : Nat) : Int) - (gAt i).1)).2 = true then ((((op : Nat) : Int), (wordP (gAt i).2.1 (((op : Nat) : Int) - (gAt i).1)).1, (gAt i).2.2), true) else (zMGr, false)
theorem ofAux_step {op n : Nat} (h : 1 ≤ n) : ofAux op n = if ((op : Nat) : Int) < (gAt (n - 1)).1 then ofAux op (n - 1) else if (wordP (gAt (n - 1)).2.1 (((op : Nat) : Int) - (gAt (n - 1)).1)).2 = true then ((((op : Nat) : Int), (wordP (gAt (n - 1)).2.1 (((op : Nat) : Int) - (gAt (n - 1)).1)).1, (gAt (n - 1)).2.2), true) else (zMGr, false) := by
  obtain ⟨m, rfl⟩ : ∃ m, n = m + 1 := ⟨n - 1, by omega⟩
  rfl
def ofP (op : Nat) : MGr × Bool := ofAux op 35

set_option maxHeartbeats 1000000 in
set_option maxRecDepth 100000 in
theorem of_any (op : Nat) (w : World) (hop : op < 256) : Calls Try.prog 75 #[(.int .i64 ((op : Nat) : Int))] w fun e w' => e = .returned (.tuple #[(.agg #[(.int .i64 ((ofP op).1.1)), (.string (ofP op).1.2.1), (.int .i64 ((ofP op).1.2.2.1)), (.string (ofP op).1.2.2.2.1), (.string (ofP op).1.2.2.2.2.1), (.bool (ofP op).1.2.2.2.2.2.1)]), .bool (ofP op).2]) ∧ Below w.heap.size w w' := by
  have hgl := groupsL_len
  refine sx_enter (L := [(0, (.int .i64 ((op : Nat) : Int)))]) Try.func75 rfl rfl rfl rfl (fun fa hf => ?_)
  have hb : Below w.heap.size w w := Below.refl _ _
  refine wp_seq_k (fun K1 hK1 => ?_)
  refine wp_region_lit ?_
  refine sqdt hf (d_alloc (z := (.agg #[(.int .i64 (0 : Int)), (.string ⟨#[]⟩), (.int .i64 (0 : Int)), (.string ⟨#[]⟩), (.string ⟨#[]⟩), (.bool false)])) (cs := #[(.int .i64 (0 : Int)), (.string ⟨#[]⟩), (.int .i64 (0 : Int)), (.string ⟨#[]⟩), (.string ⟨#[]⟩), (.bool false)]) (by kernel_rfl) rfl) rfl rfl rfl ?_; clear hf fa; rintro fa _ w1 ⟨b1, rfl, hle1, hk1, he1⟩ hf
  have hBb1 : w.heap.size ≤ b1 := Nat.le_trans hb.size hle1
  replace hb := hb.trans (Below.mono he1 hb.size)
  refine sqv hf (r_assign rfl) rfl rfl rfl ?_; clear hf fa; intro fa hf
  apply wpList_nil
  (try simp only [Exit.then, Exit.inBlock, ↓reduceIte, Nat.reduceEqDiff])
  refine hK1 _ _ ?_
  refine wp_seq_k (fun K2 hK2 => ?_)
  have hb1l := (Array.getElem?_eq_some_iff.1 hk1).1
  refine wp_region_lit ?_
  refine sqdt hf (d_callX (vs := []) rfl Try.func87 (by kernel_rfl) (by kernel_rfl) (groups_any _)) rfl rfl rfl ?_; clear hf fa; rintro fa v w2 ⟨hr1, he2⟩ hf; obtain ⟨ra1, rc1, rfl, hcrc1, hmrc1⟩ := Row.slice hr1
  replace hk1 := blk_ext hk1 he2
  replace hb := hb.trans (Below.mono he2 hb.size)
  refine sqv hf (r_assign rfl) rfl rfl rfl ?_; clear hf fa; intro fa hf
  apply wpList_nil
  (try simp only [Exit.then, Exit.inBlock, ↓reduceIte, Nat.reduceEqDiff])
  refine hK2 _ _ ?_
  refine wp_seq_k (fun K3 hK3 => ?_)
  refine wp_seq_k (fun K4 hK4 => ?_)
  refine wp_region_lit ?_
  refine sqv hf (r_move rfl) rfl rfl rfl ?_; clear hf fa; intro fa hf
  refine sqv hf (r_lensl rfl Try.underlying167) rfl rfl rfl ?_; clear hf fa; intro fa hf
  refine sqv hf (r_sub (C := (((groupsL.length : Nat) : Int) - (1 : Int))) rfl rfl (by rw [IntKind.wrap_i64]; omega)) rfl rfl rfl ?_; clear hf fa; intro fa hf
  refine sqv hf (r_assign rfl) rfl rfl rfl ?_; clear hf fa; intro fa hf
  apply wpList_nil
  (try simp only [Exit.then, Exit.inBlock, ↓reduceIte, Nat.reduceEqDiff])
  refine hK4 _ _ ?_
  refine wp_block ?_
  refine wp_loop_k (fun mq fa wr => ∃ (n : Nat) (rga : Option Addr) (rgc : Nat), mq = n ∧ Fr 53 fa [(0, (.int .i64 ((op : Nat) : Int))), (2, (.pointer (some ⟨b1, 0, none⟩))), (5, (.int .i64 (((n : Nat) : Int) - (1 : Int)))), (4, (.slice rga groupsL.length rgc))] ∧ Below w.heap.size w wr ∧ Row 6 vMGr 146 (w1.heap.size) wr (.slice rga (groupsL.length) rgc) groupsL ∧ wr.heap[b1]? = some (.cells #[(.int .i64 (0 : Int)), (.string ⟨#[]⟩), (.int .i64 (0 : Int)), (.string ⟨#[]⟩), (.string ⟨#[]⟩), (.bool false)] 146 (0, 0)) ∧ (n ≤ 35) ∧ (ofAux op n = ofP op)) ?_ ?_
  · skip
    exact ⟨_, 35, ra1, rc1, rfl, hf.sub ⟨rfl, rfl, (some_int (by first | rfl | omega)), rfl, trivial⟩, hb, (Row.relen hr1), hk1, by omega, rfl⟩
  · skip
    clear hf fa; intro mq1 fa w3 hI KL1 hKL1
    clear hb
    clear hk1
    clear hr1
    obtain ⟨n, rga, rgc, hmq1, hf, hb, hrg, hkb1, hn, hF⟩ := hI
    have hcrg := Row.caps hrg
    have hgl := groupsL_len
    refine wp_seq_k (fun K5 hK5 => ?_)
    refine wp_seq_k (fun K6 hK6 => ?_)
    refine wp_region_lit ?_
    refine sqv hf (r_move rfl) rfl rfl rfl ?_; clear hf fa; intro fa hf
    refine sqv hf (r_ge rfl rfl) rfl rfl rfl ?_; clear hf fa; intro fa hf
    apply wpList_nil
    (try simp only [Exit.then, Exit.inBlock, ↓reduceIte, Nat.reduceEqDiff])
    refine hK6 _ _ ?_
    refine wp_cond_split (t := (decide ((0 : Int) ≤ (((n : Nat) : Int) - (1 : Int))))) (hf.ev rfl) (fun hqt14_1 => ?_) (fun hqt14_1 => ?_)
    · have hqt14_1b := hqt14_1
      try simp only [decide_eq_true_eq, Bool.and_eq_true, Bool.or_eq_true, Bool.not_eq_true', decide_eq_false_iff_not, ne_eq, Bool.not_eq_true] at hqt14_1
      refine wp_skip ?_
      (try simp only [Exit.then, Exit.inBlock, ↓reduceIte, Nat.reduceEqDiff])
      refine hK5 _ _ ?_
      refine wp_seq_k (fun K7 hK7 => ?_)
      refine wp_block ?_
      refine wp_seq_k (fun K8 hK8 => ?_)
      refine wp_seq_k (fun K9 hK9 => ?_)
      have hg := gAt_ok (j := n - 1) (by omega)
      refine wp_region_lit ?_
      refine sqv hf (r_move rfl) rfl rfl rfl ?_; clear hf fa; intro fa hf
      refine sqv hf (r_move rfl) rfl rfl rfl ?_; clear hf fa; intro fa hf
      obtain ⟨rb1, rfl, hbbrb1, hlbrb1⟩ := Row.some hrg (by first | omega | (simp only [Sl.list_length, List.length_set, List.length_take, List.length_append, List.length_replicate, List.length_cons, List.length_nil, List.length_map, nums_len]; omega))
      have hy1 : (groupsL)[(n - 1)]? = some (gAt (n - 1)) := (gAt_at (by omega))
      have hel1 := RdS.at (Row.rd (by intros; rfl) hrg) hy1
      obtain ⟨_, _, hab, hlr1, hel1⟩ := hel1
      cases hab
      refine sqv hf (r_ixa (sz := 6) (j := (n - 1)) rfl rfl Try.underlying167 (by kernel_rfl) (by omega) (by omega) rfl) rfl rfl rfl ?_; clear hf fa; intro fa hf
      refine sqv hf (r_fa rfl Try.underlying146 (f := 0) (q := (0 + (n - 1) * 6)) rfl (by kernel_rfl) rfl) rfl rfl rfl ?_; clear hf fa; intro fa hf
      refine sqv hf (r_load (v := (.int .i64 ((gAt (n - 1)).1))) rfl Try.underlying3 rfl (cellsAt_cell hel1 (i := 0) rfl rfl)) rfl rfl rfl ?_; clear hf fa; intro fa hf
      refine sqv hf (r_move rfl) rfl rfl rfl ?_; clear hf fa; intro fa hf
      refine sqv hf (r_gt rfl rfl) rfl rfl rfl ?_; clear hf fa; intro fa hf
      apply wpList_nil
      (try simp only [Exit.then, Exit.inBlock, ↓reduceIte, Nat.reduceEqDiff])
      refine hK9 _ _ ?_
      refine wp_cond_split (t := (decide (((op : Nat) : Int) < ((gAt (n - 1)).1)))) (hf.ev rfl) (fun hqt23_1 => ?_) (fun hqt23_1 => ?_)
      · have hqt23_1b := hqt23_1
        try simp only [decide_eq_true_eq, Bool.and_eq_true, Bool.or_eq_true, Bool.not_eq_true', decide_eq_false_iff_not, ne_eq, Bool.not_eq_true] at hqt23_1
        refine wp_exit ?_
        (try simp only [Exit.then, Exit.inBlock, ↓reduceIte, Nat.reduceEqDiff])
        refine hK7 _ _ ?_
        refine wp_region_lit ?_
        refine sqv hf (r_move rfl) rfl rfl rfl ?_; clear hf fa; intro fa hf
        refine sqv hf (r_sub (C := ((((n : Nat) : Int) - (1 : Int)) - (1 : Int))) rfl rfl (by rw [IntKind.wrap_i64]; omega)) rfl rfl rfl ?_; clear hf fa; intro fa hf
        refine sqv hf (r_assign rfl) rfl rfl rfl ?_; clear hf fa; intro fa hf
        apply wpList_nil
        (try simp only [Exit.then, Exit.inBlock, ↓reduceIte, Nat.reduceEqDiff])
        refine hKL1 _ _ _ (by omega) ⟨(n - 1), (some ⟨rb1, 0, none⟩), rgc, rfl, hf.sub ⟨rfl, rfl, (some_int (by first | rfl | omega)), rfl, trivial⟩, hb, hrg, hkb1, by omega, (by rw [← hF, ofAux_step (n := n) (by omega), if_pos (by have h := hqt23_1; omega)])⟩
      · have hqt23_1b := hqt23_1
        replace hqt23_1 := Bool.eq_false_iff.1 hqt23_1
        try simp only [ne_eq, decide_eq_true_eq, Bool.and_eq_true, Bool.or_eq_true, Bool.not_eq_true', decide_eq_false_iff_not] at hqt23_1
        refine wp_skip ?_
        (try simp only [Exit.then, Exit.inBlock, ↓reduceIte, Nat.reduceEqDiff])
        refine hK8 _ _ ?_
        refine wp_seq_k (fun K10 hK10 => ?_)
        have hy2 : (groupsL)[(n - 1)]? = some (gAt (n - 1)) := (gAt_at (by omega))
        have hel2 := RdS.at (Row.rd (by intros; rfl) hrg) hy2
        obtain ⟨_, _, hab, hlr2, hel2⟩ := hel2
        cases hab
        have hy3 : (groupsL)[(n - 1)]? = some (gAt (n - 1)) := (gAt_at (by omega))
        have hel3 := RdS.at (Row.rd (by intros; rfl) hrg) hy3
        obtain ⟨_, _, hab, hlr3, hel3⟩ := hel3
        cases hab
        refine wp_region_un (fun wq => Below w3.heap.size w3 wq) (fun w w' => Below w.heap.size w w')
          (fun V => [(fun x _ => x = (.slice (some ⟨rb1, 0, none⟩) groupsL.length rgc)), (fun x _ => x = (.int .i64 (((n : Nat) : Int) - (1 : Int)))), (fun x _ => x = (.pointer (some ⟨rb1, (0 + (n - 1) * 6), none⟩))), (fun x _ => x = (.pointer (some ⟨rb1, ((0 + (n - 1) * 6) + 1), none⟩))), (fun x _ => x = (.string (gAt (n - 1)).2.1)), (fun x _ => x = (.int .i64 ((op : Nat) : Int))), (fun x _ => x = (.slice (some ⟨rb1, 0, none⟩) groupsL.length rgc)), (fun x _ => x = (.int .i64 (((n : Nat) : Int) - (1 : Int)))), (fun x _ => x = (.pointer (some ⟨rb1, (0 + (n - 1) * 6), none⟩))), (fun x _ => x = (.pointer (some ⟨rb1, (0 + (n - 1) * 6), none⟩))), (fun x _ => x = (.int .i64 ((gAt (n - 1)).1))), (fun x _ => x = (.int .i64 (((op : Nat) : Int) - ((gAt (n - 1)).1)))), (fun x _ => x = (.tuple #[(.string (wordP (gAt (n - 1)).2.1 (((op : Nat) : Int) - (gAt (n - 1)).1)).1), (.bool (wordP (gAt (n - 1)).2.1 (((op : Nat) : Int) - (gAt (n - 1)).1)).2)])), (fun x _ => x = (.tuple #[(.string (wordP (gAt (n - 1)).2.1 (((op : Nat) : Int) - (gAt (n - 1)).1)).1), (.bool (wordP (gAt (n - 1)).2.1 (((op : Nat) : Int) - (gAt (n - 1)).1)).2)])), (fun x _ => x = (.string (wordP (gAt (n - 1)).2.1 (((op : Nat) : Int) - (gAt (n - 1)).1)).1)), (fun x _ => x = (.bool (wordP (gAt (n - 1)).2.1 (((op : Nat) : Int) - (gAt (n - 1)).1)).2)), (fun x _ => x = (.string (wordP (gAt (n - 1)).2.1 (((op : Nat) : Int) - (gAt (n - 1)).1)).1)), (fun x _ => x = (.bool (wordP (gAt (n - 1)).2.1 (((op : Nat) : Int) - (gAt (n - 1)).1)).2))])
          []
          [[], [], [0, 1], [2], [3], [], [], [], [6, 7], [8], [9], [5, 10], [4, 11], [12], [13], [13], [0, 1, 2, 3, 4, 5, 6, 7, 8, 9, 10, 11, 12, 13, 14], [0, 1, 2, 3, 4, 5, 6, 7, 8, 9, 10, 11, 12, 13, 14, 15, 16]]
          hf (by kernel_rfl) (by kernel_rfl) (fun _ => rfl) ((Below.refl _ _).drew) (fun a b h1 h2 => h1.trans (h2.mono h1.size)) (fun _ _ h => h.size) (fun V => ⟨kept_eq, kept_eq, kept_eq, kept_eq, kept_eq, kept_eq, kept_eq, kept_eq, kept_eq, kept_eq, kept_eq, kept_eq, kept_eq, kept_eq, kept_eq, kept_eq, kept_eq, kept_eq, trivial⟩) (fun _ _ _ _ _ => rfl) ?_ ?_
        · skip
          intro V
          refine ⟨fun wu0 hC hd => ?_, ?_⟩
          · clear hd
            replace hb := hb.trans (hC.mono hb.size)
            replace hkb1 := blk_ext hkb1 hC
            replace hrg := Row.ext hrg hC
            exact Runs.does (r_move rfl) ⟨Below.refl _ _, rfl, nofr rfl⟩
          refine ⟨fun wu1 hC hd => ?_, ?_⟩
          · clear hd
            replace hb := hb.trans (hC.mono hb.size)
            replace hkb1 := blk_ext hkb1 hC
            replace hrg := Row.ext hrg hC
            exact Runs.does (r_move rfl) ⟨Below.refl _ _, rfl, nofr rfl⟩
          refine ⟨fun wu2 hC hd => ?_, ?_⟩
          · obtain ⟨h0, h1, _⟩ := hd
            skip
            skip
            replace h0 : V 0 = (.slice (some ⟨rb1, 0, none⟩) groupsL.length rgc) := h0
            replace h1 : V 1 = (.int .i64 (((n : Nat) : Int) - (1 : Int))) := h1
            replace hb := hb.trans (hC.mono hb.size)
            replace hkb1 := blk_ext hkb1 hC
            replace hrg := Row.ext hrg hC
            exact Runs.does (r_ixa (sz := 6) (j := (n - 1)) (congrArg some h0) (congrArg some h1) Try.underlying167 (by kernel_rfl) (by omega) (by omega) rfl) ⟨Below.refl _ _, rfl, nofr rfl⟩
          refine ⟨fun wu3 hC hd => ?_, ?_⟩
          · obtain ⟨h2, _⟩ := hd
            skip
            replace h2 : V 2 = (.pointer (some ⟨rb1, (0 + (n - 1) * 6), none⟩)) := h2
            replace hb := hb.trans (hC.mono hb.size)
            replace hkb1 := blk_ext hkb1 hC
            replace hrg := Row.ext hrg hC
            exact Runs.does (r_fa (congrArg some h2) Try.underlying146 (f := 1) (q := ((0 + (n - 1) * 6) + 1)) rfl (by kernel_rfl) rfl) ⟨Below.refl _ _, rfl, nofr rfl⟩
          refine ⟨fun wu4 hC hd => ?_, ?_⟩
          · obtain ⟨h3, _⟩ := hd
            skip
            replace h3 : V 3 = (.pointer (some ⟨rb1, ((0 + (n - 1) * 6) + 1), none⟩)) := h3
            replace hb := hb.trans (hC.mono hb.size)
            replace hkb1 := blk_ext hkb1 hC
            replace hrg := Row.ext hrg hC
            exact Runs.does (r_load (v := (.string (gAt (n - 1)).2.1)) (congrArg some h3) Try.underlying9 rfl (cellsAt_cell (cellsAt_below hel2 hC hlr2) (i := 1) rfl rfl)) ⟨Below.refl _ _, rfl, nofr rfl⟩
          refine ⟨fun wu5 hC hd => ?_, ?_⟩
          · clear hd
            replace hb := hb.trans (hC.mono hb.size)
            replace hkb1 := blk_ext hkb1 hC
            replace hrg := Row.ext hrg hC
            exact Runs.does (r_move rfl) ⟨Below.refl _ _, rfl, nofr rfl⟩
          refine ⟨fun wu6 hC hd => ?_, ?_⟩
          · clear hd
            replace hb := hb.trans (hC.mono hb.size)
            replace hkb1 := blk_ext hkb1 hC
            replace hrg := Row.ext hrg hC
            exact Runs.does (r_move rfl) ⟨Below.refl _ _, rfl, nofr rfl⟩
          refine ⟨fun wu7 hC hd => ?_, ?_⟩
          · clear hd
            replace hb := hb.trans (hC.mono hb.size)
            replace hkb1 := blk_ext hkb1 hC
            replace hrg := Row.ext hrg hC
            exact Runs.does (r_move rfl) ⟨Below.refl _ _, rfl, nofr rfl⟩
          refine ⟨fun wu8 hC hd => ?_, ?_⟩
          · obtain ⟨h6, h7, _⟩ := hd
            skip
            skip
            replace h6 : V 6 = (.slice (some ⟨rb1, 0, none⟩) groupsL.length rgc) := h6
            replace h7 : V 7 = (.int .i64 (((n : Nat) : Int) - (1 : Int))) := h7
            replace hb := hb.trans (hC.mono hb.size)
            replace hkb1 := blk_ext hkb1 hC
            replace hrg := Row.ext hrg hC
            exact Runs.does (r_ixa (sz := 6) (j := (n - 1)) (congrArg some h6) (congrArg some h7) Try.underlying167 (by kernel_rfl) (by omega) (by omega) rfl) ⟨Below.refl _ _, rfl, nofr rfl⟩
          refine ⟨fun wu9 hC hd => ?_, ?_⟩
          · obtain ⟨h8, _⟩ := hd
            skip
            replace h8 : V 8 = (.pointer (some ⟨rb1, (0 + (n - 1) * 6), none⟩)) := h8
            replace hb := hb.trans (hC.mono hb.size)
            replace hkb1 := blk_ext hkb1 hC
            replace hrg := Row.ext hrg hC
            exact Runs.does (r_fa (congrArg some h8) Try.underlying146 (f := 0) (q := (0 + (n - 1) * 6)) rfl (by kernel_rfl) rfl) ⟨Below.refl _ _, rfl, nofr rfl⟩
          refine ⟨fun wu10 hC hd => ?_, ?_⟩
          · obtain ⟨h9, _⟩ := hd
            skip
            replace h9 : V 9 = (.pointer (some ⟨rb1, (0 + (n - 1) * 6), none⟩)) := h9
            replace hb := hb.trans (hC.mono hb.size)
            replace hkb1 := blk_ext hkb1 hC
            replace hrg := Row.ext hrg hC
            exact Runs.does (r_load (v := (.int .i64 ((gAt (n - 1)).1))) (congrArg some h9) Try.underlying3 rfl (cellsAt_cell (cellsAt_below hel3 hC hlr3) (i := 0) rfl rfl)) ⟨Below.refl _ _, rfl, nofr rfl⟩
          refine ⟨fun wu11 hC hd => ?_, ?_⟩
          · obtain ⟨h5, h10, _⟩ := hd
            skip
            skip
            replace h5 : V 5 = (.int .i64 ((op : Nat) : Int)) := h5
            replace h10 : V 10 = (.int .i64 ((gAt (n - 1)).1)) := h10
            replace hb := hb.trans (hC.mono hb.size)
            replace hkb1 := blk_ext hkb1 hC
            replace hrg := Row.ext hrg hC
            exact Runs.does (r_sub (C := (((op : Nat) : Int) - ((gAt (n - 1)).1))) (congrArg some h5) (congrArg some h10) (by rw [IntKind.wrap_i64]; omega)) ⟨Below.refl _ _, rfl, nofr rfl⟩
          refine ⟨fun wu12 hC hd => ?_, ?_⟩
          · obtain ⟨h4, h11, _⟩ := hd
            skip
            skip
            replace h4 : V 4 = (.string (gAt (n - 1)).2.1) := h4
            replace h11 : V 11 = (.int .i64 (((op : Nat) : Int) - ((gAt (n - 1)).1))) := h11
            replace hb := hb.trans (hC.mono hb.size)
            replace hkb1 := blk_ext hkb1 hC
            replace hrg := Row.ext hrg hC
            refine Does.mono (d_callB (vs := [(.string (gAt (n - 1)).2.1), (.int .i64 (((op : Nat) : Int) - ((gAt (n - 1)).1)))]) (show [some (V 4), some (V 11)] = [some (.string (gAt (n - 1)).2.1), some (.int .i64 (((op : Nat) : Int) - ((gAt (n - 1)).1)))] from by rw [h4, h11]) Try.func88 (by kernel_rfl) (by kernel_rfl) (word_any (gAt (n - 1)).2.1 (((op : Nat) : Int) - (gAt (n - 1)).1) _ (by omega) (by omega))) (fun _ _ h => ⟨h.2, h.1, nofr rfl⟩)
          refine ⟨fun wu13 hC hd => ?_, ?_⟩
          · obtain ⟨h12, _⟩ := hd
            skip
            replace h12 : V 12 = (.tuple #[(.string (wordP (gAt (n - 1)).2.1 (((op : Nat) : Int) - (gAt (n - 1)).1)).1), (.bool (wordP (gAt (n - 1)).2.1 (((op : Nat) : Int) - (gAt (n - 1)).1)).2)]) := h12
            replace hb := hb.trans (hC.mono hb.size)
            replace hkb1 := blk_ext hkb1 hC
            replace hrg := Row.ext hrg hC
            exact Runs.does (r_move (congrArg some h12)) ⟨Below.refl _ _, rfl, nofr rfl⟩
          refine ⟨fun wu14 hC hd => ?_, ?_⟩
          · obtain ⟨h13, _⟩ := hd
            skip
            replace h13 : V 13 = (.tuple #[(.string (wordP (gAt (n - 1)).2.1 (((op : Nat) : Int) - (gAt (n - 1)).1)).1), (.bool (wordP (gAt (n - 1)).2.1 (((op : Nat) : Int) - (gAt (n - 1)).1)).2)]) := h13
            replace hb := hb.trans (hC.mono hb.size)
            replace hkb1 := blk_ext hkb1 hC
            replace hrg := Row.ext hrg hC
            exact Runs.does (r_extract (congrArg some h13) (i := 0) rfl) ⟨Below.refl _ _, rfl, nofr rfl⟩
          refine ⟨fun wu15 hC hd => ?_, ?_⟩
          · obtain ⟨h13, _⟩ := hd
            skip
            replace h13 : V 13 = (.tuple #[(.string (wordP (gAt (n - 1)).2.1 (((op : Nat) : Int) - (gAt (n - 1)).1)).1), (.bool (wordP (gAt (n - 1)).2.1 (((op : Nat) : Int) - (gAt (n - 1)).1)).2)]) := h13
            replace hb := hb.trans (hC.mono hb.size)
            replace hkb1 := blk_ext hkb1 hC
            replace hrg := Row.ext hrg hC
            exact Runs.does (r_extract (congrArg some h13) (i := 1) rfl) ⟨Below.refl _ _, rfl, nofr rfl⟩
          refine ⟨fun wu16 hC hd => ?_, ?_⟩
          · obtain ⟨h0, h1, h2, h3, h4, h5, h6, h7, h8, h9, h10, h11, h12, h13, h14, _⟩ := hd
            skip
            skip
            skip
            skip
            skip
            skip
            skip
            skip
            skip
            skip
            skip
            skip
            skip
            skip
            skip
            replace h0 : V 0 = (.slice (some ⟨rb1, 0, none⟩) groupsL.length rgc) := h0
            replace h1 : V 1 = (.int .i64 (((n : Nat) : Int) - (1 : Int))) := h1
            replace h2 : V 2 = (.pointer (some ⟨rb1, (0 + (n - 1) * 6), none⟩)) := h2
            replace h3 : V 3 = (.pointer (some ⟨rb1, ((0 + (n - 1) * 6) + 1), none⟩)) := h3
            replace h4 : V 4 = (.string (gAt (n - 1)).2.1) := h4
            replace h5 : V 5 = (.int .i64 ((op : Nat) : Int)) := h5
            replace h6 : V 6 = (.slice (some ⟨rb1, 0, none⟩) groupsL.length rgc) := h6
            replace h7 : V 7 = (.int .i64 (((n : Nat) : Int) - (1 : Int))) := h7
            replace h8 : V 8 = (.pointer (some ⟨rb1, (0 + (n - 1) * 6), none⟩)) := h8
            replace h9 : V 9 = (.pointer (some ⟨rb1, (0 + (n - 1) * 6), none⟩)) := h9
            replace h10 : V 10 = (.int .i64 ((gAt (n - 1)).1)) := h10
            replace h11 : V 11 = (.int .i64 (((op : Nat) : Int) - ((gAt (n - 1)).1))) := h11
            replace h12 : V 12 = (.tuple #[(.string (wordP (gAt (n - 1)).2.1 (((op : Nat) : Int) - (gAt (n - 1)).1)).1), (.bool (wordP (gAt (n - 1)).2.1 (((op : Nat) : Int) - (gAt (n - 1)).1)).2)]) := h12
            replace h13 : V 13 = (.tuple #[(.string (wordP (gAt (n - 1)).2.1 (((op : Nat) : Int) - (gAt (n - 1)).1)).1), (.bool (wordP (gAt (n - 1)).2.1 (((op : Nat) : Int) - (gAt (n - 1)).1)).2)]) := h13
            replace h14 : V 14 = (.string (wordP (gAt (n - 1)).2.1 (((op : Nat) : Int) - (gAt (n - 1)).1)).1) := h14
            replace hb := hb.trans (hC.mono hb.size)
            replace hkb1 := blk_ext hkb1 hC
            replace hrg := Row.ext hrg hC
            exact Runs.does (r_assign (congrArg some h14)) ⟨Below.refl _ _, rfl, nofr rfl⟩
          refine ⟨fun wu17 hC hd => ?_, ?_⟩
          · obtain ⟨h0, h1, h2, h3, h4, h5, h6, h7, h8, h9, h10, h11, h12, h13, h14, h15, h16, _⟩ := hd
            skip
            skip
            skip
            skip
            skip
            skip
            skip
            skip
            skip
            skip
            skip
            skip
            skip
            skip
            skip
            skip
            skip
            replace h0 : V 0 = (.slice (some ⟨rb1, 0, none⟩) groupsL.length rgc) := h0
            replace h1 : V 1 = (.int .i64 (((n : Nat) : Int) - (1 : Int))) := h1
            replace h2 : V 2 = (.pointer (some ⟨rb1, (0 + (n - 1) * 6), none⟩)) := h2
            replace h3 : V 3 = (.pointer (some ⟨rb1, ((0 + (n - 1) * 6) + 1), none⟩)) := h3
            replace h4 : V 4 = (.string (gAt (n - 1)).2.1) := h4
            replace h5 : V 5 = (.int .i64 ((op : Nat) : Int)) := h5
            replace h6 : V 6 = (.slice (some ⟨rb1, 0, none⟩) groupsL.length rgc) := h6
            replace h7 : V 7 = (.int .i64 (((n : Nat) : Int) - (1 : Int))) := h7
            replace h8 : V 8 = (.pointer (some ⟨rb1, (0 + (n - 1) * 6), none⟩)) := h8
            replace h9 : V 9 = (.pointer (some ⟨rb1, (0 + (n - 1) * 6), none⟩)) := h9
            replace h10 : V 10 = (.int .i64 ((gAt (n - 1)).1)) := h10
            replace h11 : V 11 = (.int .i64 (((op : Nat) : Int) - ((gAt (n - 1)).1))) := h11
            replace h12 : V 12 = (.tuple #[(.string (wordP (gAt (n - 1)).2.1 (((op : Nat) : Int) - (gAt (n - 1)).1)).1), (.bool (wordP (gAt (n - 1)).2.1 (((op : Nat) : Int) - (gAt (n - 1)).1)).2)]) := h12
            replace h13 : V 13 = (.tuple #[(.string (wordP (gAt (n - 1)).2.1 (((op : Nat) : Int) - (gAt (n - 1)).1)).1), (.bool (wordP (gAt (n - 1)).2.1 (((op : Nat) : Int) - (gAt (n - 1)).1)).2)]) := h13
            replace h14 : V 14 = (.string (wordP (gAt (n - 1)).2.1 (((op : Nat) : Int) - (gAt (n - 1)).1)).1) := h14
            replace h15 : V 15 = (.bool (wordP (gAt (n - 1)).2.1 (((op : Nat) : Int) - (gAt (n - 1)).1)).2) := h15
            replace h16 : V 16 = (.string (wordP (gAt (n - 1)).2.1 (((op : Nat) : Int) - (gAt (n - 1)).1)).1) := h16
            replace hb := hb.trans (hC.mono hb.size)
            replace hkb1 := blk_ext hkb1 hC
            replace hrg := Row.ext hrg hC
            exact Runs.does (r_assign (congrArg some h15)) ⟨Below.refl _ _, rfl, nofr rfl⟩
          trivial
        · skip
          clear hf fa; intro V w4 fa he3 hp hnb hf
          have hv0 : V 0 = (.slice (some ⟨rb1, 0, none⟩) groupsL.length rgc) := postsHold_at hp 0 rfl
          have hv1 : V 1 = (.int .i64 (((n : Nat) : Int) - (1 : Int))) := postsHold_at hp 1 rfl
          have hv2 : V 2 = (.pointer (some ⟨rb1, (0 + (n - 1) * 6), none⟩)) := postsHold_at hp 2 rfl
          have hv3 : V 3 = (.pointer (some ⟨rb1, ((0 + (n - 1) * 6) + 1), none⟩)) := postsHold_at hp 3 rfl
          have hv4 : V 4 = (.string (gAt (n - 1)).2.1) := postsHold_at hp 4 rfl
          have hv5 : V 5 = (.int .i64 ((op : Nat) : Int)) := postsHold_at hp 5 rfl
          have hv6 : V 6 = (.slice (some ⟨rb1, 0, none⟩) groupsL.length rgc) := postsHold_at hp 6 rfl
          have hv7 : V 7 = (.int .i64 (((n : Nat) : Int) - (1 : Int))) := postsHold_at hp 7 rfl
          have hv8 : V 8 = (.pointer (some ⟨rb1, (0 + (n - 1) * 6), none⟩)) := postsHold_at hp 8 rfl
          have hv9 : V 9 = (.pointer (some ⟨rb1, (0 + (n - 1) * 6), none⟩)) := postsHold_at hp 9 rfl
          have hv10 : V 10 = (.int .i64 ((gAt (n - 1)).1)) := postsHold_at hp 10 rfl
          have hv11 : V 11 = (.int .i64 (((op : Nat) : Int) - ((gAt (n - 1)).1))) := postsHold_at hp 11 rfl
          have hv12 : V 12 = (.tuple #[(.string (wordP (gAt (n - 1)).2.1 (((op : Nat) : Int) - (gAt (n - 1)).1)).1), (.bool (wordP (gAt (n - 1)).2.1 (((op : Nat) : Int) - (gAt (n - 1)).1)).2)]) := postsHold_at hp 12 rfl
          have hv13 : V 13 = (.tuple #[(.string (wordP (gAt (n - 1)).2.1 (((op : Nat) : Int) - (gAt (n - 1)).1)).1), (.bool (wordP (gAt (n - 1)).2.1 (((op : Nat) : Int) - (gAt (n - 1)).1)).2)]) := postsHold_at hp 13 rfl
          have hv14 : V 14 = (.string (wordP (gAt (n - 1)).2.1 (((op : Nat) : Int) - (gAt (n - 1)).1)).1) := postsHold_at hp 14 rfl
          have hv15 : V 15 = (.bool (wordP (gAt (n - 1)).2.1 (((op : Nat) : Int) - (gAt (n - 1)).1)).2) := postsHold_at hp 15 rfl
          have hv16 : V 16 = (.string (wordP (gAt (n - 1)).2.1 (((op : Nat) : Int) - (gAt (n - 1)).1)).1) := postsHold_at hp 16 rfl
          have hv17 : V 17 = (.bool (wordP (gAt (n - 1)).2.1 (((op : Nat) : Int) - (gAt (n - 1)).1)).2) := postsHold_at hp 17 rfl
          simp only [List.take_succ_cons, List.take_zero, insAll, ins, hv0, hv1, hv2, hv3, hv4, hv5, hv6, hv7, hv8, hv9, hv10, hv11, hv12, hv13, hv14, hv15, hv16, hv17] at hf
          clear hp hnb hv0 hv1 hv2 hv3 hv4 hv5 hv6 hv7 hv8 hv9 hv10 hv11 hv12 hv13 hv14 hv15 hv16 hv17
          replace hkb1 := blk_ext hkb1 he3
          replace hrg := Row.ext hrg he3
          replace hb := hb.trans (Below.mono he3 hb.size)
          (try simp only [Exit.then, Exit.inBlock, ↓reduceIte, Nat.reduceEqDiff])
          refine hK10 _ _ ?_
          refine wp_seq_k (fun K11 hK11 => ?_)
          refine wp_seq_k (fun K12 hK12 => ?_)
          skip
          refine wp_region_lit ?_
          refine sqv hf (r_move rfl) rfl rfl rfl ?_; clear hf fa; intro fa hf
          refine sqv hf (r_not rfl) rfl rfl rfl ?_; clear hf fa; intro fa hf
          apply wpList_nil
          (try simp only [Exit.then, Exit.inBlock, ↓reduceIte, Nat.reduceEqDiff])
          refine hK12 _ _ ?_
          refine wp_cond_split (t := (!(wordP (gAt (n - 1)).2.1 (((op : Nat) : Int) - (gAt (n - 1)).1)).2)) (hf.ev rfl) (fun hqt41_1 => ?_) (fun hqt41_1 => ?_)
          · have hqt41_1b := hqt41_1
            try simp only [decide_eq_true_eq, Bool.and_eq_true, Bool.or_eq_true, Bool.not_eq_true', decide_eq_false_iff_not, ne_eq, Bool.not_eq_true] at hqt41_1
            refine wp_seq_k (fun K13 hK13 => ?_)
            refine wp_region_lit ?_
            refine sqv hf (r_build (vs := []) (cs := #[(.int .i64 (0 : Int)), (.string ⟨#[]⟩), (.int .i64 (0 : Int)), (.string ⟨#[]⟩), (.string ⟨#[]⟩), (.bool false)]) rfl (fun _ => by kernel_rfl)) rfl rfl rfl ?_; clear hf fa; intro fa hf
            refine sqn hf (d_storeK (T := 146) (v := (.agg #[(.int .i64 (0 : Int)), (.string ⟨#[]⟩), (.int .i64 (0 : Int)), (.string ⟨#[]⟩), (.string ⟨#[]⟩), (.bool false)])) (cs := #[(.int .i64 (0 : Int)), (.string ⟨#[]⟩), (.int .i64 (0 : Int)), (.string ⟨#[]⟩), (.string ⟨#[]⟩), (.bool false)]) (cs' := #[(.int .i64 (0 : Int)), (.string ⟨#[]⟩), (.int .i64 (0 : Int)), (.string ⟨#[]⟩), (.string ⟨#[]⟩), (.bool false)]) rfl rfl (by kernel_rfl) (by kernel_rfl) hkb1 (by kernel_rfl) (by kernel_rfl)) rfl rfl ?_; clear hf fa; rintro fa _ w5 ⟨hk2, hg1⟩ hf
            replace hrg := Row.grown hrg hg1 (fun e => by have e : rb1 = b1 := Option.some.inj e; omega)
            replace hb := hb.trans (grown_below hg1 hb.size hBb1)
            refine sqv hf (r_assign rfl) rfl rfl rfl ?_; clear hf fa; intro fa hf
            apply wpList_nil
            (try simp only [Exit.then, Exit.inBlock, ↓reduceIte, Nat.reduceEqDiff])
            refine hK13 _ _ ?_
            refine wp_ret ?_
            (try simp only [Exit.then, Exit.inBlock])
            refine retCT hf rfl rfl hk2 Try.underlying146 rfl (by kernel_rfl) rfl ?_
            have hD : ofP op = (zMGr, false) := by rw [← hF, ofAux_step (n := n) (by omega), if_neg (by have h := hqt23_1; omega), if_neg (by have h := hqt41_1; simpa using h)]
            rw [hD]; exact ⟨rfl, hb⟩
          · have hqt41_1b := hqt41_1
            replace hqt41_1 := Bool.eq_false_iff.1 hqt41_1
            try simp only [ne_eq, decide_eq_true_eq, Bool.and_eq_true, Bool.or_eq_true, Bool.not_eq_true', decide_eq_false_iff_not] at hqt41_1
            refine wp_skip ?_
            (try simp only [Exit.then, Exit.inBlock, ↓reduceIte, Nat.reduceEqDiff])
            refine hK11 _ _ ?_
            refine wp_seq_k (fun K14 hK14 => ?_)
            refine wp_region_lit ?_
            refine sqv hf (r_move rfl) rfl rfl rfl ?_; clear hf fa; intro fa hf
            refine sqv hf (r_move rfl) rfl rfl rfl ?_; clear hf fa; intro fa hf
            have hy4 : (groupsL)[(n - 1)]? = some (gAt (n - 1)) := (gAt_at (by omega))
            have hel4 := RdS.at (Row.rd (by intros; rfl) hrg) hy4
            obtain ⟨_, _, hab, hlr4, hel4⟩ := hel4
            cases hab
            refine sqv hf (r_ixa (sz := 6) (j := (n - 1)) rfl rfl Try.underlying167 (by kernel_rfl) (by omega) (by omega) rfl) rfl rfl rfl ?_; clear hf fa; intro fa hf
            refine sqv hf (r_loadA (cs := [(.int .i64 ((gAt (n - 1)).1)), (.string (gAt (n - 1)).2.1), (.int .i64 ((gAt (n - 1)).2.2.1)), (.string (gAt (n - 1)).2.2.2.1), (.string (gAt (n - 1)).2.2.2.2.1), (.bool (gAt (n - 1)).2.2.2.2.2.1)]) rfl Try.underlying146 rfl (by kernel_rfl) hel4) rfl rfl rfl ?_; clear hf fa; intro fa hf
            refine sqdt hf (d_alloc (z := (.agg #[(.int .i64 (0 : Int)), (.string ⟨#[]⟩), (.int .i64 (0 : Int)), (.string ⟨#[]⟩), (.string ⟨#[]⟩), (.bool false)])) (cs := #[(.int .i64 (0 : Int)), (.string ⟨#[]⟩), (.int .i64 (0 : Int)), (.string ⟨#[]⟩), (.string ⟨#[]⟩), (.bool false)]) (by kernel_rfl) rfl) rfl rfl rfl ?_; clear hf fa; rintro fa _ w6 ⟨b2, rfl, hle2, hk3, he4⟩ hf
            have hBb2 : w.heap.size ≤ b2 := Nat.le_trans hb.size hle2
            have : b1 < b2 := Nat.lt_of_lt_of_le (blk_lt hkb1) hle2
            have : rb1 < b2 := Nat.lt_of_lt_of_le (Row.lt hrg _ rfl).2 hle2
            replace hkb1 := blk_ext hkb1 he4
            replace hrg := Row.ext hrg he4
            replace hb := hb.trans (Below.mono he4 hb.size)
            refine sqn hf (d_storeK (T := 146) (v := (.agg #[(.int .i64 ((gAt (n - 1)).1)), (.string (gAt (n - 1)).2.1), (.int .i64 ((gAt (n - 1)).2.2.1)), (.string (gAt (n - 1)).2.2.2.1), (.string (gAt (n - 1)).2.2.2.2.1), (.bool (gAt (n - 1)).2.2.2.2.2.1)])) (cs := #[(.int .i64 (0 : Int)), (.string ⟨#[]⟩), (.int .i64 (0 : Int)), (.string ⟨#[]⟩), (.string ⟨#[]⟩), (.bool false)]) (cs' := #[(.int .i64 ((gAt (n - 1)).1)), (.string (gAt (n - 1)).2.1), (.int .i64 ((gAt (n - 1)).2.2.1)), (.string (gAt (n - 1)).2.2.2.1), (.string (gAt (n - 1)).2.2.2.2.1), (.bool (gAt (n - 1)).2.2.2.2.2.1)]) rfl rfl (by kernel_rfl) (by kernel_rfl) hk3 (by kernel_rfl) (by kernel_rfl)) rfl rfl ?_; clear hf fa; rintro fa _ w7 ⟨hk4, hg2⟩ hf
            replace hkb1 := blk_grown hkb1 hg2 (by omega)
            replace hrg := Row.grown hrg hg2 (fun e => by have e : rb1 = b2 := Option.some.inj e; omega)
            replace hb := hb.trans (grown_below hg2 hb.size hBb2)
            apply wpList_nil
            (try simp only [Exit.then, Exit.inBlock, ↓reduceIte, Nat.reduceEqDiff])
            refine hK14 _ _ ?_
            refine wp_seq_k (fun K15 hK15 => ?_)
            refine wp_region_lit ?_
            refine sqv hf (r_move rfl) rfl rfl rfl ?_; clear hf fa; intro fa hf
            refine sqv hf (r_move rfl) rfl rfl rfl ?_; clear hf fa; intro fa hf
            refine sqv hf (r_fa rfl Try.underlying146 (f := 0) (q := 0) rfl (by kernel_rfl) rfl) rfl rfl rfl ?_; clear hf fa; intro fa hf
            refine sqn hf (d_storeK (T := 146) (v := (.int .i64 ((op : Nat) : Int))) (cs := #[(.int .i64 ((gAt (n - 1)).1)), (.string (gAt (n - 1)).2.1), (.int .i64 ((gAt (n - 1)).2.2.1)), (.string (gAt (n - 1)).2.2.2.1), (.string (gAt (n - 1)).2.2.2.2.1), (.bool (gAt (n - 1)).2.2.2.2.2.1)]) (cs' := #[(.int .i64 ((op : Nat) : Int)), (.string (gAt (n - 1)).2.1), (.int .i64 ((gAt (n - 1)).2.2.1)), (.string (gAt (n - 1)).2.2.2.1), (.string (gAt (n - 1)).2.2.2.2.1), (.bool (gAt (n - 1)).2.2.2.2.2.1)]) rfl rfl (by kernel_rfl) (by kernel_rfl) hk4 (by kernel_rfl) (by kernel_rfl)) rfl rfl ?_; clear hf fa; rintro fa _ w8 ⟨hk5, hg3⟩ hf
            replace hkb1 := blk_grown hkb1 hg3 (by omega)
            replace hrg := Row.grown hrg hg3 (fun e => by have e : rb1 = b2 := Option.some.inj e; omega)
            replace hb := hb.trans (grown_below hg3 hb.size hBb2)
            refine sqv hf (r_fa rfl Try.underlying146 (f := 1) (q := 1) rfl (by kernel_rfl) rfl) rfl rfl rfl ?_; clear hf fa; intro fa hf
            refine sqn hf (d_storeK (T := 146) (v := (.string (wordP (gAt (n - 1)).2.1 (((op : Nat) : Int) - (gAt (n - 1)).1)).1)) (cs := #[(.int .i64 ((op : Nat) : Int)), (.string (gAt (n - 1)).2.1), (.int .i64 ((gAt (n - 1)).2.2.1)), (.string (gAt (n - 1)).2.2.2.1), (.string (gAt (n - 1)).2.2.2.2.1), (.bool (gAt (n - 1)).2.2.2.2.2.1)]) (cs' := #[(.int .i64 ((op : Nat) : Int)), (.string (wordP (gAt (n - 1)).2.1 (((op : Nat) : Int) - (gAt (n - 1)).1)).1), (.int .i64 ((gAt (n - 1)).2.2.1)), (.string (gAt (n - 1)).2.2.2.1), (.string (gAt (n - 1)).2.2.2.2.1), (.bool (gAt (n - 1)).2.2.2.2.2.1)]) rfl rfl (by kernel_rfl) (by kernel_rfl) hk5 (by kernel_rfl) (by kernel_rfl)) rfl rfl ?_; clear hf fa; rintro fa _ w9 ⟨hk6, hg4⟩ hf
            replace hkb1 := blk_grown hkb1 hg4 (by omega)
            replace hrg := Row.grown hrg hg4 (fun e => by have e : rb1 = b2 := Option.some.inj e; omega)
            replace hb := hb.trans (grown_below hg4 hb.size hBb2)
            apply wpList_nil
            (try simp only [Exit.then, Exit.inBlock, ↓reduceIte, Nat.reduceEqDiff])
            refine hK15 _ _ ?_
            refine wp_seq_k (fun K16 hK16 => ?_)
            refine wp_region_lit ?_
            refine sqv hf (r_loadA (cs := [(.int .i64 ((op : Nat) : Int)), (.string (wordP (gAt (n - 1)).2.1 (((op : Nat) : Int) - (gAt (n - 1)).1)).1), (.int .i64 ((gAt (n - 1)).2.2.1)), (.string (gAt (n - 1)).2.2.2.1), (.string (gAt (n - 1)).2.2.2.2.1), (.bool (gAt (n - 1)).2.2.2.2.2.1)]) rfl Try.underlying146 rfl (by kernel_rfl) (cellsAt_blk hk6)) rfl rfl rfl ?_; clear hf fa; intro fa hf
            refine sqn hf (d_storeK (T := 146) (v := (.agg #[(.int .i64 ((op : Nat) : Int)), (.string (wordP (gAt (n - 1)).2.1 (((op : Nat) : Int) - (gAt (n - 1)).1)).1), (.int .i64 ((gAt (n - 1)).2.2.1)), (.string (gAt (n - 1)).2.2.2.1), (.string (gAt (n - 1)).2.2.2.2.1), (.bool (gAt (n - 1)).2.2.2.2.2.1)])) (cs := #[(.int .i64 (0 : Int)), (.string ⟨#[]⟩), (.int .i64 (0 : Int)), (.string ⟨#[]⟩), (.string ⟨#[]⟩), (.bool false)]) (cs' := #[(.int .i64 ((op : Nat) : Int)), (.string (wordP (gAt (n - 1)).2.1 (((op : Nat) : Int) - (gAt (n - 1)).1)).1), (.int .i64 ((gAt (n - 1)).2.2.1)), (.string (gAt (n - 1)).2.2.2.1), (.string (gAt (n - 1)).2.2.2.2.1), (.bool (gAt (n - 1)).2.2.2.2.2.1)]) rfl rfl (by kernel_rfl) (by kernel_rfl) hkb1 (by kernel_rfl) (by kernel_rfl)) rfl rfl ?_; clear hf fa; rintro fa _ w10 ⟨hk7, hg5⟩ hf
            replace hk6 := blk_grown hk6 hg5 (by omega)
            replace hrg := Row.grown hrg hg5 (fun e => by have e : rb1 = b1 := Option.some.inj e; omega)
            replace hb := hb.trans (grown_below hg5 hb.size hBb1)
            refine sqv hf (r_assign rfl) rfl rfl rfl ?_; clear hf fa; intro fa hf
            apply wpList_nil
            (try simp only [Exit.then, Exit.inBlock, ↓reduceIte, Nat.reduceEqDiff])
            refine hK16 _ _ ?_
            refine wp_ret ?_
            (try simp only [Exit.then, Exit.inBlock])
            refine retCT hf rfl rfl hk7 Try.underlying146 rfl (by kernel_rfl) rfl ?_
            have hD : ofP op = ((((op : Nat) : Int), (wordP (gAt (n - 1)).2.1 (((op : Nat) : Int) - (gAt (n - 1)).1)).1, (gAt (n - 1)).2.2), true) := by rw [← hF, ofAux_step (n := n) (by omega), if_neg (by have h := hqt23_1; omega), if_pos (by have h := hqt41_1; simpa using h)]
            rw [hD]; exact ⟨rfl, hb⟩
    · have hqt14_1b := hqt14_1
      replace hqt14_1 := Bool.eq_false_iff.1 hqt14_1
      try simp only [ne_eq, decide_eq_true_eq, Bool.and_eq_true, Bool.or_eq_true, Bool.not_eq_true', decide_eq_false_iff_not] at hqt14_1
      refine wp_exit ?_
      (try simp only [Exit.then, Exit.inBlock, ↓reduceIte, Nat.reduceEqDiff])
      refine hK3 _ _ ?_
      refine wp_seq_k (fun K17 hK17 => ?_)
      refine wp_region_lit ?_
      refine sqv hf (r_build (vs := []) (cs := #[(.int .i64 (0 : Int)), (.string ⟨#[]⟩), (.int .i64 (0 : Int)), (.string ⟨#[]⟩), (.string ⟨#[]⟩), (.bool false)]) rfl (fun _ => by kernel_rfl)) rfl rfl rfl ?_; clear hf fa; intro fa hf
      refine sqn hf (d_storeK (T := 146) (v := (.agg #[(.int .i64 (0 : Int)), (.string ⟨#[]⟩), (.int .i64 (0 : Int)), (.string ⟨#[]⟩), (.string ⟨#[]⟩), (.bool false)])) (cs := #[(.int .i64 (0 : Int)), (.string ⟨#[]⟩), (.int .i64 (0 : Int)), (.string ⟨#[]⟩), (.string ⟨#[]⟩), (.bool false)]) (cs' := #[(.int .i64 (0 : Int)), (.string ⟨#[]⟩), (.int .i64 (0 : Int)), (.string ⟨#[]⟩), (.string ⟨#[]⟩), (.bool false)]) rfl rfl (by kernel_rfl) (by kernel_rfl) hkb1 (by kernel_rfl) (by kernel_rfl)) rfl rfl ?_; clear hf fa; rintro fa _ w11 ⟨hk8, hg6⟩ hf
      replace hrg := Row.grown hrg hg6 (Row.ne_base hrg (by omega))
      replace hb := hb.trans (grown_below hg6 hb.size hBb1)
      refine sqv hf (r_assign rfl) rfl rfl rfl ?_; clear hf fa; intro fa hf
      apply wpList_nil
      (try simp only [Exit.then, Exit.inBlock, ↓reduceIte, Nat.reduceEqDiff])
      refine hK17 _ _ ?_
      refine wp_ret ?_
      (try simp only [Exit.then, Exit.inBlock])
      refine retCT hf rfl rfl hk8 Try.underlying146 rfl (by kernel_rfl) rfl ?_
      have hD : ofP op = (zMGr, false) := by rw [← hF, show n = 0 by have h := hqt14_1; omega]; rfl
      rw [hD]; exact ⟨rfl, hb⟩
end Go.Proofs.Ytmcmickgllffoaa
